
/-
  TimerTells: for arbitrary arguments, every function of package timer returns what the reference returns. For every input, no condition.
-/
import Derived.Test.YtdjahlkjfpbifaaTimerTells
import Derived.Test.YtdjahlkjfpbifaaOpen2
import Derived.Lib.SmallJoins
namespace Go.Proofs.Ytdjahlkjfpbifaa
open Go.ChangeShapes Go.WideShapes Go.ChangeAt Go.RowKit Go.Joins Go.Deep

section
variable {H : Type} {enc : TypeId × Value → H} {W : World}
set_option maxRecDepth 100000 in
theorem open_dues {t : TypeId} (ht : Try.prog.underlying t = some (.slice 139)) {fuel : Nat} {cs : List Value} {x : DataW H × List MemPlace} (h : DataW.trod enc Try.prog W 0 (fun _ => true) true fuel t cs = some x) :
    ∃ (A : Option Addr) (c : Nat) (l : List Du), cs = [.slice A l.length c] ∧ Row W W.heap.size A (flat duC l) ∧ l.length ≤ c ∧ c ≤ maxLen ∧ (A = none → c = 0) ∧ (∀ x ∈ l, True) ∧
      ((x.1 = .nil ∧ l = [] ∧ c = 0) ∨ ∃ el sp, x.1 = .slice el sp ∧ el.length = l.length ∧ el.length + sp.length = c) :=
  open_rowOf duC (fun _ => True) (size := 2) ht (by kernel_rfl) duC_len (by decide) (fun n cs y hy => by
    obtain ⟨hl, hfs⟩ := open_fields Try.underlying139 (by kernel_rfl) (by kernel_rfl) hy
    obtain ⟨u0, y0, k0, hu0, ht0⟩ := hfs 0 _ rfl
    obtain ⟨u1, y1, k1, hu1, ht1⟩ := hfs 1 _ rfl
    obtain ⟨n0, e0, _⟩ := DataW.trod_int Try.underlying3 ht0
    obtain ⟨n1, e1, _⟩ := DataW.trod_int Try.underlying3 ht1
    injection e0 with e0
    injection e1 with e1
    subst e0 e1
    refine ⟨⟨n0, n1⟩, ?_, trivial⟩
    match cs, hl with
    | [a, b], _ =>
      simp at hu0 hu1
      subst hu0 hu1
      rfl) h
set_option maxRecDepth 100000 in
theorem open_timers {r : Reach} {b0 : Nat} {v : Value} {d : DataW H} {ps : List MemPlace} (hv : Value.okWide Try.prog W r b0 128 v) (h : DataW.Trod enc Try.prog W 0 (fun _ => true) true 128 v d ps) :
    ∃ (now : Int) (A : Option Addr) (c : Nat) (l : List Du), v = .agg #[.int .i64 now, .slice A l.length c] ∧ DuIn W A l ∧ l.length ≤ c ∧ (A = none → c = 0) := by
  obtain ⟨cs, rfl, hsz⟩ := okWide_struct Try.underlying128 hv
  obtain ⟨fuel, hf⟩ := h
  obtain ⟨ys, k, rfl, hd, hl, hyl, hg⟩ := DataW.trod_struct Try.underlying128 hf
  rw [show Try.prog.cellsOf 128 = 2 by kernel_rfl] at hsz
  obtain ⟨cs⟩ := cs
  match ys, hyl with
  | [y0, y1], _ =>
  match cs, hsz with
  | [c0, c1], _ =>
  have e0 := hg 0 _ rfl
  have e1 := hg 1 _ rfl
  simp only [Value.cells, List.getElem?_cons_zero, List.getElem?_cons_succ] at e0 e1
  obtain ⟨n1, h0, _, _⟩ := DataW.trod_int Try.underlying3 e0
  obtain ⟨A, c, l, h1, hr, hlc, hm, hA, _⟩ := open_dues Try.underlying126 e1
  injection h0 with h0
  injection h1 with h1
  subst h0 h1
  exact ⟨n1, A, c, l, rfl, ⟨hr, Nat.le_trans hlc hm⟩, hlc, hA⟩
end

set_option maxRecDepth 100000 in
theorem timerTells_called : Called 8 Try.f8 := by
  intro H enc W base args ds p hval hA hsz
  rw [Try.params8] at hA hval hsz
  obtain ⟨v0, v1, v2, d0, d1, d2, p0, p1, p2, rfl, rfl, rfl, h0, h1, h2⟩ := trodAll_three hA
  obtain ⟨id, rfl, rfl, rfl, w1⟩ := open_int Try.underlying3 (hval 1 3 v1 rfl rfl) h1
  obtain ⟨ticks, rfl, rfl, rfl, w2⟩ := open_int Try.underlying3 (hval 2 3 v2 rfl rfl) h2
  obtain ⟨now, A, c, l, rfl, hr, hlc, hA'⟩ := open_timers (hval 0 128 v0 rfl rfl) h0
  exact timerTells_walk now A c l id ticks W hr hlc hA'

set_option maxRecDepth 100000 in
theorem timerTells_lifted (os : Os) (started : os.Started) (H : Type) (enc : TypeId × Value → H) :
    ReturnsInHanded {} Try.checked os 8 .any (Rows.timerTellsSpec.pre6 enc Try.prog Try.f8 Rows.timerTellsRow.domain false) (Rows.timerTellsSpec.post enc Try.prog Try.f8 false true false false) :=
  law_lift started (by kernel_rfl) Try.func8
    (ChangeSpec.witness6 (enc := enc) (C := Try.checked) false ⟨#[], #[.agg #[.int .i64 0, .slice none 0 0], .int .i64 0, .int .i64 0], []⟩ 8 (by kernel_rfl) (by kernel_rfl) (by kernel_rfl) (by kernel_rfl))
    rfl rfl (by kernel_rfl) (by kernel_rfl) (fun l hl => by
      rw [Try.params8] at hl
      match l, hl with
      | [d0, d1, d2], _ => rfl) timerTells_called

theorem timerTells_over : Rows.timerTellsRow.holds Try.pinned (OpenSpec.ofChange Rows.timerTellsSpec) :=
  OpenClaim.holds_of_wide 8 Try.f8 rfl rfl rfl rfl rfl rfl rfl ⟨rfl, rfl, rfl, rfl, rfl⟩ rfl rfl rfl rfl rfl (by kernel_rfl) Try.func8 (by kernel_rfl)
    (of_decide_eq_true (by kernel_rfl)) (by unfold Func.isWrapper; first | (rw [if_pos (by decide +kernel)]; kernel_rfl) | (rw [if_neg (by decide +kernel)]; exact ⟨rfl, rfl⟩))
    (fun os started H enc _ => timerTells_lifted os started H enc)

theorem timerTells_holds : Rows.TimerTellsSaid := timerTells_over
end Go.Proofs.Ytdjahlkjfpbifaa
