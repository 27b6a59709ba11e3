
/-
  PickTells: for arbitrary arguments (patterns and values of at most 500 parts, nested at most 60 deep), Fits, First and Choose return what the reference returns. For every input of bulk at most 1048576 (the given bound of the second form).
-/
import Derived.Test.YtdjahlkjfpbifaaPickTells
import Derived.Test.YtdjahlkjfpbifaaPkOpen
namespace Go.Proofs.Ytdjahlkjfpbifaa
open Go.ChangeShapes Go.WideShapes Go.ChangeAt Go.RowKit Go.Deep

section
variable {H : Type} {enc : TypeId × Value → H} {W : World}
set_option maxRecDepth 100000 in
theorem open_valP {r : Reach} {b0 : Nat} {v : Value} {d : DataW H} {ps : List MemPlace} (hv : Value.okWide Try.prog W r b0 28 v) (h : DataW.Trod enc Try.prog W 0 (fun _ => true) true 28 v d ps) (hx : Sized Try.prog 28 d) :
    ∃ (n : Nat) (x : VC) (t : Val), v = valV x ∧ VIn W (· < W.heap.size) n x t := by
  obtain ⟨cs, rfl, hsz⟩ := okWide_struct Try.underlying28 hv
  obtain ⟨fuel, hf⟩ := h
  obtain ⟨y, hy, t, ht⟩ := open_val _ _ _ hf hx
  refine ⟨fuel, y, t, ?_, ht⟩
  have : cs = (valC y).toArray := by
    rw [← hy]
    simp [Value.cells]
  rw [this]
  rfl
set_option maxRecDepth 100000 in
theorem open_patsV {r : Reach} {b0 : Nat} {v : Value} {d : DataW H} {ps : List MemPlace} (hv : Value.okWide Try.prog W r b0 25 v) (h : DataW.Trod enc Try.prog W 0 (fun _ => true) true 25 v d ps) (hx : Sized Try.prog 25 d) :
    ∃ (n : Nat) (A : Option Addr) (c : Nat) (l : List VC) (vs : List Val), v = .slice A l.length c ∧ valRow W (· < W.heap.size) n A c l vs ∧ Val.sizes vs ≤ Rows.uptoBulk d := by
  obtain ⟨A0, n0, c0, rfl⟩ := okWide_slice Try.underlying25 hv
  obtain ⟨fuel, hf⟩ := h
  obtain ⟨A, c, l, vs, hcs, hr, hb⟩ := open_pats _ _ _ hf hx
  simp [Value.cells] at hcs
  obtain ⟨rfl, rfl, rfl⟩ := hcs
  exact ⟨fuel, A0, c0, l, vs, rfl, hr, hb⟩
end
theorem size_mem : ∀ (l : List Val) (p : Val), p ∈ l → p.size ≤ Val.sizes l
  | x :: r, p, h => by
    simp only [Val.sizes]
    rcases List.mem_cons.1 h with rfl | h
    · omega
    · have := size_mem r p h
      omega
theorem valRow.more {w : World} {S : Nat → Prop} {n m : Nat} {A : Option Addr} {c : Nat} {l : List VC} {vs : List Val} (hm : n ≤ m) (h : valRow w S n A c l vs) : valRow w S m A c l vs :=
  ⟨h.1, h.2.1, fun i hi => (h.2.2.1 i hi).more hm, h.2.2.2⟩

set_option maxRecDepth 100000 in
theorem pickTells_called : CalledUpto 3 Try.f3 := by
  intro H enc W base args ds p hval hA hsz hbulk
  rw [Try.params3] at hA hval hsz
  obtain ⟨v0, v1, v2, d0, d1, d2, p0, p1, p2, rfl, rfl, rfl, h0, h1, h2⟩ := trodAll_three hA
  simp only [Rows.uptoBulkAll] at hbulk
  obtain ⟨n, A, c, l, ts, at1, rfl, hr, _⟩ := open_box (hval 0 24 v0 rfl rfl) h0 (sized_each hsz (j := 0) rfl rfl)
  obtain ⟨m, Ap, cp, lp, ps, rfl, hp, hb⟩ := open_patsV (hval 1 25 v1 rfl rfl) h1 (sized_each hsz (j := 1) rfl rfl)
  obtain ⟨k, x, t, rfl, hx⟩ := open_valP (hval 2 28 v2 rfl rfl) h2 (sized_each hsz (j := 2) rfl rfl)
  exact pickTells_walk (n + m + k + 1) (by omega) A c l ts at1 Ap cp lp ps x t W (hr.more (by omega)) (hp.more (by omega)) (hx.more (by omega)) (fun q hq => by have := size_mem ps q hq; omega)

set_option maxRecDepth 100000 in
theorem pickTells_lifted (os : Os) (started : os.Started) (H : Type) (enc : TypeId × Value → H) (F : Stop.Interp) :
    ReturnsInHanded {} Try.checked os 3 .any ((Rows.OpenSpec.upto Rows.pickTellsSpec).pre6 enc Try.prog Try.f3 Rows.pickTellsUptoRow.domain false) (((Rows.OpenSpec.upto Rows.pickTellsSpec).at F).post enc Try.prog Try.f3 false true false false) :=
  law_lift_upto started (by kernel_rfl) Try.func3
    (OpenSpec.witness (enc := enc) (C := Try.checked) (s := Rows.OpenSpec.upto Rows.pickTellsSpec) (k := Rows.uptoSmall) rfl false ⟨#[], #[.agg #[.slice none 0 0, .int .i64 0], .slice none 0 0, .agg #[.int .i64 0, .int .i64 0, .string ⟨#[]⟩, .slice none 0 0]], []⟩ 8 (by kernel_rfl) (by kernel_rfl) (by kernel_rfl)
      (x := ([.agg [.nil, .lit (.int .i64 0)], .nil, .agg [.lit (.int .i64 0), .lit (.int .i64 0), .lit (.string []), .nil]], [], [])) (by kernel_rfl) rfl (by kernel_rfl))
    rfl rfl (by kernel_rfl) (by kernel_rfl) (fun l hl => by
      rw [Try.params3] at hl
      match l, hl with
      | [d0, d1, d2], _ => rfl) pickTells_called

theorem pickTells_holds : Rows.PickTellsUptoSaid :=
  OpenClaim.holds_of_cond 3 Try.f3 rfl rfl rfl rfl rfl rfl rfl ⟨rfl, rfl, rfl, rfl, rfl⟩ rfl rfl rfl rfl rfl (by kernel_rfl) Try.func3 (by kernel_rfl)
    (of_decide_eq_true (by kernel_rfl)) (by unfold Func.isWrapper; first | (rw [if_pos (by decide +kernel)]; kernel_rfl) | (rw [if_neg (by decide +kernel)]; exact ⟨rfl, rfl⟩))
    (fun os started H enc _ F => pickTells_lifted os started H enc F)
end Go.Proofs.Ytdjahlkjfpbifaa
