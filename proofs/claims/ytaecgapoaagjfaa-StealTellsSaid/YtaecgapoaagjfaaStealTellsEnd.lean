/-
  StealTells: for arbitrary arguments, every function of package steal returns what the reference returns.
-/
import Derived.Test.YtaecgapoaagjfaaStealTells
import Derived.Lib.SmallJoins
namespace Go.Proofs.Ytaecgapoaagjfaa
open Go.ChangeShapes Go.WideShapes Go.ChangeAt Go.RowKit Go.Joins Go.Deep

theorem flat_ints (l : List Int) : flat (fun v : Int => [Value.int .i64 v]) l = ints l := by
  unfold flat ints
  induction l with
  | nil => rfl
  | cons a l ih => simp; exact ih
theorem bytes_intS : Try.prog.bytesOf 3 = 8 := by kernel_rfl
theorem bytes_lnS : Try.prog.bytesOf 64 = 24 := by kernel_rfl
section
variable {H : Type} {enc : TypeId × Value → H} {W : World}
set_option maxRecDepth 100000 in
theorem open_line (n : Nat) (cs : List Value) (y : DataW H × List MemPlace) (h : DataW.trod enc Try.prog W 0 (fun _ => true) true n 64 cs = some y) (hs : Sized Try.prog 64 y.1) : ∃ x : BC, cs = lnC x ∧ ∃ xs, IIn W (· < W.heap.size) 0 x xs := by
  obtain ⟨A, c, l, hcs, hr, hlc, hm, hA, hG, hby⟩ := open_rowDeep (fun v : Int => [Value.int .i64 v]) (fun v => I64 v) (size := 1) Try.underlying64 (by kernel_rfl) (fun _ => rfl) (by decide) (fun n _ cs y hy _ => by
    obtain ⟨v, e, _, hwf⟩ := DataW.trod_int Try.underlying3 hy
    exact ⟨v, e, I64.of_wf hwf⟩) h hs
  rw [flat_ints] at hr
  rw [bytes_intS] at hby
  simp only [reachBytes] at hby
  exact ⟨⟨A, l.length, c⟩, hcs, l, rfl, hr, hlc, hm, hA, hG, by omega⟩
end

set_option maxRecDepth 100000 in
theorem stealTells_called : Called 13 Try.f13 := by
  intro H enc W base args ds p hval hA hsz
  rw [Try.params13] at hA hval hsz
  obtain ⟨v0, v1, v2, v3, d0, d1, d2, d3, p0, p1, p2, p3, rfl, rfl, rfl, h0, h1, h2, h3⟩ := trodAll_four hA
  obtain ⟨cpu, rfl, rfl, rfl, w1⟩ := open_int Try.underlying3 (hval 1 3 v1 rfl rfl) h1
  obtain ⟨task, rfl, rfl, rfl, w2⟩ := open_int Try.underlying3 (hval 2 3 v2 rfl rfl) h2
  obtain ⟨B, cB, turns, rfl, hrt, hlt, hmt, _, hdt⟩ := open_intRow Try.underlying64 Try.underlying3 (by kernel_rfl) (hval 3 64 v3 rfl rfl) h3
  obtain ⟨A, n, c, rfl⟩ := okWide_slice Try.underlying235 (hval 0 235 v0 rfl rfl)
  obtain ⟨fuel, hf⟩ := h0
  obtain ⟨A', c', l, hcs, hr, hlc, hm, hAn, hG, hby⟩ := open_rowDeep lnC (fun x => ∃ xs, IIn W (· < W.heap.size) 0 x xs) (size := 1) Try.underlying235 (by kernel_rfl) lnC_len (by decide) (fun n _ cs y hy hs => open_line n cs y hy hs) hf (sized_each hsz (j := 0) rfl rfl)
  simp [Value.cells] at hcs
  obtain ⟨rfl, rfl, rfl⟩ := hcs
  rw [bytes_lnS] at hby
  obtain ⟨vs, hvl, hvs⟩ := choose_list (fun i (xs : List Int) => IIn W (· < W.heap.size) 0 (l.getD i bc0) xs) l.length (fun i hi => hG _ (getD_mem bc0 hi))
  refine stealTells_walk A B c cB l vs cpu task turns W ⟨hvl.symm, hr, fun i hi => hvs i _ (getD_some [] (by omega)), hlc, hm, hAn, ?_⟩ hrt ?_ (I64.of_wf w2)
  · have : l.length * 24 ≤ c * 24 := Nat.mul_le_mul_right _ hlc
    omega
  · rcases hdt with ⟨_, rfl, _⟩ | ⟨el, sp, rfl, e1, e2⟩
    · simp
    · have := sized_slice hsz (j := 3) (t := 64) (e := 3) rfl rfl Try.underlying64
      rw [bytes_intS] at this
      simp only [reachBytes] at this
      omega

set_option maxRecDepth 100000 in
theorem stealTells_lifted (os : Os) (started : os.Started) (H : Type) (enc : TypeId × Value → H) :
    ReturnsInHanded {} Try.checked os 13 .any (Rows.stealTellsSpec.pre6 enc Try.prog Try.f13 Rows.stealTellsRow.domain false) (Rows.stealTellsSpec.post enc Try.prog Try.f13 false true false false) :=
  law_lift started (by kernel_rfl) Try.func13
    (ChangeSpec.witness6 (enc := enc) (C := Try.checked) false ⟨#[], #[.slice none 0 0, .int .i64 0, .int .i64 0, .slice none 0 0], []⟩ 8 (by kernel_rfl) (by kernel_rfl) (by kernel_rfl) (by kernel_rfl))
    rfl rfl (by kernel_rfl) (by kernel_rfl) (fun l hl => by
      rw [Try.params13] at hl
      match l, hl with
      | [d0, d1, d2, d3], _ => rfl) stealTells_called

theorem stealTells_over : Rows.stealTellsRow.holds Try.pinned (OpenSpec.ofChange Rows.stealTellsSpec) :=
  OpenClaim.holds_of_wide 13 Try.f13 rfl rfl rfl rfl rfl rfl rfl ⟨rfl, rfl, rfl, rfl, rfl⟩ rfl rfl rfl rfl rfl (by kernel_rfl) Try.func13 (by kernel_rfl)
    (of_decide_eq_true (by kernel_rfl)) (by unfold Func.isWrapper; first | (rw [if_pos (by decide +kernel)]; kernel_rfl) | (rw [if_neg (by decide +kernel)]; exact ⟨rfl, rfl⟩))
    (fun os started H enc _ => stealTells_lifted os started H enc)

theorem stealTells_holds : Rows.StealTellsSaid := stealTells_over
end Go.Proofs.Ytaecgapoaagjfaa
