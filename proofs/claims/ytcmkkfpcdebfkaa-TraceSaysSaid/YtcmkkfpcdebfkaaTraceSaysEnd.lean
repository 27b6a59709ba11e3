/-
  TraceSays: Pack and Unpack of package trace return the specified results. For every input, no condition.
-/
import Derived.Test.YtcmkkfpcdebfkaaTraceSays
import Derived.Test.YtcmkkfpcdebfkaaEvOpen
namespace Go.Proofs.Ytcmkkfpcdebfkaa
open Go.ChangeShapes Go.WideShapes Go.ChangeAt Go.RowKit Go.Joins Go.Deep

section
variable {H : Type} {enc : TypeId × Value → H} {W : World}
theorem u8_of_wf {n : Int} (h : (Lit.int .u8 n).wf = true) : ∃ b : UInt8, n = (b.toNat : Int) := by
  have hn : 0 ≤ n ∧ n < 256 := by
    simp [Lit.wf, IntKind.min, IntKind.max, IntKind.signed, IntKind.bits] at h
    omega
  exact ⟨UInt8.ofNat n.toNat, by rw [ofNat_toNat (by omega)]; omega⟩
theorem flat_by8 : ∀ l : List UInt8, flat (fun b : UInt8 => [Value.int .u8 (b.toNat : Int)]) l = by8 l
  | [] => rfl
  | x :: l => by
    have ih := flat_by8 l
    unfold flat by8 at *
    rw [List.flatMap_cons, ih]
    rfl
set_option maxRecDepth 100000 in
theorem open_by {base : Nat} {v : Value} {d : DataW H} {p : List MemPlace} (hv : Value.okWide Try.prog W .any base 137 v) (h : DataW.Trod enc Try.prog W 0 (fun _ => true) true 137 v d p) :
    ∃ (A : Option Addr) (c : Nat) (bs : List UInt8), v = .slice A bs.length c ∧ ByIn W A c bs := by
  obtain ⟨A0, n0, c0, rfl⟩ := okWide_slice Try.underlying137 hv
  obtain ⟨fuel, hf⟩ := h
  obtain ⟨A, c, l, hcs, hr, hlc, hm, _, _, _⟩ := open_rowOf (fun b : UInt8 => [Value.int .u8 (b.toNat : Int)]) (fun _ => True) (size := 1) Try.underlying137 (by kernel_rfl) (fun _ => rfl) (by decide) (fun n cs y hy => by
    obtain ⟨n0, e0, _, w0⟩ := DataW.trod_int Try.underlying5 hy
    obtain ⟨b, rfl⟩ := u8_of_wf w0
    exact ⟨b, e0, trivial⟩) hf
  simp [Value.cells] at hcs
  obtain ⟨rfl, rfl, rfl⟩ := hcs
  rw [flat_by8] at hr
  exact ⟨_, _, l, rfl, ⟨hr, hlc, hm⟩⟩
end

set_option maxRecDepth 100000 in
theorem traceSays_called : Called 9 Try.f9 := by
  intro H enc W base args ds p hval hA hsz
  rw [Try.params9] at hA hval
  obtain ⟨v0, v1, d0, d1, p0, p1, rfl, rfl, rfl, h0, h1⟩ := trodAll_two hA
  obtain ⟨A, c, l, rfl, hin, _⟩ := open_events (hval 0 22 v0 rfl rfl) h0
  obtain ⟨B, d, bs, rfl, hb⟩ := open_by (hval 1 137 v1 rfl rfl) h1
  exact traceSays_walk A B c d l bs W hin hb

set_option maxRecDepth 100000 in
theorem traceSays_lifted (os : Os) (started : os.Started) (H : Type) (enc : TypeId × Value → H) :
    ReturnsInHanded {} Try.checked os 9 .any (Rows.traceSaysSpec.pre6 enc Try.prog Try.f9 Rows.traceSaysRow.domain false) (Rows.traceSaysSpec.post enc Try.prog Try.f9 false true false false) :=
  law_lift started (by kernel_rfl) Try.func9
    (ChangeSpec.witness6 (enc := enc) (C := Try.checked) false ⟨#[], #[.slice none 0 0, .slice none 0 0], []⟩ 8 (by kernel_rfl) (by kernel_rfl) (by kernel_rfl) (by kernel_rfl))
    rfl rfl (by kernel_rfl) (by kernel_rfl) (fun l hl => by
      rw [Try.params9] at hl
      match l, hl with
      | [d0, d1], _ => rfl) traceSays_called

theorem traceSays_over : Rows.traceSaysRow.holds Try.pinned (OpenSpec.ofChange Rows.traceSaysSpec) :=
  OpenClaim.holds_of_wide 9 Try.f9 rfl rfl rfl rfl rfl rfl rfl ⟨rfl, rfl, rfl, rfl, rfl⟩ rfl rfl rfl rfl rfl (by kernel_rfl) Try.func9 (by kernel_rfl)
    (of_decide_eq_true (by kernel_rfl)) (by unfold Func.isWrapper; first | (rw [if_pos (by decide +kernel)]; kernel_rfl) | (rw [if_neg (by decide +kernel)]; exact ⟨rfl, rfl⟩))
    (fun os started H enc _ => traceSays_lifted os started H enc)

theorem traceSays_holds : Rows.TraceSaysSaid := traceSays_over
end Go.Proofs.Ytcmkkfpcdebfkaa
