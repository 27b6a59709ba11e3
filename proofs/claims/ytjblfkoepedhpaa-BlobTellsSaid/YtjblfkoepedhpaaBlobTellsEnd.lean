/-
  The law BlobTells: whatever is handed in, each function of package blob returns what the reference returns.
-/
import Derived.Test.YtjblfkoepedhpaaBlobTells2
import Derived.Test.YtjblfkoepedhpaaBlobTells3
import Derived.ChangeMaps5
namespace Go.Proofs.Ytjblfkoepedhpaa
open Go.ChangeShapes Go.WideShapes Go.ChangeAt Go.RowKit Go.Deep

theorem blobTells_walk (A : Option Addr) (c : Nat) (l : List BlobT) (t : ByteArray) (i : Int) (W : World) (hr : Row W W.heap.size A (flat blobC l)) (hlc : l.length ≤ c) (hm : c ≤ maxLen) (hA : A = none → c = 0) (htm : t.size ≤ maxLen) :
    Calls Try.prog 14 #[.slice A l.length c, .string t, .int .i64 i] W fun e w' => e = .returned (.bool true) ∧ Below W.heap.size W w' := by
  by_cases h : storeChk l = 0
  · by_cases hi : i < 0 ∨ (l.length : Int) ≤ i ∨ (l.getD i.toNat bnil).2 = 0
    · exact blobTells_none A c l t i (heldE_none h hi) hi W hr hlc hm hA h htm
    · obtain ⟨k, rfl⟩ := Int.eq_ofNat_of_zero_le (show 0 ≤ i by omega)
      rw [Int.toNat_natCast] at hi
      exact blobTells_used A c l t k (by omega) (by omega) W hr hlc hm hA h htm
  · exact blobTells_bad A c l t i _ W hr hlc hm rfl h

set_option maxRecDepth 100000 in
theorem blobTells_called : Called 14 Try.f14 := by
  intro H enc W base args ds p hval hA hsz
  rw [Try.params14] at hA hval
  obtain ⟨v0, v1, v2, d0, d1, d2, p0, p1, p2, rfl, rfl, rfl, h0, h1, h2⟩ := trodAll_three hA
  obtain ⟨i, rfl, rfl, rfl, w2⟩ := open_int Try.underlying3 (hval 2 3 v2 rfl rfl) h2
  obtain ⟨t, rfl, rfl, rfl, ht⟩ := Go.ChangeMaps.open_string Try.underlying9 (hval 1 9 v1 rfl rfl) h1
  obtain ⟨A, n, c, rfl⟩ := okWide_slice Try.underlying124 (hval 0 124 v0 rfl rfl)
  obtain ⟨fuel, hf⟩ := h0
  obtain ⟨A', c', l, hcs, hr, hlc, hm, hA, _, _⟩ := open_rowOf blobC (fun _ => True) (size := 2) Try.underlying124 (by kernel_rfl) blobC_len (by decide) (fun n cs y hy => by
    obtain ⟨hl, hfs⟩ := open_fields Try.underlying134 (by kernel_rfl) (by kernel_rfl) hy
    obtain ⟨u0, y0, k0, hu0, ht0⟩ := hfs 0 _ rfl
    obtain ⟨u1, y1, k1, hu1, ht1⟩ := hfs 1 _ rfl
    obtain ⟨n0, e0, _⟩ := DataW.trod_string Try.underlying9 ht0
    obtain ⟨n1, e1, _⟩ := DataW.trod_int Try.underlying3 ht1
    injection e0 with e0
    injection e1 with e1
    subst e0 e1
    refine ⟨(n0, n1), ?_, trivial⟩
    match cs, hl with
    | [a, b], _ =>
      simp at hu0 hu1
      subst hu0 hu1
      rfl) hf
  simp [Value.cells] at hcs
  obtain ⟨rfl, rfl, rfl⟩ := hcs
  exact blobTells_walk A c l t i W hr hlc hm hA ht

set_option maxRecDepth 100000 in
theorem blobTells_lifted (os : Os) (started : os.Started) (H : Type) (enc : TypeId × Value → H) :
    ReturnsInHanded {} Try.checked os 14 .any (Rows.blobTellsSpec.pre6 enc Try.prog Try.f14 Rows.blobTellsRow.domain false) (Rows.blobTellsSpec.post enc Try.prog Try.f14 false true false false) :=
  law_lift started (by kernel_rfl) Try.func14
    (ChangeSpec.witness6 (enc := enc) (C := Try.checked) false ⟨#[], #[.slice none 0 0, .string ⟨#[]⟩, .int .i64 0], []⟩ 8 (by kernel_rfl) (by kernel_rfl) (by kernel_rfl) (by kernel_rfl))
    rfl rfl (by kernel_rfl) (by kernel_rfl) (fun l hl => by
      rw [Try.params14] at hl
      match l, hl with
      | [d0, d1, d2], _ => rfl) blobTells_called

theorem blobTells_over : Rows.blobTellsRow.holds Try.pinned (OpenSpec.ofChange Rows.blobTellsSpec) :=
  OpenClaim.holds_of_wide 14 Try.f14 rfl rfl rfl rfl rfl rfl rfl ⟨rfl, rfl, rfl, rfl, rfl⟩ rfl rfl rfl rfl rfl (by kernel_rfl) Try.func14 (by kernel_rfl)
    (of_decide_eq_true (by kernel_rfl)) (by unfold Func.isWrapper; first | (rw [if_pos (by decide +kernel)]; kernel_rfl) | (rw [if_neg (by decide +kernel)]; exact ⟨rfl, rfl⟩))
    (fun os started H enc _ => blobTells_lifted os started H enc)

theorem blobTells_holds : Rows.BlobTellsSaid := blobTells_over
end Go.Proofs.Ytjblfkoepedhpaa
