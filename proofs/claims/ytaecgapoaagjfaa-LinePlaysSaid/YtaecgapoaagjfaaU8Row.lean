/-
  Slices of byte: what they read as, and the library's functions over them.
-/
import Derived.Test.YtaecgapoaagjfaaLineDef
import Derived.Laws.StructEq
namespace Go.Proofs.Ytaecgapoaagjfaa
open Go.RowKit

def u8C (x : UInt8) : List Value := [.int .u8 (x.toNat : Int)]
def u8V (x : UInt8) : Value := .agg #[.int .u8 (x.toNat : Int)]
theorem u8C_len (x : UInt8) : (u8C x).length = 1 := rfl
theorem u8_info : (Try.prog.info? 5).map (fun i => (i.size, i.bytes)) = some (1, 1) := by kernel_rfl
theorem u8_zero : ((Try.prog.info? 5).bind (·.zero)).map (fun z => z.cells.size) = some 1 := by kernel_rfl
theorem u8_parts : ∃ i z, Try.prog.info? 5 = some i ∧ i.zero = some z ∧ i.size = 1 ∧ i.bytes = 1 ∧ z.cells.size = 1 := by
  have h1 := u8_info
  have h2 := u8_zero
  cases hi : Try.prog.info? 5 with
  | none => rw [hi] at h1; cases h1
  | some i =>
    rw [hi] at h1 h2
    simp only [Option.map_some, Option.some.injEq, Prod.mk.injEq, Option.bind_some] at h1 h2
    cases hz : i.zero with
    | none => rw [hz] at h2; cases h2
    | some z =>
      rw [hz] at h2
      simp only [Option.map_some, Option.some.injEq] at h2
      exact ⟨i, z, rfl, hz, h1.1, h1.2, h2⟩
theorem u8_one (x : UInt8) : ∀ u ∈ u8C x, u.oneCell' = true := by
  intro u hu
  simp only [u8C, List.mem_cons, List.not_mem_nil, or_false] at hu
  rcases hu with rfl <;> rfl
theorem u8_one_all (l : List (UInt8)) : ∀ u ∈ flat u8C l, u.oneCell' = true := by
  intro u hu
  simp only [flat, List.mem_flatMap] at hu
  obtain ⟨x, _, hx⟩ := hu
  exact u8_one x u hx
/-- Element i's cells. -/
theorem Row.u8 {w : World} {B : Nat} {A : Option Addr} {l : List (UInt8)} (h : Row w B A (flat u8C l)) {i : Nat} (hi : i < l.length) (d : UInt8) :
    ∃ b o, A = some ⟨b, o, none⟩ ∧ b < B
      ∧ w.cell? ⟨b, o + i * 1, none⟩ = some (.int .u8 ((l.getD i d).toNat : Int))
    := by
  obtain ⟨b, o, e, hb, hc⟩ := Row.elem u8C_len (by decide) h (getD_some d hi)
  exact ⟨b, o, e, hb, hc 0 _ rfl⟩

set_option maxRecDepth 100000 in
set_option maxHeartbeats 400000 in
theorem clone_u8 (A : Option Addr) (c : Nat) (xs : List (UInt8)) (B : Nat) (w : World) (hr : Row w B A (flat u8C xs)) (hA : A = none → c = 0) (hm : xs.length * 1 ≤ 140737488355328) :
    Calls Try.prog 166 #[.slice A xs.length c] w fun e w' => ∃ v, e = .returned v ∧ w'.ownsRow w.heap.size 5 1 v xs.length (flat u8C xs) ∧ Below w.heap.size w w' := by
  rcases A with _ | ad
  · obtain rfl := hA rfl
    have hx : xs = [] := by
      rcases xs with _ | ⟨x, r⟩
      · rfl
      · obtain ⟨b, o, h, _⟩ := hr (by rw [flat_len u8C_len]; simp)
        cases h
    subst hx
    have he := fun w => Lib.run_eql_slice_nil (P := Try.prog) w 80 5 none 0 0 0 0 Try.underlying80
    go_enter Try.func166, Try.ntmps166
    go_wp2_with fail
    go_ret
    exact ⟨_, rfl, World.ownsRow_nil _ _ _ _, Below.refl _ _⟩
  · have he := fun w => Lib.run_eql_slice_nil (P := Try.prog) w 80 5 (some ad) xs.length c 0 0 Try.underlying80
    obtain ⟨i0, z0, hi0, hz0, hz1, hz2, hz3⟩ := u8_parts
    have hnews : ∀ j u, (flat u8C xs)[j]? = some u → (w.alloc (.cells ⟨[]⟩ 5)).cell? (ad.add j) = some u := by
      intro j u hu
      have hj : j < (flat u8C xs).length := (List.getElem?_eq_some_iff.1 hu).1
      obtain ⟨b, o, e, _, hc⟩ := hr (by omega)
      injection e with e
      subst e
      have h1 := hc j u hu
      rw [addr_add, World.cell?_alloc_lt w _ ⟨b, o + j, none⟩ (lt_of_cell h1)]
      exact h1
    have HN := Lib.hid hnews
    have HO := Lib.hid (u8_one_all xs)
    have hown : (w.alloc (.cells ⟨[]⟩ 5)).ownsRow w.heap.size 5 1 (.slice (some ⟨w.heap.size, 0, none⟩) 0 0) 0 [] := World.ownsRow_lit w ⟨[]⟩ 0 (Nat.le_refl _) (Nat.zero_le _) rfl
    have HW := Lib.hid hown
    have HB := Lib.hid (show Below w.heap.size w (w.alloc (.cells ⟨[]⟩ 5)) from (Below.refl _ _).alloc (Nat.le_refl _) _)
    clear hnews hown hr hA
    go_enter Try.func166, Try.ntmps166
    go_wp2_with (at_builtin; refine wpList_append_own _ rfl (.tmp 5) (.tmp 6) _ rfl w.heap.size 5 i0 z0 1 1 Try.underlying80 hi0 hz0 hz1 hz2 hz3 (by decide) _ 0 [] rfl HW.out ad xs.length c (flat u8C xs) rfl (flat_len u8C_len xs) HN.out HO.out (by unfold maxLen; omega) (by omega) (by simp) ?_; intro v' w1 hown' hg' _)
    go_ret
    refine ⟨v', rfl, by simpa using hown', HB.out.grown hg' (by simp) (fun k hk => ?_)⟩
    have hk' := (HW.out.lt k hk).1
    exact hk'
end Go.Proofs.Ytaecgapoaagjfaa
