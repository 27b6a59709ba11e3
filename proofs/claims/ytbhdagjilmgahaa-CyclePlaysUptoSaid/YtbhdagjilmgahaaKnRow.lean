
/-
  Slices of roadstead/api.Know: what they read as, and the library's functions over them.
-/
import Derived.Test.YtbhdagjilmgahaaKnDef
import Derived.Laws.StructEq
namespace Go.Proofs.Ytbhdagjilmgahaa
open Go.RowKit

def knC (x : KnC) : List Value := [.int .i64 x.ref, .bool x.awake, .bool x.root, .slice x.A x.refs.length x.cap]
def knV (x : KnC) : Value := .agg #[.int .i64 x.ref, .bool x.awake, .bool x.root, .slice x.A x.refs.length x.cap]
theorem knC_len (x : KnC) : (knC x).length = 4 := rfl
theorem kn_info : (Try.prog.info? 28).map (fun i => (i.size, i.bytes)) = some (4, 40) := by kernel_rfl
theorem kn_zero : ((Try.prog.info? 28).bind (·.zero)).map (fun z => z.cells.size) = some 4 := by kernel_rfl
theorem kn_parts : ∃ i z, Try.prog.info? 28 = some i ∧ i.zero = some z ∧ i.size = 4 ∧ i.bytes = 40 ∧ z.cells.size = 4 := by
  have h1 := kn_info
  have h2 := kn_zero
  cases hi : Try.prog.info? 28 with
  | none => rw [hi] at h1; cases h1
  | some i =>
    rw [hi] at h1 h2
    simp only [Option.map_some, Option.some.injEq, Prod.mk.injEq, Option.bind_some] at h1 h2
    cases hz : i.zero with
    | none => rw [hz] at h2; cases h2
    | some z =>
      rw [hz] at h2
      simp only [Option.map_some, Option.some.injEq] at h2
      exact ⟨i, z, rfl, hz, h1.1, h1.2, h2⟩
theorem kn_one (x : KnC) : ∀ u ∈ knC x, u.oneCell' = true := by
  intro u hu
  simp only [knC, List.mem_cons, List.not_mem_nil, or_false] at hu
  rcases hu with rfl | rfl | rfl | rfl <;> rfl
theorem kn_one_all (l : List (KnC)) : ∀ u ∈ flat knC l, u.oneCell' = true := by
  intro u hu
  simp only [flat, List.mem_flatMap] at hu
  obtain ⟨x, _, hx⟩ := hu
  exact kn_one x u hx
/-- Element i's cells. -/
theorem Row.kn {w : World} {B : Nat} {A : Option Addr} {l : List (KnC)} (h : Row w B A (flat knC l)) {i : Nat} (hi : i < l.length) (d : KnC) :
    ∃ b o, A = some ⟨b, o, none⟩ ∧ b < B
      ∧ w.cell? ⟨b, o + i * 4, none⟩ = some (.int .i64 (l.getD i d).ref)
      ∧ w.cell? ⟨b, o + i * 4 + 1, none⟩ = some (.bool (l.getD i d).awake)
      ∧ w.cell? ⟨b, o + i * 4 + 2, none⟩ = some (.bool (l.getD i d).root)
      ∧ w.cell? ⟨b, o + i * 4 + 3, none⟩ = some (.slice (l.getD i d).A (l.getD i d).refs.length (l.getD i d).cap)
    := by
  obtain ⟨b, o, e, hb, hc⟩ := Row.elem knC_len (by decide) h (getD_some d hi)
  exact ⟨b, o, e, hb, hc 0 _ rfl, hc 1 _ rfl, hc 2 _ rfl, hc 3 _ rfl⟩

set_option maxRecDepth 100000 in
set_option maxHeartbeats 1000000 in
theorem indexFunc_kn (A : Option Addr) (c : Nat) (xs : List (KnC)) (fid : FuncId) (caps : Array Value) (f : KnC → Bool) (B : Nat) (Inv : World → Prop) (w : World) (he : Enters fid) (hm : xs.length ≤ maxLen)
    (hr : ∀ w, Inv w → Row w B A (flat knC xs))
    (hf : ∀ x ∈ xs, ∀ w, Inv w → Calls Try.prog fid (#[knV x] ++ caps) w fun e w' => e = .returned (.bool (f x)) ∧ Inv w') (hi : Inv w) :
    Calls Try.prog 17 #[.slice A xs.length c, .func (.func fid) #[] caps] w fun e w' => e = .returned (.int .i64 (idxAt f xs 0)) ∧ Inv w' := by
  have HF := Lib.hid hf
  have HR := Lib.hid hr
  clear hf hr
  unfold Enters at he
  unfold maxLen at hm
  go_enter Try.func17, Try.ntmps17
  go_wp2_with fail
  go_loopw [8] (fun i wr => ∃ k : Nat, k ≤ xs.length ∧ i = .int .i64 k ∧ Hid (idxAt f xs 0 = idxAt f (xs.drop k) k) ∧ Inv wr) (fun i _ => xs.length - (intOf i).toNat)
  case atStart => exact ⟨0, by omega, rfl, rfl, hi⟩
  case round =>
    obtain ⟨k, hk, rfl, HK, hI⟩ := hrel
    by_cases hlt : k < xs.length
    · obtain ⟨b, o, rfl, _, hc0, hc1, hc2, hc3⟩ := (HR.out wr hI).kn hlt knc0
      have hmem := getD_mem knc0 hlt
      have HD := Lib.hid (idxAt_drop f xs knc0 k hlt k)
      generalize xs.getD k knc0 = x at *
      have HM := Lib.hid hmem
      clear hmem
      go_wp2_with fail
      refine (HF.out x HM.out wr hI).mono ?_
      rintro e w1 ⟨rfl, hI1⟩
      by_cases hfx : f x = true
      · have HX := Lib.hid hfx
        rw [hfx]
        clear hfx
        go_wp2_with fail
        go_ret
        refine ⟨?_, hI1⟩
        rw [HK.out, HD.out, if_pos HX.out]
        rfl
      · have HX := Lib.hid hfx
        rw [show f x = false by simpa using hfx]
        clear hfx
        go_wp2_with fail
        go_roundw
        case rel =>
          refine ⟨k + 1, by omega, by go_num, ?_, hI1⟩
          unfold Hid
          rw [HK.out, HD.out, if_neg HX.out]
          rfl
        case measure => simp [intOf]; omega
    · go_wp2_with fail
      go_ret
      refine ⟨?_, hI⟩
      rw [HK.out, List.drop_eq_nil_of_le (by omega)]
      rfl

set_option maxRecDepth 100000 in
theorem containsFunc_kn (A : Option Addr) (c : Nat) (xs : List (KnC)) (fid : FuncId) (caps : Array Value) (f : KnC → Bool) (B : Nat) (Inv : World → Prop) (w : World) (he : Enters fid) (hm : xs.length ≤ maxLen)
    (hr : ∀ w, Inv w → Row w B A (flat knC xs))
    (hf : ∀ x ∈ xs, ∀ w, Inv w → Calls Try.prog fid (#[knV x] ++ caps) w fun e w' => e = .returned (.bool (f x)) ∧ Inv w') (hi : Inv w) :
    Calls Try.prog 21 #[.slice A xs.length c, .func (.func fid) #[] caps] w fun e w' => e = .returned (.bool (xs.any f)) ∧ Inv w' := by
  have HC := Lib.hid (indexFunc_kn A c xs fid caps f B Inv w he hm hr hf hi)
  clear hr hf hi he
  go_enter Try.func21, Try.ntmps21
  go_wp2_with fail
  refine HC.out.mono ?_
  rintro e w1 ⟨rfl, hI⟩
  have HA := Lib.hid (idxAt_any f xs 0 (by omega))
  generalize idxAt f xs 0 = j at *
  go_wp2_with fail
  go_ret
  refine ⟨?_, hI⟩
  rw [← HA.out]
  rfl

set_option maxRecDepth 100000 in
set_option maxHeartbeats 400000 in
theorem clone_kn (A : Option Addr) (c : Nat) (xs : List (KnC)) (B : Nat) (w : World) (hr : Row w B A (flat knC xs)) (hA : A = none → c = 0) (hm : xs.length * 40 ≤ 140737488355328) :
    Calls Try.prog 15 #[.slice A xs.length c] w fun e w' => ∃ v, e = .returned v ∧ w'.ownsRow w.heap.size 28 4 v xs.length (flat knC xs) ∧ Below w.heap.size w w' := by
  rcases A with _ | ad
  · obtain rfl := hA rfl
    have hx : xs = [] := by
      rcases xs with _ | ⟨x, r⟩
      · rfl
      · obtain ⟨b, o, h, _⟩ := hr (by rw [flat_len knC_len]; simp)
        cases h
    subst hx
    have he := fun w => Lib.run_eql_slice_nil (P := Try.prog) w 22 28 none 0 0 0 0 Try.underlying22
    go_enter Try.func15, Try.ntmps15
    go_wp2_with fail
    go_ret
    exact ⟨_, rfl, World.ownsRow_nil _ _ _ _, Below.refl _ _⟩
  · have he := fun w => Lib.run_eql_slice_nil (P := Try.prog) w 22 28 (some ad) xs.length c 0 0 Try.underlying22
    obtain ⟨i0, z0, hi0, hz0, hz1, hz2, hz3⟩ := kn_parts
    have hnews : ∀ j u, (flat knC xs)[j]? = some u → (w.alloc (.cells ⟨[]⟩ 28)).cell? (ad.add j) = some u := by
      intro j u hu
      have hj : j < (flat knC xs).length := (List.getElem?_eq_some_iff.1 hu).1
      obtain ⟨b, o, e, _, hc⟩ := hr (by omega)
      injection e with e
      subst e
      have h1 := hc j u hu
      rw [addr_add, World.cell?_alloc_lt w _ ⟨b, o + j, none⟩ (lt_of_cell h1)]
      exact h1
    have HN := Lib.hid hnews
    have HO := Lib.hid (kn_one_all xs)
    have hown : (w.alloc (.cells ⟨[]⟩ 28)).ownsRow w.heap.size 28 4 (.slice (some ⟨w.heap.size, 0, none⟩) 0 0) 0 [] := World.ownsRow_lit w ⟨[]⟩ 0 (Nat.le_refl _) (Nat.zero_le _) rfl
    have HW := Lib.hid hown
    have HB := Lib.hid (show Below w.heap.size w (w.alloc (.cells ⟨[]⟩ 28)) from (Below.refl _ _).alloc (Nat.le_refl _) _)
    clear hnews hown hr hA
    go_enter Try.func15, Try.ntmps15
    go_wp2_with (at_builtin; refine wpList_append_own _ rfl (.tmp 5) (.tmp 6) _ rfl w.heap.size 28 i0 z0 4 40 Try.underlying22 hi0 hz0 hz1 hz2 hz3 (by decide) _ 0 [] rfl HW.out ad xs.length c (flat knC xs) rfl (flat_len knC_len xs) HN.out HO.out (by unfold maxLen; omega) (by omega) (by simp) ?_; intro v' w1 hown' hg' _)
    go_ret
    refine ⟨v', rfl, by simpa using hown', HB.out.grown hg' (by simp) (fun k hk => ?_)⟩
    have hk' := (HW.out.lt k hk).1
    exact hk'
end Go.Proofs.Ytbhdagjilmgahaa
