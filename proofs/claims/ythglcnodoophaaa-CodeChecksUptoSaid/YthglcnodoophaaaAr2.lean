
/-
  code.Gather.
-/
import Derived.Test.YthglcnodoophaaaAr1
import Derived.Deep.RegionHeld3
namespace Go.Proofs.Ythglcnodoophaaa
open Go.RowKit

theorem row_lo {w : World} {B b o c : Nat} {zs : List Int} (hr : Row w B (some ⟨b, o, none⟩) (ints zs)) (hc : zs.length ≤ c) {k : Nat} (hk : k ≤ zs.length) :
    ∃ b' o', (if c = k then (some ⟨b, o, none⟩ : Option Addr) else some ⟨b, o + k, none⟩) = some ⟨b', o', none⟩ ∧ Row w B (some ⟨b', o', none⟩) (ints (zs.drop k)) := by
  by_cases h : c = k
  · refine ⟨b, o, if_pos h, ?_⟩
    rw [List.drop_eq_nil_of_le (by omega)]
    exact Row.nil
  · refine ⟨b, o + k, if_neg h, fun hp => ?_⟩
    rw [ints_len, List.length_drop] at hp
    obtain ⟨b2, o2, e, hb, hcell⟩ := hr (by rw [ints_len]; omega)
    injection e with e
    injection e with e1 e2
    subst e1 e2
    refine ⟨b, o + k, rfl, hb, fun i u hu => ?_⟩
    rw [Nat.add_assoc]
    refine hcell _ u ?_
    rw [← hu]
    simp [ints]
theorem row_hi {w : World} {B : Nat} {A : Option Addr} {zs : List Int} (hr : Row w B A (ints zs)) (k : Nat) : Row w B A (ints (zs.take k)) := fun hp => by
  rw [ints_len, List.length_take] at hp
  obtain ⟨b, o, e, hb, hc⟩ := hr (by rw [ints_len]; omega)
  refine ⟨b, o, e, hb, fun i u hu => hc i u ?_⟩
  have hi : i < (ints (zs.take k)).length := (List.getElem?_eq_some_iff.1 hu).1
  rw [ints_len, List.length_take] at hi
  rw [← hu]
  simp only [ints, List.map_take, List.getElem?_take]
  rw [if_pos (by omega)]

/-- What is handed back of arms. -/
def GatPost (w : World) (r : Option (List ArV)) (ok bad : Value) (e : Ending) (w' : World) : Prop :=
  Below w.heap.size w w' ∧ match r with
  | none => e = .returned (.tuple #[.slice none 0 0, bad])
  | some vs => ∃ (A : Option Addr) (c : Nat) (l : List ArC), e = .returned (.tuple #[.slice A l.length c, ok]) ∧ Arms w' A l vs ∧ l.length ≤ c ∧ c ≤ maxLen ∧ (A = none → c = 0) ∧ (∀ b, A.map (·.block) = some b → w.heap.size ≤ b) ∧ ∀ y ∈ l, ∀ b, y.A.map (·.block) = some b → w.heap.size ≤ b
theorem map_app (acc : List ArV) (v : ArV) (o : Option (List ArV)) : (o.map fun t => v :: t).map (acc ++ ·) = o.map ((acc ++ [v]) ++ ·) := by cases o <;> simp
theorem ArMk.len {w : World} {base : Nat} {A : Option Addr} {c : Nat} {l : List ArC} {vs : List ArV} (h : ArMk w base A c l vs) : l.length = vs.length := h.1

theorem ar_new (w : World) (y : ArC) : ∀ j u, (arC y)[j]? = some u → (w.alloc (.cells #[.int .i64 y.pc, .slice y.A y.len y.cap] 60)).cell? ((⟨w.heap.size, 0, none⟩ : Addr).add j) = some u := fun j u hu => by
  rw [addr_add, Nat.zero_add, (Box.new w 60 #[.int .i64 y.pc, .slice y.A y.len y.cap]).cell j, ← hu]
  simp [arC]
theorem own_off {w w' : World} {base : Nat} {e : TypeId} {size n cap : Nat} {A A4 : Option Addr} {xs : List Value} (h : OwnAt w base e size A n cap xs) (hb : Below w.heap.size w w') (h4 : ∀ b, A4.map (·.block) = some b → b < base) : RowS w' (fun b => A4.map (·.block) ≠ some b) A xs := fun hp => by
  obtain ⟨b, o, e1, hlt, hc⟩ := h.row hp
  subst e1
  refine ⟨b, o, rfl, fun e2 => ?_, fun i v hv => (hb.cell (p := ⟨b, o + i, none⟩) hlt).trans (hc i v hv)⟩
  have h1 := h4 b e2
  have h2 := h.lt.1
  omega
theorem own_lo {w : World} {base base' : Nat} {e : TypeId} {size n cap : Nat} {A : Option Addr} {xs : List Value} (h : OwnAt w base e size A n cap xs) (hb : base' ≤ base) : ∀ b, A.map (·.block) = some b → base' ≤ b := fun b hb' => by
  rcases h.form with ⟨rfl, _⟩ | ⟨g1, o1, rfl⟩
  · cases hb'
  · simp at hb'; subst hb'; exact Nat.le_trans hb h.lt.1
theorem ArMk.blk {w : World} {base : Nat} {A : Option Addr} {c : Nat} {l : List ArC} {vs : List ArV} (h : ArMk w base A c l vs) : ∀ b, A.map (·.block) = some b → base ≤ b ∧ b < w.heap.size := fun b hb => by
  rcases h.2.1.form with ⟨rfl, _⟩ | ⟨g1, o1, rfl⟩
  · cases hb
  · simp at hb; subst hb; exact h.2.1.lt

set_option maxRecDepth 100000 in
set_option maxHeartbeats 2000000 in
theorem gather_any (A0 : Option Addr) (c0 : Nat) (l0 : List Int) (B : Nat) (w : World) (hr0 : Row w B A0 (ints l0)) (hB : B ≤ w.heap.size) (hl0 : l0.length ≤ 1048576) (hc0 : l0.length ≤ c0) (hcm : c0 ≤ maxLen) (hA0 : A0 = none → c0 = 0) :
    Calls Try.prog 29 #[.slice A0 l0.length c0] w (GatPost w (gatF l0) (.int .i64 0) (.int .i64 3)) := by
  obtain ⟨i0, z0, hi0, hz0, hz1, hz2, hz3⟩ := ar_parts
  have HR0 := Lib.hid hr0
  have HA0 := Lib.hid hA0
  unfold maxLen at hcm
  clear hr0 hA0
  go_enter Try.func29, Try.ntmps29
  go_wp2_with fail
  go_loopg [0, 4] l0.length (fun gk s q wr => ∃ (A1 : Option Addr) (c1 : Nat) (cur : List Int) (A4 : Option Addr) (c4 : Nat) (l : List ArC) (acc : List ArV), gk = cur.length ∧ s = .slice A1 cur.length c1 ∧ Row w B A1 (ints cur) ∧ cur.length ≤ c1 ∧ c1 ≤ c0 ∧ (A1 = none → c1 = 0) ∧ q = .slice A4 l.length c4 ∧ ArMk wr w.heap.size A4 c4 l acc ∧ l.length + cur.length ≤ 1048576 ∧ gatF l0 = (gatF cur).map (acc ++ ·) ∧ Below w.heap.size w wr)
  case atStart => exact ⟨A0, c0, l0, none, 0, [], [], rfl, rfl, HR0.out, hc0, Nat.le_refl _, HA0.out, rfl, ArMk.nil, by simpa using hl0, by simp, Below.refl _ _⟩
  case round =>
    obtain ⟨A1, c1, cur, A4, c4, l, acc, hgk, rfl, hr, hc, hcc, hA, rfl, hmk, hcount, hgat, hb⟩ := hrel
    clear HR0 HA0 hc0
    have HGK := Lib.hid hgk
    have HGAT := Lib.hid hgat
    have HMK := Lib.hid hmk
    have HB := Lib.hid hb
    clear hgk hgat
    rcases cur with _ | ⟨x, cur⟩
    · have hcl := hmk.2.1.cap_le
      have hnone := hmk.2.1.noneA
      clear hmk hb
      go_wp2_with fail
      go_ret2
      refine ⟨HB.out, ?_⟩
      rw [HGAT.out, gatF_nil]
      simp only [Option.map_some, List.append_nil]
      exact ⟨A4, c4, l, rfl, HMK.out.arms, hcl.1, hcl.2, hnone, fun b hb => (HMK.out.blk b hb).1, HMK.out.2.2.2⟩
    rcases cur with _ | ⟨m, r⟩
    · clear hmk hb
      go_wp2_with fail
      go_ret2
      refine ⟨HB.out, ?_⟩
      rw [HGAT.out, gatF_one]
      rfl
    obtain ⟨b, o, rfl, hbB, hcell⟩ := hr (by simp [ints])
    have hbw : b < w.heap.size := by omega
    have p0 := (hb.cell (p := ⟨b, o, none⟩) hbw).trans (hcell 0 (.int .i64 x) rfl)
    have p1 := (hb.cell (p := ⟨b, o + 1, none⟩) hbw).trans (hcell 1 (.int .i64 m) rfl)
    have q0 := hcell 0 (.int .i64 x) rfl
    have q1 := hcell 1 (.int .i64 m) rfl
    rw [Nat.add_zero] at q0
    have hL : (x :: m :: r).length = r.length + 2 := rfl
    rw [hL] at hc hcount ⊢
    have e1 : ((r.length : Int) + 2 == 1) = false := by simp; omega
    have e1' : (r.length + 2 == 1) = false := by simp
    have hpos : (0 : Int) < (r.length : Int) + 2 := by omega
    have hone : (1 : Int) < (r.length : Int) + 2 := by omega
    have hone' : 1 < r.length + 2 := by omega
    have HW2 : Hid (wrap64 ((r.length : Int) + 2 - 2) = (r.length : Int)) := by show wrap64 _ = _; unfold wrap64; omega
    by_cases hm0 : m < 0
    · have d1 : decide (m < 0) = true := by simp; omega
      clear hmk hb
      go_wp2_with fail
      go_ret2
      refine ⟨HB.out, ?_⟩
      rw [HGAT.out, gatF_bad x m r (.inl hm0)]
      rfl
    have d1 : decide (m < 0) = false := by simp; omega
    obtain ⟨k, rfl⟩ := Int.eq_ofNat_of_zero_le (show 0 ≤ m by omega)
    by_cases hmr : r.length < k
    · have d2 : decide ((r.length : Int) < (k : Int)) = true := by simp; omega
      have d2' : decide (r.length < k) = true := by simp; omega
      have hw2 := HW2.out
      clear hmk hb
      go_wp2_with fail
      go_ret2
      refine ⟨HB.out, ?_⟩
      rw [HGAT.out, gatF_bad x k r (.inr (by omega))]
      rfl
    have d2 : decide ((r.length : Int) < (k : Int)) = false := by simp; omega
    have d2' : decide (r.length < k) = false := by simp; omega
    have hkr : k ≤ r.length := by omega
    obtain ⟨b3, o3, hA3, hr3⟩ := row_lo hr (zs := x :: (k : Int) :: r) (by rw [hL]; exact hc) (k := 2) (by rw [hL]; omega)
    obtain ⟨b5, o5, hA5, hr5⟩ := row_lo hr (zs := x :: (k : Int) :: r) (by rw [hL]; exact hc) (k := 2 + k) (by rw [hL]; omega)
    rw [show (x :: (k : Int) :: r).drop 2 = r from rfl] at hr3
    rw [show (x :: (k : Int) :: r).drop (2 + k) = r.drop k by rw [Nat.add_comm 2 k]; rfl] at hr5
    have htk : (r.take k).length = k := by rw [List.length_take]; omega
    have hdk : (r.drop k).length = r.length - k := List.length_drop
    have HR5 := Lib.hid hr5
    have HCL : Hid (∀ w', Below w.heap.size w w' → Calls Try.prog 25 #[.slice (some ⟨b3, o3, none⟩) k (c1 - 2)] w' fun e w'' => ∃ v, e = .returned v ∧ w''.ownsRow w'.heap.size 3 1 v k (ints (r.take k)) ∧ Below w'.heap.size w' w'') := fun w' hb' => by
      have h := clone_any (some ⟨b3, o3, none⟩) (c1 - 2) (r.take k) w.heap.size w' (((row_hi hr3 k).more hB).below hb') (fun e => by cases e) (by omega)
      rw [htk] at h
      exact h
    have HSK := Lib.hid (show ∀ w', Below w.heap.size w w' → Below w.heap.size w w' ∧ w'.cell? ⟨b, o, none⟩ = some (.int .i64 x) ∧ w'.cell? ⟨b, o + 1, none⟩ = some (.int .i64 k) from fun w' h => ⟨h, (h.cell (p := ⟨b, o, none⟩) hbw).trans q0, (h.cell (p := ⟨b, o + 1, none⟩) hbw).trans q1⟩)
    have i1 : (2 : Int) ≤ 2 + (k : Int) := by omega
    have i2 : 2 + (k : Int) ≤ (c1 : Int) := by omega
    have i3 : (0 : Int) ≤ 2 + (k : Int) := by omega
    have i4 : 2 + (k : Int) ≤ (r.length : Int) + 2 := by omega
    have i5 : 2 + k ≤ c1 := by omega
    have i7 : (2 + (k : Int)).toNat = 2 + k := by omega
    have i8 : 2 + k - 2 = k := by omega
    have i6 : 2 + k ≤ r.length + 2 := by omega
    have HLC := Lib.hid (show l.length + 1 ≤ 1048576 by omega)
    have F1 : Hid (r.length + 2 - (2 + k) = (r.drop k).length) := by show _ = _; rw [hdk]; omega
    have F2 : Hid ((r.drop k).length ≤ c1 - (2 + k)) := by show _ ≤ _; rw [hdk]; omega
    have F3 : Hid (c1 - (2 + k) ≤ c0) := by show _ ≤ _; omega
    have F4 : Hid (l.length + 1 + (r.drop k).length ≤ 1048576) := by show _ ≤ _; rw [hdk]; omega
    have F5 : Hid ((r.drop k).length < r.length + 2) := by show _ < _; rw [hdk]; omega
    have HMX : Hid (l.length + 1 ≤ maxLen) := Nat.le_trans HLC.out (by unfold maxLen; decide)
    have HBY : Hid ((l.length + 1) * 32 ≤ 140737488355328) := Nat.le_trans (Nat.mul_le_mul_right 32 HLC.out) (by decide)
    have HWK : Hid (wrap64 (2 + (k : Int)) = 2 + (k : Int)) := by show wrap64 _ = _; unfold wrap64; omega
    have hwk' : IntKind.i64.wrap (2 + (k : Int)) = 2 + (k : Int) := IntWalk.i64_in _ (by omega)
    have hw2 := HW2.out
    have hwk := HWK.out
    clear hmk hb hr hr3 hr5 q0 q1 hcell hm0 hmr
    go_wp2_with fail
    go_region_held3 (fun w' => Below w.heap.size w w' ∧ w'.cell? ⟨b, o, none⟩ = some (.int .i64 x) ∧ w'.cell? ⟨b, o + 1, none⟩ = some (.int .i64 k))
      ((first
        | exact HSK.out _ (below_drewN HB.out 1)
        | exact HSK.out _ hbk6
        | exact HSK.out _ (hbk.alloc hbk.size _)
        | exact HSK.out _ hbk
        | go_keep))
      ((first
        | (go_at_call 25; refine (HCL.out _ (show Below w.heap.size w _ ∧ _ by assumption).1).mono ?_; rintro e w5 ⟨v5, rfl, hown5, hb5⟩; obtain ⟨A5, c5, rfl, hq5⟩ := OwnAt.of_own hown5; have HL5 := Lib.hid (own_lo hq5 (show Below w.heap.size w _ ∧ _ by assumption).1.size); have hbk := (show Below w.heap.size w _ ∧ _ by assumption).1.trans (hb5.mono (show Below w.heap.size w _ ∧ _ by assumption).1.size); have HM5 := Lib.hid ((HMK.out.below (show Below wr.heap.size wr w5 from ((Below.refl wr.heap.size wr).drew).trans hb5)).below ((Below.refl w5.heap.size w5).alloc (Nat.le_refl _) (.cells #[.int .i64 x, .slice A5 k c5] 60))); have HY5 := Lib.hid (own_off hq5 ((Below.refl w5.heap.size w5).alloc (Nat.le_refl _) (.cells #[.int .i64 x, .slice A5 k c5] 60)) (fun b hb => (HMK.out.blk b hb).2)))
        | (refine step_append_q rfl (.tmp 26) (.tmp 38) 57 rfl w.heap.size 60 i0 z0 2 32 Try.underlying57 hi0 hz0 hz1 hz2 hz3 (by decide) A4 l.length c4 (flat arC l) rfl HM5.out.2.1 ⟨w5.heap.size, 0, none⟩ 1 1 (arC ⟨x, A5, k, c5⟩) rfl rfl (ar_new w5 ⟨x, A5, k, c5⟩) (ar_one _) HMX.out HBY.out (Nat.le_trans hbk.size (by simp)) (by decide) ?_; intro g6 o6 d6 w6 j1 j2 j3; have hbk6 := (hbk.alloc hbk.size (.cells #[.int .i64 x, .slice A5 k c5] 60)).grown j2 (Nat.le_trans hbk.size (by simp)) (fun kk hkk => (HMK.out.blk kk hkk).1))))
    have H6 := Lib.hid (HM5.out.push (y := ⟨x, A5, k, c5⟩) (v := ((x, r.take k) : ArV)) ⟨rfl, htk.symm, HY5.out⟩ HL5.out j1 j2 j3)
    have HB6 := Lib.hid hbk6
    clear j1 j2 j3 hbk6 hbk hown5 hb5 hq5 HM5 HY5
    go_wp2_with fail
    go_roundg (r.drop k).length
    case measure => rw [HGK.out]; exact F5.out
    case rel => exact ⟨some ⟨b5, o5, none⟩, c1 - (2 + k), r.drop k, some ⟨g6, o6, none⟩, d6, l ++ [⟨x, A5, k, c5⟩], acc ++ [(x, r.take k)], rfl, by rw [← F1.out], HR5.out, F2.out, F3.out, (fun e => by cases e), by rw [List.length_append]; rfl, H6.out, by rw [List.length_append]; exact F4.out, by rw [HGAT.out, gatF_good x k r hkr, map_app], HB6.out⟩
end Go.Proofs.Ythglcnodoophaaa
