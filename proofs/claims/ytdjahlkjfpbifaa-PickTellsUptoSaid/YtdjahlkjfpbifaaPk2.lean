
/-
  copies.Values, arms.Bind, arms.First, pick.Fits, pick.First.
-/
import Derived.Test.YtdjahlkjfpbifaaPk1
namespace Go.Proofs.Ytdjahlkjfpbifaa
open Go.RowKit

theorem values_any (n : Nat) (A : Option Addr) (c : Nat) (l : List VC) (vs : List Val) (w : World) (S : Nat → Prop) (h : valRow w S n A c l vs) :
    Calls Try.prog 121 #[.slice A l.length c] w (EachPostval w n vs) := by
  have HE := Lib.hid (each_val n (copy_val n) A c l vs w S h)
  clear h
  go_enter Try.func121, Try.ntmps121
  go_wp2_with fail
  refine HE.out.mono ?_
  rintro e w1 ⟨A', c', l', rfl, hmk, hby, hb⟩
  go_wp2_with fail
  go_ret
  exact ⟨A', c', l', rfl, hmk, hby, hb⟩

/-- What fits, and a row of the call's own with what is bound. -/
def GotPost (w : World) (n : Nat) (r : Option (List Val)) (e : Ending) (w' : World) : Prop :=
  ∃ A' c' l', e = .returned (.tuple #[.slice A' l'.length c', .bool r.isSome]) ∧ valMk w' w.heap.size (w.heap.size ≤ ·) n A' c' l' (r.getD []) ∧ l'.length * 56 ≤ reachBytes ∧ Below w.heap.size w w'

set_option maxRecDepth 100000 in
set_option maxHeartbeats 1000000 in
theorem bindA_any (n : Nat) (x y : VC) (p v : Val) (w : World) (Sp Sv : Nat → Prop) (hx : VIn w Sp n x p) (hy : VIn w Sv n y v) (hM : p.size ≤ 2097152) :
    Calls Try.prog 77 #[valV x, valV y] w (GotPost w n (bindN n p v)) := by
  have HB := Lib.hid (show ∀ o1 o2, Below w.heap.size w ((w.alloc o1).alloc o2) from fun _ _ => ((Below.refl _ _).alloc (Nat.le_refl _) _).alloc (by simp) _)
  have HI := Lib.hid (fun o1 o2 => binds_any n x y p v ((w.alloc o1).alloc o2) ((w.alloc o1).alloc o2).heap.size n p.size 0 (fun b => Sp b ∧ b < w.heap.size) (fun b => Sv b ∧ b < w.heap.size) none 0 [] [] (hx.lt.below (HB.out o1 o2) fun _ h => h.2) (hy.lt.below (HB.out o1 o2) fun _ h => h.2) (fun b hb => by have := hb.2; simp; omega) (fun b hb => by have := hb.2; simp; omega) (Nat.le_refl _) (Nat.le_refl _) valMk.nil rfl (by omega) hM)
  clear hx hy
  unfold BindPost at HI
  unfold valV at *
  obtain ⟨R, hR⟩ : ∃ R, bindN n p v = R := ⟨_, rfl⟩
  have HRL := Lib.hid (show ∀ xs, R = some xs → xs.length ≤ p.size from fun xs h => bindN_len n p v xs (hR.trans h))
  rw [hR] at HI ⊢
  clear hR
  go_enter Try.func77, Try.ntmps77
  go_wp2_with fail
  refine (HI.out _ _).mono ?_
  rintro e w1 ⟨u, q, rfl, ho, hf, ht⟩
  have HW := Lib.hid ((HB.out _ _).trans ((ho.to_below (Below.refl _ _) (Nat.le_refl _) fun i hi => by cases hi).mono (HB.out _ _).size))
  clear ho HI HB
  cases q
  · obtain rfl := hf rfl
    clear ht
    go_wp2_with fail
    go_ret2
    exact ⟨none, 0, [], rfl, valMk.nil, by simp, HW.out⟩
  · obtain ⟨xs, A', c', l', rfl, rfl, hmk, _⟩ := ht rfl
    have HL := Lib.hid (show l'.length * 56 ≤ reachBytes by have h1 := hmk.1; have h2 := HRL.out xs rfl; simp at h1; unfold reachBytes; omega)
    have HV := Lib.hid (values_any n A' c' l' xs w1 _ (hmk.row HL.out))
    have HS := HW.out.size
    clear hmk hf
    go_wp2_with fail
    refine HV.out.mono ?_
    rintro e w2 ⟨A2, c2, l2, rfl, hmk2, hby2, hb2⟩
    go_wp2_with fail
    go_ret2
    exact ⟨A2, c2, l2, rfl, hmk2.weak HS (fun b hb => Nat.le_trans HS hb), hby2, HW.out.trans (hb2.mono HS)⟩

/-- What the first pattern that fits binds. -/
def boundF (n : Nat) : List Val → Val → List Val
  | [], _ => []
  | p :: r, v => if (bindN n p v).isSome then (bindN n p v).getD [] else boundF n r v
theorem first_drop (n : Nat) (ps : List Val) (v : Val) (k : Nat) (hk : k < ps.length) (K : Int) : idxAt (fun p => (bindN n p v).isSome) (ps.drop k) K = if (bindN n (ps.getD k val0) v).isSome then K else idxAt (fun p => (bindN n p v).isSome) (ps.drop (k + 1)) (K + 1) :=
  idxAt_drop (fun p => (bindN n p v).isSome) ps val0 k hk K
theorem bound_drop (n : Nat) (ps : List Val) (v : Val) (k : Nat) (hk : k < ps.length) : boundF n (ps.drop k) v = if (bindN n (ps.getD k val0) v).isSome then (bindN n (ps.getD k val0) v).getD [] else boundF n (ps.drop (k + 1)) v := by
  rw [drop_getD ps val0 hk]
  rfl

set_option maxRecDepth 100000 in
set_option maxHeartbeats 1000000 in
theorem firstA_any (n : Nat) (A : Option Addr) (c : Nat) (l : List VC) (ps : List Val) (y : VC) (v : Val) (w : World) (Sp Sv : Nat → Prop) (hx : valRow w Sp n A c l ps) (hy : VIn w Sv n y v) (hM : ∀ p ∈ ps, p.size ≤ 2097152) :
    Calls Try.prog 79 #[.slice A l.length c, valV y] w fun e w' => ∃ A' c' l', e = .returned (.tuple #[.int .i64 (firstF n ps v), .slice A' l'.length c']) ∧ valMk w' w.heap.size (w.heap.size ≤ ·) n A' c' l' (boundF n ps v) ∧ Below w.heap.size w w' := by
  have HR := Lib.hid hx.lt
  have HY := Lib.hid hy.lt
  have HL := Lib.hid hx.1
  have HMM := Lib.hid hM
  have hcm := hx.2.2.2.2.1
  have hlc := hx.2.2.2.1
  unfold maxLen at hcm
  obtain ⟨R, hR⟩ : ∃ R, firstF n ps v = R := ⟨_, rfl⟩
  obtain ⟨Q, hQ⟩ : ∃ Q, boundF n ps v = Q := ⟨_, rfl⟩
  rw [hR, hQ]
  have HI := Lib.hid hR
  have HQ := Lib.hid hQ
  unfold firstF at HI
  have HB := Lib.hid (show ∀ o1, Below w.heap.size w (w.alloc o1) from fun _ => (Below.refl _ _).alloc (Nat.le_refl _) _)
  clear hx hy hM hR hQ
  unfold valV
  go_enter Try.func79, Try.ntmps79
  go_wp2_with fail
  go_loopg [12] l.length (fun gk i wr => ∃ k : Nat, gk = l.length - k ∧ k ≤ l.length ∧ i = .int .i64 k ∧ idxAt (fun p => (bindN n p v).isSome) ps 0 = idxAt (fun p => (bindN n p v).isSome) (ps.drop k) k ∧ boundF n ps v = boundF n (ps.drop k) v ∧ Box wr w.heap.size 28 #[.int .i64 y.kind, .int .i64 y.num, .string y.text, .slice y.A y.len y.cap] ∧ Below w.heap.size w wr ∧ w.heap.size + 1 ≤ wr.heap.size)
  case atStart => exact ⟨0, by omega, by omega, rfl, rfl, rfl, Box.new _ _ _, HB.out _, by simp⟩
  case round =>
    obtain ⟨k, hgk, hk, rfl, hi, hq, B1, hb, hsz⟩ := hrel
    have HG := Lib.hid hgk
    have HIK := Lib.hid hi
    have HQK := Lib.hid hq
    clear hgk hi hq
    by_cases hlt : k < l.length
    · have hrw := HR.out.below hb (fun b h => h.2)
      have HX := Lib.hid (hrw.2.2.1 k hlt)
      have HKP := Lib.hid (show k < ps.length by rw [← HL.out]; exact hlt)
      have HID := Lib.hid (first_drop n ps v k HKP.out k)
      have HQD := Lib.hid (bound_drop n ps v k HKP.out)
      have HSM := Lib.hid (HMM.out _ (getD_mem val0 HKP.out))
      obtain ⟨p1, o1, rfl, _, hc0, hc1, hc2, hc3⟩ := hrw.2.1.all.val hlt vc0
      clear hrw
      generalize l.getD k vc0 = x at *
      generalize ps.getD k val0 = p at *
      have HW1 := Lib.hid (fun o => hb.alloc (show w.heap.size ≤ wr.heap.size by omega) o)
      have HBA := Lib.hid (fun o => bindA_any n x y p v (wr.alloc o) _ _ (HX.out.below ((Below.refl wr.heap.size wr).alloc (Nat.le_refl _) o) fun b hb => Nat.lt_of_lt_of_le hb.2 (by omega)) (HY.out.below (HW1.out o) fun b hb => hb.2) HSM.out)
      have HBX := Lib.hid (fun o => B1.alloc o)
      obtain ⟨f0, f1, f2, f3, _⟩ := own_cells4 B1
      unfold GotPost valV at HBA
      clear HX B1
      obtain ⟨r, hr⟩ : ∃ r, bindN n p v = r := ⟨_, rfl⟩
      rw [hr] at HBA HID HQD
      clear hr
      have hwr : w.heap.size < wr.heap.size := by omega
      go_wp2_with fail
      refine (HBA.out _).mono ?_
      rintro e w2 ⟨A', c', l', rfl, hmk, _, hb2⟩
      have HW2 := Lib.hid ((HW1.out _).trans (hb2.mono (HW1.out _).size))
      have HBX2 := Lib.hid ((HBX.out _).below hb2 (by simp; omega))
      have hsz2 : w.heap.size + 1 ≤ w2.heap.size := by have := hb2.size; simp at this; omega
      have HMK := Lib.hid hmk
      clear hmk hb2 HBA
      cases r with
      | none =>
        go_wp2_with fail
        go_roundg (l.length - (k + 1))
        case measure => have := HG.out; omega
        case rel => exact ⟨k + 1, rfl, by omega, by go_num, by rw [HIK.out, HID.out]; rfl, by rw [HQK.out, HQD.out]; rfl, HBX2.out, HW2.out, hsz2⟩
      | some xs =>
        have HRE := Lib.hid (show R = (k : Int) by rw [← HI.out, HIK.out, HID.out]; rfl)
        have HQE := Lib.hid (show Q = xs by rw [← HQ.out, HQK.out, HQD.out]; rfl)
        go_wp2_with fail
        go_ret2
        rw [HRE.out, HQE.out]
        exact ⟨A', c', l', rfl, HMK.out.weak (by simp; omega) (fun b hb => by simp at hb; omega), HW2.out⟩
    · obtain rfl : k = l.length := by omega
      have HRE := Lib.hid (show R = -1 by rw [← HI.out, HIK.out, HL.out, List.drop_length]; rfl)
      have HQE := Lib.hid (show Q = [] by rw [← HQ.out, HQK.out, HL.out, List.drop_length]; rfl)
      go_wp2_with fail
      go_ret2
      rw [HRE.out, HQE.out]
      exact ⟨none, 0, [], rfl, valMk.nil, hb⟩

set_option maxRecDepth 100000 in
theorem fits_pk (n : Nat) (x y : VC) (p v : Val) (w : World) (Sp Sv : Nat → Prop) (hx : VIn w Sp n x p) (hy : VIn w Sv n y v) (hM : p.size ≤ 2097152) :
    Calls Try.prog 16 #[valV x, valV y] w (GotPost w n (bindN n p v)) := by
  have HB := Lib.hid (show ∀ o1 o2, Below w.heap.size w ((w.alloc o1).alloc o2) from fun _ _ => ((Below.refl _ _).alloc (Nat.le_refl _) _).alloc (by simp) _)
  have HI := Lib.hid (fun o1 o2 => bindA_any n x y p v ((w.alloc o1).alloc o2) _ _ (hx.lt.below (HB.out o1 o2) fun _ h => h.2) (hy.lt.below (HB.out o1 o2) fun _ h => h.2) hM)
  clear hx hy
  unfold valV at *
  generalize bindN n p v = R at *
  go_enter Try.func16, Try.ntmps16
  go_wp2_with fail
  refine (HI.out _ _).mono ?_
  rintro e w1 ⟨A', c', l', rfl, hmk, hby, hb⟩
  go_wp2_with fail
  go_ret2
  exact ⟨A', c', l', rfl, hmk.weak (HB.out _ _).size (fun b hb => Nat.le_trans (HB.out _ _).size hb), hby, (HB.out _ _).trans (hb.mono (HB.out _ _).size)⟩

set_option maxRecDepth 100000 in
theorem first_pk (n : Nat) (A : Option Addr) (c : Nat) (l : List VC) (ps : List Val) (y : VC) (v : Val) (w : World) (Sp Sv : Nat → Prop) (hx : valRow w Sp n A c l ps) (hy : VIn w Sv n y v) (hM : ∀ p ∈ ps, p.size ≤ 2097152) :
    Calls Try.prog 19 #[.slice A l.length c, valV y] w fun e w' => e = .returned (.int .i64 (firstF n ps v)) ∧ Below w.heap.size w w' := by
  have HB := Lib.hid (show ∀ o1, Below w.heap.size w (w.alloc o1) from fun _ => (Below.refl _ _).alloc (Nat.le_refl _) _)
  have HI := Lib.hid (fun o1 => firstA_any n A c l ps y v (w.alloc o1) _ _ (hx.lt.below (HB.out o1) fun _ h => h.2) (hy.lt.below (HB.out o1) fun _ h => h.2) hM)
  clear hx hy
  unfold valV at *
  generalize firstF n ps v = R at *
  go_enter Try.func19, Try.ntmps19
  go_wp2_with fail
  refine (HI.out _).mono ?_
  rintro e w1 ⟨A', c', l', rfl, _, hb⟩
  go_wp2_with fail
  go_ret
  exact ⟨rfl, (HB.out _).trans (hb.mono (HB.out _).size)⟩
end Go.Proofs.Ytdjahlkjfpbifaa
