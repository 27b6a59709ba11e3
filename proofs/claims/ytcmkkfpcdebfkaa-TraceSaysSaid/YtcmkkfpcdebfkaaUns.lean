/-
  Package wire: a number read.
-/
import Derived.Test.YtcmkkfpcdebfkaaRdr
namespace Go.Proofs.Ytcmkkfpcdebfkaa
open Go.RowKit

/-- A number of at most three bytes, of the right form, and what is left. -/
def numS : List UInt8 → Option (Nat × List UInt8)
  | [] => none
  | b0 :: t => if b0.toNat < 128 then some (b0.toNat, t) else
    match t with
    | [] => none
    | b1 :: t1 => if b1.toNat < 128 then (if b1.toNat = 0 then none else some (b0.toNat % 128 + 128 * b1.toNat, t1)) else
      match t1 with
      | [] => none
      | b2 :: t2 => if b2.toNat < 128 then (if b2.toNat = 0 then none else some (b0.toNat % 128 + 128 * (b1.toNat % 128) + 16384 * b2.toNat, t2)) else none
def Hi (pre : List UInt8) : Prop := ∀ b ∈ pre, 128 ≤ b.toNat
theorem Hi.snoc {pre : List UInt8} {y : UInt8} (h : Hi pre) (hy : 128 ≤ y.toNat) : Hi (pre ++ [y]) := fun b hb => by
  rcases List.mem_append.1 hb with hb | hb
  · exact h b hb
  · simp at hb; subst hb; exact hy
def valP : List UInt8 → Nat
  | [b0] => b0.toNat % 128
  | [b0, b1] => b0.toNat % 128 + 128 * (b1.toNat % 128)
  | _ => 0
theorem numS_hi : ∀ {pre : List UInt8}, Hi pre → numS pre = none
  | [], _ => rfl
  | [b0], h => by
    have h0 := h b0 (by simp)
    simp only [numS, if_neg (show ¬ b0.toNat < 128 by omega)]
  | [b0, b1], h => by
    have h0 := h b0 (by simp)
    have h1 := h b1 (by simp)
    simp only [numS, if_neg (show ¬ b0.toNat < 128 by omega), if_neg (show ¬ b1.toNat < 128 by omega)]
  | b0 :: b1 :: b2 :: t, h => by
    have h0 := h b0 (by simp)
    have h1 := h b1 (by simp)
    have h2 := h b2 (by simp)
    simp only [numS, if_neg (show ¬ b0.toNat < 128 by omega), if_neg (show ¬ b1.toNat < 128 by omega), if_neg (show ¬ b2.toNat < 128 by omega)]
theorem numS_long : ∀ {pre r : List UInt8}, Hi pre → 3 ≤ pre.length → numS (pre ++ r) = none
  | b0 :: b1 :: b2 :: t, r, h, _ => by
    have h0 := h b0 (by simp)
    have h1 := h b1 (by simp)
    have h2 := h b2 (by simp)
    simp only [List.cons_append, numS, if_neg (show ¬ b0.toNat < 128 by omega), if_neg (show ¬ b1.toNat < 128 by omega), if_neg (show ¬ b2.toNat < 128 by omega)]
  | [], r, _, h => by simp at h
  | [b0], r, _, h => by simp at h
  | [b0, b1], r, _, h => by simp at h
theorem numS_zero {pre r : List UInt8} {y : UInt8} (h : Hi pre) (hp : 0 < pre.length) (hy : y.toNat = 0) : numS (pre ++ y :: r) = none := by
  match pre, h, hp with
  | [b0], h, _ =>
    have h0 := h b0 (by simp)
    simp only [List.cons_append, List.nil_append, numS, if_neg (show ¬ b0.toNat < 128 by omega), if_pos (show y.toNat < 128 by omega), if_pos hy]
  | [b0, b1], h, _ =>
    have h0 := h b0 (by simp)
    have h1 := h b1 (by simp)
    simp only [List.cons_append, List.nil_append, numS, if_neg (show ¬ b0.toNat < 128 by omega), if_neg (show ¬ b1.toNat < 128 by omega), if_pos (show y.toNat < 128 by omega), if_pos hy]
  | b0 :: b1 :: b2 :: t, h, _ => exact numS_long h (by simp)
theorem numS_some {pre r : List UInt8} {y : UInt8} (h : Hi pre) (hp : pre.length ≤ 2) (hy : y.toNat < 128) (h0 : 0 < pre.length → y.toNat ≠ 0) : numS (pre ++ y :: r) = some (valP pre + y.toNat * 128 ^ pre.length, r) := by
  match pre, h, hp, h0 with
  | [], _, _, _ => simp [numS, hy, valP]
  | [b0], h, _, h0 =>
    have hb0 := h b0 (by simp)
    simp only [List.cons_append, List.nil_append, numS, if_neg (show ¬ b0.toNat < 128 by omega), if_pos hy, if_neg (h0 (by simp)), valP, List.length_singleton]
    congr 2
    omega
  | [b0, b1], h, _, h0 =>
    have hb0 := h b0 (by simp)
    have hb1 := h b1 (by simp)
    simp only [List.cons_append, List.nil_append, numS, if_neg (show ¬ b0.toNat < 128 by omega), if_neg (show ¬ b1.toNat < 128 by omega), if_pos hy, if_neg (h0 (by simp)), valP, List.length_cons, List.length_nil]
    congr 2
    omega
/-- What a read answers, and leaves. -/
structure UnsIs (bs : List UInt8) (u : Int) (bs' : List UInt8) (bad' : Bool) : Prop where
  yes : ∀ n rest, numS bs = some (n, rest) → u = (n : Int) ∧ bs' = rest ∧ bad' = false
  no : numS bs = none → (0 ≤ u ∧ u ≤ 18446744073709551615) ∧ bs'.length ≤ bs.length ∧ (bad' = true ∨ bs'.length + 3 < bs.length)
theorem UnsIs.bad {bs bs' : List UInt8} (h : numS bs = none) (hl : bs'.length ≤ bs.length) : UnsIs bs 0 bs' true :=
  ⟨(fun n r hn => by rw [h] at hn; cases hn), fun _ => ⟨by omega, hl, .inl rfl⟩⟩

theorem u64_rng (a b : Int) : 0 ≤ bits .or .u64 a b ∧ bits .or .u64 a b ≤ 18446744073709551615 := by
  have := wf_bits .or .u64 a b
  simpa [Lit.wf, IntKind.min, IntKind.max, IntKind.signed, IntKind.bits] using this
theorem or_shift0 {v : Nat} (hv : v < 128) : bits .or .u64 ((0 : Nat) : Int) (IntKind.u64.wrap ((v : Int) * 2 ^ (7 * 0))) = ((v : Nat) : Int) := by
  have e : IntKind.u64.wrap ((v : Int) * 2 ^ (7 * 0)) = ((v : Nat) : Int) := by
    rw [IntKind.wrap_u64, show (2 : Int) ^ (7 * 0) = 1 by decide]
    omega
  rw [e, u64_or_nat _ _ (by omega) (by omega), Nat.zero_or]
theorem or_shift1 {U v : Nat} (hU : U < 128) (hv : v < 128) : bits .or .u64 (U : Int) (IntKind.u64.wrap ((v : Int) * 2 ^ (7 * 1))) = ((U + v * 128 : Nat) : Int) := by
  have e : IntKind.u64.wrap ((v : Int) * 2 ^ (7 * 1)) = ((v * 128 : Nat) : Int) := by
    rw [IntKind.wrap_u64, show (2 : Int) ^ (7 * 1) = 128 by decide]
    omega
  rw [e, u64_or_nat _ _ (by omega) (by omega), nat_join7' (v * 128) U (by omega) hU, Nat.add_comm]
theorem or_shift2 {U v : Nat} (hU : U < 16384) (hv : v < 128) : bits .or .u64 (U : Int) (IntKind.u64.wrap ((v : Int) * 2 ^ (7 * 2))) = ((U + v * 16384 : Nat) : Int) := by
  have e : IntKind.u64.wrap ((v : Int) * 2 ^ (7 * 2)) = ((v * 16384 : Nat) : Int) := by
    rw [IntKind.wrap_u64, show (2 : Int) ^ (7 * 2) = 16384 by decide]
    omega
  rw [e, u64_or_nat _ _ (by omega) (by omega), nat_join14' (v * 16384) U (by omega) hU, Nat.add_comm]
theorem and_low {v : Nat} (hv : v < 256) : bits .and .u64 (v : Int) 127 = ((v % 128 : Nat) : Int) := by
  rw [show (127 : Int) = ((127 : Nat) : Int) from rfl, u64_and_nat _ _ (by omega) (by omega)]
  congr 1
  exact Nat.and_two_pow_sub_one_eq_mod v 7
theorem or_last : ∀ {pre : List UInt8} {v : Nat}, pre.length ≤ 2 → v < 128 → bits .or .u64 (valP pre : Int) (IntKind.u64.wrap ((v : Int) * 2 ^ (7 * pre.length))) = ((valP pre + v * 128 ^ pre.length : Nat) : Int)
  | [], v, _, hv => by
    rw [show valP [] + v * 128 ^ ([] : List UInt8).length = v by simp [valP]]
    exact or_shift0 hv
  | [b0], v, _, hv => by
    rw [show valP [b0] + v * 128 ^ [b0].length = b0.toNat % 128 + v * 128 by simp [valP]]
    exact or_shift1 (Nat.mod_lt _ (by decide)) hv
  | [b0, b1], v, _, hv => by
    rw [show valP [b0, b1] + v * 128 ^ [b0, b1].length = (b0.toNat % 128 + 128 * (b1.toNat % 128)) + v * 16384 by simp [valP]]
    exact or_shift2 (U := b0.toNat % 128 + 128 * (b1.toNat % 128)) (by omega) hv
/-- A last byte, as the read answers it. -/
theorem UnsIs.last {bs pre r : List UInt8} {y : UInt8} {U : Int} (hbs : bs = pre ++ y :: r) (h : Hi pre) (hU : pre.length ≤ 2 → U = (valP pre : Int)) (hy : y.toNat < 128) (h0 : 0 < pre.length → y.toNat ≠ 0) :
    UnsIs bs (bits .or .u64 U (IntKind.u64.wrap ((y.toNat : Int) * 2 ^ (7 * pre.length)))) r false := by
  subst hbs
  by_cases hp : pre.length ≤ 2
  · have hs := numS_some h hp hy h0 (r := r)
    refine ⟨fun n rest hn => ?_, fun hn => by rw [hs] at hn; cases hn⟩
    rw [hs] at hn
    simp only [Option.some.injEq, Prod.mk.injEq] at hn
    obtain ⟨rfl, rfl⟩ := hn
    rw [hU hp]
    exact ⟨or_last hp hy, rfl, rfl⟩
  · have hs := numS_long h (r := y :: r) (by omega)
    refine ⟨(fun n rest hn => by rw [hs] at hn; cases hn), fun _ => ⟨u64_rng _ _, by simp; omega, .inr (by simp; omega)⟩⟩
theorem valP_next {pre : List UInt8} {y : UInt8} {U : Int} (hU : pre.length ≤ 2 → U = (valP pre : Int)) (hn : (pre ++ [y]).length ≤ 2) :
    bits .or .u64 U (IntKind.u64.wrap (bits .and .u64 (y.toNat : Int) 127 * 2 ^ (7 * pre.length))) = (valP (pre ++ [y]) : Int) := by
  have hy := y.toNat_lt
  have hp : pre.length ≤ 1 := by rw [List.length_append, List.length_singleton] at hn; omega
  rw [and_low hy, hU (by omega), or_last (by omega) (Nat.mod_lt _ (by decide))]
  rcases pre with _ | ⟨b0, _ | ⟨b1, t⟩⟩
  · simp [valP]
  · simp [valP]
    omega
  · simp at hp

set_option maxRecDepth 100000 in
set_option maxHeartbeats 4000000 in
theorem unsignedR (g B : Nat) (bs : List UInt8) (w : World) (h : Rdr w B g bs false) (hB : B ≤ g) (hw : B ≤ w.heap.size) :
    Calls Try.prog 219 #[.pointer (some ⟨g, 0, none⟩)] w fun e w' => ∃ u bs' bad', e = .returned (.int .u64 u) ∧ UnsIs bs u bs' bad' ∧ Rdr w' B g bs' bad' ∧ Only (fun b => b = g) w w' := by
  have HR := Lib.hid h
  clear h
  go_enter Try.func219, Try.ntmps219
  go_wp2_with fail
  go_loopg [3, 4] 11 (fun gk u s wr => ∃ (j : Nat) (pre r : List UInt8) (U : Int), gk = 11 - j ∧ j ≤ 10 ∧ s = .int .i64 (7 * (j : Int)) ∧ u = .int .u64 U ∧ bs = pre ++ r ∧ pre.length = j ∧ Hi pre ∧ (0 ≤ U ∧ U ≤ 18446744073709551615) ∧ (j ≤ 2 → U = (valP pre : Int)) ∧ Rdr wr B g r false ∧ Only (fun b => b = g) w wr)
  case atStart => exact ⟨0, [], bs, 0, rfl, by omega, rfl, rfl, rfl, rfl, (fun b hb => by cases hb), by omega, (fun _ => rfl), HR.out, Only.refl _ _⟩
  case round =>
    clear HR
    obtain ⟨j, pre, r, U, hgk, hj, rfl, rfl, hbs, hpl, hhi, hU, hUv, hrd, hon⟩ := hrel
    have HK := Lib.hid hgk
    have HBS := Lib.hid hbs
    have HPL := Lib.hid hpl
    have HHI := Lib.hid hhi
    have HUV := Lib.hid hUv
    have HON := Lib.hid hon
    have hwr : B ≤ wr.heap.size := Nat.le_trans hw hon.size
    clear hgk hbs hpl hhi hUv hon
    by_cases hj10 : j = 10
    · subst hj10
      have d0 : decide ((7 * ((10 : Nat) : Int)) < 64) = false := by decide
      have HBAD := Lib.hid (show UnsIs bs 0 r true from UnsIs.bad (by rw [HBS.out]; exact numS_long HHI.out (by rw [HPL.out]; decide)) (by rw [HBS.out]; simp))
      obtain ⟨A, c, hbx, hrow, hc⟩ := hrd
      have c1 := hbx.cell 1
      have f1 := hbx.frozen 1
      simp only [List.getElem?_toArray, List.getElem?_cons_zero, List.getElem?_cons_succ] at c1
      have hO : Only (fun b => b = g) wr (wr.setCell ⟨g, 1, none⟩ (.bool true)) := (Only.refl (fun b => b = g) wr).set (p := ⟨g, 1, none⟩) rfl _
      have HO := Lib.hid (HON.out.trans hO)
      have HR := Lib.hid (show Rdr (wr.setCell ⟨g, 1, none⟩ (.bool true)) B g r true from ⟨A, c, hbx.set 1 (.bool true), hrow.keep fun p hp => World.cell?_of_block (hO.block p.block (by omega) (by omega)), hc⟩)
      clear hbx hrow hO hc hU
      go_wp2_with fail
      go_ret
      exact ⟨0, r, true, rfl, HBAD.out, HR.out, HO.out⟩
    have hj9 : j ≤ 9 := by omega
    have d1 : decide (7 * (j : Int) < 64) = true := decide_eq_true (by omega)
    match r, hrd, HBS with
    | [], hrd, HBS =>
      have HBAD := Lib.hid (show UnsIs bs 0 [] true from UnsIs.bad (by rw [HBS.out, List.append_nil]; exact numS_hi HHI.out) (by simp))
      have HBY := Lib.hid (byte_end g B false wr hrd hB hwr)
      clear hrd hU
      go_wp2_with fail
      refine HBY.out.mono ?_
      rintro e w2 ⟨rfl, hr2, ho2⟩
      obtain ⟨A, c, hbx, hrow, hc⟩ := hr2
      have c1 := hbx.cell 1
      have f1 := hbx.frozen 1
      simp only [List.getElem?_toArray, List.getElem?_cons_zero, List.getElem?_cons_succ] at c1
      have hs2 := ho2.size
      have hO : Only (fun b => b = g) w2 (w2.setCell ⟨g, 1, none⟩ (.bool true)) := (Only.refl (fun b => b = g) w2).set (p := ⟨g, 1, none⟩) rfl _
      have HO := Lib.hid (HON.out.trans (ho2.trans hO))
      have HR := Lib.hid (show Rdr (w2.setCell ⟨g, 1, none⟩ (.bool true)) B g [] true from ⟨A, c, hbx.set 1 (.bool true), hrow.keep fun p hp => World.cell?_of_block (hO.block p.block (by omega) (by omega)), hc⟩)
      clear hbx hrow hO hc ho2
      go_wp2_with fail
      go_ret
      exact ⟨0, [], true, rfl, HBAD.out, HR.out, HO.out⟩
    | y :: r', hrd, HBS =>
      have HBY := Lib.hid (byte_more g B false y r' wr hrd hB hwr)
      have hylt := y.toNat_lt
      have HLAST := Lib.hid (UnsIs.last (U := U) HBS.out HHI.out (by rw [HPL.out]; exact HUV.out))
      rw [HPL.out] at HLAST
      have HNEXT := Lib.hid (fun hn => valP_next (pre := pre) (y := y) (U := U) (by rw [HPL.out]; exact HUV.out) hn)
      rw [HPL.out] at HNEXT
      have HSN := Lib.hid (fun h => HHI.out.snoc (y := y) h)
      have HZ := Lib.hid (fun (h : y.toNat = 0) (hj : 0 < j) => show UnsIs bs 0 r' true from UnsIs.bad (by rw [HBS.out]; exact numS_zero HHI.out (by rw [HPL.out]; exact hj) h) (by rw [HBS.out]; simp; omega))
      have HLG := Lib.hid (fun (hj : 3 ≤ j) => show UnsIs bs 0 r' true from UnsIs.bad (by rw [HBS.out]; exact numS_long HHI.out (by rw [HPL.out]; exact hj)) (by rw [HBS.out]; simp; omega))
      clear hrd
      generalize hv : y.toNat = v at *
      clear hj10 hU
      -- which way
      have hways : (0 < j ∧ v = 0) ∨ (j = 9 ∧ 1 < v) ∨ ((j = 9 → v ≤ 1) ∧ (0 < j → v ≠ 0)) := by omega
      by_cases hbad : (0 < j ∧ v = 0) ∨ (j = 9 ∧ 1 < v)
      · have HBAD := Lib.hid (show UnsIs bs 0 r' true by
          rcases hbad with ⟨h1, h2⟩ | ⟨h1, h2⟩
          · exact HZ.out h2 h1
          · exact HLG.out (by omega))
        have HBB := Lib.hid hbad
        clear hways hbad
        go_wp2_with fail
        refine HBY.out.mono ?_
        rintro e w2 ⟨rfl, hr2, ho2⟩
        obtain ⟨A, c, hbx, hrow, hc⟩ := hr2
        have c1 := hbx.cell 1
        have f1 := hbx.frozen 1
        simp only [List.getElem?_toArray, List.getElem?_cons_zero, List.getElem?_cons_succ] at c1
        have hs2 := ho2.size
        have hO : Only (fun b => b = g) w2 (w2.setCell ⟨g, 1, none⟩ (.bool true)) := (Only.refl (fun b => b = g) w2).set (p := ⟨g, 1, none⟩) rfl _
        have HO := Lib.hid (HON.out.trans (ho2.trans hO))
        have HR := Lib.hid (show Rdr (w2.setCell ⟨g, 1, none⟩ (.bool true)) B g r' true from ⟨A, c, hbx.set 1 (.bool true), hrow.keep fun p hp => World.cell?_of_block (hO.block p.block (by omega) (by omega)), hc⟩)
        clear hbx hrow hO hc ho2
        by_cases hj9' : j = 9
        · have d5 : (7 * (j : Int) == 63) = true := by rw [beq_iff_eq]; omega
          by_cases hv1 : 1 < v
          · have d6 : decide ((1 : Int) < (v : Int)) = true := decide_eq_true (by omega)
            have d7 : decide (1 < v) = true := decide_eq_true hv1
            clear hj9' hv1
            go_wp2_with fail
            go_ret
            exact ⟨0, r', true, rfl, HBAD.out, HR.out, HO.out⟩
          · have hv0 : v = 0 := by have := HBB.out; omega
            subst hv0
            have d8 : decide ((0 : Int) < 7 * (j : Int)) = true := decide_eq_true (by omega)
            clear hj9'
            go_wp2_with fail
            go_ret
            exact ⟨0, r', true, rfl, HBAD.out, HR.out, HO.out⟩
        · have d5 : (7 * (j : Int) == 63) = false := by rw [beq_eq_false_iff_ne]; omega
          have hv0 : v = 0 := by have := HBB.out; omega
          have hj0 : 0 < j := by have := HBB.out; omega
          subst hv0
          have d8 : decide ((0 : Int) < 7 * (j : Int)) = true := decide_eq_true (by omega)
          clear hj9'
          go_wp2_with fail
          go_ret
          exact ⟨0, r', true, rfl, HBAD.out, HR.out, HO.out⟩
      · have hgood : (j = 9 → v ≤ 1) ∧ (0 < j → v ≠ 0) := by omega
        clear hways hbad
        by_cases hlo : v < 128
        · have d9 : decide ((v : Int) < 128) = true := decide_eq_true (by omega)
          have HL := Lib.hid (HLAST.out hlo hgood.2)
          by_cases hj9' : j = 9
          · have d5 : (7 * (j : Int) == 63) = true := by rw [beq_iff_eq]; omega
            have d6 : decide ((1 : Int) < (v : Int)) = false := decide_eq_false (by omega)
            have d7 : decide (1 < v) = false := decide_eq_false (by omega)
            have d8 : decide ((0 : Int) < 7 * (j : Int)) = true := decide_eq_true (by omega)
            have d3 : ((v : Int) == 0) = false := by rw [beq_eq_false_iff_ne]; omega
            clear hgood hj9'
            go_wp2_with fail
            refine HBY.out.mono ?_
            rintro e w2 ⟨rfl, hr2, ho2⟩
            have HR := Lib.hid hr2
            obtain ⟨A, c, hbx, hrow, hc⟩ := hr2
            have c1 := hbx.cell 1
            simp only [List.getElem?_toArray, List.getElem?_cons_zero, List.getElem?_cons_succ] at c1
            have HO := Lib.hid (HON.out.trans ho2)
            clear hbx hrow hc ho2
            go_wp2_with fail
            go_ret
            exact ⟨_, r', false, rfl, HL.out, HR.out, HO.out⟩
          · have d5 : (7 * (j : Int) == 63) = false := by rw [beq_eq_false_iff_ne]; omega
            by_cases hj0 : 0 < j
            · have d8 : decide ((0 : Int) < 7 * (j : Int)) = true := decide_eq_true (by omega)
              have d3 : ((v : Int) == 0) = false := by rw [beq_eq_false_iff_ne]; omega
              clear hgood hj9'
              go_wp2_with fail
              refine HBY.out.mono ?_
              rintro e w2 ⟨rfl, hr2, ho2⟩
              have HR := Lib.hid hr2
              obtain ⟨A, c, hbx, hrow, hc⟩ := hr2
              have c1 := hbx.cell 1
              simp only [List.getElem?_toArray, List.getElem?_cons_zero, List.getElem?_cons_succ] at c1
              have HO := Lib.hid (HON.out.trans ho2)
              clear hbx hrow hc ho2
              go_wp2_with fail
              go_ret
              exact ⟨_, r', false, rfl, HL.out, HR.out, HO.out⟩
            · have d8 : decide ((0 : Int) < 7 * (j : Int)) = false := decide_eq_false (by omega)
              clear hgood hj9'
              go_wp2_with fail
              refine HBY.out.mono ?_
              rintro e w2 ⟨rfl, hr2, ho2⟩
              have HR := Lib.hid hr2
              obtain ⟨A, c, hbx, hrow, hc⟩ := hr2
              have c1 := hbx.cell 1
              simp only [List.getElem?_toArray, List.getElem?_cons_zero, List.getElem?_cons_succ] at c1
              have HO := Lib.hid (HON.out.trans ho2)
              clear hbx hrow hc ho2
              go_wp2_with fail
              go_ret
              exact ⟨_, r', false, rfl, HL.out, HR.out, HO.out⟩
        · have d9 : decide ((v : Int) < 128) = false := decide_eq_false (by omega)
          have hj9' : ¬ j = 9 := by omega
          have d5 : (7 * (j : Int) == 63) = false := by rw [beq_eq_false_iff_ne]; omega
          have d3 : ((v : Int) == 0) = false := by rw [beq_eq_false_iff_ne]; omega
          have HBS' := Lib.hid (show bs = (pre ++ [y]) ++ r' by rw [HBS.out]; simp)
          have HPL' := Lib.hid (show (pre ++ [y]).length = j + 1 by rw [List.length_append, HPL.out]; rfl)
          have HHI' := Lib.hid (HSN.out (by omega))
          have HNV := Lib.hid (show j + 1 ≤ 2 → bits .or .u64 U (IntKind.u64.wrap (bits .and .u64 (v : Int) 127 * 2 ^ (7 * j))) = (valP (pre ++ [y]) : Int) from fun h => HNEXT.out (by rw [HPL'.out]; exact h))
          clear hgood
          by_cases hj0 : 0 < j
          · have d8 : decide ((0 : Int) < 7 * (j : Int)) = true := decide_eq_true (by omega)
            go_wp2_with fail
            refine HBY.out.mono ?_
            rintro e w2 ⟨rfl, hr2, ho2⟩
            have HR := Lib.hid hr2
            obtain ⟨A, c, hbx, hrow, hc⟩ := hr2
            have c1 := hbx.cell 1
            simp only [List.getElem?_toArray, List.getElem?_cons_zero, List.getElem?_cons_succ] at c1
            have HO := Lib.hid (HON.out.trans ho2)
            clear hbx hrow hc ho2
            go_wp2_with fail
            go_roundg (11 - (j + 1))
            case measure => have := HK.out; omega
            case rel => exact ⟨j + 1, pre ++ [y], r', _, rfl, by omega, (by congr 1), rfl, HBS'.out, HPL'.out, HHI'.out, u64_rng _ _, HNV.out, HR.out, HO.out⟩
          · have d8 : decide ((0 : Int) < 7 * (j : Int)) = false := decide_eq_false (by omega)
            go_wp2_with fail
            refine HBY.out.mono ?_
            rintro e w2 ⟨rfl, hr2, ho2⟩
            have HR := Lib.hid hr2
            obtain ⟨A, c, hbx, hrow, hc⟩ := hr2
            have c1 := hbx.cell 1
            simp only [List.getElem?_toArray, List.getElem?_cons_zero, List.getElem?_cons_succ] at c1
            have HO := Lib.hid (HON.out.trans ho2)
            clear hbx hrow hc ho2
            go_wp2_with fail
            go_roundg (11 - (j + 1))
            case measure => have := HK.out; omega
            case rel => exact ⟨j + 1, pre ++ [y], r', _, rfl, by omega, (by congr 1), rfl, HBS'.out, HPL'.out, HHI'.out, u64_rng _ _, HNV.out, HR.out, HO.out⟩

/-- What Nat answers, and leaves. -/
structure NatIs (bs : List UInt8) (n : Int) (bs' : List UInt8) (bad' : Bool) : Prop where
  yes : ∀ m rest, numS bs = some (m, rest) → n = (m : Int) ∧ bs' = rest ∧ bad' = false
  no : numS bs = none → (0 ≤ n ∧ n ≤ 9223372036854775807) ∧ bs'.length ≤ bs.length ∧ (bad' = true ∨ bs'.length + 3 < bs.length)
theorem numS_lt : ∀ {bs : List UInt8} {m : Nat} {rest : List UInt8}, numS bs = some (m, rest) → m < 2097152 ∧ rest.length < bs.length ∧ bs.length ≤ rest.length + 3
  | [], _, _, h => by simp [numS] at h
  | b0 :: t, m, rest, h => by
    unfold numS at h
    dsimp only at h
    by_cases h0 : b0.toNat < 128
    · rw [if_pos h0] at h
      simp only [Option.some.injEq, Prod.mk.injEq] at h
      obtain ⟨rfl, rfl⟩ := h
      exact ⟨by omega, by simp, by simp⟩
    · rw [if_neg h0] at h
      match t, h with
      | [], h => cases h
      | b1 :: t1, h =>
        dsimp only at h
        by_cases h1 : b1.toNat < 128
        · rw [if_pos h1] at h
          split at h
          · cases h
          · simp only [Option.some.injEq, Prod.mk.injEq] at h
            obtain ⟨rfl, rfl⟩ := h
            exact ⟨by omega, by simp; omega, by simp⟩
        · rw [if_neg h1] at h
          match t1, h with
          | [], h => cases h
          | b2 :: t2, h =>
            dsimp only at h
            by_cases h2 : b2.toNat < 128
            · rw [if_pos h2] at h
              split at h
              · cases h
              · simp only [Option.some.injEq, Prod.mk.injEq] at h
                obtain ⟨rfl, rfl⟩ := h
                exact ⟨by omega, by simp; omega, by simp⟩
            · rw [if_neg h2] at h; cases h

set_option maxHeartbeats 1000000 in
theorem natR (g B : Nat) (bs : List UInt8) (w : World) (h : Rdr w B g bs false) (hB : B ≤ g) (hw : B ≤ w.heap.size) :
    Calls Try.prog 202 #[.pointer (some ⟨g, 0, none⟩)] w fun e w' => ∃ n bs' bad', e = .returned (.int .i64 n) ∧ NatIs bs n bs' bad' ∧ Rdr w' B g bs' bad' ∧ Only (fun b => b = g) w w' := by
  have HC := Lib.hid (unsignedR g B bs w h hB hw)
  clear h
  go_enter Try.func202, Try.ntmps202
  go_wp2_with fail
  refine HC.out.mono ?_
  rintro e w1 ⟨u, bs', bad', rfl, hu, hr, ho⟩
  have HU := Lib.hid hu
  have HR := Lib.hid hr
  have HO := Lib.hid ho
  have hs := ho.size
  have hrng : 0 ≤ u ∧ u ≤ 18446744073709551615 := by
    cases hn : numS bs with
    | none => exact (hu.no hn).1
    | some p =>
      obtain ⟨m, rest⟩ := p
      have h1 := (hu.yes m rest hn).1
      have h2 := (numS_lt hn).1
      omega
  clear hu hr ho HC
  by_cases hbig : 9223372036854775807 < u
  · have d1 : decide (9223372036854775807 < u) = true := decide_eq_true hbig
    have HN := Lib.hid (show NatIs bs 0 bs' true from ⟨fun m rest hn => by
        have h1 := (HU.out.yes m rest hn).1
        have h2 := (numS_lt hn).1
        omega, fun hn => ⟨by omega, (HU.out.no hn).2.1, .inl rfl⟩⟩)
    obtain ⟨A, c, hbx, hrow, hc⟩ := HR.out
    have c1 := hbx.cell 1
    have f1 := hbx.frozen 1
    simp only [List.getElem?_toArray, List.getElem?_cons_zero, List.getElem?_cons_succ] at c1
    have hO : Only (fun b => b = g) w1 (w1.setCell ⟨g, 1, none⟩ (.bool true)) := (Only.refl (fun b => b = g) w1).set (p := ⟨g, 1, none⟩) rfl _
    have HO2 := Lib.hid (HO.out.trans hO)
    have HR2 := Lib.hid (show Rdr (w1.setCell ⟨g, 1, none⟩ (.bool true)) B g bs' true from ⟨A, c, hbx.set 1 (.bool true), hrow.keep fun p hp => World.cell?_of_block (hO.block p.block (by omega) (by omega)), hc⟩)
    clear hbx hrow hO hc hbig hrng
    go_wp2_with fail
    go_ret
    exact ⟨0, bs', true, rfl, HN.out, HR2.out, HO2.out⟩
  · have d1 : decide (9223372036854775807 < u) = false := decide_eq_false hbig
    have HN := Lib.hid (show NatIs bs u bs' bad' from ⟨HU.out.yes, fun hn => ⟨by omega, (HU.out.no hn).2⟩⟩)
    have hu1 : 0 ≤ u := hrng.1
    have hu2 : u ≤ 9223372036854775807 := by omega
    clear hrng hbig
    go_wp2_with fail
    go_ret
    exact ⟨u, bs', bad', rfl, HN.out, HR.out, HO.out⟩
end Go.Proofs.Ytcmkkfpcdebfkaa
