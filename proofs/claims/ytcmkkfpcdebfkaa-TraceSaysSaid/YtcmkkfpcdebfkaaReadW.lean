/-
  The walk of roadref4.Read.
-/
import Derived.Test.YtcmkkfpcdebfkaaRead
namespace Go.Proofs.Ytcmkkfpcdebfkaa
open Go.RowKit

set_option maxRecDepth 100000 in
set_option maxHeartbeats 4000000 in
theorem readR (A : Option Addr) (c : Nat) (bs : List UInt8) (W : World) (h : ByIn W A c bs) (h4 : bs.length ≤ 4000) :
    Calls Try.prog 159 #[.slice A bs.length c] W fun e w' => ∃ v, e = .returned (.tuple #[v, .bool (readS bs).2]) ∧ w'.ownsRow W.heap.size 3 1 v (readS bs).1.length (ints (readS bs).1) ∧ (readS bs).1.length ≤ 4000 ∧ (∀ x ∈ (readS bs).1, 0 ≤ x ∧ x < 2097152) ∧ Below W.heap.size W w' := by
  have HIN := Lib.hid h
  obtain ⟨i0, hi0, hs0⟩ := by8_infoS
  have HI0 := Lib.hid (And.intro hi0 hs0)
  generalize hres : readS bs = res
  have HRES := Lib.hid hres
  clear h hi0 hs0 hres
  go_enter Try.func159, Try.ntmps159
  go_wp2_with fail
  go_loopg [0, 4] (bs.length + 1) (fun gk vb vo wr => ∃ (b : List UInt8) (A' : Option Addr) (c' : Nat) (L : List Int), gk = b.length + 1 ∧ b.length ≤ bs.length ∧ vb = .slice A' b.length c' ∧ Row wr W.heap.size A' (by8 b) ∧ (b.length ≤ c' ∧ c' ≤ maxLen) ∧ res = (L ++ (readS b).1, (readS b).2) ∧ wr.ownsRow W.heap.size 3 1 vo L.length (ints L) ∧ L.length + b.length ≤ bs.length ∧ (∀ x ∈ L, 0 ≤ x ∧ x < 2097152) ∧ Below W.heap.size W wr)
  case atStart => exact ⟨bs, A, c, [], rfl, Nat.le_refl _, rfl, HIN.out.row, ⟨HIN.out.le, HIN.out.cap⟩, HRES.out.symm, World.ownsRow_nil _ _ _ _, by simp, (fun x hx => by cases hx), Below.refl _ _⟩
  case round =>
    obtain ⟨b, A', c', L, hgk, hbl, rfl, hrow, hcap, hR, hown, hll, hrng, hb⟩ := hrel
    have HGK := Lib.hid hgk
    have HROW := Lib.hid hrow
    have HCAP := Lib.hid hcap
    have HR := Lib.hid hR
    have HOWN := Lib.hid hown
    have HRNG := Lib.hid hrng
    have HB := Lib.hid hb
    have hbs := hb.size
    clear hgk hrow hcap hR hown hrng hb
    by_cases hz : b.length = 0
    · have hbnil : b = [] := List.eq_nil_of_length_eq_zero hz
      subst hbnil
      have HE := Lib.hid (show res = (L, true) by rw [HR.out, readS_nil, List.append_nil])
      clear hz
      go_wp2_with fail
      go_ret2
      rw [HE.out]
      exact ⟨_, rfl, HOWN.out, by simp at hll ⊢; omega, HRNG.out, HB.out⟩
    have hbpos : 0 < b.length := by omega
    have d1 : decide ((0 : Int) < (b.length : Int)) = true := decide_eq_true (by omega)
    go_wp2_with fail
    obtain ⟨wo, hwo⟩ : ∃ wo, wo = wr := ⟨_, rfl⟩
    subst hwo
    go_loopg [5] b.length (fun gk vk wr => ∃ k : Nat, gk = b.length - k ∧ k ≤ b.length ∧ vk = .int .i64 k ∧ HiTo b k ∧ wr = wo)
    case atStart => exact ⟨0, by omega, by omega, rfl, (fun i hi => by omega), rfl⟩
    case round =>
      obtain ⟨k, hgk, hk, rfl, hhi, rfl⟩ := hrel
      have HK := Lib.hid hgk
      have HHI := Lib.hid hhi
      clear hgk hhi
      by_cases hkl : k = b.length
      · have HNONE := Lib.hid (show numS b = none from num_all (by rw [← hkl]; exact HHI.out))
        have HE := Lib.hid (show res = (L, false) by rw [HR.out, readS_none hz HNONE.out, List.append_nil])
        have e1 : decide ((k : Int) < (b.length : Int)) = false := decide_eq_false (by omega)
        have e2 : ((k : Int) == (b.length : Int)) = true := by rw [beq_iff_eq]; omega
        have e2' : (k == b.length) = true := by rw [beq_iff_eq]; exact hkl
        have e1' : decide (k < b.length) = false := decide_eq_false (by omega)
        clear hkl
        go_wp2_with fail
        go_ret2
        rw [HE.out]
        exact ⟨_, rfl, HOWN.out, by dsimp only; omega, HRNG.out, HB.out⟩
      have hklt : k < b.length := by omega
      have e1 : decide ((k : Int) < (b.length : Int)) = true := decide_eq_true (by omega)
      have e1' : decide (k < b.length) = true := decide_eq_true hklt
      have e2 : ((k : Int) == (b.length : Int)) = false := by rw [beq_eq_false_iff_ne]; omega
      have e2' : (k == b.length) = false := by rw [beq_eq_false_iff_ne]; omega
      obtain ⟨bb, oo, hA, hbb, hcell⟩ := HROW.out.by8 hklt
      have HLT := Lib.hid ((b.getD k 0).toNat_lt)
      have HSUCC := Lib.hid (show 128 ≤ (b.getD k 0).toNat → HiTo b (k + 1) from fun h i hi => by
        by_cases e : i = k
        · subst e; exact h
        · exact HHI.out i (by omega))
      have HZ := Lib.hid (fun h0 hzz => num_zero HHI.out hklt h0 hzz)
      have HL := Lib.hid (fun h3 => num_long HHI.out hklt h3)
      have HS := Lib.hid (fun h2 hlo hzz => num_some HHI.out hklt h2 hlo hzz)
      generalize hv : (b.getD k 0).toNat = v at *
      have HV := Lib.hid hv
      clear hv
      by_cases hhi : 128 ≤ v
      · have e3 : decide ((127 : Int) < (v : Int)) = true := decide_eq_true (by omega)
        subst hA
        go_wp2_with fail
        go_roundg (b.length - (k + 1))
        case measure => have := HK.out; omega
        case rel => exact ⟨k + 1, rfl, by omega, by go_num, HSUCC.out hhi, rfl⟩
      · have e3 : decide ((127 : Int) < (v : Int)) = false := decide_eq_false (by omega)
        by_cases hbad : 2 < k ∨ (0 < k ∧ v = 0)
        · have HNONE := Lib.hid (show numS b = none by
            rcases hbad with h1 | ⟨h1, h2⟩
            · exact HL.out h1
            · exact HZ.out h1 h2)
          have HE := Lib.hid (show res = (L, false) by rw [HR.out, readS_none hz HNONE.out, List.append_nil])
          subst hA
          by_cases h3 : 2 < k
          · have e4 : decide ((2 : Int) < (k : Int)) = true := decide_eq_true (by omega)
            have e4' : decide (2 < k) = true := decide_eq_true h3
            clear hbad h3 hkl
            go_wp2_with fail
            go_ret2
            rw [HE.out]
            exact ⟨_, rfl, HOWN.out, by dsimp only; omega, HRNG.out, HB.out⟩
          · have e4 : decide ((2 : Int) < (k : Int)) = false := decide_eq_false (by omega)
            have e4' : decide (2 < k) = false := decide_eq_false h3
            have hk0 : 0 < k := by omega
            have hv0 : v = 0 := by omega
            subst hv0
            have e5 : decide ((0 : Int) < (k : Int)) = true := decide_eq_true (by omega)
            clear hbad h3 hkl
            go_wp2_with fail
            go_ret2
            rw [HE.out]
            exact ⟨_, rfl, HOWN.out, by dsimp only; omega, HRNG.out, HB.out⟩
        · have hk2 : k ≤ 2 := by omega
          have HSOME := Lib.hid (HS.out hk2 (by omega) (by omega))
          have e4 : decide ((2 : Int) < (k : Int)) = false := decide_eq_false (by omega)
          have e4' : decide (2 < k) = false := decide_eq_false (by omega)
          subst hA
          by_cases hk0 : 0 < k
          · have e5 : decide ((0 : Int) < (k : Int)) = true := decide_eq_true (by omega)
            have e6 : ((v : Int) == 0) = false := by rw [beq_eq_false_iff_ne]; omega
            have e6' : (v == 0) = false := by rw [beq_eq_false_iff_ne]; omega
            go_wp2_with fail
            obtain ⟨wq, hwq⟩ : ∃ wq, wq = wr := ⟨_, rfl⟩
            subst hwq
            go_loopg [6, 7] (k + 1) (fun gk v6 v7 wr => ∃ (d : Nat) (q : Int), gk = k + 1 - d ∧ d ≤ k + 1 ∧ q = (k : Int) - d ∧ v7 = .int .i64 q ∧ v6 = .int .i64 (hvS b k d : Int) ∧ wr = wq)
            case atStart => exact ⟨0, k, by omega, by omega, by omega, rfl, rfl, rfl⟩
            case round =>
              obtain ⟨d, q, hgk, hd, hq, rfl, rfl, rfl⟩ := hrel
              have HD := Lib.hid hgk
              have hrngs := hvS_lt b k
              clear hgk
              by_cases hdk : d = k + 1
              · obtain rfl : q = -1 := by omega
                subst hdk
                obtain ⟨i0, hinfo⟩ : ∃ i0 : TypeInfo, Try.prog.info? 5 = some i0 ∧ i0.size = 1 := by8_infoS
                obtain ⟨o', hrun, ho'⟩ := slice_from (P := Try.prog) (b := bb) (o := oo) (k := k + 1) Try.underlying137 hinfo.1 hinfo.2 (show k + 1 ≤ b.length by omega) HCAP.out.1
                have hrun2 : ∀ w, (Instr.slice 137 (.slice (some ⟨bb, oo, none⟩) b.length c') (some (.int .i64 ((k : Int) + 1))) none none).run Try.prog w = .ok (.slice (some ⟨bb, o', none⟩) (b.length - (k + 1)) (c' - (k + 1))) w := hrun
                have HROW2 := Lib.hid (show Row wr W.heap.size (some ⟨bb, o', none⟩) (by8 (b.drop (k + 1))) by
                  have := HROW.out.dropAt (o' := o') (k := k + 1) (by rw [by8_len]; exact ho')
                  rwa [show (by8 b).drop (k + 1) = by8 (b.drop (k + 1)) by simp [by8]] at this)
                have hnl : hvS b k (k + 1) < 2097152 := by
                  rcases (show k = 0 ∨ k = 1 ∨ k = 2 by omega) with rfl | rfl | rfl
                  · exact Nat.lt_trans hrngs.2.1 (by decide)
                  · exact Nat.lt_trans hrngs.2.2.1 (by decide)
                  · exact hrngs.2.2.2
                have HR2 := Lib.hid (show res = ((L ++ [(hvS b k (k + 1) : Int)]) ++ (readS (b.drop (k + 1))).1, (readS (b.drop (k + 1))).2) by rw [HR.out, readS_some HSOME.out]; simp)
                have HDL := Lib.hid (show (b.drop (k + 1)).length = b.length - (k + 1) from List.length_drop ..)
                have HNL := Lib.hid hnl
                have hown := HOWN.out
                clear hinfo hrun ho' hq hrngs hnl
                generalize hvS b k (k + 1) = nn at *
                go_wp2_with (at_builtin; refine wpList_push rfl (.tmp 58) (.tmp 60) rfl W.heap.size _ L rfl (hown.alloc _) wr.heap.size (nn : Int) rfl ((Box.new _ _ _).cell 0) (by omega) (Nat.le_trans hbs (by simp)) ?_; intro v' w6 hown' hg')
                have HB6 := Lib.hid ((HB.out.alloc hbs _).grown hg' (Nat.le_trans hbs (by simp)) (fun g hq => (HOWN.out.lt g hq).1))
                have HO6 := Lib.hid hown'
                have HROW6 := Lib.hid (show Row w6 W.heap.size (some ⟨bb, o', none⟩) (by8 (b.drop (k + 1))) from HROW2.out.keep fun p hp => ((HB6.out.cell hp).trans (HB.out.cell hp).symm))
                clear hown hown' hg'
                go_roundg ((b.drop (k + 1)).length + 1)
                case measure => have := HGK.out; have := HDL.out; omega
                case rel => exact ⟨b.drop (k + 1), _, _, L ++ [(nn : Int)], rfl, by rw [HDL.out]; omega, by rw [HDL.out], HROW6.out, ⟨by rw [HDL.out]; have := HCAP.out.1; omega, by have := HCAP.out.2; omega⟩, HR2.out, HO6.out, by rw [HDL.out, List.length_append, List.length_singleton]; omega, (fun x hx => by
                  rcases List.mem_append.1 hx with hx | hx
                  · exact HRNG.out x hx
                  · simp only [List.mem_singleton] at hx; subst hx; have := HNL.out; omega), HB6.out⟩
              · obtain ⟨i, rfl⟩ : ∃ i : Nat, q = i := ⟨q.toNat, by omega⟩
                have hik : i = k - d := by omega
                obtain ⟨b2, o2, hA2, hbb2, hcell2⟩ := HROW.out.by8 (i := i) (by omega)
                obtain ⟨rfl, rfl⟩ : b2 = bb ∧ o2 = oo := by simp at hA2; exact ⟨hA2.1.symm, hA2.2.symm⟩
                have HLT2 := Lib.hid ((b.getD i 0).toNat_lt)
                have HHV := Lib.hid (show hvS b k (d + 1) = hvS b k d * 128 + (b.getD i 0).toNat % 128 by rw [hik]; rfl)
                have hn1 : hvS b k d < 16384 := by
                  rcases (show d = 0 ∨ d = 1 ∨ d = 2 by omega) with rfl | rfl | rfl <;> omega
                generalize (b.getD i 0).toNat = z at *
                have hz256 : z < 256 := HLT2.out
                have hil : i < b.length := by omega
                have HIK := Lib.hid hik
                have hdk' : d ≤ k := by omega
                clear hq hik hA2 hdk hrngs
                generalize hvS b k d = nn at *
                go_wp2_with fail
                go_roundg (k + 1 - (d + 1))
                case measure => have := HD.out; omega
                case rel => exact ⟨d + 1, (i : Int) - 1, rfl, by omega, by have := HIK.out; omega, rfl, by rw [HHV.out]; congr 1, rfl⟩
          · have e5 : decide ((0 : Int) < (k : Int)) = false := decide_eq_false (by omega)
            go_wp2_with fail
            obtain ⟨wq, hwq⟩ : ∃ wq, wq = wr := ⟨_, rfl⟩
            subst hwq
            go_loopg [6, 7] (k + 1) (fun gk v6 v7 wr => ∃ (d : Nat) (q : Int), gk = k + 1 - d ∧ d ≤ k + 1 ∧ q = (k : Int) - d ∧ v7 = .int .i64 q ∧ v6 = .int .i64 (hvS b k d : Int) ∧ wr = wq)
            case atStart => exact ⟨0, k, by omega, by omega, by omega, rfl, rfl, rfl⟩
            case round =>
              obtain ⟨d, q, hgk, hd, hq, rfl, rfl, rfl⟩ := hrel
              have HD := Lib.hid hgk
              have hrngs := hvS_lt b k
              clear hgk
              by_cases hdk : d = k + 1
              · obtain rfl : q = -1 := by omega
                subst hdk
                obtain ⟨i0, hinfo⟩ : ∃ i0 : TypeInfo, Try.prog.info? 5 = some i0 ∧ i0.size = 1 := by8_infoS
                obtain ⟨o', hrun, ho'⟩ := slice_from (P := Try.prog) (b := bb) (o := oo) (k := k + 1) Try.underlying137 hinfo.1 hinfo.2 (show k + 1 ≤ b.length by omega) HCAP.out.1
                have hrun2 : ∀ w, (Instr.slice 137 (.slice (some ⟨bb, oo, none⟩) b.length c') (some (.int .i64 ((k : Int) + 1))) none none).run Try.prog w = .ok (.slice (some ⟨bb, o', none⟩) (b.length - (k + 1)) (c' - (k + 1))) w := hrun
                have HROW2 := Lib.hid (show Row wr W.heap.size (some ⟨bb, o', none⟩) (by8 (b.drop (k + 1))) by
                  have := HROW.out.dropAt (o' := o') (k := k + 1) (by rw [by8_len]; exact ho')
                  rwa [show (by8 b).drop (k + 1) = by8 (b.drop (k + 1)) by simp [by8]] at this)
                have hnl : hvS b k (k + 1) < 2097152 := by
                  rcases (show k = 0 ∨ k = 1 ∨ k = 2 by omega) with rfl | rfl | rfl
                  · exact Nat.lt_trans hrngs.2.1 (by decide)
                  · exact Nat.lt_trans hrngs.2.2.1 (by decide)
                  · exact hrngs.2.2.2
                have HR2 := Lib.hid (show res = ((L ++ [(hvS b k (k + 1) : Int)]) ++ (readS (b.drop (k + 1))).1, (readS (b.drop (k + 1))).2) by rw [HR.out, readS_some HSOME.out]; simp)
                have HDL := Lib.hid (show (b.drop (k + 1)).length = b.length - (k + 1) from List.length_drop ..)
                have HNL := Lib.hid hnl
                have hown := HOWN.out
                clear hinfo hrun ho' hq hrngs hnl
                generalize hvS b k (k + 1) = nn at *
                go_wp2_with (at_builtin; refine wpList_push rfl (.tmp 58) (.tmp 60) rfl W.heap.size _ L rfl (hown.alloc _) wr.heap.size (nn : Int) rfl ((Box.new _ _ _).cell 0) (by omega) (Nat.le_trans hbs (by simp)) ?_; intro v' w6 hown' hg')
                have HB6 := Lib.hid ((HB.out.alloc hbs _).grown hg' (Nat.le_trans hbs (by simp)) (fun g hq => (HOWN.out.lt g hq).1))
                have HO6 := Lib.hid hown'
                have HROW6 := Lib.hid (show Row w6 W.heap.size (some ⟨bb, o', none⟩) (by8 (b.drop (k + 1))) from HROW2.out.keep fun p hp => ((HB6.out.cell hp).trans (HB.out.cell hp).symm))
                clear hown hown' hg'
                go_roundg ((b.drop (k + 1)).length + 1)
                case measure => have := HGK.out; have := HDL.out; omega
                case rel => exact ⟨b.drop (k + 1), _, _, L ++ [(nn : Int)], rfl, by rw [HDL.out]; omega, by rw [HDL.out], HROW6.out, ⟨by rw [HDL.out]; have := HCAP.out.1; omega, by have := HCAP.out.2; omega⟩, HR2.out, HO6.out, by rw [HDL.out, List.length_append, List.length_singleton]; omega, (fun x hx => by
                  rcases List.mem_append.1 hx with hx | hx
                  · exact HRNG.out x hx
                  · simp only [List.mem_singleton] at hx; subst hx; have := HNL.out; omega), HB6.out⟩
              · obtain ⟨i, rfl⟩ : ∃ i : Nat, q = i := ⟨q.toNat, by omega⟩
                have hik : i = k - d := by omega
                obtain ⟨b2, o2, hA2, hbb2, hcell2⟩ := HROW.out.by8 (i := i) (by omega)
                obtain ⟨rfl, rfl⟩ : b2 = bb ∧ o2 = oo := by simp at hA2; exact ⟨hA2.1.symm, hA2.2.symm⟩
                have HLT2 := Lib.hid ((b.getD i 0).toNat_lt)
                have HHV := Lib.hid (show hvS b k (d + 1) = hvS b k d * 128 + (b.getD i 0).toNat % 128 by rw [hik]; rfl)
                have hn1 : hvS b k d < 16384 := by
                  rcases (show d = 0 ∨ d = 1 ∨ d = 2 by omega) with rfl | rfl | rfl <;> omega
                generalize (b.getD i 0).toNat = z at *
                have hz256 : z < 256 := HLT2.out
                have hil : i < b.length := by omega
                have HIK := Lib.hid hik
                have hdk' : d ≤ k := by omega
                clear hq hik hA2 hdk hrngs
                generalize hvS b k d = nn at *
                go_wp2_with fail
                go_roundg (k + 1 - (d + 1))
                case measure => have := HD.out; omega
                case rel => exact ⟨d + 1, (i : Int) - 1, rfl, by omega, by have := HIK.out; omega, rfl, by rw [HHV.out]; congr 1, rfl⟩
end Go.Proofs.Ytcmkkfpcdebfkaa
