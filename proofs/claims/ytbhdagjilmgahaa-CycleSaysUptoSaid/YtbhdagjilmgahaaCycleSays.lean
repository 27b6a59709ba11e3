
/-
  CycleSays: the law's walk.
-/
import Derived.Test.YtbhdagjilmgahaaKn11
import Derived.Test.YtbhdagjilmgahaaHeldC
namespace Go.Proofs.Ytbhdagjilmgahaa
open Go.RowKit

def K3 (g1 g2 : Nat) : List KnC := [⟨7, false, false, some ⟨g1, 0, none⟩, 1, [8]⟩, ⟨8, false, false, some ⟨g2, 0, none⟩, 1, [7]⟩, ⟨3, false, true, none, 0, []⟩]
theorem k3_knows (g1 g2 : Nat) : knowsF (K3 g1 g2) = 0 := by
  unfold knowsF
  rw [if_neg (by simp [K3]), if_pos (by simp [K3])]
theorem k3_dead (g1 g2 : Nat) : srtI (deadF (zipK (K3 g1 g2) (aliveF (K3 g1 g2)))) = [7, 8] := by
  have h : deadF (zipK (K3 g1 g2) (aliveF (K3 g1 g2))) = [7, 8] := by kernel_rfl
  rw [h]
  exact sorted_unique (srtI_perm _) (srtI_sorted _) (by simp)
theorem zip_take {K : List KnC} {out : List Int} (h : out.length = K.length) {k : Nat} (hk : k < K.length) : (zipK K out).take (k + 1) = (zipK K out).take k ++ [(rfK K k, out.getD k 0)] := by
  have e : (zipK K out)[k]? = some (rfK K k, out.getD k 0) := by
    unfold zipK rfK
    rw [List.getElem?_zip_eq_some, List.getElem?_map, List.getElem?_eq_getElem hk, List.getD_eq_getElem?_getD, List.getD_eq_getElem?_getD, List.getElem?_eq_getElem hk, List.getElem?_eq_getElem (by omega)]
    exact ⟨rfl, rfl⟩
  rw [List.take_add_one, e]
  rfl
theorem deadF_snoc (xs : List (Int × Int)) (p : Int × Int) : deadF (xs ++ [p]) = if p.2 < 0 then deadF xs ++ [p.1] else deadF xs := by
  unfold deadF
  rw [List.filter_append, List.map_append]
  by_cases h : p.2 < 0
  · simp [h]
  · simp [h]
theorem zip_len {K : List KnC} {out : List Int} (h : out.length = K.length) : (zipK K out).length = K.length := by
  unfold zipK
  rw [List.length_zip, List.length_map, h, Nat.min_self]
theorem own_cap {w : World} {base : Nat} {e : TypeId} {m c s : Nat} {A : Option Addr} {xs : List Value} (h : OwnAt w base e s A m c xs) : m ≤ 9223372036854775807 := by
  have := h.cap_le
  unfold maxLen at this
  omega
theorem row_boxI {w : World} {g B : Nat} {xs : List Int} (h : Box w g 3 (ints xs).toArray) (hB : g < B) : Row w B (some ⟨g, 0, none⟩) (ints xs) := fun _ =>
  ⟨g, 0, rfl, hB, fun i v hv => by rw [Nat.zero_add, h.cell i, ← hv]; simp⟩
theorem k3_in {w : World} {g1 g2 g3 : Nat} (h1 : Box w g1 3 #[.int .i64 8]) (h2 : Box w g2 3 #[.int .i64 7])
    (h3 : Box w g3 28 #[.int .i64 7, .bool false, .bool false, .slice (some ⟨g1, 0, none⟩) 1 1, .int .i64 8, .bool false, .bool false, .slice (some ⟨g2, 0, none⟩) 1 1, .int .i64 3, .bool false, .bool true, .slice none 0 0]) :
    KnIn w w.heap.size (some ⟨g3, 0, none⟩) (K3 g1 g2) where
  row := fun _ => ⟨g3, 0, rfl, h3.lt, fun i v hv => by rw [Nat.zero_add, h3.cell i, ← hv, show flat knC (K3 g1 g2) = [.int .i64 7, .bool false, .bool false, .slice (some ⟨g1, 0, none⟩) 1 1, .int .i64 8, .bool false, .bool false, .slice (some ⟨g2, 0, none⟩) 1 1, .int .i64 3, .bool false, .bool true, .slice none 0 0] from rfl]; simp⟩
  refs := fun x hx => by
    simp only [K3, List.mem_cons, List.not_mem_nil, or_false] at hx
    rcases hx with rfl | rfl | rfl
    · exact ⟨row_boxI (xs := [8]) h1 h1.lt, Nat.le_refl 1, (by show 1 ≤ maxLen; unfold maxLen; decide), fun e => by cases e⟩
    · exact ⟨row_boxI (xs := [7]) h2 h2.lt, Nat.le_refl 1, (by show 1 ≤ maxLen; unfold maxLen; decide), fun e => by cases e⟩
    · exact ⟨Row.nil, Nat.le_refl 0, Nat.zero_le _, fun _ => rfl⟩
  k64 := fun x hx => by
    simp only [K3, List.mem_cons, List.not_mem_nil, or_false] at hx
    rcases hx with rfl | rfl | rfl <;> (unfold I64; simp)
  all := by simp [allR, K3]
set_option maxRecDepth 100000 in
set_option maxHeartbeats 4000000 in
theorem cycleSays_any (A0 : Option Addr) (c0 B : Nat) (K : List KnC) (w : World) (h : KnIn w B A0 K) (hB : B ≤ w.heap.size) (hl : K.length ≤ 1048576) (hcap : K.length ≤ c0) :
    Calls Try.prog 3 #[.slice A0 K.length c0] w fun e w' => e = .returned (.bool true) ∧ Below w.heap.size w w' := by
  have HKB := Lib.hid (fun (w' : World) (hb : Below w.heap.size w w') => h.below (hb.mono hB))
  have HPA := Lib.hid (fun (w1 : World) (hb : Below w.heap.size w w1) => passes_kn A0 c0 B K w1 (h.below (hb.mono hB)) (Nat.le_trans hB hb.size) hl)
  have HGA := Lib.hid (fun (w1 : World) (hb : Below w.heap.size w w1) => garbage_kn A0 c0 B K w1 (h.below (hb.mono hB)) (Nat.le_trans hB hb.size) hl)
  have HRK := Lib.hid (fun (w1 : World) (hb : Below w.heap.size w w1) => rknows_kn A0 c0 B K w1 (h.below (hb.mono hB)) (Nat.le_trans hB hb.size) hl hcap)
  have HAL := Lib.hid (fun (w1 : World) (hb : Below w.heap.size w w1) (hk : K.length ≤ 480) => alive_kn A0 c0 B K w1 (h.below (hb.mono hB)) (Nat.le_trans hB hb.size) hk)
  have hx1 := ((Box.new w 3 #[.int .i64 8]).alloc (.cells #[.int .i64 7] 3)).alloc (.cells #[.int .i64 7, .bool false, .bool false, .slice (some ⟨w.heap.size, 0, none⟩) 1 1, .int .i64 8, .bool false, .bool false, .slice (some ⟨w.heap.size + 1, 0, none⟩) 1 1, .int .i64 3, .bool false, .bool true, .slice none 0 0] 28)
  have hx2 := (Box.new (w.alloc (.cells #[.int .i64 8] 3)) 3 #[.int .i64 7]).alloc (.cells #[.int .i64 7, .bool false, .bool false, .slice (some ⟨w.heap.size, 0, none⟩) 1 1, .int .i64 8, .bool false, .bool false, .slice (some ⟨w.heap.size + 1, 0, none⟩) 1 1, .int .i64 3, .bool false, .bool true, .slice none 0 0] 28)
  rw [show (w.alloc (.cells #[.int .i64 8] 3)).heap.size = w.heap.size + 1 by simp] at hx2
  have hx3 := Box.new ((w.alloc (.cells #[.int .i64 8] 3)).alloc (.cells #[.int .i64 7] 3)) 28 #[.int .i64 7, .bool false, .bool false, .slice (some ⟨w.heap.size, 0, none⟩) 1 1, .int .i64 8, .bool false, .bool false, .slice (some ⟨w.heap.size + 1, 0, none⟩) 1 1, .int .i64 3, .bool false, .bool true, .slice none 0 0]
  rw [show ((w.alloc (.cells #[.int .i64 8] 3)).alloc (.cells #[.int .i64 7] 3)).heap.size = w.heap.size + 1 + 1 by simp] at hx3
  have hin := k3_in hx1 hx2 hx3
  have hgk := garbage_kn (some ⟨w.heap.size + 1 + 1, 0, none⟩) 3 _ (K3 w.heap.size (w.heap.size + 1)) _ hin (Nat.le_refl _) (by simp [K3])
  have HGK := Lib.hid hgk
  have HB1 := Lib.hid (show Below w.heap.size w (((w.alloc (.cells #[.int .i64 8] 3)).alloc (.cells #[.int .i64 7] 3)).alloc (.cells #[.int .i64 7, .bool false, .bool false, .slice (some ⟨w.heap.size, 0, none⟩) 1 1, .int .i64 8, .bool false, .bool false, .slice (some ⟨w.heap.size + 1, 0, none⟩) 1 1, .int .i64 3, .bool false, .bool true, .slice none 0 0] 28)) from (((Below.refl _ _).alloc (Nat.le_refl _) _).alloc (by simp) _).alloc (by simp; omega) _)
  clear h hx1 hx2 hx3 hin hgk
  go_enter Try.func3, Try.ntmps3
  go_wp2_with fail
  refine HGK.out.mono ?_
  rintro e w1 ⟨hb1, hg⟩
  rw [if_pos (k3_knows _ _), k3_dead] at hg
  obtain ⟨A3, c3, rfl, hrow3⟩ := hg
  have HB2 := Lib.hid (HB1.out.trans (hb1.mono HB1.out.size))
  have HE3 := Lib.hid (fun (A' : Option Addr) (B' : Nat) (w' : World) (hb : Below w1.heap.size w1 w') (hr : Row w' B' A' (ints [7, 8])) => equal_any A3 A' c3 2 [7, 8] [7, 8] w1.heap.size B' w' (hrow3.below hb) hr (by unfold maxLen; decide) (by unfold maxLen; decide))
  clear hb1 hrow3 HGK HB1
  have HL2 := Lib.hid (Box.new w1 3 #[.int .i64 7, .int .i64 8])
  have HB3 := Lib.hid ((Below.refl w1.heap.size w1).alloc (Nat.le_refl _) (.cells #[.int .i64 7, .int .i64 8] 3))
  have HEQ := Lib.hid (HE3.out (some ⟨w1.heap.size, 0, none⟩) (w1.heap.size + 1) _ HB3.out (row_boxI (xs := [7, 8]) HL2.out (by omega)))
  go_wp2_with fail
  refine HEQ.out.mono ?_
  rintro e w2 ⟨rfl, m2, rfl⟩
  have HB4 := Lib.hid (HB2.out.trans ((below_drewN HB3.out m2).mono HB2.out.size))
  have e78 : decide (([7, 8] : List Int) = [7, 8]) = true := by decide
  clear HE3 HL2 HEQ
  go_wp2_with fail
  by_cases hk : knowsF K = 0
  case neg =>
    have HNZ := Lib.hid hk
    clear hk
    refine (HPA.out _ HB4.out).mono ?_
    rintro e w3 ⟨hb3, hp⟩
    rw [if_neg HNZ.out] at hp
    obtain rfl := hp
    have HB5 := Lib.hid (HB4.out.trans (hb3.mono HB4.out.size))
    have HGB := Lib.hid (HGA.out _ HB5.out)
    clear hb3
    go_wp2_with fail
    refine HGB.out.mono ?_
    rintro e w4 ⟨hb4, hp⟩
    rw [if_neg HNZ.out] at hp
    obtain rfl := hp
    have HB6 := Lib.hid (HB5.out.trans (hb4.mono HB5.out.size))
    have HRB := Lib.hid (HRK.out _ HB6.out)
    clear hb4 HGB
    go_wp2_with fail
    refine HRB.out.mono ?_
    rintro e w5 ⟨rfl, hb5⟩
    have HB7 := Lib.hid (HB6.out.trans (hb5.mono HB6.out.size))
    have hnz := HNZ.out
    generalize knowsF K = r at *
    have e1 : (r != 0) = true := by simpa using hnz
    clear hb5 hnz HNZ
    go_wp2_with fail
    go_ret
    exact ⟨by simp, HB7.out⟩
  obtain ⟨hkl, hn⟩ := knows_zero hk
  refine (HPA.out _ HB4.out).mono ?_
  rintro e w3 ⟨hb3, hp⟩
  rw [if_pos hk] at hp
  obtain ⟨m, Ap, cp, lp, hm1, hm2, rfl, hpr, hpz⟩ := hp
  have HB5 := Lib.hid (HB4.out.trans (hb3.mono HB4.out.size))
  have HGB := Lib.hid (HGA.out _ HB5.out)
  have HPM := Lib.hid (passes_are hn hm1 hm2)
  have HFEW := Lib.hid (few_levels (apart_srt hn) hm2)
  have HPR := Lib.hid hpr
  have HPZ := Lib.hid hpz
  have HK0 := Lib.hid hk
  have HN := Lib.hid hn
  clear hb3 hm1 hm2 hpr hpz hk hn
  go_wp2_with fail
  refine HGB.out.mono ?_
  rintro e w4 ⟨hb4, hp⟩
  rw [if_pos HK0.out] at hp
  obtain ⟨Ag, cg, rfl, hgr⟩ := hp
  have HB6 := Lib.hid (HB5.out.trans (hb4.mono HB5.out.size))
  have HRB := Lib.hid (HRK.out _ HB6.out)
  rw [HK0.out] at HRB
  have HPR4 := Lib.hid (HPR.out.below hb4)
  have HPZ4 : Hid (RowsZ w4 (fun b => b < w3.heap.size) lp (levsF K ([], srtI (firstF K)) m)) := Lib.hid (HPZ.out.off (S := fun _ => False) (Only.of_below hb4) (fun _ hb => ⟨hb, fun e => e⟩) (fun _ h => h))
  have HS34 := Lib.hid hb4.size
  have HGR := Lib.hid hgr
  clear hb4 HGB hgr HPR HPZ
  go_wp2_with fail
  refine HRB.out.mono ?_
  rintro e w5 ⟨rfl, hb5⟩
  have HB7 := Lib.hid (HB6.out.trans (hb5.mono HB6.out.size))
  have HAB := Lib.hid (HAL.out _ HB7.out hkl)
  have HB45 := Lib.hid hb5
  clear hb5 HRB
  go_wp2_with fail
  refine HAB.out.mono ?_
  rintro e w6 ⟨rfl, hbx, hb6⟩
  obtain ⟨i2, z2, hi2, hz2, hz3, hz4, hz5⟩ := sl_partsK
  obtain ⟨i1, hi1, hy0, hy1, hy2⟩ := int_partsK
  have hol : (aliveF K).length = K.length := (Dk_inv K K.length).1
  have hoi := (Dk_inv K K.length).2
  rw [← aliveF_eq] at hoi
  have HOI := Lib.hid hoi
  have HB8 := Lib.hid (HB7.out.trans (hb6.mono HB7.out.size))
  have HBX := Lib.hid hbx
  have HB56 := Lib.hid hb6
  have hga := hbx.lt
  obtain ⟨ga, hgae⟩ : ∃ ga, w5.heap.size = ga := ⟨_, rfl⟩
  rw [hgae] at HBX hga ⊢
  obtain ⟨out, hout⟩ : ∃ out, aliveF K = out := ⟨_, rfl⟩
  rw [hout] at HBX hol HOI HPM HGR ⊢
  have HOUT := Lib.hid hout
  clear hbx hb6 hgae hout hoi HAB HAL HPA HGA HRK
  go_wp2_with fail
  go_loopg [71, 11, 12] K.length (fun gk i v11 v12 wr => ∃ (k : Nat) (Ad : Option Addr) (cd : Nat) (Ao : Option Addr) (co : Nat) (l : List SlZ) (P : List (List Int)) (dead : List Int), gk = K.length - k ∧ k ≤ K.length ∧ i = .int .i64 k ∧ v11 = .slice Ad dead.length cd ∧ v12 = .slice Ao l.length co ∧ PsSt wr w6.heap.size Ao co l P Ad cd dead ∧ dead = deadF ((zipK K out).take k) ∧ P = rowsF ((zipK K out).take k) ∧ l.length ≤ 481 ∧ dead.length ≤ k ∧ Below w6.heap.size w6 wr)
  case atStart => exact ⟨0, none, 0, none, 0, [], [], [], by omega, by omega, rfl, rfl, rfl, PsSt.nil, rfl, rfl, by simp, by simp, Below.refl _ _⟩
  case round =>
    obtain ⟨k, Ad, cd, Ao, co, l, P, dead, hgk, hk, rfl, rfl, rfl, hps, hdead, hP, hl481, hdl, hbw⟩ := hrel
    have HKK := Lib.hid hgk
    clear hgk
    by_cases hlt : k < K.length
    · have hbw0 := HB8.out.trans (hbw.mono HB8.out.size)
      obtain ⟨b1, o1, rfl, _, z0, _, _, _⟩ := (HKB.out wr hbw0).row.kn hlt knc0
      have f1 : wr.cell? ⟨ga, k, none⟩ = some (.int .i64 (out.getD k 0)) := (HBX.out.below hbw HBX.out.lt).intAt (by omega)
      have HZT := Lib.hid (zip_take hol hlt)
      have HREF : Hid (∀ w', Below w6.heap.size w6 w' → w'.cell? ⟨b1, o1 + k * 4, none⟩ = some (.int .i64 (K.getD k knc0).ref)) := fun w' hb' => by
        obtain ⟨b1', o1', e, _, z, _, _, _⟩ := (HKB.out w' (HB8.out.trans (hb'.mono HB8.out.size))).row.kn hlt knc0
        injection e with e
        injection e with e1 e2
        subst e1 e2
        exact z
      have HPL := Lib.hid hps.len
      have HQL : Hid (∀ (P' : List (List Int)) (d : Nat), P' = P ++ List.replicate (d + 1 - P.length) [] → (P'.getD d []).length ≤ 480) := fun P' d e => by
        rw [e, grow_at, hP, (rows_are _).1 d]
        unfold filtF
        rw [List.length_map]
        exact Nat.le_trans (List.length_filter_le _ _) (by rw [List.length_take]; omega)
      have hov := HOI.out k hlt
      have hkl : (k : Int) < (K.length : Int) := by omega
      have HPS := Lib.hid hps
      have HDE := Lib.hid hdead
      have HPE := Lib.hid hP
      have HBW := Lib.hid hbw
      unfold rfK at HZT
      generalize (K.getD k knc0).ref = rk at *
      generalize out.getD k 0 = ov at *
      clear hps hdead hP hbw hbw0
      by_cases hneg : ov < 0
      · have e1 : decide (ov < 0) = true := decide_eq_true hneg
        have HD2 : Hid (dead ++ [rk] = deadF ((zipK K out).take (k + 1))) := by show _ = _; rw [HZT.out, deadF_snoc, if_pos hneg, ← HDE.out]
        have HP2 : Hid (P = rowsF ((zipK K out).take (k + 1))) := by show _ = _; rw [HZT.out, rowsF_snoc, ← HPE.out]; unfold lawR; rw [if_pos hneg]
        have HA := Lib.hid (HPS.out.below ((Below.refl wr.heap.size wr).alloc (Nat.le_refl _) (.cells #[.int .i64 rk] 3)))
        have HBA := Lib.hid (HBW.out.alloc HBW.out.size (.cells #[.int .i64 rk] 3))
        have e0 : (wr.alloc (.cells #[.int .i64 rk] 3)).cell? ⟨wr.heap.size, 0, none⟩ = some (.int .i64 rk) := (Box.new wr 3 #[.int .i64 rk]).cell 0
        have HE0 := Lib.hid e0
        have HDL : Hid (dead.length + 1 ≤ 4398046511104) := by show _ ≤ _; omega
        clear e0 HZT
        go_wp2_with (at_builtin; refine wpList_append_k rfl (.tmp 78) (.tmp 84) rfl w6.heap.size Ad cd dead rfl HA.out.dd wr.heap.size rk rfl HE0.out HDL.out HBA.out.size ?_; intro A9 c9 w9 j1 j2 j3; have H9 := Lib.hid (HA.out.deadG j2 j1 j3); have HB9 := Lib.hid (HBA.out.grown j2 HBA.out.size (fun b hb => own_lo' HA.out.dd b hb)); clear j1 j2 j3)
        go_roundg (K.length - (k + 1))
        case measure => have := HKK.out; omega
        case rel => exact ⟨k + 1, A9, c9, Ao, co, l, P, dead ++ [rk], rfl, by omega, by go_num, by simp, rfl, H9.out, HD2.out, HP2.out, hl481, by simp; exact hdl, HB9.out⟩
      · have e1 : decide (ov < 0) = false := decide_eq_false hneg
        obtain ⟨vn, rfl⟩ : ∃ vn : Nat, ov = (vn : Int) := ⟨ov.toNat, by omega⟩
        have hvn : vn ≤ 480 := by omega
        have HD2 : Hid (dead = deadF ((zipK K out).take (k + 1))) := by show _ = _; rw [HZT.out, deadF_snoc, if_neg hneg, ← HDE.out]
        have HP2 : Hid (rowsF ((zipK K out).take (k + 1)) = putR P vn rk) := by show _ = _; rw [HZT.out, rowsF_snoc, ← HPE.out]; unfold lawR; rw [if_neg hneg]; rfl
        clear HZT hneg
        go_wp2_with fail
        go_loopg [12] (vn + 1 - l.length) (fun gk v12 wr => ∃ (j : Nat) (Ao' : Option Addr) (co' : Nat) (l' : List SlZ), gk = vn + 1 - l'.length ∧ v12 = .slice Ao' l'.length co' ∧ l'.length = l.length + j ∧ j ≤ vn + 1 - l.length ∧ PsSt wr w6.heap.size Ao' co' l' (P ++ List.replicate j []) Ad cd dead ∧ Below w6.heap.size w6 wr)
        case atStart => exact ⟨0, Ao, co, l, rfl, rfl, rfl, by omega, by simpa using HPS.out, HBW.out⟩
        case round =>
          clear HPS HBW f1
          obtain ⟨j, Ao2, co2, l2, hgk, rfl, hl2, hj, hps, hbw⟩ := hrel
          have HJK := Lib.hid hgk
          have HPS := Lib.hid hps
          have HBW := Lib.hid hbw
          have HL2 := Lib.hid hl2
          clear hgk hl2
          by_cases hle : l2.length ≤ vn
          · have e2 : decide ((l2.length : Int) ≤ (vn : Int)) = true := decide_eq_true (by omega)
            have e3 : (l2.length : Int) ≤ (vn : Int) := by omega
            have HA := Lib.hid (hps.below ((Below.refl wr.heap.size wr).alloc (Nat.le_refl _) (.cells #[.slice none 0 0] 23)))
            have HBA := Lib.hid (hbw.alloc hbw.size (.cells #[.slice none 0 0] 23))
            have e0 : (wr.alloc (.cells #[.slice none 0 0] 23)).cell? ⟨wr.heap.size, 0, none⟩ = some (.slice none 0 0) := (Box.new wr 23 #[.slice none 0 0]).cell 0
            have HE0 : Hid (∀ j u, ([Value.slice none 0 0] : List Value)[j]? = some u → (wr.alloc (.cells #[.slice none 0 0] 23)).cell? ((⟨wr.heap.size, 0, none⟩ : Addr).add j) = some u) := fun j u hu => by
              match j, hu with
              | 0, hu => simp at hu; subst hu; exact e0
              | j + 1, hu => simp at hu
            have HONE : Hid (∀ u ∈ [Value.slice none 0 0], u.oneCell' = true) := fun u hu => by rw [List.mem_singleton.1 hu]; rfl
            have HDM : Hid (l2.length + 1 ≤ maxLen ∧ (l2.length + 1) * 24 ≤ 140737488355328) := by show _ ∧ _; unfold maxLen; omega
            clear hps hbw e0 HPS HBW
            go_wp2_with (at_builtin; refine wpList_append_q rfl (.tmp 90) (.tmp 91) 30 rfl w6.heap.size 23 i2 z2 1 24 Try.underlying30 hi2 hz2 hz3 hz4 hz5 (by decide) Ao2 l2.length co2 (flat slZ l2) rfl HA.out.out ⟨wr.heap.size, 0, none⟩ 1 1 [.slice none 0 0] rfl rfl HE0.out HONE.out HDM.out.1 HDM.out.2 HBA.out.size (by decide) ?_; intro g9 o9 c9 w9 j1 j2 j3; have H9 := Lib.hid (HA.out.grow j2 j1); have HB9 := Lib.hid (HBA.out.grown j2 HBA.out.size (fun b hb => own_lo' HA.out.out b hb)); clear j1 j2 j3)
            go_roundg (vn + 1 - (l2.length + 1))
            case measure => have := HJK.out; omega
            case rel => exact ⟨j + 1, some ⟨g9, o9, none⟩, c9, l2 ++ [slz0], by simp, by simp, by rw [List.length_append, List.length_singleton]; have := HL2.out; omega, by have := HL2.out; omega, by rw [List.replicate_succ', ← List.append_assoc]; exact H9.out, HB9.out⟩
          · have e2 : decide ((l2.length : Int) ≤ (vn : Int)) = false := decide_eq_false (by omega)
            have e3 : ¬ (l2.length : Int) ≤ (vn : Int) := by omega
            -- R19
            have hl2 := HL2.out
            have hvi : vn < l2.length := by omega
            have hjj : j = vn + 1 - P.length := by rw [← HPL.out]; omega
            have hl4 : l2.length ≤ 481 := by omega
            rcases hps.out.form with ⟨_, h0, _⟩ | ⟨go, oo, rfl⟩
            · omega
            obtain ⟨go', oo', eg, hgl, hcz⟩ := hps.out.row.z hvi
            injection eg with eg
            injection eg with eg1 eg2
            subst eg1 eg2
            have hrw := hps.row vn hvi
            have hlo := hps.out.lt.1
            have HP3 : Hid ((P ++ List.replicate j []).set vn ((P ++ List.replicate j []).getD vn [] ++ [rk]) = rowsF ((zipK K out).take (k + 1))) := by show _ = _; rw [HP2.out, hjj]; rfl
            obtain ⟨q, hq⟩ : ∃ q, (P ++ List.replicate j []).getD vn [] = q := ⟨_, rfl⟩
            obtain ⟨yA, hyA⟩ : ∃ yA, (l2.getD vn slz0).A = yA := ⟨_, rfl⟩
            obtain ⟨yc, hyc⟩ : ∃ yc, (l2.getD vn slz0).cap = yc := ⟨_, rfl⟩
            rw [hrw.2, hyA, hyc, hq] at hcz
            rw [hq] at HP3
            have hA2 := hps.below ((Below.refl wr.heap.size wr).drew.alloc (Nat.le_refl _) (.cells #[.int .i64 rk] 3))
            have hrw2 := (hA2.row vn hvi).1
            rw [hyA, hyc, hq] at hrw2
            have HQO := Lib.hid hrw2
            have HA := Lib.hid hA2
            have HYE := Lib.hid hyA
            have HVI := Lib.hid hvi
            have HGB := Lib.hid hlo
            have hga2 : go < (wr.drew.alloc (.cells #[.int .i64 rk] 3)).heap.size := Nat.lt_of_lt_of_le hgl (((Below.refl wr.heap.size wr).drew.alloc (Nat.le_refl _) (.cells #[.int .i64 rk] 3)).size)
            have HGO := Lib.hid hga2
            have HBA := Lib.hid (show Below w6.heap.size w6 (wr.drew.alloc (.cells #[.int .i64 rk] 3)) from (hbw.trans ((Below.refl w6.heap.size wr).drew)).alloc hbw.size _)
            have HSA : Hid ((wr.drew.alloc (.cells #[.int .i64 rk] 3)).cell? ⟨go, oo + vn, none⟩ = some (.slice yA q.length yc)) := (((Below.refl wr.heap.size wr).drew.alloc (Nat.le_refl _) (.cells #[.int .i64 rk] 3)).cell (p := ⟨go, oo + vn, none⟩) hgl).trans hcz
            have HSR := Lib.hid (HREF.out _ HBA.out)
            have hli : (wr.drew.alloc (.cells #[.int .i64 rk] 3)).cell? ⟨wr.heap.size, 0, none⟩ = some (.int .i64 rk) := (Box.new wr.drew 3 #[.int .i64 rk]).cell 0
            have HLI : Hid (∀ j u, (ints [rk])[j]? = some u → (wr.drew.alloc (.cells #[.int .i64 rk] 3)).cell? ((⟨wr.heap.size, 0, none⟩ : Addr).add j) = some u) := fun j u hu => by
              match j, hu with
              | 0, hu => simp [ints] at hu; subst hu; exact hli
              | j + 1, hu => simp [ints] at hu
            have HQM : Hid (q.length + 1 ≤ maxLen ∧ (q.length + 1) * 8 ≤ 140737488355328) := by
              show _ ∧ _
              have h1 := HQL.out (P ++ List.replicate j []) vn (by rw [hjj])
              rw [hq] at h1
              unfold maxLen
              omega
            have HL4 := Lib.hid hl4
            have hHeld : wr.drew.cell? ⟨go, oo + vn, none⟩ = some (.slice yA q.length yc) ∧ wr.drew.cell? ⟨b1, o1 + k * 4, none⟩ = some (.int .i64 rk) := ⟨hcz, HREF.out wr.drew (hbw.trans (Below.refl w6.heap.size wr).drew)⟩
            have hvl : (vn : Int) < (l2.length : Int) := by omega
            clear hl2 hps hbw hcz hrw hA2 hrw2 hyA hyc hq hli hgl hlo hjj HPS HBW
            go_upto_region 19 with fail
            refine wp_region_C (S := (fun w' => w'.cell? ⟨go, oo + vn, none⟩ = some (.slice yA q.length yc) ∧ w'.cell? ⟨b1, o1 + k * 4, none⟩ = some (.int .i64 rk))) (k := 14) (by kernel_rfl) ?_
            refine wpAnyC_takeU (i := 0) (v := ?_) rfl (by kernel_rfl) (by kernel_rfl) (by kernel_rfl) (by kernel_rfl) (fun _ _ _ h => h) (Or.inl ⟨by rfl, ?_⟩) (fun _ => by assumption) ?_
            rotate_left
            · (intro w _; go_simp; (try with_reducible rfl))
            try simp only [List.getElem_toArray]
            try simp only [List.getElem_cons_succ]
            try simp only [List.getElem_cons_zero]
            try simp only [Act.put]
            try simp only [List.setIfInBounds_toArray]
            try simp only [List.set_cons_succ]
            try simp only [List.set_cons_zero]
            refine wpAnyC_takeU (i := 1) (v := ?_) rfl (by kernel_rfl) (by kernel_rfl) (by kernel_rfl) (by kernel_rfl) (fun _ _ _ h => h) (Or.inl ⟨by rfl, ?_⟩) (fun _ => by assumption) ?_
            rotate_left
            · (intro w _; go_simp; (try with_reducible rfl))
            try simp only [List.getElem_toArray]
            try simp only [List.getElem_cons_succ]
            try simp only [List.getElem_cons_zero]
            try simp only [Act.put]
            try simp only [List.setIfInBounds_toArray]
            try simp only [List.set_cons_succ]
            try simp only [List.set_cons_zero]
            refine wpAnyC_takeU (i := 2) (v := ?_) rfl (by kernel_rfl) (by kernel_rfl) (by kernel_rfl) (by kernel_rfl) (fun _ _ _ h => h) (Or.inl ⟨by rfl, ?_⟩) (fun _ => by assumption) ?_
            rotate_left
            · (intro w _; go_simp; (try with_reducible rfl))
            try simp only [List.getElem_toArray]
            try simp only [List.getElem_cons_succ]
            try simp only [List.getElem_cons_zero]
            try simp only [Act.put]
            try simp only [List.setIfInBounds_toArray]
            try simp only [List.set_cons_succ]
            try simp only [List.set_cons_zero]
            refine wpAnyC_takeU (i := 3) (v := ?_) rfl (by kernel_rfl) (by kernel_rfl) (by kernel_rfl) (by kernel_rfl) (fun _ _ _ h => h) (Or.inl ⟨by rfl, ?_⟩) (fun _ => by assumption) ?_
            rotate_left
            · (intro w _; go_simp; (try with_reducible rfl))
            try simp only [List.getElem_toArray]
            try simp only [List.getElem_cons_succ]
            try simp only [List.getElem_cons_zero]
            try simp only [Act.put]
            try simp only [List.setIfInBounds_toArray]
            try simp only [List.set_cons_succ]
            try simp only [List.set_cons_zero]
            refine wpAnyC_takeU (i := 4) (v := ?_) rfl (by kernel_rfl) (by kernel_rfl) (by kernel_rfl) (by kernel_rfl) (fun _ _ _ h => h) (Or.inl ⟨by rfl, ?_⟩) (fun _ => by assumption) ?_
            rotate_left
            · (intro w _; go_simp; (try with_reducible rfl))
            try simp only [List.getElem_toArray]
            try simp only [List.getElem_cons_succ]
            try simp only [List.getElem_cons_zero]
            try simp only [Act.put]
            try simp only [List.setIfInBounds_toArray]
            try simp only [List.set_cons_succ]
            try simp only [List.set_cons_zero]
            refine wpAnyC_take (i := 5) (v := ?_) rfl (by kernel_rfl) (by kernel_rfl) (by kernel_rfl) (by kernel_rfl) (by kernel_rfl) (fun _ _ _ h => h) (Or.inl ⟨by rfl, ?_⟩) (by assumption) ?_
            rotate_left
            · (intro w hSw; (try dsimp only at hSw); go_simp; (try with_reducible rfl))
            try simp only [List.getElem_toArray]
            try simp only [List.getElem_cons_succ]
            try simp only [List.getElem_cons_zero]
            try simp only [Act.put]
            try simp only [List.setIfInBounds_toArray]
            try simp only [List.set_cons_succ]
            try simp only [List.set_cons_zero]
            refine wpAnyC_takeU (i := 6) (v := ?_) rfl (by kernel_rfl) (by kernel_rfl) (by kernel_rfl) (by kernel_rfl) (fun _ _ _ h => h) (Or.inl ⟨by rfl, ?_⟩) (fun _ => by assumption) ?_
            rotate_left
            · (intro w _; go_simp; (try with_reducible rfl))
            try simp only [List.getElem_toArray]
            try simp only [List.getElem_cons_succ]
            try simp only [List.getElem_cons_zero]
            try simp only [Act.put]
            try simp only [List.setIfInBounds_toArray]
            try simp only [List.set_cons_succ]
            try simp only [List.set_cons_zero]
            refine wpAnyC_takeU (i := 7) (v := ?_) rfl (by kernel_rfl) (by kernel_rfl) (by kernel_rfl) (by kernel_rfl) (fun _ _ _ h => h) (Or.inl ⟨by rfl, ?_⟩) (fun _ => by assumption) ?_
            rotate_left
            · (intro w _; go_simp; (try with_reducible rfl))
            try simp only [List.getElem_toArray]
            try simp only [List.getElem_cons_succ]
            try simp only [List.getElem_cons_zero]
            try simp only [Act.put]
            try simp only [List.setIfInBounds_toArray]
            try simp only [List.set_cons_succ]
            try simp only [List.set_cons_zero]
            refine wpAnyC_takeU (i := 8) (v := ?_) rfl (by kernel_rfl) (by kernel_rfl) (by kernel_rfl) (by kernel_rfl) (fun _ _ _ h => h) (Or.inl ⟨by rfl, ?_⟩) (fun _ => by assumption) ?_
            rotate_left
            · (intro w _; go_simp; (try with_reducible rfl))
            try simp only [List.getElem_toArray]
            try simp only [List.getElem_cons_succ]
            try simp only [List.getElem_cons_zero]
            try simp only [Act.put]
            try simp only [List.setIfInBounds_toArray]
            try simp only [List.set_cons_succ]
            try simp only [List.set_cons_zero]
            refine wpAnyC_takeU (i := 9) (v := ?_) rfl (by kernel_rfl) (by kernel_rfl) (by kernel_rfl) (by kernel_rfl) (fun _ _ _ h => h) (Or.inl ⟨by rfl, ?_⟩) (fun _ => by assumption) ?_
            rotate_left
            · (intro w _; go_simp; (try with_reducible rfl))
            try simp only [List.getElem_toArray]
            try simp only [List.getElem_cons_succ]
            try simp only [List.getElem_cons_zero]
            try simp only [Act.put]
            try simp only [List.setIfInBounds_toArray]
            try simp only [List.set_cons_succ]
            try simp only [List.set_cons_zero]
            refine wpAnyC_take (i := 10) (v := ?_) rfl (by kernel_rfl) (by kernel_rfl) (by kernel_rfl) (by kernel_rfl) (by kernel_rfl) (fun _ _ _ h => h) (Or.inl ⟨by rfl, ?_⟩) (by assumption) ?_
            rotate_left
            · (intro w hSw; (try dsimp only at hSw); go_simp; (try with_reducible rfl))
            try simp only [List.getElem_toArray]
            try simp only [List.getElem_cons_succ]
            try simp only [List.getElem_cons_zero]
            try simp only [Act.put]
            try simp only [List.setIfInBounds_toArray]
            try simp only [List.set_cons_succ]
            try simp only [List.set_cons_zero]
            refine wpAnyC_ready (rs := [11]) (by kernel_rfl) (by simp) ?_
            refine AllReadyC.cons rfl (fun K hK => ?_) AllReadyC.nil
            go_simp
            refine hK.out _ _ (fun _ => ⟨HSA.out, HSR.out⟩) ?_
            clear hK K
            try simp only [List.getElem_toArray]
            try simp only [List.getElem_cons_succ]
            try simp only [List.getElem_cons_zero]
            try simp only [Act.put]
            try simp only [List.setIfInBounds_toArray]
            try simp only [List.set_cons_succ]
            try simp only [List.set_cons_zero]
            refine wpAnyC_ready (rs := [12]) (by kernel_rfl) (by simp) ?_
            refine AllReadyC.cons rfl (fun K hK => ?_) AllReadyC.nil
            refine step_append_q rfl (.tmp 98) (.tmp 104) 23 rfl w6.heap.size 3 i1 (.int .i64 0) 1 8 Try.underlying23 hi1 hy0 hy1 hy2 rfl (by decide) yA q.length yc (ints q) rfl HQO.out ⟨wr.heap.size, 0, none⟩ 1 1 (ints [rk]) rfl rfl HLI.out (ints_oneK [rk]) HQM.out.1 HQM.out.2 HBA.out.size (by decide) ?_
            intro g9 o9 c9 w9 j1 j2 j3
            have HJ := Lib.hid (And.intro j1 (And.intro j2 j3))
            have hb9 := HBA.out.grown j2 HBA.out.size (fun b hb => own_lo' HQO.out b hb)
            have hq9 : w9.cell? ⟨go, oo + vn, none⟩ = some (.slice yA q.length yc) := by simp only [World.cell?, (only_grownK j2).block go HGO.out (fun e => ty_ne HQO.out HA.out.out int_ne go e rfl)]; exact HSA.out
            have hr9 : w9.cell? ⟨b1, o1 + k * 4, none⟩ = some (.int .i64 rk) := HREF.out w9 hb9
            have hf9 : w9.frozen? ⟨go, oo + vn, none⟩ = false := (HA.out.out.only (only_grownK j2) (fun b hb e => ty_ne HQO.out HA.out.out int_ne b e hb)).frozen (oo + vn)
            have HB9 := Lib.hid hb9
            clear j1 j2 j3 hb9
            refine hK.out _ _ (fun _ => ⟨hq9, hr9⟩) ?_
            clear hK K
            try simp only [List.getElem_toArray]
            try simp only [List.getElem_cons_succ]
            try simp only [List.getElem_cons_zero]
            try simp only [Act.put]
            try simp only [List.setIfInBounds_toArray]
            try simp only [List.set_cons_succ]
            try simp only [List.set_cons_zero]
            refine wpAnyC_ready (rs := [13]) (by kernel_rfl) (by simp) ?_
            refine AllReadyC.cons rfl (fun K hK => ?_) AllReadyC.nil
            go_simp
            refine hK.out _ _ (fun _ => ⟨hq9, hr9⟩) ?_
            clear hK K
            try simp only [List.getElem_toArray]
            try simp only [List.getElem_cons_succ]
            try simp only [List.getElem_cons_zero]
            try simp only [Act.put]
            try simp only [List.setIfInBounds_toArray]
            try simp only [List.set_cons_succ]
            try simp only [List.set_cons_zero]
            refine wpAnyC_ready (rs := [14]) (by kernel_rfl) (by simp) ?_
            refine AllReadyC.cons rfl (fun K hK => ?_) AllReadyC.nil
            go_simp
            refine hK.out _ _ (fun h => by cases h) ?_
            clear hK K
            try simp only [List.getElem_toArray]
            try simp only [List.getElem_cons_succ]
            try simp only [List.getElem_cons_zero]
            try simp only [Act.put]
            try simp only [List.setIfInBounds_toArray]
            try simp only [List.set_cons_succ]
            try simp only [List.set_cons_zero]
            refine wpAnyC_done (by kernel_rfl) ?_ _
            have HPT := Lib.hid (HA.out.put (i := vn) (q := q ++ [rk]) (A' := some ⟨g9, o9, none⟩) (c' := c9) HVI.out rfl (by rw [HYE.out]; exact HJ.out.2.1) (by rw [List.length_append, List.length_singleton]; unfold ints; rw [List.map_append]; exact HJ.out.1) (fun gg hgg => by rw [HYE.out]; simp at hgg; subst hgg; exact HJ.out.2.2.imp id (fun e => Nat.le_of_eq e.symm)))
            rw [List.length_append, List.length_singleton] at HPT
            have HB10 := Lib.hid (HB9.out.setCell (p := ⟨go, oo + vn, none⟩) HGB.out (.slice (some ⟨g9, o9, none⟩) (q.length + 1) c9))
            clear hq9 hr9 hf9
            go_wp2_with fail
            go_roundg (K.length - (k + 1))
            case measure => have := HKK.out; omega
            case rel => exact ⟨k + 1, Ad, cd, some ⟨go, oo, none⟩, co2, l2.set vn _, _, dead, rfl, by omega, by go_num, rfl, by rw [List.length_set], HPT.out, HD2.out, HP3.out, by rw [List.length_set]; exact HL4.out, Nat.le_succ_of_le hdl, HB10.out⟩
            -- R19E
    · obtain rfl : k = K.length := by omega
      have hln : ¬ (K.length : Int) < (K.length : Int) := by omega
      rw [← zip_len hol, List.take_length] at hdead hP
      have HDE := Lib.hid hdead
      have HPE := Lib.hid hP
      have HQB : Hid (∀ d, (P.getD d []).length ≤ 480) := fun d => by
        rw [hP, (rows_are _).1 d]
        unfold filtF
        rw [List.length_map]
        exact Nat.le_trans (List.length_filter_le _ _) (by rw [zip_len hol]; exact hkl)
      have HPL := Lib.hid hps.len
      have HPS := Lib.hid hps
      have HBW := Lib.hid hbw
      clear hps hbw hdead hP hlt hk HKK
      go_wp2_with fail
      go_loopg [110] l.length (fun gk i wr => ∃ (j : Nat) (P' : List (List Int)), gk = l.length - j ∧ j ≤ l.length ∧ i = .int .i64 j ∧ PsSt wr w6.heap.size Ao co l P' Ad cd dead ∧ P'.length = P.length ∧ (∀ d, P'.getD d [] = if d < j then srtI (P.getD d []) else P.getD d []) ∧ Below w6.heap.size w6 wr)
      case atStart => exact ⟨0, P, by omega, by omega, rfl, HPS.out, rfl, fun d => by rw [if_neg (by omega)], HBW.out⟩
      case round =>
        clear HPS HBW
        obtain ⟨j, P', hgk, hj, rfl, hps, hPl, hPd, hbw⟩ := hrel
        have HJK := Lib.hid hgk
        have HPS := Lib.hid hps
        have HBW := Lib.hid hbw
        have HPD := Lib.hid hPd
        have HPL2 := Lib.hid hPl
        clear hgk hPd hPl
        by_cases hlj : j < l.length
        · obtain ⟨go, oo, rfl, _, hcz⟩ := hps.out.row.z hlj
          have hrw := hps.row j hlj
          rw [hrw.2] at hcz
          have hlen : (P'.getD j []).length < 4611686018427387904 := by
            have h1 := HQB.out j
            rw [HPD.out j]
            split
            · rw [srtI_len]; omega
            · omega
          have HSO := Lib.hid (sort_own (l.getD j slz0).A (P'.getD j []).length (l.getD j slz0).cap w6.heap.size (P'.getD j []) wr hrw.1 rfl hlen)
          have HVJ := Lib.hid hlj
          have hjl : (j : Int) < (l.length : Int) := by omega
          obtain ⟨y, hy⟩ : ∃ y, l.getD j slz0 = y := ⟨_, rfl⟩
          obtain ⟨q, hq⟩ : ∃ q, P'.getD j [] = q := ⟨_, rfl⟩
          rw [hy, hq] at hcz HSO
          have HY := Lib.hid hy
          have HQ := Lib.hid hq
          clear hps hbw hrw hlen hy hq
          go_wp2_with fail
          refine HSO.out.mono ?_
          rintro e w9 ⟨rfl, hos, hon⟩
          have hP9 := HPS.out.sorted HVJ.out (w' := w9) (by rw [HY.out]; exact hon) (by rw [HY.out, HQ.out]; exact hos)
          have HP9 := Lib.hid hP9
          have HB9 := Lib.hid (hon.to_below HBW.out HBW.out.size (fun b hb => by have h1 := (HPS.out.row j HVJ.out).1; rw [HY.out] at h1; exact own_lo' h1 b hb))
          clear hos hon hP9
          go_wp2_with fail
          go_roundg (l.length - (j + 1))
          case measure => have := HJK.out; omega
          case rel => exact ⟨j + 1, _, rfl, by omega, by go_num, HP9.out, by rw [List.length_set]; exact HPL2.out, fun d => by
            rw [getD_setZ P' [] j d _ (by have := HPL.out; have := HPL2.out; omega)]
            have h1 := HPD.out d
            by_cases e : d = j
            · subst e
              rw [if_pos rfl, if_pos (by omega), h1, if_neg (by omega)]
            · rw [if_neg e, h1]
              by_cases e2 : d < j
              · rw [if_pos e2, if_pos (by omega)]
              · rw [if_neg e2, if_neg (by omega)], HB9.out⟩
        · obtain rfl : j = l.length := by omega
          have hlj2 : ¬ (l.length : Int) < (l.length : Int) := by omega
          have HPM2 : Hid (P' = levsF K ([], srtI (firstF K)) m) := by
            show _ = _
            have e : levsF K ([], srtI (firstF K)) m = P.map srtI := by rw [HPE.out]; exact HPM.out
            rw [e]
            refine List.ext_getElem (by rw [List.length_map]; exact HPL2.out) fun i h1 h2 => ?_
            rw [List.length_map] at h2
            have h3 := HPD.out i
            rw [if_pos (by have := HPL.out; omega)] at h3
            rw [List.getElem_map]
            simpa only [List.getD_eq_getElem?_getD, List.getElem?_eq_getElem h1, List.getElem?_eq_getElem h2, Option.getD_some] using h3
          have HSO := Lib.hid (sort_own Ad dead.length cd w6.heap.size dead wr hps.dd rfl (by omega))
          clear hps hbw HPD HJK hlj hj
          go_wp2_with fail
          refine HSO.out.mono ?_
          rintro e w9 ⟨rfl, hos, hon⟩
          have h9 := HPS.out.deadG (w' := w9) (dead' := srtI dead) ⟨hon.os, hon.tape, hon.output, hon.size, fun i hi hne => hon.block i hi (fun e => hne e.symm)⟩ (by rw [srtI_len]; exact hos) (fun _ e => .inl e)
          have hb69 : Below w6.heap.size w6 w9 := hon.to_below HBW.out HBW.out.size (fun b hb => own_lo' HPS.out.dd b hb)
          have hb49 : Below w4.heap.size w4 w9 := (HB45.out.trans (HB56.out.mono HB45.out.size)).trans (hb69.mono (Nat.le_trans HB45.out.size HB56.out.size))
          have HBF := Lib.hid (HB8.out.trans (hb69.mono HB8.out.size))
          have hdl2 : dead.length ≤ K.length := hdl
          have heq := equal_any Ag Ad cg cd (srtI dead) (srtI dead) w4.heap.size w9.heap.size w9 (by rw [HDE.out]; exact HGR.out.below hb49) h9.dd.row (by rw [srtI_len]; unfold maxLen; omega) (by rw [srtI_len]; unfold maxLen; omega)
          rw [show decide (srtI dead = srtI dead) = true by simp, srtI_len] at heq
          have HEQ := Lib.hid heq
          have hlm : (srtI (deadF (zipK K out))).length = dead.length := by rw [← HDE.out, srtI_len]
          have hfew := HFEW.out
          have hra := fun (w' : World) (hb : Below w9.heap.size w9 w') => rows_alike Ap Ao cp co w9.heap.size lp l P' w' ((HPR4.out.below (hb49.mono HS34.out)).more (Nat.le_trans HS34.out hb49.size) |>.below hb)
            (h9.out.row.below hb)
            ((show RowsZ w4 (fun b => b < w3.heap.size) lp P' from by rw [HPM2.out]; exact HPZ4.out).off (S := fun b => w4.heap.size ≤ b) (show Only _ w4 w' from ⟨(hb49.trans (hb.mono hb49.size)).os, (hb49.trans (hb.mono hb49.size)).tape, (hb49.trans (hb.mono hb49.size)).output, (hb49.trans (hb.mono hb49.size)).size, fun i hi _ => (hb49.trans (hb.mono hb49.size)).block i hi⟩) (fun b hb => ⟨Nat.lt_of_lt_of_le hb HS34.out, fun e => by have := HS34.out; omega⟩) (fun b hb' => Nat.lt_of_lt_of_le hb' (Nat.le_trans HS34.out hb49.size)))
            ⟨h9.len, fun i hi => ⟨(h9.row i hi).2, (h9.row i hi).1.row.below hb⟩⟩
            (by rw [HPM2.out, levs_len]; omega)
            (fun q hq => by
              obtain ⟨i, hi⟩ := List.mem_iff_getElem?.1 hq
              have h1 : P'.getD i [] = q := by rw [List.getD_eq_getElem?_getD, hi]; rfl
              have hil := (List.getElem?_eq_some_iff.1 hi).1
              rw [HPM2.out, levsF] at h1
              have h2 : q = (itML K ([], srtI (firstF K)) i).2 := by
                rw [HPM2.out, levs_len] at hil
                rw [← h1]
                simp [List.getD_eq_getElem?_getD, hil]
              have h3 := apart_all (apart_srt HN.out) i
              have h4 := nodup_len _ _ h3.1 h3.2
              rw [List.length_append, List.length_map] at h4
              rw [h2]
              omega)
            hb.size
          have hPlen : P'.length = l.length := h9.len.symm
          have hPm : m = l.length := by rw [← hPlen, HPM2.out, levs_len]
          rw [hPlen] at hra
          have HRA := Lib.hid hra
          have HPMm := Lib.hid hPm
          clear hos hon h9 hb69 hb49 heq hra hPlen hfew
          rw [hlm, hPm]
          clear hlm hPm
          go_wp2_with fail
          refine HEQ.out.mono ?_
          rintro e w10 ⟨rfl, m3, rfl⟩
          have HRB2 := Lib.hid (HRA.out _ (below_drewN (Below.refl w9.heap.size w9) m3))
          have HBG := Lib.hid (below_drewN HBF.out m3)
          clear HEQ HRA
          go_wp2_with fail
          refine HRB2.out.mono ?_
          rintro e w11 ⟨rfl, hb11⟩
          have HBH := Lib.hid (HBG.out.trans (hb11.mono HBG.out.size))
          clear hb11
          go_wp2_with fail
          go_ret
          exact ⟨rfl, HBH.out⟩
end Go.Proofs.Ytbhdagjilmgahaa
