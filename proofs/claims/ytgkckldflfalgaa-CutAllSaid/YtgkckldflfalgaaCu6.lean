
/-
  cut: All.
-/
import Derived.Test.YtgkckldflfalgaaCu5
namespace Go.Proofs.Ytgkckldflfalgaa
open Go.RowKit Go.Maps

noncomputable def allR2 (l : List Ev) : Value := if history l = 0 then .tuple #[.int .i64 (manyF l : Int), .int .i64 0] else .tuple #[.int .i64 0, .int .i64 (history l)]
theorem drop_head {α : Type} {l : List α} {d : Nat} (hd : d < l.length) : ∃ u rest, l.drop d = u :: rest ∧ l[d]? = some u ∧ rest.length + 1 = l.length - d ∧ l.drop (d + 1) = rest := by
  refine ⟨l[d], l.drop (d + 1), List.drop_eq_getElem_cons hd, List.getElem?_eq_getElem hd, by rw [List.length_drop]; omega, rfl⟩
set_option maxRecDepth 100000 in
set_option maxHeartbeats 4000000 in
theorem all_any (A : Option Addr) (c0 : Nat) (l : List Ev) (w : World) (hr : Row w w.heap.size A (flat evC l)) (h10 : l.length ≤ 10) (hI : ∀ x ∈ l, I64 x.2.2) :
    Calls Try.prog 4 #[.slice A l.length c0] w fun e w' => Below w.heap.size w w' ∧ e = .returned (allR2 l) := by
  have HBG := Lib.hid (begin_any A c0 l w hr (by unfold maxLen; omega) hI)
  have hmm := @run_makeMap Try.prog
  clear hr
  go_enter Try.func4, Try.ntmps4
  go_wp2_with fail
  refine HBG.out.mono ?_
  rintro e w1 ⟨hb1, hbg⟩
  have HB1 := Lib.hid hb1
  clear hb1 HBG
  by_cases hz : history l = 0
  case neg =>
    rw [if_neg hz] at hbg
    obtain rfl := hbg
    have HP : Hid (allR2 l = .tuple #[.int .i64 0, .int .i64 (history l)]) := if_neg hz
    generalize history l = r at *
    have e1 : (r != 0) = true := by simpa using hz
    clear hz hmm
    go_wp2_with fail
    go_ret2
    exact ⟨HB1.out, by rw [HP.out]; rfl⟩
  rw [if_pos hz] at hbg
  obtain ⟨gh, gs, gt, ms, AR, rfl, hhi⟩ := hbg
  have HP : Hid (allR2 l = .tuple #[.int .i64 (manyF l : Int), .int .i64 0]) := if_pos hz
  have HG := Lib.hid (good_of hz)
  have hm1 := many_small h10
  obtain ⟨w9, hrun, _, _⟩ := (show AlSt w1 (w1.alloc (.map #[] 0)) w1.heap.size [] [] none 0 from ⟨(Below.refl _ _).alloc (Nat.le_refl _) _, SetB.made w1, OwnAt.nil, Nat.le_refl _, fun b hb => by cases hb⟩).mark kut0 (by simp)
  have HAL : Hid (AlSt w1 (w9.alloc (.cells #[.int .i64 0, .int .i64 0, .int .i64 0, .int .i64 0, .int .i64 0, .int .i64 0, .int .i64 0, .int .i64 0] 36)) w1.heap.size [kut0] [kut0] (some ⟨w9.heap.size, 0, none⟩) 1) := AlSt.made hrun rfl
  have hrun2 : (Instr.mapUpdate 37 (.map (some w1.heap.size)) (.agg #[.int .i64 0, .int .i64 0, .int .i64 0, .int .i64 0, .int .i64 0, .int .i64 0, .int .i64 0, .int .i64 0]) (.bool true)).run Try.prog (w1.alloc (.map #[] 0)) = .ok () w9 := hrun
  have HHI := Lib.hid hhi
  clear hz hhi hrun
  go_upto_region 6 with fail
  generalize w9.alloc (.cells #[.int .i64 0, .int .i64 0, .int .i64 0, .int .i64 0, .int .i64 0, .int .i64 0, .int .i64 0, .int .i64 0] 36) = w5 at *
  obtain ⟨gm, hgm⟩ : ∃ g, w1.heap.size = g := ⟨_, rfl⟩
  rw [hgm] at HAL ⊢
  clear hmm hrun2 hgm
  go_loopg [8] (manyF l) (fun gk v8 wr => ∃ (ks : List K8) (d : Nat) (Aq : Option Addr) (cap : Nat), gk = manyF l - d ∧ d ≤ ks.length ∧ v8 = .slice Aq (ks.length - d) cap ∧ Bfs l (cutsF ks) d ∧ AlSt w1 wr gm ks (ks.drop d) Aq cap)
  case atStart => exact ⟨[kut0], 0, _, 1, by omega, by simp, rfl, bfs0 l, HAL.out⟩
  case round =>
    clear HAL
    obtain ⟨ks, d, Aq, cap, hgk, hd, rfl, hbf, hst⟩ := hrel
    have HGK := Lib.hid hgk
    clear hgk
    by_cases hlt : d < ks.length
    · obtain ⟨u, rest, hdr, hu, hrl, _⟩ := drop_head hlt
      have huc : (cutsF ks).getD d [] = u.1 := by unfold cutsF; rw [List.getD_eq_getElem?_getD, List.getElem?_map, hu]; rfl
      have hcon : Con l u.1 := hbf.con u.1 (List.mem_map.2 ⟨u, List.mem_of_getElem? hu, rfl⟩)
      have hnx := bfs_next HG.out hbf (by unfold cutsF; rw [List.length_map]; exact hlt)
      have hrg := fun n hn => row_good HG.out hbf (c := u.1) (List.mem_map.2 ⟨u, List.mem_of_getElem? hu, rfl⟩) n hn
      rw [huc] at hnx
      rw [hdr] at hst
      have hqn : ks.length - d = rest.length + 1 := by omega
      rw [hqn]
      have HCO := Lib.hid hcon
      have HNX := Lib.hid hnx
      have HRG := Lib.hid hrg
      have HST := Lib.hid hst
      have HDR := Lib.hid hdr
      have HBS := Lib.hid (bfs_small hbf)
      clear hcon hnx hrg hst hdr huc hu hqn hrl
      go_wp2_with fail
      go_loopg [31, 8] 8 (fun gk i v8 wr => ∃ (p : Nat) (ks' rest' : List K8) (Aq : Option Addr) (cap : Nat), gk = 8 - p ∧ p ≤ 8 ∧ i = .int .i64 p ∧ v8 = .slice Aq (rest'.length + 1) cap ∧ cutsF ks' = rowC l u.1 (cutsF ks) p ∧ ks'.drop d = u :: rest' ∧ AlSt w1 wr gm ks' (u :: rest') Aq cap)
      case atStart => exact ⟨0, ks, rest, Aq, cap, by omega, by omega, rfl, rfl, rfl, HDR.out, HST.out⟩
      case round =>
        clear HST HDR
        obtain ⟨p, ks', rest', Aq, cap, hgp, hp, rfl, rfl, hks, hdr, hst⟩ := hrel
        have HGP := Lib.hid hgp
        clear hgp
        by_cases hp8 : p < 8
        · obtain ⟨g, o, rfl, _⟩ := hst.qu.some_of (by simp)
          have hg := grown_any (HHI.out.below hst.bl) HG.out hI (by omega) HCO.out hp8
          have HGR := Lib.hid hg
          have HRN := Lib.hid hst.head
          have HST := Lib.hid hst
          have HKS := Lib.hid hks
          have HDR := Lib.hid hdr
          have hpi : (p : Int) < 8 := by omega
          clear hg hst hks hdr
          go_wp2_with (guard_target =~ wpList _ _ _ ({ dst := some 38, op := _, type := _, pos := _, after := _, guard := _ } :: _) _ _; refine wpList_load_mid rfl 36 (.tmp 37) rfl g o rfl (ints u.1) _ HRN.out Try.underlying36 rfl (by have := cut_size u.2.1; simpa using this) ?_)
          refine HGR.out.mono ?_
          rintro e w11 ⟨hb11, v, hv8, rfl, hvu⟩
          have HZB := Lib.hid (Box.new w11 36 #[.int .i64 0, .int .i64 0, .int .i64 0, .int .i64 0, .int .i64 0, .int .i64 0, .int .i64 0, .int .i64 0])
          have hz8 : (#[.int .i64 0, .int .i64 0, .int .i64 0, .int .i64 0, .int .i64 0, .int .i64 0, .int .i64 0, .int .i64 0] : Array Value).size = (ints v).toArray.size := by simp [ints, hv8]
          have hbz := (Below.refl w11.heap.size w11).alloc (Nat.le_refl _) (.cells #[.int .i64 0, .int .i64 0, .int .i64 0, .int .i64 0, .int .i64 0, .int .i64 0, .int .i64 0, .int .i64 0] 36)
          have HBZ := Lib.hid (hb11.trans (hbz.mono hb11.size))
          have HZ8 := Lib.hid hz8
          have HBL := Lib.hid (hb11.size)
          have HVU := Lib.hid hvu
          clear hbz hz8 hb11 hvu HGR HRN
          go_upto_region 12 with (guard_target =~ wpList _ _ _ ({ dst := none, op := _, type := _, pos := _, after := _, guard := _ } :: _) _ _; refine wpList_store_box rfl 36 (.tmp 10) (.tmp 41) rfl w11.heap.size rfl _ (ints v).toArray rfl HZB HZ8.out (cut_size hv8) (cut_one v) ?_; intro w12 hs12)
          have HB12 := Lib.hid (hs12.out.only.to_below HBZ.out HBZ.out.size (fun b hb => by have := HBL.out; omega))
          have HBX := Lib.hid hs12.out.box
          have hg11 := HBX.out.lt
          generalize w11.heap.size = g11 at *
          clear hs12 HZB HBZ HZ8
          obtain ⟨ok, hok⟩ : ∃ ok, okC l u.1 p = ok := ⟨_, rfl⟩
          rw [hok] at HVU ⊢
          have HOK := Lib.hid hok
          clear hok
          cases ok
          case false =>
            have HK2 : Hid (rowC l u.1 (cutsF ks) (p + 1) = cutsF ks') := by
              show _ = _
              rw [rowC_succ, ← HKS.out]
              unfold stepC
              rw [if_neg (fun h => by rw [HOK.out] at h; cases h.1)]
            have HST2 := Lib.hid (HST.out.below HB12.out)
            go_wp2_with fail
            go_roundg (8 - (p + 1))
            case measure => have := HGP.out; omega
            case rel => exact ⟨p + 1, ks', rest', some ⟨g, o, none⟩, cap, rfl, by omega, by go_num, rfl, HK2.out.symm, HDR.out, HST2.out⟩
          case true =>
            obtain ⟨x, hx⟩ : ∃ x : K8, x.1 = v := ⟨kOf (con_up HG.out HCO.out hp8 HOK.out) (by omega), (HVU.out rfl).symm⟩
            have HXV : Hid (x.1 = upC u.1 p) := by show _ = _; rw [hx]; exact HVU.out rfl
            subst hx
            have hst2 := HST.out.below HB12.out
            have hlk := hst2.look x
            obtain ⟨a0, a1, a2, a3, a4, a5, a6, a7, hxe⟩ : ∃ a0 a1 a2 a3 a4 a5 a6 a7 : Int, x.1 = [a0, a1, a2, a3, a4, a5, a6, a7] := by
              have hx8 := x.2.1
              match x.1, hx8 with
              | [a0, a1, a2, a3, a4, a5, a6, a7], _ => exact ⟨a0, a1, a2, a3, a4, a5, a6, a7, rfl⟩
            have hxl : cutV x.1 = .agg #[.int .i64 a0, .int .i64 a1, .int .i64 a2, .int .i64 a3, .int .i64 a4, .int .i64 a5, .int .i64 a6, .int .i64 a7] := by rw [hxe]; rfl
            have hxb := HBX.out
            rw [hxe] at hxb
            have q0 : w12.cell? ⟨g11, 0, none⟩ = some (.int .i64 a0) := hxb.cell 0
            have q1 : w12.cell? ⟨g11, 1, none⟩ = some (.int .i64 a1) := hxb.cell 1
            have q2 : w12.cell? ⟨g11, 2, none⟩ = some (.int .i64 a2) := hxb.cell 2
            have q3 : w12.cell? ⟨g11, 3, none⟩ = some (.int .i64 a3) := hxb.cell 3
            have q4 : w12.cell? ⟨g11, 4, none⟩ = some (.int .i64 a4) := hxb.cell 4
            have q5 : w12.cell? ⟨g11, 5, none⟩ = some (.int .i64 a5) := hxb.cell 5
            have q6 : w12.cell? ⟨g11, 6, none⟩ = some (.int .i64 a6) := hxb.cell 6
            have q7 : w12.cell? ⟨g11, 7, none⟩ = some (.int .i64 a7) := hxb.cell 7
            rw [hxl] at hlk ⊢
            have HXE := Lib.hid hxe
            have HXL := Lib.hid hxl
            clear hxe hxl hxb
            have HST2 := Lib.hid hst2
            have hks4 : ks'.length ≤ 1024 := by
              obtain ⟨h1, h2, _⟩ := HRG.out p hp
              have h3 := con_many _ h1 h2
              rw [← HKS.out] at h3
              unfold cutsF at h3
              rw [List.length_map] at h3
              omega
            have hrl : rest'.length + 1 ≤ ks'.length := by
              have := congrArg List.length HDR.out
              rw [List.length_drop, List.length_cons] at this
              omega
            obtain ⟨bs, hbs⟩ : ∃ bs, (cutsF ks').contains x.1 = bs := ⟨_, rfl⟩
            rw [hbs] at hlk
            have HBS2 := Lib.hid hbs
            clear hst2 hbs
            cases bs
            case true =>
              have HK2 : Hid (rowC l u.1 (cutsF ks) (p + 1) = cutsF ks') := by
                show _ = _
                rw [rowC_succ, ← HKS.out]
                unfold stepC
                rw [if_neg (fun h => by have h2 := h.2; rw [← HXV.out, HBS2.out] at h2; cases h2)]
              go_wp2_with fail
              go_roundg (8 - (p + 1))
              case measure => have := HGP.out; omega
              case rel => exact ⟨p + 1, ks', rest', some ⟨g, o, none⟩, cap, rfl, by omega, by go_num, rfl, HK2.out.symm, HDR.out, HST2.out⟩
            case false =>
              obtain ⟨w13, hrun, hst13, ho13⟩ := HST2.out.mark x (by omega)
              rw [HXL.out] at hrun
              have hgmx : g11 ≠ gm := fun e => by have h1 := HST.out.seen.lt; have h2 := HBL.out; omega
              have hxb := ho13.box HBX.out hgmx
              rw [HXE.out] at hxb
              have HXB := Lib.hid hxb
              have hal := (Below.refl w13.heap.size w13).alloc (Nat.le_refl _) (.cells #[.int .i64 a0, .int .i64 a1, .int .i64 a2, .int .i64 a3, .int .i64 a4, .int .i64 a5, .int .i64 a6, .int .i64 a7] 36)
              have HQ := Lib.hid (hst13.below hal)
              have HNEW : Hid (∀ jj uu, (k8C x)[jj]? = some uu → (w13.alloc (.cells #[.int .i64 a0, .int .i64 a1, .int .i64 a2, .int .i64 a3, .int .i64 a4, .int .i64 a5, .int .i64 a6, .int .i64 a7] 36)).cell? ((⟨w13.heap.size, 0, none⟩ : Addr).add jj) = some uu) := fun jj uu hu => by
                rw [addr_add, Nat.zero_add]
                have hbn := (Box.new w13 36 #[.int .i64 a0, .int .i64 a1, .int .i64 a2, .int .i64 a3, .int .i64 a4, .int .i64 a5, .int .i64 a6, .int .i64 a7]).cell jj
                rw [hbn, ← hu]
                unfold k8C
                rw [HXE.out]
                simp [ints]
              obtain ⟨i0, z0, hi0, hz0, hz1, hz2, hz3⟩ := arr_parts
              have HKL : Hid ((k8C x).length = 1 * 8) := k8C_len x
              have HRL : Hid (rest'.length + 1 + 1 ≤ maxLen ∧ (rest'.length + 1 + 1) * 64 ≤ 140737488355328) := by
                show _ ∧ _
                unfold maxLen
                omega
              have HBSZ := Lib.hid HQ.out.bl.size
              have HK2 : Hid (rowC l u.1 (cutsF ks) (p + 1) = cutsF (ks' ++ [x])) := by
                show _ = _
                rw [rowC_succ, ← HKS.out]
                unfold stepC
                rw [if_pos ⟨HOK.out, by rw [← HXV.out]; exact HBS2.out⟩]
                unfold cutsF
                rw [List.map_append, ← HXV.out]
                rfl
              have HD2 : Hid ((ks' ++ [x]).drop d = u :: (rest' ++ [x])) := by
                show _ = _
                have hdl : d ≤ ks'.length := by
                  have := congrArg List.length HDR.out
                  rw [List.length_drop, List.length_cons] at this
                  omega
                rw [List.drop_append_of_le_length hdl, HDR.out]
                rfl
              clear hst13 ho13 hxb hal hgmx
              go_upto_region 14 with fail
              clear q0 q1 q2 q3 q4 q5 q6 q7 hlk hrun
              have r0 : w13.cell? ⟨g11, 0, none⟩ = some (.int .i64 a0) := HXB.out.cell 0
              have r1 : w13.cell? ⟨g11, 1, none⟩ = some (.int .i64 a1) := HXB.out.cell 1
              have r2 : w13.cell? ⟨g11, 2, none⟩ = some (.int .i64 a2) := HXB.out.cell 2
              have r3 : w13.cell? ⟨g11, 3, none⟩ = some (.int .i64 a3) := HXB.out.cell 3
              have r4 : w13.cell? ⟨g11, 4, none⟩ = some (.int .i64 a4) := HXB.out.cell 4
              have r5 : w13.cell? ⟨g11, 5, none⟩ = some (.int .i64 a5) := HXB.out.cell 5
              have r6 : w13.cell? ⟨g11, 6, none⟩ = some (.int .i64 a6) := HXB.out.cell 6
              have r7 : w13.cell? ⟨g11, 7, none⟩ = some (.int .i64 a7) := HXB.out.cell 7
              go_wp2_with (at_builtin; refine wpList_append_q rfl (.tmp 52) (.tmp 54) 33 rfl w1.heap.size 36 i0 z0 8 64 Try.underlying33 hi0 hz0 hz1 hz2 hz3 (by decide) (some ⟨g, o, none⟩) (rest'.length + 1) cap (flat k8C (u :: rest')) rfl HQ.out.qu ⟨w13.heap.size, 0, none⟩ 1 1 (k8C x) rfl HKL.out HNEW.out (k8C_one x) HRL.out.1 HRL.out.2 HBSZ.out (by decide) ?_; intro g9 o9 c9 w9 j1 j2 j3; have HJ := Lib.hid (And.intro j1 (And.intro j2 j3)); clear j1 j2 j3)
              have hpu := HQ.out.push (todo' := u :: (rest' ++ [x])) (A' := some ⟨g9, o9, none⟩) (cap' := c9) HJ.out.2.1 (by rw [List.length_cons, List.length_append, List.length_singleton, show flat k8C (u :: (rest' ++ [x])) = flat k8C (u :: rest') ++ k8C x from by simp [flat]]; exact HJ.out.1) (fun b hb => by simp at hb; subst hb; exact HJ.out.2.2.imp id (fun e => Nat.le_of_eq e.symm))
              have HPU := Lib.hid hpu
              clear hpu r0 r1 r2 r3 r4 r5 r6 r7
              go_roundg (8 - (p + 1))
              case measure => have := HGP.out; omega
              case rel => exact ⟨p + 1, ks' ++ [x], rest' ++ [x], some ⟨g9, o9, none⟩, c9, rfl, by omega, by go_num, by rw [List.length_append]; rfl, HK2.out.symm, HD2.out, HPU.out⟩
        · obtain rfl : p = 8 := by omega
          obtain ⟨h1, h2, _⟩ := HRG.out 8 (Nat.le_refl _)
          have h3 := con_many _ h1 h2
          rw [← hks] at h1 h3
          have hle := hst.len h1
          have hks4 : ks'.length ≤ 1024 := by
            unfold cutsF at h3
            rw [List.length_map] at h3
            omega
          obtain ⟨A', hsl, hcu⟩ := hst.cut
          have hdl := congrArg List.length hdr
          rw [List.length_drop, List.length_cons] at hdl
          have hdr2 : ks'.drop (d + 1) = rest' := by rw [← List.drop_drop, hdr]; rfl
          have HB := Lib.hid HNX.out
          rw [← hks] at HB
          have HCU := Lib.hid hcu
          have HDR := Lib.hid hdr2
          have hsw := hsl wr
          have hgt : ¬ (5000 : Int) < (ks'.length : Int) := by omega
          have hksl := HBS.out
          have hmm : d < manyF l := by unfold cutsF at hksl; rw [List.length_map] at hksl; omega
          clear hst hks hdr h1 h2 h3 hcu hdr2 hsl hksl
          go_wp2_with fail
          go_roundg (manyF l - (d + 1))
          case measure => have := HGK.out; omega
          case rel => exact ⟨ks', d + 1, A', cap - 1, rfl, by omega, by rw [show ks'.length - (d + 1) = rest'.length by omega], HB.out, by rw [HDR.out]; exact HCU.out⟩
    · obtain rfl : d = ks.length := by omega
      have hdn := bfs_done HG.out (show Bfs l (cutsF ks) (cutsF ks).length from by unfold cutsF at *; rw [List.length_map]; exact hbf)
      have hle := hst.len hbf.nd
      unfold cutsF at hdn
      rw [List.length_map] at hdn
      rw [hdn] at hle
      have HBW := Lib.hid (HB1.out.trans (hst.bl.mono HB1.out.size))
      rw [Nat.sub_self]
      clear hst hbf hdn HGK
      go_wp2_with fail
      go_ret2
      exact ⟨HBW.out, by rw [HP.out]; rfl⟩
end Go.Proofs.Ytgkckldflfalgaa
