
/-
  cut: begin, without cuts.
-/
import Derived.Test.YtgkckldflfalgaaCu3
import Derived.Test.YtgkckldflfalgaaEv1
import Derived.Test.YtgkckldflfalgaaHeldC
import Derived.Deep.LoopGhost
namespace Go.Proofs.Ytgkckldflfalgaa
open Go.RowKit Go.Maps

def BgP (l : List Ev) (w : World) (e : Ending) (w' : World) : Prop :=
  Below w.heap.size w w' ∧ if history l = 0 then ∃ gh gs gt ms AR, e = .returned (.tuple #[.pointer (some ⟨gh, 0, none⟩), .slice none 0 0, .int .i64 0]) ∧ HiIn w' l gh gs gt ms AR
    else e = .returned (.tuple #[.pointer none, .slice none 0 0, .int .i64 (history l)])
theorem good_of {l : List Ev} (h : history l = 0) : HGood l := by
  obtain ⟨_, h1⟩ := hist_good h
  exact ⟨fun i hi => (h1 i hi).place, fun i hi => (h1 i hi).uniq, fun i hi => (h1 i hi).sent⟩
set_option maxRecDepth 100000 in
set_option maxHeartbeats 4000000 in
theorem begin_any (A : Option Addr) (c : Nat) (l : List Ev) (w : World) (hr : Row w w.heap.size A (flat evC l)) (hlm : l.length ≤ maxLen) (hI : ∀ x ∈ l, I64 x.2.2) :
    Calls Try.prog 8 #[.slice A l.length c, .slice none 0 0] w (BgP l w) := by
  have HCK := Lib.hid (checkE_any A c l w hr hlm hI)
  have HR := Lib.hid (fun (w' : World) (hb : Below w.heap.size w w') => hr.below hb)
  have hmm := @run_makeMap Try.prog
  clear hr
  go_enter Try.func8, Try.ntmps8
  go_wp2_with fail
  refine HCK.out.mono ?_
  rintro e w1 ⟨rfl, hb1⟩
  have HB1 := Lib.hid hb1
  clear hb1 HCK
  by_cases hz : history l = 0
  case neg =>
    have HP : Hid (∀ (e : Ending) (w' : World), Below w.heap.size w w' → e = .returned (.tuple #[.pointer none, .slice none 0 0, .int .i64 (history l)]) → BgP l w e w') := fun e w' hb he => ⟨hb, by rw [if_neg hz]; exact he⟩
    generalize history l = r at *
    have e1 : (r != 0) = true := by simpa using hz
    clear hz hmm
    go_wp2_with fail
    refine bodyPost_ret (v := .tuple #[.pointer none, .slice none 0 0, .int .i64 r]) (by simp [results, Try.results8, go_sem]) rfl ?_
    exact HP.out _ _ HB1.out rfl
  have HP : Hid (∀ (e : Ending) (w' : World), Below w.heap.size w w' → (∃ gh gs gt ms AR, e = .returned (.tuple #[.pointer (some ⟨gh, 0, none⟩), .slice none 0 0, .int .i64 0]) ∧ HiIn w' l gh gs gt ms AR) → BgP l w e w') := fun e w' hb he => ⟨hb, by rw [if_pos hz]; exact he⟩
  have HG := Lib.hid (good_of hz)
  have hl200 := (hist_good hz).1
  have HM := Lib.hid (BgSt.made w1 l)
  rw [hz]
  clear hz
  go_upto_region 5 with fail
  generalize ((w1.alloc (.map #[] 0)).alloc (.map #[] 0)).alloc (.cells #[.slice none 0 0, .slice none 0 0, .slice none 0 0, .slice none 0 0, .slice none 0 0, .slice none 0 0, .slice none 0 0, .slice none 0 0, .map (some w1.heap.size), .map (some (w1.heap.size + 1))] 50) = w4 at *
  obtain ⟨gh, hgh⟩ : ∃ g, w1.heap.size + 1 + 1 = g := ⟨_, rfl⟩
  obtain ⟨gt, hgt⟩ : ∃ g, w1.heap.size + 1 = g := ⟨_, rfl⟩
  obtain ⟨gs, hgs⟩ : ∃ g, w1.heap.size = g := ⟨_, rfl⟩
  rw [hgh, hgt, hgs] at HM
  rw [hgh]
  clear hmm hgh hgt hgs
  go_wp2_with fail
  go_loopg [28] l.length (fun gk v wr => ∃ (j ms : Nat) (AR : Nat → Option Addr × Nat), gk = l.length - j ∧ j ≤ l.length ∧ v = .int .i64 j ∧ BgSt w1 wr l j gh gs gt ms AR)
  case atStart => exact ⟨0, 0, _, by omega, by omega, rfl, HM.out⟩
  case round =>
    clear HM
    obtain ⟨j, ms, AR, hgk, hj, rfl, hst⟩ := hrel
    have HGK := Lib.hid hgk
    clear hgk
    by_cases hlt : j < l.length
    · have hbw := HB1.out.trans (hst.bl.mono HB1.out.size)
      obtain ⟨b1, o1, rfl, _, z0, z1, z2⟩ := (HR.out wr hbw).ev hlt (0, 0, 0)
      have hpl := HG.out.pl j hlt
      have h64 := hI _ (getD_mem (0, 0, 0) hlt)
      have HEV : Hid (evAt l j = l.getD j (0, 0, 0)) := rfl
      rw [HEV.out] at hpl
      generalize l.getD j (0, 0, 0) = x at *
      obtain ⟨ep, ek, em⟩ := x
      obtain ⟨p, rfl⟩ : ∃ p : Nat, ep = (p : Int) := ⟨ep.toNat, by have := hpl.1; dsimp only at this; omega⟩
      have hp : p < 8 := by have := hpl.2; dsimp only at this; omega
      dsimp only at z0 z1 z2 h64
      have hb7 := (Below.refl wr.heap.size wr).alloc (Nat.le_refl _) (.cells #[.int .i64 (p : Int), .int .i64 ek, .int .i64 em] 41)
      have hx7 := Box.new wr 41 #[.int .i64 (p : Int), .int .i64 ek, .int .i64 em]
      have hst7 := hst.below hb7
      obtain ⟨w7, hw7⟩ : ∃ w7, wr.alloc (.cells #[.int .i64 (p : Int), .int .i64 ek, .int .i64 em] 41) = w7 := ⟨_, rfl⟩
      rw [hw7] at hb7 hx7 hst7
      have HW7 := Lib.hid hw7
      have HX7 := Lib.hid hx7
      have HST := Lib.hid hst7
      have hjl : (j : Int) < (l.length : Int) := by omega
      have hgl : gs < wr.heap.size ∧ gt < wr.heap.size ∧ gh < wr.heap.size := ⟨hst.snd.lt, (by obtain ⟨F, hF⟩ := hst.tk; exact hF.lt), hst.box.lt⟩
      have hbx : ∀ b, (AR p).1.map (·.block) = some b → b ≠ wr.heap.size := fun b hb e => by have := (own_blkE (hst.rows p hp) hb).2; omega
      clear hw7 hb7 hx7 hst7 hst hbw hpl
      go_upto_region 8 with fail
      rw [HW7.out]
      obtain ⟨gx, hgx⟩ : ∃ gx, wr.heap.size = gx := ⟨_, rfl⟩
      rw [hgx] at HX7 hbx ⊢
      clear z0 z1 z2
      have HGX : Hid (gs < gx ∧ gt < gx ∧ gh < gx) := by show _ ∧ _; rw [← hgx]; exact hgl
      have HK8 : Hid (∀ w', Below w7.heap.size w7 w' → w'.cell? ⟨gx, 0, none⟩ = some (.int .i64 (p : Int)) ∧ w'.cell? ⟨gh, p, none⟩ = some (.slice (AR p).1 (plF (l.take j) (p : Int)).length (AR p).2)) := fun w' hb => ⟨(HX7.out.below hb HX7.out.lt).cell 0, (HST.out.below hb).place hp⟩
      have hp8 : (p : Int) < 8 := by omega
      have hHeld := HK8.out w7.drew ((Below.refl w7.heap.size w7).drew)
      obtain ⟨ar, har⟩ : ∃ ar, AR p = ar := ⟨_, rfl⟩
      obtain ⟨arA, arc⟩ := ar
      rw [har] at HK8 hHeld hbx
      have HAR := Lib.hid har
      obtain ⟨n, hn⟩ : ∃ n, (plF (l.take j) (p : Int)).length = n := ⟨_, rfl⟩
      rw [hn] at HK8 hHeld
      have HN := Lib.hid hn
      dsimp only at HK8 hHeld hbx
      have HBX := Lib.hid hbx
      clear har hn hbx
      refine wp_region_C (S := (fun w' => w'.cell? ⟨gx, 0, none⟩ = some (.int .i64 (p : Int)) ∧ w'.cell? ⟨gh, p, none⟩ = some (.slice arA n arc))) (k := 12) (by kernel_rfl) ?_
      refine wpAnyC_takeU (i := 0) (v := ?_) rfl (by kernel_rfl) (by kernel_rfl) (by kernel_rfl) (by kernel_rfl) (fun _ _ _ h => h) (Or.inl ⟨by rfl, ?_⟩) (fun _ => by assumption) ?_
      rotate_left
      · (intro w _; go_simp; (try with_reducible rfl))
      try simp only [List.getElem_toArray]
      try simp only [List.getElem_cons_succ]
      try simp only [List.getElem_cons_zero]
      try simp only [Act.put]
      try simp only [List.setIfInBounds_toArray]
      try simp only [List.set_cons_succ]
      try simp only [List.set_cons_zero]
      refine wpAnyC_take (i := 1) (v := ?_) rfl (by kernel_rfl) (by kernel_rfl) (by kernel_rfl) (by kernel_rfl) (by kernel_rfl) (fun _ _ _ h => h) (Or.inl ⟨by rfl, ?_⟩) (by assumption) ?_
      rotate_left
      · (intro w hSw; (try dsimp only at hSw); go_simp; (try with_reducible rfl))
      try simp only [List.getElem_toArray]
      try simp only [List.getElem_cons_succ]
      try simp only [List.getElem_cons_zero]
      try simp only [Act.put]
      try simp only [List.setIfInBounds_toArray]
      try simp only [List.set_cons_succ]
      try simp only [List.set_cons_zero]
      refine wpAnyC_takeU (i := 2) (v := ?_) rfl (by kernel_rfl) (by kernel_rfl) (by kernel_rfl) (by kernel_rfl) (fun _ _ _ h => h) (Or.inl ⟨by rfl, ?_⟩) (fun _ => by assumption) ?_
      rotate_left
      · (intro w _; go_simp; (try with_reducible rfl))
      try simp only [List.getElem_toArray]
      try simp only [List.getElem_cons_succ]
      try simp only [List.getElem_cons_zero]
      try simp only [Act.put]
      try simp only [List.setIfInBounds_toArray]
      try simp only [List.set_cons_succ]
      try simp only [List.set_cons_zero]
      refine wpAnyC_takeU (i := 3) (v := ?_) rfl (by kernel_rfl) (by kernel_rfl) (by kernel_rfl) (by kernel_rfl) (fun _ _ _ h => h) (Or.inl ⟨by rfl, ?_⟩) (fun _ => by assumption) ?_
      rotate_left
      · (intro w _; go_simp; (try with_reducible rfl))
      try simp only [List.getElem_toArray]
      try simp only [List.getElem_cons_succ]
      try simp only [List.getElem_cons_zero]
      try simp only [Act.put]
      try simp only [List.setIfInBounds_toArray]
      try simp only [List.set_cons_succ]
      try simp only [List.set_cons_zero]
      refine wpAnyC_take (i := 4) (v := ?_) rfl (by kernel_rfl) (by kernel_rfl) (by kernel_rfl) (by kernel_rfl) (by kernel_rfl) (fun _ _ _ h => h) (Or.inl ⟨by rfl, ?_⟩) (by assumption) ?_
      rotate_left
      · (intro w hSw; (try dsimp only at hSw); go_simp; (try with_reducible rfl))
      try simp only [List.getElem_toArray]
      try simp only [List.getElem_cons_succ]
      try simp only [List.getElem_cons_zero]
      try simp only [Act.put]
      try simp only [List.setIfInBounds_toArray]
      try simp only [List.set_cons_succ]
      try simp only [List.set_cons_zero]
      refine wpAnyC_takeU (i := 5) (v := ?_) rfl (by kernel_rfl) (by kernel_rfl) (by kernel_rfl) (by kernel_rfl) (fun _ _ _ h => h) (Or.inl ⟨by rfl, ?_⟩) (fun _ => by assumption) ?_
      rotate_left
      · (intro w _; go_simp; (try with_reducible rfl))
      try simp only [List.getElem_toArray]
      try simp only [List.getElem_cons_succ]
      try simp only [List.getElem_cons_zero]
      try simp only [Act.put]
      try simp only [List.setIfInBounds_toArray]
      try simp only [List.set_cons_succ]
      try simp only [List.set_cons_zero]
      refine wpAnyC_takeU (i := 6) (v := ?_) rfl (by kernel_rfl) (by kernel_rfl) (by kernel_rfl) (by kernel_rfl) (fun _ _ _ h => h) (Or.inl ⟨by rfl, ?_⟩) (fun _ => by assumption) ?_
      rotate_left
      · (intro w _; go_simp; (try with_reducible rfl))
      try simp only [List.getElem_toArray]
      try simp only [List.getElem_cons_succ]
      try simp only [List.getElem_cons_zero]
      try simp only [Act.put]
      try simp only [List.setIfInBounds_toArray]
      try simp only [List.set_cons_succ]
      try simp only [List.set_cons_zero]
      refine wpAnyC_takeU (i := 7) (v := ?_) rfl (by kernel_rfl) (by kernel_rfl) (by kernel_rfl) (by kernel_rfl) (fun _ _ _ h => h) (Or.inl ⟨by rfl, ?_⟩) (fun _ => by assumption) ?_
      rotate_left
      · (intro w _; go_simp; (try with_reducible rfl))
      try simp only [List.getElem_toArray]
      try simp only [List.getElem_cons_succ]
      try simp only [List.getElem_cons_zero]
      try simp only [Act.put]
      try simp only [List.setIfInBounds_toArray]
      try simp only [List.set_cons_succ]
      try simp only [List.set_cons_zero]
      refine wpAnyC_take (i := 8) (v := ?_) rfl (by kernel_rfl) (by kernel_rfl) (by kernel_rfl) (by kernel_rfl) (by kernel_rfl) (fun _ _ _ h => h) (Or.inl ⟨by rfl, ?_⟩) (by assumption) ?_
      rotate_left
      · (intro w hSw; (try dsimp only at hSw); go_simp; (try with_reducible rfl))
      try simp only [List.getElem_toArray]
      try simp only [List.getElem_cons_succ]
      try simp only [List.getElem_cons_zero]
      try simp only [Act.put]
      try simp only [List.setIfInBounds_toArray]
      try simp only [List.set_cons_succ]
      try simp only [List.set_cons_zero]
      refine wpAnyC_takeU (i := 9) (v := ?_) rfl (by kernel_rfl) (by kernel_rfl) (by kernel_rfl) (by kernel_rfl) (fun _ _ _ h => h) (Or.inl ⟨by rfl, ?_⟩) (fun _ => by assumption) ?_
      rotate_left
      · (intro w _; go_simp; (try with_reducible rfl))
      try simp only [List.getElem_toArray]
      try simp only [List.getElem_cons_succ]
      try simp only [List.getElem_cons_zero]
      try simp only [Act.put]
      try simp only [List.setIfInBounds_toArray]
      try simp only [List.set_cons_succ]
      try simp only [List.set_cons_zero]
      refine wpAnyC_takeU (i := 10) (v := ?_) rfl (by kernel_rfl) (by kernel_rfl) (by kernel_rfl) (by kernel_rfl) (fun _ _ _ h => h) (Or.inl ⟨by rfl, ?_⟩) (fun _ => by assumption) ?_
      rotate_left
      · (intro w _; go_simp; (try with_reducible rfl))
      try simp only [List.getElem_toArray]
      try simp only [List.getElem_cons_succ]
      try simp only [List.getElem_cons_zero]
      try simp only [Act.put]
      try simp only [List.setIfInBounds_toArray]
      try simp only [List.set_cons_succ]
      try simp only [List.set_cons_zero]
      refine wpAnyC_ready (rs := [11]) (by kernel_rfl) (by simp) ?_
      refine AllReadyC.cons rfl (fun K hK => ?_) AllReadyC.nil
      go_simp
      refine hK.out _ _ (fun _ => (HK8.out _ ((Below.refl w7.heap.size w7).drew.alloc (Nat.le_refl _) _))) ?_
      clear hK K
      try simp only [List.getElem_toArray]
      try simp only [List.getElem_cons_succ]
      try simp only [List.getElem_cons_zero]
      try simp only [Act.put]
      try simp only [List.setIfInBounds_toArray]
      try simp only [List.set_cons_succ]
      try simp only [List.set_cons_zero]
      refine wpAnyC_ready (rs := [12]) (by kernel_rfl) (by simp) ?_
      refine AllReadyC.cons rfl (fun K hK => ?_) AllReadyC.nil
      go_simp
      refine hK.out _ _ (fun h => by cases h) ?_
      clear hK K
      try simp only [List.getElem_toArray]
      try simp only [List.getElem_cons_succ]
      try simp only [List.getElem_cons_zero]
      try simp only [Act.put]
      try simp only [List.setIfInBounds_toArray]
      try simp only [List.set_cons_succ]
      try simp only [List.set_cons_zero]
      refine wpAnyC_done (by kernel_rfl) ?_ _
      have hb8 := ((Below.refl w7.heap.size w7).alloc (Nat.le_refl _) (.cells #[.int .i64 (p : Int), .int .i64 (n : Int)] 52)).drew
      have hx8 := Box.new w7 52 #[.int .i64 (p : Int), .int .i64 (n : Int)]
      have hst8 := HST.out.below hb8
      have hxx8 := HX7.out.below hb8 HX7.out.lt
      clear hHeld HK8
      go_upto_region 9 with fail
      obtain ⟨w8, hw8⟩ : ∃ w8, (w7.alloc (.cells #[.int .i64 (p : Int), .int .i64 (n : Int)] 52)).drew = w8 := ⟨_, rfl⟩
      rw [hw8] at hb8 hst8 hxx8
      have hx8' : Box w8 w7.heap.size 52 #[.int .i64 (p : Int), .int .i64 (n : Int)] := by rw [← hw8]; exact hx8
      rw [hw8]
      have HST8 := Lib.hid hst8
      have HX8 := Lib.hid hxx8
      have HS8 := Lib.hid hx8'
      have hrk : rkF l j = n := by unfold rkF; rw [HEV.out]; exact HN.out
      have HRK := Lib.hid hrk
      obtain ⟨gp, hgp⟩ : ∃ g, w7.heap.size = g := ⟨_, rfl⟩
      rw [hgp] at HS8 ⊢
      clear hb8 hst8 hxx8 hx8 hx8' hw8 hrk HW7 HST HX7 hgp
      have z1 : w8.cell? ⟨gx, 1, none⟩ = some (.int .i64 ek) := HX8.out.cell 1
      go_upto_block 2 with fail
      go_cut [] (fun wx => ∃ ms', BgMid w1 wx l j gh gs gt ms' AR ∧ Box wx gx 41 #[.int .i64 (p : Int), .int .i64 ek, .int .i64 em])
      case first =>
        by_cases h2 : ek = 2
        · subst h2
          have hk2 : (evAt l j).2.1 = 2 := by rw [HEV.out]
          have h642 : I64 (evAt l j).2.2 := by rw [HEV.out]; exact h64
          obtain ⟨w9, hrun, hmid, ho9⟩ := (HST8.out.below ((Below.refl w8.heap.size w8).drew)).send (by omega) hk2 h642
          rw [HRK.out, HEV.out] at hrun
          dsimp only at hrun
          have HMID := Lib.hid hmid
          have HX9 := Lib.hid (ho9.box (HX8.out.below ((Below.refl w8.heap.size w8).drew) HX8.out.lt) (fun e => by have := HST8.out.snd.lt; have := HGX.out.1; omega))
          have hHeld : w8.drew.cell? ⟨gh, 8, none⟩ = some (.map (some gs)) ∧ w8.drew.cell? ⟨gx, 2, none⟩ = some (.int .i64 em) ∧ w8.drew.cell? ⟨gp, 0, none⟩ = some (.int .i64 (p : Int)) ∧ w8.drew.cell? ⟨gp, 1, none⟩ = some (.int .i64 (n : Int)) := ⟨HST8.out.box.cell 8, HX8.out.cell 2, HS8.out.cell 0, HS8.out.cell 1⟩
          clear hmid ho9 hk2 h642
          go_upto_region 11 with fail
          refine wp_region_C (S := (fun w' => w'.cell? ⟨gh, 8, none⟩ = some (.map (some gs)) ∧ w'.cell? ⟨gx, 2, none⟩ = some (.int .i64 em) ∧ w'.cell? ⟨gp, 0, none⟩ = some (.int .i64 (p : Int)) ∧ w'.cell? ⟨gp, 1, none⟩ = some (.int .i64 (n : Int)))) (k := 7) (by kernel_rfl) ?_
          refine wpAnyC_takeU (i := 0) (v := ?_) rfl (by kernel_rfl) (by kernel_rfl) (by kernel_rfl) (by kernel_rfl) (fun _ _ _ h => h) (Or.inl ⟨by rfl, ?_⟩) (fun _ => by assumption) ?_
          rotate_left
          · (intro w _; go_simp; (try with_reducible rfl))
          try simp only [List.getElem_toArray]
          try simp only [List.getElem_cons_succ]
          try simp only [List.getElem_cons_zero]
          try simp only [Act.put]
          try simp only [List.setIfInBounds_toArray]
          try simp only [List.set_cons_succ]
          try simp only [List.set_cons_zero]
          refine wpAnyC_takeU (i := 1) (v := ?_) rfl (by kernel_rfl) (by kernel_rfl) (by kernel_rfl) (by kernel_rfl) (fun _ _ _ h => h) (Or.inl ⟨by rfl, ?_⟩) (fun _ => by assumption) ?_
          rotate_left
          · (intro w _; go_simp; (try with_reducible rfl))
          try simp only [List.getElem_toArray]
          try simp only [List.getElem_cons_succ]
          try simp only [List.getElem_cons_zero]
          try simp only [Act.put]
          try simp only [List.setIfInBounds_toArray]
          try simp only [List.set_cons_succ]
          try simp only [List.set_cons_zero]
          refine wpAnyC_takeU (i := 2) (v := ?_) rfl (by kernel_rfl) (by kernel_rfl) (by kernel_rfl) (by kernel_rfl) (fun _ _ _ h => h) (Or.inl ⟨by rfl, ?_⟩) (fun _ => by assumption) ?_
          rotate_left
          · (intro w _; go_simp; (try with_reducible rfl))
          try simp only [List.getElem_toArray]
          try simp only [List.getElem_cons_succ]
          try simp only [List.getElem_cons_zero]
          try simp only [Act.put]
          try simp only [List.setIfInBounds_toArray]
          try simp only [List.set_cons_succ]
          try simp only [List.set_cons_zero]
          refine wpAnyC_take (i := 3) (v := ?_) rfl (by kernel_rfl) (by kernel_rfl) (by kernel_rfl) (by kernel_rfl) (by kernel_rfl) (fun _ _ _ h => h) (Or.inl ⟨by rfl, ?_⟩) (by assumption) ?_
          rotate_left
          · (intro w hSw; (try dsimp only at hSw); go_simp; (try with_reducible rfl))
          try simp only [List.getElem_toArray]
          try simp only [List.getElem_cons_succ]
          try simp only [List.getElem_cons_zero]
          try simp only [Act.put]
          try simp only [List.setIfInBounds_toArray]
          try simp only [List.set_cons_succ]
          try simp only [List.set_cons_zero]
          refine wpAnyC_takeU (i := 4) (v := ?_) rfl (by kernel_rfl) (by kernel_rfl) (by kernel_rfl) (by kernel_rfl) (fun _ _ _ h => h) (Or.inl ⟨by rfl, ?_⟩) (fun _ => by assumption) ?_
          rotate_left
          · (intro w _; go_simp; (try with_reducible rfl))
          try simp only [List.getElem_toArray]
          try simp only [List.getElem_cons_succ]
          try simp only [List.getElem_cons_zero]
          try simp only [Act.put]
          try simp only [List.setIfInBounds_toArray]
          try simp only [List.set_cons_succ]
          try simp only [List.set_cons_zero]
          refine wpAnyC_take (i := 5) (v := ?_) rfl (by kernel_rfl) (by kernel_rfl) (by kernel_rfl) (by kernel_rfl) (by kernel_rfl) (fun _ _ _ h => h) (Or.inl ⟨by rfl, ?_⟩) (by assumption) ?_
          rotate_left
          · (intro w hSw; (try dsimp only at hSw); go_simp; (try with_reducible rfl))
          try simp only [List.getElem_toArray]
          try simp only [List.getElem_cons_succ]
          try simp only [List.getElem_cons_zero]
          try simp only [Act.put]
          try simp only [List.setIfInBounds_toArray]
          try simp only [List.set_cons_succ]
          try simp only [List.set_cons_zero]
          refine wpAnyC_take (i := 6) (v := ?_) rfl (by kernel_rfl) (by kernel_rfl) (by kernel_rfl) (by kernel_rfl) (by kernel_rfl) (fun _ _ _ h => h) (Or.inl ⟨by rfl, ?_⟩) (by assumption) ?_
          rotate_left
          · (intro w hSw; (try dsimp only at hSw); go_simp; (try with_reducible rfl))
          try simp only [List.getElem_toArray]
          try simp only [List.getElem_cons_succ]
          try simp only [List.getElem_cons_zero]
          try simp only [Act.put]
          try simp only [List.setIfInBounds_toArray]
          try simp only [List.set_cons_succ]
          try simp only [List.set_cons_zero]
          refine wpAnyC_ready (rs := [7]) (by kernel_rfl) (by simp) ?_
          refine AllReadyC.cons rfl (fun K hK => ?_) AllReadyC.nil
          go_simp
          refine hK.out _ _ (fun h => by cases h) ?_
          clear hK K
          try simp only [List.getElem_toArray]
          try simp only [List.getElem_cons_succ]
          try simp only [List.getElem_cons_zero]
          try simp only [Act.put]
          try simp only [List.setIfInBounds_toArray]
          try simp only [List.set_cons_succ]
          try simp only [List.set_cons_zero]
          refine wpAnyC_done (by kernel_rfl) ?_ _
          go_wp2_with fail
          go_meet
          exact ⟨_, HMID.out, HX9.out⟩
        · by_cases h3 : ek = 3
          · subst h3
            have hk2 : (evAt l j).2.1 ≠ 2 := by rw [HEV.out]; show (3 : Int) ≠ 2; decide
            have h642 : I64 (evAt l j).2.2 := by rw [HEV.out]; exact h64
            obtain ⟨w9, hrun, hmid, ho9⟩ := (HST8.out.below ((Below.refl w8.heap.size w8).drew)).take (by omega) hk2 h642 (.agg #[.int .i64 (p : Int), .int .i64 (n : Int)])
            rw [HEV.out] at hrun
            dsimp only at hrun
            have HMID := Lib.hid hmid
            have HX9 := Lib.hid (ho9.box (HX8.out.below ((Below.refl w8.heap.size w8).drew) HX8.out.lt) (fun e => by have := HGX.out.2; omega))
            have hHeld : w8.drew.cell? ⟨gh, 9, none⟩ = some (.map (some gt)) ∧ w8.drew.cell? ⟨gx, 2, none⟩ = some (.int .i64 em) ∧ w8.drew.cell? ⟨gp, 0, none⟩ = some (.int .i64 (p : Int)) ∧ w8.drew.cell? ⟨gp, 1, none⟩ = some (.int .i64 (n : Int)) := ⟨HST8.out.box.cell 9, HX8.out.cell 2, HS8.out.cell 0, HS8.out.cell 1⟩
            clear hmid ho9 hk2 h642
            go_upto_region 13 with fail
            refine wp_region_C (S := (fun w' => w'.cell? ⟨gh, 9, none⟩ = some (.map (some gt)) ∧ w'.cell? ⟨gx, 2, none⟩ = some (.int .i64 em) ∧ w'.cell? ⟨gp, 0, none⟩ = some (.int .i64 (p : Int)) ∧ w'.cell? ⟨gp, 1, none⟩ = some (.int .i64 (n : Int)))) (k := 7) (by kernel_rfl) ?_
            refine wpAnyC_takeU (i := 0) (v := ?_) rfl (by kernel_rfl) (by kernel_rfl) (by kernel_rfl) (by kernel_rfl) (fun _ _ _ h => h) (Or.inl ⟨by rfl, ?_⟩) (fun _ => by assumption) ?_
            rotate_left
            · (intro w _; go_simp; (try with_reducible rfl))
            try simp only [List.getElem_toArray]
            try simp only [List.getElem_cons_succ]
            try simp only [List.getElem_cons_zero]
            try simp only [Act.put]
            try simp only [List.setIfInBounds_toArray]
            try simp only [List.set_cons_succ]
            try simp only [List.set_cons_zero]
            refine wpAnyC_takeU (i := 1) (v := ?_) rfl (by kernel_rfl) (by kernel_rfl) (by kernel_rfl) (by kernel_rfl) (fun _ _ _ h => h) (Or.inl ⟨by rfl, ?_⟩) (fun _ => by assumption) ?_
            rotate_left
            · (intro w _; go_simp; (try with_reducible rfl))
            try simp only [List.getElem_toArray]
            try simp only [List.getElem_cons_succ]
            try simp only [List.getElem_cons_zero]
            try simp only [Act.put]
            try simp only [List.setIfInBounds_toArray]
            try simp only [List.set_cons_succ]
            try simp only [List.set_cons_zero]
            refine wpAnyC_takeU (i := 2) (v := ?_) rfl (by kernel_rfl) (by kernel_rfl) (by kernel_rfl) (by kernel_rfl) (fun _ _ _ h => h) (Or.inl ⟨by rfl, ?_⟩) (fun _ => by assumption) ?_
            rotate_left
            · (intro w _; go_simp; (try with_reducible rfl))
            try simp only [List.getElem_toArray]
            try simp only [List.getElem_cons_succ]
            try simp only [List.getElem_cons_zero]
            try simp only [Act.put]
            try simp only [List.setIfInBounds_toArray]
            try simp only [List.set_cons_succ]
            try simp only [List.set_cons_zero]
            refine wpAnyC_take (i := 3) (v := ?_) rfl (by kernel_rfl) (by kernel_rfl) (by kernel_rfl) (by kernel_rfl) (by kernel_rfl) (fun _ _ _ h => h) (Or.inl ⟨by rfl, ?_⟩) (by assumption) ?_
            rotate_left
            · (intro w hSw; (try dsimp only at hSw); go_simp; (try with_reducible rfl))
            try simp only [List.getElem_toArray]
            try simp only [List.getElem_cons_succ]
            try simp only [List.getElem_cons_zero]
            try simp only [Act.put]
            try simp only [List.setIfInBounds_toArray]
            try simp only [List.set_cons_succ]
            try simp only [List.set_cons_zero]
            refine wpAnyC_takeU (i := 4) (v := ?_) rfl (by kernel_rfl) (by kernel_rfl) (by kernel_rfl) (by kernel_rfl) (fun _ _ _ h => h) (Or.inl ⟨by rfl, ?_⟩) (fun _ => by assumption) ?_
            rotate_left
            · (intro w _; go_simp; (try with_reducible rfl))
            try simp only [List.getElem_toArray]
            try simp only [List.getElem_cons_succ]
            try simp only [List.getElem_cons_zero]
            try simp only [Act.put]
            try simp only [List.setIfInBounds_toArray]
            try simp only [List.set_cons_succ]
            try simp only [List.set_cons_zero]
            refine wpAnyC_take (i := 5) (v := ?_) rfl (by kernel_rfl) (by kernel_rfl) (by kernel_rfl) (by kernel_rfl) (by kernel_rfl) (fun _ _ _ h => h) (Or.inl ⟨by rfl, ?_⟩) (by assumption) ?_
            rotate_left
            · (intro w hSw; (try dsimp only at hSw); go_simp; (try with_reducible rfl))
            try simp only [List.getElem_toArray]
            try simp only [List.getElem_cons_succ]
            try simp only [List.getElem_cons_zero]
            try simp only [Act.put]
            try simp only [List.setIfInBounds_toArray]
            try simp only [List.set_cons_succ]
            try simp only [List.set_cons_zero]
            refine wpAnyC_take (i := 6) (v := ?_) rfl (by kernel_rfl) (by kernel_rfl) (by kernel_rfl) (by kernel_rfl) (by kernel_rfl) (fun _ _ _ h => h) (Or.inl ⟨by rfl, ?_⟩) (by assumption) ?_
            rotate_left
            · (intro w hSw; (try dsimp only at hSw); go_simp; (try with_reducible rfl))
            try simp only [List.getElem_toArray]
            try simp only [List.getElem_cons_succ]
            try simp only [List.getElem_cons_zero]
            try simp only [Act.put]
            try simp only [List.setIfInBounds_toArray]
            try simp only [List.set_cons_succ]
            try simp only [List.set_cons_zero]
            refine wpAnyC_ready (rs := [7]) (by kernel_rfl) (by simp) ?_
            refine AllReadyC.cons rfl (fun K hK => ?_) AllReadyC.nil
            go_simp
            refine hK.out _ _ (fun h => by cases h) ?_
            clear hK K
            try simp only [List.getElem_toArray]
            try simp only [List.getElem_cons_succ]
            try simp only [List.getElem_cons_zero]
            try simp only [Act.put]
            try simp only [List.setIfInBounds_toArray]
            try simp only [List.set_cons_succ]
            try simp only [List.set_cons_zero]
            refine wpAnyC_done (by kernel_rfl) ?_ _
            go_wp2_with fail
            go_meet
            exact ⟨_, HMID.out, HX9.out⟩
          · have hne : (evAt l j).2.1 ≠ 2 := by rw [HEV.out]; exact h2
            have e2 : (ek == 2) = false := by simpa using h2
            have e3 : (ek == 3) = false := by simpa using h3
            go_wp2_with fail
            go_meet
            exact ⟨ms, HST8.out.other hne, HX8.out⟩
      case rest =>
        obtain ⟨ms', hmid, hxe⟩ := hcut
        obtain ⟨i0, z0, hi0, hz0, hz1, hz2, hz3⟩ := ev_parts
        have hb3 := ((Below.refl wc.heap.size wc).drew).alloc (Nat.le_refl _) (.cells #[.int .i64 (p : Int), .int .i64 ek, .int .i64 em] 41)
        have hm3 := hmid.below hb3
        have hx3 := hxe.below hb3 hxe.lt
        have hq3 := hm3.rows p hp
        rw [HAR.out, HN.out] at hq3
        dsimp only at hq3
        have hc3 := hm3.place hp
        rw [HAR.out, HN.out] at hc3
        dsimp only at hc3
        have HQO := Lib.hid hq3
        have HM3 := Lib.hid hm3
        have HX3 := Lib.hid hx3
        have HC3 := Lib.hid hc3
        have HS3 := Lib.hid hm3.bl.size
        have HNL : Hid (n ≤ l.length) := by
          show _ ≤ _
          rw [← HN.out]
          exact Nat.le_trans (List.length_filter_le _ _) (by rw [List.length_take]; omega)
        have HLI : Hid (∀ jj u, (evC ((p : Int), ek, em))[jj]? = some u → (wc.drew.alloc (.cells #[.int .i64 (p : Int), .int .i64 ek, .int .i64 em] 41)).cell? ((⟨wc.heap.size, 0, none⟩ : Addr).add jj) = some u) := fun jj u hu => by
          rw [addr_add, Nat.zero_add]
          have hbn := Box.new wc.drew 41 #[.int .i64 (p : Int), .int .i64 ek, .int .i64 em]
          have := hbn.cell jj
          rw [show wc.drew.heap.size = wc.heap.size from rfl] at this
          rw [this, ← hu]
          simp [evC]
        have hHeld : wc.drew.cell? ⟨gx, 0, none⟩ = some (.int .i64 (p : Int)) ∧ wc.drew.cell? ⟨gx, 1, none⟩ = some (.int .i64 ek) ∧ wc.drew.cell? ⟨gx, 2, none⟩ = some (.int .i64 em) ∧ wc.drew.cell? ⟨gh, p, none⟩ = some (.slice arA n arc) := by
          refine ⟨hxe.cell 0, hxe.cell 1, hxe.cell 2, ?_⟩
          have := hmid.place hp
          rw [HAR.out, HN.out] at this
          exact this
        have HSA : Hid ((wc.drew.alloc (.cells #[.int .i64 (p : Int), .int .i64 ek, .int .i64 em] 41)).cell? ⟨gx, 0, none⟩ = some (.int .i64 (p : Int)) ∧ (wc.drew.alloc (.cells #[.int .i64 (p : Int), .int .i64 ek, .int .i64 em] 41)).cell? ⟨gx, 1, none⟩ = some (.int .i64 ek) ∧ (wc.drew.alloc (.cells #[.int .i64 (p : Int), .int .i64 ek, .int .i64 em] 41)).cell? ⟨gx, 2, none⟩ = some (.int .i64 em) ∧ (wc.drew.alloc (.cells #[.int .i64 (p : Int), .int .i64 ek, .int .i64 em] 41)).cell? ⟨gh, p, none⟩ = some (.slice arA n arc)) := ⟨hx3.cell 0, hx3.cell 1, hx3.cell 2, hc3⟩
        have hpj : (evAt l j).1 = (p : Int) := by rw [HEV.out]
        have HPJ := Lib.hid hpj
        clear hmid hxe hb3 hm3 hx3 hq3 hc3 hpj HST8 HX8 HS8 z1
        go_upto_region 14 with fail
        refine wp_region_C (S := (fun w' => w'.cell? ⟨gx, 0, none⟩ = some (.int .i64 (p : Int)) ∧ w'.cell? ⟨gx, 1, none⟩ = some (.int .i64 ek) ∧ w'.cell? ⟨gx, 2, none⟩ = some (.int .i64 em) ∧ w'.cell? ⟨gh, p, none⟩ = some (.slice arA n arc))) (k := 16) (by kernel_rfl) ?_
        refine wpAnyC_takeU (i := 0) (v := ?_) rfl (by kernel_rfl) (by kernel_rfl) (by kernel_rfl) (by kernel_rfl) (fun _ _ _ h => h) (Or.inl ⟨by rfl, ?_⟩) (fun _ => by assumption) ?_
        rotate_left
        · (intro w _; go_simp; (try with_reducible rfl))
        try simp only [List.getElem_toArray]
        try simp only [List.getElem_cons_succ]
        try simp only [List.getElem_cons_zero]
        try simp only [Act.put]
        try simp only [List.setIfInBounds_toArray]
        try simp only [List.set_cons_succ]
        try simp only [List.set_cons_zero]
        refine wpAnyC_takeU (i := 1) (v := ?_) rfl (by kernel_rfl) (by kernel_rfl) (by kernel_rfl) (by kernel_rfl) (fun _ _ _ h => h) (Or.inl ⟨by rfl, ?_⟩) (fun _ => by assumption) ?_
        rotate_left
        · (intro w _; go_simp; (try with_reducible rfl))
        try simp only [List.getElem_toArray]
        try simp only [List.getElem_cons_succ]
        try simp only [List.getElem_cons_zero]
        try simp only [Act.put]
        try simp only [List.setIfInBounds_toArray]
        try simp only [List.set_cons_succ]
        try simp only [List.set_cons_zero]
        refine wpAnyC_take (i := 2) (v := ?_) rfl (by kernel_rfl) (by kernel_rfl) (by kernel_rfl) (by kernel_rfl) (by kernel_rfl) (fun _ _ _ h => h) (Or.inl ⟨by rfl, ?_⟩) (by assumption) ?_
        rotate_left
        · (intro w hSw; (try dsimp only at hSw); go_simp; (try with_reducible rfl))
        try simp only [List.getElem_toArray]
        try simp only [List.getElem_cons_succ]
        try simp only [List.getElem_cons_zero]
        try simp only [Act.put]
        try simp only [List.setIfInBounds_toArray]
        try simp only [List.set_cons_succ]
        try simp only [List.set_cons_zero]
        refine wpAnyC_takeU (i := 3) (v := ?_) rfl (by kernel_rfl) (by kernel_rfl) (by kernel_rfl) (by kernel_rfl) (fun _ _ _ h => h) (Or.inl ⟨by rfl, ?_⟩) (fun _ => by assumption) ?_
        rotate_left
        · (intro w _; go_simp; (try with_reducible rfl))
        try simp only [List.getElem_toArray]
        try simp only [List.getElem_cons_succ]
        try simp only [List.getElem_cons_zero]
        try simp only [Act.put]
        try simp only [List.setIfInBounds_toArray]
        try simp only [List.set_cons_succ]
        try simp only [List.set_cons_zero]
        refine wpAnyC_takeU (i := 4) (v := ?_) rfl (by kernel_rfl) (by kernel_rfl) (by kernel_rfl) (by kernel_rfl) (fun _ _ _ h => h) (Or.inl ⟨by rfl, ?_⟩) (fun _ => by assumption) ?_
        rotate_left
        · (intro w _; go_simp; (try with_reducible rfl))
        try simp only [List.getElem_toArray]
        try simp only [List.getElem_cons_succ]
        try simp only [List.getElem_cons_zero]
        try simp only [Act.put]
        try simp only [List.setIfInBounds_toArray]
        try simp only [List.set_cons_succ]
        try simp only [List.set_cons_zero]
        refine wpAnyC_take (i := 5) (v := ?_) rfl (by kernel_rfl) (by kernel_rfl) (by kernel_rfl) (by kernel_rfl) (by kernel_rfl) (fun _ _ _ h => h) (Or.inl ⟨by rfl, ?_⟩) (by assumption) ?_
        rotate_left
        · (intro w hSw; (try dsimp only at hSw); go_simp; (try with_reducible rfl))
        try simp only [List.getElem_toArray]
        try simp only [List.getElem_cons_succ]
        try simp only [List.getElem_cons_zero]
        try simp only [Act.put]
        try simp only [List.setIfInBounds_toArray]
        try simp only [List.set_cons_succ]
        try simp only [List.set_cons_zero]
        refine wpAnyC_takeU (i := 6) (v := ?_) rfl (by kernel_rfl) (by kernel_rfl) (by kernel_rfl) (by kernel_rfl) (fun _ _ _ h => h) (Or.inl ⟨by rfl, ?_⟩) (fun _ => by assumption) ?_
        rotate_left
        · (intro w _; go_simp; (try with_reducible rfl))
        try simp only [List.getElem_toArray]
        try simp only [List.getElem_cons_succ]
        try simp only [List.getElem_cons_zero]
        try simp only [Act.put]
        try simp only [List.setIfInBounds_toArray]
        try simp only [List.set_cons_succ]
        try simp only [List.set_cons_zero]
        refine wpAnyC_takeU (i := 7) (v := ?_) rfl (by kernel_rfl) (by kernel_rfl) (by kernel_rfl) (by kernel_rfl) (fun _ _ _ h => h) (Or.inl ⟨by rfl, ?_⟩) (fun _ => by assumption) ?_
        rotate_left
        · (intro w _; go_simp; (try with_reducible rfl))
        try simp only [List.getElem_toArray]
        try simp only [List.getElem_cons_succ]
        try simp only [List.getElem_cons_zero]
        try simp only [Act.put]
        try simp only [List.setIfInBounds_toArray]
        try simp only [List.set_cons_succ]
        try simp only [List.set_cons_zero]
        refine wpAnyC_takeU (i := 8) (v := ?_) rfl (by kernel_rfl) (by kernel_rfl) (by kernel_rfl) (by kernel_rfl) (fun _ _ _ h => h) (Or.inl ⟨by rfl, ?_⟩) (fun _ => by assumption) ?_
        rotate_left
        · (intro w _; go_simp; (try with_reducible rfl))
        try simp only [List.getElem_toArray]
        try simp only [List.getElem_cons_succ]
        try simp only [List.getElem_cons_zero]
        try simp only [Act.put]
        try simp only [List.setIfInBounds_toArray]
        try simp only [List.set_cons_succ]
        try simp only [List.set_cons_zero]
        refine wpAnyC_take (i := 9) (v := ?_) rfl (by kernel_rfl) (by kernel_rfl) (by kernel_rfl) (by kernel_rfl) (by kernel_rfl) (fun _ _ _ h => h) (Or.inl ⟨by rfl, ?_⟩) (by assumption) ?_
        rotate_left
        · (intro w hSw; (try dsimp only at hSw); go_simp; (try with_reducible rfl))
        try simp only [List.getElem_toArray]
        try simp only [List.getElem_cons_succ]
        try simp only [List.getElem_cons_zero]
        try simp only [Act.put]
        try simp only [List.setIfInBounds_toArray]
        try simp only [List.set_cons_succ]
        try simp only [List.set_cons_zero]
        refine wpAnyC_take (i := 10) (v := ?_) rfl (by kernel_rfl) (by kernel_rfl) (by kernel_rfl) (by kernel_rfl) (by kernel_rfl) (fun _ _ _ h => h) (Or.inl ⟨by rfl, ?_⟩) (by assumption) ?_
        rotate_left
        · (intro w hSw; (try dsimp only at hSw); go_simp; (try with_reducible rfl))
        try simp only [List.getElem_toArray]
        try simp only [List.getElem_cons_succ]
        try simp only [List.getElem_cons_zero]
        try simp only [Act.put]
        try simp only [List.setIfInBounds_toArray]
        try simp only [List.set_cons_succ]
        try simp only [List.set_cons_zero]
        refine wpAnyC_takeU (i := 13) (v := ?_) rfl (by kernel_rfl) (by kernel_rfl) (by kernel_rfl) (by kernel_rfl) (fun _ _ _ h => h) (Or.inl ⟨by rfl, ?_⟩) (fun _ => by assumption) ?_
        rotate_left
        · (intro w _; go_simp; (try with_reducible rfl))
        try simp only [List.getElem_toArray]
        try simp only [List.getElem_cons_succ]
        try simp only [List.getElem_cons_zero]
        try simp only [Act.put]
        try simp only [List.setIfInBounds_toArray]
        try simp only [List.set_cons_succ]
        try simp only [List.set_cons_zero]
        refine wpAnyC_takeU (i := 14) (v := ?_) rfl (by kernel_rfl) (by kernel_rfl) (by kernel_rfl) (by kernel_rfl) (fun _ _ _ h => h) (Or.inl ⟨by rfl, ?_⟩) (fun _ => by assumption) ?_
        rotate_left
        · (intro w _; go_simp; (try with_reducible rfl))
        try simp only [List.getElem_toArray]
        try simp only [List.getElem_cons_succ]
        try simp only [List.getElem_cons_zero]
        try simp only [Act.put]
        try simp only [List.setIfInBounds_toArray]
        try simp only [List.set_cons_succ]
        try simp only [List.set_cons_zero]
        refine wpAnyC_ready (rs := [11]) (by kernel_rfl) (by simp) ?_
        refine AllReadyC.cons rfl (fun K hK => ?_) AllReadyC.nil
        go_simp
        refine hK.out _ _ (fun _ => HSA.out) ?_
        clear hK K
        try simp only [List.getElem_toArray]
        try simp only [List.getElem_cons_succ]
        try simp only [List.getElem_cons_zero]
        try simp only [Act.put]
        try simp only [List.setIfInBounds_toArray]
        try simp only [List.set_cons_succ]
        try simp only [List.set_cons_zero]
        refine wpAnyC_ready (rs := [12]) (by kernel_rfl) (by simp) ?_
        refine AllReadyC.cons rfl (fun K hK => ?_) AllReadyC.nil
        refine step_append_q rfl (.tmp 72) (.tmp 74) 22 rfl w1.heap.size 41 i0 z0 3 24 Try.underlying22 hi0 hz0 hz1 hz2 hz3 (by decide) arA n arc _ rfl HQO.out ⟨wc.heap.size, 0, none⟩ 1 1 (evC ((p : Int), ek, em)) rfl rfl HLI.out (ev_one _) (by have := HNL.out; unfold maxLen; omega) (by have := HNL.out; omega) HS3.out (by decide) ?_
        intro g9 o9 c9 w9 j1 j2 j3
        have HJ := Lib.hid (And.intro j1 (And.intro j2 j3))
        have ho9 := only_grownE j2
        have hx9 := ho9.box HX3.out (fun e => HBX.out _ e rfl)
        have hc9 : w9.cell? ⟨gh, p, none⟩ = some (.slice arA n arc) := by simp only [World.cell?, ho9.block gh HM3.out.box.lt (fun e => (HM3.out.rb p gh hp (by rw [HAR.out]; exact e)).1 rfl)]; exact HC3.out
        have hf9 := (ho9.box HM3.out.box (fun e => (HM3.out.rb p gh hp (by rw [HAR.out]; exact e)).1 rfl)).frozen p
        have HX9 := Lib.hid hx9
        clear j1 j2 j3 ho9 hx9
        refine hK.out _ _ (fun _ => ⟨HX9.out.cell 0, HX9.out.cell 1, HX9.out.cell 2, hc9⟩) ?_
        clear hK K
        try simp only [List.getElem_toArray]
        try simp only [List.getElem_cons_succ]
        try simp only [List.getElem_cons_zero]
        try simp only [Act.put]
        try simp only [List.setIfInBounds_toArray]
        try simp only [List.set_cons_succ]
        try simp only [List.set_cons_zero]
        refine wpAnyC_ready (rs := [15]) (by kernel_rfl) (by simp) ?_
        refine AllReadyC.cons rfl (fun K hK => ?_) AllReadyC.nil
        go_simp
        refine hK.out _ _ (fun _ => ⟨HX9.out.cell 0, HX9.out.cell 1, HX9.out.cell 2, hc9⟩) ?_
        clear hK K
        try simp only [List.getElem_toArray]
        try simp only [List.getElem_cons_succ]
        try simp only [List.getElem_cons_zero]
        try simp only [Act.put]
        try simp only [List.setIfInBounds_toArray]
        try simp only [List.set_cons_succ]
        try simp only [List.set_cons_zero]
        refine wpAnyC_ready (rs := [16]) (by kernel_rfl) (by simp) ?_
        refine AllReadyC.cons rfl (fun K hK => ?_) AllReadyC.nil
        go_simp
        refine hK.out _ _ (fun h => by cases h) ?_
        clear hK K
        try simp only [List.getElem_toArray]
        try simp only [List.getElem_cons_succ]
        try simp only [List.getElem_cons_zero]
        try simp only [Act.put]
        try simp only [List.setIfInBounds_toArray]
        try simp only [List.set_cons_succ]
        try simp only [List.set_cons_zero]
        refine wpAnyC_done (by kernel_rfl) ?_ _
        have hpt := HM3.out.push (w' := w9) (A' := some ⟨g9, o9, none⟩) (c' := c9) hlt hp HPJ.out (by rw [HAR.out]; exact HJ.out.2.1) (by rw [HN.out, HEV.out]; exact HJ.out.1) (fun gg hgg => by rw [HAR.out]; simp at hgg; subst hgg; exact HJ.out.2.2.imp id (fun e => Nat.le_of_eq e.symm))
        rw [HN.out] at hpt
        have HPT := Lib.hid hpt
        clear hpt hc9 hf9
        go_wp2_with fail
        go_roundg (l.length - (j + 1))
        case measure => have := HGK.out; omega
        case rel => exact ⟨j + 1, ms', _, rfl, by omega, by go_num, HPT.out⟩
    · obtain rfl : j = l.length := by omega
      have hjl : ¬ (l.length : Int) < (l.length : Int) := by omega
      have HD := Lib.hid hst.done
      have HB := Lib.hid (HB1.out.trans (hst.bl.mono HB1.out.size))
      clear hst HGK hlt hj
      go_wp2_with fail
      go_loopg [82, 12] 0 (fun _ v u wx => v = .int .i64 0 ∧ u = .slice none 0 0 ∧ wr = wx)
      case atStart => exact ⟨rfl, rfl, rfl⟩
      case round =>
        obtain ⟨rfl, rfl, rfl⟩ := hrel
        go_wp2_with fail
        refine bodyPost_ret (v := .tuple #[.pointer (some ⟨gh, 0, none⟩), .slice none 0 0, .int .i64 0]) (by simp [results, Try.results8, go_sem]) rfl ?_
        exact HP.out _ _ HB.out ⟨gh, gs, gt, ms, AR, rfl, HD.out⟩
end Go.Proofs.Ytgkckldflfalgaa
