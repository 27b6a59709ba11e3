
/-
  cut: (*history).grown.
-/
import Derived.Test.YtgkckldflfalgaaCu1
import Derived.Test.YtgkckldflfalgaaBoxLS
import Derived.Deep.DeepCutAuto
import Derived.Deep.CutBlock
namespace Go.Proofs.Ytgkckldflfalgaa
open Go.RowKit Go.Maps

def spotV (s : Int × Nat) : Value := .agg #[.int .i64 s.1, .int .i64 (s.2 : Int)]
def hisV (T : Nat → List Ev) (AR : Nat → Option Addr × Nat) (gs gt : Nat) : List Value := ((List.range 8).map fun p => Value.slice (AR p).1 (T p).length (AR p).2) ++ [.map (some gs), .map (some gt)]
theorem hisV_at (T : Nat → List Ev) (AR : Nat → Option Addr × Nat) (gs gt : Nat) {p : Nat} (hp : p < 8) : (hisV T AR gs gt)[p]? = some (.slice (AR p).1 (T p).length (AR p).2) := by
  unfold hisV
  rw [List.getElem?_append_left (by simp; omega), List.getElem?_map, List.getElem?_range hp]
  rfl
structure HiIn (w : World) (l : List Ev) (gh gs gt ms : Nat) (AR : Nat → Option Addr × Nat) : Prop where
  box : Box w gh 50 (hisV (fun p => plF l (p : Int)) AR gs gt).toArray
  rows : ∀ p : Nat, p < 8 → Row w w.heap.size (AR p).1 (flat evC (plF l (p : Int)))
  snd : IntMap w gs ms (fun m => (sndF l l.length m).map spotV)
section
variable {w w' : World} {l : List Ev} {gh gs gt ms : Nat} {AR : Nat → Option Addr × Nat}
theorem HiIn.below (h : HiIn w l gh gs gt ms AR) (hb : Below w.heap.size w w') : HiIn w' l gh gs gt ms AR :=
  ⟨h.box.below hb h.box.lt, fun p hp => ((h.rows p hp).below hb).more hb.size, h.snd.under hb⟩
theorem HiIn.place (h : HiIn w l gh gs gt ms AR) {p : Nat} (hp : p < 8) : w.cell? ⟨gh, p, none⟩ = some (.slice (AR p).1 (plF l (p : Int)).length (AR p).2) := by
  rw [h.box.cell p, ← hisV_at (fun p => plF l (p : Int)) AR gs gt hp]
  simp
theorem HiIn.map (h : HiIn w l gh gs gt ms AR) : w.cell? ⟨gh, 8, none⟩ = some (.map (some gs)) := h.box.cell 8
end
theorem zero_spot (w : World) : (zeroValue 52).run Try.prog w = .ok (.agg #[.int .i64 0, .int .i64 0]) w := by kernel_rfl
theorem snd_pl {l : List Ev} (h : HGood l) (m : Int) : ∀ j, j ≤ l.length → 0 ≤ ((sndF l j m).getD (0, 0)).1 ∧ ((sndF l j m).getD (0, 0)).1 < 8
  | 0, _ => by simp [sndF]
  | j + 1, hj => by
    unfold sndF
    by_cases hc : (evAt l j).2.1 = 2 ∧ (evAt l j).2.2 = m
    · rw [if_pos hc]
      exact h.pl j (by omega)
    · rw [if_neg hc]
      exact snd_pl h m j (by omega)
theorem res_c1_t1 {P : Program} {fn : Func} {tmps : Array Value} {w : World} {a b : Tmp} {t : TypeId} {p : Addr} {v u : Value} (hf : fn.results = #[.cell a t, .tmp b]) (ha : tmps.getD a undef = .pointer (some p)) (hl : (loadVar t p).run P w = .ok v w) (hb : tmps.getD b undef = u) :
    (results fn tmps).run P w = .ok (.tuple #[v, u]) w := by
  have ha' : tmps[a]?.getD undef = .pointer (some p) := by simpa using ha
  have hb' : tmps[b]?.getD undef = u := by simpa using hb
  simp [results, hf, ha', hb', asAddr, hl]
theorem info8 : (Try.prog.info? 36).map (·.size) = some 8 := by kernel_rfl
theorem cut_size {c : List Int} (h : c.length = 8) : (Try.prog.info? 36).map (·.size) = some (ints c).toArray.size := by rw [info8]; simp [ints, h]
theorem cut_one (c : List Int) : (ints c).toArray.all (·.oneCell') = true := by
  rw [Array.all_eq_true_iff_forall_mem]
  intro v hv
  simp [ints] at hv
  obtain ⟨x, _, rfl⟩ := hv
  rfl
theorem cut_set {w : World} {g : Nat} {t : TypeId} {c : List Int} (h : Box w g t (ints c).toArray) (p : Nat) (v : Int) : Box (w.setCell ⟨g, p, none⟩ (.int .i64 v)) g t (ints (c.set p v)).toArray := by
  have h1 := h.set p (.int .i64 v)
  have e : (ints c).toArray.setIfInBounds p (.int .i64 v) = (ints (c.set p v)).toArray := by
    unfold ints
    rw [List.map_set, List.setIfInBounds_toArray]
  rw [e] at h1
  exact h1
def GrP (l : List Ev) (c : List Int) (p : Nat) (w : World) (e : Ending) (w' : World) : Prop :=
  Below w.heap.size w w' ∧ ∃ v : List Int, v.length = 8 ∧ e = .returned (.tuple #[cutV v, .bool (okC l c p)]) ∧ (okC l c p = true → v = upC c p)
set_option maxRecDepth 100000 in
set_option maxHeartbeats 4000000 in
theorem grown_any {w : World} {l : List Ev} {gh gs gt ms : Nat} {AR : Nat → Option Addr × Nat} (h : HiIn w l gh gs gt ms AR) (hg : HGood l) (hm : ∀ x ∈ l, I64 x.2.2) (hl : l.length ≤ 1048576) {c : List Int} (hc : Con l c) {p : Nat} (hp : p < 8) :
    Calls Try.prog 9 #[.pointer (some ⟨gh, 0, none⟩), cutV c, .int .i64 (p : Int)] w (GrP l c p w) := by
  obtain ⟨n, hn⟩ : ∃ n : Nat, c.getD p 0 = (n : Int) := ⟨(c.getD p 0).toNat, by have := hc.lo p hp; omega⟩
  have hlen := hc.len
  have hlo := hc.lo p hp
  rw [hn] at hlo
  have hx1 := (Box.new w 36 (ints c).toArray).alloc (.cells #[.int .i64 0, .int .i64 0, .int .i64 0, .int .i64 0, .int .i64 0, .int .i64 0, .int .i64 0, .int .i64 0] 36)
  have hx2 := Box.new (w.alloc (.cells (ints c).toArray 36)) 36 #[.int .i64 0, .int .i64 0, .int .i64 0, .int .i64 0, .int .i64 0, .int .i64 0, .int .i64 0, .int .i64 0]
  rw [show (w.alloc (.cells (ints c).toArray 36)).heap.size = w.heap.size + 1 by simp] at hx2
  have hb := ((Below.refl w.heap.size w).alloc (Nat.le_refl _) (.cells (ints c).toArray 36)).alloc (by simp) (.cells #[.int .i64 0, .int .i64 0, .int .i64 0, .int .i64 0, .int .i64 0, .int .i64 0, .int .i64 0, .int .i64 0] 36)
  have h1 := h.below hb
  have q0 := hx1.cutAt (i := p) (by omega)
  rw [hn] at q0
  have q1 := h1.place hp
  have hp8 : (p : Int) < 8 := by omega
  have hfz := hx2.frozen
  have HB := Lib.hid hb
  obtain ⟨w1, hw1⟩ : ∃ w1, (w.alloc (.cells (ints c).toArray 36)).alloc (.cells #[.int .i64 0, .int .i64 0, .int .i64 0, .int .i64 0, .int .i64 0, .int .i64 0, .int .i64 0, .int .i64 0] 36) = w1 := ⟨_, rfl⟩
  rw [hw1] at hx1 hx2 hb h1 q0 q1 hfz HB
  have HW1 := Lib.hid hw1
  obtain ⟨g1, hg1⟩ : ∃ g1, w.heap.size = g1 := ⟨_, rfl⟩
  rw [hg1] at hx1 hx2 q0 hfz
  have HG1 := Lib.hid hg1
  have HX1 := Lib.hid hx1
  have HX2 := Lib.hid hx2
  have HH := Lib.hid h1
  have HC := Lib.hid hc
  have HGD := Lib.hid hg
  clear hx1 hx2 h1 hb hw1 hg1 h
  unfold cutV
  go_enter Try.func9, Try.ntmps9
  go_upto_region 1 with fail
  rw [HW1.out, HG1.out]
  have HZ8 : Hid ((#[.int .i64 0, .int .i64 0, .int .i64 0, .int .i64 0, .int .i64 0, .int .i64 0, .int .i64 0, .int .i64 0] : Array Value).size = (ints c).toArray.size) := by show _ = _; simp [ints, hlen]
  by_cases heq : n = (plF l (p : Int)).length
  · have hok : okC l c p = false := by
      unfold okC
      rw [hn, Int.toNat_natCast, List.getElem?_eq_none (by omega)]
    have e1 : ((n : Int) == ((plF l (p : Int)).length : Int)) = true := by simp [heq]
    have HOK := Lib.hid hok
    clear hok hfz hm hg hc hn
    go_wp2_with (first | (guard_target =~ wpList _ _ _ ({ dst := some 22, op := _, type := _, pos := _, after := _, guard := _ } :: _) _ _; refine wpList_load_box rfl 36 (.tmp 4) rfl g1 rfl (ints c).toArray _ HX1 Try.underlying36 rfl (cut_size hlen) ?_) | (guard_target =~ wpList _ _ _ ({ dst := none, op := _, type := _, pos := _, after := _, guard := _ } :: _) _ _; refine wpList_store_box rfl 36 (.tmp 6) (.tmp 22) rfl (g1 + 1) rfl _ (ints c).toArray rfl HX2 HZ8.out (cut_size hlen) (cut_one c) ?_; intro w8 hs8))
    refine bodyPost_ret (v := .tuple #[cutV c, .bool false]) (res_c1_t1 Try.results9 rfl (run_load_box hs8.out.box Try.underlying36 rfl (cut_size hlen)) rfl) rfl ?_
    exact ⟨hs8.out.only.to_below HB.out HB.out.size (fun b hb => by rw [hb, ← HG1.out]; omega), c, hlen, by rw [HOK.out], fun h => by rw [HOK.out] at h; cases h⟩
  · have hlt : n < (plF l (p : Int)).length := by omega
    have e1 : ((n : Int) == ((plF l (p : Int)).length : Int)) = false := by simp; omega
    obtain ⟨b1, o1, hA, hb1, z0, z1, z2⟩ := (HH.out.rows p hp).ev hlt (0, 0, 0)
    have hx : (plF l (p : Int))[n]? = some ((plF l (p : Int)).getD n (0, 0, 0)) := getD_some _ hlt
    have hmem : (plF l (p : Int)).getD n (0, 0, 0) ∈ l := (List.mem_filter.1 (getD_mem (0, 0, 0) hlt)).1
    have hok : okC l c p = !(((plF l (p : Int)).getD n (0, 0, 0)).2.1 == 3 && !hasC c ((sndF l l.length ((plF l (p : Int)).getD n (0, 0, 0)).2.2).getD (0, 0))) := by
      unfold okC
      rw [hn, Int.toNat_natCast, hx]
    generalize (plF l (p : Int)).getD n (0, 0, 0) = x at *
    obtain ⟨ep, ek, em⟩ := x
    have h64 := hm _ hmem
    dsimp only at z0 z1 z2 hok h64
    have hsp := snd_pl HGD.out em l.length (Nat.le_refl _)
    have hlk := fun (w' : World) (hb : Below w1.heap.size w1 w') => (HH.out.below hb).snd.look ints_keyed Try.underlying47 (zero_spot w') (int_key h64)
    rw [show (((sndF l l.length em).map spotV).getD (.agg #[.int .i64 0, .int .i64 0])) = spotV ((sndF l l.length em).getD (0, 0)) from by cases sndF l l.length em <;> rfl] at hlk
    generalize (sndF l l.length em).getD (0, 0) = sp at *
    obtain ⟨sp1, sp2⟩ := sp
    obtain ⟨p2, rfl⟩ : ∃ p2 : Nat, sp1 = (p2 : Int) := ⟨sp1.toNat, by have := hsp.1; dsimp only at this; omega⟩
    have hp2 : p2 < 8 := by have := hsp.2; dsimp only at this; omega
    have HOK := Lib.hid hok
    have HLK := Lib.hid hlk
    have HHA := Lib.hid (fun (w' : World) => has_any c hlen p2 sp2 hp2 w')
    have hbx := Box.new w1 41 #[.int .i64 ep, .int .i64 ek, .int .i64 em]
    have hb2 := (Below.refl w1.heap.size w1).alloc (Nat.le_refl _) (.cells #[.int .i64 ep, .int .i64 ek, .int .i64 em] 41)
    obtain ⟨w2, hw2⟩ : ∃ w2, w1.alloc (.cells #[.int .i64 ep, .int .i64 ek, .int .i64 em] 41) = w2 := ⟨_, rfl⟩
    rw [hw2] at hbx hb2
    rw [hA] at q1
    have hnl : (n : Int) < ((plF l (p : Int)).length : Int) := by omega
    have HW2 := Lib.hid hw2
    have HBX := Lib.hid hbx
    have HB2 := Lib.hid hb2
    clear hbx hb2 hw2 hok hlk hsp hx hmem hc hg hm hA hfz
    go_upto_region 5 with fail
    rw [HW2.out]
    obtain ⟨gx, hgx⟩ : ∃ gx, w1.heap.size = gx := ⟨_, rfl⟩
    rw [hgx] at HBX ⊢
    have HGX := Lib.hid hgx
    have HX3 := Lib.hid (HX1.out.below HB2.out HX1.out.lt)
    have HX4 := Lib.hid (HX2.out.below HB2.out HX2.out.lt)
    have HH2 := Lib.hid (HH.out.below HB2.out)
    clear hgx z0 z1 z2 q0 q1 e1
    go_cut [46] from 32 to 46 (fun v wx => v = .bool (ek == 3 && !hasC c ((p2 : Int), sp2)) ∧ Below w2.heap.size w2 wx)
    case first =>
      have z1 : w2.cell? ⟨gx, 1, none⟩ = some (.int .i64 ek) := HBX.out.cell 1
      by_cases h3 : ek = 3
      · subst h3
        obtain ⟨a0, a1, a2, a3, a4, a5, a6, a7, rfl⟩ : ∃ a0 a1 a2 a3 a4 a5 a6 a7 : Int, c = [a0, a1, a2, a3, a4, a5, a6, a7] := by
          match c, hlen with
          | [a0, a1, a2, a3, a4, a5, a6, a7], _ => exact ⟨a0, a1, a2, a3, a4, a5, a6, a7, rfl⟩
        have hsk : ∀ w', Below w2.heap.size w2 w' → w'.cell? ⟨g1, 0, none⟩ = some (.int .i64 a0) ∧ w'.cell? ⟨g1, 1, none⟩ = some (.int .i64 a1) ∧ w'.cell? ⟨g1, 2, none⟩ = some (.int .i64 a2) ∧ w'.cell? ⟨g1, 3, none⟩ = some (.int .i64 a3) ∧ w'.cell? ⟨g1, 4, none⟩ = some (.int .i64 a4) ∧ w'.cell? ⟨g1, 5, none⟩ = some (.int .i64 a5) ∧ w'.cell? ⟨g1, 6, none⟩ = some (.int .i64 a6) ∧ w'.cell? ⟨g1, 7, none⟩ = some (.int .i64 a7)
            ∧ w'.cell? ⟨gx, 1, none⟩ = some (.int .i64 3) ∧ w'.cell? ⟨gx, 2, none⟩ = some (.int .i64 em) ∧ w'.cell? ⟨gh, 8, none⟩ = some (.map (some gs)) ∧ (Instr.lookup 47 (.map (some gs)) (.int .i64 em) false).run Try.prog w' = .ok (.agg #[.int .i64 (p2 : Int), .int .i64 (sp2 : Int)]) w' := fun w' hb => by
          have h1 := HX3.out.below hb HX3.out.lt
          have h2 := HBX.out.below hb HBX.out.lt
          exact ⟨h1.cell 0, h1.cell 1, h1.cell 2, h1.cell 3, h1.cell 4, h1.cell 5, h1.cell 6, h1.cell 7, h2.cell 1, h2.cell 2, (HH2.out.below hb).map, HLK.out w' (HB2.out.trans (hb.mono HB2.out.size))⟩
        have HSK := Lib.hid hsk
        clear hsk
        go_region_held3 (fun w' => w'.cell? ⟨g1, 0, none⟩ = some (.int .i64 a0) ∧ w'.cell? ⟨g1, 1, none⟩ = some (.int .i64 a1) ∧ w'.cell? ⟨g1, 2, none⟩ = some (.int .i64 a2) ∧ w'.cell? ⟨g1, 3, none⟩ = some (.int .i64 a3) ∧ w'.cell? ⟨g1, 4, none⟩ = some (.int .i64 a4) ∧ w'.cell? ⟨g1, 5, none⟩ = some (.int .i64 a5) ∧ w'.cell? ⟨g1, 6, none⟩ = some (.int .i64 a6) ∧ w'.cell? ⟨g1, 7, none⟩ = some (.int .i64 a7)
            ∧ w'.cell? ⟨gx, 1, none⟩ = some (.int .i64 3) ∧ w'.cell? ⟨gx, 2, none⟩ = some (.int .i64 em) ∧ w'.cell? ⟨gh, 8, none⟩ = some (.map (some gs)) ∧ (Instr.lookup 47 (.map (some gs)) (.int .i64 em) false).run Try.prog w' = .ok (.agg #[.int .i64 (p2 : Int), .int .i64 (sp2 : Int)]) w')
          ((first | exact HSK.out _ hk4 | exact HSK.out _ (below_drewN (Below.refl _ _) 1) | go_keep))
          ((first | (go_at_call 15; refine (HHA.out _).mono ?_; rintro e w4 ⟨rfl, hb4⟩; have hk4 := (below_drewN (Below.refl w2.heap.size w2) 1).trans hb4) | fail))
        all_goals (go_wp2_with fail; go_meet; exact ⟨rfl, hk4⟩)
      · have e3 : (ek == 3) = false := by simpa using h3
        go_quiet (fail)
        all_goals (go_wp2_with fail; go_meet; exact ⟨by rw [e3]; rfl, below_drewN (Below.refl _ _) _⟩)
    case rest =>
      obtain ⟨rfl, hbc⟩ := hcut
      have HX5 := Lib.hid (HX3.out.below hbc HX3.out.lt)
      have HX6 := Lib.hid (HX4.out.below hbc HX4.out.lt)
      have HBW := Lib.hid (HB.out.trans ((HB2.out.trans (hbc.mono HB2.out.size)).mono HB.out.size))
      have hpl : (plF l (p : Int)).length ≤ l.length := List.length_filter_le _ _
      have q0 := HX5.out.cutAt (i := p) (by omega)
      have f0 := HX5.out.frozen p
      have HQN := Lib.hid hn
      rw [hn] at q0
      have hnb : (n : Int) + 1 ≤ 9223372036854775807 := by omega
      generalize wc = w3 at *
      clear hbc hn HX3 HX4
      obtain ⟨bad, hbad⟩ : ∃ bad, (ek == 3 && !hasC c ((p2 : Int), sp2)) = bad := ⟨_, rfl⟩
      rw [hbad] at HOK ⊢
      clear hbad
      cases bad
      case true =>
        go_wp2_with (first | (guard_target =~ wpList _ _ _ ({ dst := some 47, op := _, type := _, pos := _, after := _, guard := _ } :: _) _ _; refine wpList_load_box rfl 36 (.tmp 4) rfl g1 rfl (ints c).toArray _ HX5 Try.underlying36 rfl (cut_size hlen) ?_) | (guard_target =~ wpList _ _ _ ({ dst := none, op := _, type := _, pos := _, after := _, guard := _ } :: _) _ _; refine wpList_store_box rfl 36 (.tmp 6) (.tmp 47) rfl (g1 + 1) rfl _ (ints c).toArray rfl HX6 HZ8.out (cut_size hlen) (cut_one c) ?_; intro w8 hs8))
        refine bodyPost_ret (v := .tuple #[cutV c, .bool false]) (res_c1_t1 Try.results9 rfl (run_load_box hs8.out.box Try.underlying36 rfl (cut_size hlen)) rfl) rfl ?_
        exact ⟨hs8.out.only.to_below HBW.out HBW.out.size (fun b hb => by rw [hb, ← HG1.out]; omega), c, hlen, by rw [HOK.out]; rfl, fun h => by rw [HOK.out] at h; cases h⟩
      case false =>
        have hup : upC c p = c.set p ((n : Int) + 1) := by unfold upC; rw [HQN.out]
        have HX7 := Lib.hid (cut_set HX5.out p ((n : Int) + 1))
        have HX8 := Lib.hid (HX6.out.far (p := ⟨g1, p, none⟩) (show g1 + 1 ≠ g1 by omega) (.int .i64 ((n : Int) + 1)))
        have HON := Lib.hid (Only.set (S := fun b => b = g1) (Only.refl _ w3) (p := ⟨g1, p, none⟩) rfl (.int .i64 ((n : Int) + 1)))
        have hlen2 : (c.set p ((n : Int) + 1)).length = 8 := by rw [List.length_set, hlen]
        have HZ9 : Hid ((#[.int .i64 0, .int .i64 0, .int .i64 0, .int .i64 0, .int .i64 0, .int .i64 0, .int .i64 0, .int .i64 0] : Array Value).size = (ints (c.set p ((n : Int) + 1))).toArray.size) := by show _ = _; simp [ints, hlen]
        obtain ⟨w7, hw7⟩ : ∃ w7, w3.setCell ⟨g1, p, none⟩ (.int .i64 ((n : Int) + 1)) = w7 := ⟨_, rfl⟩
        rw [hw7] at HX7 HX8 HON
        have HW7 := Lib.hid hw7
        obtain ⟨c2, hc2⟩ : ∃ c2, c.set p ((n : Int) + 1) = c2 := ⟨_, rfl⟩
        rw [hc2] at HX7 hup hlen2 HZ9
        have HUP := Lib.hid hup
        clear hw7 hc2 hup
        go_upto_region 8 with fail
        rw [HW7.out]
        go_wp2_with (first | (guard_target =~ wpList _ _ _ ({ dst := some 53, op := _, type := _, pos := _, after := _, guard := _ } :: _) _ _; refine wpList_load_box rfl 36 (.tmp 4) rfl g1 rfl (ints c2).toArray _ HX7 Try.underlying36 rfl (cut_size hlen2) ?_) | (guard_target =~ wpList _ _ _ ({ dst := none, op := _, type := _, pos := _, after := _, guard := _ } :: _) _ _; refine wpList_store_box rfl 36 (.tmp 6) (.tmp 53) rfl (g1 + 1) rfl _ (ints c2).toArray rfl HX8 HZ9.out (cut_size hlen2) (cut_one c2) ?_; intro w8 hs8))
        refine bodyPost_ret (v := .tuple #[cutV c2, .bool true]) (res_c1_t1 Try.results9 rfl (run_load_box hs8.out.box Try.underlying36 rfl (cut_size hlen2)) rfl) rfl ?_
        have hb7 := HON.out.to_below HBW.out HBW.out.size (fun b hb => by rw [hb, ← HG1.out]; omega)
        exact ⟨hs8.out.only.to_below hb7 hb7.size (fun b hb => by rw [hb, ← HG1.out]; omega), c2, hlen2, by rw [HOK.out]; rfl, fun _ => HUP.out.symm⟩
end Go.Proofs.Ytgkckldflfalgaa
