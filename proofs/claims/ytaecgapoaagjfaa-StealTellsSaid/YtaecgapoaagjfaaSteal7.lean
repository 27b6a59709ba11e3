/-
  Lines: a task pushed.
-/
import Derived.Test.YtaecgapoaagjfaaSteal6
namespace Go.Proofs.Ytaecgapoaagjfaa
open Go.RowKit

theorem lines_take (vs : List (List Int)) (k : Nat) (hk : k < vs.length) : (vs.take (k + 1)).flatten = (vs.take k).flatten ++ vs.getD k [] := by
  rw [take_getD vs [] hk, List.flatten_append]
  simp
theorem lineF_len : ∀ (ts seen s : List Int), lineF seen ts = some s → s.length = seen.length + ts.length
  | [], seen, s, h => by rw [lineF] at h; injection h with h; rw [← h]; rfl
  | t :: ts, seen, s, h => by
    rw [lineF] at h
    by_cases e : seen.contains t = true
    · rw [if_pos e] at h; cases h
    · rw [if_neg e] at h
      have := lineF_len ts _ s h
      rw [List.length_append] at this
      simp at this ⊢
      omega
theorem linesF_len : ∀ (xs : List (List Int)) (seen : List Int), seen.length ≤ 100 → linesF seen xs = 0 → seen.length + xs.flatten.length ≤ 100
  | [], seen, hs, _ => by simpa using hs
  | x :: xs, seen, hs, h => by
    rw [linesF] at h
    by_cases e : 100 < seen.length + x.length
    · rw [if_pos e] at h; cases h
    · rw [if_neg e] at h
      cases hl : lineF seen x with
      | none => rw [hl] at h; cases h
      | some s =>
        rw [hl] at h
        have h1 := lineF_len x seen s hl
        have h2 := linesF_len xs s (by omega) h
        rw [List.flatten_cons, List.length_append]
        omega
theorem fault_len {vs : List (List Int)} (h : linesFault vs = 0) : vs.flatten.length ≤ 100 := by
  unfold linesFault at h
  by_cases e : vs.length < 1 ∨ 8 < vs.length
  · rw [if_pos e] at h; cases h
  · rw [if_neg e] at h
    have := linesF_len vs [] (by simp) h
    simpa using this
theorem one_le (vs : List (List Int)) (p : Nat) : (vs.getD p []).length ≤ vs.flatten.length := by
  induction vs generalizing p with
  | nil => simp
  | cons v vs ih =>
    rw [List.flatten_cons, List.length_append]
    cases p with
    | zero => simp
    | succ p =>
      have := ih p
      simp only [List.getD_cons_succ]
      omega
def pushE (vs : List (List Int)) (cpu task : Int) : Int := if cpuFault vs cpu = 0 then (if vs.flatten.contains task = true then 5 else if vs.flatten.length = 100 then 6 else 0) else cpuFault vs cpu
def pushed (vs : List (List Int)) (p : Nat) (task : Int) : List (List Int) := vs.set p (vs.getD p [] ++ [task])
/-- What Push gives. -/
def PushPost (vs : List (List Int)) (cpu task : Int) (n : Nat) (w : World) (e : Ending) (w' : World) : Prop :=
  Below w.heap.size w w' ∧ ((pushE vs cpu task ≠ 0 ∧ e = .returned (.tuple #[.slice none 0 0, .int .i64 (pushE vs cpu task)])) ∨ (pushE vs cpu task = 0 ∧ ∃ A' c' l', e = .returned (.tuple #[.slice A' n c', .int .i64 0]) ∧ OwnLines w' w.heap.size A' c' l' (pushed vs cpu.toNat task)))

set_option maxRecDepth 100000 in
set_option maxHeartbeats 4000000 in
theorem push_any (A : Option Addr) (c : Nat) (l : List BC) (vs : List (List Int)) (cpu task : Int) (S : Nat → Prop) (w : World) (h : lnRow w S 0 A c l vs) (ht : I64 task) :
    Calls Try.prog 134 #[.slice A l.length c, .int .i64 cpu, .int .i64 task] w (PushPost vs cpu task l.length w) := by
  have HC := Lib.hid (checkCpu_any A c l vs cpu S w h)
  have hlv := h.1
  by_cases h0 : cpuFault vs cpu = 0
  · have HPE := Lib.hid (show pushE vs cpu task = (if vs.flatten.contains task = true then 5 else if vs.flatten.length = 100 then 6 else 0) by unfold pushE; rw [if_pos h0])
    rw [h0] at HC
    obtain ⟨hlf, hc0, hc1, hn1, hn8⟩ := cpuFault_zero h0
    have hfl := fault_len hlf
    have HFL := Lib.hid hfl
    clear hlf hfl
    obtain ⟨p, rfl⟩ := Int.eq_ofNat_of_zero_le hc0
    have HH := Lib.hid h.all
    have HLV := Lib.hid hlv
    have hpn : p < l.length := by omega
    have hl8 : l.length ≤ 8 := by omega
    clear h h0 hlv hc0 hc1 hn1 hn8
    go_enter Try.func134, Try.ntmps134
    go_wp2_with fail
    refine HC.out.mono ?_
    rintro e w1 ⟨rfl, hb1⟩
    have HB1 := Lib.hid hb1
    have HR1 := Lib.hid (HH.out.below hb1 fun _ h => h)
    clear hb1 HC HH
    go_wp2_with fail
    go_loopg [9, 21] l.length (fun gk v i wr => ∃ (k n : Nat), gk = l.length - k ∧ k ≤ l.length ∧ v = .int .i64 n ∧ i = .int .i64 k ∧ (vs.take k).flatten.length = n ∧ n ≤ k * 17592186044416 ∧ (vs.take k).flatten.contains task = false ∧ w1 = wr)
    case atStart => exact ⟨0, 0, by omega, by omega, rfl, rfl, rfl, by omega, rfl, rfl⟩
    case round =>
      obtain ⟨k, n, hgk, hk, rfl, rfl, hnl, hnb, hct, rfl⟩ := hrel
      have HK := Lib.hid hgk
      have HNL := Lib.hid hnl
      have HCT := Lib.hid hct
      clear hgk hnl hct
      by_cases hlt : k < l.length
      · obtain ⟨b, o, rfl, hbl, hcc, hi⟩ := HR1.out.at hlt
        have HFT := Lib.hid (lines_take vs k (by rw [← HLV.out]; exact hlt))
        have HCO := Lib.hid (contains_any (l.getD k bc0) (vs.getD k []) task _ w1 hi)
        have hbi := hi.2.2.2.2.2.2
        generalize vs.getD k [] = xs at *
        generalize l.getD k bc0 = x at *
        clear hi
        cases hcx : xs.contains task with
        | true =>
          rw [hcx] at HCO
          have HE := Lib.hid (show pushE vs p task = 5 by
            rw [HPE.out, if_pos]
            rw [List.contains_iff_mem] at hcx ⊢
            have h1 : task ∈ (vs.take (k + 1)).flatten := by rw [HFT.out]; exact List.mem_append_right _ hcx
            obtain ⟨y, hy, hy2⟩ := List.mem_flatten.1 h1
            exact List.mem_flatten.2 ⟨y, List.mem_of_mem_take hy, hy2⟩)
          clear hcx
          go_wp2_with fail
          refine HCO.out.mono ?_
          rintro e w2 ⟨rfl, rfl⟩
          go_wp2_with fail
          go_ret2
          exact ⟨HB1.out, .inl ⟨by rw [HE.out]; decide, by rw [HE.out]; rfl⟩⟩
        | false =>
          rw [hcx] at HCO
          have HC2 := Lib.hid (show (vs.take (k + 1)).flatten.contains task = false by
            have h1 := HCT.out
            rw [HFT.out]
            simp only [List.contains_eq_any_beq, List.any_append] at h1 hcx ⊢
            rw [h1, hcx]; rfl)
          have HN2 := Lib.hid (show (vs.take (k + 1)).flatten.length = n + xs.length by rw [HFT.out, List.length_append, HNL.out])
          clear hcx
          go_wp2_with fail
          refine HCO.out.mono ?_
          rintro e w2 ⟨rfl, rfl⟩
          go_wp2_with fail
          go_roundg (l.length - (k + 1))
          case measure => have := HK.out; omega
          case rel => exact ⟨k + 1, n + xs.length, rfl, by omega, by go_num, by go_num, HN2.out, by omega, HC2.out, rfl⟩
      · obtain rfl : k = l.length := by omega
        have HNV := Lib.hid (show vs.flatten.length = n by have := HNL.out; rwa [List.take_of_length_le (by rw [HLV.out]; omega)] at this)
        have HCV := Lib.hid (show vs.flatten.contains task = false by have := HCT.out; rwa [List.take_of_length_le (by rw [HLV.out]; omega)] at this)
        by_cases hn100 : n = 100
        · have HE := Lib.hid (show pushE vs p task = 6 by rw [HPE.out, HCV.out, if_neg (by decide), if_pos (by rw [HNV.out]; exact hn100)])
          subst hn100
          go_wp2_with fail
          go_ret2
          exact ⟨HB1.out, .inl ⟨by rw [HE.out]; decide, by rw [HE.out]; rfl⟩⟩
        · have HE := Lib.hid (show pushE vs p task = 0 by rw [HPE.out, HCV.out, if_neg (by decide), if_neg (by rw [HNV.out]; exact hn100)])
          have e1 : ((n : Int) == 100) = false := by rw [beq_eq_false_iff_ne]; omega
          have e1' : (n == 100) = false := by rw [beq_eq_false_iff_ne]; omega
          have HCP := Lib.hid (copyOf_any A c l vs _ w1 HR1.out hl8)
          clear hn100
          go_wp2_with fail
          refine HCP.out.mono ?_
          rintro e w2 ⟨A2, c2, l2, rfl, hown2, hb2⟩
          have hl2 : l2.length = l.length := by rw [hown2.len, HLV.out]
          obtain ⟨g, o, hA2, hc2⟩ := hown2.row.some_of (by omega)
          subst hA2
          have hp2 : p < l2.length := by omega
          obtain ⟨b', o', e', _, hcp⟩ := hown2.row.row.ln hp2 bc0
          injection e' with e'
          injection e' with hbb hoo
          subst hbb hoo
          have hep := hown2.each p hp2
          have h100 : (vs.getD p []).length ≤ 100 := Nat.le_trans (one_le vs p) HFL.out
          rw [Nat.mul_one, hep.len] at hcp
          have frp := hown2.row.frozen (o + p)
          have hoff := hown2.off p hp2
          obtain ⟨x, hx⟩ : ∃ x, l2.getD p bc0 = x := ⟨_, rfl⟩
          obtain ⟨xs, hxs⟩ : ∃ xs, vs.getD p [] = xs := ⟨_, rfl⟩
          have HX := Lib.hid hx
          have HXS := Lib.hid hxs
          rw [hx] at hcp hep hoff
          rw [hxs] at hcp hep h100
          have HOWN := Lib.hid hown2
          have HEP := Lib.hid hep
          have HB2 := Lib.hid hb2
          have hs1 := HB1.out.size
          have hs2 := hb2.size
          have hglt := hown2.row.lt
          have HXG := Lib.hid (fun hb : blkS x.A g => hoff g hb rfl)
          have HOA := Lib.hid (fun ob => hep.own.alloc ob)
          have hca : ∀ ob, (w2.alloc ob).cell? ⟨g, o + p, none⟩ = some (.slice x.A xs.length x.cap) := fun ob => (World.cell?_alloc_lt w2 ob ⟨g, o + p, none⟩ hglt.2).trans hcp
          have HCA := Lib.hid (hca (.cells #[.int .i64 task] 3))
          have HLL := Lib.hid hl2
          clear hown2 hep hb2 hl2 HCP hx hxs hoff
          go_upto_region 16 with (at_builtin; refine wpList_push_i rfl (.tmp 42) (.tmp 44) rfl w1.heap.size x.A x.cap xs.length xs rfl rfl (HOA.out _) w2.heap.size task rfl ((Box.new _ _ _).cell 0) (by omega) (by simp; omega) ?_; intro A3 c3 w3 hown3 hb3 ho3 hA3; have c43 : w3.cell? ⟨g, o + p, none⟩ = some (.slice x.A xs.length x.cap) := (by have := ho3.block g (by simp; omega) HXG.out; simp only [World.cell?, this]; exact HCA.out); have fr43 : w3.frozen? ⟨g, o + p, none⟩ = false := (by have h1 := ho3.block g (by simp; omega) HXG.out; have h2 := (HOWN.out.row.alloc (.cells #[.int .i64 task] 3)).frozen (o + p); simp only [World.frozen?, h1] at h2 ⊢; exact h2))
          have hal : Below w2.heap.size w2 (w2.alloc (.cells #[.int .i64 task] 3)) := (Below.refl _ _).alloc (Nat.le_refl _) _
          have hL := (HOWN.out.below hal).put (q := p) (w' := w3) hp2 (by rw [HX.out]; exact ho3) (y := ⟨A3, xs.length + 1, c3⟩) (ys := xs ++ [task]) ⟨by simp, by rw [List.length_append]; exact hown3, fun v hv => by
            rcases List.mem_append.1 hv with h1 | h1
            · exact HEP.out.rng v h1
            · rw [List.mem_singleton.1 h1]; exact ht, by rw [List.length_append]; simp; omega⟩ (by rw [HX.out]; exact hA3)
          have HL := Lib.hid hL
          have HB3 := Lib.hid ((((HB1.out.trans (HB2.out.mono hs1)).alloc (by omega) _).trans (hb3.mono hs1)).setCell (p := ⟨g, o + p, none⟩) (by show w.heap.size ≤ g; omega) (.slice A3 (xs.length + 1) c3))
          clear hL hown3 hb3 ho3 hA3 c43 fr43 hca hcp frp
          go_wp2_with fail
          go_ret2
          refine ⟨HB3.out, .inr ⟨HE.out, some ⟨g, o, none⟩, c2, l2.set p ⟨A3, xs.length + 1, c3⟩, rfl, ?_⟩⟩
          have := HL.out
          unfold pushed
          rw [Int.toNat_natCast, HXS.out]
          exact ⟨this.len, this.row.lower hs1, fun i hi => (this.each i hi).lower hs1, this.off, this.part⟩
  · have HE := Lib.hid (show pushE vs cpu task = cpuFault vs cpu by unfold pushE; rw [if_neg h0])
    have e0 : (cpuFault vs cpu != 0) = true := by simpa using h0
    generalize cpuFault vs cpu = r at *
    have HNE := Lib.hid h0
    clear h h0 hlv
    go_enter Try.func134, Try.ntmps134
    go_wp2_with fail
    refine HC.out.mono ?_
    rintro e w1 ⟨rfl, hb1⟩
    go_wp2_with fail
    go_ret2
    exact ⟨hb1, .inl ⟨by rw [HE.out]; exact HNE.out, by rw [HE.out]; rfl⟩⟩
end Go.Proofs.Ytaecgapoaagjfaa
