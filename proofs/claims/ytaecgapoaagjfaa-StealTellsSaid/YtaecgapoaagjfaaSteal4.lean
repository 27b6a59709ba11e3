/-
  Lines: copied, compared; the small functions.
-/
import Derived.Test.YtaecgapoaagjfaaSteal3
namespace Go.Proofs.Ytaecgapoaagjfaa
open Go.RowKit

theorem contains_snoc (l : List Int) (k : Nat) (t : Int) (hk : k < l.length) (h : (l.take k).contains t = false) : (l.take (k + 1)).contains t = (t == l.getD k 0) := (take_contains l k t hk h).trans Bool.beq_comm

set_option maxRecDepth 100000 in
theorem index_any (x : BC) (xs : List Int) (t : Int) (S : Nat → Prop) (w : World) (h : IIn w S 0 x xs) :
    Calls Try.prog 210 #[.slice x.A xs.length x.cap, .int .i64 t] w fun e w' => (∃ n : Int, e = .returned (.int .i64 n) ∧ decide (0 ≤ n) = xs.contains t) ∧ w = w' := by
  have hrow := h.row
  have hbig := h.2.2.2.2.2.2
  obtain ⟨XA, XL, XC⟩ := x
  dsimp only at hrow ⊢
  have HR := Lib.hid hrow
  clear h hrow
  go_enter Try.func210, Try.ntmps210
  go_wp2_with fail
  go_loopg [8] xs.length (fun gk i wr => ∃ k : Nat, gk = xs.length - k ∧ k ≤ xs.length ∧ i = .int .i64 k ∧ (xs.take k).contains t = false ∧ w = wr)
  case atStart => exact ⟨0, by omega, by omega, rfl, rfl, rfl⟩
  case round =>
    obtain ⟨k, hgk, hk, rfl, hct, rfl⟩ := hrel
    have HK := Lib.hid hgk
    have HC := Lib.hid hct
    clear hgk hct
    by_cases hlt : k < xs.length
    · obtain ⟨b, o, hA, _, hc⟩ := HR.out.int hlt
      subst hA
      have HTC := Lib.hid (contains_snoc xs k t hlt HC.out)
      generalize xs.getD k 0 = u at *
      by_cases hu : t = u
      · have e2 : (t == u) = true := by simp [hu]
        have HEND := Lib.hid (show xs.contains t = true by
          have h1 := HTC.out
          rw [e2] at h1
          rw [List.contains_iff_mem] at h1 ⊢
          exact List.mem_of_mem_take h1)
        clear hu
        go_wp2_with fail
        go_ret
        exact ⟨⟨k, rfl, by rw [HEND.out]; exact decide_eq_true (by omega)⟩, rfl⟩
      · have e2 : (t == u) = false := by simp [hu]
        have HC2 := Lib.hid (HTC.out.trans e2)
        clear hu
        go_wp2_with fail
        go_roundg (xs.length - (k + 1))
        case measure => have := HK.out; omega
        case rel => exact ⟨k + 1, rfl, by omega, by go_num, HC2.out, rfl⟩
    · have HEND := Lib.hid (show xs.contains t = false by have := HC.out; rwa [List.take_of_length_le (by omega)] at this)
      go_wp2_with fail
      go_ret
      exact ⟨⟨-1, rfl, by rw [HEND.out]; rfl⟩, rfl⟩
theorem contains_any (x : BC) (xs : List Int) (t : Int) (S : Nat → Prop) (w : World) (h : IIn w S 0 x xs) :
    Calls Try.prog 145 #[.slice x.A xs.length x.cap, .int .i64 t] w fun e w' => e = .returned (.bool (xs.contains t)) ∧ w = w' := by
  have HI := Lib.hid (index_any x xs t S w h)
  generalize xs.contains t = q at *
  clear h
  go_enter Try.func145, Try.ntmps145
  go_wp2_with fail
  refine HI.out.mono ?_
  rintro e w' ⟨⟨n, rfl, hn⟩, rfl⟩
  have HN := Lib.hid hn
  clear hn HI
  go_wp2_with fail
  go_ret
  exact ⟨by rw [← HN.out]; rfl, rfl⟩

set_option maxRecDepth 100000 in
theorem sameInts_true (x y : BC) (xs : List Int) (S S' : Nat → Prop) (w : World) (h : IIn w S 0 x xs) (h' : IIn w S' 0 y xs) :
    Calls Try.prog 208 #[.slice x.A xs.length x.cap, .slice y.A xs.length y.cap] w fun e w' => e = .returned (.bool true) ∧ ∃ n, w' = w.drewN n := by
  have hbig := h.2.2.2.2.2.2
  have HR := Lib.hid h.row
  have HR' := Lib.hid h'.row
  obtain ⟨XA, XL, XC⟩ := x
  obtain ⟨YA, YL, YC⟩ := y
  dsimp only at HR HR' ⊢
  clear h h'
  go_enter Try.func208, Try.ntmps208
  go_wp2_with fail
  go_loopg [13] xs.length (fun gk i wr => ∃ k n : Nat, gk = xs.length - k ∧ k ≤ xs.length ∧ i = .int .i64 k ∧ wr = w.drewN n)
  case atStart => exact ⟨0, 0, by omega, by omega, rfl, rfl⟩
  case round =>
    obtain ⟨k, n, hgk, hk, rfl, rfl⟩ := hrel
    have HK := Lib.hid hgk
    clear hgk
    by_cases hlt : k < xs.length
    · obtain ⟨b, o, hA, _, hc⟩ := HR.out.int hlt
      subst hA
      obtain ⟨b', o', hA', _, hc'⟩ := HR'.out.int hlt
      subst hA'
      have hd : (w.drewN n).cell? ⟨b, o + k, none⟩ = some (.int .i64 (xs.getD k 0)) := hc
      have hd' : (w.drewN n).cell? ⟨b', o' + k, none⟩ = some (.int .i64 (xs.getD k 0)) := hc'
      generalize xs.getD k 0 = u at *
      go_wp2_with fail
      go_quiet (fail)
      go_wp2_with fail
      go_roundg (xs.length - (k + 1))
      case measure => have := HK.out; omega
      case rel => exact ⟨k + 1, n + nq, rfl, by omega, by go_num, rfl⟩
    · go_wp2_with fail
      go_ret
      exact ⟨rfl, n, rfl⟩

set_option maxRecDepth 100000 in
theorem sameLines_true (A B : Option Addr) (c d : Nat) (l m : List BC) (vs : List (List Int)) (S S' : Nat → Prop) (w : World) (h : lnRow w S 0 A c l vs) (h' : lnRow w S' 0 B d m vs) :
    Calls Try.prog 142 #[.slice A l.length c, .slice B m.length d] w fun e w' => e = .returned (.bool true) ∧ ∃ n, w' = w.drewN n := by
  have hlm : m.length = l.length := by rw [h.1, h'.1]
  have hcm := h.2.2.2.2.1
  have hlc := h.2.2.2.1
  unfold maxLen at hcm
  have HH := Lib.hid h
  have HH' := Lib.hid h'
  have HLM := Lib.hid hlm
  rw [hlm]
  clear h h' hlm
  go_enter Try.func142, Try.ntmps142
  go_wp2_with fail
  go_loopg [13] l.length (fun gk i wr => ∃ k n : Nat, gk = l.length - k ∧ k ≤ l.length ∧ i = .int .i64 k ∧ wr = w.drewN n)
  case atStart => exact ⟨0, 0, by omega, by omega, rfl, rfl⟩
  case round =>
    obtain ⟨k, n, hgk, hk, rfl, hwr⟩ := hrel
    have HK := Lib.hid hgk
    have HW := Lib.hid hwr
    clear hgk hwr
    by_cases hlt : k < l.length
    · obtain ⟨b, o, rfl, _, hc, hi⟩ := HH.out.at hlt
      obtain ⟨b', o', rfl, _, hc', hi'⟩ := HH'.out.at (k := k) (by rw [HLM.out]; exact hlt)
      have hd : wr.cell? ⟨b, o + k, none⟩ = some (.slice (l.getD k bc0).A (vs.getD k []).length (l.getD k bc0).cap) := by rw [HW.out]; exact hc
      have hd' : wr.cell? ⟨b', o' + k, none⟩ = some (.slice (m.getD k bc0).A (vs.getD k []).length (m.getD k bc0).cap) := by rw [HW.out]; exact hc'
      have HS := Lib.hid (fun j => sameInts_true (l.getD k bc0) (m.getD k bc0) (vs.getD k []) S S' (wr.drewN j) (by rw [HW.out]; exact hi.keep (w' := (w.drewN n).drewN j) (fun _ _ => rfl) fun _ h => h) (by rw [HW.out]; exact hi'.keep (w' := (w.drewN n).drewN j) (fun _ _ => rfl) fun _ h => h))
      generalize vs.getD k [] = xs at *
      generalize l.getD k bc0 = x at *
      generalize m.getD k bc0 = y at *
      clear hi hi' hc hc'
      go_wp2_with fail
      go_quiet ((go_at_call 208; exact Calls.quiet_of (HS.out _)))
      go_wp2_with fail
      go_roundg (l.length - (k + 1))
      case measure => have := HK.out; omega
      case rel => exact ⟨k + 1, n + nq, rfl, by omega, by go_num, by rw [HW.out, World.drewN_drewN]⟩
    · go_wp2_with fail
      go_ret
      exact ⟨rfl, n, HW.out⟩

/-- What is wrong with lines and a processor. -/
def cpuFault (vs : List (List Int)) (cpu : Int) : Int := if linesFault vs = 0 then (if cpu < 0 ∨ (vs.length : Int) ≤ cpu then 4 else 0) else linesFault vs
set_option maxRecDepth 100000 in
theorem checkCpu_any (A : Option Addr) (c : Nat) (l : List BC) (vs : List (List Int)) (cpu : Int) (S : Nat → Prop) (w : World) (h : lnRow w S 0 A c l vs) :
    Calls Try.prog 206 #[.slice A l.length c, .int .i64 cpu] w fun e w' => e = .returned (.int .i64 (cpuFault vs cpu)) ∧ Below w.heap.size w w' := by
  have HC := Lib.hid (checkS_any A c l vs S w h)
  have hlv := Lib.hid h.1
  have hcm := h.2.2.2.2.1
  have hlc := h.2.2.2.1
  unfold maxLen at hcm
  unfold cpuFault
  by_cases h0 : linesFault vs = 0
  · rw [if_pos h0]
    rw [h0] at HC
    by_cases h1 : cpu < 0
    · rw [if_pos (.inl h1)]
      have d1 : decide (cpu < 0) = true := decide_eq_true h1
      clear h h0
      go_enter Try.func206, Try.ntmps206
      go_wp2_with fail
      refine HC.out.mono ?_
      rintro e w1 ⟨rfl, hb1⟩
      go_wp2_with fail
      go_ret
      exact ⟨rfl, hb1⟩
    · have d1 : decide (cpu < 0) = false := decide_eq_false h1
      by_cases h2 : (l.length : Int) ≤ cpu
      · rw [if_pos (.inr (by rw [← hlv.out]; exact h2))]
        have d2 : decide ((l.length : Int) ≤ cpu) = true := decide_eq_true h2
        clear h h0
        go_enter Try.func206, Try.ntmps206
        go_wp2_with fail
        refine HC.out.mono ?_
        rintro e w1 ⟨rfl, hb1⟩
        go_wp2_with fail
        go_ret
        exact ⟨rfl, hb1⟩
      · rw [if_neg (by rw [← hlv.out]; omega)]
        have d2 : decide ((l.length : Int) ≤ cpu) = false := decide_eq_false h2
        clear h h0
        go_enter Try.func206, Try.ntmps206
        go_wp2_with fail
        refine HC.out.mono ?_
        rintro e w1 ⟨rfl, hb1⟩
        go_wp2_with fail
        go_ret
        exact ⟨rfl, hb1⟩
  · rw [if_neg h0]
    have e0 : (linesFault vs != 0) = true := by simpa using h0
    generalize linesFault vs = r at *
    clear h h0
    go_enter Try.func206, Try.ntmps206
    go_wp2_with fail
    refine HC.out.mono ?_
    rintro e w1 ⟨rfl, hb1⟩
    go_wp2_with fail
    go_ret
    exact ⟨rfl, hb1⟩

/-- One line more, in a block that is new. -/
theorem OwnLines.push {w w' : World} {base : Nat} {A A' : Option Addr} {c c' : Nat} {l : List BC} {vs : List (List Int)} (h : OwnLines w base A c l vs) {y : BC} {ys : List Int} (hy : LineOwn w base y ys) (hyA : ∀ b, blkS y.A b → ¬ blkS A b ∧ ∀ i, i < l.length → ¬ blkS (l.getD i bc0).A b)
    (hrow : OwnAt w' base 64 1 A' (l.length + 1) c' (flat lnC (l ++ [y]))) (ho : Only (fun b => blkS A b) w w') (hA' : ∀ b, blkS A' b → blkS A b ∨ w.heap.size ≤ b) : OwnLines w' base A' c' (l ++ [y]) (vs ++ [ys]) := by
  have hg : ∀ i, (l ++ [y]).getD i bc0 = if i < l.length then l.getD i bc0 else if i = l.length then y else bc0 := fun i => by
    rw [List.getD_eq_getElem?_getD, List.getElem?_append]
    by_cases e : i < l.length
    · rw [if_pos e, if_pos e, List.getD_eq_getElem?_getD]
    · rw [if_neg e, if_neg e]
      by_cases e2 : i = l.length
      · rw [if_pos e2, e2, Nat.sub_self]; rfl
      · rw [if_neg e2, List.getElem?_eq_none (by simp; omega)]; rfl
  have hv : ∀ i, (vs ++ [ys]).getD i [] = if i < l.length then vs.getD i [] else if i = l.length then ys else [] := fun i => by
    rw [List.getD_eq_getElem?_getD, List.getElem?_append, ← h.len]
    by_cases e : i < l.length
    · rw [if_pos e, if_pos e, List.getD_eq_getElem?_getD]
    · rw [if_neg e, if_neg e]
      by_cases e2 : i = l.length
      · rw [if_pos e2, e2, Nat.sub_self]; rfl
      · rw [if_neg e2, List.getElem?_eq_none (by simp; omega)]; rfl
  have hoffA : ∀ i, i < l.length + 1 → ∀ b, blkS ((l ++ [y]).getD i bc0).A b → ¬ blkS A b ∧ b < w.heap.size := fun i hi b hb => by
    rw [hg i] at hb
    by_cases e : i < l.length
    · rw [if_pos e] at hb
      exact ⟨h.off i e b hb, (blkS_lt (h.each i e).own hb).2⟩
    · rw [if_neg e, if_pos (by omega)] at hb
      exact ⟨(hyA b hb).1, (blkS_lt hy.own hb).2⟩
  refine ⟨by simp [h.len], by simpa using hrow, fun i hi => ?_, fun i hi b hb hb2 => ?_, fun i j hi hj hne b hb hb2 => ?_⟩
  · rw [List.length_append, List.length_singleton] at hi
    have hT := fun b hb => (hoffA i hi b hb).1
    rw [hg i] at hT ⊢
    rw [hv i]
    by_cases e : i < l.length
    · rw [if_pos e] at hT ⊢
      rw [if_pos e]
      exact (h.each i e).only ho hT
    · rw [if_neg e, if_pos (show i = l.length by omega)] at hT ⊢
      rw [if_neg e, if_pos (show i = l.length by omega)]
      exact hy.only ho hT
  · rw [List.length_append, List.length_singleton] at hi
    have h1 := hoffA i hi b hb
    rcases hA' b hb2 with h2 | h2
    · exact h1.1 h2
    · omega
  · rw [List.length_append, List.length_singleton] at hi hj
    rw [hg i] at hb
    rw [hg j] at hb2
    by_cases e : i < l.length
    · rw [if_pos e] at hb
      by_cases e2 : j < l.length
      · rw [if_pos e2] at hb2
        exact h.part i j e e2 hne b hb hb2
      · rw [if_neg e2, if_pos (by omega)] at hb2
        exact (hyA b hb2).2 i e hb
    · rw [if_neg e, if_pos (by omega)] at hb
      by_cases e2 : j < l.length
      · rw [if_pos e2] at hb2
        exact (hyA b hb).2 j e2 hb2
      · omega
theorem LineOwn.new {w w1 : World} {base : Nat} {A : Option Addr} {c : Nat} {l : List BC} {vs : List (List Int)} {y : BC} {ys : List Int} (h : OwnLines w base A c l vs) (hy : LineOwn w1 w.heap.size y ys) : ∀ b, blkS y.A b → ¬ blkS A b ∧ ∀ i, i < l.length → ¬ blkS (l.getD i bc0).A b := fun b hb => by
  have h1 := (blkS_lt hy.own hb).1
  exact ⟨fun h2 => by have := (blkS_lt h.row h2).2; omega, fun i hi h2 => by have := (blkS_lt (h.each i hi).own h2).2; omega⟩
/-- One line appended: what the append leaves. -/
theorem wpList_push_ln {ops : Array Oper} {rest : List Oper} {o : Oper} {a : Act} {w : World} {Q : Exit → Act → World → Prop} (hgd : o.guard = none) (s x : Operand)
    (ho : o.op = .call { callee := .builtin .append, args := #[s, x], argTypes := #[235, 235] })
    (base : Nat) (A : Option Addr) (c m : Nat) (l : List BC) (vs : List (List Int)) (hm : l.length = m) (hs : a.eval s = .slice A m c) (hmk : OwnLines w base A c l vs) (g : Nat) (y : BC) (ys : List Int) (hx : a.eval x = .slice (some ⟨g, 0, none⟩) 1 1) (hyc : w.cell? ⟨g, 0, none⟩ = some (.slice y.A y.len y.cap))
    (hy : LineOwn w base y ys) (hyA : ∀ b, blkS y.A b → ¬ blkS A b ∧ ∀ i, i < l.length → ¬ blkS (l.getD i bc0).A b)
    (hb : (m + 1) * 24 ≤ 140737488355328) (hbase : base ≤ w.heap.size)
    (h : ∀ A' c' w', OwnLines w' base A' c' (l ++ [y]) (vs ++ [ys]) → Below base w w' → wpList Try.prog ops Q rest (a.put o.dst (.slice A' (m + 1) c')) w') : wpList Try.prog ops Q (o :: rest) a w := by
  subst hm
  obtain ⟨i0, z0, hi0, hz0, hz1, hz2, hz3⟩ := ln_parts
  refine wpList_append_q hgd s x _ ho base 64 i0 z0 1 24 Try.underlying235 hi0 hz0 hz1 hz2 hz3 (by decide) A l.length c (flat lnC l) hs hmk.row ⟨g, 0, none⟩ 1 1 (lnC y) hx rfl ?_ (ln_one y) (by unfold maxLen; omega) hb hbase (by decide) ?_
  · intro j u hu
    rw [addr_add, Nat.zero_add]
    match j, hu with
    | 0, hu => simp [lnC] at hu; subst hu; exact hyc
    | j + 1, hu => simp [lnC] at hu
  · intro g' o' c' w' h1 h2 h3
    have ho : Only (fun b => blkS A b) w w' := ⟨h2.os, h2.tape, h2.output, h2.size, fun i hi hne => h2.block i hi (fun e => hne e.symm)⟩
    refine h _ c' w' (hmk.push hy hyA (by rw [show flat lnC (l ++ [y]) = flat lnC l ++ lnC y by simp [flat]]; exact h1) ho (fun b hb => ?_)) (ho.to_below (Below.refl _ _) hbase fun i hi => (blkS_lt hmk.row hi).1)
    simp [blkS] at hb
    subst hb
    rcases h3 with h3 | h3
    · exact .inl h3
    · exact .inr (by omega)

set_option maxRecDepth 100000 in
set_option maxHeartbeats 2000000 in
theorem copyOf_any (A : Option Addr) (c : Nat) (l : List BC) (vs : List (List Int)) (S : Nat → Prop) (w : World) (h : lnRow w S 0 A c l vs) (h8 : l.length ≤ 8) :
    Calls Try.prog 207 #[.slice A l.length c] w fun e w' => ∃ A' c' l', e = .returned (.slice A' l.length c') ∧ OwnLines w' w.heap.size A' c' l' vs ∧ Below w.heap.size w w' := by
  have HLV := Lib.hid h.1
  have HH := Lib.hid h.all
  clear h
  go_enter Try.func207, Try.ntmps207
  go_wp2_with fail
  go_loopg [3, 8] l.length (fun gk v i wr => ∃ (k : Nat) (A1 : Option Addr) (c1 : Nat) (l1 : List BC), gk = l.length - k ∧ k ≤ l.length ∧ v = .slice A1 k c1 ∧ i = .int .i64 k ∧ l1.length = k ∧ OwnLines wr w.heap.size A1 c1 l1 (vs.take k) ∧ Below w.heap.size w wr)
  case atStart => exact ⟨0, none, 0, [], by omega, by omega, rfl, rfl, rfl, OwnLines.nil, Below.refl _ _⟩
  case round =>
    obtain ⟨k, A1, c1, l1, hgk, hk, rfl, rfl, hl1, hown, hb⟩ := hrel
    have HK := Lib.hid hgk
    have HL1 := Lib.hid hl1
    have HO := Lib.hid hown
    have HB := Lib.hid hb
    have hbs := hb.size
    clear hgk hl1 hown hb
    by_cases hlt : k < l.length
    · obtain ⟨b, o, rfl, hbl, hc, hi⟩ := (HH.out.below HB.out fun _ h => h).at hlt
      have HT := Lib.hid (take_getD vs [] (show k < vs.length by rw [← HLV.out]; exact hlt))
      have HCL := Lib.hid (cloneI (l.getD k bc0) (vs.getD k []) _ wr hi)
      generalize vs.getD k [] = xs at *
      generalize l.getD k bc0 = x at *
      clear hi
      go_wp2_with fail
      refine HCL.out.mono ?_
      rintro e w1 ⟨y, rfl, hy, hb1⟩
      have HO1 := Lib.hid (fun ob => (HO.out.below hb1).below ((Below.refl w1.heap.size w1).alloc (Nat.le_refl _) ob))
      have HY := Lib.hid (fun ob => (hy.lower hbs).below ((Below.refl w1.heap.size w1).alloc (Nat.le_refl _) ob))
      have HYA := Lib.hid (LineOwn.new HO.out hy)
      have HB1 := Lib.hid (HB.out.trans (hb1.mono hbs))
      have hbs1 := HB1.out.size
      have hyl := hy.len
      rw [← hyl]
      have HYL := Lib.hid hyl
      clear hy hb1 HCL hyl
      go_wp2_with (at_builtin; refine wpList_push_ln rfl (.tmp 12) (.tmp 15) rfl w.heap.size A1 c1 k l1 (vs.take k) HL1.out rfl (HO1.out _) w1.heap.size y xs rfl ((Box.new _ _ _).cell 0) (HY.out _) HYA.out (by omega) (by simp; omega) ?_; intro A2 c2 w2 hown2 hb2)
      have HO2 := Lib.hid hown2
      have HB2 := Lib.hid ((HB1.out.alloc hbs1 _).trans hb2)
      clear hown2 hb2
      go_roundg (l.length - (k + 1))
      case measure => have := HK.out; omega
      case rel => exact ⟨k + 1, A2, c2, l1 ++ [y], rfl, by omega, rfl, by go_num, by rw [List.length_append, HL1.out]; rfl, by rw [HT.out]; exact HO2.out, HB2.out⟩
    · obtain rfl : k = l.length := by omega
      go_wp2_with fail
      go_ret
      exact ⟨A1, c1, l1, rfl, by have := HO.out; rwa [List.take_of_length_le (by rw [HLV.out]; omega)] at this, HB.out⟩
end Go.Proofs.Ytaecgapoaagjfaa
