/-
  Lines: a run of turns.
-/
import Derived.Test.YtaecgapoaagjfaaSteal12
namespace Go.Proofs.Ytaecgapoaagjfaa
open Go.RowKit

theorem wpList_push_p2 {ops : Array Oper} {rest : List Oper} {o : Oper} {a : Act} {w : World} {Q : Exit → Act → World → Prop} (hgd : o.guard = none) (s x : Operand)
    (ho : o.op = .call { callee := .builtin .append, args := #[s, x], argTypes := #[241, 241] })
    (base : Nat) (A : Option Addr) (c n : Nat) (zs : List (Int × Int)) (hn : zs.length = n) (hs : a.eval s = .slice A n c) (hown : OwnAt w base 247 2 A n c (flat prC zs)) (g : Nat) (y : Int × Int) (hx : a.eval x = .slice (some ⟨g, 0, none⟩) 1 1) (hy : ∀ j u, (prC y)[j]? = some u → w.cell? ⟨g, j, none⟩ = some u)
    (hb : (n + 1) * 16 ≤ 140737488355328) (hbase : base ≤ w.heap.size)
    (h : ∀ A' c' w', OwnAt w' base 247 2 A' (n + 1) c' (flat prC (zs ++ [y])) → Below base w w' → Only (fun b => blkS A b) w w' → (∀ b, blkS A' b → blkS A b ∨ w.heap.size ≤ b) → wpList Try.prog ops Q rest (a.put o.dst (.slice A' (n + 1) c')) w') : wpList Try.prog ops Q (o :: rest) a w := by
  subst hn
  obtain ⟨i0, z0, hi0, hz0, hz1, hz2, hz3⟩ := pr_parts
  refine wpList_append_q hgd s x _ ho base 247 i0 z0 2 16 Try.underlying241 hi0 hz0 hz1 hz2 hz3 (by decide) A zs.length c (flat prC zs) hs hown ⟨g, 0, none⟩ 1 1 (prC y) hx rfl ?_ (pr_one y) (by unfold maxLen; omega) hb hbase (by decide) ?_
  · intro j u hu
    rw [addr_add, Nat.zero_add]
    exact hy j u hu
  · intro g' o' c' w' h1 h2 h3
    have ho : Only (fun b => blkS A b) w w' := ⟨h2.os, h2.tape, h2.output, h2.size, fun i hi hne => h2.block i hi (fun e => hne e.symm)⟩
    refine h _ c' w' (by rw [show flat prC (zs ++ [y]) = flat prC zs ++ prC y by simp [flat]]; exact h1) (ho.to_below (Below.refl _ _) hbase fun i hi => (blkS_lt hown hi).1) ho (fun b hb => ?_)
    simp [blkS] at hb
    subst hb
    rcases h3 with h3 | h3
    · exact .inl h3
    · exact .inr (by omega)

/-- Both rows of a run. -/
structure RunAt (w wr : World) (n : Nat) (A1 : Option Addr) (c1 : Nat) (l1 : List BC) (O : Option Addr) (oc : Nat) (st : List (List Int) × List (Int × Int)) : Prop where
  below : Below w.heap.size w wr
  own : OwnAt wr w.heap.size 247 2 O st.2.length oc (flat prC st.2)
  row : lnRow wr (fun b => ¬ blkS O b ∧ b < wr.heap.size) 0 A1 c1 l1 st.1
  len : l1.length = n
theorem RunAt.keep {w wr w' : World} {n : Nat} {A1 : Option Addr} {c1 : Nat} {l1 : List BC} {O : Option Addr} {oc : Nat} {st : List (List Int) × List (Int × Int)} (h : RunAt w wr n A1 c1 l1 O oc st) (hb : Below wr.heap.size wr w') : RunAt w w' n A1 c1 l1 O oc st :=
  ⟨h.below.trans (hb.mono h.below.size), h.own.below hb, h.row.keep (fun _ hp => hb.cell hp.2) (fun _ hp => ⟨hp.1, Nat.lt_of_lt_of_le hp.2 hb.size⟩), h.len⟩

set_option maxRecDepth 100000 in
set_option maxHeartbeats 4000000 in
theorem run_any (A B : Option Addr) (c cB : Nat) (l : List BC) (vs : List (List Int)) (turns : List Int) (S : Nat → Prop) (w : World) (h : lnRow w S 0 A c l vs) (ht : Row w w.heap.size B (ints turns)) (hG : Good vs) (htl : turns.length ≤ 100) :
    Calls Try.prog 137 #[.slice A l.length c, .slice B turns.length cB] w fun e w' => ∃ A1 c1 l1 O oc, e = .returned (.tuple #[.slice O (runTo vs turns turns.length).2.length oc, .slice A1 l.length c1, .int .i64 0]) ∧ RunAt w w' l.length A1 c1 l1 O oc (runTo vs turns turns.length) := by
  have HC := Lib.hid (checkS_any A c l vs S w h)
  rw [(good_iff vs).2 hG] at HC
  have HLV := Lib.hid h.1
  have HH := Lib.hid h.all
  have HT := Lib.hid ht
  have HG := Lib.hid hG
  have hl8 : l.length ≤ 8 := by rw [h.1]; exact hG.1.2
  have dT : decide ((100 : Int) < (turns.length : Int)) = false := decide_eq_false (by omega)
  have dT' : decide (100 < turns.length) = false := decide_eq_false (by omega)
  clear h ht hG
  go_enter Try.func137, Try.ntmps137
  go_wp2_with fail
  refine HC.out.mono ?_
  rintro e w1 ⟨rfl, hb1⟩
  have HB1 := Lib.hid hb1
  have HCP := Lib.hid (copyOf_any A c l vs _ w1 (HH.out.below hb1 fun _ h => h) hl8)
  clear hb1 HC HH
  go_wp2_with fail
  refine HCP.out.mono ?_
  rintro e w2 ⟨A2, c2, l2, rfl, hown2, hb2⟩
  have hR0 : RunAt w w2 l.length A2 c2 l2 none 0 (runTo vs turns 0) :=
    ⟨HB1.out.trans (hb2.mono HB1.out.size), OwnAt.nil, (hown2.lnRow (by rw [hown2.len, ← HLV.out]; unfold reachBytes; omega)).all.keep (fun _ _ => rfl) (fun b hb => ⟨(fun e => by cases e), hb⟩), by rw [hown2.len, HLV.out]⟩
  have HR0 := Lib.hid hR0
  clear hR0 hown2 hb2 HCP HB1
  go_wp2_with fail
  go_loopg [0, 8, 26] turns.length (fun gk a v i wr => ∃ (k : Nat) (A1 : Option Addr) (c1 : Nat) (l1 : List BC) (O : Option Addr) (on oc : Nat), gk = turns.length - k ∧ k ≤ turns.length ∧ a = .slice A1 l.length c1 ∧ v = .slice O on oc ∧ i = .int .i64 k ∧ (runTo vs turns k).2.length = on ∧ RunAt w wr l.length A1 c1 l1 O oc (runTo vs turns k))
  case atStart => exact ⟨0, A2, c2, l2, none, 0, 0, by omega, by omega, rfl, rfl, rfl, rfl, HR0.out⟩
  case round =>
    obtain ⟨k, A1, c1, l1, O, on, oc, hgk, hk, rfl, rfl, rfl, hon, hat⟩ := hrel
    have HK := Lib.hid hgk
    have HON := Lib.hid hon
    have HAT := Lib.hid hat
    clear hgk hon hat HR0
    by_cases hlt : k < turns.length
    · obtain ⟨b, o, hBB, _, hct⟩ := (HT.out.below HAT.out.below).int hlt
      subst hBB
      have HSTEP := Lib.hid (show runTo vs turns (k + 1) = if 0 ≤ turns.getD k 0 ∧ turns.getD k 0 < (vs.length : Int) then
          (match ready (runTo vs turns k).1 (turns.getD k 0).toNat with
            | none => runTo vs turns k
            | some us => (cutOf us (turns.getD k 0).toNat, (runTo vs turns k).2 ++ [(turns.getD k 0, lastOf us (turns.getD k 0).toNat)]))
        else runTo vs turns k from rfl)
      have HGD := Lib.hid (runTo_good HG.out turns k)
      have hon100 : on ≤ 100 := by have := HGD.out.2.2; have := HON.out; omega
      generalize turns.getD k 0 = cpu at *
      have hl1 := HAT.out.len
      have HPOP := Lib.hid (pop_any A1 c1 l1 (runTo vs turns k).1 cpu _ wr HAT.out.row)
      rw [hl1] at HPOP
      have HCF := Lib.hid (good_cpu HGD.out.2.1 cpu)
      rw [HGD.out.1] at HCF
      clear hl1
      go_wp2_with fail
      refine HPOP.out.mono ?_
      rintro e w3 ⟨hb3, hpost⟩
      have hnew := HAT.out.keep hb3
      rcases hpost with ⟨hne, rfl⟩ | ⟨hz, hrn, rfl⟩ | ⟨hz, us, hrs, A4, c4, l4, rfl, hown4⟩
      · have hoff : ¬ (0 ≤ cpu ∧ cpu < (vs.length : Int)) := fun e => hne (by rw [HCF.out, if_pos e])
        have HE := Lib.hid (show runTo vs turns (k + 1) = runTo vs turns k by rw [HSTEP.out, if_neg hoff])
        have hcf : cpuFault (runTo vs turns k).1 cpu = 4 := by rw [HCF.out, if_neg hoff]
        rw [hcf]
        have HN := Lib.hid hnew
        clear hcf hoff hne hnew hb3 HPOP
        go_wp2_with fail
        go_roundg (turns.length - (k + 1))
        case measure => have := HK.out; omega
        case rel => exact ⟨k + 1, A1, c1, l1, O, on, oc, rfl, by omega, rfl, rfl, by go_num, by rw [HE.out]; exact HON.out, by rw [HE.out]; exact HN.out⟩
      · have hin : 0 ≤ cpu ∧ cpu < (vs.length : Int) := by
          by_cases e : 0 ≤ cpu ∧ cpu < (vs.length : Int)
          · exact e
          · have h1 := HCF.out
            rw [if_neg e, hz] at h1
            cases h1
        have HE := Lib.hid (show runTo vs turns (k + 1) = runTo vs turns k by rw [HSTEP.out, if_pos hin, hrn])
        have HN := Lib.hid hnew
        clear hin hz hrn hnew hb3 HPOP
        go_wp2_with fail
        go_roundg (turns.length - (k + 1))
        case measure => have := HK.out; omega
        case rel => exact ⟨k + 1, A1, c1, l1, O, on, oc, rfl, by omega, rfl, rfl, by go_num, by rw [HE.out]; exact HON.out, by rw [HE.out]; exact HN.out⟩
      · have hin : 0 ≤ cpu ∧ cpu < (vs.length : Int) := by
          by_cases e : 0 ≤ cpu ∧ cpu < (vs.length : Int)
          · exact e
          · have h1 := HCF.out
            rw [if_neg e, hz] at h1
            cases h1
        have HE := Lib.hid (show runTo vs turns (k + 1) = (cutOf us cpu.toNat, (runTo vs turns k).2 ++ [(cpu, lastOf us cpu.toNat)]) by rw [HSTEP.out, if_pos hin, hrs])
        have hl4 : l4.length = l.length := by
          have hp : cpu.toNat < (runTo vs turns k).1.length := by rw [HGD.out.1]; omega
          rw [hown4.len, cutOf_len, (ready_some hp hrs).1, HGD.out.1, HLV.out]
        have HOW := Lib.hid hnew.own
        have HBN := Lib.hid hnew.below
        have HRW := Lib.hid (hown4.lnRow (by rw [hl4]; unfold reachBytes; omega)).lt
        have hs0 := HAT.out.below.size
        have hs3 := hb3.size
        have HOL := Lib.hid (fun b (hb : blkS O b) => (blkS_lt HAT.out.own hb).2)
        have HL4 := Lib.hid hl4
        have hon' := HON.out
        obtain ⟨t, htt⟩ : ∃ t, lastOf us cpu.toNat = t := ⟨_, rfl⟩
        rw [htt] at HE
        rw [htt]
        rw [hon'] at HOW
        have HOA := Lib.hid (fun ob => HOW.out.alloc ob)
        clear hin hz hrs hnew hb3 HPOP hown4 hl4 hon' htt
        go_wp2_with (at_builtin; refine wpList_push_p2 rfl (.tmp 40) (.tmp 44) rfl w.heap.size O oc on (runTo vs turns k).2 HON.out rfl (HOA.out _) w3.heap.size (cpu, t) rfl (fun j u hu => by rw [(Box.new w3 247 #[.int .i64 cpu, .int .i64 t]).cell j]; simpa [prC] using hu) (by omega) (by simp; omega) ?_; intro O5 oc5 w5 hown5 hb5 ho5 hO5)
        have hN : RunAt w w5 l.length A4 c4 l4 O5 oc5 (cutOf us cpu.toNat, (runTo vs turns k).2 ++ [(cpu, t)]) := by
          refine ⟨(HBN.out.alloc (by omega) _).trans hb5, by rw [List.length_append, HON.out]; exact hown5, HRW.out.keep (fun q hq => ?_) (fun b hb => ?_), HL4.out⟩
          · have h1 : wr.heap.size ≤ q.block := hq.1
            have h2 := ho5.block q.block (by simp; have := hq.2; omega) (fun e => by have := HOL.out _ e; omega)
            simp only [World.cell?, h2]
            rw [Below.heap_alloc w3 _ q.block hq.2]
          · have h1 : wr.heap.size ≤ b := hb.1
            refine ⟨fun e => ?_, ?_⟩
            · rcases hO5 b e with h2 | h2
              · have := HOL.out _ h2; omega
              · simp at h2; have := hb.2; omega
            · have := ho5.size; simp at this; have := hb.2; omega
        have HN := Lib.hid hN
        clear hown5 hb5 ho5 hO5 hN
        go_roundg (turns.length - (k + 1))
        case measure => have := HK.out; omega
        case rel => exact ⟨k + 1, A4, c4, l4, O5, on + 1, oc5, rfl, by omega, rfl, rfl, by go_num, by rw [HE.out, List.length_append, HON.out]; rfl, by rw [HE.out]; exact HN.out⟩
    · obtain rfl : k = turns.length := by omega
      go_wp2_with fail
      go_ret3
      exact ⟨A1, c1, l1, O, oc, by rw [HON.out]; rfl, HAT.out⟩
end Go.Proofs.Ytaecgapoaagjfaa
