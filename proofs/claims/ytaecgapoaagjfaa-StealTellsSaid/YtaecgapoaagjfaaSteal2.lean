/-
  Lines: one number appended to a row of the call's own; the reference's LinesFault.
-/
import Derived.Test.YtaecgapoaagjfaaSteal1
namespace Go.Proofs.Ytaecgapoaagjfaa
open Go.RowKit

theorem int_parts : ∃ i, Try.prog.info? 3 = some i ∧ i.zero = some (.int .i64 0) ∧ i.size = 1 ∧ i.bytes = 8 := by
  have h := int_info
  cases hi : Try.prog.info? 3 with
  | none => rw [hi] at h; cases h
  | some i =>
    rw [hi] at h
    simp only [Option.map_some, Option.some.injEq, Prod.mk.injEq] at h
    exact ⟨i, rfl, h.1, h.2.1, h.2.2⟩
theorem ints_one (xs : List Int) : ∀ u ∈ ints xs, u.oneCell' = true := by
  intro u hu
  simp only [ints, List.mem_map] at hu
  obtain ⟨x, _, rfl⟩ := hu
  rfl
theorem wpList_push_i {ops : Array Oper} {rest : List Oper} {o : Oper} {a : Act} {w : World} {Q : Exit → Act → World → Prop} (hgd : o.guard = none) (s x : Operand)
    (ho : o.op = .call { callee := .builtin .append, args := #[s, x], argTypes := #[64, 64] })
    (base : Nat) (A : Option Addr) (c n : Nat) (zs : List Int) (hn : zs.length = n) (hs : a.eval s = .slice A n c) (hown : OwnAt w base 3 1 A n c (ints zs)) (g : Nat) (y : Int) (hx : a.eval x = .slice (some ⟨g, 0, none⟩) 1 1) (hy : w.cell? ⟨g, 0, none⟩ = some (.int .i64 y))
    (hb : (n + 1) * 8 ≤ 140737488355328) (hbase : base ≤ w.heap.size)
    (h : ∀ A' c' w', OwnAt w' base 3 1 A' (n + 1) c' (ints (zs ++ [y])) → Below base w w' → Only (fun b => A.map (·.block) = some b) w w' → (∀ b, A'.map (·.block) = some b → A.map (·.block) = some b ∨ w.heap.size ≤ b) → wpList Try.prog ops Q rest (a.put o.dst (.slice A' (n + 1) c')) w') : wpList Try.prog ops Q (o :: rest) a w := by
  subst hn
  obtain ⟨i0, hi0, hz0, hz1, hz2⟩ := int_parts
  refine wpList_append_q hgd s x _ ho base 3 i0 (.int .i64 0) 1 8 Try.underlying64 hi0 hz0 hz1 hz2 rfl (by decide) A zs.length c (ints zs) hs hown ⟨g, 0, none⟩ 1 1 (ints [y]) hx rfl ?_ (ints_one [y]) (by unfold maxLen; omega) hb hbase (by decide) ?_
  · intro j u hu
    rw [addr_add, Nat.zero_add]
    match j, hu with
    | 0, hu => simp [ints] at hu; subst hu; exact hy
    | j + 1, hu => simp [ints] at hu
  · intro g' o' c' w' h1 h2 h3
    have hlt : ∀ b, A.map (·.block) = some b → base ≤ b := fun b hb => by
      rcases hown.form with ⟨rfl, _⟩ | ⟨g1, o1, rfl⟩
      · cases hb
      · simp at hb; subst hb; exact hown.lt.1
    have ho : Only (fun b => A.map (·.block) = some b) w w' := ⟨h2.os, h2.tape, h2.output, h2.size, fun i hi hne => h2.block i hi (fun e => hne e.symm)⟩
    refine h _ c' w' (by rw [show ints (zs ++ [y]) = ints zs ++ ints [y] by simp [ints]]; exact h1) (ho.to_below (Below.refl _ _) hbase hlt) ho (fun b hb => ?_)
    simp at hb
    subst hb
    rcases h3 with h3 | h3
    · exact .inl h3
    · exact .inr (by omega)

theorem take_contains (l : List Int) (k : Nat) (t : Int) (hk : k < l.length) (h : (l.take k).contains t = false) : (l.take (k + 1)).contains t = (l.getD k 0 == t) := by
  rw [take_getD l 0 hk]
  simp only [List.contains_eq_any_beq, List.any_append, List.any_cons, List.any_nil, Bool.or_false] at h ⊢
  rw [h, Bool.false_or]
  exact Bool.beq_comm

set_option maxRecDepth 100000 in
set_option maxHeartbeats 4000000 in
theorem linesFault_any (A : Option Addr) (c : Nat) (l : List BC) (vs : List (List Int)) (S : Nat → Prop) (w : World) (h : lnRow w S 0 A c l vs) :
    Calls Try.prog 138 #[.slice A l.length c] w fun e w' => e = .returned (.int .i64 (linesFault vs)) ∧ Below w.heap.size w w' := by
  have hlv := h.1
  unfold linesFault
  rw [← hlv]
  have hcm := h.2.2.2.2.1
  have hlc := h.2.2.2.1
  unfold maxLen at hcm
  have HH := Lib.hid h.all
  by_cases h1 : l.length < 1 ∨ 8 < l.length
  · rw [if_pos h1]
    have d1 : decide ((1 : Int) ≤ (l.length : Int) ∧ (l.length : Int) ≤ 8) = false := decide_eq_false (by omega)
    have HIN := Lib.hid (in_any (l.length : Int) 1 8 w)
    rw [d1] at HIN
    clear h hlv h1 d1
    go_enter Try.func138, Try.ntmps138
    go_wp2_with fail
    refine HIN.out.mono ?_
    rintro e w1 ⟨rfl, rfl⟩
    go_wp2_with fail
    go_ret
    exact ⟨rfl, Below.refl _ _⟩
  rw [if_neg h1]
  have d1 : decide ((1 : Int) ≤ (l.length : Int) ∧ (l.length : Int) ≤ 8) = true := decide_eq_true (by omega)
  have HIN := Lib.hid (in_any (l.length : Int) 1 8 w)
  rw [d1] at HIN
  generalize hres : linesF [] vs = res
  have HRES := Lib.hid hres
  have HLV := Lib.hid hlv
  have hln8 : l.length ≤ 8 := by omega
  clear h hlv hres h1 d1
  go_enter Try.func138, Try.ntmps138
  go_wp2_with fail
  refine HIN.out.mono ?_
  rintro e w1 ⟨rfl, rfl⟩
  clear HIN
  go_wp2_with fail
  go_loopg [3, 16] l.length (fun gk v i wr => ∃ (k n : Nat) (seen : List Int) (A1 : Option Addr) (c1 : Nat), gk = l.length - k ∧ k ≤ l.length ∧ seen.length = n ∧ n ≤ 100 ∧ v = .slice A1 n c1 ∧ i = .int .i64 k ∧ res = linesF seen (vs.drop k) ∧ OwnAt wr w.heap.size 3 1 A1 n c1 (ints seen) ∧ Below w.heap.size w wr)
  case atStart => exact ⟨0, 0, [], none, 0, by omega, by omega, rfl, by omega, rfl, rfl, HRES.out.symm, OwnAt.nil, Below.refl _ _⟩
  case round =>
    obtain ⟨k, n, seen, A1, c1, hgk, hk, hns, hn100, rfl, rfl, hR, hset, hb⟩ := hrel
    obtain ⟨wo, hwo⟩ : ∃ wo, wo = wr := ⟨_, rfl⟩
    subst hwo
    have HK := Lib.hid hgk
    have HR := Lib.hid hR
    have HNS := Lib.hid hns
    have HSET := Lib.hid hset
    have HB := Lib.hid hb
    have hbs := hb.size
    clear hgk hR hns hset hb HRES
    by_cases hlt : k < l.length
    · obtain ⟨b, o, rfl, hbl, hc, hi⟩ := (HH.out.below HB.out fun _ h => h).at hlt
      have HDR := Lib.hid (show res = linesF seen (vs.getD k [] :: vs.drop (k + 1)) by rw [HR.out, drop_getD vs [] (by rw [← HLV.out]; exact hlt)])
      have hml : (vs.getD k []).length ≤ 17592186044416 := hi.2.2.2.2.2.2
      have HI := Lib.hid hi
      generalize vs.getD k [] = xs at *
      generalize l.getD k bc0 = x at *
      obtain ⟨XA, XL, XC⟩ := x
      dsimp only at hc
      clear hi
      by_cases hlg : 100 < n + xs.length
      · have HEND := Lib.hid (show res = 2 by rw [HDR.out, linesF_cons, if_pos (by rw [HNS.out]; exact hlg)])
        have e1 : decide ((100 : Int) < (n : Int) + (xs.length : Int)) = true := decide_eq_true (by omega)
        have e1' : decide (100 < n + xs.length) = true := decide_eq_true (by omega)
        go_wp2_with fail
        go_ret
        exact ⟨by rw [HEND.out]; rfl, HB.out⟩
      · have HC0 := Lib.hid (show res = contF seen xs (vs.drop (k + 1)) by rw [HDR.out, linesF_cons, if_neg (by rw [HNS.out]; exact hlg)])
        have e1 : decide ((100 : Int) < (n : Int) + (xs.length : Int)) = false := decide_eq_false (by omega)
        have e1' : decide (100 < n + xs.length) = false := decide_eq_false (by omega)
        go_wp2_with fail
        go_loopg [3, 28] xs.length (fun gj v i wj => ∃ (j n' : Nat) (seen' : List Int) (A2 : Option Addr) (c2 : Nat), gj = xs.length - j ∧ j ≤ xs.length ∧ n' = n + j ∧ seen'.length = n' ∧ v = .slice A2 n' c2 ∧ i = .int .i64 j ∧ res = contF seen' (xs.drop j) (vs.drop (k + 1)) ∧ OwnAt wj w.heap.size 3 1 A2 n' c2 (ints seen') ∧ Below w.heap.size w wj)
        case atStart => exact ⟨0, n, seen, A1, c1, by omega, by omega, rfl, HNS.out, rfl, rfl, HC0.out, HSET.out, HB.out⟩
        case round =>
          obtain ⟨j, n', seen', A2, c2, hgj, hj, hn', hns', rfl, rfl, hR', hset', hb'⟩ := hrel
          obtain ⟨wi, hwi⟩ : ∃ wi, wi = wr := ⟨_, rfl⟩
          subst hwi
          have HKJ := Lib.hid hgj
          have HR' := Lib.hid hR'
          have HNS' := Lib.hid hns'
          have HN' := Lib.hid hn'
          have HSET' := Lib.hid hset'
          have HB' := Lib.hid hb'
          have hbs' := hb'.size
          have hn'100 : n' ≤ 100 := by omega
          clear hgj hR' hns' hn' hset' hb'
          by_cases hlj : j < xs.length
          · have hIj := HI.out.keep (w' := wi) (S' := (· < w.heap.size)) (fun p hp => (HB'.out.cell hp).trans (HB.out.cell hp).symm) fun _ h => h
            obtain ⟨b2, o2, hA2, _, hc2⟩ := hIj.row.int hlj
            have HDJ := Lib.hid (show res = contF seen' (xs.getD j 0 :: xs.drop (j + 1)) (vs.drop (k + 1)) by rw [HR'.out, drop_getD xs 0 hlj])
            generalize xs.getD j 0 = t at *
            have hA2' : XA = some ⟨b2, o2, none⟩ := hA2
            subst hA2'
            go_wp2_with fail
            go_loopg [34] n' (fun gi i wk => ∃ q : Nat, gi = n' - q ∧ q ≤ n' ∧ i = .int .i64 q ∧ (seen'.take q).contains t = false ∧ wi = wk)
            case atStart => exact ⟨0, by omega, by omega, rfl, rfl, rfl⟩
            case round =>
              obtain ⟨q, hgq, hq, rfl, hct, rfl⟩ := hrel
              have HKQ := Lib.hid hgq
              have HCT := Lib.hid hct
              clear hgq hct
              by_cases hlq : q < n'
              · have HTC := Lib.hid (take_contains seen' q t (by rw [HNS'.out]; exact hlq) HCT.out)
                have hrow := HSET'.out.row
                obtain ⟨b3, o3, hA3, _, hc3⟩ := hrow.int (i := q) (by rw [HNS'.out]; exact hlq)
                subst hA3
                generalize seen'.getD q 0 = u at *
                clear hrow
                by_cases hu : u = t
                · have e2 : (u == t) = true := by simp [hu]
                  have HEND := Lib.hid (show res = 5 by
                    rw [HDJ.out, contF_cons, if_pos]
                    have h1 := HTC.out
                    rw [e2] at h1
                    rw [List.contains_iff_mem] at h1 ⊢
                    exact List.mem_of_mem_take h1)
                  clear hu
                  go_wp2_with fail
                  go_ret
                  exact ⟨by rw [HEND.out]; rfl, HB'.out⟩
                · have e2 : (u == t) = false := by simp [hu]
                  have HC2 := Lib.hid (HTC.out.trans e2)
                  clear hu
                  go_wp2_with fail
                  go_roundg (n' - (q + 1))
                  case measure => have := HKQ.out; omega
                  case rel => exact ⟨q + 1, rfl, by omega, by go_num, HC2.out, rfl⟩
              · have HC1 := Lib.hid (show seen'.contains t = false by have := HCT.out; rwa [List.take_of_length_le (by rw [HNS'.out]; omega)] at this)
                have HEND := Lib.hid (show res = contF (seen' ++ [t]) (xs.drop (j + 1)) (vs.drop (k + 1)) by rw [HDJ.out, contF_cons, HC1.out]; rfl)
                have HBA := Lib.hid (fun o => HB'.out.alloc hbs' o)
                go_wp2_with (at_builtin; refine wpList_push_i rfl (.tmp 42) (.tmp 44) rfl w.heap.size A2 c2 n' seen' HNS'.out rfl (HSET'.out.alloc _) wi.heap.size t rfl ((Box.new _ _ _).cell 0) (by omega) (by simp; omega) ?_; intro A3 c3 w3 hown3 hb3 ho3 hA3)
                have HB3 := Lib.hid ((HBA.out _).trans hb3)
                have HO3 := Lib.hid hown3
                clear hown3 hb3 ho3 hA3
                go_roundg (xs.length - (j + 1))
                case measure => have := HKJ.out; omega
                case rel => exact ⟨j + 1, n' + 1, _, A3, c3, rfl, by omega, by have := HN'.out; omega, by rw [List.length_append, HNS'.out]; rfl, rfl, by go_num, HEND.out, HO3.out, HB3.out⟩
          · obtain rfl : j = xs.length := by omega
            have HEND := Lib.hid (show res = linesF seen' (vs.drop (k + 1)) by rw [HR'.out, List.drop_length, contF_nil])
            go_wp2_with fail
            go_roundg (l.length - (k + 1))
            case measure => have := HK.out; omega
            case rel => exact ⟨k + 1, n', seen', A2, c2, rfl, by omega, HNS'.out, hn'100, rfl, by go_num, HEND.out, HSET'.out, HB'.out⟩
    · have HEND := Lib.hid (show res = 0 by rw [HR.out, List.drop_of_length_le (by rw [← HLV.out]; omega)]; rfl)
      go_wp2_with fail
      go_ret
      exact ⟨by rw [HEND.out]; rfl, HB.out⟩
end Go.Proofs.Ytaecgapoaagjfaa
