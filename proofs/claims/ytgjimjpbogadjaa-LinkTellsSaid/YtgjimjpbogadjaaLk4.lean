
/-
  Links: Watch, Link, Linked.
-/
import Derived.Test.YtgjimjpbogadjaaLk3
namespace Go.Proofs.Ytgjimjpbogadjaa
open Go.RowKit

/-- A number appended to a list of the call's own. -/
theorem wpList_append_line {ops : Array Oper} {rest : List Oper} {o : Oper} {a : Act} {w : World} {Q : Exit → Act → World → Prop} (hgd : o.guard = none) (s x : Operand)
    (ho : o.op = .call { callee := .builtin .append, args := #[s, x], argTypes := #[56, 56] })
    (base : Nat) (A : Option Addr) (m c : Nat) (ys : List Int) (hm : ys.length = m) (hs : a.eval s = .slice A m c) (hy : LineOwn w base ⟨A, m, c⟩ ys) (g : Nat) (v : Int) (hv : I64 v) (hx : a.eval x = .slice (some ⟨g, 0, none⟩) 1 1) (hc : w.cell? ⟨g, 0, none⟩ = some (.int .i64 v))
    (hbase : base ≤ w.heap.size) (hlen : m + 1 ≤ 101)
    (h : ∀ A' c' w', LineOwn w' base ⟨A', m + 1, c'⟩ (ys ++ [v]) → Only (fun b => blkS A b) w w' → (∀ b, blkS A' b → blkS A b ∨ w.heap.size ≤ b) → wpList Try.prog ops Q rest (a.put o.dst (.slice A' (m + 1) c')) w') : wpList Try.prog ops Q (o :: rest) a w := by
  subst hm
  obtain ⟨i0, hi0, hz0, hz1, hz2⟩ := info_parts int_info
  have hrng := hy.rng
  refine wpList_append_q hgd s x 56 ho base 3 i0 (.int .i64 0) 1 8 Try.underlying56 hi0 hz0 hz1 hz2 rfl (by decide) A ys.length c (ints ys) hs hy.own ⟨g, 0, none⟩ 1 1 (ints [v]) hx rfl ?_ ?_ (by unfold maxLen; omega) (by omega) hbase (by decide) ?_
  · intro j u hu
    rw [addr_add, Nat.zero_add]
    match j, hu with
    | 0, hu => simp [ints] at hu; subst hu; exact hc
    | j + 1, hu => simp [ints] at hu
  · intro u hu
    simp only [ints, List.mem_map] at hu
    obtain ⟨x, _, rfl⟩ := hu
    rfl
  · intro g' o' c' w' h1 h2 h3
    refine h _ c' w' ⟨by simp, ?_, ?_, ?_⟩ ⟨h2.os, h2.tape, h2.output, h2.size, fun i hi hne => h2.block i hi (fun e => hne e.symm)⟩ (fun b hb => ?_)
    · rw [List.length_append]
      have : ints (ys ++ [v]) = ints ys ++ ints [v] := by simp [ints]
      rw [this]
      exact h1
    · intro u hu
      rcases List.mem_append.1 hu with hu | hu
      · exact hrng u hu
      · rw [List.mem_singleton] at hu; subst hu; exact hv
    · rw [List.length_append, List.length_singleton]; omega
    · simp [blkS] at hb
      subst hb
      rcases h3 with h3 | h3
      · exact .inl h3
      · exact .inr (by omega)

theorem OwnLks.still {w w' : World} {base g o c : Nat} {l : List LkC} {vs : List Lk} {T : Nat → Prop} (h : OwnLks w base (some ⟨g, o, none⟩) c l vs) {q : Nat} (hq : q < l.length) (ho : Only T w w') (hT : ¬ T g) {j : Nat} (hj : j < 3) :
    (∃ u, w'.cell? ⟨g, o + q * 3 + j, none⟩ = some u) ∧ w'.frozen? ⟨g, o + q * 3 + j, none⟩ = false := by
  have h1 := h.row.only ho (fun b hb => by simp at hb; subst hb; exact hT)
  have hl : (flat lkC l).length = l.length * 3 := flat_len lkC_len l
  have hj3 : q * 3 + j < (flat lkC l).length := by omega
  refine ⟨⟨(flat lkC l)[q * 3 + j], ?_⟩, ?_⟩
  · rw [Nat.add_assoc]
    exact h1.cells _ _ (List.getElem?_eq_getElem hj3)
  · rw [Nat.add_assoc]
    exact h1.frozen _

/-- What a call that returns rows and an error leaves. -/
def LkRes (F : Int × List Lk) (w : World) (e : Ending) (w' : World) : Prop :=
  ∃ A' c' l', e = .returned (.tuple #[.slice A' F.2.length c', .int .i64 F.1]) ∧ l'.length = F.2.length ∧ lkRow w' (· < w'.heap.size) 0 A' c' l' F.2 ∧ Below w.heap.size w w'
theorem lkRow.nil {w : World} {S : Nat → Prop} {n : Nat} : lkRow w S n none 0 [] [] := ⟨rfl, RowS.nil, (fun i hi => absurd hi (by simp)), Nat.le_refl _, Nat.zero_le _, (fun _ => rfl), Nat.zero_le _⟩
theorem LkRes.err {E : Int} {w w' : World} {e : Ending} (h : e = .returned (.tuple #[.slice none 0 0, .int .i64 E])) (hb : Below w.heap.size w w') : LkRes (E, []) w e w' := ⟨none, 0, [], h, rfl, lkRow.nil, hb⟩
theorem LkRes.ok {w w' : World} {e : Ending} {base : Nat} {A : Option Addr} {c : Nat} {l : List LkC} {vs : List Lk} (h : e = .returned (.tuple #[.slice A vs.length c, .int .i64 0])) (ho : OwnLks w' base A c l vs) (hl : vs.length ≤ 101) (hb : Below w.heap.size w w') : LkRes (0, vs) w e w' :=
  ⟨A, c, l, h, ho.len, (ho.lkRow (by rw [ho.len]; unfold reachBytes; omega)).all, hb⟩


set_option maxRecDepth 100000 in
set_option maxHeartbeats 2000000 in
theorem watch_any (A : Option Addr) (c : Nat) (l : List LkC) (vs : List Lk) (b n : Int) (w : World) (hin : lkRow w (· < w.heap.size) 0 A c l vs) (hv : I64 b) :
    Calls Try.prog 46 #[.slice A l.length c, .int .i64 b, .int .i64 n] w fun e w' => LkRes (watF vs b n) w e w' := by
  have HBG := Lib.hid (lkbegin_any A c l vs n w hin)
  have HLV := Lib.hid hin.1
  have HFF : Hid (watF vs b n = if lkBeg vs n ≠ 0 then (lkBeg vs n, []) else if (vs.getD (lkAt vs n).toNat lk0).ws.length = 100 then (6, []) else (0, vs.set (lkAt vs n).toNat ⟨(vs.getD (lkAt vs n).toNat lk0).ref, (vs.getD (lkAt vs n).toNat lk0).ws ++ [b], (vs.getD (lkAt vs n).toNat lk0).ls⟩)) := rfl
  generalize watF vs b n = F at *
  have HV := Lib.hid hv
  clear hin hv
  go_enter Try.func46, Try.ntmps46
  go_wp2_with fail
  refine HBG.out.mono ?_
  rintro e w1 ⟨hb1, (⟨hne, rfl⟩ | ⟨he, A', c', l', rfl, hl', ho⟩)⟩
  · have HF := Lib.hid (show F = (lkBeg vs n, []) by rw [HFF.out, if_pos hne])
    have b1 : (lkBeg vs n != 0) = true := by simpa using hne
    clear HFF HBG hne
    generalize lkBeg vs n = E at *
    go_wp2_with fail
    go_ret2
    rw [HF.out]
    exact LkRes.err rfl hb1
  · obtain ⟨hok, _, i, hi, hil⟩ := lkBeg_ok he
    have hl100 := hok.len
    rw [he, if_neg (by simp), hi, Int.toNat_natCast] at HFF
    rw [hi]
    have hil' : i < l'.length := by rw [ho.len]; exact hil
    have hill : i < l.length := by rw [← hl']; exact hil'
    have hi1 : (i : Int) < (l.length : Int) := by omega
    have HLL := Lib.hid (show l.length = vs.length from HLV.out)
    obtain ⟨g, o, rfl, hg, c0, c1, c2, i1, i2⟩ := (ho.lkRow (by rw [ho.len]; unfold reachBytes; omega)).at hil'
    have hbase := ho.row.lt.1
    have HB1 := Lib.hid hb1
    have HO := Lib.hid ho
    have hln := (hok.rows _ (getD_mem lk0 hil)).2.1
    have HEW := Lib.hid (ho.each i hil').W
    have HXA : Hid ((l'.getD i lkc0).W.A = (l'.getD i lkc0).W.A) := Lib.hid rfl
    have hel := i1.row
    have HEL := Lib.hid hel
    have hcp := i1.2.2.1
    dsimp only at hcp
    clear hb1 ho he hi HBG hok i1 i2 hel HLV
    obtain ⟨v, hvv⟩ : ∃ v, vs.getD i lk0 = v := ⟨_, rfl⟩
    obtain ⟨x, hxx⟩ : ∃ x, l'.getD i lkc0 = x := ⟨_, rfl⟩
    rw [hvv] at HFF c0 c1 c2 hln HEW HEL hcp
    rw [hxx] at c1 c2 HEW HEL hcp
    have HVV := Lib.hid hvv
    have HXX := Lib.hid hxx
    clear HXA hvv hxx
    obtain ⟨v0, ws, ls⟩ := v
    obtain ⟨x0, ⟨WA, wl, wc⟩, ⟨LA, ll, lc⟩⟩ := x
    dsimp only at HFF c0 c1 c2 hln HEW HEL hcp
    have hql := HEW.out.len
    dsimp only at hql
    subst hql
    by_cases hfull : ws.length = 100
    · have HF := Lib.hid (show F = (6, []) by rw [HFF.out, if_pos hfull])
      have b2 : ((ws.length : Int) == 100) = true := by simp; omega
      have b2' : (ws.length == 100) = true := by simp; omega
      clear HFF hfull
      go_wp2_with fail
      go_ret2
      rw [HF.out]
      exact LkRes.err rfl HB1.out
    · have HF := Lib.hid (show F = (0, vs.set i ⟨v0, ws ++ [b], ls⟩) by rw [HFF.out, if_neg hfull])
      have b2 : ((ws.length : Int) == 100) = false := by simp; omega
      have b2' : (ws.length == 100) = false := by simp; omega
      have hm1 : ws.length + 1 ≤ 101 := by omega
      clear HFF hfull
      have hal : Below w1.heap.size w1 (w1.alloc (.cells #[.int .i64 b] 3)) := (Below.refl _ _).alloc (Nat.le_refl _) _
      have HOA := Lib.hid (HO.out.below hal)
      have HEA := Lib.hid (HEW.out.below hal)
      have HAS := Lib.hid hal.size
      have HGI : blkS WA g → lkB ⟨x0, ⟨WA, ws.length, wc⟩, ⟨LA, ll, lc⟩⟩ g := fun h => .inl h
      have hgl1 : g < (w1.alloc (.cells #[.int .i64 b] 3)).heap.size := Nat.lt_of_lt_of_le hg hal.size
      clear hal
      go_wp2_with (at_builtin; refine wpList_append_line rfl (.tmp 36) (.tmp 38) rfl w.heap.size WA ws.length wc ws rfl rfl HEA.out w1.heap.size b HV.out rfl ((Box.new _ _ _).cell 0) (Nat.le_trans HB1.out.size HAS.out) hm1 ?_; intro A2 c3 w2 hy2 ho2 hyb2; have hput := HOA.out.putW hil' (by rw [HXX.out]; exact ho2) hy2 (by rw [HXX.out]; exact hyb2); obtain ⟨⟨uu, huu⟩, hfz⟩ := HOA.out.still hil' ho2 (fun hg0 => HOA.out.off i hil' g (by rw [HXX.out]; exact HGI hg0) rfl) (j := 1) (by decide); have HPUT := Lib.hid hput; have HO2 := Lib.hid ho2; clear hput hy2 ho2 hyb2)
      go_ret2
      rw [HF.out]
      have hpp := HPUT.out
      rw [HVV.out] at hpp
      refine LkRes.ok (by rw [List.length_set, HLL.out]; rfl) hpp (by rw [List.length_set]; omega) ?_
      exact ((HB1.out.alloc HB1.out.size _).trans ((HO2.out.to_below (Below.refl _ _) (Nat.le_trans HB1.out.size HAS.out) (fun i hi => (blkS_lt HEA.out.own hi).1)))).setCell hbase _

set_option maxRecDepth 100000 in
set_option maxHeartbeats 2000000 in
theorem link_any (A : Option Addr) (c : Nat) (l : List LkC) (vs : List Lk) (b n : Int) (w : World) (hin : lkRow w (· < w.heap.size) 0 A c l vs) (hv : I64 b) :
    Calls Try.prog 47 #[.slice A l.length c, .int .i64 n, .int .i64 b] w fun e w' => LkRes (linF vs n b) w e w' := by
  have HBG := Lib.hid (lkbegin_any A c l vs n w hin)
  have HLV := Lib.hid hin.1
  have HFF : Hid (linF vs n b = if lkBeg vs n ≠ 0 then (lkBeg vs n, []) else if (vs.getD (lkAt vs n).toNat lk0).ls.contains b = true then (0, vs) else if (vs.getD (lkAt vs n).toNat lk0).ls.length = 100 then (6, []) else (0, vs.set (lkAt vs n).toNat ⟨(vs.getD (lkAt vs n).toNat lk0).ref, (vs.getD (lkAt vs n).toNat lk0).ws, (vs.getD (lkAt vs n).toNat lk0).ls ++ [b]⟩)) := rfl
  generalize linF vs n b = F at *
  have HV := Lib.hid hv
  clear hin hv
  go_enter Try.func47, Try.ntmps47
  go_wp2_with fail
  refine HBG.out.mono ?_
  rintro e w1 ⟨hb1, (⟨hne, rfl⟩ | ⟨he, A', c', l', rfl, hl', ho⟩)⟩
  · have HF := Lib.hid (show F = (lkBeg vs n, []) by rw [HFF.out, if_pos hne])
    have b1 : (lkBeg vs n != 0) = true := by simpa using hne
    clear HFF HBG hne
    generalize lkBeg vs n = E at *
    go_wp2_with fail
    go_ret2
    rw [HF.out]
    exact LkRes.err rfl hb1
  · obtain ⟨hok, _, i, hi, hil⟩ := lkBeg_ok he
    have hl100 := hok.len
    rw [he, if_neg (by simp), hi, Int.toNat_natCast] at HFF
    rw [hi]
    have hil' : i < l'.length := by rw [ho.len]; exact hil
    have hill : i < l.length := by rw [← hl']; exact hil'
    have hi1 : (i : Int) < (l.length : Int) := by omega
    have HLL := Lib.hid (show l.length = vs.length from HLV.out)
    obtain ⟨g, o, rfl, hg, c0, c1, c2, i1, i2⟩ := (ho.lkRow (by rw [ho.len]; unfold reachBytes; omega)).at hil'
    have hbase := ho.row.lt.1
    have HB1 := Lib.hid hb1
    have HO := Lib.hid ho
    have hln := (hok.rows _ (getD_mem lk0 hil)).2.2
    have HEW := Lib.hid (ho.each i hil').L
    have HXA : Hid ((l'.getD i lkc0).L.A = (l'.getD i lkc0).L.A) := Lib.hid rfl
    have hel := i2.row
    have HEL := Lib.hid hel
    have hcp := i2.2.2.1
    dsimp only at hcp
    clear hb1 ho he hi HBG hok i1 i2 hel HLV
    obtain ⟨v, hvv⟩ : ∃ v, vs.getD i lk0 = v := ⟨_, rfl⟩
    obtain ⟨x, hxx⟩ : ∃ x, l'.getD i lkc0 = x := ⟨_, rfl⟩
    rw [hvv] at HFF c0 c1 c2 hln HEW HEL hcp
    rw [hxx] at c1 c2 HEW HEL hcp
    have HVV := Lib.hid hvv
    have HXX := Lib.hid hxx
    clear HXA hvv hxx
    obtain ⟨v0, ws, ls⟩ := v
    obtain ⟨x0, ⟨WA, wl, wc⟩, ⟨LA, ll, lc⟩⟩ := x
    dsimp only at HFF c0 c1 c2 hln HEW HEL hcp
    have hql := HEW.out.len
    dsimp only at hql
    subst hql
    have HCN := Lib.hid (contains_any LA lc _ ls b w1 HEL.out (by omega))
    by_cases hct : ls.contains b = true
    · have HF := Lib.hid (show F = (0, vs) by rw [HFF.out, if_pos hct])
      rw [hct] at HCN
      clear HFF hct
      go_wp2_with fail
      refine HCN.out.mono ?_
      rintro e w' ⟨rfl, rfl⟩
      go_wp2_with fail
      go_ret2
      rw [HF.out]
      exact LkRes.ok (by rw [HLL.out]; rfl) HO.out (by omega) HB1.out
    rw [if_neg hct] at HFF
    rw [show ls.contains b = false by simpa using hct] at HCN
    clear hct
    go_wp2_with fail
    refine HCN.out.mono ?_
    rintro e w' ⟨rfl, rfl⟩
    clear HCN
    by_cases hfull : ls.length = 100
    · have HF := Lib.hid (show F = (6, []) by rw [HFF.out, if_pos hfull])
      have b2 : ((ls.length : Int) == 100) = true := by simp; omega
      have b2' : (ls.length == 100) = true := by simp; omega
      clear HFF hfull
      go_wp2_with fail
      go_ret2
      rw [HF.out]
      exact LkRes.err rfl HB1.out
    · have HF := Lib.hid (show F = (0, vs.set i ⟨v0, ws, ls ++ [b]⟩) by rw [HFF.out, if_neg hfull])
      have b2 : ((ls.length : Int) == 100) = false := by simp; omega
      have b2' : (ls.length == 100) = false := by simp; omega
      have hm1 : ls.length + 1 ≤ 101 := by omega
      clear HFF hfull
      have hal : Below w1.heap.size w1 (w1.alloc (.cells #[.int .i64 b] 3)) := (Below.refl _ _).alloc (Nat.le_refl _) _
      have HOA := Lib.hid (HO.out.below hal)
      have HEA := Lib.hid (HEW.out.below hal)
      have HAS := Lib.hid hal.size
      have HGI : blkS LA g → lkB ⟨x0, ⟨WA, wl, wc⟩, ⟨LA, ls.length, lc⟩⟩ g := fun h => .inr h
      have hgl1 : g < (w1.alloc (.cells #[.int .i64 b] 3)).heap.size := Nat.lt_of_lt_of_le hg hal.size
      clear hal
      go_wp2_with (at_builtin; refine wpList_append_line rfl (.tmp 45) (.tmp 47) rfl w.heap.size LA ls.length lc ls rfl rfl HEA.out w1.heap.size b HV.out rfl ((Box.new _ _ _).cell 0) (Nat.le_trans HB1.out.size HAS.out) hm1 ?_; intro A2 c3 w2 hy2 ho2 hyb2; have hput := HOA.out.putL hil' (by rw [HXX.out]; exact ho2) hy2 (by rw [HXX.out]; exact hyb2); obtain ⟨⟨uu, huu⟩, hfz⟩ := HOA.out.still hil' ho2 (fun hg0 => HOA.out.off i hil' g (by rw [HXX.out]; exact HGI hg0) rfl) (j := 2) (by decide); have HPUT := Lib.hid hput; have HO2 := Lib.hid ho2; clear hput hy2 ho2 hyb2)
      go_ret2
      rw [HF.out]
      have hpp := HPUT.out
      rw [HVV.out] at hpp
      refine LkRes.ok (by rw [List.length_set, HLL.out]; rfl) hpp (by rw [List.length_set]; omega) ?_
      exact ((HB1.out.alloc HB1.out.size _).trans ((HO2.out.to_below (Below.refl _ _) (Nat.le_trans HB1.out.size HAS.out) (fun i hi => (blkS_lt HEA.out.own hi).1)))).setCell hbase _

set_option maxRecDepth 100000 in
set_option maxHeartbeats 2000000 in
theorem linked_any (A : Option Addr) (c : Nat) (l : List LkC) (vs : List Lk) (n t : Int) (w : World) (hin : lkRow w (· < w.heap.size) 0 A c l vs) :
    Calls Try.prog 48 #[.slice A l.length c, .int .i64 n, .int .i64 t] w fun e w' => e = .returned (.tuple #[.bool (isF vs n t).1, .int .i64 (isF vs n t).2]) ∧ Below w.heap.size w w' := by
  have HBG := Lib.hid (lkbegin_any A c l vs n w hin)
  have HLV := Lib.hid hin.1
  have HFF : Hid (isF vs n t = if lkBeg vs n ≠ 0 then (false, lkBeg vs n) else ((vs.getD (lkAt vs n).toNat lk0).ls.contains t, 0)) := rfl
  generalize isF vs n t = F at *
  clear hin
  go_enter Try.func48, Try.ntmps48
  go_wp2_with fail
  refine HBG.out.mono ?_
  rintro e w1 ⟨hb1, (⟨hne, rfl⟩ | ⟨he, A', c', l', rfl, hl', ho⟩)⟩
  · have HF := Lib.hid (show F = (false, lkBeg vs n) by rw [HFF.out, if_pos hne])
    have b1 : (lkBeg vs n != 0) = true := by simpa using hne
    clear HFF HBG hne
    generalize lkBeg vs n = E at *
    go_wp2_with fail
    go_ret2
    rw [HF.out]
    exact ⟨rfl, hb1⟩
  · obtain ⟨hok, _, i, hi, hil⟩ := lkBeg_ok he
    have hl100 := hok.len
    rw [he, if_neg (by simp), hi, Int.toNat_natCast] at HFF
    rw [hi]
    have hil' : i < l'.length := by rw [ho.len]; exact hil
    have hill : i < l.length := by rw [← hl']; exact hil'
    have hi1 : (i : Int) < (l.length : Int) := by omega
    obtain ⟨g, o, rfl, hg, c0, c1, c2, i1, i2⟩ := (ho.lkRow (by rw [ho.len]; unfold reachBytes; omega)).at hil'
    have hln := (hok.rows _ (getD_mem lk0 hil)).2.2
    have hel := i2.row
    have HEL := Lib.hid hel
    have hcp := i2.2.2.1
    dsimp only at hcp
    clear ho he hi HBG hok i1 i2 hel HLV c0 c1
    generalize vs.getD i lk0 = v at *
    generalize l'.getD i lkc0 = x at *
    obtain ⟨v0, ws, ls⟩ := v
    obtain ⟨x0, ⟨WA, wl, wc⟩, ⟨LA, ll, lc⟩⟩ := x
    dsimp only at HFF c2 hln HEL hcp
    have HCN := Lib.hid (contains_any LA lc _ ls t w1 HEL.out (by omega))
    generalize ls.contains t = q at *
    go_wp2_with fail
    refine HCN.out.mono ?_
    rintro e w' ⟨rfl, rfl⟩
    go_wp2_with fail
    go_ret2
    rw [HFF.out]
    exact ⟨rfl, hb1⟩
end Go.Proofs.Ytgjimjpbogadjaa
