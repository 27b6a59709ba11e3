
/-
  Links: Gone.
-/
import Derived.Test.YtgjimjpbogadjaaLk6
namespace Go.Proofs.Ytgjimjpbogadjaa
open Go.RowKit

def letOf (x : LC) : Let := ⟨x.kind, x.frm, x.to, x.num, x.text, val0⟩
/-- A letter without a value, its numbers in range. -/
def plainL (x : LC) : Prop := x.v = vc0 ∧ x.text.size ≤ maxLen ∧ I64 x.kind ∧ I64 x.frm ∧ I64 x.to ∧ I64 x.num
theorem i64_small {m : Int} (h : 0 ≤ m ∧ m ≤ 100) : I64 m := by unfold I64; omega
theorem vc0_in1 (w : World) (S : Nat → Prop) : VIn w S 1 vc0 val0 :=
  ⟨⟨rfl, rfl, rfl, rfl, Nat.zero_le _, by unfold I64 vc0; decide, by unfold I64 vc0; decide⟩, ⟨Nat.le_refl _, Nat.zero_le _, fun _ => rfl, by unfold reachBytes vc0; decide⟩, [], rfl, RowS.nil, fun i hi => absurd hi (by simp)⟩
theorem plainL.lin {x : LC} (h : plainL x) (w : World) (S : Nat → Prop) : LIn w S 1 x (letOf x) := ⟨⟨rfl, rfl, rfl, rfl, rfl, h.2⟩, by rw [h.1]; exact vc0_in1 w S⟩
def letRow (w : World) (B : Option Addr) (d : Nat) (L : List LC) : Prop := letterRow w (· < w.heap.size) 1 B d L (L.map letOf)
theorem letRow.nil {w : World} : letRow w none 0 [] := ⟨rfl, RowS.nil, (fun i hi => absurd hi (by simp)), Nat.le_refl _, Nat.zero_le _, (fun _ => rfl), Nat.zero_le _⟩
theorem letRow.of_own {w : World} {base : Nat} {B : Option Addr} {d : Nat} {L : List LC} (ho : OwnAt w base 98 9 B L.length d (flat letterC L)) (hp : ∀ x ∈ L, plainL x) (hm : L.length * 104 ≤ reachBytes) : letRow w B d L := by
  refine ⟨by simp, ?_, fun i hi => ?_, ?_, ?_, ?_, hm⟩
  · intro hq
    obtain ⟨b, o, e, _, hc⟩ := ho.row hq
    subst e
    exact ⟨b, o, rfl, ho.lt.2, hc⟩
  · have e : (L.map letOf).getD i let0 = letOf (L.getD i lc0) := by simp [List.getD_eq_getElem?_getD, List.getElem?_eq_getElem hi]
    rw [e]
    exact (hp _ (getD_mem lc0 hi)).lin w _
  · rcases ho.2 with ⟨_, h0, h1⟩ | ⟨_, _, _, _, _, _, h3, _⟩
    · omega
    · exact h3
  · rcases ho.2 with ⟨_, _, h1⟩ | ⟨_, _, _, _, _, _, _, h4, _⟩
    · rw [h1]; exact Nat.zero_le _
    · exact h4
  · intro e
    rcases ho.form with ⟨_, _, h0⟩ | ⟨g, o, h0⟩
    · exact h0
    · rw [h0] at e; cases e
/-- One letter appended to letters of the call's own. -/
theorem wpList_app_letter {ops : Array Oper} {rest : List Oper} {o : Oper} {a : Act} {w : World} {Q : Exit → Act → World → Prop} (hgd : o.guard = none) (s x : Operand)
    (ho : o.op = .call { callee := .builtin .append, args := #[s, x], argTypes := #[104, 104] })
    (base : Nat) (A : Option Addr) (c m : Nat) (l : List LC) (hm : l.length = m) (hs : a.eval s = .slice A m c) (hown : OwnAt w base 98 9 A l.length c (flat letterC l)) (g : Nat) (y : LC) (hx : a.eval x = .slice (some ⟨g, 0, none⟩) 1 1) (hy : ∀ j u, (letterC y)[j]? = some u → w.cell? ⟨g, j, none⟩ = some u)
    (hb : (m + 1) * 104 ≤ 140737488355328) (hbase : base ≤ w.heap.size)
    (h : ∀ A' c' w', OwnAt w' base 98 9 A' (l ++ [y]).length c' (flat letterC (l ++ [y])) → Below base w w' → wpList Try.prog ops Q rest (a.put o.dst (.slice A' (m + 1) c')) w') : wpList Try.prog ops Q (o :: rest) a w := by
  subst hm
  obtain ⟨i0, z0, hi0, hz0, hz1, hz2, hz3⟩ := letter_parts
  refine wpList_append_q hgd s x _ ho base 98 i0 z0 9 104 Try.underlying104 hi0 hz0 hz1 hz2 hz3 (by decide) A l.length c (flat letterC l) hs hown ⟨g, 0, none⟩ 1 1 (letterC y) hx rfl ?_ (letter_one y) (by unfold maxLen; omega) hb hbase (by decide) ?_
  · intro j u hu
    rw [addr_add, Nat.zero_add]
    exact hy j u hu
  · intro g' o' c' w' h1 h2 h3
    refine h _ c' w' (by rw [List.length_append, flat_append, flat_one]; exact h1) ((Below.refl base w).grown h2 hbase fun k hk => ?_)
    rcases hown.form with ⟨rfl, _⟩ | ⟨g1, o1, rfl⟩
    · cases hk
    · simp at hk; subst hk; exact hown.lt.1

def downL (n : Int) (fl : Bool) (t : ByteArray) (q : Int) : LC := ⟨2, n, q, if fl then 1 else 0, if fl then t else ⟨#[]⟩, vc0⟩
def exitL (n : Int) (t : ByteArray) (q : Int) : LC := ⟨5, n, q, 0, t, vc0⟩
/-- The letters of one who is gone. -/
def goneL (r : Lk) (n : Int) (fl : Bool) (t : ByteArray) : List LC := r.ws.map (downL n fl t) ++ if fl then r.ls.map (exitL n t) else []
def goneF (vs : List Lk) (n : Int) (fl : Bool) (t : ByteArray) : Int × List Lk × List LC :=
  if lkBeg vs n ≠ 0 then (lkBeg vs n, [], []) else (0, vs.take (lkAt vs n).toNat ++ vs.drop ((lkAt vs n).toNat + 1), goneL (vs.getD (lkAt vs n).toNat lk0) n fl t)
def GoneRes (F : Int × List Lk × List LC) (w : World) (e : Ending) (w' : World) : Prop :=
  ∃ A' c' l' B d, e = .returned (.tuple #[.slice A' F.2.1.length c', .slice B F.2.2.length d, .int .i64 F.1]) ∧ l'.length = F.2.1.length ∧ lkRow w' (· < w'.heap.size) 0 A' c' l' F.2.1 ∧ letRow w' B d F.2.2 ∧ Below w.heap.size w w'
theorem GoneRes.err {E : Int} {w w' : World} {e : Ending} (h : e = .returned (.tuple #[.slice none 0 0, .slice none 0 0, .int .i64 E])) (hb : Below w.heap.size w w') : GoneRes (E, [], []) w e w' := ⟨none, 0, [], none, 0, h, rfl, lkRow.nil, letRow.nil, hb⟩

theorem flat_snoc {α : Type} (enc : α → List Value) (l : List α) (x : α) : flat enc (l ++ [x]) = flat enc l ++ enc x := by rw [flat_append, flat_one]
theorem map_take_snoc {α β : Type} (f : α → β) (d : α) (l : List α) {k : Nat} (hk : k < l.length) : (l.take (k + 1)).map f = (l.take k).map f ++ [f (l.getD k d)] := by
  rw [take_getD l d hk, List.map_append]
  rfl
/-- What Gone's first loop keeps: the letter in its box, the letters so far. -/
structure GoSt (w5 : World) (num n : Int) (txt : ByteArray) (L : List LC) (A : Option Addr) (c : Nat) (wr : World) : Prop where
  bel : Below w5.heap.size w5 wr
  box : ∃ last, Box wr w5.heap.size 98 #[.int .i64 2, .int .i64 n, .int .i64 last, .int .i64 num, .string txt, .int .i64 0, .int .i64 0, .string ⟨#[]⟩, .slice none 0 0]
  own : OwnAt wr (w5.heap.size + 1) 98 9 A L.length c (flat letterC L)


set_option maxRecDepth 100000 in
set_option maxHeartbeats 4000000 in
theorem gone_any (A : Option Addr) (c : Nat) (l : List LkC) (vs : List Lk) (n : Int) (fl : Bool) (txt : ByteArray) (w : World) (hin : lkRow w (· < w.heap.size) 0 A c l vs) (hn : I64 n) (ht : txt.size ≤ maxLen) :
    Calls Try.prog 49 #[.slice A l.length c, .int .i64 n, .bool fl, .string txt] w fun e w' => GoneRes (goneF vs n fl txt) w e w' := by
  have HBG := Lib.hid (lkbegin_any A c l vs n w hin)
  have HLV := Lib.hid hin.1
  have HFF : Hid (goneF vs n fl txt = if lkBeg vs n ≠ 0 then (lkBeg vs n, [], []) else (0, vs.take (lkAt vs n).toNat ++ vs.drop ((lkAt vs n).toNat + 1), goneL (vs.getD (lkAt vs n).toNat lk0) n fl txt)) := rfl
  generalize goneF vs n fl txt = F at *
  have HN := Lib.hid hn
  have HT := Lib.hid ht
  clear hin hn ht
  go_enter Try.func49, Try.ntmps49
  go_wp2_with fail
  refine HBG.out.mono ?_
  rintro e w1 ⟨hb1, (⟨hne, rfl⟩ | ⟨he, A', c', l', rfl, hl', ho⟩)⟩
  · have HF := Lib.hid (show F = (lkBeg vs n, [], []) by rw [HFF.out, if_pos hne])
    have b1 : (lkBeg vs n != 0) = true := by simpa using hne
    clear HFF HBG hne
    generalize lkBeg vs n = E at *
    go_wp2_with fail
    go_ret3
    rw [HF.out]
    exact GoneRes.err rfl hb1
  · obtain ⟨hok, _, i, hi, hil⟩ := lkBeg_ok he
    have hl100 := hok.len
    rw [he, if_neg (by simp), hi, Int.toNat_natCast] at HFF
    rw [hi]
    have hil' : i < l'.length := by rw [ho.len]; exact hil
    have hill : i < l.length := by rw [← hl']; exact hil'
    have hi1 : (i : Int) < (l.length : Int) := by omega
    obtain ⟨g, o, rfl, hg, c0, c1, c2, i1, i2⟩ := (ho.lkRow (by rw [ho.len]; unfold reachBytes; omega)).at hil'
    have hbase := ho.row.lt.1
    have HB1 := Lib.hid hb1
    have HO := Lib.hid ho
    have hln := (hok.rows _ (getD_mem lk0 hil)).2
    have HI1 := Lib.hid i1
    have HI2 := Lib.hid i2
    clear hb1 ho he hi HBG hok i1 i2
    obtain ⟨v, hvv⟩ : ∃ v, vs.getD i lk0 = v := ⟨_, rfl⟩
    obtain ⟨x, hxx⟩ : ∃ x, l'.getD i lkc0 = x := ⟨_, rfl⟩
    rw [hvv] at HFF c0 c1 c2 hln HI1 HI2
    rw [hxx] at c1 c2 HI1 HI2
    clear hvv hxx
    obtain ⟨v0, ws, ls⟩ := v
    obtain ⟨x0, ⟨WA, wl, wc⟩, ⟨LA, ll, lc⟩⟩ := x
    dsimp only at HFF c0 c1 c2 hln HI1 HI2
    have hws := hln.1
    have hls := hln.2
    clear hln
    go_upto_region 5 with fail
    have hal : Below w1.heap.size w1 (w1.alloc (.cells #[.int .i64 v0, .slice WA ws.length wc, .slice LA ls.length lc] 114)) := (Below.refl _ _).alloc (Nat.le_refl _) _
    have HO2 := Lib.hid (HO.out.below hal)
    have HR1 := Lib.hid (HI1.out.row.below hal)
    have HR2 := Lib.hid (HI2.out.row.below hal)
    have HB2 := Lib.hid (HB1.out.trans (hal.mono HB1.out.size))
    have hbx := Box.new w1 114 #[.int .i64 v0, .slice WA ws.length wc, .slice LA ls.length lc]
    have hgs := hbx.lt
    have HG1 := Lib.hid (show w1.heap.size ≤ (w1.alloc (.cells #[.int .i64 v0, .slice WA ws.length wc, .slice LA ls.length lc] 114)).heap.size from hal.size)
    have hrngw := HI1.out.2.2.2.2.2.1
    have HRW := Lib.hid hrngw
    have hrngl := HI2.out.2.2.2.2.2.1
    have HRL := Lib.hid hrngl
    clear hal hrngw hrngl
    obtain ⟨g1, hg1⟩ : ∃ g1, w1.heap.size = g1 := ⟨_, rfl⟩
    rw [hg1] at hbx hgs ⊢
    have HGG := Lib.hid hg1
    clear c0 c1 c2 hg1 HI1 HI2
    generalize w1.alloc (.cells #[.int .i64 v0, .slice WA ws.length wc, .slice LA ls.length lc] 114) = w2 at *
    have r1 := hbx.cell 1
    have r2 := hbx.cell 2
    simp only [List.getElem?_toArray, List.getElem?_cons_zero, List.getElem?_cons_succ] at r1 r2
    have HBX := Lib.hid hbx
    clear hbx
    have hfu : ∀ b : Bool, b = true ∨ b = false := fun b => by cases b; exact .inr rfl; exact .inl rfl
    cases fl
    case false =>
      have HF := Lib.hid HFF.out
      clear HFF
      go_upto_region 10 with fail
      go_wp2_with fail
      have HSS := Lib.hid (show GoSt w2 0 n ⟨#[]⟩ ((ws.take 0).map (downL n false txt)) none 0 (w2.alloc (.cells #[.int .i64 2, .int .i64 n, .int .i64 0, .int .i64 0, .string ⟨#[]⟩, .int .i64 0, .int .i64 0, .string ⟨#[]⟩, .slice none 0 0] 98)) from ⟨(Below.refl _ _).alloc (Nat.le_refl _) _, ⟨0, Box.new _ _ _⟩, OwnAt.nil⟩)
      go_loopg [16, 44] ws.length (fun gk v16 v44 wr => ∃ (k : Nat) (A1 : Option Addr) (d1 : Nat), gk = ws.length - k ∧ k ≤ ws.length ∧ v16 = .slice A1 k d1 ∧ v44 = .int .i64 k ∧ GoSt w2 0 n ⟨#[]⟩ ((ws.take k).map (downL n false txt)) A1 d1 wr)
      case atStart => exact ⟨0, none, 0, by omega, by omega, rfl, rfl, HSS.out⟩
      case round =>
        obtain ⟨k, A1, d1, hgk, hk, rfl, rfl, st⟩ := hrel
        have HK := Lib.hid hgk
        have HST := Lib.hid st
        clear hgk st HSS
        by_cases hlt : k < ws.length
        · obtain ⟨wb, wo, rfl, _, hcw⟩ := (HR1.out.below (HST.out.bel.mono HG1.out)).int hlt
          have HMT := Lib.hid (map_take_snoc (downL n false txt) 0 ws hlt)
          have HLEN := Lib.hid (show ((ws.take k).map (downL n false txt)).length = k by rw [List.length_map, List.length_take]; omega)
          generalize ws.getD k 0 = u at *
          obtain ⟨last, hbl⟩ := HST.out.box
          obtain ⟨⟨y0, y1, y2, y3, y4, y5, y6, y7, y8⟩, ⟨z0, z1, z2, z3, z4, z5, z6, z7, z8⟩⟩ := own_cells9 hbl
          clear z0 z1 z3 z4 z5 z6 z7 z8
          have hls : w2.heap.size < wr.heap.size := hbl.lt
          have HON := Lib.hid ((HST.out.own.only ((Only.refl (fun b => b = w2.heap.size) wr).set (p := ⟨w2.heap.size, 2, none⟩) rfl (.int .i64 u)) (fun b hb e => by have := (blkS_lt HST.out.own hb).1; omega)).below ((Below.refl _ _).alloc (Nat.le_refl _) (.cells #[.int .i64 2, .int .i64 n, .int .i64 u, .int .i64 0, .string ⟨#[]⟩, .int .i64 0, .int .i64 0, .string ⟨#[]⟩, .slice none 0 0] 98)))
          have HCE := Lib.hid (show ∀ j u', (letterC ((downL n false txt) u))[j]? = some u' → ((wr.setCell ⟨w2.heap.size, 2, none⟩ (.int .i64 u)).alloc (.cells #[.int .i64 2, .int .i64 n, .int .i64 u, .int .i64 0, .string ⟨#[]⟩, .int .i64 0, .int .i64 0, .string ⟨#[]⟩, .slice none 0 0] 98)).cell? ⟨wr.heap.size, j, none⟩ = some u' from fun j u' h => by
            have h2 := letter_new (wr.setCell ⟨w2.heap.size, 2, none⟩ (.int .i64 u)) ((downL n false txt) u) j u' h
            have e : (wr.setCell ⟨w2.heap.size, 2, none⟩ (.int .i64 u)).heap.size = wr.heap.size := by simp
            rw [e] at h2
            exact h2)
          have H104 := Lib.hid (show (k + 1) * 104 ≤ 140737488355328 by omega)
          have HBZ := Lib.hid (show w2.heap.size + 1 ≤ ((wr.setCell ⟨w2.heap.size, 2, none⟩ (.int .i64 u)).alloc (.cells #[.int .i64 2, .int .i64 n, .int .i64 u, .int .i64 0, .string ⟨#[]⟩, .int .i64 0, .int .i64 0, .string ⟨#[]⟩, .slice none 0 0] 98)).heap.size by simp; omega)
          have HBX2 := Lib.hid ((hbl.set 2 (.int .i64 u)).alloc (.cells #[.int .i64 2, .int .i64 n, .int .i64 u, .int .i64 0, .string ⟨#[]⟩, .int .i64 0, .int .i64 0, .string ⟨#[]⟩, .slice none 0 0] 98))
          have HBL2 := Lib.hid ((HST.out.bel.setCell (p := ⟨w2.heap.size, 2, none⟩) (Nat.le_refl _) (.int .i64 u)).alloc (by simp; omega) (.cells #[.int .i64 2, .int .i64 n, .int .i64 u, .int .i64 0, .string ⟨#[]⟩, .int .i64 0, .int .i64 0, .string ⟨#[]⟩, .slice none 0 0] 98))
          clear hbl
          go_wp2_with (at_builtin; refine wpList_app_letter rfl (.tmp 50) (.tmp 52) rfl (w2.heap.size + 1) A1 d1 k ((ws.take k).map (downL n false txt)) HLEN.out rfl HON.out wr.heap.size ((downL n false txt) u) rfl HCE.out H104.out HBZ.out ?_; intro A2 d2 w6 hown6 hb6)
          have HO6 := Lib.hid hown6
          have HB6 := Lib.hid hb6
          clear hown6 hb6
          go_roundg (ws.length - (k + 1))
          case measure => have := HK.out; omega
          case rel =>
            refine ⟨k + 1, A2, d2, rfl, by omega, rfl, by go_num, ⟨HBL2.out.trans (HB6.out.mono (by omega)), ⟨u, HBX2.out.below HB6.out (by omega)⟩, by rw [HMT.out]; exact HO6.out⟩⟩
        · obtain rfl : k = ws.length := by omega
          have hst := HST.out
          rw [List.take_of_length_le (Nat.le_refl _)] at hst
          have HBE := Lib.hid hst.bel
          have HLO := Lib.hid hst.own
          have HLE := Lib.hid (show (ws.map (downL n false txt)).length = ws.length by rw [List.length_map])
          have HF : Hid (F = (0, vs.take i ++ vs.drop (i + 1), ws.map (downL n false txt))) := HF.out.trans (by unfold goneL; rw [if_neg (by decide), List.append_nil])
          clear hst HST
          have HO3 := Lib.hid (HO2.out.below HBE.out)
          have hde := delete_lk w.heap.size g o c' i l' wr HO3.out.row hil'
          rw [hl', show ((i + 1 : Nat) : Int) = (i : Int) + 1 by omega] at hde
          have HDE := Lib.hid hde
          clear hde
          go_wp2_with fail
          refine HDE.out.mono ?_
          rintro e w7 ⟨he, hown7, hon7⟩
          have hzl : (l'.take i ++ l'.drop (i + 1)).length = l.length - 1 := by
            simp only [List.length_append, List.length_take, List.length_drop]
            omega
          rw [hzl] at he
          have HZL := Lib.hid hzl
          subst he
          clear hzl
          have HON := Lib.hid (show Only (fun b => blkS (some ⟨g, o, none⟩) b) wr w7 from ⟨hon7.os, hon7.tape, hon7.output, hon7.size, fun b hb hn => hon7.block b hb (fun e => hn (by rw [e]; rfl))⟩)
          have HOW := Lib.hid hown7
          clear hown7 hon7 HDE
          go_wp2_with fail
          go_ret3
          rw [HF.out]
          have hz : (l'.take i ++ l'.drop (i + 1)).length = (vs.take i ++ vs.drop (i + 1)).length := by
            have := HO3.out.len
            simp only [List.length_append, List.length_take, List.length_drop]
            omega
          have hgw : g < w2.heap.size := Nat.lt_of_lt_of_le hg HG1.out
          refine ⟨some ⟨g, o, none⟩, c', l'.take i ++ l'.drop (i + 1), A1, d1, ?_, hz, lkRow.of_own hz HOW.out (fun j hj => ?_) ?_, letRow.of_own (L := ws.map (downL n false txt)) (HLO.out.only HON.out (fun b hb hb2 => ?_)) ?_ ?_, ?_⟩
          · rw [← hz, HZL.out]
            show _ = Ending.returned (.tuple #[_, .slice A1 (List.length (ws.map (downL n false txt))) d1, _])
            rw [HLE.out]
            rfl
          · have hvk : i < vs.length := hil
            rw [getD_del lkc0 l' i j hil', getD_del lk0 vs i j hvk]
            rw [List.length_append, List.length_take, List.length_drop] at hj
            by_cases h1 : j < i
            · rw [if_pos h1, if_pos h1]
              exact HO3.out.keepE HON.out j (by omega)
            · rw [if_neg h1, if_neg h1]
              exact HO3.out.keepE HON.out (j + 1) (by omega)
          · rw [HZL.out]
            have := HLV.out
            unfold reachBytes
            omega
          · have h1 := (blkS_lt HLO.out hb).1
            simp [blkS] at hb2
            omega
          · intro y hy
            rw [List.mem_map] at hy
            obtain ⟨u, hu, rfl⟩ := hy
            exact ⟨rfl, Nat.zero_le _, i64_small (m := 2) (by decide), HN.out, HRW.out u hu, i64_small (m := 0) (by decide)⟩
          · rw [HLE.out]
            unfold reachBytes
            omega
          · exact (HB2.out.trans (HBE.out.mono HB2.out.size)).trans (HON.out.to_below (Below.refl _ _) (Nat.le_trans HB2.out.size HBE.out.size) (fun b hb => (blkS_lt HO3.out.row hb).1))
    case true =>
      have HF := Lib.hid HFF.out
      clear HFF
      go_upto_region 10 with fail
      go_wp2_with fail
      have HSS := Lib.hid (show GoSt w2 1 n txt ((ws.take 0).map (downL n true txt)) none 0 (w2.alloc (.cells #[.int .i64 2, .int .i64 n, .int .i64 0, .int .i64 1, .string txt, .int .i64 0, .int .i64 0, .string ⟨#[]⟩, .slice none 0 0] 98)) from ⟨(Below.refl _ _).alloc (Nat.le_refl _) _, ⟨0, Box.new _ _ _⟩, OwnAt.nil⟩)
      go_loopg [16, 44] ws.length (fun gk v16 v44 wr => ∃ (k : Nat) (A1 : Option Addr) (d1 : Nat), gk = ws.length - k ∧ k ≤ ws.length ∧ v16 = .slice A1 k d1 ∧ v44 = .int .i64 k ∧ GoSt w2 1 n txt ((ws.take k).map (downL n true txt)) A1 d1 wr)
      case atStart => exact ⟨0, none, 0, by omega, by omega, rfl, rfl, HSS.out⟩
      case round =>
        obtain ⟨k, A1, d1, hgk, hk, rfl, rfl, st⟩ := hrel
        have HK := Lib.hid hgk
        have HST := Lib.hid st
        clear hgk st HSS
        by_cases hlt : k < ws.length
        · obtain ⟨wb, wo, rfl, _, hcw⟩ := (HR1.out.below (HST.out.bel.mono HG1.out)).int hlt
          have HMT := Lib.hid (map_take_snoc (downL n true txt) 0 ws hlt)
          have HLEN := Lib.hid (show ((ws.take k).map (downL n true txt)).length = k by rw [List.length_map, List.length_take]; omega)
          generalize ws.getD k 0 = u at *
          obtain ⟨last, hbl⟩ := HST.out.box
          obtain ⟨⟨y0, y1, y2, y3, y4, y5, y6, y7, y8⟩, ⟨z0, z1, z2, z3, z4, z5, z6, z7, z8⟩⟩ := own_cells9 hbl
          clear z0 z1 z3 z4 z5 z6 z7 z8
          have hls : w2.heap.size < wr.heap.size := hbl.lt
          have HON := Lib.hid ((HST.out.own.only ((Only.refl (fun b => b = w2.heap.size) wr).set (p := ⟨w2.heap.size, 2, none⟩) rfl (.int .i64 u)) (fun b hb e => by have := (blkS_lt HST.out.own hb).1; omega)).below ((Below.refl _ _).alloc (Nat.le_refl _) (.cells #[.int .i64 2, .int .i64 n, .int .i64 u, .int .i64 1, .string txt, .int .i64 0, .int .i64 0, .string ⟨#[]⟩, .slice none 0 0] 98)))
          have HCE := Lib.hid (show ∀ j u', (letterC ((downL n true txt) u))[j]? = some u' → ((wr.setCell ⟨w2.heap.size, 2, none⟩ (.int .i64 u)).alloc (.cells #[.int .i64 2, .int .i64 n, .int .i64 u, .int .i64 1, .string txt, .int .i64 0, .int .i64 0, .string ⟨#[]⟩, .slice none 0 0] 98)).cell? ⟨wr.heap.size, j, none⟩ = some u' from fun j u' h => by
            have h2 := letter_new (wr.setCell ⟨w2.heap.size, 2, none⟩ (.int .i64 u)) ((downL n true txt) u) j u' h
            have e : (wr.setCell ⟨w2.heap.size, 2, none⟩ (.int .i64 u)).heap.size = wr.heap.size := by simp
            rw [e] at h2
            exact h2)
          have H104 := Lib.hid (show (k + 1) * 104 ≤ 140737488355328 by omega)
          have HBZ := Lib.hid (show w2.heap.size + 1 ≤ ((wr.setCell ⟨w2.heap.size, 2, none⟩ (.int .i64 u)).alloc (.cells #[.int .i64 2, .int .i64 n, .int .i64 u, .int .i64 1, .string txt, .int .i64 0, .int .i64 0, .string ⟨#[]⟩, .slice none 0 0] 98)).heap.size by simp; omega)
          have HBX2 := Lib.hid ((hbl.set 2 (.int .i64 u)).alloc (.cells #[.int .i64 2, .int .i64 n, .int .i64 u, .int .i64 1, .string txt, .int .i64 0, .int .i64 0, .string ⟨#[]⟩, .slice none 0 0] 98))
          have HBL2 := Lib.hid ((HST.out.bel.setCell (p := ⟨w2.heap.size, 2, none⟩) (Nat.le_refl _) (.int .i64 u)).alloc (by simp; omega) (.cells #[.int .i64 2, .int .i64 n, .int .i64 u, .int .i64 1, .string txt, .int .i64 0, .int .i64 0, .string ⟨#[]⟩, .slice none 0 0] 98))
          clear hbl
          go_wp2_with (at_builtin; refine wpList_app_letter rfl (.tmp 50) (.tmp 52) rfl (w2.heap.size + 1) A1 d1 k ((ws.take k).map (downL n true txt)) HLEN.out rfl HON.out wr.heap.size ((downL n true txt) u) rfl HCE.out H104.out HBZ.out ?_; intro A2 d2 w6 hown6 hb6)
          have HO6 := Lib.hid hown6
          have HB6 := Lib.hid hb6
          clear hown6 hb6
          go_roundg (ws.length - (k + 1))
          case measure => have := HK.out; omega
          case rel =>
            refine ⟨k + 1, A2, d2, rfl, by omega, rfl, by go_num, ⟨HBL2.out.trans (HB6.out.mono (by omega)), ⟨u, HBX2.out.below HB6.out (by omega)⟩, by rw [HMT.out]; exact HO6.out⟩⟩
        · obtain rfl : k = ws.length := by omega
          have hst := HST.out
          rw [List.take_of_length_le (Nat.le_refl _)] at hst
          have HBE := Lib.hid hst.bel
          have HLO0 := Lib.hid hst.own
          have hr2 := (HBE.out.cell (p := ⟨g1, 2, none⟩) hgs).trans r2
          clear hst HST
          obtain ⟨wo, hwo⟩ : ∃ wo, wo = wr := ⟨_, rfl⟩
          subst hwo
          go_wp2_with fail
          have HLO1 := Lib.hid (show OwnAt wo (w2.heap.size + 1) 98 9 A1 (ws.map (downL n true txt) ++ (ls.take 0).map (exitL n txt)).length d1 (flat letterC (ws.map (downL n true txt) ++ (ls.take 0).map (exitL n txt))) by rw [List.take_zero, List.map_nil, List.append_nil]; exact HLO0.out)
          have HBE0 := Lib.hid HBE.out
          clear HBE HLO0
          go_loopg [16, 59] ls.length (fun gk v16 v44 wr => ∃ (k : Nat) (A1 : Option Addr) (d1 : Nat), gk = ls.length - k ∧ k ≤ ls.length ∧ v16 = .slice A1 (ws.length + k) d1 ∧ v44 = .int .i64 k ∧ OwnAt wr (w2.heap.size + 1) 98 9 A1 (ws.map (downL n true txt) ++ (ls.take k).map (exitL n txt)).length d1 (flat letterC (ws.map (downL n true txt) ++ (ls.take k).map (exitL n txt))) ∧ Below w2.heap.size w2 wr)
          case atStart => exact ⟨0, A1, d1, by omega, by omega, rfl, rfl, HLO1.out, HBE0.out⟩
          case round =>
            clear HLO1 HBE0 HK
            obtain ⟨k, A1, d1, hgk, hk, rfl, rfl, hown, hbe⟩ := hrel
            have HK := Lib.hid hgk
            have HLO := Lib.hid hown
            have HBE := Lib.hid hbe
            clear hgk hown hbe
            by_cases hlt : k < ls.length
            · obtain ⟨wb, wq, rfl, _, hcw⟩ := (HR2.out.below (HBE.out.mono HG1.out)).int hlt
              have HMT := Lib.hid (map_take_snoc (exitL n txt) 0 ls hlt)
              have HLEN := Lib.hid (show (ws.map (downL n true txt) ++ (ls.take k).map (exitL n txt)).length = ws.length + k by rw [List.length_append, List.length_map, List.length_map, List.length_take]; omega)
              generalize ls.getD k 0 = u at *
              have hwz := HBE.out.size
              have HON := Lib.hid (HLO.out.below ((Below.refl _ _).alloc (Nat.le_refl _) (.cells #[.int .i64 5, .int .i64 n, .int .i64 u, .int .i64 0, .string txt, .int .i64 0, .int .i64 0, .string ⟨#[]⟩, .slice none 0 0] 98)))
              have HCE := Lib.hid (letter_new wr ((exitL n txt) u))
              have H104 := Lib.hid (show (ws.length + k + 1) * 104 ≤ 140737488355328 by omega)
              have HBZ := Lib.hid (show w2.heap.size + 1 ≤ (wr.alloc (.cells #[.int .i64 5, .int .i64 n, .int .i64 u, .int .i64 0, .string txt, .int .i64 0, .int .i64 0, .string ⟨#[]⟩, .slice none 0 0] 98)).heap.size by simp; omega)
              have HBL2 := Lib.hid (HBE.out.alloc HBE.out.size (.cells #[.int .i64 5, .int .i64 n, .int .i64 u, .int .i64 0, .string txt, .int .i64 0, .int .i64 0, .string ⟨#[]⟩, .slice none 0 0] 98))
              have HWL := Lib.hid (show w2.heap.size + 1 ≤ wr.heap.size + 1 by omega)
              go_wp2_with (at_builtin; refine wpList_app_letter rfl (.tmp 63) (.tmp 68) rfl (w2.heap.size + 1) A1 d1 (ws.length + k) (ws.map (downL n true txt) ++ (ls.take k).map (exitL n txt)) HLEN.out rfl HON.out wr.heap.size ((exitL n txt) u) rfl HCE.out H104.out HBZ.out ?_; intro A2 d2 w6 hown6 hb6)
              have HO6 := Lib.hid hown6
              have HB6 := Lib.hid hb6
              clear hown6 hb6
              go_roundg (ls.length - (k + 1))
              case measure => have := HK.out; omega
              case rel =>
                refine ⟨k + 1, A2, d2, rfl, by omega, rfl, by go_num, by rw [HMT.out, ← List.append_assoc]; exact HO6.out, HBL2.out.trans (HB6.out.mono (by omega))⟩
            · obtain rfl : k = ls.length := by omega
              have hlo := HLO.out
              rw [List.take_of_length_le (Nat.le_refl _)] at hlo
              have HLE := Lib.hid (show (ws.map (downL n true txt) ++ ls.map (exitL n txt)).length = ws.length + ls.length by rw [List.length_append, List.length_map, List.length_map])
              have HLO := Lib.hid hlo
              have HF : Hid (F = (0, vs.take i ++ vs.drop (i + 1), ws.map (downL n true txt) ++ ls.map (exitL n txt))) := HF.out.trans (by unfold goneL; rw [if_pos rfl])
              clear hlo
              have HO3 := Lib.hid (HO2.out.below HBE.out)
              have hde := delete_lk w.heap.size g o c' i l' wr HO3.out.row hil'
              rw [hl', show ((i + 1 : Nat) : Int) = (i : Int) + 1 by omega] at hde
              have HDE := Lib.hid hde
              clear hde
              go_wp2_with fail
              refine HDE.out.mono ?_
              rintro e w7 ⟨he, hown7, hon7⟩
              have hzl : (l'.take i ++ l'.drop (i + 1)).length = l.length - 1 := by
                simp only [List.length_append, List.length_take, List.length_drop]
                omega
              rw [hzl] at he
              have HZL := Lib.hid hzl
              subst he
              clear hzl
              have HON := Lib.hid (show Only (fun b => blkS (some ⟨g, o, none⟩) b) wr w7 from ⟨hon7.os, hon7.tape, hon7.output, hon7.size, fun b hb hn => hon7.block b hb (fun e => hn (by rw [e]; rfl))⟩)
              have HOW := Lib.hid hown7
              clear hown7 hon7 HDE
              go_wp2_with fail
              go_ret3
              rw [HF.out]
              have hz : (l'.take i ++ l'.drop (i + 1)).length = (vs.take i ++ vs.drop (i + 1)).length := by
                have := HO3.out.len
                simp only [List.length_append, List.length_take, List.length_drop]
                omega
              have hgw : g < w2.heap.size := Nat.lt_of_lt_of_le hg HG1.out
              refine ⟨some ⟨g, o, none⟩, c', l'.take i ++ l'.drop (i + 1), A1, d1, ?_, hz, lkRow.of_own hz HOW.out (fun j hj => ?_) ?_, letRow.of_own (L := ws.map (downL n true txt) ++ ls.map (exitL n txt)) (HLO.out.only HON.out (fun b hb hb2 => ?_)) ?_ ?_, ?_⟩
              · rw [← hz, HZL.out]
                show _ = Ending.returned (.tuple #[_, .slice A1 (List.length (ws.map (downL n true txt) ++ ls.map (exitL n txt))) d1, _])
                rw [HLE.out]
                rfl
              · have hvk : i < vs.length := hil
                rw [getD_del lkc0 l' i j hil', getD_del lk0 vs i j hvk]
                rw [List.length_append, List.length_take, List.length_drop] at hj
                by_cases h1 : j < i
                · rw [if_pos h1, if_pos h1]
                  exact HO3.out.keepE HON.out j (by omega)
                · rw [if_neg h1, if_neg h1]
                  exact HO3.out.keepE HON.out (j + 1) (by omega)
              · rw [HZL.out]
                have := HLV.out
                unfold reachBytes
                omega
              · have h1 := (blkS_lt HLO.out hb).1
                simp [blkS] at hb2
                omega
              · intro y hy
                rcases List.mem_append.1 hy with hy | hy
                · rw [List.mem_map] at hy
                  obtain ⟨u, hu, rfl⟩ := hy
                  exact ⟨rfl, HT.out, i64_small (m := 2) (by decide), HN.out, HRW.out u hu, i64_small (m := 1) (by decide)⟩
                · rw [List.mem_map] at hy
                  obtain ⟨u, hu, rfl⟩ := hy
                  exact ⟨rfl, HT.out, i64_small (m := 5) (by decide), HN.out, HRL.out u hu, i64_small (m := 0) (by decide)⟩
              · rw [HLE.out]
                unfold reachBytes
                omega
              · exact (HB2.out.trans (HBE.out.mono HB2.out.size)).trans (HON.out.to_below (Below.refl _ _) (Nat.le_trans HB2.out.size HBE.out.size) (fun b hb => (blkS_lt HO3.out.row hb).1))
end Go.Proofs.Ytgjimjpbogadjaa
