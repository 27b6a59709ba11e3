/-
  Living children stopped (ward.Ward.stop).
-/
import Derived.Test.YtcmkkfpcdebfkaaWd4
import Derived.Test.YtcmkkfpcdebfkaaOwnOnly
namespace Go.Proofs.Ytcmkkfpcdebfkaa
open Go.RowKit

/-- The children from on, n of them, stopped from the last to the first; the ids of those that lived. -/
def stopL (from_ : Nat) : Nat → List Ch → List Ch × List Int
  | 0, l => (l, [])
  | n + 1, l =>
    if (l.getD (from_ + n) (0, 0, false)).2.2 = true then
      ((stopL from_ n (l.set (from_ + n) ((l.getD (from_ + n) (0, 0, false)).1, (l.getD (from_ + n) (0, 0, false)).2.1, false))).1,
        (l.getD (from_ + n) (0, 0, false)).1 :: (stopL from_ n (l.set (from_ + n) ((l.getD (from_ + n) (0, 0, false)).1, (l.getD (from_ + n) (0, 0, false)).2.1, false))).2)
    else stopL from_ n l
theorem stopL_live {from_ n : Nat} {l : List Ch} {x : Ch} (hx : l.getD (from_ + n) (0, 0, false) = x) (h : x.2.2 = true) :
    stopL from_ (n + 1) l = ((stopL from_ n (l.set (from_ + n) (x.1, x.2.1, false))).1, x.1 :: (stopL from_ n (l.set (from_ + n) (x.1, x.2.1, false))).2) := by
  subst hx
  rw [stopL, if_pos h]
theorem stopL_dead {from_ n : Nat} {l : List Ch} {x : Ch} (hx : l.getD (from_ + n) (0, 0, false) = x) (h : x.2.2 = false) : stopL from_ (n + 1) l = stopL from_ n l := by
  subst hx
  rw [stopL, if_neg (by rw [h]; decide)]

/-- What stop leaves: the children as they are then, the ids in a row of the call's own. -/
def StopPost (base : Nat) (A : Option Addr) (c : Nat) (q : List Ch × List Int) (w : World) (e : Ending) (w' : World) : Prop :=
  ∃ C k, e = .returned (.slice C q.2.length k) ∧ OwnAt w' base 230 3 A q.1.length c (flat wcC q.1) ∧ OwnAt w' w.heap.size 3 1 C q.2.length k (ints q.2) ∧ Only (fun b => A.map (·.block) = some b) w w'
theorem ownW_ne {w : World} {base : Nat} {e t : TypeId} {size n cap g : Nat} {A : Option Addr} {xs : List Value} {cs : Array Value} (h : OwnAt w base e size A n cap xs) (hb : Box w g t cs) (hne : e ≠ t) : A.map (·.block) ≠ some g := by
  rcases h.2 with ⟨rfl, _⟩ | ⟨g2, o2, cur, rfl, _, hh, _⟩
  · simp
  · intro e1
    simp at e1
    subst e1
    unfold Box at hb
    rw [hh] at hb; injection hb with hb; injection hb with _ ht; exact hne ht
theorem own_put {w : World} {base g o c i : Nat} {l : List Ch} (h : OwnAt w base 230 3 (some ⟨g, o, none⟩) l.length c (flat wcC l)) (hi : i < l.length) (b : Bool) :
    OwnAt (w.setCell ⟨g, o + i * 3 + 2, none⟩ (.bool b)) base 230 3 (some ⟨g, o, none⟩) (l.set i ((l.getD i (0, 0, false)).1, (l.getD i (0, 0, false)).2.1, b)).length c (flat wcC (l.set i ((l.getD i (0, 0, false)).1, (l.getD i (0, 0, false)).2.1, b))) := by
  have h2 := h.set (j := i * 3 + 2) (.bool b)
  rw [flat_set (j := 2) wcC_len l (.bool b) (getD_some (0, 0, false) hi) (by decide) ((l.getD i (0, 0, false)).1, (l.getD i (0, 0, false)).2.1, b) rfl] at h2
  rw [List.length_set, Nat.add_assoc]
  exact h2
theorem Only.fresh {S T : Nat → Prop} {a w w' : World} (h : Only S a w) (ho : Only T w w') (hT : ∀ i, T i → a.heap.size ≤ i) : Only S a w' :=
  ⟨ho.os.trans h.os, ho.tape.trans h.tape, ho.output.trans h.output, Nat.le_trans h.size ho.size, fun i hi hne => (ho.block i (Nat.lt_of_lt_of_le hi h.size) (fun ht => by have := hT i ht; omega)).trans (h.block i hi hne)⟩
/-- One number appended to a slice of the call's own. -/
theorem wpList_push_w {ops : Array Oper} {rest : List Oper} {o : Oper} {a : Act} {w : World} {Q : Exit → Act → World → Prop} (hgd : o.guard = none) (s x : Operand)
    (ho : o.op = .call { callee := .builtin .append, args := #[s, x], argTypes := #[33, 33] })
    (base : Nat) (A : Option Addr) (c : Nat) (zs : List Int) (hs : a.eval s = .slice A zs.length c) (hown : OwnAt w base 3 1 A zs.length c (ints zs)) (g : Nat) (y : Int) (hx : a.eval x = .slice (some ⟨g, 0, none⟩) 1 1) (hy : w.cell? ⟨g, 0, none⟩ = some (.int .i64 y))
    (hb : (zs.length + 1) * 8 ≤ 140737488355328) (hbase : base ≤ w.heap.size)
    (h : ∀ A' c' w', OwnAt w' base 3 1 A' (zs.length + 1) c' (ints (zs ++ [y])) → Only (fun b => A.map (·.block) = some b) w w' → wpList Try.prog ops Q rest (a.put o.dst (.slice A' (zs.length + 1) c')) w') : wpList Try.prog ops Q (o :: rest) a w := by
  obtain ⟨i0, hi0, hz0, hz1, hz2⟩ := info_parts int_info
  refine wpList_append_q hgd s x _ ho base 3 i0 (.int .i64 0) 1 8 Try.underlying33 hi0 hz0 hz1 hz2 rfl (by decide) A zs.length c (ints zs) hs hown ⟨g, 0, none⟩ 1 1 (ints [y]) hx rfl ?_ ?_ (by unfold maxLen; omega) hb hbase (by decide) ?_
  · intro j u hu
    rw [addr_add, Nat.zero_add]
    match j, hu with
    | 0, hu => simp [ints] at hu; subst hu; exact hy
    | j + 1, hu => simp [ints] at hu
  · intro u hu
    simp only [ints, List.mem_map] at hu
    obtain ⟨x, _, rfl⟩ := hu
    rfl
  · intro g' o' c' w' h1 h2 _
    exact h _ c' w' (by rw [show ints (zs ++ [y]) = ints zs ++ ints [y] by simp [ints]]; exact h1) ⟨h2.os, h2.tape, h2.output, h2.size, fun i hi hne => h2.block i hi (fun e => hne e.symm)⟩

set_option maxRecDepth 100000 in
set_option maxHeartbeats 4000000 in
theorem stopW (g base : Nat) (x : WA) (v : Wd) (f n : Nat) (W : World) (hbx : Box W g 215 #[.int .i64 v.how, .int .i64 v.most, .int .i64 v.win, .slice x.A v.ch.length x.c, .slice x.B v.tm.length x.d])
    (ho : OwnAt W base 230 3 x.A v.ch.length x.c (flat wcC v.ch)) (hfn : f + n ≤ v.ch.length) (h20 : v.ch.length ≤ 20) :
    Calls Try.prog 183 #[.pointer (some ⟨g, 0, none⟩), .int .i64 f, .int .i64 ((f + n : Nat) : Int)] W (StopPost base x.A x.c (stopL f n v.ch) W) := by
  obtain ⟨A, c, B, d⟩ := x
  obtain ⟨how, most, win, ch, tm⟩ := v
  dsimp only at hbx ho hfn h20 ⊢
  have HBX := Lib.hid hbx
  have HO := Lib.hid ho
  have hg := hbx.lt
  obtain ⟨q, hq⟩ : ∃ q, stopL f n ch = q := ⟨_, rfl⟩
  rw [hq]
  have HQ := Lib.hid hq
  clear hbx ho hq
  go_enter Try.func183, Try.ntmps183
  go_wp2_with fail
  go_loopg [7, 8] n (fun gk v7 i wr => ∃ (l : List Ch) (acc : List Int) (C : Option Addr) (k : Nat) (iv : Int), gk ≤ n ∧ iv = (f : Int) + gk - 1 ∧ i = .int .i64 iv ∧ v7 = .slice C acc.length k ∧ OwnAt wr base 230 3 A l.length c (flat wcC l) ∧ l.length = ch.length ∧ OwnAt wr W.heap.size 3 1 C acc.length k (ints acc) ∧ Only (fun b => A.map (·.block) = some b) W wr ∧ acc.length + gk ≤ n ∧ q = ((stopL f gk l).1, acc ++ (stopL f gk l).2))
  case atStart => exact ⟨ch, [], none, 0, _, Nat.le_refl _, by simp, rfl, rfl, HO.out, rfl, OwnAt.nil, Only.refl _ _, by simp, HQ.out.symm⟩
  case round =>
    obtain ⟨l, acc, C, k, iv, hgk, hiv, rfl, rfl, hol, hll, hoc, hon, hac, hqe⟩ := hrel
    have HOL := Lib.hid hol
    have HLL := Lib.hid hll
    have HOC := Lib.hid hoc
    have HON := Lib.hid hon
    have HQE := Lib.hid hqe
    have hl20 : l.length ≤ 20 := by omega
    have hbx := hon.box HBX.out (fun h => ownW_ne HO.out HBX.out (by decide) h)
    have c3 := hbx.cell 3
    simp only [List.getElem?_toArray, List.getElem?_cons_zero, List.getElem?_cons_succ] at c3
    rw [← hll] at c3
    have hcap := hol.cap_le
    have hc63 : c ≤ 9223372036854775807 := by have := hcap.2; unfold maxLen at this; omega
    clear hbx hon hoc hqe hcap
    rcases Nat.eq_zero_or_pos gk with rfl | hpos
    · have d0 : decide ((f : Int) ≤ iv) = false := decide_eq_false (by omega)
      clear hiv hol hll c3
      go_wp2_with fail
      go_ret
      exact ⟨C, k, by rw [HQE.out]; simp [stopL], by rw [HQE.out]; exact HOL.out, by rw [HQE.out]; simpa [stopL] using HOC.out, HON.out⟩
    · obtain ⟨m, rfl⟩ : ∃ m, gk = m + 1 := ⟨gk - 1, by omega⟩
      obtain rfl : iv = ((f + m : Nat) : Int) := by omega
      have d0 : decide ((f : Int) ≤ ((f + m : Nat) : Int)) = true := decide_eq_true (by omega)
      have d0' : decide (f ≤ f + m) = true := decide_eq_true (by omega)
      have him : f + m < l.length := by omega
      obtain ⟨gA, oA, rfl, hnc⟩ := hol.some_of (by omega)
      have HSL := Lib.hid (fun (x : Ch) hx h => stopL_live (from_ := f) (n := m) (l := l) (x := x) hx h)
      have HSD := Lib.hid (fun (x : Ch) hx h => stopL_dead (from_ := f) (n := m) (l := l) (x := x) hx h)
      have hgA := hol.lt
      have k0 := hol.cells ((f + m) * 3) _ (flat_get wcC_len (j := 0) (getD_some (0, 0, false) him) rfl)
      have k2 := hol.cells ((f + m) * 3 + 2) _ (flat_get wcC_len (j := 2) (getD_some (0, 0, false) him) rfl)
      rw [← Nat.add_assoc] at k2
      have f2 := hol.frozen (oA + (f + m) * 3 + 2)
      have HPUT := Lib.hid (own_put hol him false)
      obtain ⟨y, hy⟩ : ∃ y, l.getD (f + m) (0, 0, false) = y := ⟨_, rfl⟩
      rw [hy] at k0 k2 HPUT
      have HY := Lib.hid hy
      have him20 : f + m < 20 := by omega
      clear hiv hol hll hy
      obtain ⟨y0, y1, y2⟩ := y
      dsimp only at k0 k2
      cases y2 with
      | false =>
        have HS := Lib.hid (HSD.out _ HY.out rfl)
        go_wp2_with fail
        go_roundg m
        case measure => omega
        case rel => exact ⟨l, acc, C, k, ((f + m : Nat) : Int) - 1, by omega, by omega, rfl, rfl, HOL.out, HLL.out, HOC.out, HON.out, by omega, by rw [HQE.out, HS.out]⟩
      | true =>
        have HS := Lib.hid (HSL.out _ HY.out rfl)
        have hgW : gA < W.heap.size := HO.out.lt.2
        have hws := HON.out.size
        go_upto_region 8 with fail
        have k0' := HPUT.out.cells ((f + m) * 3) _ (flat_get wcC_len (j := 0) (x := (y0, y1, false)) (by rw [List.getElem?_set_self him]) rfl)
        have HOC3 := Lib.hid (HOC.out.far (p := ⟨gA, oA + (f + m) * 3 + 2, none⟩) (fun g o e => by have h1 := HOC.out; subst e; have := h1.lt.1; simp; omega) (.bool false))
        have HON3 := Lib.hid (HON.out.set (p := ⟨gA, oA + (f + m) * 3 + 2, none⟩) rfl (.bool false))
        have hg3 : gA < (wr.setCell ⟨gA, oA + (f + m) * 3 + 2, none⟩ (.bool false)).heap.size := HPUT.out.lt.2
        have c3' : (wr.setCell ⟨gA, oA + (f + m) * 3 + 2, none⟩ (.bool false)).heap.size = wr.heap.size := by simp [World.setCell]
        clear k0 k2 f2 c3
        generalize wr.setCell ⟨gA, oA + (f + m) * 3 + 2, none⟩ (.bool false) = w3 at *
        have hw3 : W.heap.size ≤ w3.heap.size := by omega
        clear c3'
        have HOC4 := Lib.hid (HOC3.out.alloc (.cells #[.int .i64 y0] 3))
        have HYC := Lib.hid (show (w3.alloc (.cells #[.int .i64 y0] 3)).cell? ⟨w3.heap.size, 0, none⟩ = some (.int .i64 y0) from (Box.new w3 3 #[.int .i64 y0]).cell 0)
        have hbd : (acc.length + 1) * 8 ≤ 140737488355328 := by omega
        have HPA := Lib.hid (HPUT.out.alloc (.cells #[.int .i64 y0] 3))
        have HONA := Lib.hid (HON3.out.alloc (.cells #[.int .i64 y0] 3))
        have HCB := Lib.hid (show ∀ i, C.map (·.block) = some i → W.heap.size ≤ i from fun i hi => by
          rcases HOC3.out.form with ⟨rfl, _⟩ | ⟨g1, o1, rfl⟩
          · simp at hi
          · simp at hi; subst hi; exact HOC3.out.lt.1)
        go_wp2_with (at_builtin; refine wpList_push_w rfl (.tmp 30) (.tmp 35) rfl W.heap.size C k acc rfl HOC4.out w3.heap.size y0 rfl HYC.out hbd (by simp; omega) ?_; intro C2 k2 w4 hown4 ho4)
        have HPB := Lib.hid (HPA.out.only ho4 (fun b hb hc => by simp at hb; subst hb; have := HCB.out _ hc; omega))
        have HONB := Lib.hid (HONA.out.fresh ho4 HCB.out)
        have HO4 := Lib.hid hown4
        clear hown4 ho4
        go_roundg m
        case measure => omega
        case rel => exact ⟨_, acc ++ [y0], C2, k2, ((f + m : Nat) : Int) - 1, by omega, by omega, rfl, by rw [List.length_append]; rfl, HPB.out, by rw [List.length_set]; exact HLL.out, by rw [List.length_append]; exact HO4.out, HONB.out, by simp; omega, by rw [HQE.out, HS.out]; simp⟩
end Go.Proofs.Ytcmkkfpcdebfkaa
