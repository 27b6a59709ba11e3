
/-
  An object put into a heap; objects read (heap.Put, heap.At, heap.Objects).
-/
import Derived.Test.YtdjahlkjfpbifaaHp5
import Derived.Deep.RegionHeld3
namespace Go.Proofs.Ytdjahlkjfpbifaa
open Go.RowKit

theorem below_drewX {B : Nat} {w w' : World} (h : Below B w w') : Below B w w'.drew := ⟨h.os, h.tape, h.output, h.size, h.block⟩
/-- An object that reads as it should, in no block nb. -/
structure ObIn (w : World) (nb : Option Nat) (x : OC) : Prop where
  row : Row w w.heap.size x.A (flat huC x.o.parts)
  none : x.A = none → x.c = 0
  lt : ∀ a, x.A = some a → a.block < w.heap.size ∧ some a.block ≠ nb
theorem ObIn.below {w w' : World} {nb : Option Nat} {x : OC} (h : ObIn w nb x) (hb : Below w.heap.size w w') : ObIn w' nb x := ⟨(h.row.below hb).more hb.size, h.none, fun a ha => ⟨Nat.lt_of_lt_of_le (h.lt a ha).1 hb.size, (h.lt a ha).2⟩⟩
theorem PNew.into {w : World} {base : Nat} {x : OC} {nb : Option Nat} (h : PNew w base x) (hb : ∀ b, nb = some b → b < base) : ObIn w nb x :=
  ⟨h.row, h.none, fun a ha => ⟨(h.far a ha).2, fun e => by have := hb _ e.symm; have := (h.far a ha).1; omega⟩⟩
/-- A row of objects in the making. -/
structure ObMk (w : World) (base : Nat) (A : Option Addr) (c : Nat) (ys : List OC) : Prop where
  own : OwnAt w base 113 5 A ys.length c (flat ocC ys)
  all : ∀ y ∈ ys, ObIn w (A.map (·.block)) y
theorem ObMk.nil {w : World} {base : Nat} : ObMk w base none 0 [] := ⟨OwnAt.nil, fun _ h => by cases h⟩
theorem ObMk.below {w w' : World} {base : Nat} {A : Option Addr} {c : Nat} {ys : List OC} (h : ObMk w base A c ys) (hb : Below w.heap.size w w') : ObMk w' base A c ys := ⟨h.own.below hb, fun y hy => (h.all y hy).below hb⟩
theorem ObMk.lower {w : World} {base base' : Nat} {A : Option Addr} {c : Nat} {ys : List OC} (h : ObMk w base A c ys) (hb : base' ≤ base) : ObMk w base' A c ys := ⟨h.own.lower hb, h.all⟩
theorem ObMk.blk {w : World} {base : Nat} {A : Option Addr} {c : Nat} {ys : List OC} (h : ObMk w base A c ys) : ∀ b, A.map (·.block) = some b → base ≤ b ∧ b < w.heap.size := by
  intro b hb
  rcases h.own.form with ⟨rfl, _⟩ | ⟨g, o, rfl⟩
  · cases hb
  · simp at hb
    subst hb
    exact h.own.lt
theorem ObMk.push {w w' : World} {base : Nat} {A : Option Addr} {c : Nat} {ys : List OC} (hmk : ObMk w base A c ys) (hbase : base ≤ w.heap.size) {y : OC} (hy : ObIn w (A.map (·.block)) y) {g' o' c' : Nat}
    (h1 : OwnAt w' base 113 5 (some ⟨g', o', none⟩) (ys.length + 1) c' (flat ocC ys ++ ocC y)) (h2 : w.grownBy w' (A.map (·.block))) (h3 : A.map (·.block) = some g' ∨ g' = w.heap.size) :
    ObMk w' base (some ⟨g', o', none⟩) c' (ys ++ [y]) ∧ Below base w w' ∧ Only (fun b => A.map (·.block) = some b) w w' := by
  have ho : Only (fun b => A.map (·.block) = some b) w w' := ⟨h2.os, h2.tape, h2.output, h2.size, fun i hi hne => h2.block i hi (fun e => hne e.symm)⟩
  refine ⟨⟨by rw [List.length_append, flat_append, flat_one]; exact h1, fun z hz => ?_⟩, ?_, ho⟩
  · have hz' : ObIn w (A.map (·.block)) z := by
      rcases List.mem_append.1 hz with h | h
      · exact hmk.all z h
      · rw [List.mem_singleton] at h
        subst h
        exact hy
    refine ⟨(hz'.row.only (Nat.le_refl _) ho (fun a ha e => (hz'.lt a ha).2 e.symm)).more ho.size, hz'.none, fun a ha => ⟨Nat.lt_of_lt_of_le (hz'.lt a ha).1 ho.size, fun e => ?_⟩⟩
    simp at e
    rcases h3 with h3 | h3
    · exact (hz'.lt a ha).2 (by rw [h3, e])
    · have := (hz'.lt a ha).1
      omega
  · exact ho.to_below (Below.refl _ _) hbase (fun b hb => (hmk.blk b hb).1)
/-- One object appended to a row in the making. -/
theorem wpList_mk_oc {ops : Array Oper} {rest : List Oper} {o : Oper} {a : Act} {w : World} {Q : Exit → Act → World → Prop} (hgd : o.guard = none) (s x : Operand)
    (ho : o.op = .call { callee := .builtin .append, args := #[s, x], argTypes := #[93, 93] })
    (base : Nat) (A : Option Addr) (c m : Nat) (ys : List OC) (hm : ys.length = m) (hs : a.eval s = .slice A m c) (hmk : ObMk w base A c ys) (g : Nat) (y : OC) (hx : a.eval x = .slice (some ⟨g, 0, none⟩) 1 1) (hy : ∀ j u, (ocC y)[j]? = some u → w.cell? ⟨g, j, none⟩ = some u)
    (hv : ObIn w (A.map (·.block)) y)
    (hb : (m + 1) * 64 ≤ 140737488355328) (hbase : base ≤ w.heap.size)
    (h : ∀ A' c' w', ObMk w' base A' c' (ys ++ [y]) → Below base w w' → Only (fun b => A.map (·.block) = some b) w w' → wpList Try.prog ops Q rest (a.put o.dst (.slice A' (m + 1) c')) w') : wpList Try.prog ops Q (o :: rest) a w := by
  subst hm
  obtain ⟨i0, z0, hi0, hz0, hz1, hz2, hz3⟩ := oc_parts
  refine wpList_append_q hgd s x _ ho base 113 i0 z0 5 64 Try.underlying93 hi0 hz0 hz1 hz2 hz3 (by decide) A ys.length c (flat ocC ys) hs hmk.own ⟨g, 0, none⟩ 1 1 (ocC y) hx rfl ?_ (oc_one y) (by unfold maxLen; omega) hb hbase (by decide) ?_
  · intro j u hu
    rw [addr_add, Nat.zero_add]
    exact hy j u hu
  · intro g' o' c' w' h1 h2 h3
    have := hmk.push hbase hv h1 h2 h3
    exact h _ c' w' this.1 this.2.1 this.2.2
theorem oc_new (w : World) (y : OC) (j : Nat) (u : Value) (h : (ocC y)[j]? = some u) :
    (w.alloc (.cells (ocC y).toArray 113)).cell? ⟨w.heap.size, j, none⟩ = some u := by
  rw [(Box.new w 113 (ocC y).toArray).cell j, ← h]
  simp

theorem UOwn.below {w w' : World} {base : Nat} {v : Value} {zs : List Nat} (h : UOwn w base v zs) (hb : Below w.heap.size w w') : UOwn w' base v zs := by
  refine ⟨h.1, ?_⟩
  rcases h.2 with h0 | ⟨g, cap, cur, hv, hg, hh, r⟩
  · exact .inl h0
  · have hlt : g < w.heap.size := by
      rcases Nat.lt_or_ge g w.heap.size with hl | hge
      · exact hl
      · rw [Array.getElem?_eq_none hge] at hh; cases hh
    exact .inr ⟨g, cap, cur, hv, hg, (hb.block g hlt).trans hh, r⟩
/-- What an object put gives. -/
def PutIs (base : Nat) (h : List Nat) (o : Ob) (A : Option Addr) (n c : Nat) (k er : Int) (w' : World) : Prop :=
  (¬ OkO o ∧ A = none ∧ n = 0 ∧ c = 0 ∧ k = 0 ∧ er = 1) ∨ (OkO o ∧ 4000 < h.length + (wordsF o).length ∧ A = none ∧ n = 0 ∧ c = 0 ∧ k = 0 ∧ er = 6)
  ∨ (OkO o ∧ ¬ 4000 < h.length + (wordsF o).length ∧ n = h.length + (wordsF o).length ∧ k = h.length ∧ er = 0 ∧ UOwn w' base (.slice A (h ++ wordsF o).length c) (h ++ wordsF o))
def PutPost (base : Nat) (h : List Nat) (o : Ob) (e : Ending) (w' : World) : Prop := ∃ A n c k er, e = .returned (.tuple #[.slice A n c, .int .i64 k, .int .i64 er]) ∧ PutIs base h o A n c k er w'
theorem putPost_bad {base : Nat} {h : List Nat} {o : Ob} {w' : World} (h1 : ¬ OkO o) : PutPost base h o (.returned (.tuple #[.slice none 0 0, .int .i64 0, .int .i64 1])) w' := ⟨_, _, _, _, _, rfl, .inl ⟨h1, rfl, rfl, rfl, rfl, rfl⟩⟩
theorem putPost_full {base : Nat} {h : List Nat} {o : Ob} {w' : World} (h1 : OkO o) (h2 : 4000 < h.length + (wordsF o).length) : PutPost base h o (.returned (.tuple #[.slice none 0 0, .int .i64 0, .int .i64 6])) w' := ⟨_, _, _, _, _, rfl, .inr (.inl ⟨h1, h2, rfl, rfl, rfl, rfl, rfl⟩)⟩
theorem putPost_ok {base : Nat} {h : List Nat} {o : Ob} {w' : World} (h1 : OkO o) (h2 : ¬ 4000 < h.length + (wordsF o).length) {A : Option Addr} {c : Nat} {n : Nat} (hn : n = h.length + (wordsF o).length) (h3 : UOwn w' base (.slice A (h ++ wordsF o).length c) (h ++ wordsF o)) : PutPost base h o (.returned (.tuple #[.slice A n c, .int .i64 h.length, .int .i64 0])) w' :=
  ⟨_, _, _, _, _, rfl, .inr (.inr ⟨h1, h2, hn, rfl, rfl, h3⟩)⟩
theorem putPost_lower {base base' : Nat} {h : List Nat} {o : Ob} {A : Option Addr} {n c : Nat} {k er : Int} {w' : World} (hp : PutIs base h o A n c k er w') (hb : base' ≤ base) : PutIs base' h o A n c k er w' := by
  rcases hp with h1 | h1 | ⟨h1, h2, h3, h4, h5, h6⟩
  · exact .inl h1
  · exact .inr (.inl h1)
  · exact .inr (.inr ⟨h1, h2, h3, h4, h5, UOwn.lower h6 hb⟩)

set_option maxRecDepth 100000 in
set_option maxHeartbeats 4000000 in
theorem put_any (h : List Nat) (x : OC) (base : Nat) (v : Value) (w : World) (hown : UOwn w base v h) (hm : h.length * 8 ≤ 140737488355328) (hbase : base ≤ w.heap.size) (hr : Row w w.heap.size x.A (flat huC x.o.parts)) (hn : x.A = none → x.c = 0) :
    Calls Try.prog 130 #[v, ocV x] w fun e w' => Below base w w' ∧ PutPost base h x.o e w' := by
  obtain ⟨A, c, rfl, hoa⟩ := OwnAt.of_own hown
  have hcap := hoa.cap_le
  unfold maxLen at hcap
  have hb1 := (Below.refl w.heap.size w).alloc (Nat.le_refl _) (.cells #[.int .i64 x.o.at_, .int .i64 x.o.kind, .int .i64 x.o.num, .string ⟨x.o.text.toArray⟩, .slice x.A x.o.parts.length x.c] 113)
  have hbx := Box.new w 113 #[.int .i64 x.o.at_, .int .i64 x.o.kind, .int .i64 x.o.num, .string ⟨x.o.text.toArray⟩, .slice x.A x.o.parts.length x.c]
  have hown1 : UOwn (w.alloc (.cells #[.int .i64 x.o.at_, .int .i64 x.o.kind, .int .i64 x.o.num, .string ⟨x.o.text.toArray⟩, .slice x.A x.o.parts.length x.c] 113)) base (.slice A h.length c) h := World.ownsRow.alloc hown _
  obtain ⟨ok, hok⟩ : ∃ ok, ok = decide (OkO x.o) := ⟨_, rfl⟩
  have hv : ∀ w, Calls Try.prog 168 #[.agg #[.int .i64 x.o.at_, .int .i64 x.o.kind, .int .i64 x.o.num, .string ⟨x.o.text.toArray⟩, .slice x.A x.o.parts.length x.c]] w fun e w' => e = .returned (.bool ok) ∧ Below w.heap.size w w' := fun w => by
    rw [hok]
    exact hvalid_any x w
  have HV := Lib.hid hv
  have HK := Lib.hid hok
  have HW := Lib.hid (words_any x)
  have HR := Lib.hid hr
  have HN := Lib.hid hn
  have hsz : (w.alloc (.cells #[.int .i64 x.o.at_, .int .i64 x.o.kind, .int .i64 x.o.num, .string ⟨x.o.text.toArray⟩, .slice x.A x.o.parts.length x.c] 113)).heap.size = w.heap.size + 1 := by simp
  unfold ocV at *
  generalize hx0 : x.o.at_ = x0 at *
  generalize hx1 : x.o.kind = x1 at *
  generalize hx2 : x.o.num = x2 at *
  generalize hx3 : x.o.text = x3 at *
  generalize hx4 : x.o.parts.length = x4 at *
  clear hx0 hx1 hx2 hx3 hx4
  clear hv hok hr hn hown hoa
  go_enter Try.func130, Try.ntmps130
  go_upto_region 1 with fail
  generalize w.alloc (.cells #[.int .i64 x0, .int .i64 x1, .int .i64 x2, .string ⟨x3.toArray⟩, .slice x.A x4 x.c] 113) = w1 at *
  obtain ⟨c0, c1, c2, c3, c4⟩ := ObBox.cells hbx
  have HB1 := Lib.hid hb1
  have HO1 := Lib.hid hown1
  have HX1 := Lib.hid hbx
  clear hb1 hown1 hbx
  go_upto_if 10 with (go_at_call 168; refine (HV.out _).mono ?_; rintro e w2 ⟨rfl, hb2⟩)
  have HB2 := Lib.hid (HB1.out.trans (hb2.mono (by omega)))
  have HO2 := Lib.hid (UOwn.below HO1.out hb2)
  have hbx2 := HX1.out.below hb2 HX1.out.lt
  clear c0 c1 c2 c3 c4 HX1
  cases ok with
  | false =>
    go_wp2_with fail
    go_ret3
    exact ⟨HB2.out.mono hbase, putPost_bad (of_decide_eq_false HK.out.symm)⟩
  | true =>
    have hoko : OkO x.o := of_decide_eq_true HK.out.symm
    obtain ⟨c0, c1, c2, c3, c4⟩ := ObBox.cells hbx2
    have hw := HW.out w2 hoko ((HR.out.below HB2.out).more HB2.out.size) HN.out
    have hRle := wordsF_le hoko
    have HWC := Lib.hid hw
    have HOK := Lib.hid hoko
    generalize hR : wordsF x.o = R at *
    have HRE := Lib.hid hR
    clear hw hoko hR
    go_upto_region 4 with (go_at_call 169; refine HWC.out.mono ?_; rintro e w3 ⟨v, rfl, hown3, hb3⟩)
    have HB3 := Lib.hid (HB2.out.trans (hb3.mono HB2.out.size))
    have HO3 := Lib.hid (UOwn.below HO2.out hb3)
    obtain ⟨A3, c3', rfl, hoa3⟩ := OwnAt.of_own hown3
    have HA3 := Lib.hid hoa3
    have hcap3 := hoa3.cap_le
    unfold maxLen at hcap3
    have hsz3 : base ≤ w3.heap.size := Nat.le_trans hbase HB3.out.size
    clear hown3 hb3 hoa3 c0 c1 c2 c3 c4 HWC
    by_cases hlen : 4000 < h.length + R.length
    · have hi : 4000 < (h.length : Int) + (R.length : Int) := by omega
      have d8 : decide (4000 < (h.length : Int) + (R.length : Int)) = true := decide_eq_true hi
      have HL := Lib.hid hlen
      clear hlen
      go_wp2_with fail
      go_ret3
      exact ⟨HB3.out.mono hbase, putPost_full HOK.out (by rw [HRE.out]; exact HL.out)⟩
    · have hi : ¬ 4000 < (h.length : Int) + (R.length : Int) := by omega
      have d8 : decide (4000 < (h.length : Int) + (R.length : Int)) = false := decide_eq_false hi
      have HL := Lib.hid hlen
      clear hlen
      go_wp2_with (at_builtin; go_loud (refine wpList_append_hu rfl (.tmp 19) (.tmp 20) 89 88 rfl Try.underlying89 Try.underlying88 base _ h rfl HO3.out A3 c3' _ R rfl HA3.out.row (fun e => by rcases HA3.out.form with ⟨_, _, h3⟩ | ⟨g, o, h3⟩; exact h3; rw [h3] at e; cases e) (by have := HL.out; omega) hsz3 ?_; intro v' w4 hown4 hg4; obtain ⟨A4, c4, rfl, _⟩ := OwnAt.of_own hown4))
      go_ret3
      refine ⟨(HB3.out.mono hbase).grown hg4 hsz3 (fun q hq => (HO3.out.lt q hq).1), ?_⟩
      have hRE := HRE.out
      subst hRE
      exact putPost_ok HOK.out HL.out rfl hown4

set_option maxRecDepth 100000 in
set_option maxHeartbeats 4000000 in
theorem Put_any (A : Option Addr) (c : Nat) (h : List Nat) (x : OC) (w : World) (hh : HpIn w A c h) (hm : h.length * 8 ≤ 140737488355328) (hr : Row w w.heap.size x.A (flat huC x.o.parts)) (hn : x.A = none → x.c = 0) :
    Calls Try.prog 93 #[.slice A h.length c, ocV x] w fun e w' => Below w.heap.size w w' ∧ PutPost w.heap.size h x.o e w' := by
  have hb1 := (Below.refl w.heap.size w).alloc (Nat.le_refl _) (.cells #[.int .i64 x.o.at_, .int .i64 x.o.kind, .int .i64 x.o.num, .string ⟨x.o.text.toArray⟩, .slice x.A x.o.parts.length x.c] 113)
  have hbx := Box.new w 113 #[.int .i64 x.o.at_, .int .i64 x.o.kind, .int .i64 x.o.num, .string ⟨x.o.text.toArray⟩, .slice x.A x.o.parts.length x.c]
  have HCL : Hid (∀ w', Below w.heap.size w w' → Calls Try.prog 41 #[.slice A h.length c] w' _) := Lib.hid (fun w' hb => clone_hu A c h w.heap.size w' (hh.row.below hb) hh.none hm)
  have HPU := Lib.hid (fun v base w' => put_any h x base v w')
  have HR := Lib.hid hr
  have HN := Lib.hid hn
  have HM := Lib.hid hm
  have HRR : Hid (∀ w', Below w.heap.size w w' → Row w' w'.heap.size x.A (flat huC x.o.parts)) := Lib.hid (fun w' hb => (hr.below hb).more hb.size)
  have hsz : (w.alloc (.cells #[.int .i64 x.o.at_, .int .i64 x.o.kind, .int .i64 x.o.num, .string ⟨x.o.text.toArray⟩, .slice x.A x.o.parts.length x.c] 113)).heap.size = w.heap.size + 1 := by simp
  unfold ocV at *
  generalize hx0 : x.o.at_ = x0 at *
  generalize hx1 : x.o.kind = x1 at *
  generalize hx2 : x.o.num = x2 at *
  generalize hx3 : x.o.text = x3 at *
  generalize hx4 : x.o.parts.length = x4 at *
  clear hx0 hx1 hx2 hx3 hx4 hr hn hh hm
  go_enter Try.func93, Try.ntmps93
  go_upto_region 1 with fail
  generalize w.alloc (.cells #[.int .i64 x0, .int .i64 x1, .int .i64 x2, .string ⟨x3.toArray⟩, .slice x.A x4 x.c] 113) = w1 at *
  have HX1 := Lib.hid hbx
  have HB1 := Lib.hid hb1
  have hs1 : w.heap.size + 1 ≤ w1.heap.size := by omega
  have hw1 : w.heap.size ≤ w1.heap.size := by omega
  have HSK : Hid (∀ w', Below w1.heap.size w1 w' → Below w1.heap.size w1 w' ∧ w'.cell? ⟨w.heap.size, 0, none⟩ = some (.int .i64 x0) ∧ w'.cell? ⟨w.heap.size, 1, none⟩ = some (.int .i64 x1) ∧ w'.cell? ⟨w.heap.size, 2, none⟩ = some (.int .i64 x2) ∧ w'.cell? ⟨w.heap.size, 3, none⟩ = some (.string ⟨x3.toArray⟩) ∧ w'.cell? ⟨w.heap.size, 4, none⟩ = some (.slice x.A x4 x.c)) := fun w' h => ⟨h, ObBox.cells (HX1.out.below h HX1.out.lt)⟩
  have hbk0 := Below.refl w1.heap.size w1
  clear hb1 hbx
  go_region_held3 (fun w' => Below w1.heap.size w1 w' ∧ w'.cell? ⟨w.heap.size, 0, none⟩ = some (.int .i64 x0) ∧ w'.cell? ⟨w.heap.size, 1, none⟩ = some (.int .i64 x1) ∧ w'.cell? ⟨w.heap.size, 2, none⟩ = some (.int .i64 x2) ∧ w'.cell? ⟨w.heap.size, 3, none⟩ = some (.string ⟨x3.toArray⟩) ∧ w'.cell? ⟨w.heap.size, 4, none⟩ = some (.slice x.A x4 x.c))
    ((first
      | exact HSK.out _ hbk2
      | exact HSK.out _ hbk
      | exact HSK.out _ (below_drewX hbk0)
      | go_keep))
    ((first
      | (go_at_call 41; refine (HCL.out _ (HB1.out.trans ((show Below w1.heap.size w1 _ ∧ _ by assumption).1.mono (by omega)))).mono ?_; rintro e wk ⟨v, rfl, hown, hbn⟩; have hX := (show Below w1.heap.size w1 _ ∧ _ by assumption); have hbk := hX.1.trans (hbn.mono hX.1.size); have hs0 := hX.1.size; have hrx := HRR.out _ (HB1.out.trans (hbk.mono hw1)); clear hX)
      | (go_at_call 130; refine (HPU.out v _ _ hown HM.out hbn.size hrx HN.out).mono ?_; rintro e wk2 ⟨hbm, AP, nP, cP, kP, eP, rfl, hpp⟩; have hbk2 := hbk.trans (hbm.mono hs0))))
  all_goals (
    go_wp2_with fail
    go_ret3
    exact ⟨HB1.out.trans (hbk2.mono (by omega)), _, _, _, _, _, rfl, putPost_lower hpp (Nat.le_trans hw1 hs0)⟩)
end Go.Proofs.Ytdjahlkjfpbifaa
