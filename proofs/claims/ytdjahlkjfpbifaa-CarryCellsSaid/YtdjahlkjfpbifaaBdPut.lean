
/-
  An object put into a heap of the call's own (heap.put): what has turned is the heap's own block alone.
-/
import Derived.Test.YtdjahlkjfpbifaaHp6
namespace Go.Proofs.Ytdjahlkjfpbifaa
open Go.RowKit

/-- A heap of the call's own. -/
abbrev HOwn (w : World) (base : Nat) (A : Option Addr) (c : Nat) (h : List Nat) : Prop := OwnAt w base 90 1 A h.length c (flat huC h)
theorem HOwn.blk {w : World} {base : Nat} {A : Option Addr} {c : Nat} {h : List Nat} (s : HOwn w base A c h) : ∀ b, A.map (·.block) = some b → base ≤ b ∧ b < w.heap.size := by
  intro b hb
  rcases s.form with ⟨rfl, _⟩ | ⟨g, o, rfl⟩
  · cases hb
  · simp at hb
    subst hb
    exact s.lt
theorem HOwn.of {w : World} {base n c : Nat} {A : Option Addr} {zs : List Nat} (h : UOwn w base (.slice A n c) zs) : HOwn w base A c zs := by
  obtain ⟨A1, c1, hv, hoa⟩ := OwnAt.of_own h
  injection hv with e1 e2 e3
  subst e1 e3
  exact hoa
theorem HOwn.nz {w : World} {base : Nat} {A : Option Addr} {c : Nat} {h : List Nat} (s : HOwn w base A c h) : A = none → c = 0 := fun e => by
  rcases s.form with ⟨_, _, h3⟩ | ⟨g, o, h3⟩
  · exact h3
  · rw [h3] at e
    cases e

/-- One or more words appended to a heap of the call's own. -/
theorem wpList_append_hq {ops : Array Oper} {rest : List Oper} {o : Oper} {a : Act} {w : World} {Q : Exit → Act → World → Prop} (hgd : o.guard = none) (s x : Operand) (t u : TypeId)
    (ho : o.op = .call { callee := .builtin .append, args := #[s, x], argTypes := #[t, u] })
    (ht : Try.prog.underlying t = some (.slice 90)) (hu : Try.prog.underlying u = some (.slice 90)) (base : Nat) (A : Option Addr) (c : Nat) (zs : List Nat) (hs : a.eval s = .slice A zs.length c) (hown : HOwn w base A c zs)
    (A1 : Option Addr) (c1 B : Nat) (ys : List Nat) (hx : a.eval x = .slice A1 ys.length c1) (hr : Row w B A1 (flat huC ys)) (hpos : 0 < ys.length)
    (hb : (zs.length + ys.length) * 8 ≤ 140737488355328) (hbase : base ≤ w.heap.size)
    (h : ∀ A' c' w', HOwn w' base A' c' (zs ++ ys) → Grew A A' w w' → wpList Try.prog ops Q rest (a.put o.dst (.slice A' (zs.length + ys.length) c')) w') : wpList Try.prog ops Q (o :: rest) a w := by
  obtain ⟨i0, z0, hi0, hz0, hz1, hz2, hz3⟩ := hu_parts
  obtain ⟨b, o1, rfl, _, hcc⟩ := hr (by rw [flat_len huC_len]; omega)
  refine wpList_plain hgd fun K hK => ?_
  obtain ⟨g', o', c', w', hrun, h2, h3, h4⟩ := run_append_q (P := Try.prog) w base t o.type 90 i0 z0 1 8 ht hi0 hz0 hz1 hz2 hz3 (by decide) A zs.length c (flat huC zs) hown ⟨b, o1, none⟩ ys.length c1 (flat huC ys) (flat_len huC_len ys) (fun j u hu => by rw [addr_add]; exact hcc j u hu) (hu_one_all ys) (by unfold maxLen; omega) hb hbase hpos
  rw [← append_types w t u 90 o.type _ ht hu] at hrun
  unfold Oper.wp execOp
  simp only [ho, resolve, invoke, builtin, Sem.run_bind, Sem.run_pure, Result.andThen_ok, List.map_toArray, List.map_cons, List.map_nil, hs, hx, hrun]
  refine hK _ _ (h (some ⟨g', o', none⟩) c' w' ?_ (Grew.push h3 h4))
  unfold HOwn
  rw [List.length_append, flat_append]
  exact h2

/-- What an object put gives, as the program and as the reference have it. -/
def putF (h : List Nat) (o : Ob) : Except Int (List Nat × Nat) := if OkO o then if 4000 < h.length + (wordsF o).length then .error 6 else .ok (h ++ wordsF o, h.length) else .error 1
/-- A heap handed back: the error, or the words and a number. -/
def HRes (base : Nat) (A : Option Addr) (r : Except Int (List Nat × Nat)) (k : IntKind) (w : World) (e : Ending) (w' : World) : Prop :=
  match r with
  | .error er => Only (fun b => A.map (·.block) = some b) w w' ∧ e = .returned (.tuple #[.slice none 0 0, .int k 0, .int .i64 er])
  | .ok (h', n) => ∃ A' c', e = .returned (.tuple #[.slice A' h'.length c', .int k (n : Int), .int .i64 0]) ∧ HOwn w' base A' c' h' ∧ Grew A A' w w'

set_option maxRecDepth 100000 in
set_option maxHeartbeats 4000000 in
theorem put_q (h : List Nat) (x : OC) (base : Nat) (A : Option Addr) (c : Nat) (w : World) (hoa : HOwn w base A c h) (hm : h.length * 8 ≤ 140737488355328) (hbase : base ≤ w.heap.size) (hr : Row w w.heap.size x.A (flat huC x.o.parts)) (hn : x.A = none → x.c = 0) :
    Calls Try.prog 130 #[.slice A h.length c, ocV x] w (HRes base A (putF h x.o) .i64 w) := by
  have hcap := hoa.cap_le
  unfold maxLen at hcap
  have hb1 := (Below.refl w.heap.size w).alloc (Nat.le_refl _) (.cells #[.int .i64 x.o.at_, .int .i64 x.o.kind, .int .i64 x.o.num, .string ⟨x.o.text.toArray⟩, .slice x.A x.o.parts.length x.c] 113)
  have hbx := Box.new w 113 #[.int .i64 x.o.at_, .int .i64 x.o.kind, .int .i64 x.o.num, .string ⟨x.o.text.toArray⟩, .slice x.A x.o.parts.length x.c]
  have hown1 := hoa.alloc (.cells #[.int .i64 x.o.at_, .int .i64 x.o.kind, .int .i64 x.o.num, .string ⟨x.o.text.toArray⟩, .slice x.A x.o.parts.length x.c] 113)
  obtain ⟨ok, hok⟩ : ∃ ok, ok = decide (OkO x.o) := ⟨_, rfl⟩
  have hv : ∀ w, Calls Try.prog 168 #[.agg #[.int .i64 x.o.at_, .int .i64 x.o.kind, .int .i64 x.o.num, .string ⟨x.o.text.toArray⟩, .slice x.A x.o.parts.length x.c]] w fun e w' => e = .returned (.bool ok) ∧ Below w.heap.size w w' := fun w => by
    rw [hok]
    exact hvalid_any x w
  have HV := Lib.hid hv
  have HK := Lib.hid hok
  have HW := Lib.hid (words_any x)
  have HR := Lib.hid hr
  have HN := Lib.hid hn
  have hsz : (w.alloc (.cells #[.int .i64 x.o.at_, .int .i64 x.o.kind, .int .i64 x.o.num, .string ⟨x.o.text.toArray⟩, .slice x.A x.o.parts.length x.c] 113)).heap.size = w.heap.size + 1 := by simp
  unfold ocV at *
  generalize hx0 : x.o.at_ = x0 at *
  generalize hx1 : x.o.kind = x1 at *
  generalize hx2 : x.o.num = x2 at *
  generalize hx3 : x.o.text = x3 at *
  generalize hx4 : x.o.parts.length = x4 at *
  clear hx0 hx1 hx2 hx3 hx4
  clear hv hok hr hn hoa
  go_enter Try.func130, Try.ntmps130
  go_upto_region 1 with fail
  generalize w.alloc (.cells #[.int .i64 x0, .int .i64 x1, .int .i64 x2, .string ⟨x3.toArray⟩, .slice x.A x4 x.c] 113) = w1 at *
  obtain ⟨c0, c1, c2, c3, c4⟩ := ObBox.cells hbx
  have HB1 := Lib.hid hb1
  have HO1 := Lib.hid hown1
  have HX1 := Lib.hid hbx
  clear hb1 hown1 hbx
  go_upto_if 10 with (go_at_call 168; refine (HV.out _).mono ?_; rintro e w2 ⟨rfl, hb2⟩)
  have HB2 := Lib.hid (HB1.out.trans (hb2.mono (by omega)))
  have HO2 := Lib.hid (HO1.out.below hb2)
  have hbx2 := HX1.out.below hb2 HX1.out.lt
  clear c0 c1 c2 c3 c4 HX1
  cases ok with
  | false =>
    go_wp2_with fail
    go_ret3
    unfold HRes putF
    rw [if_neg (of_decide_eq_false HK.out.symm)]
    exact ⟨Only.of_below HB2.out, rfl⟩
  | true =>
    have hoko : OkO x.o := of_decide_eq_true HK.out.symm
    obtain ⟨c0, c1, c2, c3, c4⟩ := ObBox.cells hbx2
    have hw := HW.out w2 hoko ((HR.out.below HB2.out).more HB2.out.size) HN.out
    have hRle := wordsF_le hoko
    have hRp := wordsF_pos x.o
    have HWC := Lib.hid hw
    have HOK := Lib.hid hoko
    generalize hR : wordsF x.o = R at *
    have HRE := Lib.hid hR
    clear hw hoko hR
    go_upto_region 4 with (go_at_call 169; refine HWC.out.mono ?_; rintro e w3 ⟨v, rfl, hown3, hb3⟩)
    have HB3 := Lib.hid (HB2.out.trans (hb3.mono HB2.out.size))
    have HO3 := Lib.hid (HO2.out.below hb3)
    obtain ⟨A3, c3', rfl, hoa3⟩ := OwnAt.of_own hown3
    have HA3 := Lib.hid hoa3
    have hcap3 := hoa3.cap_le
    unfold maxLen at hcap3
    have hsz3 : base ≤ w3.heap.size := Nat.le_trans hbase HB3.out.size
    clear hown3 hb3 hoa3 c0 c1 c2 c3 c4 HWC
    by_cases hlen : 4000 < h.length + R.length
    · have hi : 4000 < (h.length : Int) + (R.length : Int) := by omega
      have d8 : decide (4000 < (h.length : Int) + (R.length : Int)) = true := decide_eq_true hi
      have HL := Lib.hid hlen
      clear hlen
      go_wp2_with fail
      go_ret3
      unfold HRes putF
      rw [if_pos HOK.out, HRE.out, if_pos HL.out]
      exact ⟨Only.of_below HB3.out, rfl⟩
    · have hi : ¬ 4000 < (h.length : Int) + (R.length : Int) := by omega
      have d8 : decide (4000 < (h.length : Int) + (R.length : Int)) = false := decide_eq_false hi
      have HL := Lib.hid hlen
      clear hlen
      go_wp2_with (at_builtin; go_loud (refine wpList_append_hq rfl (.tmp 19) (.tmp 20) 89 88 rfl Try.underlying89 Try.underlying88 base A c h rfl HO3.out A3 c3' _ R rfl HA3.out.row hRp (by have := HL.out; omega) hsz3 ?_; intro A4 c4 w4 hown4 hg4))
      go_ret3
      unfold HRes putF
      rw [if_pos HOK.out, HRE.out, if_neg HL.out]
      exact ⟨A4, c4, by simp only [List.length_append]; rfl, hown4, ⟨((Only.of_below (HB3.out)).trans hg4.only), fun b hb => (hg4.at' b hb).imp_right (Nat.le_trans HB3.out.size)⟩⟩

end Go.Proofs.Ytdjahlkjfpbifaa
