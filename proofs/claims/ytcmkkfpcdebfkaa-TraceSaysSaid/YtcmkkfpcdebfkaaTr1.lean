/-
  Histories: the events of a place, by both; lists compared event by event.
-/
import Derived.Test.YtcmkkfpcdebfkaaEv8
import Derived.Test.YtcmkkfpcdebfkaaEvOpen
namespace Go.Proofs.Ytcmkkfpcdebfkaa
open Go.RowKit

def ofPl (l : List Ev) (p : Int) : List Ev := l.filter fun x => x.1 == p
theorem ofPl_take (l : List Ev) (p : Int) {k : Nat} (hk : k < l.length) : ofPl (l.take (k + 1)) p = if ((l.getD k (0, 0, 0)).1 == p) = true then ofPl (l.take k) p ++ [l.getD k (0, 0, 0)] else ofPl (l.take k) p := by
  unfold ofPl
  rw [take_getD l (0, 0, 0) hk, List.filter_append, List.filter_cons]
  split <;> simp
theorem ofPl_le (l : List Ev) (p : Int) : (ofPl l p).length ≤ l.length := List.length_filter_le _ _
def sameP (x y : Ev) : Bool := x.2.1 == y.2.1 && (x.2.1 == 1 || x.2.2 == y.2.2)
/-- A list of events of the call's own. -/
def EvOwn (w : World) (base : Nat) (v : Value) (xs : List Ev) : Prop := w.ownsRow base 146 3 v xs.length (flat evC xs)
theorem EvOwn.parts {w : World} {base : Nat} {v : Value} {xs : List Ev} (h : EvOwn w base v xs) : ∃ A c, v = .slice A xs.length c ∧ Row w w.heap.size A (flat evC xs) ∧ xs.length ≤ maxLen := by
  obtain ⟨A, c, h1, h2, h3, h4, _⟩ := row_of_own_any h
  exact ⟨A, c, h1, h2, by omega⟩

/-- A second block made of an event's cells. -/
theorem ev_new (w : World) (ob : Obj) (x : Ev) : ∀ j u, (evC x)[j]? = some u → ((w.alloc ob).alloc (.cells #[.int .i64 x.1, .int .i64 x.2.1, .int .i64 x.2.2] 146)).cell? ⟨w.heap.size + 1, j, none⟩ = some u := by
  intro j u hu
  have := (Box.new (w.alloc ob) 146 #[.int .i64 x.1, .int .i64 x.2.1, .int .i64 x.2.2]).cell j
  rw [show (w.alloc ob).heap.size = w.heap.size + 1 by simp] at this
  rw [this, ← hu]
  simp [evC]

set_option maxRecDepth 100000 in
set_option maxHeartbeats 2000000 in
theorem atT_any (A : Option Addr) (c : Nat) (l : List Ev) (p : Int) (W : World) (hr : Row W W.heap.size A (flat evC l)) (hl200 : l.length ≤ 200) :
    Calls Try.prog 171 #[.slice A l.length c, .int .i64 p] W fun e w' => ∃ v, e = .returned v ∧ EvOwn w' W.heap.size v (ofPl l p) ∧ Below W.heap.size W w' := by
  have HR := Lib.hid hr
  clear hr
  go_enter Try.func171, Try.ntmps171
  go_wp2_with fail
  go_loopg [5, 10] l.length (fun gk v i wr => ∃ k : Nat, gk = l.length - k ∧ k ≤ l.length ∧ i = .int .i64 k ∧ EvOwn wr W.heap.size v (ofPl (l.take k) p) ∧ Below W.heap.size W wr)
  case atStart => exact ⟨0, by omega, by omega, rfl, World.ownsRow_nil _ _ _ _, Below.refl _ _⟩
  case round =>
    obtain ⟨k, hgk, hk, rfl, hown, hb⟩ := hrel
    have HK := Lib.hid hgk
    clear hgk
    by_cases hlt : k < l.length
    · obtain ⟨b, o, rfl, hbl, hc0, hc1, hc2⟩ := (HR.out.below hb).ev hlt (0, 0, 0)
      have HT := Lib.hid (ofPl_take l p hlt)
      have HLE := Lib.hid (show (ofPl (l.take k) p).length ≤ 200 by have := ofPl_le (l.take k) p; simp at this; omega)
      generalize l.getD k (0, 0, 0) = x at *
      obtain ⟨x1, x2, x3⟩ := x
      dsimp only at hc0 hc1 hc2
      have hbs := hb.size
      have HB := Lib.hid hb
      have HO := Lib.hid hown
      clear hb hown
      cases hq : (x1 == p) with
      | false =>
        have HN := Lib.hid (show ofPl (l.take (k + 1)) p = ofPl (l.take k) p by rw [HT.out]; simp only [hq]; rfl)
        go_wp2_with fail
        go_roundg (l.length - (k + 1))
        case measure => have := HK.out; omega
        case rel => exact ⟨k + 1, rfl, by omega, by go_num, by rw [HN.out]; exact HO.out.alloc _, HB.out.alloc hbs _⟩
      | true =>
        have HN := Lib.hid (show ofPl (l.take (k + 1)) p = ofPl (l.take k) p ++ [(x1, x2, x3)] by rw [HT.out]; simp only [hq]; rfl)
        have hown := HO.out
        unfold EvOwn at hown
        go_wp2_with (at_builtin; refine wpList_push_ev rfl (.tmp 18) (.tmp 20) rfl W.heap.size _ (ofPl (l.take k) p) rfl ((hown.alloc _).alloc _) (wr.heap.size + 1) (x1, x2, x3) rfl (ev_new wr _ (x1, x2, x3)) (by have := HLE.out; omega) (by simp; omega) ?_; intro v' w6 hown' hg')
        have HNEXT := Lib.hid (((HB.out.alloc hbs _).alloc (by simp; omega) _).grown hg' (by simp; omega) (fun g hq => (hown.lt g hq).1))
        have HO' := Lib.hid hown'
        clear hown hown' hg'
        go_roundg (l.length - (k + 1))
        case measure => have := HK.out; omega
        case rel => exact ⟨k + 1, rfl, by omega, by go_num, by rw [HN.out]; exact HO'.out, HNEXT.out⟩
    · obtain rfl : k = l.length := by omega
      have HO := Lib.hid hown
      have HB := Lib.hid hb
      clear hown hb
      go_wp2_with fail
      go_ret
      exact ⟨_, rfl, by have := HO.out; rwa [List.take_length] at this, HB.out⟩

set_option maxRecDepth 100000 in
set_option maxHeartbeats 2000000 in
theorem ofT_any (A : Option Addr) (c : Nat) (l : List Ev) (p : Int) (W : World) (hr : Row W W.heap.size A (flat evC l)) (hl200 : l.length ≤ 200) :
    Calls Try.prog 103 #[.slice A l.length c, .int .i64 p] W fun e w' => ∃ v, e = .returned v ∧ EvOwn w' W.heap.size v (ofPl l p) ∧ Below W.heap.size W w' := by
  have HR := Lib.hid hr
  clear hr
  go_enter Try.func103, Try.ntmps103
  go_wp2_with fail
  go_loopg [5, 10] l.length (fun gk v i wr => ∃ k : Nat, gk = l.length - k ∧ k ≤ l.length ∧ i = .int .i64 k ∧ EvOwn wr W.heap.size v (ofPl (l.take k) p) ∧ Below W.heap.size W wr)
  case atStart => exact ⟨0, by omega, by omega, rfl, World.ownsRow_nil _ _ _ _, Below.refl _ _⟩
  case round =>
    obtain ⟨k, hgk, hk, rfl, hown, hb⟩ := hrel
    have HK := Lib.hid hgk
    clear hgk
    by_cases hlt : k < l.length
    · obtain ⟨b, o, rfl, hbl, hc0, hc1, hc2⟩ := (HR.out.below hb).ev hlt (0, 0, 0)
      have HT := Lib.hid (ofPl_take l p hlt)
      have HLE := Lib.hid (show (ofPl (l.take k) p).length ≤ 200 by have := ofPl_le (l.take k) p; simp at this; omega)
      generalize l.getD k (0, 0, 0) = x at *
      obtain ⟨x1, x2, x3⟩ := x
      dsimp only at hc0 hc1 hc2
      have hbs := hb.size
      have HB := Lib.hid hb
      have HO := Lib.hid hown
      clear hb hown
      cases hq : (x1 == p) with
      | false =>
        have HN := Lib.hid (show ofPl (l.take (k + 1)) p = ofPl (l.take k) p by rw [HT.out]; simp only [hq]; rfl)
        go_wp2_with fail
        go_roundg (l.length - (k + 1))
        case measure => have := HK.out; omega
        case rel => exact ⟨k + 1, rfl, by omega, by go_num, by rw [HN.out]; exact HO.out.alloc _, HB.out.alloc hbs _⟩
      | true =>
        have HN := Lib.hid (show ofPl (l.take (k + 1)) p = ofPl (l.take k) p ++ [(x1, x2, x3)] by rw [HT.out]; simp only [hq]; rfl)
        have hown := HO.out
        unfold EvOwn at hown
        go_wp2_with (at_builtin; refine wpList_push_ev rfl (.tmp 18) (.tmp 20) rfl W.heap.size _ (ofPl (l.take k) p) rfl ((hown.alloc _).alloc _) (wr.heap.size + 1) (x1, x2, x3) rfl (ev_new wr _ (x1, x2, x3)) (by have := HLE.out; omega) (by simp; omega) ?_; intro v' w6 hown' hg')
        have HNEXT := Lib.hid (((HB.out.alloc hbs _).alloc (by simp; omega) _).grown hg' (by simp; omega) (fun g hq => (hown.lt g hq).1))
        have HO' := Lib.hid hown'
        clear hown hown' hg'
        go_roundg (l.length - (k + 1))
        case measure => have := HK.out; omega
        case rel => exact ⟨k + 1, rfl, by omega, by go_num, by rw [HN.out]; exact HO'.out, HNEXT.out⟩
    · obtain rfl : k = l.length := by omega
      have HO := Lib.hid hown
      have HB := Lib.hid hb
      clear hown hb
      go_wp2_with fail
      go_ret
      exact ⟨_, rfl, by have := HO.out; rwa [List.take_length] at this, HB.out⟩

set_option maxHeartbeats 400000 in
theorem same1_any (x y : Ev) (w : World) :
    Calls Try.prog 172 #[evV x, evV y] w fun e w' => e = .returned (.bool (sameP x y)) ∧ Below w.heap.size w w' := by
  obtain ⟨x1, x2, x3⟩ := x
  obtain ⟨y1, y2, y3⟩ := y
  unfold evV
  dsimp only
  have HI := Lib.hid (show sameP (x1, x2, x3) (y1, y2, y3) = (x2 == y2 && (x2 == 1 || x3 == y3)) from rfl)
  generalize sameP (x1, x2, x3) (y1, y2, y3) = r at *
  have HB := Lib.hid (show Below w.heap.size w ((w.alloc (.cells #[.int .i64 x1, .int .i64 x2, .int .i64 x3] 146)).alloc (.cells #[.int .i64 y1, .int .i64 y2, .int .i64 y3] 146)) from ((Below.refl _ _).alloc (Nat.le_refl _) _).alloc (by simp) _)
  cases q1 : (x2 == y2) with
  | false =>
    go_enter Try.func172, Try.ntmps172
    go_wp2_with fail
    go_ret
    exact ⟨by rw [HI.out, q1]; rfl, HB.out⟩
  | true =>
    cases q2 : (x2 == 1) with
    | true =>
      go_enter Try.func172, Try.ntmps172
      go_wp2_with fail
      go_ret
      exact ⟨by rw [HI.out, q1, q2]; rfl, HB.out⟩
    | false =>
      go_enter Try.func172, Try.ntmps172
      go_wp2_with fail
      go_ret
      exact ⟨by rw [HI.out, q1, q2]; rfl, HB.out⟩
theorem enters_same1 : Enters 172 := fun _ _ => by kernel_rfl

set_option maxHeartbeats 400000 in
theorem tells1_any (x y : Ev) (w : World) :
    Calls Try.prog 105 #[evV x, evV y] w fun e w' => e = .returned (.bool (sameP x y)) ∧ Below w.heap.size w w' := by
  obtain ⟨x1, x2, x3⟩ := x
  obtain ⟨y1, y2, y3⟩ := y
  unfold evV
  dsimp only
  have HI := Lib.hid (show sameP (x1, x2, x3) (y1, y2, y3) = (x2 == y2 && (x2 == 1 || x3 == y3)) from rfl)
  generalize sameP (x1, x2, x3) (y1, y2, y3) = r at *
  have HB := Lib.hid (show Below w.heap.size w ((w.alloc (.cells #[.int .i64 x1, .int .i64 x2, .int .i64 x3] 146)).alloc (.cells #[.int .i64 y1, .int .i64 y2, .int .i64 y3] 146)) from ((Below.refl _ _).alloc (Nat.le_refl _) _).alloc (by simp) _)
  cases q1 : (x2 == y2) with
  | false =>
    go_enter Try.func105, Try.ntmps105
    go_wp2_with fail
    go_ret
    exact ⟨by rw [HI.out, q1]; rfl, HB.out⟩
  | true =>
    cases q2 : (x2 == 1) with
    | true =>
      go_enter Try.func105, Try.ntmps105
      go_wp2_with fail
      go_ret
      exact ⟨by rw [HI.out, q1, q2]; rfl, HB.out⟩
    | false =>
      go_enter Try.func105, Try.ntmps105
      go_wp2_with fail
      go_ret
      exact ⟨by rw [HI.out, q1, q2]; rfl, HB.out⟩
theorem enters_tells1 : Enters 105 := fun _ _ => by kernel_rfl
end Go.Proofs.Ytcmkkfpcdebfkaa
