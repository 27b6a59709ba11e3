/-
  Histories: lists of events compared by a function; package trace: At, Led, Same.
-/
import Derived.Test.YtcmkkfpcdebfkaaTr1
import Derived.Test.YtcmkkfpcdebfkaaEv11
namespace Go.Proofs.Ytcmkkfpcdebfkaa
open Go.RowKit

def eqF (f : Ev → Ev → Bool) : List Ev → List Ev → Bool
  | [], [] => true
  | x :: xs, y :: ys => f x y && eqF f xs ys
  | _, _ => false
theorem eqF_len {f : Ev → Ev → Bool} : ∀ {xs ys : List Ev}, xs.length ≠ ys.length → eqF f xs ys = false
  | [], [], h => absurd rfl h
  | x :: xs, y :: ys, h => by
    rw [eqF, eqF_len (by simpa using h), Bool.and_false]
  | [], _ :: _, _ => rfl
  | _ :: _, [], _ => rfl
theorem eqF_drop {f : Ev → Ev → Bool} {xs ys : List Ev} {k : Nat} (hx : k < xs.length) (hy : k < ys.length) : eqF f (xs.drop k) (ys.drop k) = (f (xs.getD k (0, 0, 0)) (ys.getD k (0, 0, 0)) && eqF f (xs.drop (k + 1)) (ys.drop (k + 1))) := by
  rw [drop_getD xs (0, 0, 0) hx, drop_getD ys (0, 0, 0) hy, eqF]

set_option maxRecDepth 100000 in
set_option maxHeartbeats 2000000 in
theorem equalFunc_ev (A A' : Option Addr) (c c' : Nat) (xs ys : List Ev) (fid : FuncId) (f : Ev → Ev → Bool) (w : World) (he : Enters fid) (ra : Row w w.heap.size A (flat evC xs)) (rb : Row w w.heap.size A' (flat evC ys)) (hm : xs.length ≤ maxLen)
    (hf : ∀ x y w, Calls Try.prog fid #[evV x, evV y] w fun e w' => e = .returned (.bool (f x y)) ∧ Below w.heap.size w w') :
    Calls Try.prog 104 #[.slice A xs.length c, .slice A' ys.length c', .func (.func fid) #[] #[]] w fun e w' => e = .returned (.bool (eqF f xs ys)) ∧ Below w.heap.size w w' := by
  have HF := Lib.hid hf
  have HRA := Lib.hid ra
  have HRB := Lib.hid rb
  unfold Enters at he
  unfold maxLen at hm
  clear hf ra rb
  by_cases hl : xs.length = ys.length
  · have d1 : ((xs.length : Int) != (ys.length : Int)) = false := by simp; omega
    have d2 : (xs.length != ys.length) = false := by simp; omega
    generalize hres : eqF f xs ys = res
    have HRES := Lib.hid hres
    have HL := Lib.hid hl
    have hl1 : xs.length ≤ ys.length := by omega
    have hl2 : ys.length ≤ xs.length := by omega
    clear hres hl
    go_enter Try.func104, Try.ntmps104
    go_wp2_with fail
    go_loopg [17] xs.length (fun gk i wr => ∃ k : Nat, gk = xs.length - k ∧ k ≤ xs.length ∧ i = .int .i64 k ∧ res = eqF f (xs.drop k) (ys.drop k) ∧ Below w.heap.size w wr)
    case atStart => exact ⟨0, by omega, by omega, rfl, HRES.out.symm, Below.refl _ _⟩
    case round =>
      obtain ⟨k, hgk, hk, rfl, hR, hb⟩ := hrel
      have HK := Lib.hid hgk
      have HRR := Lib.hid hR
      clear hgk hR
      by_cases hlt : k < xs.length
      · have hlt' : k < ys.length := by omega
        obtain ⟨b, o, rfl, hbl, hc0, hc1, hc2⟩ := (HRA.out.below hb).ev hlt (0, 0, 0)
        obtain ⟨b2, o2, rfl, hbl2, hd0, hd1, hd2⟩ := (HRB.out.below hb).ev hlt' (0, 0, 0)
        have HD := Lib.hid (eqF_drop (f := f) hlt hlt')
        generalize xs.getD k (0, 0, 0) = x at *
        generalize ys.getD k (0, 0, 0) = y at *
        obtain ⟨x1, x2, x3⟩ := x
        obtain ⟨y1, y2, y3⟩ := y
        dsimp only at hc0 hc1 hc2 hd0 hd1 hd2
        have hbs := hb.size
        have hbw : b2 < wr.heap.size := by omega
        have HB := Lib.hid ((hb.alloc hbs (.cells #[.int .i64 x1, .int .i64 x2, .int .i64 x3] 146)).alloc (by simp; omega) (.cells #[.int .i64 y1, .int .i64 y2, .int .i64 y3] 146))
        have HF2 := Lib.hid (HF.out (x1, x2, x3) (y1, y2, y3) ((wr.alloc (.cells #[.int .i64 x1, .int .i64 x2, .int .i64 x3] 146)).alloc (.cells #[.int .i64 y1, .int .i64 y2, .int .i64 y3] 146)))
        clear hb
        go_wp2_with fail
        refine HF2.out.mono ?_
        rintro e w5 ⟨rfl, hb5⟩
        have HB5 := Lib.hid (HB.out.trans (hb5.mono HB.out.size))
        clear hb5
        cases hfx : f (x1, x2, x3) (y1, y2, y3) with
        | false =>
          have HE := Lib.hid (show res = false by rw [HRR.out, HD.out, hfx]; rfl)
          clear hfx
          go_wp2_with fail
          go_ret
          exact ⟨by rw [HE.out]; rfl, HB5.out⟩
        | true =>
          have HE := Lib.hid (show res = eqF f (xs.drop (k + 1)) (ys.drop (k + 1)) by rw [HRR.out, HD.out, hfx]; rfl)
          clear hfx
          go_wp2_with fail
          go_roundg (xs.length - (k + 1))
          case measure => have := HK.out; omega
          case rel => exact ⟨k + 1, rfl, by omega, by go_num, HE.out, HB5.out⟩
      · have HE := Lib.hid (show res = true by rw [HRR.out, List.drop_of_length_le (by omega), List.drop_of_length_le (by omega)]; rfl)
        have HB := Lib.hid hb
        clear hb
        go_wp2_with fail
        go_ret
        exact ⟨by rw [HE.out]; rfl, HB.out⟩
  · have d1 : ((xs.length : Int) != (ys.length : Int)) = true := by simp; omega
    have d2 : (xs.length != ys.length) = true := by simpa using hl
    rw [eqF_len hl]
    clear hl
    go_enter Try.func104, Try.ntmps104
    go_wp2_with fail
    go_ret
    exact ⟨rfl, Below.refl _ _⟩
end Go.Proofs.Ytcmkkfpcdebfkaa
