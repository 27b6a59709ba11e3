
/-
  Links: rows compared; the ends of link.begin.
-/
import Derived.Test.YtgjimjpbogadjaaLk2
namespace Go.Proofs.Ytgjimjpbogadjaa
open Go.RowKit

set_option maxRecDepth 100000 in
theorem sameInts_true (x y : BC) (xs : List Int) (S S' : Nat → Prop) (w : World) (h : IIn w S 0 x xs) (h' : IIn w S' 0 y xs) :
    Calls Try.prog 96 #[.slice x.A xs.length x.cap, .slice y.A xs.length y.cap] w fun e w' => e = .returned (.bool true) ∧ ∃ n, w' = w.drewN n := by
  have hbig := h.2.2.2.2.2.2
  have HR := Lib.hid h.row
  have HR' := Lib.hid h'.row
  obtain ⟨XA, XL, XC⟩ := x
  obtain ⟨YA, YL, YC⟩ := y
  dsimp only at HR HR' ⊢
  clear h h'
  go_enter Try.func96, Try.ntmps96
  go_wp2_with fail
  go_loopg [13] xs.length (fun gk i wr => ∃ k n : Nat, gk = xs.length - k ∧ k ≤ xs.length ∧ i = .int .i64 k ∧ wr = w.drewN n)
  case atStart => exact ⟨0, 0, by omega, by omega, rfl, rfl⟩
  case round =>
    obtain ⟨k, n, hgk, hk, rfl, rfl⟩ := hrel
    have HK := Lib.hid hgk
    clear hgk
    by_cases hlt : k < xs.length
    · obtain ⟨b, o, hA, _, hc⟩ := HR.out.int hlt
      subst hA
      obtain ⟨b', o', hA', _, hc'⟩ := HR'.out.int hlt
      subst hA'
      have hd : (w.drewN n).cell? ⟨b, o + k, none⟩ = some (.int .i64 (xs.getD k 0)) := hc
      have hd' : (w.drewN n).cell? ⟨b', o' + k, none⟩ = some (.int .i64 (xs.getD k 0)) := hc'
      generalize xs.getD k 0 = u at *
      go_wp2_with fail
      go_quiet (fail)
      go_wp2_with fail
      go_roundg (xs.length - (k + 1))
      case measure => have := HK.out; omega
      case rel => exact ⟨k + 1, n + nq, rfl, by omega, by go_num, rfl⟩
    · go_wp2_with fail
      go_ret
      exact ⟨rfl, n, rfl⟩

/-- Cells and numbers of one row, as they stand. -/
theorem lkRow.at {w : World} {S : Nat → Prop} {A : Option Addr} {c : Nat} {l : List LkC} {vs : List Lk} (h : lkRow w S 0 A c l vs) {k : Nat} (hk : k < l.length) :
    ∃ b o, A = some ⟨b, o, none⟩ ∧ b < w.heap.size ∧ w.cell? ⟨b, o + k * 3, none⟩ = some (.int .i64 (vs.getD k lk0).ref) ∧ w.cell? ⟨b, o + k * 3 + 1, none⟩ = some (.slice (l.getD k lkc0).W.A (vs.getD k lk0).ws.length (l.getD k lkc0).W.cap) ∧
      w.cell? ⟨b, o + k * 3 + 2, none⟩ = some (.slice (l.getD k lkc0).L.A (vs.getD k lk0).ls.length (l.getD k lkc0).L.cap) ∧
      IIn w S 0 ⟨(l.getD k lkc0).W.A, (vs.getD k lk0).ws.length, (l.getD k lkc0).W.cap⟩ (vs.getD k lk0).ws ∧ IIn w S 0 ⟨(l.getD k lkc0).L.A, (vs.getD k lk0).ls.length, (l.getD k lkc0).L.cap⟩ (vs.getD k lk0).ls := by
  obtain ⟨b, o, e, hb, c0, c1, c2⟩ := h.row.lk hk lkc0
  obtain ⟨e0, i1, i2⟩ := h.2.2.1 k hk
  rw [e0] at c0
  have q1 : (l.getD k lkc0).W.len = (vs.getD k lk0).ws.length := i1.1
  have q2 : (l.getD k lkc0).L.len = (vs.getD k lk0).ls.length := i2.1
  rw [q1] at c1
  rw [q2] at c2
  refine ⟨b, o, e, hb, c0, c1, c2, ⟨rfl, i1.2.1, ?_, i1.2.2.2⟩, ⟨rfl, i2.2.1, ?_, i2.2.2.2⟩⟩
  · rw [← q1]; exact i1.2.2.1
  · rw [← q2]; exact i2.2.2.1

set_option maxRecDepth 100000 in
set_option maxHeartbeats 1000000 in
theorem sameLinks_true (A B : Option Addr) (c d : Nat) (l m : List LkC) (vs : List Lk) (S S' : Nat → Prop) (w : World) (h : lkRow w S 0 A c l vs) (h' : lkRow w S' 0 B d m vs) :
    Calls Try.prog 56 #[.slice A l.length c, .slice B m.length d] w fun e w' => e = .returned (.bool true) ∧ ∃ n, w' = w.drewN n := by
  have hlm : m.length = l.length := by rw [h.1, h'.1]
  have hcm := h.2.2.2.2.1
  have hlc := h.2.2.2.1
  unfold maxLen at hcm
  have HH := Lib.hid h
  have HH' := Lib.hid h'
  have HLM := Lib.hid hlm
  rw [hlm]
  clear h h' hlm
  go_enter Try.func56, Try.ntmps56
  go_wp2_with fail
  go_loopg [13] l.length (fun gk i wr => ∃ k n : Nat, gk = l.length - k ∧ k ≤ l.length ∧ i = .int .i64 k ∧ wr = w.drewN n)
  case atStart => exact ⟨0, 0, by omega, by omega, rfl, rfl⟩
  case round =>
    obtain ⟨k, n, hgk, hk, rfl, hwr⟩ := hrel
    have HK := Lib.hid hgk
    have HW := Lib.hid hwr
    clear hgk hwr
    by_cases hlt : k < l.length
    · obtain ⟨b, o, rfl, _, c0, c1, c2, i1, i2⟩ := HH.out.at hlt
      obtain ⟨b', o', rfl, _, c0', c1', c2', j1, j2⟩ := HH'.out.at (k := k) (by rw [HLM.out]; exact hlt)
      generalize vs.getD k lk0 = v at *
      generalize l.getD k lkc0 = x at *
      generalize m.getD k lkc0 = y at *
      obtain ⟨v0, ws, ls⟩ := v
      obtain ⟨x0, ⟨WA, wl, wc⟩, ⟨LA, ll, lc⟩⟩ := x
      obtain ⟨y0, ⟨WB, wl', wc'⟩, ⟨LB, ll', lc'⟩⟩ := y
      dsimp only at c0 c1 c2 i1 i2 c0' c1' c2' j1 j2
      have d0 : wr.cell? ⟨b, o + k * 3, none⟩ = some (.int .i64 v0) := by rw [HW.out]; exact c0
      have d1 : wr.cell? ⟨b, o + k * 3 + 1, none⟩ = some (.slice WA ws.length wc) := by rw [HW.out]; exact c1
      have d2 : wr.cell? ⟨b, o + k * 3 + 2, none⟩ = some (.slice LA ls.length lc) := by rw [HW.out]; exact c2
      have d0' : wr.cell? ⟨b', o' + k * 3, none⟩ = some (.int .i64 v0) := by rw [HW.out]; exact c0'
      have d1' : wr.cell? ⟨b', o' + k * 3 + 1, none⟩ = some (.slice WB ws.length wc') := by rw [HW.out]; exact c1'
      have d2' : wr.cell? ⟨b', o' + k * 3 + 2, none⟩ = some (.slice LB ls.length lc') := by rw [HW.out]; exact c2'
      have HSW := Lib.hid (fun j => sameInts_true ⟨WA, ws.length, wc⟩ ⟨WB, ws.length, wc'⟩ ws S S' (wr.drewN j) (by rw [HW.out]; exact i1.keep (w' := (w.drewN n).drewN j) (fun _ _ => rfl) fun _ h => h) (by rw [HW.out]; exact j1.keep (w' := (w.drewN n).drewN j) (fun _ _ => rfl) fun _ h => h))
      have HSL := Lib.hid (fun j => sameInts_true ⟨LA, ls.length, lc⟩ ⟨LB, ls.length, lc'⟩ ls S S' (wr.drewN j) (by rw [HW.out]; exact i2.keep (w' := (w.drewN n).drewN j) (fun _ _ => rfl) fun _ h => h) (by rw [HW.out]; exact j2.keep (w' := (w.drewN n).drewN j) (fun _ _ => rfl) fun _ h => h))
      clear i1 i2 j1 j2 c0 c1 c2 c0' c1' c2'
      go_wp2_with fail
      go_quiet ((go_at_call 96; first | (with_reducible exact Calls.quiet_of (HSW.out _)) | (with_reducible exact Calls.quiet_of (HSL.out _))))
      go_wp2_with fail
      go_roundg (l.length - (k + 1))
      case measure => have := HK.out; omega
      case rel => exact ⟨k + 1, n + nq, rfl, by omega, by go_num, by rw [HW.out, World.drewN_drewN]⟩
    · go_wp2_with fail
      go_ret
      exact ⟨rfl, n, HW.out⟩

/-- link.begin's three ends. -/
def LkBegin (vs : List Lk) (m : Nat) (n : Int) (w : World) (e : Ending) (w' : World) : Prop :=
  Below w.heap.size w w' ∧ ((lkBeg vs n ≠ 0 ∧ e = .returned (.tuple #[.slice none 0 0, .int .i64 0, .int .i64 (lkBeg vs n)])) ∨
    (lkBeg vs n = 0 ∧ ∃ A' c' l', e = .returned (.tuple #[.slice A' m c', .int .i64 (lkAt vs n), .int .i64 0]) ∧ l'.length = m ∧ OwnLks w' w.heap.size A' c' l' vs))
set_option maxRecDepth 100000 in
set_option maxHeartbeats 1000000 in
theorem lkbegin_any (A : Option Addr) (c : Nat) (l : List LkC) (vs : List Lk) (n : Int) (w : World) (hin : lkRow w (· < w.heap.size) 0 A c l vs) :
    Calls Try.prog 93 #[.slice A l.length c, .int .i64 n] w fun e w' => LkBegin vs l.length n w e w' := by
  have hal : Below w.heap.size w (w.alloc (.cells #[.int .i64 n] 3)) := (Below.refl _ _).alloc (Nat.le_refl _) _
  have hc : (w.alloc (.cells #[.int .i64 n] 3)).cell? ⟨w.heap.size, 0, none⟩ = some (.int .i64 n) := (Box.new _ _ _).cell 0
  have HIN := Lib.hid (fun (w' : World) (hb : Below w.heap.size w w') => (hin.below hb (fun _ h => h)).keep (w' := w') (S' := (· < w'.heap.size)) (fun _ _ => rfl) (fun b h => Nat.lt_of_lt_of_le h hb.size))
  have HLV := Lib.hid hin.1
  have HBE : Hid (lkBeg vs n = if lkF vs ≠ 0 then lkF vs else if lkAt vs n < 0 then 4 else 0) := rfl
  have hlt : w.heap.size < (w.alloc (.cells #[.int .i64 n] 3)).heap.size := by simp
  have HOK := Lib.hid (fun (h : lkBeg vs n = 0) => (lkBeg_ok h).1.len)
  clear hin
  go_enter Try.func93, Try.ntmps93
  go_upto_region 1 with fail
  generalize w.alloc (.cells #[.int .i64 n] 3) = w1 at *
  obtain ⟨gk, hgk⟩ : ∃ gk, w.heap.size = gk := ⟨_, rfl⟩
  have HG := Lib.hid hgk
  rw [hgk] at hc hlt ⊢
  clear hgk
  have HC := Lib.hid (lkcheck_any A c l vs w1 (HIN.out w1 hal))
  have HB1 := Lib.hid hal
  have HCC := Lib.hid hc
  clear hal hc
  generalize lkF vs = F at *
  go_wp2_with fail
  refine HC.out.mono ?_
  rintro e w2 ⟨rfl, hb2⟩
  have HB2 := Lib.hid (HB1.out.trans (hb2.mono HB1.out.size))
  have hc2 := (hb2.cell (p := ⟨gk, 0, none⟩) hlt).trans HCC.out
  have HFN := Lib.hid (lkfind_any n gk A c l vs w2 (HIN.out w2 HB2.out) hc2)
  clear HC hb2 hc2 HCC hlt
  by_cases hF : F = 0
  · subst hF
    go_wp2_with fail
    refine HFN.out.mono ?_
    rintro e w3 ⟨rfl, hb3⟩
    have HB3 := Lib.hid (HB2.out.trans (hb3.mono HB2.out.size))
    clear hb3 HFN
    obtain ⟨K, hK⟩ : ∃ K, lkAt vs n = K := ⟨_, rfl⟩
    rw [hK] at HBE ⊢
    have HKK := Lib.hid hK
    clear hK
    by_cases hK0 : K < 0
    · have d1 : decide (K < 0) = true := decide_eq_true hK0
      have HE := Lib.hid (show lkBeg vs n = 4 by rw [HBE.out, if_neg (by simp), if_pos hK0])
      clear hK0
      go_wp2_with fail
      go_ret3
      exact ⟨HB3.out, .inl ⟨by rw [HE.out]; decide, by rw [HE.out]; rfl⟩⟩
    · have d1 : decide (K < 0) = false := decide_eq_false hK0
      have hE : lkBeg vs n = 0 := by rw [HBE.out, if_neg (by simp), if_neg hK0]
      have HE := Lib.hid hE
      have HCP := Lib.hid (lkcopy_any A c l vs w3 (HIN.out w3 HB3.out) (by rw [HLV.out]; exact HOK.out hE))
      clear hK0 hE
      go_wp2_with fail
      refine HCP.out.mono ?_
      rintro e w4 ⟨A', c', l', rfl, hl', ho, hb4⟩
      have HO := Lib.hid (show OwnLks w4 w.heap.size A' c' l' vs from ⟨ho.len, ho.row.lower HB3.out.size, fun i hi => (ho.each i hi).lower HB3.out.size, ho.off, ho.part⟩)
      have HB4 := Lib.hid (HB3.out.trans (hb4.mono HB3.out.size))
      have HL := Lib.hid hl'
      clear ho hb4 HCP hl'
      go_wp2_with fail
      go_ret3
      exact ⟨HB4.out, .inr ⟨HE.out, A', c', l', by rw [HKK.out]; rfl, HL.out, HO.out⟩⟩
  · have b1 : (F != 0) = true := by simpa using hF
    have HE := Lib.hid (show lkBeg vs n = F by rw [HBE.out, if_pos hF])
    have HF := Lib.hid hF
    clear hF
    go_wp2_with fail
    go_ret3
    exact ⟨HB2.out, .inl ⟨by rw [HE.out]; exact HF.out, by rw [HE.out]; rfl⟩⟩
end Go.Proofs.Ytgjimjpbogadjaa
