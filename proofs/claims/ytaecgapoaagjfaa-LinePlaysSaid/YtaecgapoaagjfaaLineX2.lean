/-
  One end: whether a body was sent; all sent again.
-/
import Derived.Test.YtaecgapoaagjfaaLineX1
namespace Go.Proofs.Ytaecgapoaagjfaa
open Go.RowKit

theorem getD_set' {α : Type} (l : List α) (d : α) (k i : Nat) (x : α) (hk : k < l.length) : (l.set k x).getD i d = if i = k then x else l.getD i d := by
  simp only [List.getD_eq_getElem?_getD, List.getElem?_set]
  by_cases h : k = i
  · subst h; simp [hk]
  · rw [if_neg h, if_neg (fun e => h e.symm)]

section
variable {w : World} {B0 g m : Nat} {s : LS} {r : LR} {f : Nat → Nat}
def LS.mark (s : LS) (i : Nat) (q : Bool) : LS := { s with Q := s.Q.set i ((s.Q.getD i ([], false)).1, q) }
def LR.mark (r : LR) (i : Nat) (q : Bool) : LR := { r with l1 := r.l1.set i ⟨(r.l1.getD i pc0).b, q⟩ }
theorem LineAt.sent (h : LineAt w B0 g m s r f) {g1 o1 : Nat} (hA : r.A1 = some ⟨g1, o1, none⟩) {i : Nat} (hi : i < r.l1.length) (q : Bool) :
    LineAt (w.setCell ⟨g1, o1 + i * 2 + 1, none⟩ (.bool q)) B0 g m (s.mark i q) (r.mark i q) f := by
  have f1 : f g1 = 3 := h.f1 g1 (by rw [hA]; rfl)
  have ho : Only (fun b => f b = 3) w (w.setCell ⟨g1, o1 + i * 2 + 1, none⟩ (.bool q)) := (Only.refl (fun b => f b = 3) w).set (p := ⟨g1, o1 + i * 2 + 1, none⟩) f1 _
  have hlen : (r.l1.set i ⟨(r.l1.getD i pc0).b, q⟩).length = r.l1.length := List.length_set ..
  have hx : xCells (s.mark i q) (r.mark i q) = xCells s r := by simp only [xCells, LS.mark, LR.mark, hlen]
  have hy : mCells (s.mark i q) (r.mark i q) = mCells s r := rfl
  refine ⟨by rw [hx]; exact ho.box h.x (by rw [h.fg]; omega), (fun hr => by rw [hy]; exact ho.box (h.y hr) (by rw [h.fm hr]; omega)), ?_, h.o2.only ho (fun b hb => by rw [h.f2 b hb]; omega) (fun b hb _ => ⟨by rw [hb]; omega, hb⟩), h.o3.only ho (fun b hb => by rw [h.f3 b hb]; omega) (fun b hb _ => ⟨by rw [hb]; omega, hb⟩), h.o4.only ho (fun b hb => by rw [h.f4 b hb]; omega) (fun b hb _ => ⟨by rw [hb]; omega, hb⟩), h.fg, h.fm, h.f1, h.f2, h.f3, h.f4, h.hg, h.hm⟩
  have hQ := h.o1.1
  have hown := h.o1.2.1
  refine ⟨?_, ?_, fun j hj => ?_⟩
  · simp [LS.mark, LR.mark, hQ]
  · show OwnAt _ _ _ _ r.A1 (r.l1.set i _).length r.c1 (flat pendC (r.l1.set i _))
    rw [hA] at hown ⊢
    have h1 := hown.set (j := i * 2 + 1) (.bool q)
    rw [hlen, ← flat_set (j := 1) pendC_len r.l1 (.bool q) (getD_some pc0 hi) (by decide) ⟨(r.l1.getD i pc0).b, q⟩ rfl, show o1 + i * 2 + 1 = o1 + (i * 2 + 1) by omega]
    exact h1
  · have hj' : j < r.l1.length := by simpa [LR.mark] using hj
    have hel := h.o1.2.2 j hj'
    have hkeep : PIn (w.setCell ⟨g1, o1 + i * 2 + 1, none⟩ (.bool q)) (Off (fun b => f b = 0) r.A1) 0 (r.l1.getD j pc0) (s.Q.getD j ([], false)) := hel.keep (fun p hp => cell_off (fun e => by
      have h0 : f p.block = 0 := hp.1
      rw [e] at h0
      have h1 : f g1 = 0 := h0
      omega)) fun _ h => h
    simp only [LS.mark, LR.mark]
    rw [getD_set' _ _ _ _ _ hi, getD_set' _ _ _ _ _ (by omega)]
    by_cases e : j = i
    · subst e
      rw [if_pos rfl, if_pos rfl]
      exact ⟨rfl, hkeep.2⟩
    · rw [if_neg e, if_neg e]
      exact hkeep
end

/-- The first k are unsent again. -/
def unsent (Q : List (Body × Bool)) (k : Nat) : List (Body × Bool) := (Q.take k).map (fun x => (x.1, false)) ++ Q.drop k
theorem unsent_succ (Q : List (Body × Bool)) (k : Nat) (hk : k < Q.length) : (unsent Q k).set k (((unsent Q k).getD k ([], false)).1, false) = unsent Q (k + 1) := by
  unfold unsent
  have h1 : ((Q.take k).map (fun x => (x.1, false))).length = k := by simp; omega
  rw [List.set_append_right _ _ (by omega), h1, Nat.sub_self, drop_getD Q ([], false) hk, take_getD Q ([], false) hk, List.map_append, List.append_assoc]
  congr 1
  simp only [List.getD_eq_getElem?_getD]
  rw [List.getElem?_append_right (by omega), h1, Nat.sub_self]
  simp

set_option maxRecDepth 100000 in
set_option maxHeartbeats 1000000 in
theorem tick_x (B0 g m : Nat) (s : LS) (r : LR) (f : Nat → Nat) (w : World) (h : LineAt w B0 g m s r f) (hl : s.Q.length ≤ 16) (_hlim : 0 ≤ s.lim ∧ s.lim ≤ 16) :
    Calls Try.prog 55 #[.pointer (some ⟨g, 0, none⟩)] w fun e w' => e = .returned (.tuple #[]) ∧ Below B0 w w' ∧ ∃ r', LineAt w' B0 g m { s with Q := unsent s.Q s.Q.length, lim := if s.Q = [] then s.lim else if s.lim < 1 then 1 else s.lim } r' f := by
  have HH := Lib.hid h
  have hn := h.o1.1
  obtain ⟨_, c1, _, _, c4, _, _⟩ := h.xs
  have hn16 : r.l1.length ≤ 16 := by omega
  have HNQ := Lib.hid hn
  generalize hN : r.l1.length = N at *
  have HN := Lib.hid hN
  generalize hX : (if s.Q = [] then s.lim else if s.lim < 1 then 1 else s.lim) = X at *
  have HLIM := Lib.hid hX
  clear h hn hN hX
  go_enter Try.func55, Try.ntmps55
  go_wp2_with fail
  go_loopg [8] N (fun gk i wr => ∃ (k : Nat) (l : List PC), gk = N - k ∧ k ≤ N ∧ i = .int .i64 k ∧ l.length = N ∧ LineAt wr B0 g m { s with Q := unsent s.Q k } { r with l1 := l } f ∧ Below B0 w wr)
  case atStart => exact ⟨0, r.l1, by omega, by omega, rfl, HN.out, by
    have : unsent s.Q 0 = s.Q := by simp [unsent]
    rw [this]; exact HH.out, Below.refl _ _⟩
  case round =>
    obtain ⟨k, l, hgk, hk, rfl, hll, hat, hb⟩ := hrel
    have HK := Lib.hid hgk
    have HLL := Lib.hid hll
    obtain ⟨_, d1, _, _, d4, _, _⟩ := hat.xs
    simp only [hll] at d1 d4
    have fr1 := hat.x.frozen 1
    have HAT := Lib.hid hat
    have HBB := Lib.hid hb
    clear hgk hat hll hb
    by_cases hlt : k < N
    · obtain ⟨g1, o1, hA1, hc⟩ := OwnAt.some_of HAT.out.o1.2.1 (by show 0 < l.length; rw [HLL.out]; omega)
      have hA1' : r.A1 = some ⟨g1, o1, none⟩ := hA1
      have hown := HAT.out.o1.2.1
      simp only [hA1'] at hown
      obtain ⟨b', o', e', _, p0, p1⟩ := hown.row.pend (i := k) (by rw [HLL.out]; exact hlt) pc0
      injection e' with e'
      injection e' with e1 e2
      subst e1 e2
      have fr2 := hown.frozen (o1 + k * 2 + 1)
      have hS := HAT.out.sent (i := k) hA1 (by show k < l.length; rw [HLL.out]; exact hlt) false
      have HS := Lib.hid (show LineAt (wr.setCell ⟨g1, o1 + k * 2 + 1, none⟩ (.bool false)) B0 g m { s with Q := unsent s.Q (k + 1) } { r with l1 := l.set k ⟨(l.getD k pc0).b, false⟩ } f by
        rw [← unsent_succ s.Q k (by rw [← HNQ.out]; exact hlt)]
        exact hS)
      have HB2 := Lib.hid (HBB.out.setCell (p := ⟨g1, o1 + k * 2 + 1, none⟩) hown.lt.1 (.bool false))
      rw [hA1'] at d4
      generalize l.getD k pc0 = x at *
      clear hS hown hA1 hA1' hc
      go_wp2_with fail
      go_roundg (N - (k + 1))
      case measure => have := HK.out; omega
      case rel => exact ⟨k + 1, _, rfl, by omega, by go_num, by rw [List.length_set]; exact HLL.out, HS.out, HB2.out⟩
    · have hkN : k = N := by omega
      have HU := Lib.hid (show unsent s.Q k = unsent s.Q s.Q.length by rw [hkN, HNQ.out])
      by_cases h0 : s.Q = []
      · have hN0 : N = 0 := by rw [HNQ.out, h0]; rfl
        have HX0 := Lib.hid (show X = s.lim by rw [← HLIM.out, if_pos h0])
        have dN : decide ((0 : Int) < (N : Int)) = false := by simp; omega
        have dN' : decide (0 < N) = false := by simp; omega
        clear h0 hN0 hkN
        go_wp2_with fail
        go_end0
        exact ⟨rfl, HBB.out, _, by rw [← HU.out, HX0.out]; exact HAT.out⟩
      · have hN0 : 0 < N := by
          rw [HNQ.out]
          exact List.length_pos_iff.2 h0
        have HX0 := Lib.hid (show X = if s.lim < 1 then 1 else s.lim by rw [← HLIM.out, if_neg h0])
        have dN : decide ((0 : Int) < (N : Int)) = true := by simp; omega
        have dN' : decide (0 < N) = true := by simp; omega
        have HX := Lib.hid (fun (x : Int) => HAT.out.xcell (s' := { s with Q := unsent s.Q k, lim := x }) 1 (.int .i64 x) rfl rfl rfl rfl rfl rfl)
        have HBX := Lib.hid (fun (x : Int) => HBB.out.setCell (p := ⟨g, 1, none⟩) HAT.out.hg (.int .i64 x))
        rw [HU.out] at HX
        clear h0 hkN
        by_cases hl1 : s.lim < 1
        · have HX1 := Lib.hid (show X = 1 by rw [HX0.out, if_pos hl1])
          go_wp2_with fail
          go_end0
          exact ⟨rfl, HBX.out 1, _, by rw [HX1.out]; exact HX.out 1⟩
        · have HX1 := Lib.hid (show X = s.lim by rw [HX0.out, if_neg hl1])
          go_wp2_with fail
          go_end0
          exact ⟨rfl, HBX.out s.lim, _, by rw [HX1.out]; exact HX.out s.lim⟩
end Go.Proofs.Ytaecgapoaagjfaa
