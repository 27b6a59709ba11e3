/-
  All children started (ward.Begin).
-/
import Derived.Test.YtcmkkfpcdebfkaaWd5
namespace Go.Proofs.Ytcmkkfpcdebfkaa
open Go.RowKit

def liveC (x : Ch) : Ch := (x.1, x.2.1, true)
/-- The ids of those that do not live. -/
def deadIds (l : List Ch) : List Int := (l.filter (fun x => !x.2.2)).map (·.1)
theorem deadIds_snoc (l : List Ch) (x : Ch) : deadIds (l ++ [x]) = if x.2.2 = true then deadIds l else deadIds l ++ [x.1] := by
  unfold deadIds
  rw [List.filter_append]
  by_cases h : x.2.2 = true
  · simp [h]
  · simp [h]
def wd0 : Wd := ⟨0, 0, 0, [], []⟩
/-- What Begin hands back. -/
def BegPost (q : Wd) (ids : List Int) (n : Int) (w : World) (e : Ending) (w' : World) : Prop :=
  ∃ x C k, e = .returned (.tuple #[wardV x q, .slice C ids.length k, .int .i64 n]) ∧ WOwn w' w.heap.size x q ∧ OwnAt w' w.heap.size 3 1 C ids.length k (ints ids) ∧ Below w.heap.size w w'

set_option maxRecDepth 100000 in
set_option maxHeartbeats 4000000 in
theorem beginW_bad (x : WA) (v : Wd) (W : World) (h : WIn W x v) (hp : wardF v ≠ 0) :
    Calls Try.prog 117 #[wardV x v] W (BegPost wd0 [] (wardF v) W) := by
  have HC := Lib.hid (fun w => checkW x v w)
  have HIN := Lib.hid h
  obtain ⟨pb, hpb⟩ : ∃ pb, wardF v = pb := ⟨_, rfl⟩
  rw [hpb] at hp HC ⊢
  have q1 : (pb != 0) = true := by simpa using hp
  clear hp hpb h
  obtain ⟨A, c, B, d⟩ := x
  obtain ⟨how, most, win, ch, tm⟩ := v
  have hb0 := ((Below.refl W.heap.size W).alloc (Nat.le_refl _) (.cells #[.int .i64 how, .int .i64 most, .int .i64 win, .slice A ch.length c, .slice B tm.length d] 215)).alloc (by simp) (.cells #[.int .i64 0, .int .i64 0, .int .i64 0, .slice none 0 0, .slice none 0 0] 215)
  have hbr := Box.new (W.alloc (.cells #[.int .i64 how, .int .i64 most, .int .i64 win, .slice A ch.length c, .slice B tm.length d] 215)) 215 #[.int .i64 0, .int .i64 0, .int .i64 0, .slice none 0 0, .slice none 0 0]
  rw [show (W.alloc (.cells #[.int .i64 how, .int .i64 most, .int .i64 win, .slice A ch.length c, .slice B tm.length d] 215)).heap.size = W.heap.size + 1 by simp] at hbr
  have HB0 := Lib.hid hb0
  have HBR := Lib.hid hbr
  have HI := Lib.hid (HIN.out.below hb0)
  unfold wardV at *
  dsimp only at *
  clear hb0 hbr
  go_enter Try.func117, Try.ntmps117
  go_wp2_with fail
  refine (HC.out _ HI.out).mono ?_
  rintro e w1 ⟨rfl, hb1⟩
  have HR1 := Lib.hid (HBR.out.below hb1 (by simp))
  have HB1 := Lib.hid (HB0.out.trans (hb1.mono (by simp; omega)))
  obtain ⟨r0, r1, r2, r3, r4⟩ : _ ∧ _ ∧ _ ∧ _ ∧ _ := ⟨HR1.out.cell 0, HR1.out.cell 1, HR1.out.cell 2, HR1.out.cell 3, HR1.out.cell 4⟩
  have g0 := HR1.out.frozen 0
  have g1 := HR1.out.frozen 1
  have g2 := HR1.out.frozen 2
  have g3 := HR1.out.frozen 3
  have g4 := HR1.out.frozen 4
  simp only [List.getElem?_toArray, List.getElem?_cons_zero, List.getElem?_cons_succ] at r0 r1 r2 r3 r4
  clear hb1
  go_wp2_with fail
  refine bodyPost_ret (v := .tuple #[.agg #[.int .i64 0, .int .i64 0, .int .i64 0, .slice none 0 0, .slice none 0 0], .slice none 0 0, .int .i64 pb]) (by simp [results, Try.results117, go_sem, r0, r1, r2, r3, r4]) rfl ?_
  refine ⟨⟨none, 0, none, 0⟩, none, 0, rfl, ⟨OwnAt.nil, OwnAt.nil⟩, OwnAt.nil, ?_⟩
  exact ((((HB1.out.setCell (p := ⟨W.heap.size + 1, 0, none⟩) (Nat.le_succ _) _).setCell (p := ⟨W.heap.size + 1, 1, none⟩) (Nat.le_succ _) _).setCell (p := ⟨W.heap.size + 1, 2, none⟩) (Nat.le_succ _) _).setCell (p := ⟨W.heap.size + 1, 3, none⟩) (Nat.le_succ _) _).setCell (p := ⟨W.heap.size + 1, 4, none⟩) (Nat.le_succ _) _
end Go.Proofs.Ytcmkkfpcdebfkaa
