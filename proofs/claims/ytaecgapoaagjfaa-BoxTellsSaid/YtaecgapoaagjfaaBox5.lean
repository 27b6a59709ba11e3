/-
  A letter put into a mailbox.
-/
import Derived.Test.YtaecgapoaagjfaaBox4
import Derived.Deep.RegionHeld3
namespace Go.Proofs.Ytaecgapoaagjfaa
open Go.RowKit

def putF (l : List LC) (p : Int) (x : LC) : Int := if boxF l p ≠ 0 then boxF l p else if okKind x.kind = false then 3 else if l.length = 60 then 6 else 0

/-- What lies in a cell, whatever it is. -/
def cellD (w : World) (a : Addr) : Value := (w.cell? a).getD (.bool false)
theorem cellD_of {w : World} {a : Addr} {v : Value} (h : w.cell? a = some v) : w.cell? a = some (cellD w a) := by
  unfold cellD; rw [h]; rfl
section
variable {w w1 w2 : World} {g : Nat} {a0 a1 : Value} {b0 b1 b2 b3 b4 b5 b6 b7 b8 : Value}
theorem put_keep (hb : Below (g + 3) w1 w2) (hg : w.heap.size = g)
    (h : Below g w w1 ∧ g + 3 ≤ w1.heap.size ∧ w1.cell? ⟨g, 0, none⟩ = some a0 ∧ w1.cell? ⟨g, 1, none⟩ = some a1 ∧ w1.cell? ⟨g + 1, 0, none⟩ = some b0 ∧ w1.cell? ⟨g + 1, 1, none⟩ = some b1 ∧ w1.cell? ⟨g + 1, 2, none⟩ = some b2 ∧ w1.cell? ⟨g + 1, 3, none⟩ = some b3 ∧ w1.cell? ⟨g + 1, 4, none⟩ = some b4 ∧ w1.cell? ⟨g + 1, 5, none⟩ = some b5 ∧ w1.cell? ⟨g + 1, 6, none⟩ = some b6 ∧ w1.cell? ⟨g + 1, 7, none⟩ = some b7 ∧ w1.cell? ⟨g + 1, 8, none⟩ = some b8 ∧
      w1.cell? ⟨g + 2, 0, none⟩ = some (cellD w1 ⟨g + 2, 0, none⟩) ∧ w1.cell? ⟨g + 2, 1, none⟩ = some (cellD w1 ⟨g + 2, 1, none⟩) ∧ w1.frozen? ⟨g + 2, 0, none⟩ = false ∧ w1.frozen? ⟨g + 2, 1, none⟩ = false) :
    Below g w w2 ∧ g + 3 ≤ w2.heap.size ∧ w2.cell? ⟨g, 0, none⟩ = some a0 ∧ w2.cell? ⟨g, 1, none⟩ = some a1 ∧ w2.cell? ⟨g + 1, 0, none⟩ = some b0 ∧ w2.cell? ⟨g + 1, 1, none⟩ = some b1 ∧ w2.cell? ⟨g + 1, 2, none⟩ = some b2 ∧ w2.cell? ⟨g + 1, 3, none⟩ = some b3 ∧ w2.cell? ⟨g + 1, 4, none⟩ = some b4 ∧ w2.cell? ⟨g + 1, 5, none⟩ = some b5 ∧ w2.cell? ⟨g + 1, 6, none⟩ = some b6 ∧ w2.cell? ⟨g + 1, 7, none⟩ = some b7 ∧ w2.cell? ⟨g + 1, 8, none⟩ = some b8 ∧
      w2.cell? ⟨g + 2, 0, none⟩ = some (cellD w2 ⟨g + 2, 0, none⟩) ∧ w2.cell? ⟨g + 2, 1, none⟩ = some (cellD w2 ⟨g + 2, 1, none⟩) ∧ w2.frozen? ⟨g + 2, 0, none⟩ = false ∧ w2.frozen? ⟨g + 2, 1, none⟩ = false := by
  have hc : ∀ b o, b < g + 3 → w2.cell? ⟨b, o, none⟩ = w1.cell? ⟨b, o, none⟩ := fun b o h => hb.cell (p := ⟨b, o, none⟩) h
  have hz : ∀ b o, b < g + 3 → w2.frozen? ⟨b, o, none⟩ = w1.frozen? ⟨b, o, none⟩ := fun b o h => by simp only [World.frozen?, hb.block b h]
  obtain ⟨h1, h2, h3, h4, h5, h6, h7, h8, h9, h10, h11, h12, h13, h14, h15, h16, h17⟩ := h
  refine ⟨h1.trans (hb.mono (by omega)), Nat.le_trans h2 hb.size, ?_, ?_, ?_, ?_, ?_, ?_, ?_, ?_, ?_, ?_, ?_, cellD_of ((hc (g + 2) 0 (by omega)).trans h14), cellD_of ((hc (g + 2) 1 (by omega)).trans h15), (hz (g + 2) 0 (by omega)).trans h16, (hz (g + 2) 1 (by omega)).trans h17⟩
  all_goals (rw [hc _ _ (by omega)]; assumption)
theorem put_keep_set (i : Nat) (u : Value) (hg : w.heap.size = g)
    (h : Below g w w1 ∧ g + 3 ≤ w1.heap.size ∧ w1.cell? ⟨g, 0, none⟩ = some a0 ∧ w1.cell? ⟨g, 1, none⟩ = some a1 ∧ w1.cell? ⟨g + 1, 0, none⟩ = some b0 ∧ w1.cell? ⟨g + 1, 1, none⟩ = some b1 ∧ w1.cell? ⟨g + 1, 2, none⟩ = some b2 ∧ w1.cell? ⟨g + 1, 3, none⟩ = some b3 ∧ w1.cell? ⟨g + 1, 4, none⟩ = some b4 ∧ w1.cell? ⟨g + 1, 5, none⟩ = some b5 ∧ w1.cell? ⟨g + 1, 6, none⟩ = some b6 ∧ w1.cell? ⟨g + 1, 7, none⟩ = some b7 ∧ w1.cell? ⟨g + 1, 8, none⟩ = some b8 ∧
      w1.cell? ⟨g + 2, 0, none⟩ = some (cellD w1 ⟨g + 2, 0, none⟩) ∧ w1.cell? ⟨g + 2, 1, none⟩ = some (cellD w1 ⟨g + 2, 1, none⟩) ∧ w1.frozen? ⟨g + 2, 0, none⟩ = false ∧ w1.frozen? ⟨g + 2, 1, none⟩ = false) :
    Below g w (w1.setCell ⟨g + 2, i, none⟩ u) ∧ g + 3 ≤ (w1.setCell ⟨g + 2, i, none⟩ u).heap.size ∧ (w1.setCell ⟨g + 2, i, none⟩ u).cell? ⟨g, 0, none⟩ = some a0 ∧ (w1.setCell ⟨g + 2, i, none⟩ u).cell? ⟨g, 1, none⟩ = some a1 ∧ (w1.setCell ⟨g + 2, i, none⟩ u).cell? ⟨g + 1, 0, none⟩ = some b0 ∧ (w1.setCell ⟨g + 2, i, none⟩ u).cell? ⟨g + 1, 1, none⟩ = some b1 ∧ (w1.setCell ⟨g + 2, i, none⟩ u).cell? ⟨g + 1, 2, none⟩ = some b2 ∧ (w1.setCell ⟨g + 2, i, none⟩ u).cell? ⟨g + 1, 3, none⟩ = some b3 ∧ (w1.setCell ⟨g + 2, i, none⟩ u).cell? ⟨g + 1, 4, none⟩ = some b4 ∧ (w1.setCell ⟨g + 2, i, none⟩ u).cell? ⟨g + 1, 5, none⟩ = some b5 ∧ (w1.setCell ⟨g + 2, i, none⟩ u).cell? ⟨g + 1, 6, none⟩ = some b6 ∧ (w1.setCell ⟨g + 2, i, none⟩ u).cell? ⟨g + 1, 7, none⟩ = some b7 ∧ (w1.setCell ⟨g + 2, i, none⟩ u).cell? ⟨g + 1, 8, none⟩ = some b8 ∧
      (w1.setCell ⟨g + 2, i, none⟩ u).cell? ⟨g + 2, 0, none⟩ = some (cellD (w1.setCell ⟨g + 2, i, none⟩ u) ⟨g + 2, 0, none⟩) ∧ (w1.setCell ⟨g + 2, i, none⟩ u).cell? ⟨g + 2, 1, none⟩ = some (cellD (w1.setCell ⟨g + 2, i, none⟩ u) ⟨g + 2, 1, none⟩) ∧ (w1.setCell ⟨g + 2, i, none⟩ u).frozen? ⟨g + 2, 0, none⟩ = false ∧ (w1.setCell ⟨g + 2, i, none⟩ u).frozen? ⟨g + 2, 1, none⟩ = false := by
  obtain ⟨h1, h2, h3, h4, h5, h6, h7, h8, h9, h10, h11, h12, h13, h14, h15, h16, h17⟩ := h
  have hi : ∀ j, w1.cell? ⟨g + 2, j, none⟩ = some (cellD w1 ⟨g + 2, j, none⟩) → (w1.setCell ⟨g + 2, i, none⟩ u).cell? ⟨g + 2, j, none⟩ = some (cellD (w1.setCell ⟨g + 2, i, none⟩ u) ⟨g + 2, j, none⟩) := fun j hj => by
    obtain ⟨v', hv'⟩ := cell?_setCell_some (p := ⟨g + 2, i, none⟩) (x := u) hj
    exact cellD_of hv'
  have hz : ∀ j, (w1.setCell ⟨g + 2, i, none⟩ u).frozen? ⟨g + 2, j, none⟩ = w1.frozen? ⟨g + 2, j, none⟩ := fun j => World.frozen?_setCell _ _ _ _
  refine ⟨h1.setCell (show g ≤ g + 2 by omega) u, by simpa [World.setCell] using h2, ?_, ?_, ?_, ?_, ?_, ?_, ?_, ?_, ?_, ?_, ?_, hi 0 h14, hi 1 h15, (hz 0).trans h16, (hz 1).trans h17⟩
  all_goals first | exact (cell_far (show g ≠ g + 2 by omega)).trans (by assumption) | exact (cell_far (show g + 1 ≠ g + 2 by omega)).trans (by assumption)
end
section
variable {w w3 w4 w5 : World} {n : Nat} {A' : Option Addr} {c' : Nat} {l' : List LC} {ts : List Let}
theorem put_mk (hmk : letterMk w4 w3.heap.size (w3.heap.size ≤ ·) n A' c' l' ts) (hb5 : Below w4.heap.size w4 w5) (hs : w.heap.size + 3 ≤ w3.heap.size) (y : LC) : letterMk (w5.alloc (.cells (letterC y).toArray 29)) (w.heap.size + 3) (w.heap.size + 3 ≤ ·) n A' c' l' ts :=
  ((hmk.below hb5).below ((Below.refl _ _).alloc (Nat.le_refl _) _)).weak hs fun b hb => by omega
theorem put_y (hmk : letterMk w4 w3.heap.size (w3.heap.size ≤ ·) n A' c' l' ts) {y : LC} {t : Let} (hy : LIn w5 (w4.heap.size ≤ ·) n y t) (hs : w.heap.size + 3 ≤ w4.heap.size) : LIn (w5.alloc (.cells (letterC y).toArray 29)) (Off (w.heap.size + 3 ≤ ·) A') n y t :=
  hy.lt.keep (fun p hp => World.cell?_alloc_lt w5 _ p hp.2) fun b h => ⟨by have h1 : w4.heap.size ≤ b := h.1; show w.heap.size + 3 ≤ b; omega, fun e => by
    have h1 : w4.heap.size ≤ b := h.1
    rcases hmk.2.1.form with ⟨rfl, _⟩ | ⟨g1, o1, rfl⟩
    · cases e
    · simp at e
      have := hmk.2.1.lt.2
      omega⟩
end

set_option maxRecDepth 100000 in
set_option maxHeartbeats 4000000 in
theorem put_ok (n : Nat) (A : Option Addr) (c : Nat) (l : List LC) (ts : List Let) (p : Int) (x : LC) (t : Let) (w : World) (S : Nat → Prop) (h : letterRow w S n A c l ts) (hx : LIn w S n x t) (hf : boxF l p = 0) (hk : okKind x.kind = true) (h60 : l.length ≠ 60) :
    Calls Try.prog 16 #[boxV A l.length c p, letterV x] w (BoxPost w n 0 p (ts ++ [t])) := by
  have HB := Lib.hid (show ∀ o1 o2 o3, Below w.heap.size w (((w.alloc o1).alloc o2).alloc o3) from fun _ _ _ => (((Below.refl _ _).alloc (Nat.le_refl _) _).alloc (by simp) _).alloc (by simp; omega) _)
  have HR := Lib.hid h.lt
  have HX := Lib.hid hx.lt
  have HCK := Lib.hid (check_any A c l p)
  have HFT := Lib.hid (fits_any x)
  have hlc := h.2.2.2.1
  have hm := h.2.2.2.2.1
  have hl6 : l.length < 60 := by
    unfold boxF at hf
    split at hf
    · cases hf
    · omega
  have be1 : ((l.length : Int) == 60) = false := by simp; omega
  have be2 : (l.length == 60) = false := by simp; omega
  rw [hf] at HCK
  rw [hk] at HFT
  clear h hx hf hk h60
  unfold boxV letterV at *
  go_enter Try.func16, Try.ntmps16
  go_wp2_with fail
  refine (HCK.out _ ((HR.out.below (HB.out _ _ _) fun _ h => h.2).2.1.all) hlc hm).mono ?_
  rintro e w1 ⟨rfl, hb1⟩
  have hb0 := HB.out (.cells #[.slice A l.length c, .int .i64 p] 24) (.cells (letterC x).toArray 29) (.cells #[.slice none 0 0, .int .i64 0] 24)
  have B0 : Box w1 w.heap.size 24 #[.slice A l.length c, .int .i64 p] := (((Box.new w _ _).alloc _).alloc _).below hb1 (by simp <;> omega)
  have B1 : Box w1 (w.heap.size + 1) 29 (letterC x).toArray := by
    have := ((Box.new (w.alloc (.cells #[.slice A l.length c, .int .i64 p] 24)) 29 (letterC x).toArray).alloc (.cells #[.slice none 0 0, .int .i64 0] 24)).below hb1 (by simp <;> omega)
    simpa using this
  have B2 : Box w1 (w.heap.size + 2) 24 #[.slice none 0 0, .int .i64 0] := by
    have := (Box.new ((w.alloc (.cells #[.slice A l.length c, .int .i64 p] 24)).alloc (.cells (letterC x).toArray 29)) 24 #[.slice none 0 0, .int .i64 0]).below hb1 (by simp)
    simpa using this
  have h01 : Below w.heap.size w w1 := hb0.trans (hb1.mono (by simp; omega))
  have hs1 : w.heap.size + 3 ≤ w1.heap.size := by have := hb1.size; simpa using this
  obtain ⟨⟨q0, q1, q2, q3, q4, q5, q6, q7, q8⟩, _⟩ := own_cells9 B1
  clear hb1 hb0 HCK
  go_wp2_with fail
  refine (HFT.out _).mono ?_
  rintro e w2 ⟨rfl, hb2⟩
  have h02 := h01.trans (hb2.mono h01.size)
  have hs2 : w.heap.size + 3 ≤ w2.heap.size := by have := hb2.size; omega
  obtain ⟨a0, a1, _, _⟩ := own_cells2 (B0.below hb2 (by omega))
  obtain ⟨⟨q0, q1, q2, q3, q4, q5, q6, q7, q8⟩, _⟩ := own_cells9 (B1.below hb2 (by omega))
  obtain ⟨r0, r1, z0, z1⟩ := own_cells2 (B2.below hb2 (by omega))
  clear hb2 h01 B0 B1 B2 hs1 HFT
  go_wp2_with fail
  have hi0 : w2.cell? ⟨w.heap.size + 1 + 1, 0, none⟩ = some (cellD w2 ⟨w.heap.size + 1 + 1, 0, none⟩) := cellD_of r0
  have hi1 : w2.cell? ⟨w.heap.size + 1 + 1, 1, none⟩ = some (cellD w2 ⟨w.heap.size + 1 + 1, 1, none⟩) := cellD_of r1
  have z0 : w2.frozen? ⟨w.heap.size + 1 + 1, 0, none⟩ = false := z0
  have z1 : w2.frozen? ⟨w.heap.size + 1 + 1, 1, none⟩ = false := z1
  clear r0 r1
  have HCP := Lib.hid (show Copiesletter n from fun x v w S h => copy_letter n x v w S h)
  have HBY := Lib.hid (show ∀ m, m = ts.length → (m + 1) * 104 ≤ 140737488355328 from fun m hm => by have := HR.out.1; omega)
  go_region_held3 (fun w' => Below w.heap.size w w' ∧ w.heap.size + 3 ≤ w'.heap.size ∧ w'.cell? ⟨w.heap.size, 0, none⟩ = some (.slice A l.length c) ∧ w'.cell? ⟨w.heap.size, 1, none⟩ = some (.int .i64 p) ∧ w'.cell? ⟨w.heap.size + 1, 0, none⟩ = some (.int .i64 x.kind) ∧ w'.cell? ⟨w.heap.size + 1, 1, none⟩ = some (.int .i64 x.frm) ∧ w'.cell? ⟨w.heap.size + 1, 2, none⟩ = some (.int .i64 x.to) ∧ w'.cell? ⟨w.heap.size + 1, 3, none⟩ = some (.int .i64 x.num) ∧ w'.cell? ⟨w.heap.size + 1, 4, none⟩ = some (.string x.text) ∧ w'.cell? ⟨w.heap.size + 1, 5, none⟩ = some (.int .i64 x.v.kind) ∧ w'.cell? ⟨w.heap.size + 1, 6, none⟩ = some (.int .i64 x.v.num) ∧ w'.cell? ⟨w.heap.size + 1, 7, none⟩ = some (.string x.v.text) ∧ w'.cell? ⟨w.heap.size + 1, 8, none⟩ = some (.slice x.v.A x.v.len x.v.cap) ∧ w'.cell? ⟨w.heap.size + 1 + 1, 0, none⟩ = some (cellD w' ⟨w.heap.size + 1 + 1, 0, none⟩) ∧ w'.cell? ⟨w.heap.size + 1 + 1, 1, none⟩ = some (cellD w' ⟨w.heap.size + 1 + 1, 1, none⟩) ∧ w'.frozen? ⟨w.heap.size + 1 + 1, 0, none⟩ = false ∧ w'.frozen? ⟨w.heap.size + 1 + 1, 1, none⟩ = false)
    ((first
      | (refine put_keep (w1 := w2) (below_drewN (Below.refl _ _) 1) rfl ?_; (repeat' apply And.intro) <;> assumption)
      | (refine put_keep (hb4.mono (show _ ∧ w.heap.size + 3 ≤ _ ∧ _ by assumption).2.1) rfl ?_; assumption)
      | (refine put_keep (hb5.mono (show _ ∧ w.heap.size + 3 ≤ _ ∧ _ by assumption).2.1) rfl ?_; assumption)
      | (refine put_keep ((Below.refl _ _).alloc (show _ ∧ w.heap.size + 3 ≤ _ ∧ _ by assumption).2.1 _) rfl ?_; assumption)
      | exact hS6
      | (refine put_keep_set _ _ rfl (put_keep_set _ _ rfl ?_); assumption)
      | (refine put_keep_set _ _ rfl ?_; assumption)
      | go_keep))
    ((first
      | (go_at_call 156; refine (each_letter n HCP.out A c l ts _ _ (HR.out.below (show Below w.heap.size w _ ∧ _ by assumption).1 fun _ h => h.2)).mono ?_; rintro e w4 ⟨A', c', l', rfl, hmk, hby, hb4⟩)
      | (go_at_call 157; refine (copy_letter n x t _ _ (HX.out.below (show Below w.heap.size w _ ∧ _ by assumption).1 fun _ h => h.2)).mono ?_; rintro e w5 ⟨y, rfl, hy, hb5⟩; unfold letterV)
      | (refine step_mk_letter rfl (.tmp 26) (.tmp 29) rfl (w.heap.size + 3) (w.heap.size + 3 ≤ ·) n A' c' l'.length l' ts rfl rfl (put_mk hmk hb5 hs2 y) w5.heap.size y t rfl (letter_new w5 y) (put_y hmk hy (Nat.le_trans hs2 hb4.size)) (HBY.out _ hmk.1) (Nat.le_trans hs2 (Nat.le_trans hb4.size (Nat.le_trans hb5.size (by simp)))) ?_; intro A6 c6 w6 hmk6 hb6; have hS6 := put_keep hb6 rfl (by assumption))))
  have HM6 := Lib.hid hmk6
  have HL6 := Lib.hid (show (l'.length + 1) * 104 ≤ reachBytes by have := HR.out.1; have := hmk.1; unfold reachBytes; omega)
  obtain ⟨h61, h62, _, _, _, _, _, _, _, _, _, _, _, h6a, h6b, _, _⟩ := hS6
  have HW6 := Lib.hid h61
  clear hmk6 hmk hy hb4 hb5 hb6
  go_wp2_with fail
  refine bodyPost_ret (v := .tuple #[boxV A6 (l'.length + 1) c6 p, .int .i64 0]) (by unfold boxV; simp [results, Try.results16, go_sem, h6a, h6b]) rfl ?_
  refine ⟨A6, c6, l' ++ [y], by simp, ((HM6.out.row (by simpa using HL6.out)).keep (fun q hq => ?_) fun b hb => by rcases hb with hb | hb <;> omega), ?_⟩
  · have hq' : w.heap.size + 3 ≤ q.block := by rcases hq with hq | hq <;> exact hq
    rw [cell_far (by show q.block ≠ w.heap.size + 1 + 1; omega), cell_far (by show q.block ≠ w.heap.size + 1 + 1; omega)]
  · exact (HW6.out.setCell (by show w.heap.size ≤ w.heap.size + 1 + 1; omega) _).setCell (by show w.heap.size ≤ w.heap.size + 1 + 1; omega) _
end Go.Proofs.Ytaecgapoaagjfaa
