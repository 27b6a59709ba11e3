
/-
  cache.New, Forget, Counts, Ways.
-/
import Derived.Test.YtdjahlkjfpbifaaCa3
import Derived.WideMake
namespace Go.Proofs.Ytdjahlkjfpbifaa
open Go.RowKit Go.Maps Go.WideMaps

/-- A slice as a value, whatever it holds. -/
structure SlC where
  A : Option Addr
  len : Nat
  cap : Nat
def slV (s : SlC) : Value := .slice s.A s.len s.cap

set_option maxRecDepth 100000 in
set_option maxHeartbeats 1000000 in
theorem new_any (q0 q1 q2 q3 q5 q6 : SlC) (A : Option Addr) (c : Nat) (ims : List Im) (w : World) (hr : Row w w.heap.size A (flat imC ims)) (hA : A = none → c = 0) (hm : ims.length * 40 ≤ 140737488355328) :
    Calls Try.prog 28 #[.agg #[slV q0, slV q1, slV q2, slV q3, .slice A ims.length c, slV q5, slV q6]] w fun e w' => ∃ gk gm AI cI, e = .returned (.pointer (some ⟨gk, 0, none⟩)) ∧ CaSt w' w.heap.size gk gm 0 AI cI ims (fun _ => none) (fun _ => []) 0 0 ∧ Below w.heap.size w w' := by
  have HB := Lib.hid (show ∀ o, Below w.heap.size w (w.alloc o) from fun o => (Below.refl _ _).alloc (Nat.le_refl _) _)
  have HCL := Lib.hid (fun o => clone_im A c ims (w.alloc o).heap.size (w.alloc o) ((hr.below (HB.out o)).more (HB.out o).size) hA hm)
  have hmm := @run_makeMap_plain Try.prog
  clear hr
  unfold slV
  go_enter Try.func28, Try.ntmps28
  go_wp2_with fail
  refine (HCL.out _).mono ?_
  rintro e w1 ⟨v, rfl, hown, hb⟩
  obtain ⟨AI, cI, rfl, ho⟩ := OwnAt.of_own hown
  have HO := Lib.hid (ho.lower (HB.out _).size)
  have HW := Lib.hid ((HB.out _).trans (hb.mono (HB.out _).size))
  clear ho hown hb HCL HB
  have HM := Lib.hid (Rows1.made (w := w1) (base := w.heap.size) (k := 176) HW.out.size)
  have HOM := Lib.hid (HO.out.below ((Below.refl _ _).alloc (Nat.le_refl _) (.map #[] 0)))
  have HWM := Lib.hid (HW.out.alloc HW.out.size (.map #[] 0))
  have hs1 : (w1.alloc (.map #[] 0)).heap.size = w1.heap.size + 1 := by simp
  go_wp2_with fail
  go_ret
  refine ⟨w1.heap.size + 1, w1.heap.size, AI, cI, rfl, ⟨?_, HM.out.below ((Below.refl _ _).alloc (Nat.le_refl _) _), HOM.out.below ((Below.refl _ _).alloc (Nat.le_refl _) _), by have := HW.out.size; omega⟩, HWM.out.alloc HWM.out.size _⟩
  have := Box.new (w1.alloc (.map #[] 0)) 174 #[.slice AI ims.length cI, .map (some w1.heap.size), .int .i64 0, .int .i64 0]
  rw [hs1] at this
  exact this

section
variable {w : World} {base gk gm n : Nat} {AI : Option Addr} {cI : Nat} {ims : List Im} {R : K2 → Option (Option Addr × Nat)} {T : K2 → List Wa} {hits misses : Int}
set_option maxRecDepth 100000 in
theorem counts_any (h : CaSt w base gk gm n AI cI ims R T hits misses) :
    Calls Try.prog 35 #[.pointer (some ⟨gk, 0, none⟩)] w fun e w' => e = .returned (.tuple #[.int .i64 hits, .int .i64 misses]) ∧ Below w.heap.size w w' := by
  have k2 : w.cell? ⟨gk, 2, none⟩ = some (.int .i64 hits) := h.box.cell 2
  have k3 : w.cell? ⟨gk, 3, none⟩ = some (.int .i64 misses) := h.box.cell 3
  clear h
  go_enter Try.func35, Try.ntmps35
  go_upto_region 1 with fail
  go_region_law (fail)
  all_goals (
    go_wp2_with fail
    go_ret2
    exact ⟨rfl, below_drewC (Below.refl _ _)⟩)

set_option maxRecDepth 100000 in
theorem ways_any (h : CaSt w base gk gm n AI cI ims R T hits misses) (a b : Int) (ha : I64 a) (hb : I64 b) :
    Calls Try.prog 37 #[.pointer (some ⟨gk, 0, none⟩), .int .i64 a, .int .i64 b] w fun e w' => ∃ A c, e = .returned (.slice A (T (k2 a b ha hb)).length c) ∧ Row w' w'.heap.size A (flat waC (T (k2 a b ha hb))) ∧ Below w.heap.size w w' := by
  have k1 : w.cell? ⟨gk, 1, none⟩ = some (.map (some gm)) := h.box.cell 1
  have hl := h.rows.look ha hb
  have hl4 := h.rows.len (k2 a b ha hb)
  have hown := h.rows.at (k2 a b ha hb)
  obtain ⟨⟨Ar, cr⟩, har⟩ : ∃ p, rowA R (k2 a b ha hb) = p := ⟨_, rfl⟩
  obtain ⟨L, hL⟩ : ∃ L, T (k2 a b ha hb) = L := ⟨_, rfl⟩
  rw [har, hL] at hl hown
  rw [hL] at hl4 ⊢
  dsimp only at hl hown
  have HCL := Lib.hid (clone_wa Ar cr L w.heap.size w hown.row (fun e => by
    rcases hown.form with ⟨_, _, h0⟩ | ⟨g, o, h0⟩
    · exact h0
    · rw [h0] at e; cases e) (by omega))
  clear h hown har hL hl4
  go_enter Try.func37, Try.ntmps37
  go_wp2_with fail
  refine HCL.out.mono ?_
  rintro e w1 ⟨v, rfl, hown, hb⟩
  obtain ⟨A, c, rfl, ho⟩ := OwnAt.of_own hown
  have HO := Lib.hid ho.row
  clear ho hown
  go_wp2_with fail
  go_ret
  exact ⟨A, c, rfl, HO.out, hb⟩

set_option maxRecDepth 100000 in
theorem forget_any (h : CaSt w base gk gm n AI cI ims R T hits misses) (hb : base ≤ w.heap.size) :
    Calls Try.prog 29 #[.pointer (some ⟨gk, 0, none⟩)] w fun e w' => (∃ v, e = .returned v) ∧ (∃ gm', w.heap.size ≤ gm' ∧ CaSt w' base gk gm' 0 AI cI ims (fun _ => none) (fun _ => []) hits misses) ∧ Only (· = gk) w w' := by
  have k1 : w.cell? ⟨gk, 1, none⟩ = some (.map (some gm)) := h.box.cell 1
  have z1 : w.frozen? ⟨gk, 1, none⟩ = false := h.box.frozen 1
  have hmm := @run_makeMap_plain Try.prog
  have hgk := h.box.lt
  have HST := Lib.hid h
  clear h
  go_enter Try.func29, Try.ntmps29
  go_wp2_with fail
  go_end0
  have ho : Only (· = gk) w (w.setCell ⟨gk, 1, none⟩ (.map (some w.heap.size))) := (Only.refl (· = gk) _).set (p := ⟨gk, 1, none⟩) rfl _
  have hsz : (w.setCell ⟨gk, 1, none⟩ (.map (some w.heap.size))).heap.size = w.heap.size := by simp [World.setCell]
  have hm := Rows1.made (w := w.setCell ⟨gk, 1, none⟩ (.map (some w.heap.size))) (base := base) (k := 176) (by rw [hsz]; exact hb)
  rw [hsz] at hm
  have hbx : Box (w.setCell ⟨gk, 1, none⟩ (.map (some w.heap.size))) gk 174 #[.slice AI ims.length cI, .map (some w.heap.size), .int .i64 hits, .int .i64 misses] := by
    have := HST.out.box.set 1 (.map (some w.heap.size))
    simpa using this
  exact ⟨⟨_, rfl⟩, ⟨w.heap.size, Nat.le_refl _, ⟨hbx.alloc _, hm, (HST.out.ims.only ho (fun q hq e => box_not_own HST.out.box HST.out.ims (by decide) (by rw [hq, e]))).below ((Below.refl _ _).alloc (Nat.le_refl _) _), HST.out.ge⟩⟩, ho.alloc _⟩
end
end Go.Proofs.Ytdjahlkjfpbifaa
