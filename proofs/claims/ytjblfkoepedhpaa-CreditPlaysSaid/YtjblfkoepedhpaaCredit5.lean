/-
  Package credit's pool: Lane, New.
-/
import Derived.Test.YtjblfkoepedhpaaCredit4
import Derived.Laws.MakeOwn
namespace Go.Proofs.Ytjblfkoepedhpaa
open Go.RowKit

set_option maxRecDepth 100000 in
set_option maxHeartbeats 1000000 in
theorem lane_out (g gl : Nat) (room : Int) (t : Nat) (L : List Lane) (i : Int) (w : World) (h : XPool w g gl room t L) (hf : Fit room t L) (hi : ¬ (0 ≤ i ∧ i < L.length)) :
    Calls Try.prog 71 #[.pointer (some ⟨g, 0, none⟩), .int .i64 i] w fun e w' => e = .returned (.tuple #[.int .i64 0, .int .i64 0, .int .i64 0, .int .i64 1]) ∧ ∃ n, w' = w.drewN n := by
  have HT := Lib.hid (there_x g gl room t L i w h hf.n2)
  rw [show decide (0 ≤ i ∧ i < (L.length : Int)) = false by simp; omega] at HT
  clear hi
  go_enter Try.func71, Try.ntmps71
  go_wp2_with fail
  refine HT.out.mono ?_
  rintro e w1 ⟨rfl, nq, rfl⟩
  go_wp2_with fail
  refine bodyPost_ret (v := .tuple #[.int .i64 0, .int .i64 0, .int .i64 0, .int .i64 1]) (by simp [results, Try.results71, go_sem]) rfl ?_
  exact ⟨rfl, _, rfl⟩

set_option maxRecDepth 100000 in
set_option maxHeartbeats 1000000 in
theorem lane_ok (g gl : Nat) (room : Int) (t : Nat) (L : List Lane) (i : Nat) (w : World) (h : XPool w g gl room t L) (hf : Fit room t L) (hi : i < L.length) :
    Calls Try.prog 71 #[.pointer (some ⟨g, 0, none⟩), .int .i64 i] w fun e w' => e = .returned (.tuple #[.int .i64 (L.getD i (0, 0, 0)).1, .int .i64 (L.getD i (0, 0, 0)).2.1, .int .i64 (L.getD i (0, 0, 0)).2.2, .int .i64 0]) ∧ Below w.heap.size w w' := by
  have HT := fun w h => there_x g gl room t L i w h hf.n2
  rw [show decide (0 ≤ (i : Int) ∧ (i : Int) < (L.length : Int)) = true by simp; omega] at HT
  have HTT := Lib.hid HT
  clear HT
  have hi1 : (i : Int) < (L.length : Int) := by omega
  have hi0 : (0 : Int) ≤ (i : Int) := by omega
  generalize hx : L.getD i (0, 0, 0) = x
  have HX := Lib.hid hx
  clear hx
  go_enter Try.func71, Try.ntmps71
  go_wp2_with fail
  refine (HTT.out w h).mono ?_
  rintro e w1 ⟨rfl, nq, rfl⟩
  have hp := h.drewN nq
  have ho := below_drewN (Below.refl w.heap.size w) nq
  generalize w.drewN nq = w1 at *
  have c2 := hp.c2
  have l0 := hp.l0 hi
  have l1 := hp.l1 hi
  have l2 := hp.l2 hi
  rw [HX.out] at l0 l1 l2
  go_wp2_with fail
  go_quiet (fail)
  go_wp2_with fail
  refine bodyPost_ret (v := .tuple #[.int .i64 x.1, .int .i64 x.2.1, .int .i64 x.2.2, .int .i64 0]) (by simp [results, Try.results71, go_sem]) rfl ?_
  exact ⟨rfl, below_drewN (ho.alloc ho.size _) _⟩

theorem new_out (room lanes : Int) (w : World) (h : ¬ (1 ≤ room ∧ room ≤ 64 ∧ 1 ≤ lanes ∧ lanes ≤ 8)) :
    Calls Try.prog 63 #[.int .i64 room, .int .i64 lanes] w fun e w' => e = .returned (.tuple #[.pointer none, .int .i64 1]) ∧ w = w' := by
  by_cases h1 : room < 1
  · have d1 : decide (room < 1) = true := by simp; omega
    go_enter Try.func63, Try.ntmps63
    go_wp2_with fail
    go_ret2
    exact ⟨rfl, rfl⟩
  have d1 : decide (room < 1) = false := by simp; omega
  by_cases h2 : 64 < room
  · have d2 : decide (64 < room) = true := by simp; omega
    go_enter Try.func63, Try.ntmps63
    go_wp2_with fail
    go_ret2
    exact ⟨rfl, rfl⟩
  have d2 : decide (64 < room) = false := by simp; omega
  by_cases h3 : lanes < 1
  · have d3 : decide (lanes < 1) = true := by simp; omega
    go_enter Try.func63, Try.ntmps63
    go_wp2_with fail
    go_ret2
    exact ⟨rfl, rfl⟩
  have d3 : decide (lanes < 1) = false := by simp; omega
  have d4 : decide (8 < lanes) = true := by simp; omega
  clear h
  go_enter Try.func63, Try.ntmps63
  go_wp2_with fail
  go_ret2
  exact ⟨rfl, rfl⟩

def zeros (n : Nat) : List Lane := List.replicate n (0, 0, 0)
theorem zeros_len (n : Nat) : (zeros n).length = n := by simp [zeros]
theorem made_lanes : ∀ n : Nat, n ≤ 8 → madeCells #[.int .i64 0, .int .i64 0, .int .i64 0] (n * 3) = (flat laneC (zeros n)).toArray
  | 0, _ => by kernel_rfl
  | 1, _ => by kernel_rfl
  | 2, _ => by kernel_rfl
  | 3, _ => by kernel_rfl
  | 4, _ => by kernel_rfl
  | 5, _ => by kernel_rfl
  | 6, _ => by kernel_rfl
  | 7, _ => by kernel_rfl
  | 8, _ => by kernel_rfl
  | n + 9, h => absurd h (by omega)
theorem lane_info : (Try.prog.info? 153).map (fun i => (i.zero, i.size, i.bytes)) = some (some (.agg #[.int .i64 0, .int .i64 0, .int .i64 0]), 3, 24) := by kernel_rfl
theorem arr3_info : (Try.prog.info? 97).map (fun i => (i.zero, i.size, i.bytes)) = some (some (.agg #[.int .i64 0, .int .i64 0, .int .i64 0]), 3, 24) := by kernel_rfl
theorem run_made (t e : TypeId) (ht : Try.prog.underlying t = some (.slice e)) (hi : (Try.prog.info? e).map (fun i => (i.zero, i.size, i.bytes)) = some (some (.agg #[.int .i64 0, .int .i64 0, .int .i64 0]), 3, 24)) (n : Nat) (hn : n ≤ 8) (w : World) :
    (Instr.makeSlice t (.int .i64 n) (.int .i64 n)).run Try.prog w = .ok (.slice (some ⟨w.heap.size, 0, none⟩) n n) (w.alloc (.cells (flat laneC (zeros n)).toArray e)) := by
  obtain ⟨i0, hi0, hz0, hz1, hz2⟩ := info_parts hi
  have hr := run_makeSlice (P := Try.prog) w t e i0 _ ht hi0 hz0 .i64 .i64 (n : Int) (n : Int) (by omega) (by omega) (by rw [hz1]; simp; omega) (by rw [hz2]; omega) (by omega)
  simp only [Int.toNat_natCast] at hr
  rw [hr, hz1, show (Value.agg #[.int .i64 0, .int .i64 0, .int .i64 0]).cells = #[.int .i64 0, .int .i64 0, .int .i64 0] from rfl, made_lanes n hn]

set_option maxRecDepth 100000 in
set_option maxHeartbeats 1000000 in
theorem new_ok (room : Int) (n : Nat) (w : World) (h : 1 ≤ room ∧ room ≤ 64) (hn : 1 ≤ n ∧ n ≤ 8) :
    Calls Try.prog 63 #[.int .i64 room, .int .i64 n] w fun e w' => e = .returned (.tuple #[.pointer (some ⟨w.heap.size + 1, 0, none⟩), .int .i64 0]) ∧ XPool w' (w.heap.size + 1) w.heap.size room 0 (zeros n) ∧ Below w.heap.size w w' := by
  have d1 : decide (room < 1) = false := by simp; omega
  have d2 : decide (64 < room) = false := by simp; omega
  have d3 : decide ((n : Int) < 1) = false := by simp; omega
  have d3' : decide (n < 1) = false := by simp; omega
  have d4 : decide (8 < (n : Int)) = false := by simp; omega
  have d4' : decide (8 < n) = false := by simp; omega
  have hmk := run_made 149 153 Try.underlying149 lane_info n hn.2
  go_enter Try.func63, Try.ntmps63
  go_wp2_with fail
  go_ret2
  refine ⟨rfl, ⟨?_, ?_, by omega⟩, ((Below.refl _ _).alloc (Nat.le_refl _) _).alloc (by simp) _⟩
  · rw [zeros_len]
    have := Box.new (w.alloc (.cells (flat laneC (zeros n)).toArray 153)) 151 #[.int .i64 room, .int .i64 0, .slice (some ⟨w.heap.size, 0, none⟩) n n]
    simpa using this
  · exact (Box.new w 153 (flat laneC (zeros n)).toArray).alloc _
end Go.Proofs.Ytjblfkoepedhpaa
