/-
  Package credit's pool and the reference's: memory, Left, next, there.
-/
import Derived.Test.YtjblfkoepedhpaaOnly
import Derived.Test.YtjblfkoepedhpaaCreditLaw
import Derived.IntWalk
import Derived.Outline
namespace Go.Proofs.Ytjblfkoepedhpaa
open Go.RowKit

def laneC (x : Lane) : List Value := [.int .i64 x.1, .int .i64 x.2.1, .int .i64 x.2.2]
theorem laneC_len (x : Lane) : (laneC x).length = 3 := rfl

/-- A pool in memory: its own block, its lanes' block. -/
structure PoolAt (tp te : TypeId) (w : World) (g gl : Nat) (room : Int) (t : Nat) (L : List Lane) : Prop where
  own : Box w g tp #[.int .i64 room, .int .i64 t, .slice (some ⟨gl, 0, none⟩) L.length L.length]
  lanes : Box w gl te (flat laneC L).toArray
  ne : g ≠ gl

section
variable {tp te : TypeId} {w w' : World} {g gl : Nat} {room : Int} {t : Nat} {L : List Lane}
theorem PoolAt.c0 (h : PoolAt tp te w g gl room t L) : w.cell? ⟨g, 0, none⟩ = some (.int .i64 room) := by simpa using h.own.cell 0
theorem PoolAt.c1 (h : PoolAt tp te w g gl room t L) : w.cell? ⟨g, 1, none⟩ = some (.int .i64 t) := by simpa using h.own.cell 1
theorem PoolAt.c2 (h : PoolAt tp te w g gl room t L) : w.cell? ⟨g, 2, none⟩ = some (.slice (some ⟨gl, 0, none⟩) L.length L.length) := by simpa using h.own.cell 2
theorem PoolAt.l0 (h : PoolAt tp te w g gl room t L) {i : Nat} (hi : i < L.length) : w.cell? ⟨gl, i * 3, none⟩ = some (.int .i64 (L.getD i (0, 0, 0)).1) := Box.elem (j := 0) laneC_len h.lanes (getD_some (0, 0, 0) hi) rfl
theorem PoolAt.l1 (h : PoolAt tp te w g gl room t L) {i : Nat} (hi : i < L.length) : w.cell? ⟨gl, i * 3 + 1, none⟩ = some (.int .i64 (L.getD i (0, 0, 0)).2.1) := Box.elem (j := 1) laneC_len h.lanes (getD_some (0, 0, 0) hi) rfl
theorem PoolAt.l2 (h : PoolAt tp te w g gl room t L) {i : Nat} (hi : i < L.length) : w.cell? ⟨gl, i * 3 + 2, none⟩ = some (.int .i64 (L.getD i (0, 0, 0)).2.2) := Box.elem (j := 2) laneC_len h.lanes (getD_some (0, 0, 0) hi) rfl
theorem PoolAt.below (h : PoolAt tp te w g gl room t L) (hb : Below w.heap.size w w') : PoolAt tp te w' g gl room t L := ⟨h.own.below hb h.own.lt, h.lanes.below hb h.lanes.lt, h.ne⟩
theorem PoolAt.drewN (h : PoolAt tp te w g gl room t L) (n : Nat) : PoolAt tp te (w.drewN n) g gl room t L := ⟨h.own, h.lanes, h.ne⟩
theorem PoolAt.drew (h : PoolAt tp te w g gl room t L) : PoolAt tp te w.drew g gl room t L := ⟨h.own, h.lanes, h.ne⟩
theorem PoolAt.alloc (h : PoolAt tp te w g gl room t L) (o : Obj) : PoolAt tp te (w.alloc o) g gl room t L := ⟨h.own.alloc o, h.lanes.alloc o, h.ne⟩
theorem PoolAt.only {S : Nat → Prop} (h : PoolAt tp te w g gl room t L) (ho : Only S w w') (h1 : ¬ S g) (h2 : ¬ S gl) : PoolAt tp te w' g gl room t L := ⟨ho.box h.own h1, ho.box h.lanes h2, h.ne⟩
theorem PoolAt.turn (h : PoolAt tp te w g gl room t L) (t' : Nat) : PoolAt tp te (w.setCell ⟨g, 1, none⟩ (.int .i64 t')) g gl room t' L :=
  ⟨h.own.set 1 _, h.lanes.far (p := ⟨g, 1, none⟩) (fun e => h.ne e.symm) _, h.ne⟩
theorem PoolAt.put (h : PoolAt tp te w g gl room t L) {i j : Nat} (u : Value) (hi : i < L.length) (hj : j < 3) (y : Lane) (hy : laneC y = (laneC (L.getD i (0, 0, 0))).set j u) :
    PoolAt tp te (w.setCell ⟨gl, i * 3 + j, none⟩ u) g gl room t (L.set i y) :=
  ⟨by rw [List.length_set]; exact h.own.far (p := ⟨gl, i * 3 + j, none⟩) h.ne _, Box.put laneC_len h.lanes u (getD_some (0, 0, 0) hi) hj y hy, h.ne⟩
end

abbrev XPool := PoolAt 151 153
abbrev MPool := PoolAt 96 97

theorem spent_bounds {room : Int} {t : Nat} {L : List Lane} (hf : Fit room t L) (k : Nat) : 0 ≤ spent (L.take k) ∧ spent (L.take k) ≤ room := by
  have h0 : 0 ≤ spent (L.take k) := spent_nonneg fun x hx => by have := hf.each x (List.mem_of_mem_take hx); omega
  have h1 : 0 ≤ spent (L.drop k) := spent_nonneg fun x hx => by have := hf.each x (List.mem_of_mem_drop hx); omega
  have h2 : spent L = spent (L.take k) + spent (L.drop k) := by
    conv => lhs; rw [← List.take_append_drop k L]
    unfold spent
    rw [List.map_append, List.sum_append]
  have := hf.fits
  omega

set_option maxRecDepth 100000 in
set_option maxHeartbeats 1000000 in
theorem left_x (g gl : Nat) (room : Int) (t : Nat) (L : List Lane) (w : World) (h : XPool w g gl room t L) (hf : Fit room t L) :
    Calls Try.prog 69 #[.pointer (some ⟨g, 0, none⟩)] w fun e w' => e = .returned (.int .i64 (room - spent L)) ∧ Below w.heap.size w w' := by
  have c0 := h.c0
  have c2 := h.c2
  have hr1 := hf.r1
  have hr2 := hf.r2
  have hn2 := hf.n2
  go_enter Try.func69, Try.ntmps69
  go_wp2_with fail
  go_loopw [3, 15] (fun v3 v15 wr => ∃ k : Nat, k ≤ L.length ∧ v15 = .int .i64 k ∧ v3 = .int .i64 (room - spent (L.take k)) ∧ Below w.heap.size w wr) (fun _ v15 _ => L.length - (intOf v15).toNat)
  case atStart => exact ⟨0, by omega, rfl, by simp [spent], Below.refl _ _⟩
  case round =>
    obtain ⟨k, hk, rfl, rfl, hb⟩ := hrel
    have hs1 := spent_bounds hf k
    by_cases hlt : k < L.length
    · have hp := h.below hb
      have l0 := hp.l0 hlt
      have l1 := hp.l1 hlt
      have l2 := hp.l2 hlt
      have hs2 := spent_bounds hf (k + 1)
      have hst := spent_take L (0, 0, 0) hlt
      have hm := hf.each _ (getD_of_mem hlt)
      generalize L.getD k (0, 0, 0) = x at *
      have HS := Lib.hid hst
      have hxx : x.2.1 + x.2.2 ≤ 64 := by omega
      have hlo : 0 ≤ room - spent (L.take k) - (x.2.1 + x.2.2) := by omega
      clear hst
      go_wp2_with fail
      go_roundw
      case rel => exact ⟨k + 1, by omega, by go_num, by congr 1; rw [HS.out]; omega, hb.alloc hb.size _⟩
      case measure => simp [intOf]; omega
    · go_wp2_with fail
      go_ret
      refine ⟨?_, hb⟩
      rw [List.take_of_length_le (by omega)]
      rfl

set_option maxRecDepth 100000 in
set_option maxHeartbeats 1000000 in
theorem left_m (g gl : Nat) (room : Int) (t : Nat) (L : List Lane) (w : World) (h : MPool w g gl room t L) (hf : Fit room t L) :
    Calls Try.prog 70 #[.pointer (some ⟨g, 0, none⟩)] w fun e w' => e = .returned (.int .i64 (room - spent L)) ∧ Below w.heap.size w w' := by
  have c0 := h.c0
  have c2 := h.c2
  have hr1 := hf.r1
  have hr2 := hf.r2
  have hn2 := hf.n2
  go_enter Try.func70, Try.ntmps70
  go_wp2_with fail
  go_loopw [3, 15] (fun v3 v15 wr => ∃ k : Nat, k ≤ L.length ∧ v15 = .int .i64 k ∧ v3 = .int .i64 (room - spent (L.take k)) ∧ Below w.heap.size w wr) (fun _ v15 _ => L.length - (intOf v15).toNat)
  case atStart => exact ⟨0, by omega, rfl, by simp [spent], Below.refl _ _⟩
  case round =>
    obtain ⟨k, hk, rfl, rfl, hb⟩ := hrel
    have hs1 := spent_bounds hf k
    by_cases hlt : k < L.length
    · have hp := h.below hb
      have l0 := hp.l0 hlt
      have l1 := hp.l1 hlt
      have l2 := hp.l2 hlt
      have hs2 := spent_bounds hf (k + 1)
      have hst := spent_take L (0, 0, 0) hlt
      have hm := hf.each _ (getD_of_mem hlt)
      generalize L.getD k (0, 0, 0) = x at *
      have HS := Lib.hid hst
      have hxx : x.2.1 + x.2.2 ≤ 64 := by omega
      have hlo : 0 ≤ room - spent (L.take k) - (x.2.1 + x.2.2) := by omega
      clear hst
      go_wp2_with fail
      go_roundw
      case rel => exact ⟨k + 1, by omega, by go_num, by congr 1; rw [HS.out]; omega, hb.alloc hb.size _⟩
      case measure => simp [intOf]; omega
    · go_wp2_with fail
      go_ret
      refine ⟨?_, hb⟩
      rw [List.take_of_length_le (by omega)]
      rfl
end Go.Proofs.Ytjblfkoepedhpaa
