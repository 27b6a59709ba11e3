
/-
  cut: has; a history in memory.
-/
import Derived.Test.YtgkckldflfalgaaCuDef2
import Derived.Test.YtgkckldflfalgaaKey8
import Derived.BigQuiet
import Derived.Deep.RegionHeld3
namespace Go.Proofs.Ytgkckldflfalgaa
open Go.RowKit Go.Maps

theorem ints_at (c : List Int) {i : Nat} (hi : i < c.length) : (ints c)[i]? = some (.int .i64 (c.getD i 0)) := by
  unfold ints
  rw [List.getElem?_map, List.getElem?_eq_getElem hi, List.getD_eq_getElem?_getD, List.getElem?_eq_getElem hi]
  rfl
/-- A box of ints. -/
theorem Box.cutAt {w : World} {g : Nat} {t : TypeId} {c : List Int} (h : Box w g t (ints c).toArray) {i : Nat} (hi : i < c.length) : w.cell? ⟨g, i, none⟩ = some (.int .i64 (c.getD i 0)) := by
  rw [h.cell i, ← ints_at c hi]
  simp
set_option maxRecDepth 100000 in
theorem has_any (c : List Int) (hl : c.length = 8) (p n : Nat) (hp : p < 8) (w : World) :
    Calls Try.prog 15 #[cutV c, .agg #[.int .i64 (p : Int), .int .i64 (n : Int)]] w fun e w' => e = .returned (.bool (hasC c ((p : Int), n))) ∧ Below w.heap.size w w' := by
  have hx1 := (Box.new w 36 (ints c).toArray).alloc (.cells #[.int .i64 (p : Int), .int .i64 (n : Int)] 52)
  have hx2 := Box.new (w.alloc (.cells (ints c).toArray 36)) 52 #[.int .i64 (p : Int), .int .i64 (n : Int)]
  rw [show (w.alloc (.cells (ints c).toArray 36)).heap.size = w.heap.size + 1 by simp] at hx2
  have q0 := hx1.cutAt (i := p) (by omega)
  have q1 : ((w.alloc (.cells (ints c).toArray 36)).alloc (.cells #[.int .i64 (p : Int), .int .i64 (n : Int)] 52)).cell? ⟨w.heap.size + 1, 0, none⟩ = some (.int .i64 (p : Int)) := hx2.cell 0
  have q2 : ((w.alloc (.cells (ints c).toArray 36)).alloc (.cells #[.int .i64 (p : Int), .int .i64 (n : Int)] 52)).cell? ⟨w.heap.size + 1, 1, none⟩ = some (.int .i64 (n : Int)) := hx2.cell 1
  have HB := Lib.hid (((Below.refl w.heap.size w).alloc (Nat.le_refl _) (.cells (ints c).toArray 36)).alloc (by simp) (.cells #[.int .i64 (p : Int), .int .i64 (n : Int)] 52))
  have HV : Hid (hasC c ((p : Int), n) = decide ((n : Int) < c.getD p 0)) := by
    show _ = _
    unfold hasC cval
    rw [Int.toNat_natCast]
  have hp8 : (p : Int) < 8 := by omega
  generalize c.getD p 0 = v at *
  clear hx1 hx2
  unfold cutV
  go_enter Try.func15, Try.ntmps15
  go_upto_region 1 with fail
  generalize (w.alloc (.cells (ints c).toArray 36)).alloc (.cells #[.int .i64 (p : Int), .int .i64 (n : Int)] 52) = w1 at *
  go_quiet (fail)
  all_goals (go_wp2_with fail; go_ret; exact ⟨by rw [HV.out]; rfl, below_drewN HB.out _⟩)
end Go.Proofs.Ytgkckldflfalgaa
