
/-
  heap.Read.
-/
import Derived.Test.YtgjimjpbogadjaaBd6
import Derived.Test.YtgjimjpbogadjaaBd4
namespace Go.Proofs.Ytgjimjpbogadjaa
open Go.RowKit

/-- A value read, handed back. -/
def RdV (r : Int × Except Int Val) (w : World) (e : Ending) (w' : World) : Prop := Below w.heap.size w w' ∧ ∃ (y : VC) (er : Int), e = .returned (.tuple #[valV y, .int .i64 er]) ∧ match r.2 with
  | .error e' => er = e' ∧ y = vc0
  | .ok v => er = 0 ∧ VIn w' (w.heap.size ≤ ·) 40 y v

set_option maxRecDepth 100000 in
set_option maxHeartbeats 4000000 in
theorem Read_any (u : Nat) (h : List Nat) (A : Option Addr) (c : Nat) (w : World) (hu : u < 18446744073709551616) (hh : HpIn w A c h) :
    Calls Try.prog 11 #[.slice A h.length c, .int .u64 (u : Int)] w (RdV (readV h 40 400 u) w) := by
  have hb1 := (Below.refl w.heap.size w).alloc (Nat.le_refl _) (.cells #[.int .i64 0, .int .i64 0, .string ⟨#[]⟩, .slice none 0 0] 26)
  have hb2 := hb1.alloc (by simp) (.cells #[.slice A h.length c, .int .i64 400] 132)
  have hx0 := (Box.new w 26 #[.int .i64 0, .int .i64 0, .string ⟨#[]⟩, .slice none 0 0]).alloc (.cells #[.slice A h.length c, .int .i64 400] 132)
  have hld : LdBox ((w.alloc (.cells #[.int .i64 0, .int .i64 0, .string ⟨#[]⟩, .slice none 0 0] 26)).alloc (.cells #[.slice A h.length c, .int .i64 400] 132)) (w.heap.size + 1) A h.length c 400 := by
    have := Box.new (w.alloc (.cells #[.int .i64 0, .int .i64 0, .string ⟨#[]⟩, .slice none 0 0] 26)) 132 #[.slice A h.length c, .int .i64 400]
    simpa using this
  have hcall := reads_any 40 u h A c 400 1 (w.heap.size + 1) _ hu (hh.below hb2) ((hh.row.below hb2).more (by omega)) hld (by omega) (by omega) (by omega) (by omega)
  unfold VRes at hcall
  have hgl := hld.lt
  rcases hr : readV h 40 400 u with ⟨l', er | v⟩
  · rw [hr] at hcall
    dsimp only at hcall
    have HC := Lib.hid hcall
    have HB2 := Lib.hid hb2
    have HX0 := Lib.hid hx0
    have hs2 := HX0.out.lt
    clear hcall hr hb1 hx0 hb2
    go_enter Try.func11, Try.ntmps11
    go_upto_region 2 with fail
    have hszz : (w.alloc (.cells #[.int .i64 0, .int .i64 0, .string ⟨#[]⟩, .slice none 0 0] 26)).heap.size = w.heap.size + 1 := by simp
    generalize (w.alloc (.cells #[.int .i64 0, .int .i64 0, .string ⟨#[]⟩, .slice none 0 0] 26)).alloc (.cells #[.slice A h.length c, .int .i64 400] 132) = w2 at *
    go_wp2_with (go_at_call 66; refine HC.out.mono ?_; rintro e w3 ⟨rfl, ho, _⟩; unfold valV vc0; dsimp only; have hx3 := ho.box HX0.out (by omega); obtain ⟨e0, e1, e2, e3, z0, z1, z2, z3⟩ := own_cells4 hx3)
    obtain ⟨wr9, hwr9⟩ : ∃ wr9, wr9 = (((w3.setCell ⟨w.heap.size, 0, none⟩ (.int .i64 0)).setCell ⟨w.heap.size, 1, none⟩ (.int .i64 0)).setCell ⟨w.heap.size, 2, none⟩ (.string ⟨#[]⟩)).setCell ⟨w.heap.size, 3, none⟩ (.slice none 0 0) := ⟨_, rfl⟩
    rw [← hwr9]
    obtain ⟨hx9, ho9⟩ := four_put hx3 0 0 ⟨#[]⟩ none 0 0 wr9 hwr9
    obtain ⟨q0, q1, q2, q3, _⟩ := own_cells4 hx9
    have hbf : Below w.heap.size w wr9 := ho9.to_below (ho.to_below HB2.out HB2.out.size (fun i hi => by omega)) (Nat.le_trans HB2.out.size ho.size) (fun i hi => by omega)
    refine bodyPost_ret (v := .tuple #[valV vc0, .int .i64 er]) (by unfold valV vc0; simp [results, Try.results11, q0, q1, q2, q3, go_sem]) rfl ?_
    exact ⟨hbf, vc0, er, rfl, rfl, rfl⟩
  · rw [hr] at hcall
    dsimp only at hcall
    have HC := Lib.hid hcall
    have HB2 := Lib.hid hb2
    have HX0 := Lib.hid hx0
    have hs2 := HX0.out.lt
    clear hcall hr hb1 hx0 hb2
    go_enter Try.func11, Try.ntmps11
    go_upto_region 2 with fail
    have hszz : (w.alloc (.cells #[.int .i64 0, .int .i64 0, .string ⟨#[]⟩, .slice none 0 0] 26)).heap.size = w.heap.size + 1 := by simp
    generalize (w.alloc (.cells #[.int .i64 0, .int .i64 0, .string ⟨#[]⟩, .slice none 0 0] 26)).alloc (.cells #[.slice A h.length c, .int .i64 400] 132) = w2 at *
    go_wp2_with (go_at_call 66; refine HC.out.mono ?_; rintro e w3 ⟨⟨⟨yk, ym, yt, yA, yl, yc⟩, rfl, hv⟩, ho, _⟩; unfold valV; dsimp only; have hx3 := ho.box HX0.out (by omega); obtain ⟨e0, e1, e2, e3, z0, z1, z2, z3⟩ := own_cells4 hx3)
    obtain ⟨wr9, hwr9⟩ : ∃ wr9, wr9 = (((w3.setCell ⟨w.heap.size, 0, none⟩ (.int .i64 yk)).setCell ⟨w.heap.size, 1, none⟩ (.int .i64 ym)).setCell ⟨w.heap.size, 2, none⟩ (.string yt)).setCell ⟨w.heap.size, 3, none⟩ (.slice yA yl yc) := ⟨_, rfl⟩
    rw [← hwr9]
    obtain ⟨hx9, ho9⟩ := four_put hx3 yk ym yt yA yl yc wr9 hwr9
    obtain ⟨q0, q1, q2, q3, _⟩ := own_cells4 hx9
    have hbf : Below w.heap.size w wr9 := ho9.to_below (ho.to_below HB2.out HB2.out.size (fun i hi => by omega)) (Nat.le_trans HB2.out.size ho.size) (fun i hi => by omega)
    refine bodyPost_ret (v := .tuple #[valV ⟨yk, ym, yt, yA, yl, yc⟩, .int .i64 0]) (by unfold valV; simp [results, Try.results11, q0, q1, q2, q3, go_sem]) rfl ?_
    refine ⟨hbf, ⟨yk, ym, yt, yA, yl, yc⟩, 0, rfl, rfl, hv.lt.keep (fun p hp => ?_) (fun b hb => by have := HB2.out.size; have := hb.1; omega)⟩
    simp only [World.cell?, ho9.block p.block hp.2 (fun e => by have := hp.1; omega)]
end Go.Proofs.Ytgjimjpbogadjaa
