/-
  One end: a packet made.
-/
import Derived.Test.YtaecgapoaagjfaaLineX3
namespace Go.Proofs.Ytaecgapoaagjfaa
open Go.RowKit

def u32 (x : Int) : Int := x % 4294967296
set_option maxRecDepth 100000 in
set_option maxHeartbeats 2000000 in
theorem packet_x (B0 g m : Nat) (s : LS) (r : LR) (f : Nat → Nat) (k : Nat) (w : World) (h : LineAt w B0 g m s r f) (hk : k ≤ 16) (hI : s.I.length ≤ 16) (hw : 0 ≤ s.win ∧ s.win ≤ 16) (_hb : 0 ≤ s.base ∧ s.base < 4294967296) :
    Calls Try.prog 167 #[.pointer (some ⟨g, 0, none⟩), .int .i64 k] w fun e w' => e = .returned (lpkV ⟨u32 (s.base + k), s.want, false, s.win - s.I.length, bc0⟩) ∧ Below w.heap.size w w' := by
  obtain ⟨c0, _, c2, c3, _, c5, _⟩ := h.xs
  have hn := h.o2.1
  rw [← hn] at hI ⊢
  have hgl := h.x.lt
  have hne : g ≠ w.heap.size := by omega
  have hz : ∀ (o : Nat) (v : Value), w.cell? ⟨g, o, none⟩ = some v → (w.alloc (.cells #[.int .u32 0, .int .u32 0, .bool false, .int .i64 0, .slice none 0 0] 85)).cell? ⟨g, o, none⟩ = some v := fun o v hv => (World.cell?_alloc_lt w _ ⟨g, o, none⟩ hgl).trans hv
  have e0 := hz _ _ c0
  have e2 := hz _ _ c2
  have e3 := hz _ _ c3
  have e5 := hz _ _ c5
  have hmod : u32 (s.base + k) = (s.base + (k : Int)) % 4294967296 := rfl
  rw [hmod]
  clear hz h hn hmod
  generalize r.l2.length = n at *
  generalize s.base = bb at *
  generalize s.want = ww at *
  generalize s.win = wi at *
  go_enter Try.func167, Try.ntmps167
  go_wp2_with fail
  go_region
  go_wp2_with fail
  exact bodyPost_ret (v := lpkV ⟨(bb + (k : Int)) % 4294967296, ww, false, wi - n, bc0⟩) (by unfold lpkV bc0; simp [results, Try.results167, go_sem]) rfl ⟨rfl, below_drewN ((Below.refl _ _).alloc (Nat.le_refl _) _) 1⟩
end Go.Proofs.Ytaecgapoaagjfaa
