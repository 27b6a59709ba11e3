/-
  One end: a body put.
-/
import Derived.Test.YtaecgapoaagjfaaLineX2
namespace Go.Proofs.Ytaecgapoaagjfaa
open Go.RowKit

def putE (s : LS) (bs : Body) : Int := if 1048576 < bs.length then 2 else if (s.Q.length : Int) = s.win then 9 else 0
/-- What Put leaves. -/
def PutPost (B0 g m : Nat) (s : LS) (e0 : Int) (w : World) (e : Ending) (w' : World) : Prop :=
  e = .returned (.int .i64 e0) ∧ Below B0 w w' ∧ ∃ r' f', LineAt w' B0 g m s r' f'

section
variable {w w1 : World} {B0 g m : Nat} {s : LS} {r : LR} {f : Nat → Nat}
/-- The row of those that wait, behind a copy and one more alloc. -/
theorem LineAt.wait (h : LineAt w B0 g m s r f) (hb : Below w.heap.size w w1) (o : Obj) : pendMk (w1.alloc o) B0 (fun b => lab0 f w.heap.size b = 0) 0 r.A1 r.c1 r.l1 s.Q := by
  refine h.o1.only (T := fun _ => False) ?_ (fun _ _ h => h) (fun b hb hl => ⟨fun h => h, by show lab0 f w.heap.size b = 0; unfold lab0; rw [if_pos hl]; exact hb⟩)
  exact (Only.of_below hb).alloc o
theorem LineAt.fresh (h : LineAt w B0 g m s r f) {y : BC} {bs : Body} (hy : BIn w1 (w.heap.size ≤ ·) 0 y bs) (o : Obj) : PIn (w1.alloc o) (Off (fun b => lab0 f w.heap.size b = 0) r.A1) 0 ⟨y, false⟩ (bs, false) :=
  ⟨rfl, hy.lt.keep (fun p hp => World.cell?_alloc_lt w1 o p hp.2) fun b hp => ⟨by
    have h1 : w.heap.size ≤ b := hp.1
    show lab0 f w.heap.size b = 0
    unfold lab0
    rw [if_neg (by omega)], fun e => by
    have h1 : w.heap.size ≤ b := hp.1
    have := blk_lt h.o1.2.1 (show blk r.A1 b from e)
    omega⟩⟩
theorem LineAt.turned (h : LineAt w B0 g m s r f) (hb : Below w.heap.size w w1) (o : Obj) {w3 : World} (ho : Only (fun b => r.A1.map (·.block) = some b) (w1.alloc o) w3) : Only (fun b => f b = 3) w w3 :=
  ((Only.of_below hb).alloc o).trans (ho.more fun b hb => h.f1 b hb)
end

set_option maxRecDepth 100000 in
set_option maxHeartbeats 4000000 in
theorem put_x (B0 g m : Nat) (s : LS) (r : LR) (f : Nat → Nat) (x : BC) (bs : Body) (S : Nat → Prop) (w : World) (h : LineAt w B0 g m s r f) (hx : BIn w S 0 x bs) (hB : B0 ≤ w.heap.size) (hl : s.Q.length ≤ 16) (hbs : bs.length ≤ 1048576) (hw : ¬ ((s.Q.length : Int) = s.win)) :
    Calls Try.prog 42 #[.pointer (some ⟨g, 0, none⟩), .slice x.A x.len x.cap] w (PutPost B0 g m { s with Q := s.Q ++ [(bs, false)] } 0 w) := by
  have HH := Lib.hid h
  have hn := h.o1.1
  obtain ⟨c0, _, _, _, c4, _, _⟩ := h.xs
  have fr4 := h.x.frozen 4
  have d1 : decide ((1048576 : Int) < (x.len : Int)) = false := by rw [hx.1]; simp; omega
  have d1' : decide (1048576 < x.len) = false := by rw [hx.1]; simp; omega
  have d2 : ((r.l1.length : Int) == s.win) = false := by rw [hn]; simpa using hw
  have HC := Lib.hid (fun (w' : World) (h' : BIn w' S 0 x bs) => clone_body x bs 0 S w' h' (by omega))
  have HX := Lib.hid hx
  have HNN := Lib.hid hn
  have hgl := h.x.lt
  have hbk : (r.l1.length + 1) * 32 ≤ 140737488355328 := by omega
  clear hx hw hn h
  go_enter Try.func42, Try.ntmps42
  go_wp2_with fail
  go_quiet (fail)
  go_upto_region 5 with fail
  have hq : LineAt (w.drewN nq) B0 g m s r f := HH.out.below (below_drewN (Below.refl _ _) nq)
  have hxq : BIn (w.drewN nq) S 0 x bs := HX.out.keep (w := w) (w' := w.drewN nq) (fun _ _ => rfl) fun _ h => h
  have hbq : Below B0 w (w.drewN nq) := below_drewN (Below.refl _ _) nq
  have hBq : B0 ≤ (w.drewN nq).heap.size := hB
  have c4q : (w.drewN nq).cell? ⟨g, 4, none⟩ = some (.slice r.A1 r.l1.length r.c1) := c4
  have fr4q : (w.drewN nq).frozen? ⟨g, 4, none⟩ = false := fr4
  have hglq : g < (w.drewN nq).heap.size := hgl
  clear c0 c4 fr4 d1 d1' d2 HX HH hB hgl
  generalize w.drewN nq = wq at *
  have HQ := Lib.hid hq
  have HCC := Lib.hid (HC.out wq.drew (hxq.keep (w := wq) (w' := wq.drew) (fun _ _ => rfl) fun _ h => h))
  have HBQ := Lib.hid hbq
  clear hq hxq hbq HC
  go_region_law ((first
    | (go_simp; go_at_call 166; refine HCC.out.mono ?_; rintro e w1 ⟨y, rfl, hy, hb1⟩; have hb1' : Below wq.heap.size wq w1 := (below_drewN (Below.refl _ _) 1).trans hb1; have c41 := (hb1'.cell (p := ⟨g, 4, none⟩) hglq).trans c4q; have c42 := fun o => (World.cell?_alloc_lt w1 o ⟨g, 4, none⟩ (lt_of_cell c41)).trans c41)
    | (refine step_mk2_pend rfl (.tmp 24) (.tmp 28) rfl B0 (fun b => lab0 f wq.heap.size b = 0) 0 r.A1 r.c1 r.l1.length r.l1 s.Q rfl rfl (HQ.out.wait hb1' _) w1.heap.size ⟨y, false⟩ (bs, false) rfl (pend_new w1 ⟨y, false⟩) (HQ.out.fresh hy _) hbk ?_ ?_
       · simp; have := hb1'.size; omega
       intro A' c' w3 hmk3 hb3 ho3 hA3
       have ho3' := HQ.out.turned hb1' _ ho3
       have c43 : w3.cell? ⟨g, 4, none⟩ = some (.slice r.A1 r.l1.length r.c1) := (ho3'.box HQ.out.x (by rw [HQ.out.fg]; omega)).cell 4
       have fr43 := (ho3'.box HQ.out.x (by rw [HQ.out.fg]; omega)).frozen 4)))
  all_goals (
    have hL := HQ.out.put1 ho3' hmk3 (fun b hb => by
      rcases hA3 b hb with h1 | h1
      · exact .inl (HQ.out.f1 b h1)
      · have := hb1'.size
        simp at h1
        exact .inr (by omega))
    rw [List.length_append, List.length_singleton] at hL
    have HL := Lib.hid hL
    have HB3 := Lib.hid (show Below B0 w w3 from (HBQ.out.trans ((hb1'.mono hBq).alloc (Nat.le_trans hBq hb1'.size) _)).trans hb3)
    have hgB := HQ.out.hg
    clear hL hmk3 hb3 ho3 hA3 ho3' hy hb1 hb1' c41 c42 c43 fr43
    go_wp2_with fail
    go_ret
    exact ⟨rfl, HB3.out.setCell hgB _, _, _, HL.out⟩)

set_option maxRecDepth 100000 in
theorem put_large (B0 g m : Nat) (s : LS) (r : LR) (f : Nat → Nat) (x : BC) (w : World) (h : LineAt w B0 g m s r f) (hl : 1048576 < x.len) :
    Calls Try.prog 42 #[.pointer (some ⟨g, 0, none⟩), .slice x.A x.len x.cap] w (PutPost B0 g m s 2 w) := by
  have HH := Lib.hid h
  have d1 : decide ((1048576 : Int) < (x.len : Int)) = true := by simp; omega
  have d1' : decide (1048576 < x.len) = true := by simp; omega
  clear h hl
  go_enter Try.func42, Try.ntmps42
  go_wp2_with fail
  go_ret
  exact ⟨rfl, Below.refl _ _, r, f, HH.out⟩
set_option maxRecDepth 100000 in
theorem put_full (B0 g m : Nat) (s : LS) (r : LR) (f : Nat → Nat) (x : BC) (w : World) (h : LineAt w B0 g m s r f) (hl : x.len ≤ 1048576) (hw : (s.Q.length : Int) = s.win) :
    Calls Try.prog 42 #[.pointer (some ⟨g, 0, none⟩), .slice x.A x.len x.cap] w (PutPost B0 g m s 9 w) := by
  have HH := Lib.hid h
  obtain ⟨c0, _, _, _, c4, _, _⟩ := h.xs
  have d1 : decide ((1048576 : Int) < (x.len : Int)) = false := by simp; omega
  have d1' : decide (1048576 < x.len) = false := by simp; omega
  have d2 : ((r.l1.length : Int) == s.win) = true := by rw [h.o1.1]; simpa using hw
  clear h hl hw
  go_enter Try.func42, Try.ntmps42
  go_wp2_with fail
  go_quiet (fail)
  go_wp2_with fail
  go_ret
  exact ⟨rfl, below_drewN (Below.refl _ _) _, r, f, HH.out.below (below_drewN (Below.refl _ _) _)⟩
end Go.Proofs.Ytaecgapoaagjfaa
