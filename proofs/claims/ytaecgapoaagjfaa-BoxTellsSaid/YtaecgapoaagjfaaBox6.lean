/-
  What Put answers, whatever it is handed.
-/
import Derived.Test.YtaecgapoaagjfaaBox5
namespace Go.Proofs.Ytaecgapoaagjfaa
open Go.RowKit

theorem box3 {w w1 : World} {e : TypeId} {cs : Array Value} {o1 o2 : Obj} (hb : Below (((w.alloc o1).alloc o2).alloc (.cells cs e)).heap.size (((w.alloc o1).alloc o2).alloc (.cells cs e)) w1) : Box w1 (w.heap.size + 1 + 1) e cs := by
  have := (Box.new ((w.alloc o1).alloc o2) e cs).below hb (by simp)
  simpa using this
theorem below3 {w w1 : World} {o1 o2 o3 : Obj} (hb : Below (((w.alloc o1).alloc o2).alloc o3).heap.size (((w.alloc o1).alloc o2).alloc o3) w1) : Below w.heap.size w w1 :=
  ((((Below.refl w.heap.size w).alloc (Nat.le_refl _) _).alloc (by simp) _).alloc (by simp; omega) _).trans (hb.mono (by simp; omega))

set_option maxRecDepth 100000 in
set_option maxHeartbeats 1000000 in
theorem put_any (n : Nat) (A : Option Addr) (c : Nat) (l : List LC) (ts : List Let) (p : Int) (x : LC) (t : Let) (w : World) (S : Nat → Prop) (h : letterRow w S n A c l ts) (hx : LIn w S n x t) :
    Calls Try.prog 16 #[boxV A l.length c p, letterV x] w (BoxPost w n (putF l p x) (if putF l p x = 0 then p else 0) (if putF l p x = 0 then ts ++ [t] else [])) := by
  unfold putF
  have HB := Lib.hid (show ∀ o1 o2 o3, Below w.heap.size w (((w.alloc o1).alloc o2).alloc o3) from fun _ _ _ => (((Below.refl _ _).alloc (Nat.le_refl _) _).alloc (by simp) _).alloc (by simp; omega) _)
  have HR := Lib.hid h.lt
  have HCK := Lib.hid (check_any A c l p)
  have HFT := Lib.hid (fits_any x)
  have hlc := h.2.2.2.1
  have hm := h.2.2.2.2.1
  by_cases hf : boxF l p = 0
  · rw [if_neg (fun h => h hf)]
    by_cases hk : okKind x.kind = true
    · rw [if_neg (by rw [hk]; simp)]
      by_cases h60 : l.length = 60
      · rw [if_pos h60, if_neg (by decide), if_neg (by decide)]
        rw [hf] at HCK
        rw [hk] at HFT
        have be1 : ((l.length : Int) == 60) = true := by simp; omega
        have be2 : (l.length == 60) = true := by simp; omega
        clear hf hk h60 h hx
        unfold boxV letterV at *
        go_enter Try.func16, Try.ntmps16
        go_wp2_with fail
        refine (HCK.out _ ((HR.out.below (HB.out _ _ _) fun _ h => h.2).2.1.all) hlc hm).mono ?_
        rintro e w1 ⟨rfl, hb1⟩
        have B0 : Box w1 w.heap.size 24 #[.slice A l.length c, .int .i64 p] := (((Box.new w _ _).alloc _).alloc _).below hb1 (by simp <;> omega)
        have B1 : Box w1 (w.heap.size + 1) 29 (letterC x).toArray := by
          have := ((Box.new (w.alloc (.cells #[.slice A l.length c, .int .i64 p] 24)) 29 (letterC x).toArray).alloc (.cells #[.slice none 0 0, .int .i64 0] 24)).below hb1 (by simp <;> omega)
          simpa using this
        have B2 := box3 hb1
        have h01 := below3 hb1
        have hs1 : w.heap.size + 3 ≤ w1.heap.size := by have := hb1.size; simpa using this
        obtain ⟨⟨q0, q1, q2, q3, q4, q5, q6, q7, q8⟩, _⟩ := own_cells9 B1
        clear hb1 HCK
        go_wp2_with fail
        refine (HFT.out _).mono ?_
        rintro e w2 ⟨rfl, hb2⟩
        have HW := Lib.hid (h01.trans (hb2.mono h01.size))
        obtain ⟨a0, a1, _, _⟩ := own_cells2 (B0.below hb2 (by omega))
        obtain ⟨r0, r1, z0, z1⟩ := own_cells2 (B2.below hb2 (by omega))
        clear hb2 h01 B0 B1 B2 hs1 HFT
        go_wp2_with fail
        refine bodyPost_ret (v := .tuple #[boxV none 0 0 0, .int .i64 6]) (by unfold boxV; simp [results, Try.results16, go_sem, r0, r1]) rfl ?_
        exact ⟨none, 0, [], rfl, letterRow.none, (HW.out.setCell (by show w.heap.size ≤ w.heap.size + 1 + 1; omega) _).setCell (by show w.heap.size ≤ w.heap.size + 1 + 1; omega) _⟩
      · rw [if_neg h60, if_pos rfl, if_pos rfl]
        exact put_ok n A c l ts p x t w S h hx hf hk h60
    · rw [if_pos (by simpa using hk), if_neg (by decide), if_neg (by decide)]
      rw [hf] at HCK
      rw [show okKind x.kind = false by simpa using hk] at HFT
      clear hf hk h hx
      unfold boxV letterV at *
      go_enter Try.func16, Try.ntmps16
      go_wp2_with fail
      refine (HCK.out _ ((HR.out.below (HB.out _ _ _) fun _ h => h.2).2.1.all) hlc hm).mono ?_
      rintro e w1 ⟨rfl, hb1⟩
      have B1 : Box w1 (w.heap.size + 1) 29 (letterC x).toArray := by
        have := ((Box.new (w.alloc (.cells #[.slice A l.length c, .int .i64 p] 24)) 29 (letterC x).toArray).alloc (.cells #[.slice none 0 0, .int .i64 0] 24)).below hb1 (by simp <;> omega)
        simpa using this
      have B2 := box3 hb1
      have h01 := below3 hb1
      have hs1 : w.heap.size + 3 ≤ w1.heap.size := by have := hb1.size; simpa using this
      obtain ⟨⟨q0, q1, q2, q3, q4, q5, q6, q7, q8⟩, _⟩ := own_cells9 B1
      clear hb1 HCK
      go_wp2_with fail
      refine (HFT.out _).mono ?_
      rintro e w2 ⟨rfl, hb2⟩
      have HW := Lib.hid (h01.trans (hb2.mono h01.size))
      obtain ⟨r0, r1, z0, z1⟩ := own_cells2 (B2.below hb2 (by omega))
      clear hb2 h01 B1 B2 hs1 HFT
      go_wp2_with fail
      refine bodyPost_ret (v := .tuple #[boxV none 0 0 0, .int .i64 3]) (by unfold boxV; simp [results, Try.results16, go_sem, r0, r1]) rfl ?_
      exact ⟨none, 0, [], rfl, letterRow.none, (HW.out.setCell (by show w.heap.size ≤ w.heap.size + 1 + 1; omega) _).setCell (by show w.heap.size ≤ w.heap.size + 1 + 1; omega) _⟩
  · rw [if_pos hf, if_neg hf, if_neg hf]
    clear h hx HFT
    generalize boxF l p = f at *
    have bf : (f != 0) = true := by simp [hf]
    clear hf
    unfold boxV letterV at *
    go_enter Try.func16, Try.ntmps16
    go_wp2_with fail
    refine (HCK.out _ ((HR.out.below (HB.out _ _ _) fun _ h => h.2).2.1.all) hlc hm).mono ?_
    rintro e w1 ⟨rfl, hb1⟩
    have HW := Lib.hid (below3 hb1)
    obtain ⟨r0, r1, z0, z1⟩ := own_cells2 (box3 hb1)
    clear hb1 HCK
    go_wp2_with fail
    refine bodyPost_ret (v := .tuple #[boxV none 0 0 0, .int .i64 f]) (by unfold boxV; simp [results, Try.results16, go_sem, r0, r1]) rfl ?_
    exact ⟨none, 0, [], rfl, letterRow.none, (HW.out.setCell (by show w.heap.size ≤ w.heap.size + 1 + 1; omega) _).setCell (by show w.heap.size ≤ w.heap.size + 1 + 1; omega) _⟩
end Go.Proofs.Ytaecgapoaagjfaa
