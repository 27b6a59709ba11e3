/-
  Package wire: the reader; one byte read.
-/
import Derived.Test.YtcmkkfpcdebfkaaBy8
import Derived.Deep.DeepCutAuto
import Derived.Deep.CutBlock
namespace Go.Proofs.Ytcmkkfpcdebfkaa
open Go.RowKit

/-- The reader in block g: the bytes that are left (they lie below B), and whether it is bad. -/
def Rdr (w : World) (B g : Nat) (bs : List UInt8) (bad : Bool) : Prop :=
  ∃ A c, Box w g 287 #[.slice A bs.length c, .bool bad] ∧ Row w B A (by8 bs) ∧ bs.length ≤ c ∧ c ≤ maxLen
section
variable {w w' : World} {B g : Nat} {bs : List UInt8} {bad : Bool}
theorem Rdr.lt (h : Rdr w B g bs bad) : g < w.heap.size := by
  obtain ⟨A, c, h1, _⟩ := h
  exact h1.lt
theorem Rdr.only {S : Nat → Prop} (h : Rdr w B g bs bad) (ho : Only S w w') (hg : ¬ S g) (hB : ∀ b, S b → B ≤ b) (hw : B ≤ w.heap.size) : Rdr w' B g bs bad := by
  obtain ⟨A, c, h1, h2, h3⟩ := h
  exact ⟨A, c, ho.box h1 hg, h2.keep fun p hp => World.cell?_of_block (ho.block p.block (Nat.lt_of_lt_of_le hp hw) (fun hs => by have := hB _ hs; omega)), h3⟩
theorem Rdr.alloc (h : Rdr w B g bs bad) (hw : B ≤ w.heap.size) (o : Obj) : Rdr (w.alloc o) B g bs bad := h.only ((Only.refl (fun _ => False) w).alloc o) (fun h => h) (fun _ h => h.elim) hw
end
/-- A slice from its k-th element on (elements of one cell). -/
theorem slice_from {P : Program} {t e : TypeId} {i : TypeInfo} (ht : P.underlying t = some (.slice e)) (hi : P.info? e = some i) (hsz : i.size = 1) {b o n c k : Nat} (hk : k ≤ n) (hc : n ≤ c) :
    ∃ o', (∀ w, (Instr.slice t (.slice (some ⟨b, o, none⟩) n c) (some (.int .i64 (k : Int))) none none).run P w = .ok (.slice (some ⟨b, o', none⟩) (n - k) (c - k)) w) ∧ (k < n → o' = o + k) := by
  have he : P.elem t = e := by simp [Program.elem, ht]
  have hr : ∀ w, (Instr.slice t (.slice (some ⟨b, o, none⟩) n c) (some (.int .i64 (k : Int))) none none).run P w = .ok (sliced (some ⟨b, o, none⟩) k n c 1) w := fun w => by
    have := run_slice_l (P := P) w t (some ⟨b, o, none⟩) n c (by rw [he]; exact ht) .i64 (k : Int) (by omega) (by omega)
    rw [he] at this
    simpa [sizeOf, typeInfo, hi, hsz] using this
  by_cases hck : c = k
  · exact ⟨o, fun w => by rw [hr]; simp [sliced, hck], fun h => by omega⟩
  · exact ⟨o + k, fun w => by rw [hr]; simp only [sliced, if_neg hck, Option.map_some, addr_add, Nat.mul_one], fun _ => rfl⟩
theorem Row.dropAt {w : World} {B b o o' k : Nat} {vs : List Value} (h : Row w B (some ⟨b, o, none⟩) vs) (ho : k < vs.length → o' = o + k) : Row w B (some ⟨b, o', none⟩) (vs.drop k) := fun hp => by
  rw [List.length_drop] at hp
  obtain ⟨b1, o1, e, hb, hc⟩ := h (by omega)
  simp at e
  obtain ⟨rfl, rfl⟩ := e
  refine ⟨_, _, rfl, hb, fun i v hv => ?_⟩
  rw [List.getElem?_drop] at hv
  rw [ho (by omega), Nat.add_assoc]
  exact hc _ v hv
theorem by8_infoS : ∃ i, Try.prog.info? 5 = some i ∧ i.size = 1 := by
  obtain ⟨i, h1, _, h2, _⟩ := info_parts by8_info
  exact ⟨i, h1, h2⟩

set_option maxHeartbeats 400000 in
theorem byte_end (g B : Nat) (bad : Bool) (w : World) (h : Rdr w B g [] bad) (hB : B ≤ g) (hw : B ≤ w.heap.size) :
    Calls Try.prog 228 #[.pointer (some ⟨g, 0, none⟩)] w fun e w' => e = .returned (.int .i64 0) ∧ Rdr w' B g [] true ∧ Only (fun b => b = g) w w' := by
  obtain ⟨A, c, hbx, hr, hc, hm⟩ := h
  have c0 := hbx.cell 0
  have c1 := hbx.cell 1
  have f1 := hbx.frozen 1
  simp only [List.getElem?_toArray, List.getElem?_cons_zero, List.getElem?_cons_succ] at c0 c1
  have hO : Only (fun b => b = g) w (w.setCell ⟨g, 1, none⟩ (.bool true)) := (Only.refl (fun b => b = g) w).set (p := ⟨g, 1, none⟩) rfl _
  have HO := Lib.hid hO
  have HR := Lib.hid (show Rdr (w.setCell ⟨g, 1, none⟩ (.bool true)) B g [] true from ⟨A, c, hbx.set 1 (.bool true), hr.keep fun p hp => World.cell?_of_block (hO.block p.block (by omega) (by omega)), hc, hm⟩)
  clear hbx hr hO
  go_enter Try.func228, Try.ntmps228
  go_wp2_with fail
  go_ret
  exact ⟨rfl, HR.out, HO.out⟩
set_option maxHeartbeats 400000 in
theorem byte_more (g B : Nat) (bad : Bool) (y : UInt8) (ys : List UInt8) (w : World) (h : Rdr w B g (y :: ys) bad) (hB : B ≤ g) (hw : B ≤ w.heap.size) :
    Calls Try.prog 228 #[.pointer (some ⟨g, 0, none⟩)] w fun e w' => e = .returned (.int .i64 (y.toNat : Int)) ∧ Rdr w' B g ys bad ∧ Only (fun b => b = g) w w' := by
  obtain ⟨A, c, hbx, hr, hc, hm⟩ := h
  obtain ⟨b, o, rfl, hb, hcell⟩ := hr.by8 (i := 0) (by simp)
  obtain ⟨i0, hi0, hs0⟩ := by8_infoS
  obtain ⟨o', hrun, ho'⟩ := slice_from (P := Try.prog) (b := b) (o := o) (k := 1) Try.underlying137 hi0 hs0 (show 1 ≤ (y :: ys).length by simp) hc
  have hrow := hr.dropAt (o' := o') (k := 1) (by rw [by8_len]; exact ho')
  rw [show (by8 (y :: ys)).drop 1 = by8 ys from rfl] at hrow
  rw [show (y :: ys).getD 0 0 = y from rfl] at hcell
  have HW := Lib.hid (show wrap64 (y.toNat : Int) = (y.toNat : Int) by have := y.toNat_lt; unfold wrap64; omega)
  have c0 := hbx.cell 0
  have f0 := hbx.frozen 0
  simp only [List.getElem?_toArray, List.getElem?_cons_zero] at c0
  have hl1 : 0 < (y :: ys).length := by simp
  unfold maxLen at hm
  have hO : Only (fun b => b = g) w (w.setCell ⟨g, 0, none⟩ (.slice (some ⟨b, o', none⟩) ys.length (c - 1))) := (Only.refl (fun b => b = g) w).set (p := ⟨g, 0, none⟩) rfl _
  have HO := Lib.hid hO
  have HR := Lib.hid (show Rdr (w.setCell ⟨g, 0, none⟩ (.slice (some ⟨b, o', none⟩) ys.length (c - 1))) B g ys bad from ⟨some ⟨b, o', none⟩, c - 1, hbx.set 0 _, hrow.keep fun p hp => World.cell?_of_block (hO.block p.block (by omega) (by omega)), by simp at hc; omega, by unfold maxLen; omega⟩)
  have hrun2 : ∀ w, (Instr.slice 137 (.slice (some ⟨b, o, none⟩) (y :: ys).length c) (some (.int .i64 1)) none none).run Try.prog w = .ok (.slice (some ⟨b, o', none⟩) ys.length (c - 1)) w := hrun
  rw [Nat.add_zero] at hcell
  clear hbx hr hO hrow hrun ho' hi0 hs0
  generalize (y :: ys).length = n at *
  go_enter Try.func228, Try.ntmps228
  go_wp2_with fail
  go_ret
  exact ⟨by show Ending.returned (.int .i64 (wrap64 (y.toNat : Int))) = _; rw [HW.out], HR.out, HO.out⟩
end Go.Proofs.Ytcmkkfpcdebfkaa
