/-
  Histories: the number of an event, by the reference (roadref4.Number).
-/
import Derived.Test.YtcmkkfpcdebfkaaEv5
import Derived.Deep.QuietTactic
import Derived.BigQuiet
namespace Go.Proofs.Ytcmkkfpcdebfkaa
open Go.RowKit

/-- n numbers. -/
def nv (n : Nat) (f : Nat → Nat) : List Int := (List.range n).map fun j => (f j : Int)
theorem nv_len {n : Nat} {f : Nat → Nat} : (nv n f).length = n := by simp [nv]
theorem nv_getD {n : Nat} {f : Nat → Nat} {j : Nat} (h : j < n) : (nv n f).getD j 0 = (f j : Int) := by
  simp [nv, List.getD_eq_getElem?_getD, h]
theorem nv_set {n : Nat} {f : Nat → Nat} {k : Nat} (v : Nat) : (nv n f).set k (v : Int) = nv n (fun j => if j = k then v else f j) := by
  unfold nv
  apply List.ext_getElem
  · simp
  · intro i h1 h2
    rw [List.getElem_set]
    by_cases e : k = i
    · simp [e]
    · rw [if_neg e]
      simp [show ¬ i = k from fun h => e h.symm]
theorem nv_cell {w : World} {g : Nat} {t : TypeId} {n : Nat} {f : Nat → Nat} (h : Box w g t (ints (nv n f)).toArray) {j : Nat} (hj : j < n) : w.cell? ⟨g, j, none⟩ = some (.int .i64 (f j : Int)) := by
  rw [ints_cell h (by rw [nv_len]; exact hj), nv_getD hj]
theorem nv_put {w : World} {g : Nat} {t : TypeId} {n : Nat} {f : Nat → Nat} (h : Box w g t (ints (nv n f)).toArray) (k v : Nat) : Box (w.setCell ⟨g, k, none⟩ (.int .i64 (v : Int))) g t (ints (nv n (fun j => if j = k then v else f j))).toArray := by
  have := h.int (i := k) (v : Int)
  rwa [nv_set] at this

open Classical in
set_option maxRecDepth 100000 in
set_option maxHeartbeats 4000000 in
theorem numberR_any (g i : Nat) (l : List Ev) (W : World) (hl200 : l.length ≤ 200) (hi : i < l.length) (hm : BMat W W.heap.size (some ⟨g, 0, none⟩) l.length (befB l)) :
    Calls Try.prog 76 #[.slice (some ⟨g, 0, none⟩) l.length l.length, .int .i64 (i : Int)] W fun e w' => e = .returned (.int .i64 (num l i : Int)) ∧ Below W.heap.size W w' := by
  have hmk : ∀ w, (Instr.makeSlice 33 (.int .i64 ((i : Int) + 1)) (.int .i64 ((i : Int) + 1))).run Try.prog w = .ok (.slice (some ⟨w.heap.size, 0, none⟩) (i + 1) (i + 1)) (w.alloc (.cells (ints (zerosI (i + 1))).toArray 3)) := fun w => make_ints (i + 1) (by omega) w
  have HM := Lib.hid hm
  have HB0 := Lib.hid (show Box (W.alloc (.cells (ints (zerosI (i + 1))).toArray 3)) W.heap.size 3 (ints (nv (i + 1) fun _ => 0)).toArray by
    rw [show (nv (i + 1) fun _ => 0) = zerosI (i + 1) by
      unfold zerosI nv
      apply List.ext_getElem <;> simp]
    exact Box.new W 3 (ints (zerosI (i + 1))).toArray)
  have HAL := Lib.hid (show Below W.heap.size W (W.alloc (.cells (ints (zerosI (i + 1))).toArray 3)) from (Below.refl _ _).alloc (Nat.le_refl _) _)
  clear hm
  go_enter Try.func76, Try.ntmps76
  go_wp2_with fail
  clear hmk
  generalize W.alloc (.cells (ints (zerosI (i + 1))).toArray 3) = W1 at *
  go_loopg [13] (i + 1) (fun gk v wr => ∃ (k : Nat) (f : Nat → Nat), gk = i + 1 - k ∧ k ≤ i + 1 ∧ v = .int .i64 k ∧ Box wr W.heap.size 3 (ints (nv (i + 1) f)).toArray ∧ (∀ j, j < k → f j = num l j) ∧ Below W.heap.size W wr)
  case atStart => exact ⟨0, _, by omega, by omega, rfl, HB0.out, (fun j hj => by omega), HAL.out⟩
  case round =>
    clear HB0 HAL
    obtain ⟨k, f, hgk, hk, rfl, hbx, hf, hb⟩ := hrel
    have HK := Lib.hid hgk
    have HF := Lib.hid hf
    have HB := Lib.hid hb
    clear hgk hf hb
    by_cases hlt : k < i + 1
    · have d14 : decide ((k : Int) < (i : Int) + 1) = true := decide_eq_true (by omega)
      have hc := nv_cell hbx hlt
      have hfz := hbx.frozen k
      have HBX := Lib.hid (nv_put hbx k 1)
      have HB1 := Lib.hid (HB.out.setCell (Nat.le_refl _) (p := ⟨W.heap.size, k, none⟩) (.int .i64 1))
      clear hbx
      go_wp2_with fail
      clear hc hfz
      generalize wr.setCell ⟨W.heap.size, k, none⟩ (.int .i64 1) = w1 at *
      go_loopg [20] k (fun gk v wr => ∃ (t : Nat) (f : Nat → Nat), gk = k - t ∧ t ≤ k ∧ v = .int .i64 t ∧ Box wr W.heap.size 3 (ints (nv (i + 1) f)).toArray ∧ (∀ j, j < k → f j = num l j) ∧ f k = mx (num l) (Bef l k) t + 1 ∧ Below W.heap.size W wr)
      case atStart => exact ⟨0, _, by omega, by omega, rfl, HBX.out, (fun j hj => by rw [if_neg (show ¬ j = k by omega)]; exact HF.out j hj), (by rw [if_pos rfl]; rfl), HB1.out⟩
      case round =>
        clear HBX HB1 HF
        obtain ⟨t, f, hgk, ht, rfl, hbx, hf, hfk, hb⟩ := hrel
        have HT := Lib.hid hgk
        clear hgk
        by_cases htk : t < k
        · obtain ⟨g', hg', _, hrow⟩ := HM.out.below hb
          obtain rfl : g' = g := by simp at hg'; exact hg'.symm
          obtain ⟨gr, _, hch, hcr⟩ := hrow k (by omega)
          have hcb := hcr t (by omega)
          clear hg' hrow hcr
          have hct := nv_cell hbx (j := t) (by omega)
          have hck := nv_cell hbx (j := k) hlt
          have hfz := hbx.frozen k
          have hft := hf t htk
          have hb1 : num l t ≤ 200 := by have := num_le (l := l) t; omega
          have hb2 : mx (num l) (Bef l k) t ≤ 200 := mx_bound fun j hj => by have := num_le (l := l) j; omega
          have HSTEP := Lib.hid (mx_succ (f := num l) (S := Bef l k) (n := t))
          have HBF := Lib.hid (show befB l k t = decide (Bef l k t) from rfl)
          rw [hft] at hct
          rw [hfk] at hck
          have HF := Lib.hid hf
          have HFK := Lib.hid hfk
          have HBX := Lib.hid (fun v => nv_put hbx k v)
          have HB0 := Lib.hid hbx
          have HB := Lib.hid hb
          have hlk : k < l.length := by omega
          have htl : t < l.length := by omega
          clear hf hfk hbx hb hft
          generalize hnt : num l t = nt at *
          generalize hmt : mx (num l) (Bef l k) t = mt at *
          have HNT := Lib.hid hnt
          have HMT := Lib.hid hmt
          generalize hbb : befB l k t = bb at *
          clear hnt hmt hbb
          cases bb with
          | false =>
            have HS := Lib.hid (show mx (num l) (Bef l k) (t + 1) + 1 = mt + 1 by rw [HSTEP.out, if_neg (fun h => by have := HBF.out; rw [decide_eq_true h] at this; cases this), Nat.max_eq_left (Nat.zero_le _)])
            go_wp2_with fail
            go_quiet (fail)
            go_wp2_with fail
            go_roundg (k - (t + 1))
            case measure => have := HT.out; omega
            case rel => exact ⟨t + 1, f, rfl, by omega, by go_num, HB0.out.drewN _, HF.out, by rw [HS.out, HFK.out], below_drewN HB.out _⟩
          | true =>
            have HS := Lib.hid (show mx (num l) (Bef l k) (t + 1) + 1 = max mt nt + 1 by rw [HSTEP.out, if_pos (of_decide_eq_true HBF.out.symm)])
            by_cases hgt : mt < nt
            · have d1 : decide ((mt : Int) + 1 < (nt : Int) + 1) = true := decide_eq_true (by omega)
              have d2 : decide (mt < nt) = true := decide_eq_true hgt
              have d3 : decide ((mt : Int) < (nt : Int)) = true := decide_eq_true (by omega)
              have HMX := Lib.hid (show max mt nt = nt from Nat.max_eq_right (by omega))
              clear hgt
              go_wp2_with fail
              go_quiet (fail)
              go_wp2_with fail
              go_roundg (k - (t + 1))
              case measure => have := HT.out; omega
              case rel => exact ⟨t + 1, _, rfl, by omega, by go_num, (HBX.out (nt + 1)).drewN _, (fun j hj => by rw [if_neg (show ¬ j = k by omega)]; exact HF.out j hj), by rw [if_pos rfl, HS.out, HMX.out], below_drewN (HB.out.setCell (Nat.le_refl _) _) _⟩
            · have d1 : decide ((mt : Int) + 1 < (nt : Int) + 1) = false := decide_eq_false (by omega)
              have d2 : decide (mt < nt) = false := decide_eq_false hgt
              have d3 : decide ((mt : Int) < (nt : Int)) = false := decide_eq_false (by omega)
              have HMX := Lib.hid (show max mt nt = mt from Nat.max_eq_left (by omega))
              clear hgt
              go_wp2_with fail
              go_quiet (fail)
              go_wp2_with fail
              go_roundg (k - (t + 1))
              case measure => have := HT.out; omega
              case rel => exact ⟨t + 1, f, rfl, by omega, by go_num, HB0.out.drewN _, HF.out, by rw [HS.out, HFK.out, HMX.out], below_drewN HB.out _⟩
        · obtain rfl : t = k := by omega
          have HNEW := Lib.hid (show ∀ j, j < t + 1 → f j = num l j from fun j hj => by
            by_cases e : j = t
            · subst e; rw [hfk, num_eq, Nat.add_comm]
            · exact hf j (by omega))
          have HBX := Lib.hid hbx
          have HB := Lib.hid hb
          clear hf hfk hbx hb
          go_wp2_with fail
          go_roundg (i + 1 - (t + 1))
          case measure => have := HK.out; omega
          case rel => exact ⟨t + 1, f, rfl, by omega, by go_num, HBX.out, HNEW.out, HB.out⟩
    · obtain rfl : k = i + 1 := by omega
      have hc := nv_cell hbx (j := i) (by omega)
      rw [HF.out i (by omega)] at hc
      clear hbx
      go_wp2_with fail
      go_ret
      exact ⟨rfl, HB.out⟩
end Go.Proofs.Ytcmkkfpcdebfkaa
