
/-
  The reference's Alive.
-/
import Derived.Test.YtbhdagjilmgahaaKn8
import Derived.Test.YtbhdagjilmgahaaCatInts
import Derived.OwnWalk
import Derived.Deep.QuietTactic
import Derived.BigQuiet
namespace Go.Proofs.Ytbhdagjilmgahaa
open Go.RowKit

theorem made_oneK (z : Value) (n : Nat) : madeCells #[z] n = ((List.range n).map fun _ => z).toArray := by
  apply Array.ext
  · simp [madeCells]
  · intro i h1 h2
    simp [madeCells, Nat.mod_one]
theorem made_intsK (n : Nat) : ((List.range n).map fun _ => Value.int .i64 0).toArray = (ints (List.replicate n 0)).toArray := by
  congr 1
  unfold ints
  rw [List.map_replicate]
  induction n with
  | zero => rfl
  | succ n ih => rw [List.range_succ, List.map_append, ih, List.replicate_succ']; rfl
theorem make_intsK (n : Nat) (hn : n ≤ 1000) (w : World) : (Instr.makeSlice 23 (.int .i64 (n : Int)) (.int .i64 (n : Int))).run Try.prog w = .ok (.slice (some ⟨w.heap.size, 0, none⟩) n n) (w.alloc (.cells (ints (List.replicate n 0)).toArray 3)) := by
  obtain ⟨i1, hi1, hy0, hy1, hy2⟩ := int_partsK
  have hb : (i1.bytes : Int) * (n : Int) ≤ 8 * 1000 := by rw [hy2]; omega
  have hr := run_make (P := Try.prog) w 23 3 i1 (.int .i64 0) Try.underlying23 hi1 hy0 .i64 .i64 (n : Int) (n : Int) (by omega) (by omega) (by omega) (by omega)
  rw [Int.toNat_natCast, hy1, Nat.mul_one, show (Value.int .i64 0).cells = #[.int .i64 0] from rfl, made_oneK, made_intsK] at hr
  exact hr
theorem ints_set (o : List Int) (k : Nat) (v : Int) : (ints o).toArray.setIfInBounds k (.int .i64 v) = (ints (o.set k v)).toArray := by
  rw [List.setIfInBounds_toArray]
  unfold ints
  rw [List.map_set]
theorem Box.intAt {w : World} {g : Nat} {o : List Int} (h : Box w g 3 (ints o).toArray) {k : Nat} (hk : k < o.length) : w.cell? ⟨g, k, none⟩ = some (.int .i64 (o.getD k 0)) := by
  rw [h.cell k, List.getElem?_toArray]
  exact at_ints o hk
theorem Box.putI {w : World} {g : Nat} {o : List Int} (h : Box w g 3 (ints o).toArray) (k : Nat) (v : Int) : Box (w.setCell ⟨g, k, none⟩ (.int .i64 v)) g 3 (ints (o.set k v)).toArray := by
  rw [← ints_set]
  exact h.set k _
theorem start_len (K : List KnC) : (startK K).length = K.length := by simp [startK]
set_option maxRecDepth 100000 in
set_option maxHeartbeats 4000000 in
theorem alive_kn (A0 : Option Addr) (c0 B : Nat) (K : List KnC) (w : World) (h : KnIn w B A0 K) (hB : B ≤ w.heap.size) (hl : K.length ≤ 480) :
    Calls Try.prog 9 #[.slice A0 K.length c0] w fun e w' => e = .returned (.slice (some ⟨w.heap.size, 0, none⟩) K.length K.length) ∧ Box w' w.heap.size 3 (ints (aliveF K)).toArray ∧ Below w.heap.size w w' := by
  have hmk := make_intsK K.length (by omega) w
  have HK := Lib.hid h
  have HB0 := Lib.hid (show Below w.heap.size w (w.alloc (.cells (ints (List.replicate K.length 0)).toArray 3)) from (Below.refl _ _).alloc (Nat.le_refl _) _)
  have HX0 := Lib.hid (Box.new w 3 (ints (List.replicate K.length 0)).toArray)
  clear h
  go_enter Try.func9, Try.ntmps9
  go_upto_region 2 with fail
  generalize w.alloc (.cells (ints (List.replicate K.length 0)).toArray 3) = w1 at *
  obtain ⟨g, hg⟩ : ∃ g, w.heap.size = g := ⟨_, rfl⟩
  rw [hg] at HX0 ⊢
  clear hmk
  go_wp2_with fail
  go_loopg [14] K.length (fun gk i wr => ∃ (k : Nat) (o : List Int), gk = K.length - k ∧ k ≤ K.length ∧ i = .int .i64 k ∧ o.length = K.length ∧ (∀ j, j < k → o.getD j 0 = (startK K).getD j 0) ∧ Box wr g 3 (ints o).toArray ∧ Below g w wr)
  case atStart => exact ⟨0, List.replicate K.length 0, by omega, by omega, rfl, by simp, (fun j hj => by omega), HX0.out, by rw [← hg]; exact HB0.out⟩
  case round =>
    clear HX0 HB0
    obtain ⟨k, o, hgk, hk, rfl, hol, hoj, hbx, hb⟩ := hrel
    have HKK := Lib.hid hgk
    clear hgk
    by_cases hlt : k < K.length
    · obtain ⟨b1, o1, rfl, _, z0, z1, z2, z3⟩ := (HK.out.row.below (hb.mono (by omega))).kn hlt knc0
      have hst := start_at K k hlt
      have hkl : (k : Int) < (K.length : Int) := by omega
      generalize K.getD k knc0 = x at *
      have hb2 : Below wr.heap.size wr (wr.alloc (.cells #[.int .i64 x.ref, .bool x.awake, .bool x.root, .slice x.A x.refs.length x.cap] 28)) := (Below.refl _ _).alloc (Nat.le_refl _) _
      have hx2 := Box.new wr 28 #[.int .i64 x.ref, .bool x.awake, .bool x.root, .slice x.A x.refs.length x.cap]
      have hbg := hbx.below hb2 hbx.lt
      have hgw : g ≠ wr.heap.size := by have := hbx.lt; omega
      obtain ⟨w5, hw5⟩ : ∃ w5, w5 = wr.alloc (.cells #[.int .i64 x.ref, .bool x.awake, .bool x.root, .slice x.A x.refs.length x.cap] 28) := ⟨_, rfl⟩
      rw [← hw5] at hb2 hx2 hbg
      have hBW := hb.trans (hb2.mono (by have := hb.size; omega))
      have f0 := hbg.frozen k
      have f1 : w5.cell? ⟨g, k, none⟩ = some (.int .i64 (o.getD k 0)) := hbg.intAt (by omega)
      have hb6 := hbg.putI k (-1)
      have hb7 := hb6.putI k 0
      rw [List.set_set] at hb7
      have f2 := hb6.frozen k
      have f3 : (w5.setCell ⟨g, k, none⟩ (.int .i64 (-1))).cell? ⟨g, k, none⟩ = some (.int .i64 ((o.set k (-1)).getD k 0)) := hb6.intAt (by rw [List.length_set]; omega)
      have hk6 : Box (w5.setCell ⟨g, k, none⟩ (.int .i64 (-1))) wr.heap.size 28 #[.int .i64 x.ref, .bool x.awake, .bool x.root, .slice x.A x.refs.length x.cap] := by
        have ho : Only (fun b => b = g) w5 (w5.setCell ⟨g, k, none⟩ (.int .i64 (-1))) := Only.set (S := fun b => b = g) (Only.refl _ w5) (p := ⟨g, k, none⟩) rfl _
        exact ho.box hx2 (fun e => hgw e.symm)
      have k1 : (w5.setCell ⟨g, k, none⟩ (.int .i64 (-1))).cell? ⟨wr.heap.size, 1, none⟩ = some (.bool x.awake) := hk6.cell 1
      have k2 : (w5.setCell ⟨g, k, none⟩ (.int .i64 (-1))).cell? ⟨wr.heap.size, 2, none⟩ = some (.bool x.root) := hk6.cell 2
      have HB6 := Lib.hid hb6
      have HB7 := Lib.hid hb7
      have HW6 := Lib.hid (hBW.setCell (p := ⟨g, k, none⟩) (Nat.le_refl g) (.int .i64 (-1)))
      have HW7 := Lib.hid (HW6.out.setCell (p := ⟨g, k, none⟩) (Nat.le_refl g) (.int .i64 0))
      have HOL := Lib.hid hol
      have HOJ := Lib.hid hoj
      have HST := Lib.hid hst
      clear hbx hb hb2 hx2 hbg hb6 hb7 hk6 hBW hol hoj hst
      go_upto_region 5 with fail
      rw [← hw5]
      clear hw5 z0 z1 z2 z3
      cases hlv : x.live with
      | true =>
        have hlv2 : (x.root = true) ∨ (x.root = false ∧ x.awake = true) := by
          unfold KnC.live at hlv
          cases hr : x.root <;> simp_all
        have HO2 : Hid (∀ j, j < k + 1 → (o.set k 0).getD j 0 = (startK K).getD j 0) := fun j hj => by
          rw [getD_set _ _ _ _ (by have := HOL.out; omega)]
          by_cases e : j = k
          · subst e
            rw [if_pos rfl, HST.out, if_pos hlv]
          · rw [if_neg e]
            exact HOJ.out j (by omega)
        clear hlv HST
        generalize x.root = xt at *
        generalize x.awake = xa at *
        rcases hlv2 with rfl | ⟨rfl, rfl⟩
        all_goals (
          go_wp2_with fail
          go_roundg (K.length - (k + 1))
          case measure => have := HKK.out; omega
          case rel => exact ⟨k + 1, o.set k 0, rfl, by omega, by go_num, by rw [List.length_set]; exact HOL.out, HO2.out, HB7.out, HW7.out⟩)
      | false =>
        have hlv2 : x.root = false ∧ x.awake = false := by
          unfold KnC.live at hlv
          cases hr : x.root <;> simp_all
        have HO2 : Hid (∀ j, j < k + 1 → (o.set k (-1)).getD j 0 = (startK K).getD j 0) := fun j hj => by
          rw [getD_set _ _ _ _ (by have := HOL.out; omega)]
          by_cases e : j = k
          · subst e
            rw [if_pos rfl, HST.out, if_neg (by rw [hlv]; simp)]
          · rw [if_neg e]
            exact HOJ.out j (by omega)
        clear hlv HST
        generalize x.root = xt at *
        generalize x.awake = xa at *
        obtain ⟨rfl, rfl⟩ := hlv2
        go_wp2_with fail
        go_roundg (K.length - (k + 1))
        case measure => have := HKK.out; omega
        case rel => exact ⟨k + 1, o.set k (-1), rfl, by omega, by go_num, by rw [List.length_set]; exact HOL.out, HO2.out, HB6.out, HW6.out⟩
    · obtain rfl : k = K.length := by omega
      have hln : ¬ (K.length : Int) < (K.length : Int) := by omega
      obtain rfl : o = startK K := List.ext_getElem (by rw [hol, start_len]) fun i hi hj => by
        have := hoj i (by omega)
        simpa only [List.getD_eq_getElem?_getD, List.getElem?_eq_getElem hi, List.getElem?_eq_getElem hj, Option.getD_some] using this
      have HBX := Lib.hid hbx
      have HBW := Lib.hid hb
      clear hbx hb HKK hol hoj hlt hk
      go_wp2_with fail
      go_loopg [34] K.length (fun gk i wr => ∃ d : Nat, gk = K.length - d ∧ d ≤ K.length ∧ i = .int .i64 d ∧ Box wr g 3 (ints (Dk K d)).toArray ∧ Below g w wr)
      case atStart => exact ⟨0, by omega, by omega, rfl, HBX.out, HBW.out⟩
      case round =>
        clear HBX HBW
        obtain ⟨d, hgk, hd, rfl, hbx, hb⟩ := hrel
        have HDK := Lib.hid hgk
        clear hgk
        by_cases hltd : d < K.length
        · have hdl : (d : Int) < (K.length : Int) := by omega
          have HBX := Lib.hid hbx
          have HBW := Lib.hid hb
          have HDS := Lib.hid (Dk_succ K d)
          have HDL := Lib.hid (Dk_inv K d).1
          clear hbx hb
          go_wp2_with fail
          go_loopg [39] K.length (fun gk i wr => ∃ n : Nat, gk = K.length - n ∧ n ≤ K.length ∧ i = .int .i64 n ∧ Box wr g 3 (ints ((List.range n).foldl (rowK K d) (Dk K d))).toArray ∧ Below g w wr)
          case atStart => exact ⟨0, by omega, by omega, rfl, HBX.out, HBW.out⟩
          case round =>
            clear HBX HBW
            obtain ⟨n, hgk, hn, rfl, hbx, hb⟩ := hrel
            have HNK := Lib.hid hgk
            clear hgk
            by_cases hltn : n < K.length
            · have hnl : (n : Int) < (K.length : Int) := by omega
              have hol := (rowK_fold K d (by omega) (Dk K d) HDL.out n hn).1
              have HSU : Hid ((List.range (n + 1)).foldl (rowK K d) (Dk K d) = rowK K d ((List.range n).foldl (rowK K d) (Dk K d)) n) := by
                show _ = _
                rw [List.range_succ, List.foldl_append]
                rfl
              generalize (List.range n).foldl (rowK K d) (Dk K d) = o at *
              have f1 : wr.cell? ⟨g, n, none⟩ = some (.int .i64 (o.getD n 0)) := hbx.intAt (by omega)
              by_cases hod : o.getD n 0 = d
              case neg =>
                have e1 : (o.getD n 0 != (d : Int)) = true := by simpa using hod
                have HRW : Hid (rowK K d o n = o) := by show _ = _; unfold rowK; rw [if_neg hod]
                have HBX := Lib.hid hbx
                have HBW := Lib.hid hb
                clear hbx hb hod
                generalize o.getD n 0 = ov at *
                go_wp2_with fail
                go_roundg (K.length - (n + 1))
                case measure => have := HNK.out; omega
                case rel => exact ⟨n + 1, rfl, by omega, by go_num, by rw [HSU.out, HRW.out]; exact HBX.out, HBW.out⟩
              have e1 : (o.getD n 0 != (d : Int)) = false := by rw [hod]; simp
              have HRW : Hid (rowK K d o n = (List.range K.length).foldl (setK K d n) o) := by show _ = _; unfold rowK; rw [if_pos hod]
              have HBX := Lib.hid hbx
              have HBW := Lib.hid hb
              have HOL := Lib.hid hol
              clear hbx hb hod hol
              generalize o.getD n 0 = ov at *
              go_wp2_with fail
              go_loopg [50] K.length (fun gk i wr => ∃ k : Nat, gk = K.length - k ∧ k ≤ K.length ∧ i = .int .i64 k ∧ Box wr g 3 (ints ((List.range k).foldl (setK K d n) o)).toArray ∧ Below g w wr)
              case atStart => exact ⟨0, by omega, by omega, rfl, HBX.out, HBW.out⟩
              case round =>
                clear HBX HBW f1
                obtain ⟨k, hgk, hk, rfl, hbx, hb⟩ := hrel
                have HKK := Lib.hid hgk
                clear hgk
                by_cases hltk : k < K.length
                · have hkl : (k : Int) < (K.length : Int) := by omega
                  have hql := (setK_fold K d n o HOL.out k hk).1
                  have HSK : Hid ((List.range (k + 1)).foldl (setK K d n) o = setK K d n ((List.range k).foldl (setK K d n) o) k) := by
                    show _ = _
                    rw [List.range_succ, List.foldl_append]
                    rfl
                  generalize (List.range k).foldl (setK K d n) o = q at *
                  have hKw := HK.out.row.below (hb.mono (show B ≤ g by omega))
                  obtain ⟨b1, o1, rfl, _, _, _, _, y3⟩ := hKw.kn hltn knc0
                  obtain ⟨b2, o2, e2, _, x0, _, _, _⟩ := hKw.kn hltk knc0
                  injection e2 with e2
                  injection e2 with e2 e3
                  subst e2 e3
                  have hrf := HK.out.refs _ (getD_mem knc0 hltn)
                  have hrl := refs_le HK.out.all (getD_mem knc0 hltn)
                  have HST : Hid (setK K d n q k = if q.getD k 0 < 0 ∧ (K.getD n knc0).refs.contains (K.getD k knc0).ref = true then q.set k (d + 1) else q) := rfl
                  have HCQ := Lib.hid (fun (m : Nat) => (contains_ints (K.getD n knc0).A (K.getD n knc0).cap (K.getD n knc0).refs (K.getD k knc0).ref B (wr.drewN m) ((hrf.1.below (hb.mono (show B ≤ g by omega))).below (below_drewN (Below.refl B wr) m)) (by unfold maxLen; omega)).mono (R' := fun e w' => e = .returned (.bool ((K.getD n knc0).refs.contains (K.getD k knc0).ref)) ∧ w' = wr.drewN m) (fun e w' h => ⟨by rw [h.1, List.contains_eq_any_beq], h.2.symm⟩))
                  have f1 : wr.cell? ⟨g, k, none⟩ = some (.int .i64 (q.getD k 0)) := hbx.intAt (by omega)
                  generalize K.getD n knc0 = xn at *
                  generalize K.getD k knc0 = xk at *
                  have hfz := hbx.frozen k
                  have HBX := Lib.hid hbx
                  have HBW := Lib.hid hb
                  clear hbx hb hKw hrf hrl
                  generalize q.getD k 0 = qv at *
                  go_upto_region 19 with fail
                  by_cases hq0 : qv < 0
                  case neg =>
                    have e4 : decide (qv < 0) = false := decide_eq_false hq0
                    have HNO : Hid (setK K d n q k = q) := by show _ = _; rw [HST.out, if_neg (fun h => hq0 h.1)]
                    clear HST
                    go_quiet (fail)
                    go_wp2_with fail
                    go_roundg (K.length - (k + 1))
                    case measure => have := HKK.out; omega
                    case rel => exact ⟨k + 1, rfl, by omega, by go_num, by rw [HSK.out, HNO.out]; exact HBX.out, below_drewN HBW.out _⟩
                  have e4 : decide (qv < 0) = true := decide_eq_true hq0
                  cases hcc : xn.refs.contains xk.ref with
                  | false =>
                    rw [hcc] at HCQ
                    have HNO : Hid (setK K d n q k = q) := by show _ = _; rw [HST.out, hcc, if_neg (fun h => by cases h.2)]
                    clear HST hcc
                    go_quiet ((go_at_call 20; exact Calls.quiet_of_same (HCQ.out _)))
                    go_wp2_with fail
                    go_roundg (K.length - (k + 1))
                    case measure => have := HKK.out; omega
                    case rel => exact ⟨k + 1, rfl, by omega, by go_num, by rw [HSK.out, HNO.out]; exact HBX.out, below_drewN HBW.out _⟩
                  | true =>
                    rw [hcc] at HCQ
                    have HNO : Hid (setK K d n q k = q.set k (d + 1)) := by show _ = _; rw [HST.out, hcc, if_pos ⟨hq0, rfl⟩]
                    clear HST hcc
                    go_quiet ((go_at_call 20; exact Calls.quiet_of_same (HCQ.out _)))
                    have hfz2 : ∀ m, (wr.drewN m).frozen? ⟨g, k, none⟩ = false := fun m => hfz
                    go_wp2_with fail
                    go_roundg (K.length - (k + 1))
                    case measure => have := HKK.out; omega
                    case rel => exact ⟨k + 1, rfl, by omega, by go_num, by rw [HSK.out, HNO.out]; exact Box.putI (w := wr.drewN nq) HBX.out k _, (below_drewN HBW.out nq).setCell (p := ⟨g, k, none⟩) (Nat.le_refl g) _⟩
                · obtain rfl : k = K.length := by omega
                  have hlk : ¬ (K.length : Int) < (K.length : Int) := by omega
                  rw [← HRW.out, ← HSU.out] at hbx
                  have HBX := Lib.hid hbx
                  have HBW := Lib.hid hb
                  clear hbx hb HKK hltk hk
                  go_wp2_with fail
                  go_roundg (K.length - (n + 1))
                  case measure => have := HNK.out; omega
                  case rel => exact ⟨n + 1, rfl, by omega, by go_num, HBX.out, HBW.out⟩
            · obtain rfl : n = K.length := by omega
              have hlk : ¬ (K.length : Int) < (K.length : Int) := by omega
              have HBX : Hid (Box wr g 3 (ints (Dk K (d + 1))).toArray) := by show Box _ _ _ _; rw [HDS.out]; exact hbx
              have HBW := Lib.hid hb
              clear hbx hb HNK hltn hn
              go_wp2_with fail
              go_roundg (K.length - (d + 1))
              case measure => have := HDK.out; omega
              case rel => exact ⟨d + 1, rfl, by omega, by go_num, HBX.out, HBW.out⟩
        · obtain rfl : d = K.length := by omega
          have hlk : ¬ (K.length : Int) < (K.length : Int) := by omega
          have HBX := Lib.hid hbx
          have HBW := Lib.hid hb
          clear hbx hb HDK hltd hd
          go_wp2_with fail
          go_ret
          refine ⟨rfl, ?_, ?_⟩
          · rw [aliveF_eq]; exact HBX.out
          · exact HBW.out
end Go.Proofs.Ytbhdagjilmgahaa
