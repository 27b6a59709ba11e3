/-
  The walk of CodeTells.
-/
import Derived.Test.YtlnjapbpfhcloaaPa3
import Derived.Test.YtlnjapbpfhcloaaPa4
import Derived.Test.YtlnjapbpfhcloaaIn6
import Derived.Test.YtlnjapbpfhcloaaIn9
import Derived.Deep.RegionHeld3
namespace Go.Proofs.Ytlnjapbpfhcloaa
open Go.RowKit

theorem gat_post {w w' : World} {l : List Int} {ok bad : Value} {e : Ending} (h : GatPost w (gatF l) ok bad e w') : ∃ A c l', e = .returned (.tuple #[.slice A l'.length c, if (gatF l).isSome then ok else bad]) ∧ Arms w' A l' (gatL l) ∧ Below w.heap.size w w' := by
  obtain ⟨hb, h⟩ := h
  unfold gatL
  cases hg : gatF l with
  | none =>
    rw [hg] at h
    exact ⟨none, 0, [], h, Arms.nil, hb⟩
  | some vs =>
    rw [hg] at h
    obtain ⟨A, c, l', he, ha, _⟩ := h
    exact ⟨A, c, l', he, ha, hb⟩
theorem gat_int {w w' : World} {l : List Int} {e : Ending} (h : GatPost w (gatF l) (.int .i64 0) (.int .i64 3) e w') : ∃ A c l' er, e = .returned (.tuple #[.slice A (List.length l') c, .int .i64 er]) ∧ (er == 0) = (gatF l).isSome ∧ Arms w' A l' (gatL l) ∧ Below w.heap.size w w' := by
  obtain ⟨A, c, l', he, ha, hb⟩ := gat_post h
  cases hg : (gatF l).isSome with
  | true => rw [hg] at he; exact ⟨A, c, l', 0, he, rfl, ha, hb⟩
  | false => rw [hg] at he; exact ⟨A, c, l', 3, he, rfl, ha, hb⟩
theorem gat_bool {w w' : World} {l : List Int} {e : Ending} (h : GatPost w (gatF l) (.bool true) (.bool false) e w') : ∃ A c l', e = .returned (.tuple #[.slice A (List.length l') c, .bool (gatF l).isSome]) ∧ Arms w' A l' (gatL l) ∧ Below w.heap.size w w' := by
  obtain ⟨A, c, l', he, ha, hb⟩ := gat_post h
  cases hg : (gatF l).isSome with
  | true => rw [hg] at he; exact ⟨A, c, l', he, ha, hb⟩
  | false => rw [hg] at he; exact ⟨A, c, l', he, ha, hb⟩
theorem gatL_ok (l : List Int) (h : l.length ≤ 100) : (gatL l).length ≤ 1000 ∧ ∀ i, i < (gatL l).length → ((gatL l).getD i arv0).2.length ≤ 1000 := by
  obtain ⟨h1, h2⟩ := gatL_small l
  refine ⟨by omega, fun i hi => ?_⟩
  have := h2 ((gatL l).getD i arv0) (by rw [List.getD_eq_getElem?_getD, List.getElem?_eq_getElem hi]; exact List.getElem_mem hi)
  omega
theorem readsT_len (x : InC) (h : x.args.length ≤ 100) : (readsT x).length ≤ maxLen := by
  have h1 := readL_len x h (shapeF x.op).s.data.toList
  have h2 := (strs_small _ (shape_mem x.op)).1
  unfold readsT maxLen
  omega
theorem nextT_len (x : InC) (t : Int) (h : x.args.length ≤ 100) : (nextT x t).length ≤ maxLen := by
  have h1 := (armsT_small x h).1
  have h2 : (pre16 x.args).length ≤ 1 := by unfold pre16; split <;> (try split) <;> simp
  have h3 : (pcs (armsT x)).length ≤ 1000 := by simpa [pcs] using h1
  unfold nextT maxLen
  repeat' split
  all_goals first | (simp only [List.length_append]; omega) | (simp; done) | omega
theorem below_drewX {B : Nat} {w w' : World} (h : Below B w w') : Below B w w'.drew := ⟨h.os, h.tape, h.output, h.size, h.block⟩
theorem below_drewNX {B : Nat} {w w' : World} (h : Below B w w') (n : Nat) : Below B w (w'.drewN n) := ⟨h.os, h.tape, h.output, h.size, h.block⟩

theorem equal_same (A A' : Option Addr) (c c' : Nat) (xs : List Int) (B B' : Nat) (w : World) (ra : Row w B A (ints xs)) (rb : Row w B' A' (ints xs)) (hm : xs.length ≤ maxLen) :
    Calls Try.prog 15 #[.slice A xs.length c, .slice A' xs.length c'] w fun e w' => e = .returned (.bool true) ∧ Below w.heap.size w w' :=
  (equal_any A A' c c' xs xs B B' w ra rb hm hm).mono fun e w' ⟨he, m, hw⟩ => ⟨by rw [he, decide_eq_true rfl], by rw [hw]; exact below_drewNX (Below.refl _ _) m⟩

set_option maxRecDepth 100000 in
set_option maxHeartbeats 4000000 in
theorem codeTells_any (x : InC) (t : Int) (n : Nat) (p : PaC) (v : Pt) (s : ByteArray) (w : World) (hrow : Row w w.heap.size x.A (ints x.args)) (hcap : x.args.length ≤ x.cap) (hcm : x.cap ≤ maxLen) (hnone : x.A = none → x.cap = 0) (hp : PaIn w (· < w.heap.size) n p v) (hs : v.size ≤ 1048576) :
    Calls Try.prog 3 #[inV x, .int .i64 t, paV p, .string s] w fun e w' => e = .returned (.bool true) ∧ Below w.heap.size w w' := by
  unfold inV paV
  have hb2 : Below w.heap.size w ((w.alloc (.cells #[.int .i64 x.op, .int .i64 x.a, .int .i64 x.b, .int .i64 x.c, .slice x.A x.args.length x.cap] 24)).alloc (.cells #[.int .i64 p.kind, .int .i64 p.num, .string p.text, .slice p.A p.len p.cap] 27)) := ((Below.refl _ _).alloc (Nat.le_refl _) _).alloc (by simp) _
  have hsz : ((w.alloc (.cells #[.int .i64 x.op, .int .i64 x.a, .int .i64 x.b, .int .i64 x.c, .slice x.A x.args.length x.cap] 24)).alloc (.cells #[.int .i64 p.kind, .int .i64 p.num, .string p.text, .slice p.A p.len p.cap] 27)).heap.size = w.heap.size + 2 := by simp
  have HC : Hid (∀ w', Below ((w.alloc (.cells #[.int .i64 x.op, .int .i64 x.a, .int .i64 x.b, .int .i64 x.c, .slice x.A x.args.length x.cap] 24)).alloc (.cells #[.int .i64 p.kind, .int .i64 p.num, .string p.text, .slice p.A p.len p.cap] 27)).heap.size ((w.alloc (.cells #[.int .i64 x.op, .int .i64 x.a, .int .i64 x.b, .int .i64 x.c, .slice x.A x.args.length x.cap] 24)).alloc (.cells #[.int .i64 p.kind, .int .i64 p.num, .string p.text, .slice p.A p.len p.cap] 27)) w' → w'.cell? ⟨w.heap.size, 0, none⟩ = some (.int .i64 x.op) ∧ w'.cell? ⟨w.heap.size, 1, none⟩ = some (.int .i64 x.a) ∧ w'.cell? ⟨w.heap.size, 2, none⟩ = some (.int .i64 x.b) ∧ w'.cell? ⟨w.heap.size, 3, none⟩ = some (.int .i64 x.c) ∧ w'.cell? ⟨w.heap.size, 4, none⟩ = some (.slice x.A x.args.length x.cap) ∧ w'.cell? ⟨w.heap.size + 1, 0, none⟩ = some (.int .i64 p.kind) ∧ w'.cell? ⟨w.heap.size + 1, 1, none⟩ = some (.int .i64 p.num) ∧ w'.cell? ⟨w.heap.size + 1, 2, none⟩ = some (.string p.text) ∧ w'.cell? ⟨w.heap.size + 1, 3, none⟩ = some (.slice p.A p.len p.cap)) := fun w' h => by
    have b0 := ((Box.new w 24 #[.int .i64 x.op, .int .i64 x.a, .int .i64 x.b, .int .i64 x.c, .slice x.A x.args.length x.cap]).alloc (.cells #[.int .i64 p.kind, .int .i64 p.num, .string p.text, .slice p.A p.len p.cap] 27)).below h (by rw [hsz]; omega)
    have b1 := Box.new (w.alloc (.cells #[.int .i64 x.op, .int .i64 x.a, .int .i64 x.b, .int .i64 x.c, .slice x.A x.args.length x.cap] 24)) 27 #[.int .i64 p.kind, .int .i64 p.num, .string p.text, .slice p.A p.len p.cap]
    rw [show (w.alloc (.cells #[.int .i64 x.op, .int .i64 x.a, .int .i64 x.b, .int .i64 x.c, .slice x.A x.args.length x.cap] 24)).heap.size = w.heap.size + 1 by simp] at b1
    have b1 := b1.below h (by rw [hsz]; omega)
    exact ⟨b0.cell 0, b0.cell 1, b0.cell 2, b0.cell 3, b0.cell 4, b1.cell 0, b1.cell 1, b1.cell 2, b1.cell 3⟩
  have HP : Hid (∀ w', Below ((w.alloc (.cells #[.int .i64 x.op, .int .i64 x.a, .int .i64 x.b, .int .i64 x.c, .slice x.A x.args.length x.cap] 24)).alloc (.cells #[.int .i64 p.kind, .int .i64 p.num, .string p.text, .slice p.A p.len p.cap] 27)).heap.size ((w.alloc (.cells #[.int .i64 x.op, .int .i64 x.a, .int .i64 x.b, .int .i64 x.c, .slice x.A x.args.length x.cap] 24)).alloc (.cells #[.int .i64 p.kind, .int .i64 p.num, .string p.text, .slice p.A p.len p.cap] 27)) w' → PaIn w' (· < w.heap.size) n p v ∧ w.heap.size ≤ w'.heap.size) := fun w' h => by
    have hb := hb2.trans (h.mono (by rw [hsz]; omega))
    exact ⟨hp.keep (fun a ha => hb.cell ha) (fun _ h => h), hb.size⟩
  have HW : Hid (∀ w', Below ((w.alloc (.cells #[.int .i64 x.op, .int .i64 x.a, .int .i64 x.b, .int .i64 x.c, .slice x.A x.args.length x.cap] 24)).alloc (.cells #[.int .i64 p.kind, .int .i64 p.num, .string p.text, .slice p.A p.len p.cap] 27)).heap.size ((w.alloc (.cells #[.int .i64 x.op, .int .i64 x.a, .int .i64 x.b, .int .i64 x.c, .slice x.A x.args.length x.cap] 24)).alloc (.cells #[.int .i64 p.kind, .int .i64 p.num, .string p.text, .slice p.A p.len p.cap] 27)) w' → Below w.heap.size w w') := fun w' h => hb2.trans (h.mono (by rw [hsz]; omega))
  have hbk := Below.refl ((w.alloc (.cells #[.int .i64 x.op, .int .i64 x.a, .int .i64 x.b, .int .i64 x.c, .slice x.A x.args.length x.cap] 24)).alloc (.cells #[.int .i64 p.kind, .int .i64 p.num, .string p.text, .slice p.A p.len p.cap] 27)).heap.size ((w.alloc (.cells #[.int .i64 x.op, .int .i64 x.a, .int .i64 x.b, .int .i64 x.c, .slice x.A x.args.length x.cap] 24)).alloc (.cells #[.int .i64 p.kind, .int .i64 p.num, .string p.text, .slice p.A p.len p.cap] 27))
  by_cases ht0 : t < 0
  · have dt0 : decide (t < 0) = true := by simp [ht0]
    clear hrow hp hb2 HC HP
    have HK := Lib.hid (HW.out _ hbk)
    go_enter Try.func3, Try.ntmps3
    go_wp2_with fail
    go_ret
    exact ⟨rfl, HK.out⟩
  have dt0 : decide (t < 0) = false := by simp; omega
  by_cases ht1 : 1099511627776 < t
  · have dt1 : decide (1099511627776 < t) = true := by simp [ht1]
    clear hrow hp hb2 HC HP
    have HK := Lib.hid (HW.out _ hbk)
    go_enter Try.func3, Try.ntmps3
    go_wp2_with fail
    go_ret
    exact ⟨rfl, HK.out⟩
  have dt1 : decide (1099511627776 < t) = false := by simp; omega
  by_cases hl : 100 < x.args.length
  · have dl : decide (100 < x.args.length) = true := by simp [hl]
    have dl' : decide ((100 : Int) < (x.args.length : Int)) = true := by simp; omega
    clear hrow hp hb2 HP
    have HK := Lib.hid (HW.out _ hbk)
    obtain ⟨n0, n1, n2, n3, n4, q0, q1, q2, q3⟩ := HC.out _ hbk
    go_enter Try.func3, Try.ntmps3
    go_wp2_with fail
    go_ret
    exact ⟨rfl, HK.out⟩
  have dl : decide (100 < x.args.length) = false := by simp; omega
  have dl' : decide ((100 : Int) < (x.args.length : Int)) = false := by simp; omega
  have HOK : Hid (∀ w', Below ((w.alloc (.cells #[.int .i64 x.op, .int .i64 x.a, .int .i64 x.b, .int .i64 x.c, .slice x.A x.args.length x.cap] 24)).alloc (.cells #[.int .i64 p.kind, .int .i64 p.num, .string p.text, .slice p.A p.len p.cap] 27)).heap.size ((w.alloc (.cells #[.int .i64 x.op, .int .i64 x.a, .int .i64 x.b, .int .i64 x.c, .slice x.A x.args.length x.cap] 24)).alloc (.cells #[.int .i64 p.kind, .int .i64 p.num, .string p.text, .slice p.A p.len p.cap] 27)) w' → InOk w' w.heap.size x) := fun w' h =>
    InOk.below (w := w) ⟨hrow, Nat.le_refl _, by omega, hcap, hcm, hnone⟩ (HW.out w' h)
  have HLA : Hid (x.args.length ≤ 100) := by show _ ≤ _; omega
  have HT0 : Hid (0 ≤ t) := by show _ ≤ _; omega
  have HT1 : Hid (t ≤ 1099511627776) := by show _ ≤ _; omega
  have HS := Lib.hid hs
  have HND := Lib.hid (nodes_pa 50 n p v w.heap.size _ (HP.out _ hbk).1 (HP.out _ hbk).2 hs (by omega))
  clear hrow hp hb2 hcap hcm hnone hl ht0 ht1 hs
  unfold paV at HND
  obtain ⟨n0, n1, n2, n3, n4, q0, q1, q2, q3⟩ := HC.out _ hbk
  have HBK := Lib.hid hbk
  clear hbk
  go_enter Try.func3, Try.ntmps3
  go_wp2_with fail
  refine HND.out.mono ?_
  rintro e w3 ⟨rfl, hb3⟩
  clear n0 n1 n2 n3 n4 q0 q1 q2 q3
  have hbk := HBK.out.trans hb3
  obtain ⟨n0, n1, n2, n3, n4, q0, q1, q2, q3⟩ := HC.out _ hbk
  generalize (Pt.nd 50 v : Nat) = N at *
  clear HND HBK hb3
  generalize hW2 : ((w.alloc (.cells #[.int .i64 x.op, .int .i64 x.a, .int .i64 x.b, .int .i64 x.c, .slice x.A x.args.length x.cap] 24)).alloc (.cells #[.int .i64 p.kind, .int .i64 p.num, .string p.text, .slice p.A p.len p.cap] 27)) = w2 at *
  by_cases hN : 200 < N
  · have dN : decide (200 < N) = true := by simp [hN]
    have dN' : decide ((200 : Int) < (N : Int)) = true := by simp; omega
    have HK := Lib.hid (HW.out _ hbk)
    clear hbk
    go_wp2_with fail
    go_ret
    exact ⟨rfl, HK.out⟩
  have dN : decide (200 < N) = false := by simp; omega
  have dN' : decide ((200 : Int) < (N : Int)) = false := by simp; omega
  clear hN
  have HBK := Lib.hid hbk
  clear hbk
  go_wp2_with fail
  obtain ⟨E, HE⟩ : ∃ E, Hid (E = opE s) := ⟨_, rfl⟩
  obtain ⟨V, HV⟩ : ∃ V, Hid (V = opV s) := ⟨_, rfl⟩
  have HOP := Lib.hid (operator_any s w3)
  rw [← HE.out, ← HV.out] at HOP
  unfold opE at HE
  unfold opV at HV
  refine HOP.out.mono ?_
  rintro e w4 ⟨rfl, hb4⟩
  clear n0 n1 n2 n3 n4 q0 q1 q2 q3
  have hbk := HBK.out.trans (hb4.mono HBK.out.size)
  clear hb4 HBK HOP
  have HIX := Lib.hid (index_names w4 s)
  have hnl : namesL = [⟨#[43]⟩, ⟨#[45]⟩, ⟨#[42]⟩, ⟨#[47]⟩, ⟨#[37]⟩, ⟨#[60]⟩, ⟨#[61]⟩, ⟨#[94]⟩, ⟨#[110, 111, 116]⟩] := rfl
  have HBK := Lib.hid (hbk.alloc hbk.size (.cells (strs namesL).toArray 9))
  have hbk := HBK.out
  obtain ⟨n0, n1, n2, n3, n4, q0, q1, q2, q3⟩ := HC.out _ hbk
  clear hbk
  generalize idxS namesL s = k at *
  simp only [hnl, strs, List.map_cons, List.map_nil] at HIX HBK n0 n1 n2 n3 n4 q0 q1 q2 q3
  clear hnl
  go_wp2_with fail
  refine HIX.out.mono ?_
  rintro e w5 ⟨rfl, hw5⟩
  subst hw5
  clear HIX
  generalize w4.alloc _ = w5 at *
  have HGA := Lib.hid (gather_any x.A x.cap x.args w.heap.size w5 (HOK.out _ HBK.out).row (HOK.out _ HBK.out).hB HLA.out (HOK.out _ HBK.out).cap (HOK.out _ HBK.out).capm (HOK.out _ HBK.out).none)
  go_upto_region 5 with fail
  go_cut [58] from 41 to 58 (fun c wx => c = .bool false ∧ w5 = wx)
  case first =>
    by_cases hk : k < 0
    · have dk : decide (k < 0) = true := by simp [hk]
      have dk2 : decide (0 ≤ k) = false := by simp; omega
      have e4 := HE.out
      have v4 := HV.out
      rw [if_pos hk] at e4 v4
      subst e4 v4
      go_wp2_with fail
      go_meet
      case rel => exact ⟨rfl, rfl⟩
    · have dk : decide (k < 0) = false := by simp; omega
      have dk2 : decide (0 ≤ k) = true := by simp; omega
      have e4 := HE.out
      have v4 := HV.out
      rw [if_neg hk] at e4 v4
      subst e4 v4
      go_wp2_with fail
      go_meet
      case rel => exact ⟨rfl, rfl⟩
  obtain ⟨rfl, rfl⟩ := hcut
  clear HE HV
  go_wp2_with fail
  refine HGA.out.mono ?_
  rintro e w6 h6
  obtain ⟨A1, c1, l1, er, rfl, her, ha1, hb6⟩ := gat_int h6
  clear HGA h6
  clear n0 n1 n2 n3 n4 q0 q1 q2 q3
  have HB6 := Lib.hid hb6
  have hbk := HBK.out.trans (hb6.mono HBK.out.size)
  clear HBK
  obtain ⟨n0, n1, n2, n3, n4, q0, q1, q2, q3⟩ := HC.out _ hbk
  have HBK := Lib.hid hbk
  have HSP := Lib.hid (split_any x.A x.cap x.args w.heap.size w6 (HOK.out _ hbk).row (HOK.out _ hbk).hB HLA.out)
  have HA1 := Lib.hid ha1
  clear hbk hb6 ha1
  go_wp2_with fail
  refine HSP.out.mono ?_
  rintro e w7 h7
  obtain ⟨A2, c2, l2, rfl, ha2, hb7⟩ := gat_bool h7
  clear HSP h7
  clear n0 n1 n2 n3 n4 q0 q1 q2 q3
  have HSM := Lib.hid (sameArms_same A1 A2 c1 c2 l1 l2 _ w7 (HA1.out.below hb7) ha2 (gatL_ok x.args HLA.out).1 (gatL_ok x.args HLA.out).2)
  have hbk := HBK.out.trans (hb7.mono HBK.out.size)
  clear HBK HA1 hb7 ha2
  obtain ⟨n0, n1, n2, n3, n4, q0, q1, q2, q3⟩ := HC.out _ hbk
  have HBK := Lib.hid hbk
  clear hbk
  generalize (gatF x.args).isSome = bo at *
  go_wp2_with fail
  refine HSM.out.mono ?_
  rintro e w8 ⟨rfl, hb8⟩
  clear HSM
  clear n0 n1 n2 n3 n4 q0 q1 q2 q3
  have hbk := HBK.out.trans (hb8.mono HBK.out.size)
  clear HBK hb8
  obtain ⟨n0, n1, n2, n3, n4, q0, q1, q2, q3⟩ := HC.out _ hbk
  have hbk8 := hbk
  clear hbk
  go_upto_region 11 with fail
  clear her
  have HRL := Lib.hid (readsT_len x HLA.out)
  have HNL := Lib.hid (nextT_len x t HLA.out)
  have HAL := Lib.hid (armsT_small x HLA.out)
  have HSK : Hid (∀ w', Below w2.heap.size w2 w' → Below w2.heap.size w2 w' ∧ w'.cell? ⟨w.heap.size, 0, none⟩ = some (.int .i64 x.op) ∧ w'.cell? ⟨w.heap.size, 1, none⟩ = some (.int .i64 x.a) ∧ w'.cell? ⟨w.heap.size, 2, none⟩ = some (.int .i64 x.b) ∧ w'.cell? ⟨w.heap.size, 3, none⟩ = some (.int .i64 x.c) ∧ w'.cell? ⟨w.heap.size, 4, none⟩ = some (.slice x.A x.args.length x.cap) ∧ w'.cell? ⟨w.heap.size + 1, 0, none⟩ = some (.int .i64 p.kind) ∧ w'.cell? ⟨w.heap.size + 1, 1, none⟩ = some (.int .i64 p.num) ∧ w'.cell? ⟨w.heap.size + 1, 2, none⟩ = some (.string p.text) ∧ w'.cell? ⟨w.heap.size + 1, 3, none⟩ = some (.slice p.A p.len p.cap)) := fun w' h => ⟨h, HC.out w' h⟩
  go_region_held3 (fun w' => Below w2.heap.size w2 w' ∧ w'.cell? ⟨w.heap.size, 0, none⟩ = some (.int .i64 x.op) ∧ w'.cell? ⟨w.heap.size, 1, none⟩ = some (.int .i64 x.a) ∧ w'.cell? ⟨w.heap.size, 2, none⟩ = some (.int .i64 x.b) ∧ w'.cell? ⟨w.heap.size, 3, none⟩ = some (.int .i64 x.c) ∧ w'.cell? ⟨w.heap.size, 4, none⟩ = some (.slice x.A x.args.length x.cap) ∧ w'.cell? ⟨w.heap.size + 1, 0, none⟩ = some (.int .i64 p.kind) ∧ w'.cell? ⟨w.heap.size + 1, 1, none⟩ = some (.int .i64 p.num) ∧ w'.cell? ⟨w.heap.size + 1, 2, none⟩ = some (.string p.text) ∧ w'.cell? ⟨w.heap.size + 1, 3, none⟩ = some (.slice p.A p.len p.cap))
    ((first
      | exact HSK.out _ hbk
      | exact HSK.out _ (below_drewX hbk8)
      | go_keep))
    ((first
      | (go_at_call 16; refine (reads_any x w.heap.size _ (HOK.out _ (show Below w2.heap.size w2 _ ∧ _ by assumption).1)).mono ?_; rintro e wk ⟨A1, c1, rfl, r1, hbn⟩; have hX := (show Below w2.heap.size w2 _ ∧ _ by assumption); have hbk := hX.1.trans (hbn.mono hX.1.size); clear hbn hX)
      | (go_at_call 17; refine (rreads_any x w.heap.size _ (HOK.out _ (show Below w2.heap.size w2 _ ∧ _ by assumption).1)).mono ?_; rintro e wk ⟨A2, c2, rfl, r2, hbn⟩; have r1 := r1.below hbn; have hX := (show Below w2.heap.size w2 _ ∧ _ by assumption); have hbk := hX.1.trans (hbn.mono hX.1.size); clear hbn hX)
      | (go_at_call 18; refine (writes_any x _).mono ?_; rintro e wk ⟨rfl, hbn⟩; have hX := (show Below w2.heap.size w2 _ ∧ _ by assumption); have hbk := hX.1.trans (hbn.mono hX.1.size); clear hbn hX)
      | (go_at_call 19; refine (rwrites_any x _).mono ?_; rintro e wk ⟨rfl, hbn⟩; have hX := (show Below w2.heap.size w2 _ ∧ _ by assumption); have hbk := hX.1.trans (hbn.mono hX.1.size); clear hbn hX)
      | (go_at_call 20; refine (arms_any x w.heap.size _ (HOK.out _ (show Below w2.heap.size w2 _ ∧ _ by assumption).1)).mono ?_; rintro e wk ⟨v3, rfl, A3, c3, l3, rfl, a3, hbn, _⟩; have hX := (show Below w2.heap.size w2 _ ∧ _ by assumption); have hbk := hX.1.trans (hbn.mono hX.1.size); clear hbn hX)
      | (go_at_call 21; refine (rarms_any x w.heap.size _ (HOK.out _ (show Below w2.heap.size w2 _ ∧ _ by assumption).1)).mono ?_; rintro e wk ⟨v4, rfl, A4, c4, l4, rfl, a4, hbn, _⟩; have a3 := a3.below hbn; have hX := (show Below w2.heap.size w2 _ ∧ _ by assumption); have hbk := hX.1.trans (hbn.mono hX.1.size); clear hbn hX)
      | (go_at_call 22; refine (next_any x t w.heap.size _ (HOK.out _ (show Below w2.heap.size w2 _ ∧ _ by assumption).1) HT0.out HT1.out).mono ?_; rintro e wk ⟨A5, c5, rfl, r5, hbn⟩; have hX := (show Below w2.heap.size w2 _ ∧ _ by assumption); have hbk := hX.1.trans (hbn.mono hX.1.size); clear hbn hX)
      | (go_at_call 23; refine (rnext_any x t w.heap.size _ (HOK.out _ (show Below w2.heap.size w2 _ ∧ _ by assumption).1) HT0.out HT1.out).mono ?_; rintro e wk ⟨A6, c6, rfl, r6, hbn⟩; have r5 := r5.below hbn; have hX := (show Below w2.heap.size w2 _ ∧ _ by assumption); have hbk := hX.1.trans (hbn.mono hX.1.size); clear hbn hX)
      | (go_at_call 24; refine (binds_pa n p v w.heap.size _ (HP.out _ (show Below w2.heap.size w2 _ ∧ _ by assumption).1).1 (HP.out _ (show Below w2.heap.size w2 _ ∧ _ by assumption).1).2 HS.out).mono ?_; rintro e wk ⟨rfl, hbn⟩; have hX := (show Below w2.heap.size w2 _ ∧ _ by assumption); have hbk := hX.1.trans (hbn.mono hX.1.size); clear hbn hX)
      | (go_at_call 25; refine (rbinds_pa n p v w.heap.size _ (HP.out _ (show Below w2.heap.size w2 _ ∧ _ by assumption).1).1 (HP.out _ (show Below w2.heap.size w2 _ ∧ _ by assumption).1).2 HS.out).mono ?_; rintro e wk ⟨rfl, hbn⟩; have hX := (show Below w2.heap.size w2 _ ∧ _ by assumption); have hbk := hX.1.trans (hbn.mono hX.1.size); clear hbn hX)
      | (go_at_call 15; refine (equal_same A5 A6 c5 c6 (nextT x t) _ _ _ r5 r6 HNL.out).mono ?_; rintro e wk ⟨rfl, hbn⟩; clear r5 r6; have hX := (show Below w2.heap.size w2 _ ∧ _ by assumption); have hbk := hX.1.trans (hbn.mono hX.1.size); clear hbn hX)
      | (go_at_call 14; have q1 := sameArms_same A3 A4 c3 c4 l3 l4 _ _ a3 a4 HAL.out.1 HAL.out.2; refine q1.mono ?_; rintro e wk ⟨rfl, hbn⟩; clear a3 a4 q1; have hX := (show Below w2.heap.size w2 _ ∧ _ by assumption); have hbk := hX.1.trans (hbn.mono hX.1.size); clear hbn hX)
      | (go_at_call 15; have q1 := equal_same A1 A2 c1 c2 (readsT x) _ _ _ r1 r2 HRL.out; refine q1.mono ?_; rintro e wk ⟨rfl, hbn⟩; clear r1 r2 q1; have hX := (show Below w2.heap.size w2 _ ∧ _ by assumption); have hbk := hX.1.trans (hbn.mono hX.1.size); clear hbn hX)))
  all_goals (
    have HK := Lib.hid (HW.out _ (show Below w2.heap.size w2 _ ∧ _ by assumption).1)
    go_wp2_with fail
    go_ret
    exact ⟨rfl, HK.out⟩)
end Go.Proofs.Ytlnjapbpfhcloaa

