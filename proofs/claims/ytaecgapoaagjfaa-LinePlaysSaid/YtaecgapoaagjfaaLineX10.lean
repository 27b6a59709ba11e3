/-
  Lines: one of a list; packets compared, row by row.
-/
import Derived.Test.YtaecgapoaagjfaaLineX9
namespace Go.Proofs.Ytaecgapoaagjfaa
open Go.RowKit

theorem at_any (A : Option Addr) (n c : Nat) (xs : List Int) (i : Int) (B : Nat) (w : World) (h : Row w B A (ints xs)) (hn : xs.length = n) (hm : n ≤ maxLen) (hi : 0 ≤ i) :
    Calls Try.prog 33 #[.slice A n c, .int .i64 i] w fun e w' => e = .returned (.int .i64 (xs.getD i.toNat 0)) ∧ w = w' := by
  obtain ⟨k, rfl⟩ := Int.eq_ofNat_of_zero_le hi
  rw [Int.toNat_natCast]
  subst hn
  unfold maxLen at hm
  by_cases hk : k < xs.length
  · obtain ⟨b, o, rfl, _, hc⟩ := h.int hk
    generalize xs.getD k 0 = z at *
    go_enter Try.func33, Try.ntmps33
    go_wp2
    go_ret
    exact ⟨rfl, rfl⟩
  · have hz : xs.getD k 0 = 0 := by simp [List.getD_eq_getElem?_getD, List.getElem?_eq_none (show xs.length ≤ k by omega)]
    rw [hz]
    clear hz
    go_enter Try.func33, Try.ntmps33
    go_wp2
    go_ret
    exact ⟨rfl, rfl⟩

set_option maxRecDepth 100000 in
theorem pickBody (A : Option Addr) (c : Nat) (l : List BC) (bs : List Body) (i : Int) (S : Nat → Prop) (w : World) (h : bodyRow w S 0 A c l bs) :
    Calls Try.prog 44 #[.slice A l.length c, .int .i64 i] w fun e w' => ∃ (x : BC) (b : Body), e = .returned (.slice x.A x.len x.cap) ∧ BIn w S 0 x b ∧ w = w' := by
  have hn : l.length ≤ 9223372036854775807 := by have := h.2.2.2.1; have := h.2.2.2.2.1; unfold maxLen at this; omega
  by_cases hz : l.length = 0
  · rw [hz]
    clear h hn hz
    go_enter Try.func44, Try.ntmps44
    go_wp2_with fail
    go_ret
    exact ⟨bc0, [], rfl, BIn.none, rfl⟩
  · have bn : ((l.length : Int) == 0) = false := by rw [beq_eq_false_iff_ne]; omega
    have bn' : (l.length == 0) = false := by rw [beq_eq_false_iff_ne]; omega
    have hw0 : 0 ≤ IntKind.u64.wrap i := by
      simp only [IntKind.wrap, IntKind.signed, IntKind.bits]
      simp
      omega
    have hnp : (0 : Int) < (l.length : Int) := by omega
    obtain ⟨k, hke⟩ := Int.eq_ofNat_of_zero_le (show 0 ≤ (IntKind.u64.wrap i).tmod (l.length : Int) from Int.tmod_nonneg _ hw0)
    have hlt : (k : Int) < (l.length : Int) := by rw [← hke]; exact Int.tmod_lt_of_pos _ hnp
    have hlt' : k < l.length := by omega
    obtain ⟨b, o, rfl, _, hc0⟩ := h.2.1.all.body hlt' bc0
    rw [Nat.mul_one] at hc0
    have HE := Lib.hid (h.2.2.1 k hlt')
    generalize l.getD k bc0 = x at *
    generalize l.length = n at *
    clear h hz hw0
    go_enter Try.func44, Try.ntmps44
    go_wp2_with fail
    go_ret
    exact ⟨x, _, rfl, HE.out, rfl⟩

set_option maxRecDepth 100000 in
theorem pickPkt (A : Option Addr) (c : Nat) (l : List KC) (ps : List Pkt) (i : Int) (S : Nat → Prop) (w : World) (h : rpkRow w S 0 A c l ps) (hu : ∀ p ∈ ps, (0 ≤ p.seq ∧ p.seq < 4294967296) ∧ 0 ≤ p.ack ∧ p.ack < 4294967296) :
    Calls Try.prog 48 #[.slice A l.length c, .int .i64 i] w fun e w' => ∃ (x : KC) (p : Pkt), e = .returned (rpkV x) ∧ KIn w S 0 x p ∧ ((0 ≤ p.seq ∧ p.seq < 4294967296) ∧ 0 ≤ p.ack ∧ p.ack < 4294967296) ∧ Below w.heap.size w w' := by
  have hn : l.length ≤ 9223372036854775807 := by have := h.2.2.2.1; have := h.2.2.2.2.1; unfold maxLen at this; omega
  have HB := Lib.hid (fun o o' => ((Below.refl w.heap.size w).alloc (Nat.le_refl _) o).alloc (by simp) o')
  by_cases hz : l.length = 0
  · rw [hz]
    clear h hn hz
    go_enter Try.func48, Try.ntmps48
    go_wp2_with fail
    exact bodyPost_ret (v := rpkV kc0) (by unfold rpkV kc0 bc0; simp [results, Try.results48, go_sem]) rfl ⟨kc0, pkt0, rfl, ⟨⟨rfl, rfl, rfl, rfl⟩, BIn.none⟩, by decide, HB.out _ _⟩
  · have bn : ((l.length : Int) == 0) = false := by rw [beq_eq_false_iff_ne]; omega
    have bn' : (l.length == 0) = false := by rw [beq_eq_false_iff_ne]; omega
    have hw0 : 0 ≤ IntKind.u64.wrap i := by
      simp only [IntKind.wrap, IntKind.signed, IntKind.bits]
      simp
      omega
    have hnp : (0 : Int) < (l.length : Int) := by omega
    obtain ⟨k, hke⟩ := Int.eq_ofNat_of_zero_le (show 0 ≤ (IntKind.u64.wrap i).tmod (l.length : Int) from Int.tmod_nonneg _ hw0)
    have hlt : (k : Int) < (l.length : Int) := by rw [← hke]; exact Int.tmod_lt_of_pos _ hnp
    have hlt' : k < l.length := by omega
    obtain ⟨b, o, rfl, hbl, c0, c1, c2, c3, c4⟩ := h.2.1.all.rpk hlt' kc0
    have hcell : ∀ (j : Nat) (v : Value) (o1 o2 : Obj), w.cell? ⟨b, j, none⟩ = some v → ((w.alloc o1).alloc o2).cell? ⟨b, j, none⟩ = some v := fun j v o1 o2 hv => by
      rw [World.cell?_alloc_lt _ _ _ (by simp; omega), World.cell?_alloc_lt _ _ _ hbl]
      exact hv
    have k0 := fun o1 o2 => hcell _ _ o1 o2 c0
    have k1 := fun o1 o2 => hcell _ _ o1 o2 c1
    have k2 := fun o1 o2 => hcell _ _ o1 o2 c2
    have k3 := fun o1 o2 => hcell _ _ o1 o2 c3
    have k4 := fun o1 o2 => hcell _ _ o1 o2 c4
    have hne1 : b ≠ w.heap.size := by omega
    have hne2 : b ≠ w.heap.size + 1 := by omega
    have HE := Lib.hid (h.2.2.1 k hlt')
    have HU := Lib.hid (hu _ (getD_mem pkt0 (show k < ps.length by rw [← h.1]; exact hlt')))
    generalize l.getD k kc0 = x at *
    generalize l.length = n at *
    clear h hz hw0 hu hcell
    go_enter Try.func48, Try.ntmps48
    go_wp2_with fail
    exact bodyPost_ret (v := rpkV x) (by unfold rpkV; simp [results, Try.results48, go_sem]) rfl ⟨x, _, rfl, HE.out, HU.out, HB.out _ _⟩

set_option maxRecDepth 100000 in
set_option maxHeartbeats 1000000 in
theorem equalPkts (A1 A2 : Option Addr) (c1 c2 : Nat) (l1 l2 : List KC) (a b : List Pkt) (w : World) (S S' : Nat → Prop) (hx : lpkRow w S 0 A1 c1 l1 a) (hy : rpkRow w S' 0 A2 c2 l2 b) (hab : a = b) :
    Calls Try.prog 45 #[.slice A1 l1.length c1, .slice A2 l2.length c2, .func (.func 47) #[] #[]] w fun e w' => e = .returned (.bool true) ∧ Below w.heap.size w w' := by
  have he := enters_same
  unfold Enters at he
  have HX := Lib.hid hx.all
  have HY := Lib.hid hy.all
  have hl : l1.length = l2.length := by rw [hx.1, hy.1, hab]
  have hcm := hx.2.2.2.2.1
  have hlc := hx.2.2.2.1
  unfold maxLen at hcm
  have b1 : ((l1.length : Int) != (l2.length : Int)) = false := by simp; omega
  have b2 : (l1.length != l2.length) = false := by simp; omega
  have hl1 : l1.length ≤ l2.length := by omega
  have hl2 : l2.length ≤ l1.length := by omega
  clear hx hy hl
  go_enter Try.func45, Try.ntmps45
  go_wp2_with fail
  go_loopg [17] l1.length (fun gk i wr => ∃ k : Nat, gk = l1.length - k ∧ k ≤ l1.length ∧ i = .int .i64 k ∧ Below w.heap.size w wr)
  case atStart => exact ⟨0, by omega, by omega, rfl, Below.refl _ _⟩
  case round =>
    obtain ⟨k, hgk, hk, rfl, hbr⟩ := hrel
    have HK := Lib.hid hgk
    have hszr := hbr.size
    have HBR := Lib.hid hbr
    clear hgk
    by_cases hlt : k < l1.length
    · have hX := HX.out.below hbr fun _ h => h
      have hY := HY.out.below hbr fun _ h => h
      have h1 := hX.2.2.1 k hlt
      have h2 := hY.2.2.1 k (by omega)
      rw [← hab] at h2
      obtain ⟨p1, o1, rfl, hp1, x0, x1, x2, x3, x4⟩ := hX.2.1.all.lpk hlt kc0
      obtain ⟨p2, o2, rfl, hp2, y0, y1, y2, y3, y4⟩ := hY.2.1.all.rpk (show k < l2.length by omega) kc0
      have hy' : ∀ (j : Nat) (v : Value) (o : Obj), wr.cell? ⟨p2, j, none⟩ = some v → (wr.alloc o).cell? ⟨p2, j, none⟩ = some v := fun j v o hv => by
        rw [World.cell?_alloc_lt _ _ _ hp2]; exact hv
      have z0 := fun o => hy' _ _ o y0
      have z1 := fun o => hy' _ _ o y1
      have z2 := fun o => hy' _ _ o y2
      have z3 := fun o => hy' _ _ o y3
      have z4 := fun o => hy' _ _ o y4
      have HS := Lib.hid (fun (w' : World) (hb : Below wr.heap.size wr w') => same_true _ _ _ _ _ w' (h1.lt.keep (fun p hp => hb.cell hp.2) fun _ h => h) (h2.lt.keep (fun p hp => hb.cell hp.2) fun _ h => h))
      have HW := Lib.hid (fun o o' => ((Below.refl wr.heap.size wr).alloc (Nat.le_refl _) o).alloc (by simp) o')
      generalize l1.getD k kc0 = x at *
      generalize l2.getD k kc0 = y at *
      have hlt2 : (k : Int) < (l2.length : Int) := by omega
      have hlt3 : k < l2.length := by omega
      have hne : p2 ≠ wr.heap.size := by omega
      clear h1 h2 hX hY hy' hbr
      go_wp2_with fail
      refine (HS.out _ (HW.out _ _)).mono ?_
      rintro e w2 ⟨rfl, hb2⟩
      have HB2 := Lib.hid (HBR.out.trans (((HW.out _ _).trans (hb2.mono (HW.out _ _).size)).mono hszr))
      go_wp2_with fail
      go_roundg (l1.length - (k + 1))
      case measure => have := HK.out; omega
      case rel => exact ⟨k + 1, rfl, by omega, by go_num, HB2.out⟩
    · go_wp2_with fail
      go_ret
      exact ⟨rfl, HBR.out⟩
end Go.Proofs.Ytaecgapoaagjfaa
