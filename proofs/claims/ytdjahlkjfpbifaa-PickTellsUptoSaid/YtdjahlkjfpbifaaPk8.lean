
/-
  pick.Take of a mailbox with a fault; pick.Choose.
-/
import Derived.Test.YtdjahlkjfpbifaaPk7
namespace Go.Proofs.Ytdjahlkjfpbifaa
open Go.RowKit

set_option maxRecDepth 100000 in
set_option maxHeartbeats 1000000 in
theorem take_bad (A : Option Addr) (c : Nat) (l : List LC) (p : Int) (f : Value) (w : World) (hr : Row w w.heap.size A (flat letterC l)) (hlc : l.length ≤ c) (hm : c ≤ maxLen) (hf : boxF l p ≠ 0) :
    Calls Try.prog 80 #[boxV A l.length c p, f] w fun e w' => e = .returned (.tuple #[boxV none 0 0 0, letterV lc0, .bool false, .int .i64 (boxF l p)]) ∧ Below w.heap.size w w' := by
  have HB3 := Lib.hid (show ∀ o1 o2 o3, Below w.heap.size w (((w.alloc o1).alloc o2).alloc o3) from fun _ _ _ => (((Below.refl _ _).alloc (Nat.le_refl _) _).alloc (by simp) _).alloc (by simp; omega) _)
  have HR := Lib.hid hr
  have HCK := Lib.hid (fun w1 => check_any A c l p w1)
  have hbf : (boxF l p != 0) = true := by simpa using hf
  generalize boxF l p = R at *
  clear hr hf
  unfold boxV at HCK ⊢
  go_enter Try.func80, Try.ntmps80
  go_upto_region 1 with fail
  have HBL := Lib.hid (HB3.out (.cells #[.slice A l.length c, .int .i64 p] 24) (.cells #[.slice none 0 0, .int .i64 0] 24) (.cells #[.int .i64 0, .int .i64 0, .int .i64 0, .int .i64 0, .string ⟨#[]⟩, .int .i64 0, .int .i64 0, .string ⟨#[]⟩, .slice none 0 0] 37))
  have hbx0 := ((Box.new w 24 #[.slice A l.length c, .int .i64 p]).alloc (.cells #[.slice none 0 0, .int .i64 0] 24)).alloc (.cells #[.int .i64 0, .int .i64 0, .int .i64 0, .int .i64 0, .string ⟨#[]⟩, .int .i64 0, .int .i64 0, .string ⟨#[]⟩, .slice none 0 0] 37)
  have hbx1 := (Box.new (w.alloc (.cells #[.slice A l.length c, .int .i64 p] 24)) 24 #[.slice none 0 0, .int .i64 0]).alloc (.cells #[.int .i64 0, .int .i64 0, .int .i64 0, .int .i64 0, .string ⟨#[]⟩, .int .i64 0, .int .i64 0, .string ⟨#[]⟩, .slice none 0 0] 37)
  have hbx2 := Box.new ((w.alloc (.cells #[.slice A l.length c, .int .i64 p] 24)).alloc (.cells #[.slice none 0 0, .int .i64 0] 24)) 37 #[.int .i64 0, .int .i64 0, .int .i64 0, .int .i64 0, .string ⟨#[]⟩, .int .i64 0, .int .i64 0, .string ⟨#[]⟩, .slice none 0 0]
  have hsz : w.heap.size + 3 ≤ (((w.alloc (.cells #[.slice A l.length c, .int .i64 p] 24)).alloc (.cells #[.slice none 0 0, .int .i64 0] 24)).alloc (.cells #[.int .i64 0, .int .i64 0, .int .i64 0, .int .i64 0, .string ⟨#[]⟩, .int .i64 0, .int .i64 0, .string ⟨#[]⟩, .slice none 0 0] 37)).heap.size := by simp
  rw [show (w.alloc (.cells #[.slice A l.length c, .int .i64 p] 24)).heap.size = w.heap.size + 1 by simp] at hbx1
  rw [show ((w.alloc (.cells #[.slice A l.length c, .int .i64 p] 24)).alloc (.cells #[.slice none 0 0, .int .i64 0] 24)).heap.size = w.heap.size + 2 by simp] at hbx2
  generalize (((w.alloc (.cells #[.slice A l.length c, .int .i64 p] 24)).alloc (.cells #[.slice none 0 0, .int .i64 0] 24)).alloc (.cells #[.int .i64 0, .int .i64 0, .int .i64 0, .int .i64 0, .string ⟨#[]⟩, .int .i64 0, .int .i64 0, .string ⟨#[]⟩, .slice none 0 0] 37)) = w1 at *
  have HX1 := Lib.hid hbx1
  have HX2 := Lib.hid hbx2
  obtain ⟨a0, a1, _⟩ := own_cells2 hbx0
  clear hbx0 hbx1 hbx2 HB3
  go_wp2_with fail
  refine (HCK.out w1 ((HR.out.below HBL.out).more HBL.out.size) hlc hm).mono ?_
  rintro e w2 ⟨rfl, hb2⟩
  have HX12 := Lib.hid (HX1.out.below hb2 (by omega))
  have HX22 := Lib.hid (HX2.out.below hb2 (by omega))
  have HBL2 := Lib.hid (HBL.out.trans (hb2.mono HBL.out.size))
  obtain ⟨r0, r1, z0, z1⟩ := own_cells2 HX12.out
  obtain ⟨⟨s0, s1, s2, s3, s4, s5, s6, s7, s8⟩, ⟨y0, y1, y2, y3, y4, y5, y6, y7, y8⟩⟩ := own_cells9 HX22.out
  clear hb2 HX1 HX2 HBL hsz a0 a1
  go_wp2_with fail
  refine bodyPost_ret (v := .tuple #[.agg #[.slice none 0 0, .int .i64 0], letterV lc0, .bool false, .int .i64 R]) (by unfold letterV lc0 vc0; simp [results, Try.results80, go_sem, r0, r1, s0, s1, s2, s3, s4, s5, s6, s7, s8]) rfl ?_
  refine ⟨rfl, ?_⟩
  repeat (first | with_reducible exact HBL2.out | with_reducible refine below_drewP ?_ | (with_reducible refine Below.setCell ?_ ?_ _; rotate_left; first | exact Nat.le_add_right _ _ | exact Nat.le_add_right _ 2))
/-- What Choose answers: letters, a letter, where the mailbox stands, which pattern. -/
def chooseF (F : Let → Int) (b p : Int) (ts : List Let) : List Let × Let × Int × Int :=
  if b ≠ 0 then ([], let0, 0, 0) else
  if hitF F ts (ts.length - p.toNat) p.toNat < ts.length then (ts.take (hitF F ts (ts.length - p.toNat) p.toNat) ++ ts.drop (hitF F ts (ts.length - p.toNat) p.toNat + 1), ts.getD (hitF F ts (ts.length - p.toNat) p.toNat) let0, 0, F (ts.getD (hitF F ts (ts.length - p.toNat) p.toNat) let0))
  else (ts, let0, (ts.length : Int), -1)
def ChooseRes (w : World) (n : Nat) (b : Int) (r : List Let × Let × Int × Int) (e : Ending) (w' : World) : Prop :=
  ∃ A' c' l' x, e = .returned (.tuple #[boxV A' l'.length c' r.2.2.1, letterV x, .int .i64 r.2.2.2, .int .i64 b]) ∧ letterRow w' (w.heap.size ≤ ·) n A' c' l' r.1 ∧ LIn w' (w.heap.size ≤ ·) n x r.2.1 ∧ Below w.heap.size w w'
theorem idxAt_rangeP {α : Type} (f : α → Bool) : ∀ (l : List α) (k : Int), 0 ≤ k → idxAt f l k = -1 ∨ (k ≤ idxAt f l k ∧ idxAt f l k < k + l.length)
  | [], _, _ => .inl rfl
  | x :: r, k, hk => by
    unfold idxAt
    by_cases h : f x = true
    · rw [if_pos h]; right; simp; omega
    · rw [if_neg h]
      rcases idxAt_rangeP f r (k + 1) (by omega) with h | h
      · exact .inl h
      · right; simp; omega
theorem firstF_neg (n : Nat) (l : List Val) (v : Val) (h : firstF n l v < 0) : firstF n l v = -1 := by
  unfold firstF at *
  rcases idxAt_rangeP (fun p => (bindN n p v).isSome) l 0 (Int.le_refl _) with h1 | h1
  · exact h1
  · omega
theorem below_drewP {B : Nat} {w w1 : World} (h : Below B w w1) : Below B w w1.drew := ⟨h.os, h.tape, h.output, h.size, h.block⟩
theorem choose_fin {w w1 w3 w8 : World} {n gx i : Nat} {F : Let → Int} {ts : List Let} {r : List Let × Let × Int × Int} {kk a : Int} {A' : Option Addr} {c' : Nat} {l' : List LC} {x : LC}
    (hr : (if i < ts.length then (ts.take i ++ ts.drop (i + 1), ts.getD i let0, 0, F (ts.getD i let0)) else (ts, let0, (ts.length : Int), -1)) = r) (hk : (if i < ts.length then F (ts.getD i let0) else -1) = kk) (ha : a = if i < ts.length then 0 else (ts.length : Int))
    (hrow : letterRow w3 (fun b => w1.heap.size ≤ b ∧ b < gx) n A' c' l' (if i < ts.length then ts.take i ++ ts.drop (i + 1) else ts)) (hx : LIn w3 (fun b => w1.heap.size ≤ b ∧ b < gx) n x (if i < ts.length then ts.getD i let0 else let0)) (hs1 : w1.heap.size = w.heap.size + 5)
    (hb : Below w.heap.size w w8) (h8 : Only (fun b => b = w.heap.size + 2 ∨ b = w.heap.size + 3) w3 w8) :
    ChooseRes w n 0 r (.returned (.tuple #[.agg #[.slice A' l'.length c', .int .i64 a], letterV x, .int .i64 kk, .int .i64 0])) w8 := by
  have hrow2 : letterRow w8 (w.heap.size ≤ ·) n A' c' l' (if i < ts.length then ts.take i ++ ts.drop (i + 1) else ts) := hrow.lt.keep (fun q hq => only_cell h8 hq.2 fun e => by have := hq.1.1; omega) fun b hb => by have := hb.1.1; omega
  have hx2 : LIn w8 (w.heap.size ≤ ·) n x (if i < ts.length then ts.getD i let0 else let0) := hx.lt.keep (fun q hq => only_cell h8 hq.2 fun e => by have := hq.1.1; omega) fun b hb => by have := hb.1.1; omega
  by_cases hi : i < ts.length
  · rw [if_pos hi] at hr hk ha hrow2 hx2
    subst hr hk ha
    exact ⟨A', c', l', x, rfl, hrow2, hx2, hb⟩
  · rw [if_neg hi] at hr hk ha hrow2 hx2
    subst hr hk ha
    exact ⟨A', c', l', x, rfl, hrow2, hx2, hb⟩
theorem lin_zero {w : World} {S : Nat → Prop} {n : Nat} (hn : 1 ≤ n) : LIn w S n lc0 let0 := by
  obtain ⟨n, rfl⟩ : ∃ m, n = m + 1 := ⟨n - 1, by omega⟩
  exact ⟨⟨rfl, rfl, rfl, rfl, rfl, Nat.zero_le _, by simp [I64, lc0], by simp [I64, lc0], by simp [I64, lc0], by simp [I64, lc0]⟩, VIn.leaf n 0 0 (by simp [I64]) (by simp [I64])⟩

set_option maxRecDepth 100000 in
set_option maxHeartbeats 4000000 in
theorem choose_any (n : Nat) (A : Option Addr) (c : Nat) (l : List LC) (ts : List Let) (p : Int) (Ap : Option Addr) (cp : Nat) (lp : List VC) (ps : List Val) (w : World) (S Sp : Nat → Prop) (hn : 1 ≤ n) (h : letterRow w S n A c l ts) (hps : valRow w Sp (n + 2) Ap cp lp ps) (hM : ∀ p ∈ ps, p.size ≤ 2097152) :
    Calls Try.prog 21 #[boxV A l.length c p, .slice Ap lp.length cp] w (ChooseRes w n (boxF l p) (chooseF (fun t => firstF (n + 2) ps (msgOf t)) (boxF l p) p ts)) := by
  have HB5 := Lib.hid (show ∀ o1 o2 o3 o4 o5, Below w.heap.size w (((((w.alloc o1).alloc o2).alloc o3).alloc o4).alloc o5) from fun _ _ _ _ _ => (((((Below.refl _ _).alloc (Nat.le_refl _) _).alloc (by simp) _).alloc (by simp; omega) _).alloc (by simp; omega) _).alloc (by simp; omega) _)
  have HR := Lib.hid h.lt
  have HP := Lib.hid hps.lt
  have HMM := Lib.hid hM
  have hlc := h.2.2.2.1
  have hm := h.2.2.2.2.1
  obtain ⟨b, hb⟩ : ∃ b, boxF l p = b := ⟨_, rfl⟩
  have HBF := Lib.hid hb
  rw [hb]
  obtain ⟨r, hr⟩ : ∃ r, chooseF (fun t => firstF (n + 2) ps (msgOf t)) b p ts = r := ⟨_, rfl⟩
  rw [hr]
  have HRR := Lib.hid hr
  clear h hps hM hb hr
  unfold boxV at *
  go_enter Try.func21, Try.ntmps21
  go_upto_region 2 with fail
  have HBL := Lib.hid (HB5.out (.cells #[.slice A l.length c, .int .i64 p] 24) (.cells #[.slice Ap lp.length cp] 25) (.cells #[.slice none 0 0, .int .i64 0] 24) (.cells #[.int .i64 0, .int .i64 0, .int .i64 0, .int .i64 0, .string ⟨#[]⟩, .int .i64 0, .int .i64 0, .string ⟨#[]⟩, .slice none 0 0] 37) (.cells #[.int .i64 (-1)] 3))
  have hbx0 := ((((Box.new w 24 #[.slice A l.length c, .int .i64 p]).alloc (.cells #[.slice Ap lp.length cp] 25)).alloc (.cells #[.slice none 0 0, .int .i64 0] 24)).alloc (.cells #[.int .i64 0, .int .i64 0, .int .i64 0, .int .i64 0, .string ⟨#[]⟩, .int .i64 0, .int .i64 0, .string ⟨#[]⟩, .slice none 0 0] 37)).alloc (.cells #[.int .i64 (-1)] 3)
  have hbx1 := (((Box.new (w.alloc (.cells #[.slice A l.length c, .int .i64 p] 24)) 25 #[.slice Ap lp.length cp]).alloc (.cells #[.slice none 0 0, .int .i64 0] 24)).alloc (.cells #[.int .i64 0, .int .i64 0, .int .i64 0, .int .i64 0, .string ⟨#[]⟩, .int .i64 0, .int .i64 0, .string ⟨#[]⟩, .slice none 0 0] 37)).alloc (.cells #[.int .i64 (-1)] 3)
  have hbx2 := ((Box.new ((w.alloc (.cells #[.slice A l.length c, .int .i64 p] 24)).alloc (.cells #[.slice Ap lp.length cp] 25)) 24 #[.slice none 0 0, .int .i64 0]).alloc (.cells #[.int .i64 0, .int .i64 0, .int .i64 0, .int .i64 0, .string ⟨#[]⟩, .int .i64 0, .int .i64 0, .string ⟨#[]⟩, .slice none 0 0] 37)).alloc (.cells #[.int .i64 (-1)] 3)
  have hbx3 := (Box.new (((w.alloc (.cells #[.slice A l.length c, .int .i64 p] 24)).alloc (.cells #[.slice Ap lp.length cp] 25)).alloc (.cells #[.slice none 0 0, .int .i64 0] 24)) 37 #[.int .i64 0, .int .i64 0, .int .i64 0, .int .i64 0, .string ⟨#[]⟩, .int .i64 0, .int .i64 0, .string ⟨#[]⟩, .slice none 0 0]).alloc (.cells #[.int .i64 (-1)] 3)
  have hbx4 := Box.new ((((w.alloc (.cells #[.slice A l.length c, .int .i64 p] 24)).alloc (.cells #[.slice Ap lp.length cp] 25)).alloc (.cells #[.slice none 0 0, .int .i64 0] 24)).alloc (.cells #[.int .i64 0, .int .i64 0, .int .i64 0, .int .i64 0, .string ⟨#[]⟩, .int .i64 0, .int .i64 0, .string ⟨#[]⟩, .slice none 0 0] 37)) 3 #[.int .i64 (-1)]
  have hsz : (((((w.alloc (.cells #[.slice A l.length c, .int .i64 p] 24)).alloc (.cells #[.slice Ap lp.length cp] 25)).alloc (.cells #[.slice none 0 0, .int .i64 0] 24)).alloc (.cells #[.int .i64 0, .int .i64 0, .int .i64 0, .int .i64 0, .string ⟨#[]⟩, .int .i64 0, .int .i64 0, .string ⟨#[]⟩, .slice none 0 0] 37)).alloc (.cells #[.int .i64 (-1)] 3)).heap.size = w.heap.size + 5 := by simp
  rw [show (w.alloc (.cells #[.slice A l.length c, .int .i64 p] 24)).heap.size = w.heap.size + 1 by simp] at hbx1
  rw [show ((w.alloc (.cells #[.slice A l.length c, .int .i64 p] 24)).alloc (.cells #[.slice Ap lp.length cp] 25)).heap.size = w.heap.size + 2 by simp] at hbx2
  rw [show (((w.alloc (.cells #[.slice A l.length c, .int .i64 p] 24)).alloc (.cells #[.slice Ap lp.length cp] 25)).alloc (.cells #[.slice none 0 0, .int .i64 0] 24)).heap.size = w.heap.size + 3 by simp] at hbx3
  rw [show ((((w.alloc (.cells #[.slice A l.length c, .int .i64 p] 24)).alloc (.cells #[.slice Ap lp.length cp] 25)).alloc (.cells #[.slice none 0 0, .int .i64 0] 24)).alloc (.cells #[.int .i64 0, .int .i64 0, .int .i64 0, .int .i64 0, .string ⟨#[]⟩, .int .i64 0, .int .i64 0, .string ⟨#[]⟩, .slice none 0 0] 37)).heap.size = w.heap.size + 4 by simp] at hbx4
  generalize (((((w.alloc (.cells #[.slice A l.length c, .int .i64 p] 24)).alloc (.cells #[.slice Ap lp.length cp] 25)).alloc (.cells #[.slice none 0 0, .int .i64 0] 24)).alloc (.cells #[.int .i64 0, .int .i64 0, .int .i64 0, .int .i64 0, .string ⟨#[]⟩, .int .i64 0, .int .i64 0, .string ⟨#[]⟩, .slice none 0 0] 37)).alloc (.cells #[.int .i64 (-1)] 3)) = w1 at *
  obtain ⟨a0, a1, _⟩ := own_cells2 hbx0
  clear hbx0
  have HX2 := Lib.hid hbx2
  have HX3 := Lib.hid hbx3
  have HX4 := Lib.hid hbx4
  have HX1 := Lib.hid hbx1
  have hgl : w1.cell? ⟨w.heap.size + 1, 0, none⟩ = some (.slice Ap lp.length cp) := hbx1.cell 0
  have HGL := Lib.hid hgl
  clear hbx1 hbx2 hbx3 hbx4 hgl HB5
  have HS1 := Lib.hid hsz
  by_cases hb0 : b ≠ 0
  · have hbb : (b != 0) = true := by simpa using hb0
    have hr : r = ([], let0, 0, 0) := by rw [← HRR.out]; unfold chooseF; rw [if_pos hb0]
    subst hr
    have HTB := Lib.hid (fun f => take_bad A c l p f w1 ((HR.out.below HBL.out fun _ h => h.2).2.1.all) hlc hm (by rw [HBF.out]; exact hb0))
    rw [HBF.out] at HTB
    unfold boxV at HTB
    clear hb0
    go_wp2_with fail
    refine (HTB.out _).mono ?_
    rintro e w2 ⟨rfl, hb2⟩
    have hb3 : Below w2.heap.size w2 ((w2.alloc (.cells #[.slice none 0 0, .int .i64 0] 24)).alloc (.cells #[.int .i64 0, .int .i64 0, .int .i64 0, .int .i64 0, .string ⟨#[]⟩, .int .i64 0, .int .i64 0, .string ⟨#[]⟩, .slice none 0 0] 37)) := ((Below.refl _ _).alloc (Nat.le_refl _) _).alloc (by simp) _
    have hsz2 : w.heap.size + 5 ≤ w2.heap.size := by have := hb2.size; omega
    have HX22 := Lib.hid ((HX2.out.below hb2 (by omega)).below hb3 (by omega))
    have HX32 := Lib.hid ((HX3.out.below hb2 (by omega)).below hb3 (by omega))
    have HBL2 := Lib.hid ((HBL.out.trans (hb2.mono HBL.out.size)).trans (hb3.mono (by omega)))
    clear hb2 hb3 HX2 HX3 hsz
    unfold letterV lc0 vc0
    go_upto_region 3 with fail
    generalize ((w2.alloc (.cells #[.slice none 0 0, .int .i64 0] 24)).alloc (.cells #[.int .i64 0, .int .i64 0, .int .i64 0, .int .i64 0, .string ⟨#[]⟩, .int .i64 0, .int .i64 0, .string ⟨#[]⟩, .slice none 0 0] 37)) = w3 at *
    obtain ⟨r0, r1, z0, z1⟩ := own_cells2 HX22.out
    obtain ⟨⟨s0, s1, s2, s3, s4, s5, s6, s7, s8⟩, ⟨y0, y1, y2, y3, y4, y5, y6, y7, y8⟩⟩ := own_cells9 HX32.out
    go_wp2_with fail
    refine bodyPost_ret (v := .tuple #[.agg #[.slice none 0 0, .int .i64 0], letterV lc0, .int .i64 0, .int .i64 b]) (by unfold letterV lc0 vc0; simp [results, Try.results21, go_sem, r0, r1, s0, s1, s2, s3, s4, s5, s6, s7, s8]) rfl ?_
    refine ⟨none, 0, [], lc0, rfl, letterRow.none, lin_zero hn, ?_⟩
    repeat (first | with_reducible exact HBL2.out | with_reducible refine below_drewP ?_ | (with_reducible refine Below.setCell ?_ ?_ _; rotate_left; first | exact Nat.le_add_right _ 2 | exact Nat.le_add_right _ 3))
  · have hb0 : b = 0 := by omega
    subst hb0
    have hbb : ((0 : Int) != 0) = false := rfl
    obtain ⟨i, hi⟩ : ∃ i, hitF (fun t => firstF (n + 2) ps (msgOf t)) ts (ts.length - p.toNat) p.toNat = i := ⟨_, rfl⟩
    have HTK := Lib.hid (take_ok n (fun v => firstF (n + 2) ps v) 81 #[.pointer (some ⟨w.heap.size + 1, 0, none⟩), .pointer (some ⟨w.heap.size + 4, 0, none⟩)] (w.heap.size + 4) (w.heap.size + 4) A c l ts p w1 _ enters_choose1 hn (HR.out.below HBL.out fun _ h => h.2) (fun b hb => by have := hb.2; omega) (Nat.le_refl _) HBF.out
      (fun w2 y v S' hb2 hg2 hy2 => by
        obtain ⟨j, hj⟩ := hg2
        exact choose1_any (n + 2) Ap cp lp ps y v w2 _ S' (w.heap.size + 1) (w.heap.size + 4) j ((HP.out.below HBL.out fun _ h => h.2).below hb2 fun b hb => by have := hb.2; omega) hy2 HMM.out ((hb2.cell (p := ⟨w.heap.size + 1, 0, none⟩) (by show w.heap.size + 1 < w.heap.size + 4; omega)).trans HGL.out) (by have := hj.lt; omega) hj)
      (fun v h => by
        have h1 := firstF_neg (n + 2) ps v h
        exact h1) HX4.out)
    rw [hi] at HTK
    have hr := HRR.out
    unfold chooseF at hr
    rw [if_neg (by decide), hi] at hr
    have HRI := Lib.hid hr
    clear HRR hr hi hb0
    unfold boxV TakeRes at HTK
    go_wp2_with fail
    refine HTK.out.mono ?_
    rintro e w2 ⟨A', c', l', x, q, a, rfl, hrow, hx, hq, ha, hg, hon⟩
    obtain ⟨kk, hkk⟩ : ∃ kk, (if i < ts.length then firstF (n + 2) ps (msgOf (ts.getD i let0)) else -1) = kk := ⟨_, rfl⟩
    rw [hkk] at hg
    have HKK := Lib.hid hkk
    have HA := Lib.hid ha
    clear hq hkk ha HTK
    have hsz2 : w.heap.size + 5 ≤ w2.heap.size := by have := hon.size; omega
    have hb3 : Below w2.heap.size w2 ((w2.alloc (.cells #[.slice A' l'.length c', .int .i64 a] 24)).alloc (.cells #[.int .i64 x.kind, .int .i64 x.frm, .int .i64 x.to, .int .i64 x.num, .string x.text, .int .i64 x.v.kind, .int .i64 x.v.num, .string x.v.text, .slice x.v.A x.v.len x.v.cap] 37)) := ((Below.refl _ _).alloc (Nat.le_refl _) _).alloc (by simp) _
    have HBL2 := Lib.hid ((hon.to_below HBL.out (by omega) (fun i hi => by omega)).trans (hb3.mono (by omega)))
    have HX22 := Lib.hid ((hon.box HX2.out (by omega)).below hb3 (by omega))
    have HX32 := Lib.hid ((hon.box HX3.out (by omega)).below hb3 (by omega))
    have HX42 := Lib.hid (hg.below hb3 (by omega))
    have hx9 := (Box.new w2 24 #[.slice A' l'.length c', .int .i64 a]).alloc (.cells #[.int .i64 x.kind, .int .i64 x.frm, .int .i64 x.to, .int .i64 x.num, .string x.text, .int .i64 x.v.kind, .int .i64 x.v.num, .string x.v.text, .slice x.v.A x.v.len x.v.cap] 37)
    have hx10 := Box.new (w2.alloc (.cells #[.slice A' l'.length c', .int .i64 a] 24)) 37 #[.int .i64 x.kind, .int .i64 x.frm, .int .i64 x.to, .int .i64 x.num, .string x.text, .int .i64 x.v.kind, .int .i64 x.v.num, .string x.v.text, .slice x.v.A x.v.len x.v.cap]
    rw [show (w2.alloc (.cells #[.slice A' l'.length c', .int .i64 a] 24)).heap.size = w2.heap.size + 1 by simp] at hx10
    have HROW := Lib.hid (hrow.lt.below hb3 fun _ h => h.2)
    have HXX := Lib.hid (hx.lt.below hb3 fun _ h => h.2)
    clear hrow hx hg hon hb3 HX2 HX3 HX4 HX1
    unfold letterV
    go_upto_region 3 with fail
    generalize ((w2.alloc (.cells #[.slice A' l'.length c', .int .i64 a] 24)).alloc (.cells #[.int .i64 x.kind, .int .i64 x.frm, .int .i64 x.to, .int .i64 x.num, .string x.text, .int .i64 x.v.kind, .int .i64 x.v.num, .string x.v.text, .slice x.v.A x.v.len x.v.cap] 37)) = w3 at *
    obtain ⟨r0, r1, z0, z1⟩ := own_cells2 HX22.out
    obtain ⟨⟨s0, s1, s2, s3, s4, s5, s6, s7, s8⟩, ⟨y0, y1, y2, y3, y4, y5, y6, y7, y8⟩⟩ := own_cells9 HX32.out
    obtain ⟨t0, t1, _⟩ := own_cells2 hx9
    obtain ⟨⟨x0, x1, x2, x3, x4, x5, x6, x7, x8⟩, _⟩ := own_cells9 hx10
    have k0 : w3.cell? ⟨w.heap.size + 4, 0, none⟩ = some (.int .i64 kk) := HX42.out.cell 0
    generalize w2.heap.size = gx at *
    clear hx9 hx10
    go_upto_region 5 with fail
    go_region_law (fail)
    all_goals (
      simp only [List.getElem_toArray, List.getElem_cons_succ, List.getElem_cons_zero]
      go_frame
      go_wp2_with fail
      refine bodyPost_ret (v := .tuple #[.agg #[.slice A' l'.length c', .int .i64 a], letterV x, .int .i64 kk, .int .i64 0]) (by unfold letterV; simp [results, Try.results21, go_sem, r0, r1, s0, s1, s2, s3, s4, s5, s6, s7, s8]) rfl ?_
      refine choose_fin (F := fun t => firstF (n + 2) ps (msgOf t)) HRI.out HKK.out HA.out HROW.out HXX.out HS1.out ?_ ?_
      · repeat (first | with_reducible exact HBL2.out | with_reducible refine below_drewP ?_ | (with_reducible refine Below.setCell ?_ ?_ _; rotate_left; first | exact Nat.le_add_right _ 2 | exact Nat.le_add_right _ 3))
      · repeat (first | with_reducible exact Only.refl _ _ | with_reducible refine Only.drew ?_ | (with_reducible refine Only.set ?_ ?_ _; rotate_left; first | exact .inl rfl | exact .inr rfl)))
end Go.Proofs.Ytdjahlkjfpbifaa
