
/-
  What a letter says; a value of one's own; the letters again; the letters of a sender.
-/
import Derived.Test.YtdjahlkjfpbifaaBox2
namespace Go.Proofs.Ytdjahlkjfpbifaa
open Go.RowKit

theorem flat_any (n : Nat) (x : VC) (v : Val) (w : World) (S : Nat → Prop) (h : VIn w S n x v) : Calls Try.prog 10 #[valV x] w fun e w' => (∃ q : Bool, e = .returned (.bool q)) ∧ Below w.heap.size w w' := by
  have HB := Lib.hid (show ∀ o, Below w.heap.size w (w.alloc o) from fun o => (Below.refl _ _).alloc (Nat.le_refl _) _)
  have HV := Lib.hid h.lt
  clear h
  have HD := Lib.hid (deep_any n x v)
  unfold valV at *
  go_enter Try.func10, Try.ntmps10
  go_wp2_with fail
  refine (HD.out _ _ (HV.out.below (HB.out _) fun _ h => h.2)).mono ?_
  rintro e w1 ⟨⟨d, m, rfl⟩, hb⟩
  have HW := Lib.hid ((HB.out _).trans (hb.mono (HB.out _).size))
  clear hb HD
  by_cases h1 : d ≤ 60
  · have d1 : decide (d ≤ 60) = true := by simp; omega
    go_wp2_with fail
    go_ret
    exact ⟨⟨_, rfl⟩, HW.out⟩
  · have d1 : decide (d ≤ 60) = false := by simp; omega
    go_wp2_with fail
    go_ret
    exact ⟨⟨_, rfl⟩, HW.out⟩

theorem box4 {w w1 : World} {e : TypeId} {cs : Array Value} {o1 : Obj} (hb : Below ((w.alloc o1).alloc (.cells cs e)).heap.size ((w.alloc o1).alloc (.cells cs e)) w1) : Box w1 (w.heap.size + 1) e cs := by
  have := (Box.new (w.alloc o1) e cs).below hb (by simp)
  simpa using this
theorem below2 {w w1 : World} {o1 o2 : Obj} (hb : Below ((w.alloc o1).alloc o2).heap.size ((w.alloc o1).alloc o2) w1) : Below w.heap.size w w1 :=
  (((Below.refl w.heap.size w).alloc (Nat.le_refl _) _).alloc (by simp) _).trans (hb.mono (by simp; omega))

set_option maxRecDepth 100000 in
set_option maxHeartbeats 1000000 in
theorem own_val (n : Nat) (x : VC) (v : Val) (w : World) (S : Nat → Prop) (h : VIn w S n x v) : Calls Try.prog 165 #[valV x] w fun e w' => ∃ y, e = .returned (valV y) ∧ VIn w' (w.heap.size ≤ ·) n y v ∧ Below w.heap.size w w' := by
  have HB := Lib.hid (show ∀ o1 o2, Below w.heap.size w ((w.alloc o1).alloc o2) from fun _ _ => ((Below.refl _ _).alloc (Nat.le_refl _) _).alloc (by simp) _)
  have HV := Lib.hid h.lt
  clear h
  have HD := Lib.hid (copy_val n x v)
  unfold valV at *
  go_enter Try.func165, Try.ntmps165
  go_wp2_with fail
  refine (HD.out _ _ (HV.out.below (HB.out _ _) fun _ h => h.2)).mono ?_
  rintro e w1 ⟨y, rfl, hy, hb⟩
  obtain ⟨b0, b1, b2, b3, g0, g1, g2, g3⟩ := own_cells4 (box4 hb)
  have HW := Lib.hid (below2 hb)
  have HR := Lib.hid (show VIn w1 (fun b => w.heap.size + 2 ≤ b) n y v by simpa using hy)
  clear hb hy HD
  go_wp2_with fail
  refine bodyPost_ret (v := valV y) (by unfold valV; simp [results, Try.results165, go_sem, b0, b1, b2, b3]) rfl ?_
  refine ⟨y, rfl, HR.out.keep (fun p hp => ?_) fun b hb => by omega, ?_⟩
  · iterate 4 rw [cell_far (by simp; omega)]
  · refine HW.out.trans ?_
    iterate 3 refine Below.setCell ?_ (by simp) _
    exact (Below.refl _ _).setCell (by simp) _

def downT : ByteArray := ⟨#[68, 111, 119, 110]⟩
/-- What a letter says. -/
def msgOf (t : Let) : Val := if t.kind = 2 then .mk 5 0 downT [.mk 6 t.frm ⟨#[]⟩ [], .mk 2 t.num ⟨#[]⟩ []] else t.v
theorem VIn.leaf {w : World} {S : Nat → Prop} (n : Nat) (k m : Int) (hk : I64 k) (hm : I64 m) : VIn w S (n + 1) ⟨k, m, ⟨#[]⟩, none, 0, 0⟩ (.mk k m ⟨#[]⟩ []) :=
  ⟨⟨rfl, rfl, rfl, rfl, Nat.zero_le _, hk, hm⟩, ⟨by simp, by simp, fun _ => rfl, by simp⟩, [], rfl, RowS.nil, fun i hi => absurd hi (by simp)⟩
theorem VIn.down {w : World} {S : Nat → Prop} {g : Nat} (n : Nat) (a b : Int) (ha : I64 a) (hb : I64 b) (hS : S g)
    (hg : Box w g 28 #[.int .i64 6, .int .i64 a, .string ⟨#[]⟩, .slice none 0 0, .int .i64 2, .int .i64 b, .string ⟨#[]⟩, .slice none 0 0]) :
    VIn w S (n + 2) ⟨5, 0, downT, some ⟨g, 0, none⟩, 2, 2⟩ (.mk 5 0 downT [.mk 6 a ⟨#[]⟩ [], .mk 2 b ⟨#[]⟩ []]) := by
  refine ⟨⟨rfl, rfl, rfl, rfl, show downT.size ≤ maxLen by unfold maxLen downT; decide, by simp [I64], by simp [I64]⟩, ⟨by simp, by unfold maxLen; simp, fun e => by simp at e, by unfold reachBytes; simp⟩, [⟨6, a, ⟨#[]⟩, none, 0, 0⟩, ⟨2, b, ⟨#[]⟩, none, 0, 0⟩], rfl, fun _ => ⟨g, 0, rfl, hS, fun i v hv => ?_⟩, fun i hi => ?_⟩
  · rw [Nat.zero_add, hg.cell i, ← hv]
    simp [flat, valC]
  · match i, hi with
    | 0, _ => exact VIn.leaf n 6 a (by simp [I64]) ha
    | 1, _ => exact VIn.leaf n 2 b (by simp [I64]) hb
    | i + 2, hi => simp at hi; omega

set_option maxRecDepth 100000 in
set_option maxHeartbeats 1000000 in
theorem message_any (n : Nat) (x : LC) (t : Let) (w : World) (S : Nat → Prop) (h : LIn w S n x t) : Calls Try.prog 25 #[letterV x] w fun e w' => ∃ y, e = .returned (valV y) ∧ VIn w' (fun b => S b ∨ w.heap.size ≤ b) (n + 2) y (msgOf t) ∧ Below w.heap.size w w' := by
  have HV := Lib.hid h.lt
  have hk := h.1.1
  have hf := h.1.2.1
  have hn := h.1.2.2.2.1
  have i1 := h.1.2.2.2.2.2.2.2.1
  have i2 := h.1.2.2.2.2.2.2.2.2.2
  clear h
  unfold letterV
  have HB := Lib.hid (show ∀ o1 o2, Below w.heap.size w ((w.alloc o1).alloc o2) from fun _ _ => ((Below.refl _ _).alloc (Nat.le_refl _) _).alloc (by simp) _)
  by_cases h2 : x.kind = 2
  · have b1 : (x.kind == 2) = true := by simp [h2]
    have HM := Lib.hid (show msgOf t = .mk 5 0 downT [.mk 6 x.frm ⟨#[]⟩ [], .mk 2 x.num ⟨#[]⟩ []] by unfold msgOf; rw [if_pos (by omega), ← hf, ← hn])
    clear h2 hk hf hn
    go_enter Try.func25, Try.ntmps25
    go_wp2_with fail
    refine bodyPost_ret (v := valV ⟨5, 0, downT, some ⟨w.heap.size + 2, 0, none⟩, 2, 2⟩) (by unfold valV downT; simp [results, Try.results25, go_sem]) rfl ?_
    refine ⟨_, rfl, ?_, (HB.out _ _).alloc (by simp; omega) _⟩
    rw [HM.out]
    have hbx := Box.new ((w.alloc (.cells (letterC x).toArray 37)).alloc (.cells #[.int .i64 5, .int .i64 0, .string downT, .slice (some ⟨w.heap.size + 1 + 1, 0, none⟩) 2 2] 28)) 28 #[.int .i64 6, .int .i64 x.frm, .string ⟨#[]⟩, .slice none 0 0, .int .i64 2, .int .i64 x.num, .string ⟨#[]⟩, .slice none 0 0]
    rw [show ((w.alloc (.cells (letterC x).toArray 37)).alloc (.cells #[.int .i64 5, .int .i64 0, .string downT, .slice (some ⟨w.heap.size + 1 + 1, 0, none⟩) 2 2] 28)).heap.size = w.heap.size + 2 by simp] at hbx
    exact VIn.down n x.frm x.num i1 i2 (by right; omega) hbx
  · have b1 : (x.kind == 2) = false := by simp [h2]
    have HM := Lib.hid (show msgOf t = t.v by unfold msgOf; rw [if_neg (by omega)])
    clear h2 hk hf hn
    go_enter Try.func25, Try.ntmps25
    go_wp2_with fail
    refine bodyPost_ret (v := valV x.v) (by unfold valV; simp [results, Try.results25, go_sem]) rfl ?_
    refine ⟨x.v, rfl, ?_, HB.out _ _⟩
    rw [HM.out]
    exact ((HV.out.2.below (HB.out _ _) fun _ h => h.2).keep (fun _ _ => rfl) fun _ h => .inl h.1).more (by omega)

set_option maxRecDepth 100000 in
set_option maxHeartbeats 1000000 in
theorem says_any (n : Nat) (x : LC) (t : Let) (w : World) (S : Nat → Prop) (h : LIn w S n x t) : Calls Try.prog 125 #[letterV x] w fun e w' => ∃ y, e = .returned (valV y) ∧ VIn w' (w.heap.size ≤ ·) (n + 2) y (msgOf t) ∧ Below w.heap.size w w' := by
  have HV := Lib.hid h.lt
  have hk := h.1.1
  have hf := h.1.2.1
  have hn := h.1.2.2.2.1
  have i1 := h.1.2.2.2.2.2.2.2.1
  have i2 := h.1.2.2.2.2.2.2.2.2.2
  clear h
  unfold letterV
  have HB := Lib.hid (show ∀ o1 o2, Below w.heap.size w ((w.alloc o1).alloc o2) from fun _ _ => ((Below.refl _ _).alloc (Nat.le_refl _) _).alloc (by simp) _)
  by_cases h2 : x.kind = 2
  · have b1 : (x.kind == 2) = true := by simp [h2]
    have HM := Lib.hid (show msgOf t = .mk 5 0 downT [.mk 6 x.frm ⟨#[]⟩ [], .mk 2 x.num ⟨#[]⟩ []] by unfold msgOf; rw [if_pos (by omega), ← hf, ← hn])
    clear h2 hk hf hn
    go_enter Try.func125, Try.ntmps125
    go_wp2_with fail
    refine bodyPost_ret (v := valV ⟨5, 0, downT, some ⟨w.heap.size + 2, 0, none⟩, 2, 2⟩) (by unfold valV downT; simp [results, Try.results125, go_sem]) rfl ?_
    refine ⟨_, rfl, ?_, (HB.out _ _).alloc (by simp; omega) _⟩
    rw [HM.out]
    have hbx := Box.new ((w.alloc (.cells (letterC x).toArray 37)).alloc (.cells #[.int .i64 5, .int .i64 0, .string downT, .slice (some ⟨w.heap.size + 1 + 1, 0, none⟩) 2 2] 28)) 28 #[.int .i64 6, .int .i64 x.frm, .string ⟨#[]⟩, .slice none 0 0, .int .i64 2, .int .i64 x.num, .string ⟨#[]⟩, .slice none 0 0]
    rw [show ((w.alloc (.cells (letterC x).toArray 37)).alloc (.cells #[.int .i64 5, .int .i64 0, .string downT, .slice (some ⟨w.heap.size + 1 + 1, 0, none⟩) 2 2] 28)).heap.size = w.heap.size + 2 by simp] at hbx
    exact VIn.down n x.frm x.num i1 i2 (by omega) hbx
  · have b1 : (x.kind == 2) = false := by simp [h2]
    have HM := Lib.hid (show msgOf t = t.v by unfold msgOf; rw [if_neg (by omega)])
    clear h2 hk hf hn
    go_enter Try.func125, Try.ntmps125
    go_wp2_with fail
    refine (own_val n x.v t.v _ _ (HV.out.2.below (HB.out _ _) fun _ h => h.2)).mono ?_
    rintro e w1 ⟨y, rfl, hy, hb⟩
    obtain ⟨b0, b1, b2, b3, g0, g1, g2, g3⟩ := own_cells4 (box4 hb)
    have HW := Lib.hid (below2 hb)
    have HR := Lib.hid (show VIn w1 (fun b => w.heap.size + 2 ≤ b) n y t.v by simpa using hy)
    clear hb hy
    unfold valV
    go_wp2_with fail
    refine bodyPost_ret (v := valV y) (by unfold valV; simp [results, Try.results125, go_sem, b0, b1, b2, b3]) rfl ?_
    rw [HM.out]
    refine ⟨y, rfl, (HR.out.keep (fun p hp => ?_) fun b hb => by omega).more (by omega), ?_⟩
    · iterate 4 rw [cell_far (by simp; omega)]
    · refine HW.out.trans ?_
      iterate 3 refine Below.setCell ?_ (by simp) _
      exact (Below.refl _ _).setCell (by simp) _

end Go.Proofs.Ytdjahlkjfpbifaa
