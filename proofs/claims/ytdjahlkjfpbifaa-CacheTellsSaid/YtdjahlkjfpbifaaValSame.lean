
/-
  Values looked at: how deep one is, and whether two are the same.
-/
import Derived.Test.YtdjahlkjfpbifaaLetEach
namespace Go.Proofs.Ytdjahlkjfpbifaa
open Go.RowKit

set_option maxRecDepth 100000 in
set_option maxHeartbeats 1000000 in
/-- How deep a value is, and how many it is: two numbers. -/
theorem deep_any : ∀ (n : Nat) (x : VC) (v : Val) (w : World) (S : Nat → Prop), VIn w S n x v → Calls Try.prog 73 #[valV x] w fun e w' => (∃ d m : Int, e = .returned (.tuple #[.int .i64 d, .int .i64 m])) ∧ Below w.heap.size w w'
  | 0, _, _, _, _, h => h.elim
  | n + 1, x, v, w, S, h => by
    have ih := deep_any n
    obtain ⟨k, m, t, A, len, cap⟩ := x
    obtain ⟨l, rfl, hrow⟩ := row_of_VIn h.lt
    have HIH := Lib.hid ih
    have HROW := Lib.hid hrow
    have hcm := hrow.2.2.2.2.1
    have hlc := hrow.2.2.2.1
    unfold maxLen at hcm
    clear h hrow ih
    unfold valV
    simp only
    go_enter Try.func73, Try.ntmps73
    go_wp2_with fail
    go_loopg [4, 5, 13] l.length (fun gk dv mv i wr => ∃ (k : Nat) (d m : Int), gk = l.length - k ∧ k ≤ l.length ∧ i = .int .i64 k ∧ dv = .int .i64 d ∧ mv = .int .i64 m ∧ Below w.heap.size w wr)
    case atStart => exact ⟨0, 0, 1, by omega, by omega, rfl, rfl, rfl, (Below.refl _ _).alloc (Nat.le_refl _) _⟩
    case round =>
      obtain ⟨k, d, m, hgk, hk, rfl, rfl, rfl, hb⟩ := hrel
      have HG := Lib.hid hgk
      clear hgk
      by_cases hlt : k < l.length
      · have hrw := HROW.out.below hb (fun b h => h.2)
        have HV := Lib.hid (hrw.2.2.1 k hlt)
        obtain ⟨b, o, rfl, _, hc0, hc1, hc2, hc3⟩ := hrw.2.1.all.val hlt vc0
        clear hrw
        generalize l.getD k vc0 = x at *
        generalize v.args.getD k val0 = v' at *
        have hbs := hb.size
        go_wp2_with fail
        refine (HIH.out x v' _ _ (HV.out.below (B := w.heap.size) ((Below.refl _ _).alloc (by omega) _) fun _ h => h.2)).mono ?_
        rintro e w2 ⟨⟨d', m', rfl⟩, hb2⟩
        have HB2 := Lib.hid (show Below w.heap.size w w2 from (hb.alloc (by omega) _).trans (hb2.mono (by simp; omega)))
        clear hb2
        by_cases hmx : d' ≤ d
        · go_wp2_with fail
          go_roundg (l.length - (k + 1))
          case measure => have := HG.out; omega
          case rel => exact ⟨k + 1, _, _, rfl, by omega, by go_num, rfl, rfl, HB2.out⟩
        · go_wp2_with fail
          go_roundg (l.length - (k + 1))
          case measure => have := HG.out; omega
          case rel => exact ⟨k + 1, _, _, rfl, by omega, by go_num, rfl, rfl, HB2.out⟩
      · go_wp2_with fail
        go_ret2
        exact ⟨⟨_, _, rfl⟩, hb⟩

theorem VIn.drew {w : World} {S : Nat → Prop} {n : Nat} {x : VC} {v : Val} (h : VIn w S n x v) : VIn w.drew S n x v := VIn.keep (w := w) (w' := w.drew) (S := S) (fun _ _ => rfl) (fun _ h => h) h
/-- The answer to whether two are the same. -/
def SameQ {α : Type} (a b : α) (w : World) (e : Ending) (w' : World) : Prop := ∃ q : Bool, e = .returned (.bool q) ∧ (q = true ↔ a = b) ∧ Below w.heap.size w w'
/-- Whether two values are the same. -/
def SamesVal (n : Nat) : Prop := ∀ (x y : VC) (a b : Val) (w : World) (S S' : Nat → Prop), VIn w S n x a → VIn w S' n y b → Calls Try.prog 78 #[valV x, valV y] w fun e w' => SameQ a b w e w'

theorem same_step (xs ys : List Val) (k : Nat) (h : sameTo val0 xs ys k) : (xs.getD k val0 = ys.getD k val0 → sameTo val0 xs ys (k + 1)) ∧ (xs.getD k val0 ≠ ys.getD k val0 → xs ≠ ys) :=
  ⟨fun e => sameTo_succ h e, fun h e => h (by rw [e])⟩

set_option maxRecDepth 100000 in
set_option maxHeartbeats 1000000 in
theorem same_val : ∀ n, SamesVal n
  | 0 => fun _ _ _ _ _ _ _ h => h.elim
  | n + 1 => by
    intro x y a b w S S' hx hy
    have ih := same_val n
    have hx := hx.lt
    have hy := hy.lt
    obtain ⟨k1, m1, t1, A1, len1, cap1⟩ := x
    obtain ⟨k2, m2, t2, A2, len2, cap2⟩ := y
    obtain ⟨l1, rfl, hr1⟩ := row_of_VIn hx
    obtain ⟨l2, rfl, hr2⟩ := row_of_VIn hy
    have HIH := Lib.hid ih
    have HR1 := Lib.hid hr1
    have HR2 := Lib.hid hr2
    have HX := Lib.hid hx
    have HY := Lib.hid hy
    have HE := Lib.hid (Val.eq_iff a b)
    have hcm1 := hr1.2.2.2.2.1
    have hlc1 := hr1.2.2.2.1
    have HL1 := Lib.hid hr1.1
    have HL2 := Lib.hid hr2.1
    unfold maxLen at hcm1
    have hkn : k1 = a.kind ∧ m1 = a.num ∧ t1 = a.text := ⟨hx.1.1, hx.1.2.1, hx.1.2.2.1⟩
    have hkm : k2 = b.kind ∧ m2 = b.num ∧ t2 = b.text := ⟨hy.1.1, hy.1.2.1, hy.1.2.2.1⟩
    have HNE := Lib.hid (show ¬(k1 = k2 ∧ m1 = m2 ∧ t1 = t2 ∧ a.args = b.args) → (false = true ↔ a = b) from fun h => by
      rw [Val.eq_iff, ← hkn.1, ← hkn.2.1, ← hkn.2.2, ← hkm.1, ← hkm.2.1, ← hkm.2.2]
      simp [h])
    have HEQ := Lib.hid (show (k1 = k2 ∧ m1 = m2 ∧ t1 = t2 ∧ a.args = b.args) → (true = true ↔ a = b) from fun h => by
      rw [Val.eq_iff, ← hkn.1, ← hkn.2.1, ← hkn.2.2, ← hkm.1, ← hkm.2.1, ← hkm.2.2]
      simp [h])
    clear hx hy hr1 hr2 ih hkn hkm HX HY HE
    unfold valV
    simp only
    have HB := Lib.hid (show ∀ o1 o2, Below w.heap.size w ((w.alloc o1).alloc o2) from fun _ _ => ((Below.refl _ _).alloc (Nat.le_refl _) _).alloc (by simp) _)
    by_cases hk : k1 = k2
    · have HK := Lib.hid hk
      have bk : (k1 != k2) = false := by simp [hk]
      clear hk
      by_cases hm : m1 = m2
      · have HM := Lib.hid hm
        have bm : (m1 != m2) = false := by simp [hm]
        clear hm
        by_cases ht : t1 = t2
        · have HT := Lib.hid ht
          have bt : (t1.toList != t2.toList) = false := by simp [ht]
          have bt' : (t1.toList == t2.toList) = true := by simp [ht]
          clear ht
          by_cases hl : l1.length = l2.length
          · have HL := Lib.hid hl
            have bl1 : ((l1.length : Int) != (l2.length : Int)) = false := by simp; omega
            have bl2 : (l1.length != l2.length) = false := by simp; omega
            have hle1 : l1.length ≤ l2.length := by omega
            have hle2 : l2.length ≤ l1.length := by omega
            clear hl
            go_enter Try.func78, Try.ntmps78
            go_wp2_with fail
            go_loopg [37] l1.length (fun gk i wr => ∃ k : Nat, gk = l1.length - k ∧ k ≤ l1.length ∧ i = .int .i64 k ∧ sameTo val0 a.args b.args k ∧ Box wr w.heap.size 28 #[.int .i64 k1, .int .i64 m1, .string t1, .slice A1 l1.length cap1] ∧ Box wr (w.heap.size + 1) 28 #[.int .i64 k2, .int .i64 m2, .string t2, .slice A2 l2.length cap2] ∧ Below w.heap.size w wr ∧ w.heap.size + 2 ≤ wr.heap.size)
            case atStart => exact ⟨0, by omega, by omega, rfl, fun i hi => by omega, (Box.new w _ _).alloc _, by
              have := Box.new (w.alloc (.cells #[.int .i64 k1, .int .i64 m1, .string t1, .slice A1 l1.length cap1] 28)) 28 #[.int .i64 k2, .int .i64 m2, .string t2, .slice A2 l2.length cap2]
              simpa using this, HB.out _ _, by simp⟩
            case round =>
              obtain ⟨k, hgk, hk, rfl, hsame, B1, B2, hb, hsz⟩ := hrel
              have HG := Lib.hid hgk
              have HS := Lib.hid hsame
              clear hgk hsame
              by_cases hlt : k < l1.length
              · have hrw1 := HR1.out.below hb (fun b h => h.2)
                have hrw2 := HR2.out.below hb (fun b h => h.2)
                have HV1 := Lib.hid (hrw1.2.2.1 k hlt)
                have HV2 := Lib.hid (hrw2.2.2.1 k (by omega))
                have HST := Lib.hid (same_step a.args b.args k HS.out)
                obtain ⟨p1, o1, rfl, _, hc0, hc1, hc2, hc3⟩ := hrw1.2.1.all.val hlt vc0
                obtain ⟨p2, o2, rfl, _, hd0, hd1, hd2, hd3⟩ := hrw2.2.1.all.val (show k < l2.length by omega) vc0
                obtain ⟨a0, a1, a2, a3, _, _, _, _⟩ := own_cells4 B1
                obtain ⟨b0, b1, b2, b3, _, _, _, _⟩ := own_cells4 B2
                clear hrw1 hrw2
                generalize l1.getD k vc0 = x at *
                generalize l2.getD k vc0 = y at *
                generalize a.args.getD k val0 = u at *
                generalize b.args.getD k val0 = v at *
                have hlt2 : (k : Int) < (l2.length : Int) := by omega
                have hlt3 : k < l2.length := by omega
                have HT := Lib.hid (HIH.out x y u v wr.drew _ _ HV1.out.drew HV2.out.drew)
                unfold SameQ valV at HT
                clear HV1 HV2
                go_wp2_with fail
                go_region_law ((go_simp; go_at_call 78; refine HT.out.mono ?_; rintro e w2 ⟨q, rfl, hq, hb2⟩))
                all_goals (
                  have hb2' : Below wr.heap.size wr w2 := (below_drewN (Below.refl _ _) 1).trans hb2
                  have HW2 := Lib.hid (hb.trans (hb2'.mono hb.size))
                  have HB1 := Lib.hid (B1.below hb2' (by omega))
                  have HB2 := Lib.hid (B2.below hb2' (by omega))
                  have hsz2 : w.heap.size + 2 ≤ w2.heap.size := by have := hb2'.size; omega
                  simp only [List.getElem_toArray, List.getElem_cons_succ, List.getElem_cons_zero]
                  go_frame
                  have HQ := Lib.hid hq
                  clear HT hb2 hb2' hq B1 B2
                  cases q
                  · go_wp2_with fail
                    go_ret
                    exact ⟨false, rfl, HNE.out fun h => HST.out.2 (fun e => by simpa using HQ.out.2 e) h.2.2.2, HW2.out⟩
                  · go_wp2_with fail
                    go_roundg (l1.length - (k + 1))
                    case measure => have := HG.out; omega
                    case rel => exact ⟨k + 1, rfl, by omega, by go_num, HST.out.1 (HQ.out.1 (by simp)), HB1.out, HB2.out, HW2.out, hsz2⟩)
              · obtain rfl : k = l1.length := by omega
                go_wp2_with fail
                go_ret
                exact ⟨true, rfl, by simpa using HEQ.out ⟨HK.out, HM.out, HT.out, eq_of_sameTo (by rw [← HL1.out, ← HL2.out, HL.out]) (by rw [← HL1.out]; exact HS.out)⟩, hb⟩
          · have bl1 : ((l1.length : Int) != (l2.length : Int)) = true := by simp; omega
            have bl2 : (l1.length != l2.length) = true := by simp; omega
            have HN := Lib.hid (HNE.out fun h => hl (by rw [HL1.out, HL2.out, h.2.2.2]))
            clear hl
            go_enter Try.func78, Try.ntmps78
            go_wp2_with fail
            go_ret
            exact ⟨false, rfl, HN.out, HB.out _ _⟩
        · have bt : (t1.toList != t2.toList) = true := by simp [bytes_inj, ht]
          have bt' : (t1.toList == t2.toList) = false := by simp [bytes_inj, ht]
          have HN := Lib.hid (HNE.out fun h => ht h.2.2.1)
          clear ht
          go_enter Try.func78, Try.ntmps78
          go_wp2_with fail
          go_ret
          exact ⟨false, rfl, HN.out, HB.out _ _⟩
      · have bm : (m1 != m2) = true := by simp [hm]
        have HN := Lib.hid (HNE.out fun h => hm h.2.1)
        clear hm
        go_enter Try.func78, Try.ntmps78
        go_wp2_with fail
        go_ret
        exact ⟨false, rfl, HN.out, HB.out _ _⟩
    · have bk : (k1 != k2) = true := by simp [hk]
      have HN := Lib.hid (HNE.out fun h => hk h.1)
      clear hk
      go_enter Try.func78, Try.ntmps78
      go_wp2_with fail
      go_ret
      exact ⟨false, rfl, HN.out, HB.out _ _⟩
end Go.Proofs.Ytdjahlkjfpbifaa
