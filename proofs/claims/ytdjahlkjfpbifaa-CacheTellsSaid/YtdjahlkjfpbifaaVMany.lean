
/-
  How many a value is (the reference's Deep, limit.Cells): one number, whoever counts.
-/
import Derived.Test.YtdjahlkjfpbifaaValSame
namespace Go.Proofs.Ytdjahlkjfpbifaa
open Go.RowKit

/-- How many a value is, counted as an int is: n bounds its depth. -/
def manyN : Nat → Val → Int
  | 0, _ => 1
  | n + 1, v => v.args.foldl (fun m x => wrap64 (m + manyN n x)) 1
def manyTo (n : Nat) (l : List Val) (k : Nat) : Int := (l.take k).foldl (fun m x => wrap64 (m + manyN n x)) 1
theorem manyTo_succ (n : Nat) (l : List Val) (k : Nat) (hk : k < l.length) : manyTo n l (k + 1) = wrap64 (manyTo n l k + manyN n (l.getD k val0)) := by
  unfold manyTo
  rw [take_getD l val0 hk, List.foldl_append]
  rfl
theorem manyTo_all (n : Nat) (v : Val) : manyTo n v.args v.args.length = manyN (n + 1) v := by
  unfold manyTo
  rw [List.take_length]
  rfl

set_option maxRecDepth 100000 in
set_option maxHeartbeats 1000000 in
/-- How deep a value is, some number; and how many it is. -/
theorem deep_many : ∀ (n : Nat) (x : VC) (v : Val) (w : World) (S : Nat → Prop), VIn w S n x v → Calls Try.prog 73 #[valV x] w fun e w' => (∃ d : Int, e = .returned (.tuple #[.int .i64 d, .int .i64 (manyN n v)])) ∧ Below w.heap.size w w'
  | 0, _, _, _, _, h => h.elim
  | n + 1, x, v, w, S, h => by
    have ih := deep_many n
    obtain ⟨k, m, t, A, len, cap⟩ := x
    obtain ⟨l, rfl, hrow⟩ := row_of_VIn h.lt
    have HIH := Lib.hid ih
    have HROW := Lib.hid hrow
    have HLV := Lib.hid hrow.1
    have HAL := Lib.hid (manyTo_all n v)
    have HSU := Lib.hid (fun k => manyTo_succ n v.args k)
    have hcm := hrow.2.2.2.2.1
    have hlc := hrow.2.2.2.1
    unfold maxLen at hcm
    clear h hrow ih
    unfold valV
    simp only
    generalize manyN (n + 1) v = R at *
    go_enter Try.func73, Try.ntmps73
    go_wp2_with fail
    go_loopg [4, 5, 13] l.length (fun gk dv mv i wr => ∃ (k : Nat) (d m : Int), gk = l.length - k ∧ k ≤ l.length ∧ i = .int .i64 k ∧ dv = .int .i64 d ∧ mv = .int .i64 m ∧ manyTo n v.args k = m ∧ Below w.heap.size w wr)
    case atStart => exact ⟨0, 0, 1, by omega, by omega, rfl, rfl, rfl, rfl, (Below.refl _ _).alloc (Nat.le_refl _) _⟩
    case round =>
      obtain ⟨k, d, m, hgk, hk, rfl, rfl, rfl, hm, hb⟩ := hrel
      have HG := Lib.hid hgk
      have HM := Lib.hid hm
      clear hgk hm
      by_cases hlt : k < l.length
      · have hrw := HROW.out.below hb (fun b h => h.2)
        have HV := Lib.hid (hrw.2.2.1 k hlt)
        have HS := Lib.hid (HSU.out k (by rw [← HLV.out]; exact hlt))
        obtain ⟨b, o, rfl, _, hc0, hc1, hc2, hc3⟩ := hrw.2.1.all.val hlt vc0
        clear hrw
        generalize l.getD k vc0 = x at *
        generalize v.args.getD k val0 = v' at *
        have hbs := hb.size
        go_wp2_with fail
        refine (HIH.out x v' _ _ (HV.out.below (B := w.heap.size) ((Below.refl _ _).alloc (by omega) _) fun _ h => h.2)).mono ?_
        rintro e w2 ⟨⟨d', rfl⟩, hb2⟩
        have HB2 := Lib.hid (show Below w.heap.size w w2 from (hb.alloc (by omega) _).trans (hb2.mono (by simp; omega)))
        rw [HM.out] at HS
        clear hb2
        generalize manyN n v' = m' at *
        by_cases hmx : d' ≤ d
        · go_wp2_with fail
          go_roundg (l.length - (k + 1))
          case measure => have := HG.out; omega
          case rel => exact ⟨k + 1, _, _, rfl, by omega, by go_num, rfl, rfl, HS.out, HB2.out⟩
        · go_wp2_with fail
          go_roundg (l.length - (k + 1))
          case measure => have := HG.out; omega
          case rel => exact ⟨k + 1, _, _, rfl, by omega, by go_num, rfl, rfl, HS.out, HB2.out⟩
      · obtain rfl : k = l.length := by omega
        have HE := Lib.hid (show m = R by rw [← HM.out, ← HAL.out, HLV.out])
        go_wp2_with fail
        go_ret2
        exact ⟨⟨_, by rw [HE.out]; rfl⟩, hb⟩

end Go.Proofs.Ytdjahlkjfpbifaa
