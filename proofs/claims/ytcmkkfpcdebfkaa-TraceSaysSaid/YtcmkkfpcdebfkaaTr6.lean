/-
  Histories packed, by both (trace.Pack, roadref4.Pack, Bytes).
-/
import Derived.Test.YtcmkkfpcdebfkaaBy8
import Derived.Test.YtcmkkfpcdebfkaaEv8
namespace Go.Proofs.Ytcmkkfpcdebfkaa
open Go.RowKit

def numE (x : Ev) : List Int := (3 * x.1 + x.2.1 - 1) :: if x.2.1 = 1 then [] else [x.2.2]
def numsTo (l : List Ev) (k : Nat) : List Int := (l.length : Int) :: (l.take k).flatMap numE
def encL (xs : List Int) : List UInt8 := xs.flatMap fun x => enc x.toNat
theorem encL_append (xs ys : List Int) : encL (xs ++ ys) = encL xs ++ encL ys := by simp [encL]
theorem encL_one (x : Int) : encL [x] = enc x.toNat := by simp [encL]
theorem numsTo_succ (l : List Ev) {k : Nat} (hk : k < l.length) : numsTo l (k + 1) = numsTo l k ++ numE (l.getD k (0, 0, 0)) := by
  unfold numsTo
  rw [take_getD l (0, 0, 0) hk]
  simp
theorem numE_le (x : Ev) : (numE x).length ≤ 2 := by
  unfold numE
  split <;> simp
theorem flatNum_le : ∀ l : List Ev, (l.flatMap numE).length ≤ 2 * l.length
  | [] => by simp
  | x :: l => by
    have h1 := flatNum_le l
    have h2 := numE_le x
    simp only [List.flatMap_cons, List.length_append, List.length_cons]
    omega
theorem numsTo_le (l : List Ev) (k : Nat) : (numsTo l k).length ≤ 1 + 2 * k := by
  have h := flatNum_le (l.take k)
  have h2 : (l.take k).length ≤ k := List.length_take_le _ _
  unfold numsTo
  rw [List.length_cons]
  omega
theorem enc_le (n : Nat) : (enc n).length ≤ 2 := by
  unfold enc
  split <;> simp
theorem encL_le : ∀ xs : List Int, (encL xs).length ≤ 2 * xs.length
  | [] => by simp [encL]
  | x :: xs => by
    have h1 := encL_le xs
    have h2 := enc_le x.toNat
    show (enc x.toNat ++ encL xs).length ≤ _
    rw [List.length_append, List.length_cons]
    omega
theorem numsTo_lt {l : List Ev} (hl : l.length ≤ 200) (hg : ∀ i, i < l.length → Good1 l i) (k : Nat) : ∀ x ∈ numsTo l k, 0 ≤ x ∧ x < 16384 := by
  intro x hx
  unfold numsTo at hx
  rw [List.mem_cons] at hx
  rcases hx with rfl | hx
  · omega
  · rw [List.mem_flatMap] at hx
    obtain ⟨y, hy, hx⟩ := hx
    have hy' := List.mem_of_mem_take hy
    obtain ⟨i, hi, rfl⟩ := List.getElem_of_mem hy'
    have g := hg i hi
    have e : evAt l i = l[i] := by simp [evAt, List.getD_eq_getElem?_getD, hi]
    have h1 := g.kind
    have h2 := g.place
    have h3 := g.msg
    rw [e] at h1 h2 h3
    unfold numE at hx
    rw [List.mem_cons] at hx
    rcases hx with rfl | hx
    · omega
    · split at hx
      · cases hx
      · rename_i hne
        simp only [List.mem_singleton] at hx
        subst hx
        have := h3 hne
        omega

set_option maxHeartbeats 400000 in
theorem pack_bad (A : Option Addr) (c : Nat) (l : List Ev) (W : World) (h : EvIn W A c l) (hbad : history l ≠ 0) :
    Calls Try.prog 77 #[.slice A l.length c] W fun e w' => e = .returned (.tuple #[.slice none 0 0, .int .i64 (history l)]) ∧ Below W.heap.size W w' := by
  have HC := Lib.hid h.check
  have q1 : (history l != 0) = true := by rw [bne_iff_ne]; exact hbad
  generalize history l = e0 at *
  clear h hbad
  go_enter Try.func77, Try.ntmps77
  go_wp2_with fail
  refine HC.out.mono ?_
  rintro e w1 ⟨rfl, hb⟩
  have HB := Lib.hid hb
  clear hb
  go_wp2_with fail
  go_ret2
  exact ⟨rfl, HB.out⟩

set_option maxRecDepth 100000 in
set_option maxHeartbeats 2000000 in
theorem pack_ok (A : Option Addr) (c : Nat) (l : List Ev) (W : World) (h : EvIn W A c l) (h0 : history l = 0) :
    Calls Try.prog 77 #[.slice A l.length c] W fun e w' => ∃ A' c', e = .returned (.tuple #[.slice A' (encL (numsTo l l.length)).length c', .int .i64 0]) ∧ ByOwn w' W.heap.size A' c' (encL (numsTo l l.length)) ∧ Below W.heap.size W w' := by
  have hl200 := (hist_good h0).1
  have HG := Lib.hid (hist_good h0).2
  have hck := h.check
  rw [h0] at hck
  have HC := Lib.hid hck
  have HR := Lib.hid h.row
  have HN0 := Lib.hid (show encL (numsTo l 0) = [] ++ enc l.length by simp [numsTo, encL])
  clear h h0 hck
  go_enter Try.func77, Try.ntmps77
  go_wp2_with fail
  refine HC.out.mono ?_
  rintro e w1 ⟨rfl, hb⟩
  have HB1 := Lib.hid hb
  have hb1s := hb.size
  clear hb HC
  have HN := Lib.hid (natW none 0 W.heap.size [] l.length w1 (by omega) OwnAt.nil (by simp) hb1s)
  go_wp2_with fail
  refine HN.out.mono ?_
  rintro e w2 ⟨g, o, c2, rfl, hown, hgr⟩
  have HO := Lib.hid hown
  have HB2 := Lib.hid (hgr.below HB1.out hb1s (fun b hb => by cases hb))
  clear hown hgr HN
  rw [← HN0.out]
  rw [← HN0.out] at HO
  go_wp2_with fail
  go_loopg [5, 18] l.length (fun gk v i wr => ∃ (k : Nat) (A' : Option Addr) (c' : Nat), gk = l.length - k ∧ k ≤ l.length ∧ i = .int .i64 k ∧ v = .slice A' (encL (numsTo l k)).length c' ∧ ByOwn wr W.heap.size A' c' (encL (numsTo l k)) ∧ Below W.heap.size W wr)
  case atStart => exact ⟨0, _, _, by omega, by omega, rfl, rfl, HO.out, HB2.out⟩
  case round =>
    clear HO HB2 HN0
    obtain ⟨k, A', c', hgk, hk, rfl, rfl, hown, hb⟩ := hrel
    have HK := Lib.hid hgk
    clear hgk
    by_cases hlt : k < l.length
    · obtain ⟨b, o1, hA, hbl, hc0, hc1, hc2⟩ := (HR.out.below hb).ev hlt (0, 0, 0)
      have hgood := HG.out k hlt
      have HE := Lib.hid (show evAt l k = l.getD k (0, 0, 0) from rfl)
      have hp := hgood.place
      have hkd := hgood.kind
      have hmg := hgood.msg
      have HNS := Lib.hid (numsTo_succ l hlt)
      have hle := numsTo_le l k
      have hle2 := encL_le (numsTo l k)
      rw [HE.out] at hp hkd hmg
      clear hgood
      generalize l.getD k (0, 0, 0) = y at *
      obtain ⟨ep, ek, em⟩ := y
      dsimp only at hc0 hc1 hc2 hp hkd hmg
      subst hA
      have hbs := hb.size
      go_upto_region 8 with fail
      have hbx := Box.new wr 146 #[.int .i64 ep, .int .i64 ek, .int .i64 em]
      have hown1 := hown.alloc (.cells #[.int .i64 ep, .int .i64 ek, .int .i64 em] 146)
      have hb1 := hb.alloc hbs (.cells #[.int .i64 ep, .int .i64 ek, .int .i64 em] 146)
      have hge : ∀ q, A'.map (·.block) = some q → q < wr.heap.size := fun q hq => (hown.blk q hq).2
      clear hc0 hc1 hc2 hown hb
      generalize wr.heap.size = ge at *
      generalize wr.alloc (.cells #[.int .i64 ep, .int .i64 ek, .int .i64 em] 146) = w4 at *
      clear wr
      have c0 := hbx.cell 0
      have c1 := hbx.cell 1
      simp only [List.getElem?_toArray, List.getElem?_cons_zero, List.getElem?_cons_succ] at c0 c1
      obtain ⟨n1, hn1⟩ : ∃ n1 : Nat, (n1 : Int) = 3 * ep + ek - 1 := ⟨(3 * ep + ek - 1).toNat, by omega⟩
      have hn := natW A' c' W.heap.size (encL (numsTo l k)) n1 w4 (by omega) hown1 (by omega) hb1.size
      rw [hn1] at hn
      have HN := Lib.hid hn
      have HN1 := Lib.hid (show enc n1 = enc (3 * ep + ek - 1).toNat by rw [← hn1]; rfl)
      have HBX := Lib.hid hbx
      have HGE := Lib.hid hge
      have HB4 := Lib.hid hb1
      have HOW := Lib.hid hown1
      clear hn hn1 hbx hown1 hb1 hge
      go_wp2_with fail
      refine HN.out.mono ?_
      rintro e w5 ⟨g5, o5, c5, rfl, hown5, hgr5⟩
      have HB5 := Lib.hid (hgr5.below HB4.out HB4.out.size (fun b hb => (ByOwn.blk HOW.out b hb).1))
      have hbx5 := hgr5.only.box HBX.out (fun h => by have := HGE.out _ h; omega)
      have d1 := hbx5.cell 1
      have d2 := hbx5.cell 2
      simp only [List.getElem?_toArray, List.getElem?_cons_zero, List.getElem?_cons_succ] at d1 d2
      have HO5 := Lib.hid hown5
      rw [HN1.out] at HO5
      clear hown5 hgr5 hbx5 c0 c1 HN
      by_cases k1 : ek = 1
      · have q1 : (ek != 1) = false := by simp [k1]
        have HE2 := Lib.hid (show encL (numsTo l k) ++ enc n1 = encL (numsTo l (k + 1)) by rw [HN1.out, HNS.out, encL_append]; congr 1; unfold numE; rw [if_pos k1, encL_one])
        rw [← HN1.out, HE2.out] at HO5
        rw [HE2.out]
        clear k1
        go_wp2_with fail
        go_roundg (l.length - (k + 1))
        case measure => have := HK.out; omega
        case rel => exact ⟨k + 1, _, c5, rfl, by omega, by go_num, rfl, HO5.out, HB5.out⟩
      · have q1 : (ek != 1) = true := by rw [bne_iff_ne]; exact k1
        have hm2 := hmg k1
        obtain ⟨n2, hn2⟩ : ∃ n2 : Nat, (n2 : Int) = em := ⟨em.toNat, by omega⟩
        have HE2 := Lib.hid (show (encL (numsTo l k) ++ enc n1) ++ enc n2 = encL (numsTo l (k + 1)) by rw [HN1.out, HNS.out, encL_append, List.append_assoc]; congr 1; unfold numE; rw [if_neg k1, ← hn2]; simp [encL])
        rw [← HN1.out] at HO5
        have hlen := enc_le n1
        have hn := natW (some ⟨g5, o5, none⟩) c5 W.heap.size (encL (numsTo l k) ++ enc n1) n2 w5 (by omega) HO5.out (by rw [List.length_append]; omega) HB5.out.size
        rw [hn2, HE2.out] at hn
        have HN2 := Lib.hid hn
        clear hn hn2 k1 hm2 hmg
        generalize encL (numsTo l k) ++ enc n1 = ys at *
        go_wp2_with fail
        refine HN2.out.mono ?_
        rintro e w6 ⟨g6, o6, c6, rfl, hown6, hgr6⟩
        have HB6 := Lib.hid (hgr6.below HB5.out HB5.out.size (fun b hb => (ByOwn.blk HO5.out b hb).1))
        have HO6 := Lib.hid hown6
        clear hown6 hgr6
        go_wp2_with fail
        go_roundg (l.length - (k + 1))
        case measure => have := HK.out; omega
        case rel => exact ⟨k + 1, _, c6, rfl, by omega, by go_num, rfl, HO6.out, HB6.out⟩
    · obtain rfl : k = l.length := by omega
      have HO := Lib.hid hown
      have HB := Lib.hid hb
      clear hown hb
      go_wp2_with fail
      go_ret2
      exact ⟨_, _, rfl, HO.out, HB.out⟩
end Go.Proofs.Ytcmkkfpcdebfkaa
