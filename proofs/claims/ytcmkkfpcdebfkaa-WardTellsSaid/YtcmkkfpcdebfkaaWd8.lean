/-
  slices.DeleteFunc over numbers of the call's own.
-/
import Derived.Test.YtcmkkfpcdebfkaaWd5
import Derived.Test.YtcmkkfpcdebfkaaIdxFn
import Derived.Lib.SliceRun
namespace Go.Proofs.Ytcmkkfpcdebfkaa
open Go.RowKit

theorem OwnAt.shrink {w : World} {base : Nat} {e : TypeId} {size n cap k : Nat} {A : Option Addr} {xs : List Value} (h : OwnAt w base e size A n cap xs) (hk : k ≤ n) : OwnAt w base e size A k cap (xs.take (k * size)) := by
  have hks : k * size ≤ n * size := Nat.mul_le_mul_right _ hk
  refine ⟨by rw [List.length_take, h.1, Nat.min_eq_left hks], ?_⟩
  rcases h.2 with ⟨h0, h1, h2⟩ | ⟨g, o, cur, h1, h2, h3, h4, h5, h6, h7⟩
  · exact .inl ⟨h0, by omega, h2⟩
  · refine .inr ⟨g, o, cur, h1, h2, h3, by omega, h5, h6, ?_⟩
    rw [← h7, List.take_take, Nat.min_eq_left hks]
theorem OwnAt.setsPast {base : Nat} {e : TypeId} {size n cap g o : Nat} {xs : List Value} : ∀ (vs : List Value) (j : Nat) (w : World), n * size ≤ j → OwnAt w base e size (some ⟨g, o, none⟩) n cap xs → OwnAt (w.setCells g (o + j) vs) base e size (some ⟨g, o, none⟩) n cap xs
  | [], _, _, _, h => h
  | v :: r, j, w, hj, h => by
    have h2 := h.set (j := j) v
    rw [List.set_eq_of_length_le (by rw [h.1]; exact hj)] at h2
    have := OwnAt.setsPast r (j + 1) _ (by omega) h2
    rw [World.setCells]
    exact this
theorem Only.sets {S : Nat → Prop} {a : World} {g : Nat} (hg : S g) : ∀ (vs : List Value) (o : Nat) (w : World), Only S a w → Only S a (w.setCells g o vs)
  | [], _, _, h => h
  | v :: r, o, w, h => by
    rw [World.setCells]
    exact Only.sets hg r (o + 1) _ (h.set (p := ⟨g, o, none⟩) hg v)

theorem idxFrom_spec (p : Int → Bool) : ∀ (l : List Int) (k : Int), (idxFrom p l k = -1 ∧ ∀ x ∈ l, p x = false) ∨ ∃ a x b, l = a ++ x :: b ∧ idxFrom p l k = k + a.length ∧ p x = true ∧ ∀ y ∈ a, p y = false
  | [], k => .inl ⟨rfl, fun x hx => by simp at hx⟩
  | y :: r, k => by
    by_cases h : p y = true
    · exact .inr ⟨[], y, r, rfl, by simp [idxFrom, h], h, fun z hz => by simp at hz⟩
    · have hf : p y = false := by simpa using h
      rcases idxFrom_spec p r (k + 1) with ⟨h1, h2⟩ | ⟨a, x, b, rfl, h1, h2, h3⟩
      · refine .inl ⟨by simp [idxFrom, hf, h1], fun x hx => ?_⟩
        rcases List.mem_cons.1 hx with rfl | hx
        · exact hf
        · exact h2 x hx
      · refine .inr ⟨y :: a, x, b, rfl, ?_, h2, fun z hz => ?_⟩
        · simp only [idxFrom, hf]
          rw [show (if false = true then k else idxFrom p (a ++ x :: b) (k + 1)) = idxFrom p (a ++ x :: b) (k + 1) from rfl, h1]
          simp
          omega
        · rcases List.mem_cons.1 hz with rfl | hz
          · exact hf
          · exact h3 z hz

/-- Of the first j numbers those kept lie at the head; from j on the row is as it was. -/
structure Kept (kp : Int → Bool) (l r : List Int) (i j : Nat) : Prop where
  len : r.length = l.length
  low : r.take i = (l.take j).filter kp
  cnt : ((l.take j).filter kp).length = i
  high : r.drop j = l.drop j
  lt : i < j
  le : j ≤ l.length
theorem Kept.at_ {kp : Int → Bool} {l r : List Int} {i j : Nat} (h : Kept kp l r i j) (_hj : j < l.length) : r.getD j 0 = l.getD j 0 := by
  have h1 : (r.drop j)[0]? = (l.drop j)[0]? := by rw [h.high]
  rw [List.getElem?_drop, List.getElem?_drop, Nat.add_zero] at h1
  rw [List.getD_eq_getElem?_getD, List.getD_eq_getElem?_getD, h1]
theorem drop_next {l r : List Int} {j : Nat} (h : r.drop j = l.drop j) : r.drop (j + 1) = l.drop (j + 1) := by
  rw [← List.drop_drop, ← List.drop_drop, h]
theorem Kept.keep {kp : Int → Bool} {l r : List Int} {i j : Nat} (h : Kept kp l r i j) (hj : j < l.length) (hk : kp (l.getD j 0) = true) : Kept kp l (r.set i (l.getD j 0)) (i + 1) (j + 1) := by
  have hlt := h.lt
  have hr := h.len
  have ef : (l.take (j + 1)).filter kp = (l.take j).filter kp ++ [l.getD j 0] := by
    rw [take_getD l 0 hj, List.filter_append, List.filter_cons_of_pos hk]
    rfl
  refine ⟨by rw [List.length_set, hr], ?_, by rw [ef, List.length_append, h.cnt]; rfl, ?_, by omega, by omega⟩
  · rw [ef, ← h.low, take_getD _ 0 (by rw [List.length_set]; omega)]
    congr 1
    · rw [List.take_set]
      exact List.set_eq_of_length_le (by simp; omega)
    · rw [List.getD_eq_getElem?_getD, List.getElem?_set_self (by omega)]
      rfl
  · rw [List.drop_set, if_pos (by omega)]
    exact drop_next h.high
theorem Kept.skip {kp : Int → Bool} {l r : List Int} {i j : Nat} (h : Kept kp l r i j) (hj : j < l.length) (hk : kp (l.getD j 0) = false) : Kept kp l r i (j + 1) := by
  have hlt := h.lt
  have ef : (l.take (j + 1)).filter kp = (l.take j).filter kp := by
    rw [take_getD l 0 hj, List.filter_append, List.filter_cons_of_neg (by rw [hk]; decide)]
    simp
  exact ⟨h.len, by rw [ef]; exact h.low, by rw [ef]; exact h.cnt, drop_next h.high, by omega, by omega⟩
theorem Kept.done {kp : Int → Bool} {l r : List Int} {i : Nat} (h : Kept kp l r i l.length) : r.take i = l.filter kp ∧ (l.filter kp).length = i := by
  have h1 := h.low
  have h2 := h.cnt
  rw [List.take_of_length_le (Nat.le_refl _)] at h1 h2
  exact ⟨h1, h2⟩
theorem Kept.start {kp : Int → Bool} {a b : List Int} {x : Int} (ha : ∀ y ∈ a, kp y = true) (hx : kp x = false) : Kept kp (a ++ x :: b) (a ++ x :: b) a.length (a.length + 1) := by
  have e1 : (a ++ x :: b).take (a.length + 1) = a ++ [x] := by
    rw [show a ++ x :: b = (a ++ [x]) ++ b by simp, List.take_append_of_le_length (by simp), List.take_of_length_le (by simp)]
  have e2 : (a ++ [x]).filter kp = a := by
    rw [List.filter_append, List.filter_eq_self.2 ha]
    simp [hx]
  refine ⟨rfl, ?_, by rw [e1, e2], rfl, by omega, by simp⟩
  rw [e1, e2]
  simp

/-- What DeleteFunc hands back. -/
def DelPost (base : Nat) (B : Option Addr) (d : Nat) (keep : List Int) (w : World) (e : Ending) (w' : World) : Prop :=
  e = .returned (.slice B keep.length d) ∧ OwnAt w' base 3 1 B keep.length d (ints keep) ∧ Only (fun b => B.map (·.block) = some b) w w'

theorem zero_intW (w : World) : (zeroValue 3).run Try.prog w = .ok (.int .i64 0) w := by kernel_rfl
set_option maxRecDepth 100000 in
set_option maxHeartbeats 4000000 in
theorem deleteFunc_any (base : Nat) (B : Option Addr) (d : Nat) (l : List Int) (fid : FuncId) (caps : Array Value) (p : Int → Bool) (w : World) (he : Enters fid) (hm : l.length ≤ 50)
    (ho : OwnAt w base 3 1 B l.length d (ints l))
    (hf : ∀ x u, Only (fun b => B.map (·.block) = some b) w u → Calls Try.prog fid (#[.int .i64 x] ++ caps) u fun e u' => e = .returned (.bool (p x)) ∧ Below u.heap.size u u') :
    Calls Try.prog 181 #[.slice B l.length d, .func (.func fid) #[] caps] w (DelPost base B d (l.filter (fun t => !p t)) w) := by
  have HF := Lib.hid hf
  have HO := Lib.hid ho
  have hI := indexFunc_any B d l fid caps p w.heap.size (fun u => Below w.heap.size w u) w he (by unfold maxLen; omega) (fun u hu => ho.row.below hu)
    (fun x _ u hu => (hf x u (Only.of_below hu)).mono fun e u' ⟨h1, h2⟩ => ⟨h1, hu.trans (h2.mono hu.size)⟩) (Below.refl _ _)
  obtain ⟨kp, HKP⟩ : ∃ kp : Int → Bool, Hid (kp = fun t => !p t) := ⟨_, rfl⟩
  rw [← HKP.out]
  unfold Enters at he
  clear ho hf
  rcases idxFrom_spec p l 0 with ⟨e1, hall⟩ | ⟨a, x, b, hl, e1, hx, hall⟩
  · have hfil : l.filter kp = l := by
      rw [HKP.out]
      exact List.filter_eq_self.2 (fun y hy => by rw [hall y hy]; rfl)
    rw [e1] at hI
    rw [hfil]
    clear hall hfil e1
    have HI := Lib.hid hI
    clear hI
    go_enter Try.func181, Try.ntmps181
    go_wp2_with fail
    refine HI.out.mono ?_
    rintro e w1 ⟨rfl, hb1⟩
    go_wp2_with fail
    go_ret
    exact ⟨rfl, HO.out.below hb1, Only.of_below hb1⟩
  · have HK0 : Hid (Kept kp l l a.length (a.length + 1)) := by
      show Kept kp l l a.length (a.length + 1)
      rw [hl]
      exact Kept.start (fun y hy => by rw [HKP.out]; show (!p y) = true; rw [hall y hy]; rfl) (by rw [HKP.out]; show (!p x) = false; rw [hx]; rfl)
    rw [e1, Int.zero_add] at hI
    have hpos : 0 < l.length := by
      rw [hl]
      simp only [List.length_append, List.length_cons]
      omega
    obtain ⟨k0, hk0⟩ : ∃ k0, a.length = k0 := ⟨_, rfl⟩
    rw [hk0] at hI HK0
    have hkl : k0 < l.length := by have := HK0.out.le; omega
    have hne1 : ((k0 : Int) == -1) = false := beq_eq_false_iff_ne.2 (by omega)
    have HI := Lib.hid hI
    obtain ⟨gB, oB, rfl, hnc⟩ := HO.out.some_of hpos
    have hcm : d ≤ 9223372036854775807 := by have := HO.out.cap_le.2; unfold maxLen at this; omega
    clear hI hall hl e1 hx hk0
    go_enter Try.func181, Try.ntmps181
    go_wp2_with fail
    refine HI.out.mono ?_
    rintro e w1 ⟨rfl, hb1⟩
    go_wp2_with fail
    go_loopg [5, 6, 7] l.length (fun gg s5 s6 _ wr => ∃ (i j : Nat) (r : List Int), s5 = .int .i64 i ∧ s6 = .int .i64 j ∧ j ≤ l.length ∧ i < j ∧ l.length - j ≤ gg ∧ OwnAt wr base 3 1 (some ⟨gB, oB, none⟩) l.length d (ints r) ∧ Only (fun b => (some (⟨gB, oB, none⟩ : Addr)).map (·.block) = some b) w wr ∧ Hid (Kept kp l r i j))
    case atStart => exact ⟨k0, k0 + 1, l, rfl, by go_num, by omega, by omega, by omega, HO.out.below hb1, Only.of_below hb1, HK0⟩
    case round =>
      obtain ⟨i, j, r, rfl, rfl, hjl, hij, hgg, hown, honly, HK⟩ := hrel
      have HOW := Lib.hid hown
      have HON := Lib.hid honly
      have hrl : r.length = l.length := HK.out.len
      by_cases hlt : j < l.length
      · have hltz : (j : Int) < (l.length : Int) := by omega
        have cj := hown.cells j (.int .i64 (l.getD j 0)) (by
          rw [← HK.out.at_ hlt]
          simp only [ints, List.getElem?_map, getD_some (0 : Int) (show j < r.length by omega)]
          rfl)
        have ci := hown.cells i (.int .i64 (r.getD i 0)) (by
          simp only [ints, List.getElem?_map, getD_some (0 : Int) (show i < r.length by omega)]
          rfl)
        have fi := hown.frozen (oB + i)
        have HSK := Lib.hid (fun h => HK.out.skip hlt h)
        have HKE := Lib.hid (fun h => HK.out.keep hlt h)
        have HPV := Lib.hid (show kp (l.getD j 0) = !p (l.getD j 0) by rw [HKP.out])
        generalize l.getD j 0 = v at *
        generalize r.getD i 0 = old at *
        clear hown honly
        go_wp2_with fail
        refine (HF.out v wr HON.out).mono ?_
        rintro e w2 ⟨rfl, hb2⟩
        have HO2 := Lib.hid (HOW.out.below hb2)
        have HN2 := Lib.hid (HON.out.below hb2)
        have ci2 := HO2.out.cells i (.int .i64 (r.getD i 0)) (by
          simp only [ints, List.getElem?_map, getD_some (0 : Int) (show i < r.length by omega)]
          rfl)
        have fi2 := HO2.out.frozen (oB + i)
        generalize r.getD i 0 = old2 at *
        clear hb2 cj ci fi
        cases hq : p v with
        | false =>
          go_wp2_with fail
          go_roundg (l.length - (j + 1))
          case measure => omega
          case rel =>
            refine ⟨i + 1, j + 1, r.set i v, by go_num, by go_num, by omega, by omega, Nat.le_refl _, ?_, HN2.out.set (p := ⟨gB, oB + i, none⟩) rfl _, HKE.out (by rw [HPV.out, hq]; rfl)⟩
            have := HO2.out.set (j := i) (.int .i64 v)
            rwa [show (ints r).set i (.int .i64 v) = ints (r.set i v) by simp [ints, List.map_set]] at this
        | true =>
          go_wp2_with fail
          go_roundg (l.length - (j + 1))
          case measure => omega
          case rel => exact ⟨i, j + 1, r, rfl, by go_num, by omega, by omega, Nat.le_refl _, HO2.out, HN2.out, HSK.out (by rw [HPV.out, hq]; rfl)⟩
      · obtain rfl : j = l.length := by omega
        have hltz : ¬ (l.length : Int) < (l.length : Int) := by omega
        have hcl : ∀ ty, (Builtin.clear_ #[33] ty #[.slice (some ⟨gB, oB + i, none⟩) (l.length - i) (d - i)]).run Try.prog wr = .ok (.tuple #[]) (wr.setCells gB (oB + i) (List.replicate (l.length - i) (.int .i64 0))) :=
          fun ty => Lib.run_clear_slice wr _ _ ty _ Try.underlying33 zero_intW rfl rfl gB (oB + i) _ _ (by omega) (fun t ht => by
            rw [show oB + i + t = oB + (i + t) by omega, hown.cells (i + t) (.int .i64 (r.getD (i + t) 0)) (by
              simp only [ints, List.getElem?_map, getD_some (0 : Int) (show i + t < r.length by omega)]
              rfl)]
            rfl) (fun t _ => hown.frozen _)
        clear hown honly
        go_wp2_with fail
        go_ret
        obtain ⟨h1, h2⟩ := HK.out.done
        refine ⟨by rw [h2]; rfl, ?_, Only.sets (S := fun b => (some (⟨gB, oB, none⟩ : Addr)).map (·.block) = some b) rfl _ _ _ HON.out⟩
        have h3 := (HOW.out.shrink (k := i) (by omega))
        rw [Nat.mul_one, show (ints r).take i = ints (r.take i) by simp [ints], h1] at h3
        rw [h2]
        exact h3.setsPast _ i _ (by omega)
end Go.Proofs.Ytcmkkfpcdebfkaa
