/-
  shrink.Each, whatever test it is given.
-/
import Derived.Test.YtjblfkoepedhpaaClone
import Derived.Deep.LoopGhost
import Derived.Deep.DeepCutAuto
import Derived.Deep.CutBlock
namespace Go.Proofs.Ytjblfkoepedhpaa
open Go.RowKit

theorem clone_len (A : Option Addr) (c : Nat) (xs : List Int) (B n : Nat) (w : World) (hr : Row w B A (ints xs)) (hA : A = none → c = 0) (hm : xs.length * 8 ≤ 140737488355328) (hn : xs.length = n) :
    Calls Try.prog 45 #[.slice A n c] w fun e w' => ∃ v, e = .returned v ∧ w'.ownsRow w.heap.size 3 1 v xs.length (ints xs) ∧ Below w.heap.size w w' := by
  subst hn
  exact clone_any A c xs B w hr hA hm
def InR (zs : List Int) : Prop := ∀ z ∈ zs, 0 ≤ z ∧ z ≤ 1000
/-- A test over lists that only reads. -/
def Tests (W : World) (n : Nat) (fid : FuncId) (caps : Array Value) (f : List Int → Bool) : Prop :=
  ∀ zs A c w, zs.length = n → InR zs → Below W.heap.size W w → Row w w.heap.size A (ints zs) → Calls Try.prog fid (#[.slice A zs.length c] ++ caps) w fun e w' => e = .returned (.bool (f zs)) ∧ w = w'
def sumN (zs : List Int) : Nat := (zs.map Int.toNat).sum
def MinTo (f : List Int → Bool) (zs : List Int) (k : Nat) : Prop := ∀ i, i < k → ∀ x, 0 ≤ x → x < zs.getD i 0 → f (zs.set i x) = false
/-- What the list is that Each has so far. -/
def EachSt (W : World) (v : Value) (f : List Int → Bool) (xs zs : List Int) (w : World) : Prop :=
  w.ownsRow W.heap.size 3 1 v zs.length (ints zs) ∧ Below W.heap.size W w ∧ zs.length = xs.length ∧ (∀ i, 0 ≤ zs.getD i 0 ∧ zs.getD i 0 ≤ xs.getD i 0) ∧ f zs = true

theorem own_cell_int {w : World} {base : Nat} {e : TypeId} {A : Option Addr} {c : Nat} {zs : List Int} (h : w.ownsRow base e 1 (.slice A zs.length c) zs.length (ints zs)) {k : Nat} (hk : k < zs.length) :
    ∃ g, A = some ⟨g, 0, none⟩ ∧ base ≤ g ∧ g < w.heap.size ∧ w.cell? ⟨g, k, none⟩ = some (.int .i64 (zs.getD k 0)) ∧ w.frozen? ⟨g, k, none⟩ = false ∧
      ∀ x, (w.setCell ⟨g, k, none⟩ (.int .i64 x)).ownsRow base e 1 (.slice A (zs.set k x).length c) (zs.set k x).length (ints (zs.set k x)) ∧ Sole g w (w.setCell ⟨g, k, none⟩ (.int .i64 x)) := by
  rcases h.2 with ⟨hv, h0⟩ | ⟨g, cap, cur, hv, _⟩
  · omega
  · injection hv with hA hn hc
    subst hA hc
    have hlt := h.lt g rfl
    refine ⟨g, rfl, hlt.1, hlt.2, ?_, h.frozenAt k, fun x => ?_⟩
    · rw [h.cellAt k (by omega)]
      simp [ints, hk]
    · have hs := h.stored k (.int .i64 x)
      refine ⟨?_, hs.2⟩
      rw [List.length_set]
      have e1 : ints (zs.set k x) = (ints zs).set k (.int .i64 x) := by simp [ints, List.map_set]
      rw [e1]
      exact hs.1
theorem own_base {w : World} {base base' : Nat} {e : TypeId} {size n : Nat} {v : Value} {vs : List Value} (h : w.ownsRow base' e size v n vs) (hb : base ≤ base') : w.ownsRow base e size v n vs := by
  refine ⟨h.1, ?_⟩
  rcases h.2 with h0 | ⟨g, cap, cur, h1, h2, h3⟩
  · exact .inl h0
  · exact .inr ⟨g, cap, cur, h1, by omega, h3⟩
theorem own_below {w w' : World} {base : Nat} {e : TypeId} {size n : Nat} {v : Value} {vs : List Value} (h : w.ownsRow base e size v n vs) (hb : Below w.heap.size w w') : w'.ownsRow base e size v n vs := by
  refine h.kept (row := none) ⟨hb.os, hb.tape, hb.output, hb.size, fun i hi _ => hb.block i hi⟩ ?_
  by_cases h0 : v.ownBlock = none
  · exact .inl h0
  · exact .inr h0
theorem EachSt.below {W w w' : World} {v : Value} {f : List Int → Bool} {xs zs : List Int} (h : EachSt W v f xs zs w) (hb : Below w.heap.size w w') : EachSt W v f xs zs w' :=
  ⟨own_below h.1 hb, h.2.1.trans (hb.mono h.2.1.size), h.2.2⟩
theorem getD_set (zs : List Int) (k i : Nat) (x : Int) (hk : k < zs.length) : (zs.set k x).getD i 0 = if i = k then x else zs.getD i 0 := by
  simp only [List.getD_eq_getElem?_getD, List.getElem?_set]
  by_cases h : k = i
  · subst h; simp [hk]
  · rw [if_neg h, if_neg (fun e => h e.symm)]
theorem inR_set {zs : List Int} (h : InR zs) (k : Nat) (x : Int) (h0 : 0 ≤ x) (h1 : x ≤ 1000) : InR (zs.set k x) := by
  intro z hz
  rcases List.mem_or_eq_of_mem_set hz with hz | rfl
  · exact h z hz
  · exact ⟨h0, h1⟩
theorem EachSt.inR {W w : World} {v : Value} {f : List Int → Bool} {xs zs : List Int} (h : EachSt W v f xs zs w) (hx : InR xs) : InR zs := by
  intro z hz
  obtain ⟨i, hi, rfl⟩ := List.getElem_of_mem hz
  have h1 := h.2.2.2.1 i
  have hl := h.2.2.1
  have hxi := hx (xs[i]'(by omega)) (List.getElem_mem _)
  simp only [List.getD_eq_getElem?_getD, List.getElem?_eq_getElem hi, List.getElem?_eq_getElem (show i < xs.length by omega), Option.getD_some] at h1
  omega
theorem sumN_set (zs : List Int) (k : Nat) (x : Int) (hk : k < zs.length) (h : x.toNat < (zs.getD k 0).toNat) : sumN (zs.set k x) < sumN zs := by
  induction zs generalizing k with
  | nil => simp at hk
  | cons z r ih =>
    cases k with
    | zero => simp [sumN] at h ⊢; exact h
    | succ k =>
      simp at hk h
      have := ih k hk (by simpa using h)
      simp [sumN] at this ⊢
      exact this
theorem minTo_succ {f : List Int → Bool} {zs : List Int} {k : Nat} (h : MinTo f zs k) (hk : ∀ x, 0 ≤ x → x < zs.getD k 0 → f (zs.set k x) = false) : MinTo f zs (k + 1) := fun i hi => by
  rcases Nat.lt_or_ge i k with hlt | hge
  · exact h i hlt
  · obtain rfl : i = k := by omega
    exact hk

theorem EachSt.cell {W w : World} {g c2 : Nat} {f : List Int → Bool} {xs ys : List Int} {k : Nat} (h : EachSt W (.slice (some ⟨g, 0, none⟩) xs.length c2) f xs ys w) (hk : k < xs.length) :
    w.cell? ⟨g, k, none⟩ = some (.int .i64 (ys.getD k 0)) ∧ w.frozen? ⟨g, k, none⟩ = false ∧ ∀ X, 0 ≤ X → X ≤ ys.getD k 0 → f (ys.set k X) = true → EachSt W (.slice (some ⟨g, 0, none⟩) xs.length c2) f xs (ys.set k X) (w.setCell ⟨g, k, none⟩ (.int .i64 X)) := by
  obtain ⟨h1, h2, h3, h4, h5⟩ := h
  rw [← h3] at h1
  obtain ⟨g', hA, hgW, hgl, hcell, hfz, hset⟩ := own_cell_int h1 (k := k) (by omega)
  injection hA with hA
  injection hA with hA
  subst hA
  refine ⟨hcell, hfz, fun X x0 x1 hf => ?_⟩
  have hs := hset X
  rw [List.length_set] at hs
  refine ⟨by rw [← h3, List.length_set]; exact hs.1, hs.2.below h2 h2.size hgW, by rw [List.length_set]; exact h3, fun i => ?_, hf⟩
  rw [getD_set _ _ _ _ (by omega)]
  split
  · rename_i e
    subst e
    have := h4 i
    omega
  · exact h4 i

/-- What Each answers where the list fails. -/
def EachSaid (W : World) (f : List Int → Bool) (xs : List Int) (e : Ending) (w' : World) : Prop :=
  ∃ v zs, e = .returned (.tuple #[v, .int .i64 0]) ∧ EachSt W v f xs zs w' ∧ MinTo f zs zs.length
def Each1 (x : Int) : Bool := decide (x < 0) || decide (1000 < x)
theorem enters_each1 : Enters 105 := fun _ _ => by kernel_rfl
theorem each1_any (x : Int) (w : World) : Calls Try.prog 105 (#[.int .i64 x] ++ #[]) w fun e w' => e = .returned (.bool (Each1 x)) ∧ w = w' := by
  show Calls Try.prog 105 #[.int .i64 x] w _
  unfold Each1
  by_cases h1 : x < 0
  · have d1 : decide (x < 0) = true := by simp; omega
    rw [d1]
    go_enter Try.func105, Try.ntmps105
    go_wp2_with fail
    go_ret
    exact ⟨rfl, rfl⟩
  · have d1 : decide (x < 0) = false := by simp; omega
    rw [d1, Bool.false_or]
    go_enter Try.func105, Try.ntmps105
    go_wp2_with fail
    go_ret
    exact ⟨rfl, rfl⟩
theorem inR_of (xs : List Int) (h : xs.any Each1 = false) : InR xs := by
  intro z hz
  have := List.any_eq_false.1 h z hz
  simp [Each1] at this
  omega

set_option maxRecDepth 100000 in
set_option maxHeartbeats 1000000 in
theorem each_ok (A : Option Addr) (c : Nat) (xs : List Int) (fid : FuncId) (caps : Array Value) (f : List Int → Bool) (W : World) (he : Enters fid) (hr : Row W W.heap.size A (ints xs)) (hA : A = none → c = 0) (hl : xs.length ≤ 200)
    (hR : xs.any Each1 = false) (ht : Tests W xs.length fid caps f) (hf : f xs = true) :
    Calls Try.prog 41 #[.slice A xs.length c, .func (.func fid) #[] caps] W (EachSaid W f xs) := by
  have HT := Lib.hid ht
  have HIR := Lib.hid (inR_of xs hR)
  have HF := Lib.hid hf
  have HR := Lib.hid hR
  have HCF := Lib.hid (containsFunc_any A c xs 105 #[] Each1 W.heap.size (fun w => W = w) W enters_each1 (by unfold maxLen; omega) (fun w hw => by subst hw; exact hr) (fun x _ w hw => by subst hw; exact each1_any x W) rfl)
  have d200 : decide (200 < (xs.length : Int)) = false := by simp; omega
  clear ht hf hR
  unfold Enters at he
  go_enter Try.func41, Try.ntmps41
  go_wp2_with fail
  refine HCF.out.mono ?_
  rintro e w' ⟨rfl, rfl⟩
  rw [HR.out]
  go_wp2_with fail
  refine (clone_any A c xs _ _ hr hA (by omega)).mono ?_
  rintro e w1 ⟨v1, rfl, hown1, hb1⟩
  obtain ⟨A1, c1, rfl, hr1, _⟩ := row_of_own_int hown1
  clear hown1
  go_wp2_with fail
  refine (HT.out xs A1 c1 w1 rfl HIR.out hb1 hr1).mono ?_
  rintro e w' ⟨rfl, rfl⟩
  rw [HF.out]
  go_wp2_with fail
  refine (clone_any A c xs _ _ (hr.below hb1) hA (by omega)).mono ?_
  rintro e w2 ⟨v2, rfl, hown2, hb2⟩
  have hb2' : Below W.heap.size W w2 := hb1.trans (hb2.mono hb1.size)
  have hst : EachSt W v2 f xs xs w2 := ⟨own_base hown2 hb1.size, hb2', rfl, fun i => ⟨by
      by_cases hi : i < xs.length
      · have := (HIR.out (xs[i]'hi) (List.getElem_mem _)).1
        simpa [List.getD_eq_getElem?_getD, hi] using this
      · simp [List.getD_eq_getElem?_getD, List.getElem?_eq_none (show xs.length ≤ i by omega)], Int.le_refl _⟩, HF.out⟩
  obtain ⟨A2, c2, rfl, _⟩ := row_of_own_int hown2
  clear hown2 hb2 hb1 hr1 hb2'
  go_wp2_with fail
  go_loopg [7] (2 * sumN xs + 1) (fun gk ag wr => ∃ (zs : List Int) (b : Bool), gk = 2 * sumN zs + (if b then 1 else 0) ∧ ag = .bool b ∧ EachSt W (.slice A2 xs.length c2) f xs zs wr ∧ (b = false → MinTo f zs zs.length))
  case atStart => exact ⟨xs, true, rfl, rfl, hst, fun h => by cases h⟩
  case round =>
    obtain ⟨zs, b, hgk, rfl, hst1, hmin⟩ := hrel
    have HG := Lib.hid hgk
    have HMIN := Lib.hid hmin
    clear hgk hmin hst
    cases b
    · have HMF := Lib.hid (HMIN.out rfl)
      clear HMIN
      go_wp2_with fail
      go_ret2
      exact ⟨_, zs, rfl, hst1, HMF.out⟩
    · obtain ⟨wo, rfl⟩ : ∃ wo : World, wo = wr := ⟨_, rfl⟩
      go_wp2_with fail
      go_loopg [7, 27] xs.length (fun gj ag i wr => ∃ (ys : List Int) (b : Bool) (k : Nat), gj = xs.length - k ∧ k ≤ xs.length ∧ i = .int .i64 k ∧ ag = .bool b ∧ EachSt W (.slice A2 xs.length c2) f xs ys wr ∧ (b = false → ys = zs ∧ MinTo f zs k) ∧ (b = true → sumN ys < sumN zs))
      case atStart => exact ⟨zs, false, 0, by omega, by omega, rfl, rfl, hst1, fun _ => ⟨rfl, fun i hi => by omega⟩, fun h => by cases h⟩
      case round =>
        obtain ⟨ys, b, k, hgj, hk, rfl, rfl, hst2, hmin2, hsum2⟩ := hrel
        have HG2 := Lib.hid hgj
        have HM2 := Lib.hid hmin2
        have HS2 := Lib.hid hsum2
        clear hgj hmin2 hsum2
        by_cases hlt : k < xs.length
        · obtain ⟨wi, rfl⟩ : ∃ wi : World, wi = wr := ⟨_, rfl⟩
          have hlen := hst2.2.2.1
          have hown := hst2.1
          obtain ⟨g, hA2, hgW, hgl, hcell, hfz, hset⟩ := own_cell_int (c := c2) (A := A2) (k := k) (by rw [← hlen] at hown; exact hown) (by omega)
          subst hA2
          have hb2 := hst2.2.2.2.1 k
          have hx2 : xs.getD k 0 ≤ 1000 := by
            have := (HIR.out (xs[k]'hlt) (List.getElem_mem _)).2
            simpa [List.getD_eq_getElem?_getD, hlt] using this
          have HST := Lib.hid hst2
          clear hst2 hset hown
          generalize hwas : ys.getD k 0 = was at *
          have HWAS := Lib.hid hwas
          obtain ⟨wn, rfl⟩ := Int.eq_ofNat_of_zero_le hb2.1
          clear hwas
          have HLEN := Lib.hid hlen
          clear hlen
          go_upto_block 3 with fail
          go_cut [7] (fun ag wy => ∃ (us : List Int) (b' : Bool), ag = .bool b' ∧ EachSt W (.slice (some ⟨g, 0, none⟩) xs.length c2) f xs us wy ∧ (b' = false → us = zs ∧ MinTo f zs (k + 1)) ∧ (b' = true → sumN us < sumN zs))
          case first =>
            go_wp2_with fail
            go_loopg [7, 33] wn (fun gx ag x wz => ∃ X : Nat, gx = wn - X ∧ X ≤ wn ∧ x = .int .i64 X ∧ ag = .bool b ∧ EachSt W (.slice (some ⟨g, 0, none⟩) xs.length c2) f xs ys wz ∧ ∀ y : Int, 0 ≤ y → y < X → f (ys.set k y) = false)
            case atStart => exact ⟨0, by omega, by omega, rfl, rfl, HST.out, fun y h0 h1 => by omega⟩
            case round =>
              obtain ⟨X, hgx, hX, rfl, rfl, hst3, hno⟩ := hrel
              have HGX := Lib.hid hgx
              have HNO := Lib.hid hno
              clear hgx hno
              by_cases hlx : X < wn
              · have hb3 := hst3.2.1
                have hIR3 := hst3.inR HIR.out
                have hown3 := hst3.1
                have hrow3 : Row wr wr.heap.size (some ⟨g, 0, none⟩) (ints ys) := by
                  obtain ⟨A', c', hv', hr', _⟩ := row_of_own_int (by rw [HLEN.out] at hown3 ⊢; exact hown3)
                  injection hv' with hv1
                  rw [hv1]; exact hr'
                have HST3 := Lib.hid hst3
                clear hst3 hown3
                go_wp2_with fail
                refine (clone_len _ c2 ys _ _ _ hrow3 (fun h => by cases h) (by rw [HLEN.out]; omega) HLEN.out).mono ?_
                rintro e w4 ⟨v4, rfl, hown4, hb4⟩
                obtain ⟨A4, c4, rfl, _⟩ := row_of_own_int hown4
                obtain ⟨g4, hA4, hgW4, hgl4, hcell4, hfz4, hset4⟩ := own_cell_int (k := k) hown4 (by rw [HLEN.out]; omega)
                subst hA4
                obtain ⟨hown5, hso5⟩ := hset4 X
                have hb5 := hso5.below hb4 hb4.size hgW4
                obtain ⟨A5, c5, hv5, hr5, _⟩ := row_of_own_int hown5
                injection hv5 with e5 _ e6
                subst e5 e6
                have hst5 := HST3.out.below hb5
                have hl5 : (ys.set k (X : Int)).length = xs.length := by rw [List.length_set]; exact HLEN.out
                have hcall := HT.out (ys.set k X) (some ⟨g4, 0, none⟩) c4 (w4.setCell ⟨g4, k, none⟩ (.int .i64 X)) hl5 (inR_set hIR3 k X (by omega) (by omega)) hst5.2.1 hr5
                rw [List.length_set] at hcall
                have HC := Lib.hid hcall
                have hkl : (k : Int) < (ys.length : Int) := by rw [HLEN.out]; omega
                obtain ⟨hc6, hf6, hn6⟩ := hst5.cell hlt
                rw [HWAS.out] at hc6
                have HN6 := Lib.hid hn6
                have HST5 := Lib.hid hst5
                clear hcall hb5 hso5 hown5 hset4 hr5 hl5 hown4 hb4 hn6 hst5 hrow3
                go_wp2_with fail
                refine HC.out.mono ?_
                rintro e w' ⟨rfl, rfl⟩
                by_cases hfx : f (ys.set k X) = true
                · have HE := Lib.hid (HN6.out X (by omega) (by rw [HWAS.out]; omega) hfx)
                  rw [hfx]
                  have HSU := Lib.hid (show sumN (ys.set k X) < sumN zs by
                    have h1 : sumN (ys.set k (X : Int)) < sumN ys := sumN_set ys k X (by rw [HLEN.out]; exact hlt) (by rw [HWAS.out]; omega)
                    cases b
                    · rw [(HM2.out rfl).1] at h1 ⊢; exact h1
                    · have := HS2.out rfl
                      omega)
                  clear hfx
                  go_wp2_with fail
                  go_meet
                  exact ⟨ys.set k X, true, rfl, HE.out, (fun h => by cases h), fun _ => HSU.out⟩
                · have hfx' : f (ys.set k X) = false := by simpa using hfx
                  rw [hfx']
                  have HFX := Lib.hid hfx'
                  clear hfx hfx'
                  go_wp2_with fail
                  go_roundg (wn - (X + 1))
                  case measure => rw [HGX.out]; omega
                  case rel =>
                    refine ⟨X + 1, rfl, by omega, by go_num, rfl, HST5.out, fun y h0 h1 => ?_⟩
                    by_cases hy : y < X
                    · exact HNO.out y h0 hy
                    · obtain rfl : y = X := by omega
                      exact HFX.out
              · obtain rfl : X = wn := by omega
                have HE := Lib.hid hst3
                clear hst3
                go_wp2_with fail
                go_meet
                refine ⟨ys, b, rfl, HE.out, fun h => ?_, HS2.out⟩
                obtain ⟨h1, h2⟩ := HM2.out h
                subst h1
                exact ⟨rfl, minTo_succ h2 (fun x x0 x1 => HNO.out x x0 (by rw [HWAS.out] at x1; exact x1))⟩
          case rest =>
            obtain ⟨us, b', rfl, hst6, hmin6, hsum6⟩ := hcut
            have HM6 := Lib.hid hmin6
            have HS6 := Lib.hid hsum6
            have HST6 := Lib.hid hst6
            clear hmin6 hsum6 hst6
            go_wp2_with fail
            go_roundg (xs.length - (k + 1))
            case measure => rw [HG2.out]; omega
            case rel => exact ⟨us, b', k + 1, rfl, by omega, by go_num, rfl, HST6.out, HM6.out, HS6.out⟩
        · obtain rfl : k = xs.length := by omega
          have HST := Lib.hid hst2
          clear hst2
          go_wp2_with fail
          go_roundg (2 * sumN ys + (if b then 1 else 0))
          case measure =>
            rw [HG.out]
            cases b
            · rw [(HM2.out rfl).1]; simp
            · have := HS2.out rfl
              simp; omega
          case rel =>
            refine ⟨ys, b, rfl, rfl, HST.out, fun h => ?_⟩
            obtain ⟨h1, h2⟩ := HM2.out h
            subst h1
            rw [HST.out.2.2.1]
            exact h2

set_option maxRecDepth 100000 in
theorem each_large (A : Option Addr) (n c : Nat) (v : Value) (W : World) (hl : 200 < n) :
    Calls Try.prog 41 #[.slice A n c, v] W fun e w' => e = .returned (.tuple #[.slice none 0 0, .int .i64 2]) ∧ W = w' := by
  go_enter Try.func41, Try.ntmps41
  go_wp2_with fail
  go_ret2
  exact ⟨rfl, rfl⟩

set_option maxRecDepth 100000 in
theorem each_arg (A : Option Addr) (c : Nat) (xs : List Int) (v : Value) (W : World) (hr : Row W W.heap.size A (ints xs)) (hl : xs.length ≤ 200) (hR : xs.any Each1 = true) :
    Calls Try.prog 41 #[.slice A xs.length c, v] W fun e w' => e = .returned (.tuple #[.slice none 0 0, .int .i64 1]) ∧ W = w' := by
  have HR := Lib.hid hR
  have HCF := Lib.hid (containsFunc_any A c xs 105 #[] Each1 W.heap.size (fun w => W = w) W enters_each1 (by unfold maxLen; omega) (fun w hw => by subst hw; exact hr) (fun x _ w hw => by subst hw; exact each1_any x W) rfl)
  clear hR
  go_enter Try.func41, Try.ntmps41
  go_wp2_with fail
  refine HCF.out.mono ?_
  rintro e w' ⟨rfl, rfl⟩
  rw [HR.out]
  go_wp2_with fail
  go_ret2
  exact ⟨rfl, rfl⟩

set_option maxRecDepth 100000 in
theorem each_none (A : Option Addr) (c : Nat) (xs : List Int) (fid : FuncId) (caps : Array Value) (f : List Int → Bool) (W : World) (he : Enters fid) (hr : Row W W.heap.size A (ints xs)) (hA : A = none → c = 0) (hl : xs.length ≤ 200)
    (hR : xs.any Each1 = false) (ht : Tests W xs.length fid caps f) (hf : f xs = false) :
    Calls Try.prog 41 #[.slice A xs.length c, .func (.func fid) #[] caps] W fun e w' => e = .returned (.tuple #[.slice none 0 0, .int .i64 4]) ∧ Below W.heap.size W w' := by
  have HT := Lib.hid ht
  have HIR := Lib.hid (inR_of xs hR)
  have HF := Lib.hid hf
  have HR := Lib.hid hR
  have HCF := Lib.hid (containsFunc_any A c xs 105 #[] Each1 W.heap.size (fun w => W = w) W enters_each1 (by unfold maxLen; omega) (fun w hw => by subst hw; exact hr) (fun x _ w hw => by subst hw; exact each1_any x W) rfl)
  clear ht hf hR
  unfold Enters at he
  go_enter Try.func41, Try.ntmps41
  go_wp2_with fail
  refine HCF.out.mono ?_
  rintro e w' ⟨rfl, rfl⟩
  rw [HR.out]
  go_wp2_with fail
  refine (clone_any A c xs _ _ hr hA (by omega)).mono ?_
  rintro e w1 ⟨v1, rfl, hown1, hb1⟩
  obtain ⟨A1, c1, rfl, hr1, _⟩ := row_of_own_int hown1
  clear hown1
  go_wp2_with fail
  refine (HT.out xs A1 c1 w1 rfl HIR.out hb1 hr1).mono ?_
  rintro e w' ⟨rfl, rfl⟩
  rw [HF.out]
  go_wp2_with fail
  go_ret2
  exact ⟨rfl, hb1⟩
end Go.Proofs.Ytjblfkoepedhpaa
