
/-
  arms.literal and arms.bind.
-/
import Derived.Test.YtdjahlkjfpbifaaPkMk
namespace Go.Proofs.Ytdjahlkjfpbifaa
open Go.RowKit

/-- literal, of two values' own cells. -/
def litC (x y : VC) : Bool :=
  if x.kind = 3 then y.kind == 2 && y.num == x.num
  else if x.kind = 4 then y.kind == 3 && y.num == x.num
  else if x.kind = 5 then y.kind == 4 && y.text.toList == x.text.toList
  else false
theorem litC_of {w : World} {Sp Sv : Nat → Prop} {n m : Nat} {x y : VC} {p v : Val} (hx : VIn w Sp n x p) (hy : VIn w Sv m y v) : litC x y = litF p v := by
  cases n with
  | zero => exact hx.elim
  | succ n =>
    cases m with
    | zero => exact hy.elim
    | succ m =>
      obtain ⟨⟨e1, e2, e3, _⟩, _⟩ := hx
      obtain ⟨⟨d1, d2, d3, _⟩, _⟩ := hy
      unfold litC litF
      rw [e1, e2, e3, d1, d2, d3]

set_option maxRecDepth 100000 in
theorem literal_any (x y : VC) (w : World) : Calls Try.prog 160 #[valV x, valV y] w fun e w' => e = .returned (.bool (litC x y)) ∧ Below w.heap.size w w' := by
  have HB := Lib.hid (show ∀ o1 o2, Below w.heap.size w ((w.alloc o1).alloc o2) from fun _ _ => ((Below.refl _ _).alloc (Nat.le_refl _) _).alloc (by simp) _)
  unfold valV litC
  by_cases h3 : x.kind = 3
  · have b3 : (x.kind == 3) = true := by simp [h3]
    rw [if_pos h3]
    clear h3
    cases hq : (y.kind == 2)
    all_goals (
      go_enter Try.func160, Try.ntmps160
      go_wp2_with fail
      go_ret
      exact ⟨by simp, HB.out _ _⟩)
  have b3 : (x.kind == 3) = false := by simp [h3]
  rw [if_neg h3]
  clear h3
  by_cases h4 : x.kind = 4
  · have b4 : (x.kind == 4) = true := by simp [h4]
    rw [if_pos h4]
    clear h4
    cases hq : (y.kind == 3)
    all_goals (
      go_enter Try.func160, Try.ntmps160
      go_wp2_with fail
      go_ret
      exact ⟨by simp, HB.out _ _⟩)
  have b4 : (x.kind == 4) = false := by simp [h4]
  rw [if_neg h4]
  clear h4
  by_cases h5 : x.kind = 5
  · have b5 : (x.kind == 5) = true := by simp [h5]
    rw [if_pos h5]
    clear h5
    cases hq : (y.kind == 4)
    all_goals (
      go_enter Try.func160, Try.ntmps160
      go_wp2_with fail
      go_ret
      exact ⟨by simp, HB.out _ _⟩)
  have b5 : (x.kind == 5) = false := by simp [h5]
  rw [if_neg h5]
  clear h5
  go_enter Try.func160, Try.ntmps160
  go_wp2_with fail
  go_ret
  exact ⟨rfl, HB.out _ _⟩

/-- What bind answers: what is bound is appended to the row in the making. -/
def BindPost (w : World) (A : Option Addr) (base N : Nat) (Sv : Nat → Prop) (vs : List Val) (r : Option (List Val)) (e : Ending) (w' : World) : Prop :=
  ∃ (u : Value) (q : Bool), e = .returned (.tuple #[u, .bool q]) ∧ Only (fun b => A.map (·.block) = some b) w w' ∧ (q = false → r = none) ∧
    (q = true → ∃ xs A' c' l', r = some xs ∧ u = .slice A' l'.length c' ∧ valMk w' base Sv N A' c' l' (vs ++ xs) ∧ ∀ b, A'.map (·.block) = some b → A.map (·.block) = some b ∨ w.heap.size ≤ b)
def BindsAt (n : Nat) : Prop := ∀ (x y : VC) (p v : Val) (w : World) (base N M m : Nat) (Sp Sv : Nat → Prop) (A : Option Addr) (c : Nat) (l : List VC) (vs : List Val), VIn w Sp n x p → VIn w Sv n y v → (∀ b, Sp b → b < base) → (∀ b, Sv b → b < base) → base ≤ w.heap.size → n ≤ N →
  valMk w base Sv N A c l vs → l.length = m → m + p.size ≤ M → M ≤ 2097152 → Calls Try.prog 120 #[valV x, valV y, .slice A m c] w (BindPost w A base N Sv vs (bindN n p v))

section
variable {w w' : World} {base n : Nat} {S : Nat → Prop} {A : Option Addr} {c : Nat} {l : List VC} {vs : List Val}
theorem valMk.lt_block (h : valMk w base S n A c l vs) {b : Nat} (hb : A.map (·.block) = some b) : base ≤ b ∧ b < w.heap.size := by
  rcases h.2.1.form with ⟨rfl, _⟩ | ⟨g, o, rfl⟩
  · cases hb
  · have := h.2.1.lt
    simp at hb
    omega
theorem Off.of_lt (hS : ∀ b, S b → b < base) (h : valMk w base S n A c l vs) : ∀ b, S b → Off S A b := fun b hb => ⟨hb, fun e => by
  have h1 := h.lt_block e
  have h2 := hS b hb
  omega⟩
end
theorem only_after {w wr w2 : World} {T T' : Nat → Prop} (h : Only T w wr) (k : Only T' wr w2) (hT : ∀ b, T' b → T b ∨ w.heap.size ≤ b) : Only T w w2 :=
  ⟨k.os.trans h.os, k.tape.trans h.tape, k.output.trans h.output, Nat.le_trans h.size k.size, fun i hi hne => (k.block i (Nat.lt_of_lt_of_le hi h.size) (fun e => by
    rcases hT i e with e | e
    · exact hne e
    · omega)).trans (h.block i hi hne)⟩
theorem only_cell {w w' : World} {T : Nat → Prop} (h : Only T w w') {p : Addr} (hp : p.block < w.heap.size) (hne : ¬ T p.block) : w'.cell? p = w.cell? p := by
  simp only [World.cell?, h.block _ hp hne]
/-- What lies below the row's memory is as it was. -/
theorem only_keepS {w w' : World} {base n : Nat} {S S' : Nat → Prop} {A : Option Addr} {c : Nat} {l : List VC} {vs : List Val} (hmk : valMk w base S n A c l vs) (hS' : ∀ b, S' b → b < base) (h : Only (fun b => A.map (·.block) = some b) w w') : ∀ q : Addr, S' q.block ∧ q.block < w.heap.size → w'.cell? q = w.cell? q :=
  fun q hq => only_cell h hq.2 fun e => by
    have h1 := hmk.lt_block e
    have h2 := hS' _ hq.1
    omega
theorem only2 {w w1 : World} {o1 o2 : Obj} {T : Nat → Prop} (h : Only T ((w.alloc o1).alloc o2) w1) : Only T w w1 :=
  (((Only.refl T w).alloc o1).alloc o2).trans h

set_option maxRecDepth 100000 in
set_option maxHeartbeats 4000000 in
theorem binds_any : ∀ n, BindsAt n
  | 0 => fun _ _ _ _ _ _ _ _ _ _ _ _ _ _ _ h => h.elim
  | n + 1 => by
    intro x y p v w base N M m Sp Sv A c l vs hx hy hSp hSv hbase hN hmk hm hM hM2
    subst hm
    have hx := hx.lt
    have hy := hy.lt
    have HLIT := Lib.hid (fun w => literal_any x y w)
    rw [litC_of hx hy] at HLIT
    obtain ⟨k1, m1, t1, A1, len1, cap1⟩ := x
    obtain ⟨k2, m2, t2, A2, len2, cap2⟩ := y
    obtain ⟨l1, rfl, hr1⟩ := row_of_VIn hx
    obtain ⟨l2, rfl, hr2⟩ := row_of_VIn hy
    have ek1 : k1 = p.kind := hx.1.1
    have et1 : t1 = p.text := hx.1.2.2.1
    have ek2 : k2 = v.kind := hy.1.1
    have et2 : t2 = v.text := hy.1.2.2.1
    have HY := Lib.hid hy
    have HMK := Lib.hid hmk
    have HIH := Lib.hid (binds_any n)
    have HR1 := Lib.hid hr1
    have HR2 := Lib.hid hr2
    have HSP := Lib.hid hSp
    have HSV := Lib.hid hSv
    have HB := Lib.hid (show ∀ (T : Nat → Prop) o1 o2, Only T w ((w.alloc o1).alloc o2) from fun T o1 o2 => ((Only.refl T w).alloc o1).alloc o2)
    have HMK2 := Lib.hid (show ∀ o1 o2, valMk ((w.alloc o1).alloc o2) base Sv N A c l vs from fun o1 o2 => (hmk.below ((Below.refl _ _).alloc (Nat.le_refl _) _)).below ((Below.refl _ _).alloc (Nat.le_refl _) _))
    have hcm1 := hr1.2.2.2.2.1
    have hlc1 := hr1.2.2.2.1
    have HL1 := Lib.hid hr1.1
    have HL2 := Lib.hid hr2.1
    unfold maxLen at hcm1
    have hps := size_pos p
    have hroom : (l.length + 1) * 56 ≤ 140737488355328 := by omega
    clear hx hy hmk hr1 hr2 hSp hSv
    unfold bindN
    unfold valV at *
    by_cases h1 : p.kind = 1
    · have b1 : (k1 == 1) = true := by simp [ek1, h1]
      rw [if_pos h1]
      clear h1 ek1 et1 ek2 et2
      go_enter Try.func120, Try.ntmps120
      go_wp2_with fail
      go_ret2
      exact ⟨_, _, rfl, HB.out _ _ _, (fun h => by cases h), fun _ => ⟨[], A, c, l, rfl, rfl, by rw [List.append_nil]; exact HMK2.out _ _, fun b hb => .inl hb⟩⟩
    have b1 : (k1 == 1) = false := by simp [ek1, h1]
    rw [if_neg h1]
    clear h1
    by_cases h2 : p.kind = 2
    · have b2 : (k1 == 2) = true := by simp [ek1, h2]
      rw [if_pos h2]
      clear h2 ek1 et1 ek2 et2
      have HMK3 := Lib.hid (show ∀ o1 o2 o3, valMk (((w.alloc o1).alloc o2).alloc o3) base Sv N A c l vs from fun o1 o2 o3 => (HMK2.out o1 o2).below ((Below.refl _ _).alloc (Nat.le_refl _) _))
      have HB3 := Lib.hid (show ∀ (T : Nat → Prop) o1 o2 o3, Only T w (((w.alloc o1).alloc o2).alloc o3) from fun T o1 o2 o3 => (HB.out T o1 o2).alloc o3)
      have HY3 := Lib.hid (show ∀ o1 o2 o3, VIn (((w.alloc o1).alloc o2).alloc o3) (Off Sv A) N ⟨k2, m2, t2, A2, l2.length, cap2⟩ v from fun o1 o2 o3 => ((HY.out.more hN).keep (fun q hq => by
        have hq2 := hq.2
        rw [World.cell?_alloc_lt _ _ _ (by simp; omega), World.cell?_alloc_lt _ _ _ (by simp; omega), World.cell?_alloc_lt _ _ _ hq2]) fun b hb => Off.of_lt HSV.out HMK.out b hb.1))
      have hb3 : ∀ o1 o2 o3, base ≤ (((w.alloc o1).alloc o2).alloc o3).heap.size := fun o1 o2 o3 => by simp; omega
      go_enter Try.func120, Try.ntmps120
      go_wp2_with (at_builtin; refine wpList_mk_valO rfl (.tmp 18) (.tmp 20) rfl base Sv N A c l.length l vs rfl rfl (HMK3.out _ _ _) (w.heap.size + 1 + 1) ⟨k2, m2, t2, A2, l2.length, cap2⟩ v rfl (fun j u hu => by
        have h := (Box.new ((w.alloc (.cells #[.int .i64 k1, .int .i64 m1, .string t1, .slice A1 l1.length cap1] 32)).alloc (.cells #[.int .i64 k2, .int .i64 m2, .string t2, .slice A2 l2.length cap2] 28)) 28 #[.int .i64 k2, .int .i64 m2, .string t2, .slice A2 l2.length cap2]).cell j
        simp only [World.size_alloc] at h
        rw [h, ← hu]
        simp [valC]) (HY3.out _ _ _) hroom (hb3 _ _ _) ?_; intro g' o' c' w4 hmk4 ho4 hg4)
      go_ret2
      refine ⟨_, _, rfl, (HB3.out _ _ _ _).trans ho4, (fun h => by cases h), fun _ => ⟨[v], some ⟨g', o', none⟩, c', l ++ [⟨k2, m2, t2, A2, l2.length, cap2⟩], rfl, by simp, hmk4, fun b hb => ?_⟩⟩
      simp at hb
      subst hb
      rcases hg4 with h | h
      · exact .inl h
      · simp at h
        right
        omega
    have b2 : (k1 == 2) = false := by simp [ek1, h2]
    rw [if_neg h2]
    clear h2
    by_cases h6 : p.kind = 6
    case neg =>
      have b6 : (k1 == 6) = false := by simp [ek1, h6]
      rw [if_neg h6]
      clear h6 ek1 et1 ek2 et2
      generalize litF p v = q at *
      cases q
      · rw [if_neg (by decide)]
        go_enter Try.func120, Try.ntmps120
        go_wp2_with fail
        refine (HLIT.out _).mono ?_
        rintro e w3 ⟨rfl, hb3⟩
        have HW := Lib.hid (show Only (fun b => A.map (·.block) = some b) w w3 from (HB.out _ _ _).below hb3)
        clear hb3 HLIT
        go_wp2_with fail
        go_ret2
        exact ⟨_, _, rfl, HW.out, (fun _ => rfl), (fun h => by cases h)⟩
      · rw [if_pos rfl]
        go_enter Try.func120, Try.ntmps120
        go_wp2_with fail
        refine (HLIT.out _).mono ?_
        rintro e w3 ⟨rfl, hb3⟩
        have HW := Lib.hid (show Only (fun b => A.map (·.block) = some b) w w3 from (HB.out _ _ _).below hb3)
        have HM3 := Lib.hid ((HMK2.out _ _).below hb3)
        clear hb3 HLIT
        go_wp2_with fail
        go_ret2
        exact ⟨_, _, rfl, HW.out, (fun h => by cases h), fun _ => ⟨[], A, c, l, rfl, rfl, by rw [List.append_nil]; exact HM3.out, fun b hb => .inl hb⟩⟩
    have b6 : (k1 == 6) = true := by simp [ek1, h6]
    rw [if_pos h6]
    clear h6
    have hmkF : mkF p v = ((k2 == 5) && (t2.toList == t1.toList) && (l2.length == l1.length)) := by
      unfold mkF
      rw [← ek2, ← et1, ← et2, ← HL1.out, ← HL2.out]
    rw [hmkF]
    clear hmkF ek1 et1 ek2 et2 HLIT
    by_cases hk : k2 = 5
    case neg =>
      have bk : (k2 != 5) = true := by simp [hk]
      have bk' : (k2 == 5) = false := by simp [hk]
      rw [bk', Bool.false_and, Bool.false_and, if_neg (by decide)]
      clear hk
      go_enter Try.func120, Try.ntmps120
      go_wp2_with fail
      go_ret2
      exact ⟨_, _, rfl, HB.out _ _ _, (fun _ => rfl), (fun h => by cases h)⟩
    have bk : (k2 != 5) = false := by simp [hk]
    have bk' : (k2 == 5) = true := by simp [hk]
    rw [bk', Bool.true_and]
    clear hk
    by_cases ht : t2 = t1
    case neg =>
      have bt : (t2.toList != t1.toList) = true := by simp [bytes_inj, ht]
      have bt' : (t2.toList == t1.toList) = false := by simp [bytes_inj, ht]
      rw [bt', Bool.false_and, if_neg (by decide)]
      clear ht
      go_enter Try.func120, Try.ntmps120
      go_wp2_with fail
      go_ret2
      exact ⟨_, _, rfl, HB.out _ _ _, (fun _ => rfl), (fun h => by cases h)⟩
    have bt : (t2.toList != t1.toList) = false := by simp [ht]
    have bt' : (t2.toList == t1.toList) = true := by simp [ht]
    rw [bt', Bool.true_and]
    clear ht
    by_cases hl : l2.length = l1.length
    case neg =>
      have bl : ((l2.length : Int) != (l1.length : Int)) = true := by simp; omega
      have bl2 : (l2.length != l1.length) = true := by simp; omega
      have bl' : (l2.length == l1.length) = false := by simp; omega
      rw [bl', if_neg (by decide)]
      clear hl
      go_enter Try.func120, Try.ntmps120
      go_wp2_with fail
      go_ret2
      exact ⟨_, _, rfl, HB.out _ _ _, (fun _ => rfl), (fun h => by cases h)⟩
    have bl : ((l2.length : Int) != (l1.length : Int)) = false := by simp; omega
    have bl2 : (l2.length != l1.length) = false := by simp; omega
    have bl' : (l2.length == l1.length) = true := by simp; omega
    rw [bl', if_pos rfl]
    have hle1 : l1.length ≤ l2.length := by omega
    have HL := Lib.hid hl
    clear hl
    generalize hR : bindL (bindN n) p.args v.args p.args.length = R at *
    have HR := Lib.hid hR
    clear hR
    go_enter Try.func120, Try.ntmps120
    go_wp2_with fail
    go_loopg [2, 46] l1.length (fun gk ov i wr => ∃ (k : Nat) (xs : List Val) (Ak : Option Addr) (ck : Nat) (lk : List VC), gk = l1.length - k ∧ k ≤ l1.length ∧ i = .int .i64 k ∧ ov = .slice Ak lk.length ck ∧ bindL (bindN n) p.args v.args k = some xs ∧ valMk wr base Sv N Ak ck lk (vs ++ xs) ∧ (∀ b, Ak.map (·.block) = some b → A.map (·.block) = some b ∨ w.heap.size + 2 ≤ b) ∧
      Box wr w.heap.size 32 #[.int .i64 k1, .int .i64 m1, .string t1, .slice A1 l1.length cap1] ∧ Box wr (w.heap.size + 1) 28 #[.int .i64 k2, .int .i64 m2, .string t2, .slice A2 l2.length cap2] ∧ Only (fun b => A.map (·.block) = some b) w wr ∧ w.heap.size + 2 ≤ wr.heap.size)
    case atStart => exact ⟨0, [], A, c, l, by omega, by omega, rfl, rfl, rfl, by rw [List.append_nil]; exact HMK2.out _ _, fun b hb => .inl hb, (Box.new w _ _).alloc _, by
      have := Box.new (w.alloc (.cells #[.int .i64 k1, .int .i64 m1, .string t1, .slice A1 l1.length cap1] 32)) 28 #[.int .i64 k2, .int .i64 m2, .string t2, .slice A2 l2.length cap2]
      simpa using this, HB.out _ _ _, by simp⟩
    case round =>
      obtain ⟨k, xs, Ak, ck, lk, hgk, hk, rfl, rfl, hxs, hmk, hAk, B1, B2, hon, hsz⟩ := hrel
      have HG := Lib.hid hgk
      have HXS := Lib.hid hxs
      have HMKK := Lib.hid hmk
      have HAK := Lib.hid hAk
      have HON := Lib.hid hon
      clear hgk hxs hmk hAk hon
      by_cases hlt : k < l1.length
      · have hrw1 := HR1.out.keep (only_keepS HMK.out HSP.out HON.out) (fun _ h => h)
        have hrw2 := HR2.out.keep (only_keepS HMK.out HSV.out HON.out) (fun _ h => h)
        have HV1 := Lib.hid (hrw1.2.2.1 k hlt)
        have HV2 := Lib.hid (hrw2.2.2.1 k (by omega))
        have HKP := Lib.hid (show k < p.args.length by rw [← HL1.out]; exact hlt)
        have HRM := Lib.hid (bind_room HKP.out HXS.out)
        have HLK := Lib.hid (show lk.length = l.length + xs.length by rw [HMKK.out.1, List.length_append, HMK.out.1])
        have HSOME := Lib.hid (fun ys => bindL_some (ys := ys) HXS.out)
        have HSTOP := Lib.hid (fun (h : bindN n (p.args.getD k val0) (v.args.getD k val0) = none) => bindL_stop h p.args.length HKP.out)
        obtain ⟨p1, o1, rfl, _, hc0, hc1, hc2, hc3⟩ := hrw1.2.1.all.val hlt vc0
        obtain ⟨p2, o2, rfl, hp2, hd0, hd1, hd2, hd3⟩ := hrw2.2.1.all.val (show k < l2.length by omega) vc0
        clear hrw1 hrw2
        generalize l1.getD k vc0 = x at *
        generalize l2.getD k vc0 = y at *
        generalize p.args.getD k val0 = p' at *
        generalize v.args.getD k val0 = v' at *
        have hlt2 : (k : Int) < (l2.length : Int) := by omega
        have hlt3 : k < l2.length := by omega
        have hbk := fun b hb => (HMK.out).lt_block (b := b) hb
        have HNE0 := Lib.hid (show Ak.map (·.block) ≠ some w.heap.size from fun e => by
          rcases HAK.out _ e with h | h
          · have := (hbk _ h).2; omega
          · omega)
        have HNE1 := Lib.hid (show Ak.map (·.block) ≠ some (w.heap.size + 1) from fun e => by
          rcases HAK.out _ e with h | h
          · have := (hbk _ h).2; omega
          · omega)
        clear hbk
        have hal := fun o => (Below.refl wr.heap.size wr).alloc (Nat.le_refl _) o
        have HT := Lib.hid (fun o => HIH.out x y p' v' (wr.alloc o).drew base N M lk.length Sp Sv Ak ck lk (vs ++ xs) ((HV1.out.below (hal o) fun b hb => Nat.lt_of_lt_of_le hb.2 (by omega)).keep (fun _ _ => rfl) fun _ hb => hb.1).drew ((HV2.out.below (hal o) fun b hb => Nat.lt_of_lt_of_le hb.2 (by omega)).keep (fun _ _ => rfl) fun _ hb => hb.1).drew HSP.out HSV.out (by simp; omega) (by omega) ((HMKK.out.below (hal o)).below (below_drewN (Below.refl _ _) 1)) rfl (by have := HRM.out; have := HLK.out; omega) hM2)
        unfold BindPost valV at HT
        go_upto_region 13 with fail
        have HT1 := Lib.hid (HT.out (.cells #[.int .i64 x.kind, .int .i64 x.num, .string x.text, .slice x.A x.len x.cap] 32))
        have hbx := Box.new wr 32 #[.int .i64 x.kind, .int .i64 x.num, .string x.text, .slice x.A x.len x.cap]
        obtain ⟨e0, e1, e2, e3, _⟩ := own_cells4 hbx
        have HB1 := Lib.hid (B1.alloc (.cells #[.int .i64 x.kind, .int .i64 x.num, .string x.text, .slice x.A x.len x.cap] 32))
        have HB2 := Lib.hid (B2.alloc (.cells #[.int .i64 x.kind, .int .i64 x.num, .string x.text, .slice x.A x.len x.cap] 32))
        have HON1 := Lib.hid (HON.out.alloc (.cells #[.int .i64 x.kind, .int .i64 x.num, .string x.text, .slice x.A x.len x.cap] 32))
        obtain ⟨f0, f1, f2, f3, _⟩ := own_cells4 HB2.out
        have hd0 := (World.cell?_alloc_lt wr (.cells #[.int .i64 x.kind, .int .i64 x.num, .string x.text, .slice x.A x.len x.cap] 32) ⟨p2, o2 + k * 4, none⟩ hp2).trans hd0
        have hd1 := (World.cell?_alloc_lt wr (.cells #[.int .i64 x.kind, .int .i64 x.num, .string x.text, .slice x.A x.len x.cap] 32) ⟨p2, o2 + k * 4 + 1, none⟩ hp2).trans hd1
        have hd2 := (World.cell?_alloc_lt wr (.cells #[.int .i64 x.kind, .int .i64 x.num, .string x.text, .slice x.A x.len x.cap] 32) ⟨p2, o2 + k * 4 + 2, none⟩ hp2).trans hd2
        have hd3 := (World.cell?_alloc_lt wr (.cells #[.int .i64 x.kind, .int .i64 x.num, .string x.text, .slice x.A x.len x.cap] 32) ⟨p2, o2 + k * 4 + 3, none⟩ hp2).trans hd3
        have hsz1 : wr.heap.size + 1 = (wr.alloc (.cells #[.int .i64 x.kind, .int .i64 x.num, .string x.text, .slice x.A x.len x.cap] 32)).heap.size := by simp
        clear HT HB HMK2 B1 B2 HV1 HV2 hc0 hc1 hc2 hc3 hbx HR1 HR2 HY HON hal HMKK
        generalize wr.alloc (.cells #[.int .i64 x.kind, .int .i64 x.num, .string x.text, .slice x.A x.len x.cap] 32) = w1 at *
        have hsz2 : w.heap.size + 2 ≤ w1.heap.size := by omega
        generalize wr.heap.size = gx at *
        go_region_law ((go_simp; go_at_call 120; refine HT1.out.mono ?_; rintro e w2 ⟨u, q, rfl, ho2, hf, ht⟩))
        all_goals (
          have HON2 := Lib.hid (only_after HON1.out ((Only.refl _ w1).drew.trans ho2) fun b hb => by
            rcases HAK.out b hb with h | h
            · exact .inl h
            · right; omega)
          have HB12 := Lib.hid (ho2.box HB1.out.drew HNE0.out)
          have HB22 := Lib.hid (ho2.box HB2.out.drew HNE1.out)
          have hsz3 : w.heap.size + 2 ≤ w2.heap.size := Nat.le_trans hsz2 ho2.size
          have HF := Lib.hid hf
          have HTT := Lib.hid ht
          clear ho2 hf ht
          simp only [List.getElem_toArray, List.getElem_cons_succ, List.getElem_cons_zero]
          go_frame
          cases q
          · go_wp2_with fail
            go_ret2
            exact ⟨_, _, rfl, HON2.out, (fun _ => by rw [← HR.out]; exact HSTOP.out (HF.out (by simp))), (fun h => by cases h)⟩
          · obtain ⟨ys, A', c', l', hys, rfl, hmk', hA'⟩ := HTT.out (by simp)
            have HM' := Lib.hid hmk'
            have HA' := Lib.hid hA'
            have HYS := Lib.hid (HSOME.out ys hys)
            clear hmk' hA' hys
            go_wp2_with fail
            go_roundg (l1.length - (k + 1))
            case measure => have := HG.out; omega
            case rel =>
              refine ⟨k + 1, xs ++ ys, A', c', l', rfl, by omega, by go_num, rfl, HYS.out, by rw [← List.append_assoc]; exact HM'.out, fun b hb => ?_, HB12.out, HB22.out, HON2.out, hsz3⟩
              rcases HA'.out b hb with h | h
              · exact HAK.out b h
              · right
                have : w1.heap.size ≤ b := h
                omega)
      · obtain rfl : k = l1.length := by omega
        go_wp2_with fail
        go_ret2
        refine ⟨_, _, rfl, HON.out, (fun h => by cases h), fun _ => ⟨xs, Ak, ck, lk, ?_, rfl, HMKK.out, fun b hb => ?_⟩⟩
        · rw [← HR.out, ← HXS.out, HL1.out]
        · rcases HAK.out b hb with h | h
          · exact .inl h
          · right; omega
end Go.Proofs.Ytdjahlkjfpbifaa
