/-
  The steps of an order (explore.Steps).
-/
import Derived.Test.YtcmkkfpcdebfkaaEx11
import Derived.Test.YtcmkkfpcdebfkaaEx6
import Derived.Test.YtcmkkfpcdebfkaaPtRow
namespace Go.Proofs.Ytcmkkfpcdebfkaa
open Go.RowKit

/-- What Steps returns. -/
def stepS (l : List (List Do)) : List Int → List Int → List (Int × Int × Int) → List (Int × Int × Int) × Int
  | [], _, acc => (acc, 0)
  | x :: o, at', acc =>
    if x < 0 ∨ (l.length : Int) ≤ x then ([], 1)
    else if at'.getD x.toNat 0 = ((l.getD x.toNat []).length : Int) then ([], 8)
    else stepS l o (at'.set x.toNat (at'.getD x.toNat 0 + 1)) (acc ++ [stepOf ((l.getD x.toNat []).getD (at'.getD x.toNat 0).toNat (0, 0, 0)) x.toNat])
def stepsT (l : List (List Do)) (o : List Int) : List (Int × Int × Int) × Int := if progBad l = 0 then stepS l o [0, 0, 0, 0] [] else ([], progBad l)
theorem stepS_drop {l : List (List Do)} {o at' : List Int} {acc : List (Int × Int × Int)} {k : Nat} (hk : k < o.length) : stepS l (o.drop k) at' acc =
    if o.getD k 0 < 0 ∨ (l.length : Int) ≤ o.getD k 0 then ([], 1)
    else if at'.getD (o.getD k 0).toNat 0 = ((l.getD (o.getD k 0).toNat []).length : Int) then ([], 8)
    else stepS l (o.drop (k + 1)) (at'.set (o.getD k 0).toNat (at'.getD (o.getD k 0).toNat 0 + 1)) (acc ++ [stepOf ((l.getD (o.getD k 0).toNat []).getD (at'.getD (o.getD k 0).toNat 0).toNat (0, 0, 0)) (o.getD k 0).toNat]) := by
  rw [drop_getD o 0 hk]
  rfl
/-- How far each program is. -/
structure GoodA (l : List (List Do)) (s : List Int) : Prop where
  len : s.length = 4
  at' : ∀ who, who < l.length → ∃ a : Nat, s.getD who 0 = a ∧ a ≤ (l.getD who []).length
theorem GoodA.zero {l : List (List Do)} (h4 : l.length ≤ 4) : GoodA l [0, 0, 0, 0] := ⟨rfl, fun who hw => ⟨0, by
  have : who = 0 ∨ who = 1 ∨ who = 2 ∨ who = 3 := by omega
  rcases this with rfl | rfl | rfl | rfl <;> rfl, Nat.zero_le _⟩⟩
theorem GoodA.next {l : List (List Do)} {s : List Int} (h : GoodA l s) (h4 : l.length ≤ 4) {who a : Nat} (ha : s.getD who 0 = a) (hw : who < l.length) (hal : a < (l.getD who []).length) : GoodA l (s.set who ((a : Int) + 1)) := by
  refine ⟨by rw [List.length_set]; exact h.len, fun j hj => ?_⟩
  by_cases e : j = who
  · subst e
    exact ⟨a + 1, by rw [getD_set_eq (by rw [h.len]; omega)]; simp, hal⟩
  · obtain ⟨a', e', hle⟩ := h.at' j hj
    exact ⟨a', by rw [getD_set_ne (fun h => e h.symm), e'], hle⟩
/-- Steps of the call's own are handed back. -/
def StepsPost (q : List (Int × Int × Int) × Int) (w : World) (e : Ending) (w' : World) : Prop := ∃ v, e = .returned (.tuple #[v, .int .i64 q.2]) ∧ w'.ownsRow w.heap.size 61 3 v q.1.length (flat ptC q.1) ∧ Below w.heap.size w w'
theorem StepsPost.bad {w w' : World} {n : Int} {q : List (Int × Int × Int) × Int} (h : q = ([], n)) (hb : Below w.heap.size w w') : StepsPost q w (.returned (.tuple #[.slice none 0 0, .int .i64 n])) w' := by
  subst h
  exact ⟨_, rfl, World.ownsRow_nil _ _ _ _, hb⟩
theorem stepOf_two (c b : Int) (who : Nat) : stepOf (2, c, b) who = ((who : Int), 0, wrap64 (2 ^ c.toNat)) := by simp [stepOf]
theorem stepOf_three (c b : Int) (who : Nat) : stepOf (3, c, b) who = ((who : Int), wrap64 (2 ^ c.toNat), wrap64 (2 ^ c.toNat)) := by simp [stepOf]
theorem stepOf_else {k : Int} (c b : Int) (who : Nat) (h2 : k ≠ 2) (h3 : k ≠ 3) : stepOf (k, c, b) who = ((who : Int), wrap64 (2 ^ c.toNat), 0) := by simp [stepOf, h2, h3]

theorem own_set {w : World} {base n size : Nat} {e : TypeId} {v : Value} {xs : List Value} (h : w.ownsRow base e size v n xs) {p : Addr} (hne : ∀ b, v.ownBlock = some b → b ≠ p.block) (u : Value) : (w.setCell p u).ownsRow base e size v n xs := by
  rcases h.2 with ⟨h0, h1⟩ | ⟨g, cap, cur, rfl, h1, h2, h3⟩
  · exact ⟨h.1, .inl ⟨h0, h1⟩⟩
  · exact ⟨h.1, .inr ⟨g, cap, cur, rfl, h1, (Below.heap_setCell w p u g (hne g rfl)).trans h2, h3⟩⟩
theorem own_ne_box {w : World} {base : Nat} {e t : TypeId} {size n g : Nat} {v : Value} {xs : List Value} {cs : Array Value} (h : w.ownsRow base e size v n xs) (hg : Box w g t cs) (hne : e ≠ t) : v.ownBlock ≠ some g := by
  rcases h.2 with ⟨rfl, _⟩ | ⟨g', cap, cur, rfl, _, hh, _⟩
  · simp [Value.ownBlock]
  · intro he
    have e1 : g' = g := by simpa [Value.ownBlock] using he
    subst e1
    unfold Box at hg
    rw [hh] at hg; injection hg with hg; injection hg with _ ht; exact hne ht
set_option maxRecDepth 100000 in
set_option maxHeartbeats 4000000 in
theorem stepsE_bad (A B : Option Addr) (c d : Nat) (l : List (List Do)) (o : List Int) (W : World) (h : PIn W A c l) (hp : progBad l ≠ 0) :
    Calls Try.prog 21 #[.slice A l.length c, .slice B o.length d] W (StepsPost ([], progBad l) W) := by
  have HC := Lib.hid (checkE A c l _ h)
  obtain ⟨pb, hpb⟩ : ∃ pb, progBad l = pb := ⟨_, rfl⟩
  rw [hpb] at hp HC ⊢
  have q1 : (pb != 0) = true := by simpa using hp
  clear h hpb hp
  go_enter Try.func21, Try.ntmps21
  go_wp2_with fail
  refine HC.out.mono ?_
  rintro e w1 ⟨rfl, hb1⟩
  go_wp2_with fail
  go_ret2
  exact StepsPost.bad rfl hb1

set_option maxRecDepth 100000 in
set_option maxHeartbeats 4000000 in
theorem stepsE_ok (A B : Option Addr) (c d : Nat) (l : List (List Do)) (o : List Int) (W : World) (h : PIn W A c l) (hr : Row W W.heap.size B (ints o)) (hm : o.length ≤ 1048576) (hp : progBad l = 0) :
    Calls Try.prog 21 #[.slice A l.length c, .slice B o.length d] W (StepsPost (stepS l o [0, 0, 0, 0] []) W) := by
  have HC := Lib.hid (checkE A c l _ h)
  have HP := Lib.hid h
  have HR := Lib.hid hr
  obtain ⟨hl4, hrb⟩ := progBad_zero hp
  rw [hp] at HC
  have HRB := Lib.hid hrb
  obtain ⟨q, hq⟩ : ∃ q, stepS l o [0, 0, 0, 0] [] = q := ⟨_, rfl⟩
  rw [hq]
  have HQ := Lib.hid hq
  clear h hr hp hrb hq
  go_enter Try.func21, Try.ntmps21
  go_wp2_with fail
  refine HC.out.mono ?_
  rintro e w1 ⟨rfl, hb1⟩
  have HBA1 := Lib.hid (show Box (w1.alloc (.cells #[.int .i64 0, .int .i64 0, .int .i64 0, .int .i64 0] 34)) w1.heap.size 34 (ints [0, 0, 0, 0]).toArray from Box.new w1 34 #[.int .i64 0, .int .i64 0, .int .i64 0, .int .i64 0])
  have hgs : W.heap.size ≤ w1.heap.size := hb1.size
  have HB1 := Lib.hid (hb1.alloc hgs (.cells #[.int .i64 0, .int .i64 0, .int .i64 0, .int .i64 0] 34))
  clear hb1 HC
  go_wp2_with fail
  go_loopg [7, 20] o.length (fun gk v i wr => ∃ (k : Nat) (s : List Int) (acc : List (Int × Int × Int)), gk = o.length - k ∧ k ≤ o.length ∧ i = .int .i64 k ∧ Box wr w1.heap.size 34 (ints s).toArray ∧ GoodA l s ∧ acc.length ≤ k ∧ wr.ownsRow W.heap.size 61 3 v acc.length (flat ptC acc) ∧ q = stepS l (o.drop k) s acc ∧ Below W.heap.size W wr)
  case atStart => exact ⟨0, [0, 0, 0, 0], [], by omega, by omega, rfl, HBA1.out, GoodA.zero hl4, by simp, World.ownsRow_nil _ _ _ _, HQ.out.symm, HB1.out⟩
  case round =>
    clear HBA1 HB1
    obtain ⟨k, s, acc, hgk, hk, rfl, hba, hgood, hac, hown, hrun, hb⟩ := hrel
    have HK := Lib.hid hgk
    have HBA := Lib.hid hba
    have HG := Lib.hid hgood
    have HO := Lib.hid hown
    have HRUN := Lib.hid hrun
    have HB := Lib.hid hb
    have hs : s.length = 4 := hgood.len
    have hws := hb.size
    clear hgk hba hgood hown hrun
    by_cases hlt : k < o.length
    · obtain ⟨b, oo, rfl, hbl, hcx⟩ := (HR.out.below hb).int hlt
      have HD := Lib.hid (stepS_drop (l := l) (at' := s) (acc := acc) hlt)
      obtain ⟨x, hx⟩ : ∃ x, o.getD k 0 = x := ⟨_, rfl⟩
      rw [hx] at hcx HD
      clear hx
      by_cases hbad : x < 0 ∨ (l.length : Int) ≤ x
      · have HN := Lib.hid (show q = ([], 1) by rw [HRUN.out, HD.out, if_pos hbad])
        clear hb
        by_cases h0 : x < 0
        · have d0 : decide (x < 0) = true := decide_eq_true h0
          clear hbad h0
          go_wp2_with fail
          go_ret2
          exact StepsPost.bad HN.out HB.out
        · have d0 : decide (x < 0) = false := decide_eq_false h0
          have d1 : decide ((l.length : Int) ≤ x) = true := decide_eq_true (by omega)
          clear hbad h0
          go_wp2_with fail
          go_ret2
          exact StepsPost.bad HN.out HB.out
      · obtain ⟨who, rfl⟩ : ∃ n : Nat, x = n := ⟨x.toNat, by omega⟩
        have hwl : who < l.length := by omega
        have hw4 : who < 4 := by omega
        have hw4i : (who : Int) < 4 := by omega
        have d0 : decide ((who : Int) < 0) = false := decide_eq_false (by omega)
        have d1 : decide ((l.length : Int) ≤ (who : Int)) = false := decide_eq_false (by omega)
        have d2 : decide (l.length ≤ who) = false := decide_eq_false (by omega)
        obtain ⟨a, hae, hal⟩ := HG.out.at' who hwl
        have HN1 := Lib.hid (show q = if (a : Int) = ((l.getD who []).length : Int) then ([], 8) else stepS l (o.drop (k + 1)) (s.set who ((a : Int) + 1)) (acc ++ [stepOf ((l.getD who []).getD a (0, 0, 0)) who]) by
          rw [HRUN.out, HD.out, if_neg hbad]
          simp only [Int.toNat_natCast, hae])
        obtain ⟨b3, o3, B3, dd, rfl, hbl3, hcell, hrow, hd1, hd2, hd3⟩ := (HP.out.below hb).each who hwl
        have HROW := Lib.hid hrow
        have hca := box_at HBA.out (i := who) (by omega)
        rw [hae] at hca
        have HAE := Lib.hid hae
        have hgn := fun h => HG.out.next (a := a) hl4 hae hwl h
        have HGN := Lib.hid hgn
        have hv0 := rowBad_row HRB.out hwl
        obtain ⟨row, hrw⟩ : ∃ row, l.getD who [] = row := ⟨_, rfl⟩
        rw [hrw] at hcell HROW HN1 hd1 hal hv0 HGN
        have hmr : row.length ≤ 9223372036854775807 := by unfold maxLen at hd2; omega
        clear hb hbad HD hae hrow hrw hd3 hgn
        by_cases hend : a = row.length
        · have q1 : ((a : Int) == (row.length : Int)) = true := by simp [hend]
          have q2 : (a == row.length) = true := by simp [hend]
          have HN := Lib.hid (show q = ([], 8) by rw [HN1.out, if_pos (by omega)])
          clear hend
          go_upto_region 11 with fail
          go_quiet (fail)
          go_wp2_with fail
          go_ret2
          exact StepsPost.bad HN.out (below_drewN HB.out _)
        have q1 : ((a : Int) == (row.length : Int)) = false := by simp; omega
        have q2 : (a == row.length) = false := by simpa using hend
        have hal2 : a < row.length := by omega
        have HN := Lib.hid (show q = stepS l (o.drop (k + 1)) (s.set who ((a : Int) + 1)) (acc ++ [stepOf (row.getD a (0, 0, 0)) who]) by rw [HN1.out, if_neg (by omega)])
        have HGN2 := Lib.hid (HGN.out hal2)
        obtain ⟨b2, o2, rfl, hb2, hc0, hc1, hc2⟩ := (Row.xd HROW.out (i := a) (by omega) (0, 0, 0))
        have hv2 := rowBad_ok hv0 hal2
        generalize row.getD a (0, 0, 0) = y at *
        obtain ⟨yk, yc, yb⟩ := y
        obtain ⟨⟨hk1, hk2⟩, ⟨hcl, hch⟩, _⟩ := doBad_ok hv2
        obtain ⟨n, rfl⟩ : ∃ n : Nat, yc = n := ⟨yc.toNat, by omega⟩
        dsimp only at hc0 hc1 hc2
        clear hend hv2 hv0 HN1 HGN
        go_upto_region 11 with fail
        go_quiet (fail)
        go_upto_region 13 with fail
        have HBA0 := Lib.hid (HBA.out.drewN nq)
        have HO0 := Lib.hid (show (wr.drewN nq).ownsRow W.heap.size 61 3 u7 acc.length (flat ptC acc) from HO.out)
        have HB0 := Lib.hid (below_drewN HB.out nq)
        have k0 : (wr.drewN nq).cell? ⟨b2, o2 + a * 3, none⟩ = some (.int .i64 yk) := hc0
        have k1 : (wr.drewN nq).cell? ⟨b2, o2 + a * 3 + 1, none⟩ = some (.int .i64 n) := hc1
        have k2 : (wr.drewN nq).cell? ⟨b2, o2 + a * 3 + 2, none⟩ = some (.int .i64 yb) := hc2
        have k3 : (wr.drewN nq).cell? ⟨b3, o3 + who, none⟩ = some (.slice (some ⟨b2, o2, none⟩) row.length dd) := hcell
        have k4 : (wr.drewN nq).cell? ⟨w1.heap.size, who, none⟩ = some (.int .i64 a) := hca
        have hws0 : W.heap.size ≤ (wr.drewN nq).heap.size := hws
        have z1 : b2 < (wr.drewN nq).heap.size := hb2
        have z2 : b3 < (wr.drewN nq).heap.size := hbl3
        have z3 : w1.heap.size < (wr.drewN nq).heap.size := HBA.out.lt
        clear hc0 hc1 hc2 hcell hca hcx HBA HO HB HROW hbl hbl3 hb2
        generalize wr.drewN nq = w0 at *
        go_region
        go_upto_region 14 with fail
        have HBA2 := Lib.hid (HBA0.out.alloc (.cells #[.int .i64 yk, .int .i64 n, .int .i64 yb] 40)).drew
        have hbd2 := (Box.new w0 40 #[.int .i64 yk, .int .i64 n, .int .i64 yb]).drew
        have HO2 := Lib.hid (show (w0.alloc (.cells #[.int .i64 yk, .int .i64 n, .int .i64 yb] 40)).drew.ownsRow W.heap.size 61 3 u7 acc.length (flat ptC acc) from HO0.out.alloc _)
        have hb2' := below_drewN (HB0.out.alloc hws0 (.cells #[.int .i64 yk, .int .i64 n, .int .i64 yb] 40)) 1
        change Below W.heap.size W (World.drew _) at hb2'
        have HB2 := Lib.hid hb2'
        have hgd : w1.heap.size < w0.heap.size := HBA0.out.lt
        clear hb2' k0 k1 k2 k3 k4 z1 z2 z3 HB0 HO0 HBA0
        generalize w0.heap.size = gd at *
        generalize (w0.alloc (.cells #[.int .i64 yk, .int .i64 n, .int .i64 yb] 40)).drew = w2 at *
        have hca := box_at HBA2.out (i := who) (by omega)
        rw [show s.getD who 0 = a from HAE.out] at hca
        have f2 := HBA2.out.frozen who
        have HBA3 := Lib.hid (box_put HBA2.out who ((a : Int) + 1))
        have hbd3 := hbd2.far (p := ⟨w1.heap.size, who, none⟩) (by simp; omega) (.int .i64 ((a : Int) + 1))
        have HO3 := Lib.hid (own_set HO2.out (p := ⟨w1.heap.size, who, none⟩) (fun b h e => own_ne_box HO2.out HBA2.out (by decide) (h.trans (congrArg some e))) (.int .i64 ((a : Int) + 1)))
        have HB3 := Lib.hid (HB2.out.setCell (p := ⟨w1.heap.size, who, none⟩) hgs (.int .i64 ((a : Int) + 1)))
        clear hbd2
        go_upto_region 15 with fail
        generalize w2.setCell ⟨w1.heap.size, who, none⟩ (.int .i64 ((a : Int) + 1)) = w3 at *
        clear hca f2 HBA2 HO2 HB2
        have e0 := hbd3.cell 0
        have e1 := hbd3.cell 1
        simp only [List.getElem?_toArray, List.getElem?_cons_zero, List.getElem?_cons_succ] at e0 e1
        have hg3 := hbd3.lt
        have hw3 : W.heap.size ≤ w3.heap.size := HB3.out.size
        have HBD3 := Lib.hid hbd3
        have hgr : w1.heap.size < w3.heap.size := by omega
        have hn64 : n < 64 := by omega
        have hn0 : (0 : Int) ≤ n := by omega
        obtain ⟨q0, hq0⟩ : ∃ q0, wrap64 (2 ^ n) = q0 := ⟨_, rfl⟩
        have HQ0 := Lib.hid hq0
        clear hbd3 hq0
        by_cases k2 : yk = 2
        · subst k2
          have HST := Lib.hid (show stepOf (2, (n : Int), yb) who = ((who : Int), (0 : Int), q0) by rw [stepOf_two, Int.toNat_natCast, HQ0.out])
          go_upto_region 20 with fail
          rw [HQ0.out]
          have HOA := Lib.hid ((HO3.out.alloc (.cells #[.int .i64 who, .int .i64 0, .int .i64 q0] 61)).alloc (.cells #[.int .i64 who, .int .i64 0, .int .i64 q0] 61))
          have HY := Lib.hid (show ∀ (j : Nat) (u : Value), (ptC ((who : Int), (0 : Int), q0))[j]? = some u → ((w3.alloc (.cells #[.int .i64 who, .int .i64 0, .int .i64 q0] 61)).alloc (.cells #[.int .i64 who, .int .i64 0, .int .i64 q0] 61)).cell? ⟨w3.heap.size + 1, j, none⟩ = some u from fun j u h => by
            have h1 := (Box.new (w3.alloc (.cells #[.int .i64 who, .int .i64 0, .int .i64 q0] 61)) 61 #[.int .i64 who, .int .i64 0, .int .i64 q0]).cell j
            rw [show (w3.alloc (.cells #[.int .i64 who, .int .i64 0, .int .i64 q0] 61)).heap.size = w3.heap.size + 1 by simp] at h1
            rw [h1, ← h]
            simp [ptC])
          have hbb : (acc.length + 1) * 24 ≤ 140737488355328 := by omega
          have HBA4 := Lib.hid ((HBA3.out.alloc (.cells #[.int .i64 who, .int .i64 0, .int .i64 q0] 61)).alloc (.cells #[.int .i64 who, .int .i64 0, .int .i64 q0] 61))
          have HB4 := Lib.hid ((HB3.out.alloc hw3 (.cells #[.int .i64 who, .int .i64 0, .int .i64 q0] 61)).alloc (by simp; omega) (.cells #[.int .i64 who, .int .i64 0, .int .i64 q0] 61))
          clear HO3 HBD3 e0 e1 HBA3 HB3
          go_wp2_with (at_builtin; refine wpList_push_pt rfl (.tmp 78) (.tmp 80) rfl W.heap.size _ acc rfl HOA.out (w3.heap.size + 1) ((who : Int), (0 : Int), q0) rfl HY.out hbb (by simp; omega) ?_; intro v' w5 hown5 hg5)
          have HB5 := Lib.hid (HB4.out.grown hg5 (by simp; omega) (fun q hq => (HOA.out.lt q hq).1))
          have HBA5 := Lib.hid (HBA4.out.grown hg5 (fun h => own_ne_box HOA.out HBA4.out (by decide) h.symm))
          have HO5 := Lib.hid hown5
          clear hown5 hg5
          go_roundg (o.length - (k + 1))
          case measure => have := HK.out; omega
          case rel => exact ⟨k + 1, _, _, rfl, by omega, by go_num, HBA5.out, HGN2.out, by simp; omega, HO5.out, by rw [HN.out, HST.out], HB5.out⟩
        by_cases k3 : yk = 3
        · subst k3
          have HST := Lib.hid (show stepOf (3, (n : Int), yb) who = ((who : Int), q0, q0) by rw [stepOf_three, Int.toNat_natCast, HQ0.out])
          go_upto_region 20 with fail
          rw [HQ0.out]
          have HOA := Lib.hid ((HO3.out.alloc (.cells #[.int .i64 who, .int .i64 q0, .int .i64 q0] 61)).alloc (.cells #[.int .i64 who, .int .i64 q0, .int .i64 q0] 61))
          have HY := Lib.hid (show ∀ (j : Nat) (u : Value), (ptC ((who : Int), q0, q0))[j]? = some u → ((w3.alloc (.cells #[.int .i64 who, .int .i64 q0, .int .i64 q0] 61)).alloc (.cells #[.int .i64 who, .int .i64 q0, .int .i64 q0] 61)).cell? ⟨w3.heap.size + 1, j, none⟩ = some u from fun j u h => by
            have h1 := (Box.new (w3.alloc (.cells #[.int .i64 who, .int .i64 q0, .int .i64 q0] 61)) 61 #[.int .i64 who, .int .i64 q0, .int .i64 q0]).cell j
            rw [show (w3.alloc (.cells #[.int .i64 who, .int .i64 q0, .int .i64 q0] 61)).heap.size = w3.heap.size + 1 by simp] at h1
            rw [h1, ← h]
            simp [ptC])
          have hbb : (acc.length + 1) * 24 ≤ 140737488355328 := by omega
          have HBA4 := Lib.hid ((HBA3.out.alloc (.cells #[.int .i64 who, .int .i64 q0, .int .i64 q0] 61)).alloc (.cells #[.int .i64 who, .int .i64 q0, .int .i64 q0] 61))
          have HB4 := Lib.hid ((HB3.out.alloc hw3 (.cells #[.int .i64 who, .int .i64 q0, .int .i64 q0] 61)).alloc (by simp; omega) (.cells #[.int .i64 who, .int .i64 q0, .int .i64 q0] 61))
          clear HO3 HBD3 e0 e1 HBA3 HB3
          go_wp2_with (at_builtin; refine wpList_push_pt rfl (.tmp 78) (.tmp 80) rfl W.heap.size _ acc rfl HOA.out (w3.heap.size + 1) ((who : Int), q0, q0) rfl HY.out hbb (by simp; omega) ?_; intro v' w5 hown5 hg5)
          have HB5 := Lib.hid (HB4.out.grown hg5 (by simp; omega) (fun q hq => (HOA.out.lt q hq).1))
          have HBA5 := Lib.hid (HBA4.out.grown hg5 (fun h => own_ne_box HOA.out HBA4.out (by decide) h.symm))
          have HO5 := Lib.hid hown5
          clear hown5 hg5
          go_roundg (o.length - (k + 1))
          case measure => have := HK.out; omega
          case rel => exact ⟨k + 1, _, _, rfl, by omega, by go_num, HBA5.out, HGN2.out, by simp; omega, HO5.out, by rw [HN.out, HST.out], HB5.out⟩
        have n2 : (yk != 2) = true := by simpa using k2
        have n2' : (yk == 2) = false := by simpa using k2
        have n3 : (yk == 3) = false := by simpa using k3
        have HST := Lib.hid (show stepOf (yk, (n : Int), yb) who = ((who : Int), q0, (0 : Int)) by rw [stepOf_else _ _ _ k2 k3, Int.toNat_natCast, HQ0.out])
        clear k2 k3
        go_upto_region 20 with fail
        rw [HQ0.out]
        have HOA := Lib.hid ((HO3.out.alloc (.cells #[.int .i64 who, .int .i64 q0, .int .i64 0] 61)).alloc (.cells #[.int .i64 who, .int .i64 q0, .int .i64 0] 61))
        have HY := Lib.hid (show ∀ (j : Nat) (u : Value), (ptC ((who : Int), q0, (0 : Int)))[j]? = some u → ((w3.alloc (.cells #[.int .i64 who, .int .i64 q0, .int .i64 0] 61)).alloc (.cells #[.int .i64 who, .int .i64 q0, .int .i64 0] 61)).cell? ⟨w3.heap.size + 1, j, none⟩ = some u from fun j u h => by
          have h1 := (Box.new (w3.alloc (.cells #[.int .i64 who, .int .i64 q0, .int .i64 0] 61)) 61 #[.int .i64 who, .int .i64 q0, .int .i64 0]).cell j
          rw [show (w3.alloc (.cells #[.int .i64 who, .int .i64 q0, .int .i64 0] 61)).heap.size = w3.heap.size + 1 by simp] at h1
          rw [h1, ← h]
          simp [ptC])
        have hbb : (acc.length + 1) * 24 ≤ 140737488355328 := by omega
        have HBA4 := Lib.hid ((HBA3.out.alloc (.cells #[.int .i64 who, .int .i64 q0, .int .i64 0] 61)).alloc (.cells #[.int .i64 who, .int .i64 q0, .int .i64 0] 61))
        have HB4 := Lib.hid ((HB3.out.alloc hw3 (.cells #[.int .i64 who, .int .i64 q0, .int .i64 0] 61)).alloc (by simp; omega) (.cells #[.int .i64 who, .int .i64 q0, .int .i64 0] 61))
        clear HO3 HBD3 e0 e1 HBA3 HB3
        go_wp2_with (at_builtin; refine wpList_push_pt rfl (.tmp 78) (.tmp 80) rfl W.heap.size _ acc rfl HOA.out (w3.heap.size + 1) ((who : Int), q0, (0 : Int)) rfl HY.out hbb (by simp; omega) ?_; intro v' w5 hown5 hg5)
        have HB5 := Lib.hid (HB4.out.grown hg5 (by simp; omega) (fun q hq => (HOA.out.lt q hq).1))
        have HBA5 := Lib.hid (HBA4.out.grown hg5 (fun h => own_ne_box HOA.out HBA4.out (by decide) h.symm))
        have HO5 := Lib.hid hown5
        clear hown5 hg5
        go_roundg (o.length - (k + 1))
        case measure => have := HK.out; omega
        case rel => exact ⟨k + 1, _, _, rfl, by omega, by go_num, HBA5.out, HGN2.out, by simp; omega, HO5.out, by rw [HN.out, HST.out], HB5.out⟩
    · obtain rfl : k = o.length := by omega
      have HN := Lib.hid (show q = (acc, 0) by rw [HRUN.out, List.drop_length]; rfl)
      clear hb
      go_wp2_with fail
      go_ret2
      exact ⟨_, by rw [HN.out]; rfl, by rw [HN.out]; exact HO.out, HB.out⟩

theorem stepsE (A B : Option Addr) (c d : Nat) (l : List (List Do)) (o : List Int) (W : World) (h : PIn W A c l) (hr : Row W W.heap.size B (ints o)) (hm : o.length ≤ 1048576) :
    Calls Try.prog 21 #[.slice A l.length c, .slice B o.length d] W (StepsPost (stepsT l o) W) := by
  by_cases hp : progBad l = 0
  · rw [stepsT, if_pos hp]
    exact stepsE_ok A B c d l o W h hr hm hp
  · rw [stepsT, if_neg hp]
    exact stepsE_bad A B c d l o W h hp
end Go.Proofs.Ytcmkkfpcdebfkaa
