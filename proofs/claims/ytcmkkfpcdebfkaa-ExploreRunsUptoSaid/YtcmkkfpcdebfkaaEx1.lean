/-
  Programs of package explore: rows of rows; what Check returns.
-/
import Derived.Test.YtcmkkfpcdebfkaaXdRow
import Derived.Test.YtcmkkfpcdebfkaaRdRow
import Derived.Test.YtcmkkfpcdebfkaaOnly
import Derived.IntWalk
import Derived.Outline
import Derived.Deep.LoopGhost
namespace Go.Proofs.Ytcmkkfpcdebfkaa
open Go.RowKit

abbrev Do := Int × Int × Int
def doC (x : Do) : List Value := [.int .i64 x.1, .int .i64 x.2.1, .int .i64 x.2.2]
/-- A row of rows of instructions. -/
structure PIn (w : World) (A : Option Addr) (c : Nat) (l : List (List Do)) : Prop where
  each : ∀ i, i < l.length → ∃ b o B d, A = some ⟨b, o, none⟩ ∧ b < w.heap.size ∧ w.cell? ⟨b, o + i, none⟩ = some (.slice B (l.getD i []).length d) ∧ Row w w.heap.size B (flat doC (l.getD i [])) ∧ (l.getD i []).length ≤ d ∧ d ≤ maxLen ∧ (B = none → d = 0)
  le : l.length ≤ c
  cap : c ≤ maxLen
  len : l.length ≤ 1048576
  sum : l.flatten.length ≤ 1048576
theorem PIn.below {w w' : World} {A : Option Addr} {c : Nat} {l : List (List Do)} (h : PIn w A c l) (hb : Below w.heap.size w w') : PIn w' A c l :=
  ⟨fun i hi => by
    obtain ⟨b, o, B, d, e, hlt, hc, hr, h1, h2, h3⟩ := h.each i hi
    exact ⟨b, o, B, d, e, Nat.lt_of_lt_of_le hlt hb.size, (hb.cell (p := ⟨b, o + i, none⟩) hlt).trans hc, (hr.below hb).more hb.size, h1, h2, h3⟩, h.le, h.cap, h.len, h.sum⟩

/-- What is wrong with one instruction. -/
def doBad (x : Do) : Int := if x.1 < 1 ∨ 4 < x.1 then 3 else if (x.2.1 < 0 ∨ 4 ≤ x.2.1) ∨ (x.2.2 < -1000 ∨ 1000 < x.2.2) then 1 else 0
def rowBad : List Do → Int
  | [] => 0
  | x :: l => if doBad x = 0 then rowBad l else doBad x
theorem rowBad_append (a b : List Do) : rowBad (a ++ b) = if rowBad a = 0 then rowBad b else rowBad a := by
  induction a with
  | nil => rfl
  | cons x a ih =>
    show (if doBad x = 0 then rowBad (a ++ b) else doBad x) = if (if doBad x = 0 then rowBad a else doBad x) = 0 then rowBad b else if doBad x = 0 then rowBad a else doBad x
    by_cases h : doBad x = 0
    · rw [if_pos h, if_pos h, ih]
    · rw [if_neg h, if_neg h, if_neg h]
theorem rowBad_snoc {p : List Do} {x : Do} (h : rowBad p = 0) : rowBad (p ++ [x]) = doBad x := by
  rw [rowBad_append, if_pos h]
  show (if doBad x = 0 then 0 else doBad x) = doBad x
  by_cases hx : doBad x = 0
  · rw [if_pos hx, hx]
  · rw [if_neg hx]
theorem rowBad_at {l : List (List Do)} {k j : Nat} (hk : k < l.length) (hj : j < (l.getD k []).length) (h : rowBad ((l.take k).flatten ++ (l.getD k []).take j) = 0) (hx : doBad ((l.getD k []).getD j (0, 0, 0)) ≠ 0) :
    rowBad l.flatten = doBad ((l.getD k []).getD j (0, 0, 0)) := by
  have e1 : l.flatten = ((l.take k).flatten ++ (l.getD k []).take (j + 1)) ++ ((l.getD k []).drop (j + 1) ++ (l.drop (k + 1)).flatten) := by
    have h1 : l.getD k [] = l[k] := by simp [List.getD_eq_getElem?_getD, hk]
    have h2 := List.take_append_drop (j + 1) (l.getD k [])
    have h3 : l = l.take k ++ l[k] :: l.drop (k + 1) := by simp
    calc l.flatten = (l.take k ++ l[k] :: l.drop (k + 1)).flatten := by rw [← h3]
      _ = (l.take k).flatten ++ (l.getD k [] ++ (l.drop (k + 1)).flatten) := by rw [h1, List.flatten_append, List.flatten_cons]
      _ = (l.take k).flatten ++ (((l.getD k []).take (j + 1) ++ (l.getD k []).drop (j + 1)) ++ (l.drop (k + 1)).flatten) := by rw [h2]
      _ = _ := by simp only [List.append_assoc]
  have e2 := rowBad_snoc (x := (l.getD k []).getD j (0, 0, 0)) h
  rw [List.append_assoc, ← take_getD _ _ hj] at e2
  rw [e1, rowBad_append, e2, if_neg hx]
def progBad (l : List (List Do)) : Int := if 4 < l.length ∨ 12 < l.flatten.length then 2 else rowBad l.flatten

theorem flatten_take_succ (l : List (List Do)) {k : Nat} (hk : k < l.length) : (l.take (k + 1)).flatten = (l.take k).flatten ++ l.getD k [] := by
  rw [take_getD l [] hk]
  simp
theorem flatten_take_le (l : List (List Do)) (k : Nat) : (l.take k).flatten.length ≤ l.flatten.length := by
  have h := congrArg (fun z => z.flatten.length) (List.take_append_drop k l)
  simp only [List.flatten_append, List.length_append] at h
  omega
theorem flatten_row_le (l : List (List Do)) {k : Nat} (hk : k < l.length) : (l.take k).flatten.length + (l.getD k []).length ≤ l.flatten.length := by
  have h := flatten_take_le l (k + 1)
  rw [flatten_take_succ l hk, List.length_append] at h
  exact h

set_option maxRecDepth 100000 in
set_option maxHeartbeats 4000000 in
theorem checkE (A : Option Addr) (c : Nat) (l : List (List Do)) (W : World) (h : PIn W A c l) :
    Calls Try.prog 23 #[.slice A l.length c] W fun e w' => e = .returned (.int .i64 (progBad l)) ∧ Below W.heap.size W w' := by
  have HP := Lib.hid h
  have hlen := h.len
  have hsum := h.sum
  clear h
  obtain ⟨pb, hpb⟩ : ∃ pb, progBad l = pb := ⟨_, rfl⟩
  rw [hpb]
  have HPB := Lib.hid hpb
  clear hpb
  go_enter Try.func23, Try.ntmps23
  go_wp2_with fail
  go_loopg [3, 12] l.length (fun gk v i wr => ∃ k : Nat, gk = l.length - k ∧ k ≤ l.length ∧ i = .int .i64 k ∧ v = .int .i64 ((l.take k).flatten.length : Int) ∧ Below W.heap.size W wr)
  case atStart => exact ⟨0, by omega, by omega, rfl, rfl, Below.refl _ _⟩
  case round =>
    obtain ⟨k, hgk, hk, rfl, rfl, hb⟩ := hrel
    have HK := Lib.hid hgk
    have HB := Lib.hid hb
    clear hgk
    have hts := flatten_take_le l k
    by_cases hlt : k < l.length
    · obtain ⟨b, o, B, d, rfl, hbl, hcell, hrow, hd1, hd2, hd3⟩ := (HP.out.below hb).each k hlt
      have hrl := flatten_row_le l hlt
      have HS := Lib.hid (show (l.take (k + 1)).flatten.length = (l.take k).flatten.length + (l.getD k []).length by rw [flatten_take_succ l hlt, List.length_append])
      clear hrow hb
      generalize (l.take k).flatten.length = t at *
      generalize (l.getD k []).length = m at *
      go_wp2_with fail
      go_roundg (l.length - (k + 1))
      case measure => have := HK.out; omega
      case rel => exact ⟨k + 1, rfl, by omega, by go_num, by rw [HS.out]; go_num, HB.out⟩
    · obtain rfl : k = l.length := by omega
      rw [List.take_length] at hts ⊢
      clear hb
      by_cases h4 : 4 < l.length
      · have d1 : decide ((4 : Int) < (l.length : Int)) = true := decide_eq_true (by omega)
        have d2 : decide (4 < l.length) = true := decide_eq_true h4
        have HE := Lib.hid (show pb = 2 by rw [← HPB.out, progBad, if_pos (.inl h4)])
        clear h4
        go_wp2_with fail
        go_ret
        exact ⟨by rw [HE.out]; rfl, HB.out⟩
      have d1 : decide ((4 : Int) < (l.length : Int)) = false := decide_eq_false (by omega)
      have d2 : decide (4 < l.length) = false := decide_eq_false h4
      by_cases h12 : 12 < l.flatten.length
      · have d3 : decide ((12 : Int) < (l.flatten.length : Int)) = true := decide_eq_true (by omega)
        have d4 : decide (12 < l.flatten.length) = true := decide_eq_true h12
        have HE := Lib.hid (show pb = 2 by rw [← HPB.out, progBad, if_pos (.inr h12)])
        generalize l.flatten.length = m at *
        clear h12
        go_wp2_with fail
        go_ret
        exact ⟨by rw [HE.out]; rfl, HB.out⟩
      have d3 : decide ((12 : Int) < (l.flatten.length : Int)) = false := decide_eq_false (by omega)
      have d4 : decide (12 < l.flatten.length) = false := decide_eq_false h12
      have HM := Lib.hid (show ∀ k, k ≤ l.length → ((l.take k).flatten.length ≤ 12) from fun k _ => by have := flatten_take_le l k; omega)
      have HR := Lib.hid (show ∀ k, k < l.length → ((l.getD k []).length ≤ 12) from fun k hk => by have := flatten_row_le l hk; omega)
      have HBAD := Lib.hid (show pb = rowBad l.flatten by rw [← HPB.out, progBad, if_neg (by omega)])
      generalize l.flatten.length = m at *
      clear h12
      go_wp2_with fail
      go_loopg [30] l.length (fun gk i wr => ∃ k : Nat, gk = l.length - k ∧ k ≤ l.length ∧ i = .int .i64 k ∧ rowBad (l.take k).flatten = 0 ∧ Below W.heap.size W wr)
      case atStart => exact ⟨0, by omega, by omega, rfl, rfl, HB.out⟩
      case round =>
        clear HB
        obtain ⟨k, hgk, hk, rfl, h0, hb⟩ := hrel
        have HK := Lib.hid hgk
        have HB := Lib.hid hb
        have H0 := Lib.hid h0
        clear hgk h0
        by_cases hlt : k < l.length
        · obtain ⟨b, o, B, d, rfl, hbl, hcell, hrow, hd1, hd2, hd3⟩ := (HP.out.below hb).each k hlt
          have hr12 := HR.out k hlt
          have HROW := Lib.hid hrow
          have HS := Lib.hid (flatten_take_succ l hlt)
          have hbs := hb.size
          clear hrow hb
          obtain ⟨row, hrw⟩ : ∃ row, l.getD k [] = row := ⟨_, rfl⟩
          have HGR := Lib.hid hrw
          rw [hrw] at hcell HROW HS hr12 hd1
          clear hrw
          go_wp2_with fail
          obtain ⟨wo, hwo⟩ : ∃ wo, wo = wr := ⟨_, rfl⟩
          subst hwo
          go_loopg [36] row.length (fun gk i wq => ∃ j : Nat, gk = row.length - j ∧ j ≤ row.length ∧ i = .int .i64 j ∧ rowBad ((l.take k).flatten ++ row.take j) = 0 ∧ Below wo.heap.size wo wq)
          case atStart => exact ⟨0, by omega, by omega, rfl, by simpa using H0.out, Below.refl _ _⟩
          case round =>
            obtain ⟨j, hgj, hj, rfl, hj0, hbq⟩ := hrel
            have HJ := Lib.hid hgj
            have HJ0 := Lib.hid hj0
            clear hgj hj0
            by_cases hjl : j < row.length
            · obtain ⟨b2, o2, rfl, hb2, hc0, hc1, hc2⟩ := (Row.xd (HROW.out.below hbq) hjl (0, 0, 0))
              have HSN := Lib.hid (show rowBad ((l.take k).flatten ++ row.take (j + 1)) = doBad (row.getD j (0, 0, 0)) by rw [take_getD row (0, 0, 0) hjl, ← List.append_assoc, rowBad_snoc HJ0.out])
              have HAT := Lib.hid (fun hx => rowBad_at hlt (by rw [HGR.out]; exact hjl) (by rw [HGR.out]; exact HJ0.out) (by rw [HGR.out]; exact hx))
              rw [HGR.out] at HAT
              generalize row.getD j (0, 0, 0) = y at *
              obtain ⟨yk, yc, yb⟩ := y
              dsimp only at hc0 hc1 hc2
              have HBQ := Lib.hid (HB.out.trans (hbq.mono hbs))
              have HBQ2 := Lib.hid hbq
              have hbqs := hbq.size
              clear hbq
              by_cases c1 : yk < 1
              · have q0 : decide (yk < 1) = true := decide_eq_true c1
                have HD := Lib.hid (show doBad (yk, yc, yb) = 3 by unfold doBad; dsimp only; rw [if_pos (by omega)])
                have HE := Lib.hid (show pb = 3 by rw [HBAD.out, ← HD.out]; exact HAT.out (by rw [HD.out]; decide))
                clear c1
                go_wp2_with fail
                go_ret
                exact ⟨by rw [HE.out]; rfl, HBQ.out.alloc HBQ.out.size _⟩
              have q0 : decide (yk < 1) = false := decide_eq_false c1
              by_cases c2 : 4 < yk
              · have q1 : decide (4 < yk) = true := decide_eq_true c2
                have HD := Lib.hid (show doBad (yk, yc, yb) = 3 by unfold doBad; dsimp only; rw [if_pos (by omega)])
                have HE := Lib.hid (show pb = 3 by rw [HBAD.out, ← HD.out]; exact HAT.out (by rw [HD.out]; decide))
                clear c1
                clear c2
                go_wp2_with fail
                go_ret
                exact ⟨by rw [HE.out]; rfl, HBQ.out.alloc HBQ.out.size _⟩
              have q1 : decide (4 < yk) = false := decide_eq_false c2
              by_cases c3 : yc < 0
              · have q2 : decide (yc < 0) = true := decide_eq_true c3
                have HD := Lib.hid (show doBad (yk, yc, yb) = 1 by unfold doBad; dsimp only; rw [if_neg (by omega), if_pos (by omega)])
                have HE := Lib.hid (show pb = 1 by rw [HBAD.out, ← HD.out]; exact HAT.out (by rw [HD.out]; decide))
                clear c1
                clear c2
                clear c3
                go_wp2_with fail
                go_ret
                exact ⟨by rw [HE.out]; rfl, HBQ.out.alloc HBQ.out.size _⟩
              have q2 : decide (yc < 0) = false := decide_eq_false c3
              by_cases c4 : 4 ≤ yc
              · have q3 : decide (4 ≤ yc) = true := decide_eq_true c4
                have HD := Lib.hid (show doBad (yk, yc, yb) = 1 by unfold doBad; dsimp only; rw [if_neg (by omega), if_pos (by omega)])
                have HE := Lib.hid (show pb = 1 by rw [HBAD.out, ← HD.out]; exact HAT.out (by rw [HD.out]; decide))
                clear c1
                clear c2
                clear c3
                clear c4
                go_wp2_with fail
                go_ret
                exact ⟨by rw [HE.out]; rfl, HBQ.out.alloc HBQ.out.size _⟩
              have q3 : decide (4 ≤ yc) = false := decide_eq_false c4
              by_cases c5 : yb < -1000
              · have q4 : decide (yb < -1000) = true := decide_eq_true c5
                have HD := Lib.hid (show doBad (yk, yc, yb) = 1 by unfold doBad; dsimp only; rw [if_neg (by omega), if_pos (by omega)])
                have HE := Lib.hid (show pb = 1 by rw [HBAD.out, ← HD.out]; exact HAT.out (by rw [HD.out]; decide))
                clear c1
                clear c2
                clear c3
                clear c4
                clear c5
                go_wp2_with fail
                go_ret
                exact ⟨by rw [HE.out]; rfl, HBQ.out.alloc HBQ.out.size _⟩
              have q4 : decide (yb < -1000) = false := decide_eq_false c5
              by_cases c6 : 1000 < yb
              · have q5 : decide (1000 < yb) = true := decide_eq_true c6
                have HD := Lib.hid (show doBad (yk, yc, yb) = 1 by unfold doBad; dsimp only; rw [if_neg (by omega), if_pos (by omega)])
                have HE := Lib.hid (show pb = 1 by rw [HBAD.out, ← HD.out]; exact HAT.out (by rw [HD.out]; decide))
                clear c1
                clear c2
                clear c3
                clear c4
                clear c5
                clear c6
                go_wp2_with fail
                go_ret
                exact ⟨by rw [HE.out]; rfl, HBQ.out.alloc HBQ.out.size _⟩
              have q5 : decide (1000 < yb) = false := decide_eq_false c6
              have HD := Lib.hid (show doBad (yk, yc, yb) = 0 by unfold doBad; dsimp only; rw [if_neg (by omega), if_neg (by omega)])
              clear c1 c2 c3 c4 c5 c6
              go_wp2_with fail
              go_roundg (row.length - (j + 1))
              case measure => have := HJ.out; omega
              case rel => exact ⟨j + 1, rfl, by omega, by go_num, by rw [HSN.out, HD.out], HBQ2.out.alloc hbqs _⟩
            · obtain rfl : j = row.length := by omega
              have HBQ := Lib.hid (HB.out.trans (hbq.mono hbs))
              clear hbq
              go_wp2_with fail
              go_roundg (l.length - (k + 1))
              case measure => have := HK.out; omega
              case rel => exact ⟨k + 1, rfl, by omega, by go_num, by rw [HS.out, ← List.take_length (l := row)]; exact HJ0.out, HBQ.out⟩
        · obtain rfl : k = l.length := by omega
          have HE := Lib.hid (show pb = 0 by rw [HBAD.out, ← H0.out, List.take_length])
          clear hb
          go_wp2_with fail
          go_ret
          exact ⟨by rw [HE.out]; rfl, HB.out⟩
end Go.Proofs.Ytcmkkfpcdebfkaa
