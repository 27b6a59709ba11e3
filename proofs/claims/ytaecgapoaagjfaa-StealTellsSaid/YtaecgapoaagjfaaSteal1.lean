/-
  Lines: whether they are right, by both.
-/
import Derived.Test.YtaecgapoaagjfaaLnMk
namespace Go.Proofs.Ytaecgapoaagjfaa
open Go.RowKit Go.Maps

/-- One line's tasks behind those seen: none, if one was there. -/
def lineF (seen : List Int) : List Int → Option (List Int)
  | [] => some seen
  | t :: ts => if seen.contains t = true then none else lineF (seen ++ [t]) ts
def linesF (seen : List Int) : List (List Int) → Int
  | [] => 0
  | x :: xs => if 100 < seen.length + x.length then 2 else match lineF seen x with
    | none => 5
    | some s => linesF s xs
def contF (seen ts : List Int) (xs : List (List Int)) : Int := match lineF seen ts with
  | none => 5
  | some s => linesF s xs
theorem contF_nil (seen : List Int) (xs : List (List Int)) : contF seen [] xs = linesF seen xs := rfl
theorem contF_cons (seen : List Int) (t : Int) (ts : List Int) (xs : List (List Int)) : contF seen (t :: ts) xs = if seen.contains t = true then 5 else contF (seen ++ [t]) ts xs := by
  unfold contF
  rw [lineF]
  by_cases h : seen.contains t = true
  · rw [if_pos h, if_pos h]
  · rw [if_neg h, if_neg h]
theorem linesF_cons (seen x : List Int) (xs : List (List Int)) : linesF seen (x :: xs) = if 100 < seen.length + x.length then 2 else contF seen x xs := by rw [linesF]; rfl
def linesFault (vs : List (List Int)) : Int := if vs.length < 1 ∨ 8 < vs.length then 1 else linesF [] vs

theorem in_any (n a b : Int) (w : World) :
    Calls Try.prog 27 #[.int .i64 n, .int .i64 a, .int .i64 b] w fun e w' => e = .returned (.bool (decide (a ≤ n ∧ n ≤ b))) ∧ w = w' := by
  by_cases h1 : a ≤ n
  · have e1 : decide (a ≤ n) = true := decide_eq_true (by omega)
    rw [show decide (a ≤ n ∧ n ≤ b) = decide (n ≤ b) by simp [h1]]
    go_enter Try.func27, Try.ntmps27
    go_wp2_with fail
    go_ret
    exact ⟨rfl, rfl⟩
  · have e1 : decide (a ≤ n) = false := decide_eq_false (by omega)
    rw [show decide (a ≤ n ∧ n ≤ b) = false by simp [h1]]
    clear h1
    go_enter Try.func27, Try.ntmps27
    go_wp2_with fail
    go_ret
    exact ⟨rfl, rfl⟩

def intL (x : Int) : Lit := .int .i64 x
theorem intL_inj (x y : Int) (h : intL x = intL y) : x = y := by unfold intL at h; injection h
theorem intL_key (x : Int) : WideAt.IsKeyLit (intL x) := by unfold intL; simp [WideAt.IsKeyLit]
theorem int_key {x : Int} (h : I64 x) : keyOf Try.prog 3 (.int .i64 x) = some (intL x) := keyOf_int_mk Try.underlying3 (by simpa [I64, Lit.wf, IntKind.min, IntKind.max, IntKind.signed, IntKind.bits] using h)
theorem ints_keyed : Keyed Try.prog 3 := int_keyed Try.underlying3
theorem zero_boolS (w : World) : (zeroValue 4).run Try.prog w = .ok (.bool false) w := by kernel_rfl
abbrev IntSet (w : World) (b n : Nat) (keys : List Int) : Prop := SetB intL Try.prog 3 4 w b n keys

/-- Line k's cell, and what it reads as. -/
theorem lnRow.at {w : World} {S : Nat → Prop} {A : Option Addr} {c : Nat} {l : List BC} {vs : List (List Int)} (h : lnRow w S 0 A c l vs) {k : Nat} (hk : k < l.length) :
    ∃ b o, A = some ⟨b, o, none⟩ ∧ b < w.heap.size ∧ w.cell? ⟨b, o + k, none⟩ = some (.slice (l.getD k bc0).A (vs.getD k []).length (l.getD k bc0).cap) ∧ IIn w S 0 (l.getD k bc0) (vs.getD k []) := by
  obtain ⟨b, o, e, hb, hc⟩ := h.2.1.all.ln hk bc0
  have hi := h.2.2.1 k hk
  rw [Nat.mul_one, hi.1] at hc
  exact ⟨b, o, e, hb, hc, hi⟩

set_option maxRecDepth 100000 in
set_option maxHeartbeats 2000000 in
theorem checkS_any (A : Option Addr) (c : Nat) (l : List BC) (vs : List (List Int)) (S : Nat → Prop) (w : World) (h : lnRow w S 0 A c l vs) :
    Calls Try.prog 139 #[.slice A l.length c] w fun e w' => e = .returned (.int .i64 (linesFault vs)) ∧ Below w.heap.size w w' := by
  have hmk := @run_makeMap Try.prog
  have hlv := h.1
  unfold linesFault
  rw [← hlv]
  have hcm := h.2.2.2.2.1
  have hlc := h.2.2.2.1
  unfold maxLen at hcm
  have HH := Lib.hid h.all
  by_cases h1 : l.length < 1
  · rw [if_pos (.inl h1)]
    have d1 : decide ((l.length : Int) < 1) = true := decide_eq_true (by omega)
    have d1' : decide (l.length < 1) = true := decide_eq_true (by omega)
    clear h hlv
    go_enter Try.func139, Try.ntmps139
    go_wp2_with fail
    go_ret
    exact ⟨rfl, Below.refl _ _⟩
  have d1 : decide ((l.length : Int) < 1) = false := decide_eq_false (by omega)
  have d1' : decide (l.length < 1) = false := decide_eq_false (by omega)
  by_cases h8 : 8 < l.length
  · rw [if_pos (.inr h8)]
    have d2 : decide ((8 : Int) < (l.length : Int)) = true := decide_eq_true (by omega)
    have d2' : decide (8 < l.length) = true := decide_eq_true (by omega)
    clear h hlv
    go_enter Try.func139, Try.ntmps139
    go_wp2_with fail
    go_ret
    exact ⟨rfl, Below.refl _ _⟩
  have d2 : decide ((8 : Int) < (l.length : Int)) = false := decide_eq_false (by omega)
  have d2' : decide (8 < l.length) = false := decide_eq_false (by omega)
  rw [if_neg (by omega)]
  generalize hres : linesF [] vs = res
  have HRES := Lib.hid hres
  have HLV := Lib.hid hlv
  have HS0 := Lib.hid (SetB.made (f := intL) (P := Try.prog) (k := 3) (e := 4) w)
  have HB0 := Lib.hid (show Below w.heap.size w (w.alloc (.map #[] 0)) from (Below.refl _ _).alloc (Nat.le_refl _) _)
  have hln8 : l.length ≤ 8 := by omega
  clear h hlv hres
  go_enter Try.func139, Try.ntmps139
  go_wp2_with fail
  clear hmk
  go_loopg [4, 20] l.length (fun gk t i wr => ∃ (k n : Nat) (seen : List Int), gk = l.length - k ∧ k ≤ l.length ∧ n = seen.length ∧ n ≤ 100 ∧ t = .int .i64 n ∧ i = .int .i64 k ∧ res = linesF seen (vs.drop k) ∧ IntSet wr w.heap.size n seen ∧ Below w.heap.size w wr)
  case atStart => exact ⟨0, 0, [], by omega, by omega, rfl, by omega, rfl, rfl, HRES.out.symm, HS0.out, HB0.out⟩
  case round =>
    obtain ⟨k, n, seen, hgk, hk, hns, hn100, rfl, rfl, hR, hset, hb⟩ := hrel
    obtain ⟨wo, hwo⟩ : ∃ wo, wo = wr := ⟨_, rfl⟩
    subst hwo
    have HK := Lib.hid hgk
    have HR := Lib.hid hR
    have HNS := Lib.hid hns
    have HSET := Lib.hid hset
    have HB := Lib.hid hb
    have hbs := hb.size
    clear hgk hR hns hset hb HS0 HB0
    by_cases hlt : k < l.length
    · obtain ⟨b, o, rfl, hbl, hc, hi⟩ := (HH.out.below HB.out fun _ h => h).at hlt
      have HDR := Lib.hid (show res = linesF seen (vs.getD k [] :: vs.drop (k + 1)) by rw [HR.out, drop_getD vs [] (by rw [← HLV.out]; exact hlt)])
      have hml : (vs.getD k []).length ≤ 17592186044416 := hi.2.2.2.2.2.2
      have HI := Lib.hid hi
      generalize vs.getD k [] = xs at *
      generalize l.getD k bc0 = x at *
      obtain ⟨XA, XL, XC⟩ := x
      dsimp only at hc
      clear hi
      by_cases hlg : 100 < n + xs.length
      · have HEND := Lib.hid (show res = 2 by rw [HDR.out, linesF_cons, if_pos (by rw [← HNS.out]; exact hlg)])
        have e1 : decide ((100 : Int) < (n : Int) + (xs.length : Int)) = true := decide_eq_true (by omega)
        have e1' : decide (100 < n + xs.length) = true := decide_eq_true (by omega)
        go_wp2_with fail
        go_ret
        exact ⟨by rw [HEND.out]; rfl, HB.out⟩
      · have HC0 := Lib.hid (show res = contF seen xs (vs.drop (k + 1)) by rw [HDR.out, linesF_cons, if_neg (by rw [← HNS.out]; exact hlg)])
        have e1 : decide ((100 : Int) < (n : Int) + (xs.length : Int)) = false := decide_eq_false (by omega)
        have e1' : decide (100 < n + xs.length) = false := decide_eq_false (by omega)
        go_wp2_with fail
        go_loopg [32] xs.length (fun gj i wj => ∃ (j n' : Nat) (seen' : List Int), gj = xs.length - j ∧ j ≤ xs.length ∧ n' = n + j ∧ n' = seen'.length ∧ i = .int .i64 j ∧ res = contF seen' (xs.drop j) (vs.drop (k + 1)) ∧ IntSet wj w.heap.size n' seen' ∧ Below w.heap.size w wj)
        case atStart => exact ⟨0, n, seen, by omega, by omega, rfl, HNS.out, rfl, HC0.out, HSET.out, HB.out⟩
        case round =>
          obtain ⟨j, n', seen', hgj, hj, hn', hns', rfl, hR', hset', hb'⟩ := hrel
          have HKJ := Lib.hid hgj
          have HR' := Lib.hid hR'
          have HNS' := Lib.hid hns'
          have HN' := Lib.hid hn'
          have HSET' := Lib.hid hset'
          have HB' := Lib.hid hb'
          have hbs' := hb'.size
          have hn'100 : n' ≤ 100 := by omega
          clear hgj hR' hns' hn' hset' hb'
          by_cases hlj : j < xs.length
          · have hIj := HI.out.keep (w' := wr) (S' := (· < w.heap.size)) (fun p hp => (HB'.out.cell hp).trans (HB.out.cell hp).symm) fun _ h => h
            obtain ⟨b2, o2, hA2, _, hc2⟩ := hIj.row.int hlj
            have hx64 : I64 (xs.getD j 0) := I64.getD hIj.2.2.2.2.2.1 j
            have HDJ := Lib.hid (show res = contF seen' (xs.getD j 0 :: xs.drop (j + 1)) (vs.drop (k + 1)) by rw [HR'.out, drop_getD xs 0 hlj])
            generalize xs.getD j 0 = t at *
            have hkey := int_key hx64
            have hlk := HSET'.out.look ints_keyed Try.underlying316 Try.underlying4 (zero_boolS _) hkey
            have hA2' : XA = some ⟨b2, o2, none⟩ := hA2
            subst hA2'
            cases hseen : seen'.contains t with
            | true =>
              have HEND := Lib.hid (show res = 5 by rw [HDJ.out, contF_cons, if_pos hseen])
              rw [hseen] at hlk
              clear hseen hkey
              go_wp2_with fail
              go_ret
              exact ⟨by rw [HEND.out]; rfl, HB'.out⟩
            | false =>
              obtain ⟨w2, hup, hset2, hg2⟩ := HSET'.out.put ints_keyed Try.underlying316 Try.underlying4 (by unfold maxLen; omega) intL_inj intL_key hkey
              have HW2 := Lib.hid (show Below w.heap.size w w2 from HB'.out.grown hg2 hbs' (fun q hq => by simp at hq; omega))
              have HEND := Lib.hid (show res = contF (seen' ++ [t]) (xs.drop (j + 1)) (vs.drop (k + 1)) by rw [HDJ.out, contF_cons, hseen]; rfl)
              have HS2 := Lib.hid hset2
              rw [hseen] at hlk
              clear hseen hset2 hg2 hkey
              go_wp2_with fail
              go_roundg (xs.length - (j + 1))
              case measure => have := HKJ.out; omega
              case rel => exact ⟨j + 1, n' + 1, _, rfl, by omega, by have := HN'.out; omega, by rw [List.length_append, ← HNS'.out]; rfl, by go_num, HEND.out, HS2.out, HW2.out⟩
          · obtain rfl : j = xs.length := by omega
            have HEND := Lib.hid (show res = linesF seen' (vs.drop (k + 1)) by rw [HR'.out, List.drop_length, contF_nil])
            go_wp2_with fail
            go_roundg (l.length - (k + 1))
            case measure => have := HK.out; omega
            case rel => exact ⟨k + 1, n', seen', rfl, by omega, HNS'.out, hn'100, by rw [HN'.out]; go_num, by go_num, HEND.out, HSET'.out, HB'.out⟩
    · have HEND := Lib.hid (show res = 0 by rw [HR.out, List.drop_of_length_le (by rw [← HLV.out]; omega)]; rfl)
      go_wp2_with fail
      go_ret
      exact ⟨by rw [HEND.out]; rfl, HB.out⟩
end Go.Proofs.Ytaecgapoaagjfaa
