/-
  Package blob: held, Get, Let, Size.
-/
import Derived.Test.YtjblfkoepedhpaaStoreFault
import Derived.Test.YtjblfkoepedhpaaQueue
import Derived.RegionTactic
namespace Go.Proofs.Ytjblfkoepedhpaa
open Go.RowKit

abbrev bnil : BlobT := (⟨#[]⟩, 0)
/-- A store in memory of the call's own. -/
def Blobs (w : World) (base : Nat) (A : Option Addr) (c : Nat) (l : List BlobT) : Prop := OwnAt w base 134 2 A l.length c (flat blobC l)
theorem Blobs.row {w : World} {base : Nat} {A : Option Addr} {c : Nat} {l : List BlobT} (h : Blobs w base A c l) : Row w w.heap.size A (flat blobC l) := OwnAt.row h
theorem Blobs.set1 {w : World} {base g o c : Nat} {l : List BlobT} (h : Blobs w base (some ⟨g, o, none⟩) c l) {i : Nat} (hi : i < l.length) (m : Int) :
    Blobs (w.setCell ⟨g, o + i * 2 + 1, none⟩ (.int .i64 m)) base (some ⟨g, o, none⟩) c (l.set i ((l.getD i bnil).1, m)) := by
  have := OwnAt.set (j := i * 2 + 1) h (.int .i64 m)
  unfold Blobs
  rw [List.length_set, ← flat_set (j := 1) blobC_len l (.int .i64 m) (getD_some bnil hi) (by decide) ((l.getD i bnil).1, m) rfl, Nat.add_assoc]
  exact this
theorem Blobs.set0 {w : World} {base g o c : Nat} {l : List BlobT} (h : Blobs w base (some ⟨g, o, none⟩) c l) {i : Nat} (hi : i < l.length) (t : ByteArray) :
    Blobs (w.setCell ⟨g, o + i * 2, none⟩ (.string t)) base (some ⟨g, o, none⟩) c (l.set i (t, (l.getD i bnil).2)) := by
  have := OwnAt.set (j := i * 2 + 0) h (.string t)
  unfold Blobs
  rw [List.length_set, ← flat_set (j := 0) blobC_len l (.string t) (getD_some bnil hi) (by decide) (t, (l.getD i bnil).2) rfl]
  exact this

/-- Whether an entry is in use, what is wrong otherwise. -/
def heldE (l : List BlobT) (i : Int) : Int := if storeChk l ≠ 0 then storeChk l else if i < 0 ∨ (l.length : Int) ≤ i ∨ (l.getD i.toNat bnil).2 = 0 then 4 else 0
theorem heldE_bad {l : List BlobT} (i : Int) (h : storeChk l ≠ 0) : heldE l i = storeChk l := by unfold heldE; rw [if_pos h]
theorem heldE_none {l : List BlobT} {i : Int} (h : storeChk l = 0) (hi : i < 0 ∨ (l.length : Int) ≤ i ∨ (l.getD i.toNat bnil).2 = 0) : heldE l i = 4 := by unfold heldE; rw [if_neg (by simp [h]), if_pos hi]
theorem heldE_ok {l : List BlobT} {i : Int} (h : storeChk l = 0) (hi : ¬ (i < 0 ∨ (l.length : Int) ≤ i ∨ (l.getD i.toNat bnil).2 = 0)) : heldE l i = 0 := by unfold heldE; rw [if_neg (by simp [h]), if_neg hi]

set_option maxRecDepth 100000 in
set_option maxHeartbeats 1000000 in
theorem heldW_any (A : Option Addr) (c : Nat) (l : List BlobT) (i : Int) (w : World) (hr : Row w w.heap.size A (flat blobC l)) (hlc : l.length ≤ c) (hm : c ≤ maxLen) :
    Calls Try.prog 128 #[.slice A l.length c, .int .i64 i] w fun e w' => e = .returned (.int .i64 (heldE l i)) ∧ Below w.heap.size w w' := by
  have HC := Lib.hid (checkB_any A c l w hr hlc hm)
  by_cases h0 : storeChk l = 0
  · have hlen := (storeChk_ok h0).1
    have H0 := Lib.hid h0
    rw [h0] at HC
    clear h0
    by_cases h1 : i < 0
    · have d1 : decide (i < 0) = true := by simp; omega
      rw [heldE_none H0.out (.inl h1)]
      go_enter Try.func128, Try.ntmps128
      go_wp2_with fail
      refine HC.out.mono ?_
      rintro e w1 ⟨rfl, hb1⟩
      go_wp2_with fail
      go_ret
      exact ⟨rfl, hb1⟩
    have d1 : decide (i < 0) = false := by simp; omega
    obtain ⟨k, rfl⟩ := Int.eq_ofNat_of_zero_le (show 0 ≤ i by omega)
    by_cases h2 : l.length ≤ k
    · have d2 : decide ((l.length : Int) ≤ (k : Int)) = true := by simp; omega
      have d2' : decide (l.length ≤ k) = true := by simp; omega
      rw [heldE_none H0.out (.inr (.inl (by omega)))]
      go_enter Try.func128, Try.ntmps128
      go_wp2_with fail
      refine HC.out.mono ?_
      rintro e w1 ⟨rfl, hb1⟩
      go_wp2_with fail
      go_ret
      exact ⟨rfl, hb1⟩
    have d2 : decide ((l.length : Int) ≤ (k : Int)) = false := by simp; omega
    have d2' : decide (l.length ≤ k) = false := by simp; omega
    have hk1 : (k : Int) < (l.length : Int) := by omega
    have hk0 : (0 : Int) ≤ (k : Int) := by omega
    have HCELL := Lib.hid (fun w1 (h : Below w.heap.size w w1) => (hr.below h).blob (i := k) (by omega) bnil)
    have HE := Lib.hid (fun (h : (l.getD k bnil).2 = 0) => heldE_none (l := l) (i := k) H0.out (.inr (.inr h)))
    have HE' := Lib.hid (fun (h : ¬ (l.getD k bnil).2 = 0) => heldE_ok (l := l) (i := k) H0.out (by rw [Int.toNat_natCast]; omega))
    generalize heldE l k = res at *
    generalize l.getD k bnil = x at *
    by_cases hx : x.2 = 0
    · have b1 : (x.2 == 0) = true := by simp [hx]
      obtain rfl := HE.out hx
      clear hx HE HE'
      go_enter Try.func128, Try.ntmps128
      go_wp2_with fail
      refine HC.out.mono ?_
      rintro e w1 ⟨rfl, hb1⟩
      obtain ⟨b, o, rfl, _, hc0, hc1⟩ := HCELL.out w1 hb1
      go_wp2_with fail
      go_ret
      exact ⟨rfl, hb1⟩
    · have b1 : (x.2 == 0) = false := by simp [hx]
      obtain rfl := HE'.out hx
      clear hx HE HE'
      go_enter Try.func128, Try.ntmps128
      go_wp2_with fail
      refine HC.out.mono ?_
      rintro e w1 ⟨rfl, hb1⟩
      obtain ⟨b, o, rfl, _, hc0, hc1⟩ := HCELL.out w1 hb1
      go_wp2_with fail
      go_ret
      exact ⟨rfl, hb1⟩
  · rw [heldE_bad i h0]
    generalize storeChk l = r at *
    have b1 : (r != 0) = true := by simp; exact h0
    clear h0
    go_enter Try.func128, Try.ntmps128
    go_wp2_with fail
    refine HC.out.mono ?_
    rintro e w1 ⟨rfl, hb1⟩
    go_wp2_with fail
    go_ret
    exact ⟨rfl, hb1⟩

set_option maxRecDepth 100000 in
theorem get_bad (A : Option Addr) (c : Nat) (l : List BlobT) (i r : Int) (w : World) (hr : Row w w.heap.size A (flat blobC l)) (hlc : l.length ≤ c) (hm : c ≤ maxLen) (h : heldE l i = r) (h0 : r ≠ 0) :
    Calls Try.prog 92 #[.slice A l.length c, .int .i64 i] w fun e w' => e = .returned (.tuple #[.string ⟨#[]⟩, .int .i64 r]) ∧ Below w.heap.size w w' := by
  have HC := Lib.hid (heldW_any A c l i w hr hlc hm)
  rw [h] at HC
  have b1 : (r != 0) = true := by simp; exact h0
  clear h0 h
  go_enter Try.func92, Try.ntmps92
  go_wp2_with fail
  refine HC.out.mono ?_
  rintro e w1 ⟨rfl, hb1⟩
  go_wp2_with fail
  go_ret2
  exact ⟨rfl, hb1⟩
set_option maxRecDepth 100000 in
theorem get_ok (A : Option Addr) (c : Nat) (l : List BlobT) (k : Nat) (w : World) (hr : Row w w.heap.size A (flat blobC l)) (hlc : l.length ≤ c) (hm : c ≤ maxLen) (h : heldE l k = 0) (hk : k < l.length) :
    Calls Try.prog 92 #[.slice A l.length c, .int .i64 k] w fun e w' => e = .returned (.tuple #[.string (l.getD k bnil).1, .int .i64 0]) ∧ Below w.heap.size w w' := by
  have HC := Lib.hid (heldW_any A c l k w hr hlc hm)
  rw [h] at HC
  have HCELL := Lib.hid (fun w1 (h : Below w.heap.size w w1) => (hr.below h).blob (i := k) hk bnil)
  have hk1 : (k : Int) < (l.length : Int) := by omega
  have hk0 : (0 : Int) ≤ (k : Int) := by omega
  clear h
  generalize l.getD k bnil = x at *
  go_enter Try.func92, Try.ntmps92
  go_wp2_with fail
  refine HC.out.mono ?_
  rintro e w1 ⟨rfl, hb1⟩
  obtain ⟨b, o, rfl, _, hc0, hc1⟩ := HCELL.out w1 hb1
  go_wp2_with fail
  go_ret2
  exact ⟨rfl, hb1⟩

/-- An entry, once less. -/
def lessB (x : BlobT) : BlobT := if x.2 = 1 then bnil else (x.1, x.2 - 1)
/-- A store is handed back in memory of its own. -/
def LetPost (l : List BlobT) (gone : Bool) (w : World) (e : Ending) (w' : World) : Prop := ∃ A c, e = .returned (.tuple #[.slice A l.length c, .bool gone, .int .i64 0]) ∧ Row w' w'.heap.size A (flat blobC l) ∧ Below w.heap.size w w'

set_option maxRecDepth 100000 in
theorem let_bad (A : Option Addr) (c : Nat) (l : List BlobT) (i r : Int) (w : World) (hr : Row w w.heap.size A (flat blobC l)) (hlc : l.length ≤ c) (hm : c ≤ maxLen) (h : heldE l i = r) (h0 : r ≠ 0) :
    Calls Try.prog 93 #[.slice A l.length c, .int .i64 i] w fun e w' => e = .returned (.tuple #[.slice none 0 0, .bool false, .int .i64 r]) ∧ Below w.heap.size w w' := by
  have HC := Lib.hid (heldW_any A c l i w hr hlc hm)
  rw [h] at HC
  have b1 : (r != 0) = true := by simp; exact h0
  clear h0 h
  go_enter Try.func93, Try.ntmps93
  go_wp2_with fail
  refine HC.out.mono ?_
  rintro e w1 ⟨rfl, hb1⟩
  go_wp2_with fail
  go_ret3
  exact ⟨rfl, hb1⟩

set_option maxRecDepth 100000 in
set_option maxHeartbeats 1000000 in
theorem let_ok (A : Option Addr) (c : Nat) (l : List BlobT) (k : Nat) (w : World) (hr : Row w w.heap.size A (flat blobC l)) (hlc : l.length ≤ c) (hm : c ≤ maxLen) (hA : A = none → c = 0) (h : heldE l k = 0) (hk : k < l.length) (hl : l.length ≤ 60) (hx1 : 1 ≤ (l.getD k bnil).2) (hx2 : (l.getD k bnil).2 ≤ 1000) (y : BlobT) (gq : Bool) (hy : y = lessB (l.getD k bnil)) (hgq : gq = ((l.getD k bnil).2 == 1)) :
    Calls Try.prog 93 #[.slice A l.length c, .int .i64 k] w (LetPost (l.set k y) gq w) := by
  have HY := Lib.hid hy
  have HGQ := Lib.hid hgq
  clear hy hgq
  have HC := Lib.hid (heldW_any A c l k w hr hlc hm)
  rw [h] at HC
  have HCL := Lib.hid (fun w1 (h : Below w.heap.size w w1) => clone_blob A c l _ w1 (hr.below h) hA (by omega))
  have hk1 : (k : Int) < (l.length : Int) := by omega
  have hk0 : (0 : Int) ≤ (k : Int) := by omega
  clear h
  go_enter Try.func93, Try.ntmps93
  go_wp2_with fail
  refine HC.out.mono ?_
  rintro e w1 ⟨rfl, hb1⟩
  go_wp2_with fail
  refine (HCL.out w1 hb1).mono ?_
  rintro e w2 ⟨v, rfl, hown, hb2⟩
  obtain ⟨A2, c2, rfl, hq⟩ := OwnAt.of_own hown
  obtain ⟨g, o, rfl, _⟩ := OwnAt.some_of hq (by omega)
  have hq' : Blobs w2 w1.heap.size (some ⟨g, o, none⟩) c2 l := hq
  obtain ⟨b, o1, e1, _, hc0, hc1⟩ := hq'.row.blob hk bnil
  injection e1 with e1
  injection e1 with e1 e2
  subst e1 e2
  have f0 := OwnAt.frozen hq (o + k * 2)
  have f1 := OwnAt.frozen hq (o + k * 2 + 1)
  have hs1 := hq'.set1 hk ((l.getD k bnil).2 - 1)
  have hs2 := hs1.set0 (i := k) (by simpa using hk) ⟨#[]⟩
  rw [List.set_set] at hs2
  have hgd : (l.set k ((l.getD k bnil).1, (l.getD k bnil).2 - 1)).getD k bnil = ((l.getD k bnil).1, (l.getD k bnil).2 - 1) := by
    rw [List.getD_eq_getElem?_getD, List.getElem?_set]
    simp [hk]
  rw [hgd] at hs2
  have hb02 : Below w.heap.size w w2 := hb1.trans (hb2.mono hb1.size)
  have hgb := (OwnAt.lt hq).1
  have hgw : w.heap.size ≤ g := Nat.le_trans hb1.size hgb
  have HFIN := Lib.hid (fun wz (hz : Row wz wz.heap.size (some ⟨g, o, none⟩) (flat blobC (l.set k y))) (hb : Below w.heap.size w wz) => show LetPost (l.set k y) gq w (.returned (.tuple #[.slice (some ⟨g, o, none⟩) l.length c2, .bool gq, .int .i64 0])) wz from ⟨_, c2, by rw [List.length_set], hz, hb⟩)
  clear hown hq hgd hgb hr hA HC HCL hb1 hb2
  have HB1 := Lib.hid (hb02.setCell (p := ⟨g, o + k * 2 + 1, none⟩) hgw (.int .i64 ((l.getD k bnil).2 - 1)))
  have HB2 := Lib.hid (HB1.out.setCell (p := ⟨g, o + k * 2, none⟩) hgw (.string ⟨#[]⟩))
  generalize l.getD k bnil = x at *
  by_cases h1 : x.2 = 1
  · have b1 : (x.2 - 1 == 0) = true := by simp; omega
    obtain rfl : y = (⟨#[]⟩, x.2 - 1) := by rw [HY.out]; unfold lessB; rw [if_pos h1, show x.2 - 1 = 0 by omega]
    obtain rfl : gq = true := by rw [HGQ.out]; simp [h1]
    have HR2 := Lib.hid (Blobs.row hs2)
    clear h1 hs1 hs2 HY HGQ
    go_wp2_with fail
    go_quiet (fail)
    go_wp2_with fail
    go_ret3
    exact HFIN.out _ HR2.out (below_drewN HB2.out _)
  · have b1 : (x.2 - 1 == 0) = false := beq_eq_false_iff_ne.2 (by omega)
    obtain rfl : y = (x.1, x.2 - 1) := by rw [HY.out]; unfold lessB; rw [if_neg h1]
    obtain rfl : gq = false := by rw [HGQ.out]; simp [h1]
    have HR2 := Lib.hid (Blobs.row hs1)
    clear h1 hs1 hs2 HY HGQ
    go_wp2_with fail
    go_quiet (fail)
    go_wp2_with fail
    go_ret3
    exact HFIN.out _ HR2.out (below_drewN HB1.out _)

/-- What is held, told. -/
theorem held_drop (l : List BlobT) {k : Nat} (h : k < l.length) : heldN (l.drop k) = (if 0 < (l.getD k bnil).2 then 1 else 0) + heldN (l.drop (k + 1)) ∧ timesN (l.drop k) = (if 0 < (l.getD k bnil).2 then (l.getD k bnil).2 else 0) + timesN (l.drop (k + 1)) ∧ bytesN (l.drop k) = (if 0 < (l.getD k bnil).2 then ((l.getD k bnil).1.size : Int) else 0) + bytesN (l.drop (k + 1)) := by
  rw [drop_getD l bnil h]
  exact ⟨rfl, rfl, rfl⟩

set_option maxRecDepth 100000 in
theorem size_bad (A : Option Addr) (c : Nat) (l : List BlobT) (r : Int) (w : World) (hr : Row w w.heap.size A (flat blobC l)) (hlc : l.length ≤ c) (hm : c ≤ maxLen) (h : storeChk l = r) (h0 : r ≠ 0) :
    Calls Try.prog 94 #[.slice A l.length c] w fun e w' => e = .returned (.tuple #[.int .i64 0, .int .i64 0, .int .i64 0, .int .i64 r]) ∧ Below w.heap.size w w' := by
  have HC := Lib.hid (checkB_any A c l w hr hlc hm)
  rw [h] at HC
  have b1 : (r != 0) = true := by simp; exact h0
  clear h0 h
  go_enter Try.func94, Try.ntmps94
  go_wp2_with fail
  refine HC.out.mono ?_
  rintro e w1 ⟨rfl, hb1⟩
  go_wp2_with fail
  refine bodyPost_ret (v := .tuple #[.int .i64 0, .int .i64 0, .int .i64 0, .int .i64 r]) (by simp [results, Try.results94, go_sem]) rfl ?_
  exact ⟨rfl, hb1⟩

set_option maxRecDepth 100000 in
set_option maxHeartbeats 1000000 in
theorem size_ok (A : Option Addr) (c : Nat) (l : List BlobT) (w : World) (hr : Row w w.heap.size A (flat blobC l)) (hlc : l.length ≤ c) (hm : c ≤ maxLen) (h : storeChk l = 0) :
    Calls Try.prog 94 #[.slice A l.length c] w fun e w' => e = .returned (.tuple #[.int .i64 (heldN l), .int .i64 (timesN l), .int .i64 (bytesN l), .int .i64 0]) ∧ Below w.heap.size w w' := by
  have HC := Lib.hid (checkB_any A c l w hr hlc hm)
  rw [h] at HC
  obtain ⟨hl, hall⟩ := storeChk_ok h
  have hbd := held_bd l hall
  have HALL := Lib.hid hall
  clear h hall
  generalize hr1 : heldN l = H1
  generalize hr2 : timesN l = H2
  generalize hr3 : bytesN l = H3
  rw [hr1, hr2, hr3] at hbd
  have HR := Lib.hid (And.intro hr1 (And.intro hr2 hr3))
  clear hr1 hr2 hr3
  go_enter Try.func94, Try.ntmps94
  go_wp2_with fail
  refine HC.out.mono ?_
  rintro e w1 ⟨rfl, hb1⟩
  go_wp2_with fail
  go_loopg [7, 8, 9, 19] l.length (fun m v7 v8 v9 v19 wr => ∃ (k : Nat) (a b c : Int), k ≤ l.length ∧ m = l.length - k ∧ v19 = .int .i64 k ∧ v7 = .int .i64 a ∧ v8 = .int .i64 b ∧ v9 = .int .i64 c ∧ 0 ≤ a ∧ 0 ≤ b ∧ 0 ≤ c ∧ a + heldN (l.drop k) = H1 ∧ b + timesN (l.drop k) = H2 ∧ c + bytesN (l.drop k) = H3 ∧ Below w.heap.size w wr)
  case atStart =>
    obtain ⟨h1, h2, h3⟩ := HR.out
    exact ⟨0, 0, 0, 0, by omega, rfl, rfl, rfl, rfl, rfl, by omega, by omega, by omega, by simpa using h1, by simpa using h2, by simpa using h3, hb1⟩
  case round =>
    obtain ⟨k, a, b, c', hk, hmm, rfl, rfl, rfl, rfl, ha, hb, hc, e1, e2, e3, hbl⟩ := hrel
    have HM := Lib.hid hmm
    clear hmm
    by_cases hlt : k < l.length
    · have hbd2 := held_bd (l.drop (k + 1)) (fun x hx => HALL.out x (List.mem_of_mem_drop hx))
      obtain ⟨d1, d2, d3⟩ := held_drop l hlt
      have hx := HALL.out _ (getD_mem bnil hlt)
      obtain ⟨b0, o, rfl, _, hc0, hc1⟩ := (hr.below hbl).blob hlt bnil
      generalize l.getD k bnil = x at *
      rw [d1] at e1
      rw [d2] at e2
      rw [d3] at e3
      clear d1 d2 d3
      have hw1 : Below w.heap.size w (wr.alloc (.cells #[.string x.1, .int .i64 x.2] 134)) := hbl.alloc hbl.size _
      by_cases hp : 0 < x.2
      · rw [if_pos hp] at e1 e2 e3
        have E1 := Lib.hid e1
        have E2 := Lib.hid e2
        have E3 := Lib.hid e3
        have hw4 : IntKind.i64.wrap (a + 1) = a + 1 := IntWalk.i64_in _ (by omega)
        have hw5 : IntKind.i64.wrap (b + x.2) = b + x.2 := IntWalk.i64_in _ (by omega)
        have hw6 : IntKind.i64.wrap (c' + (x.1.size : Int)) = c' + (x.1.size : Int) := IntWalk.i64_in _ (by omega)
        clear e1 e2 e3
        go_wp2_with fail
        go_quiet (fail)
        go_wp2_with fail
        go_roundg (l.length - (k + 1))
        case measure => have := HM.out; omega
        case rel =>
          have := E1.out
          have := E2.out
          have := E3.out
          exact ⟨k + 1, a + 1, b + x.2, c' + (x.1.size : Int), by omega, rfl, by go_num, rfl, rfl, rfl, by omega, by omega, by omega, by omega, by omega, by omega, below_drewN hw1 _⟩
      · rw [if_neg hp] at e1 e2 e3
        have E1 := Lib.hid e1
        have E2 := Lib.hid e2
        have E3 := Lib.hid e3
        clear e1 e2 e3
        go_wp2_with fail
        go_roundg (l.length - (k + 1))
        case measure => have := HM.out; omega
        case rel =>
          have := E1.out
          have := E2.out
          have := E3.out
          exact ⟨k + 1, a, b, c', by omega, rfl, by go_num, rfl, rfl, rfl, ha, hb, hc, by omega, by omega, by omega, hw1⟩
    · rw [List.drop_eq_nil_of_le (by omega)] at e1 e2 e3
      simp only [heldN, timesN, bytesN, Int.add_zero] at e1 e2 e3
      subst e1 e2 e3
      go_wp2_with fail
      refine bodyPost_ret (v := .tuple #[.int .i64 a, .int .i64 b, .int .i64 c', .int .i64 0]) (by simp [results, Try.results94, go_sem]) rfl ?_
      exact ⟨rfl, hbl⟩
end Go.Proofs.Ytjblfkoepedhpaa
