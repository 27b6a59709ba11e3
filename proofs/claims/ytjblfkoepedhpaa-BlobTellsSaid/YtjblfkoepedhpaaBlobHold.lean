/-
  Package blob: Hold; the reference's StoreWith.
-/
import Derived.Test.YtjblfkoepedhpaaBlobOps
import Derived.Test.YtjblfkoepedhpaaPlanned
import Derived.Deep.DeepCutAuto
import Derived.Deep.CutBlock
namespace Go.Proofs.Ytjblfkoepedhpaa
open Go.RowKit

/-- Where a text is to be held: where it stands; at the first free entry; behind all. -/
def holdAt (l : List BlobT) (t : ByteArray) : Nat := if 0 ≤ findT l t then (findT l t).toNat else if 0 ≤ idxAt isFree l 0 then (idxAt isFree l 0).toNat else l.length
theorem holdAt_le (l : List BlobT) (t : ByteArray) : holdAt l t ≤ l.length := by
  unfold holdAt findT
  rcases idxAt_cases (isT t) bnil l 0 with ⟨h, _⟩ | ⟨i, hi, h, _⟩
  · simp only [Int.ofNat_zero, Int.natCast_zero] at h
    rw [h, if_neg (by omega)]
    rcases idxAt_cases isFree bnil l 0 with ⟨h2, _⟩ | ⟨i, hi, h2, _⟩
    · simp only [Int.natCast_zero] at h2
      rw [h2, if_neg (by omega)]
      omega
    · simp only [Int.natCast_zero] at h2
      rw [h2]
      split <;> omega
  · simp only [Int.natCast_zero] at h
    rw [h]
    split <;> omega
/-- A store with another entry at a place. -/
def withB (l : List BlobT) (k : Nat) (b : BlobT) : List BlobT := if k < l.length then l.set k b else l ++ [b]
/-- A store is handed back in memory of its own, with a place. -/
def HoldPost (l : List BlobT) (k : Nat) (w : World) (e : Ending) (w' : World) : Prop := ∃ A c, e = .returned (.tuple #[.slice A l.length c, .int .i64 k, .int .i64 0]) ∧ Row w' w'.heap.size A (flat blobC l) ∧ Below w.heap.size w w'
def StorePost (l : List BlobT) (w : World) (e : Ending) (w' : World) : Prop := ∃ A c, e = .returned (.slice A l.length c) ∧ Row w' w'.heap.size A (flat blobC l) ∧ l.length ≤ c ∧ c ≤ maxLen ∧ Below w.heap.size w w'

set_option maxRecDepth 100000 in
theorem hold_bad (A : Option Addr) (c : Nat) (l : List BlobT) (t : ByteArray) (r : Int) (w : World) (hr : Row w w.heap.size A (flat blobC l)) (hlc : l.length ≤ c) (hm : c ≤ maxLen) (h : storeChk l = r) (h0 : r ≠ 0) :
    Calls Try.prog 91 #[.slice A l.length c, .string t] w fun e w' => e = .returned (.tuple #[.slice none 0 0, .int .i64 0, .int .i64 r]) ∧ Below w.heap.size w w' := by
  have HC := Lib.hid (checkB_any A c l w hr hlc hm)
  rw [h] at HC
  have b1 : (r != 0) = true := by simp; exact h0
  clear h0 h
  go_enter Try.func91, Try.ntmps91
  go_wp2_with fail
  refine HC.out.mono ?_
  rintro e w1 ⟨rfl, hb1⟩
  go_wp2_with fail
  go_ret3
  exact ⟨rfl, hb1⟩
set_option maxRecDepth 100000 in
theorem hold_large (A : Option Addr) (c : Nat) (l : List BlobT) (t : ByteArray) (w : World) (hr : Row w w.heap.size A (flat blobC l)) (hlc : l.length ≤ c) (hm : c ≤ maxLen) (h : storeChk l = 0) (ht : 64 < t.size) :
    Calls Try.prog 91 #[.slice A l.length c, .string t] w fun e w' => e = .returned (.tuple #[.slice none 0 0, .int .i64 0, .int .i64 2]) ∧ Below w.heap.size w w' := by
  have HC := Lib.hid (checkB_any A c l w hr hlc hm)
  rw [h] at HC
  have e1 : decide (64 < t.size) = true := by simp; omega
  have e1' : decide ((64 : Int) < (t.size : Int)) = true := by simp; omega
  clear h
  go_enter Try.func91, Try.ntmps91
  go_wp2_with fail
  refine HC.out.mono ?_
  rintro e w1 ⟨rfl, hb1⟩
  go_wp2_with fail
  go_ret3
  exact ⟨rfl, hb1⟩

/-- Whether an entry has no room. -/
def fullB (l : List BlobT) (k : Nat) : Bool := k == 60 || (decide (k < l.length) && (l.getD k bnil).2 == 1000)
def HoldE (l : List BlobT) (t : ByteArray) (w : World) (e : Ending) (w' : World) : Prop :=
  if fullB l (holdAt l t) = true then e = .returned (.tuple #[.slice none 0 0, .int .i64 0, .int .i64 6]) ∧ Below w.heap.size w w'
  else HoldPost (withB l (holdAt l t) (t, (l.getD (holdAt l t) bnil).2 + 1)) (holdAt l t) w e w'

set_option maxRecDepth 100000 in
set_option maxHeartbeats 2000000 in
theorem hold_ok (A : Option Addr) (c : Nat) (l : List BlobT) (t : ByteArray) (w : World) (hr : Row w w.heap.size A (flat blobC l)) (hlc : l.length ≤ c) (hm : c ≤ maxLen) (hA : A = none → c = 0) (h : storeChk l = 0) (ht : t.size ≤ 64) :
    Calls Try.prog 91 #[.slice A l.length c, .string t] w (HoldE l t w) := by
  have HC := Lib.hid (checkB_any A c l w hr hlc hm)
  rw [h] at HC
  obtain ⟨hl, hall⟩ := storeChk_ok h
  have e1 : decide (64 < t.size) = false := by simp; omega
  have e1' : decide ((64 : Int) < (t.size : Int)) = false := by simp; omega
  have hmm : l.length ≤ maxLen := by omega
  have HF := Lib.hid (fun w1 (h : Below w.heap.size w w1) => find_any A c l.length l t w1 rfl ((hr.below h).more h.size) hmm)
  have HI := Lib.hid (fun w1 (h : Below w.heap.size w w1) => indexFunc_blob A c l 126 #[] isFree w.heap.size (fun u => Below w.heap.size w u) w1 enters_hold1 hmm (fun u hu => hr.below hu) (fun x _ u hu => (hold1_any x u).mono fun e w' ⟨h1, h2⟩ => ⟨h1, hu.trans (h2.mono hu.size)⟩) h)
  have HCL := Lib.hid (fun w1 (h : Below w.heap.size w w1) => clone_blob A c l _ w1 (hr.below h) hA (by omega))
  have HALL := Lib.hid hall
  have HA0 := Lib.hid (Eq.refl (holdAt l t))
  have hat := holdAt_le l t
  have HAT := Lib.hid (show holdAt l t = if 0 ≤ findT l t then (findT l t).toNat else if 0 ≤ idxAt isFree l 0 then (idxAt isFree l 0).toNat else l.length from rfl)
  have HJ := Lib.hid (idxAt_cases isFree bnil l 0)
  generalize hP : HoldE l t w = P
  have HP := Lib.hid hP
  clear h hall hP HA0
  go_enter Try.func91, Try.ntmps91
  go_wp2_with fail
  refine HC.out.mono ?_
  rintro e w1 ⟨rfl, hb1⟩
  go_wp2_with fail
  refine (HF.out w1 hb1).mono ?_
  rintro e w2 ⟨rfl, hb2⟩
  have hb02 : Below w.heap.size w w2 := hb1.trans (hb2.mono hb1.size)
  clear hb2 hb1 HC HF
  generalize findT l t = j at *
  generalize hq : idxAt isFree l 0 = q at *
  generalize hh : holdAt l t = at_ at *
  have HQ := Lib.hid hq
  have HH := Lib.hid hh
  clear hq hh
  go_upto_if 22 with fail
  go_cut [8] (fun v8 wx => v8 = .int .i64 (if 0 ≤ j then j else q) ∧ Below w.heap.size w wx)
  case first =>
    by_cases hj : 0 ≤ j
    · have d1 : decide (j < 0) = false := by simp; omega
      have HJ0 := Lib.hid hj
      go_wp2_with fail
      go_meet
      exact ⟨by rw [if_pos HJ0.out], hb02⟩
    · have d1 : decide (j < 0) = true := by simp; omega
      have HJ0 := Lib.hid hj
      go_wp2_with fail
      refine (HI.out w2 hb02).mono ?_
      rintro e w3 ⟨rfl, hb3⟩
      go_wp2_with fail
      go_meet
      exact ⟨by rw [if_neg (by have := HJ0.out; omega)], hb3⟩
  case rest =>
    obtain ⟨rfl, hbc⟩ := hcut
    generalize hu : (if 0 ≤ j then j else q) = u at *
    have HU := Lib.hid hu
    clear hu
    go_upto_if 26 with fail
    go_cut [8] (fun v8 wx => v8 = .int .i64 at_ ∧ Below w.heap.size w wx)
    case first =>
      by_cases hj : 0 ≤ u
      · have d1 : decide (u < 0) = false := by simp; omega
        have HE := Lib.hid (show u = (at_ : Int) by
          have h1 := HU.out
          rw [HAT.out]
          by_cases h2 : 0 ≤ j
          · rw [if_pos h2] at h1 ⊢; omega
          · rw [if_neg h2] at h1 ⊢
            rw [if_pos (by omega)]
            omega)
        go_wp2_with fail
        go_meet
        exact ⟨by rw [HE.out], hbc⟩
      · have d1 : decide (u < 0) = true := by simp; omega
        have HE := Lib.hid (show at_ = l.length by
          have h1 := HU.out
          rw [HAT.out]
          by_cases h2 : 0 ≤ j
          · rw [if_pos h2] at h1; omega
          · rw [if_neg h2] at h1 ⊢
            rw [if_neg (by omega)])
        go_wp2_with fail
        go_meet
        exact ⟨by rw [HE.out], hbc⟩
    case rest =>
      obtain ⟨rfl, hbd⟩ := hcut
      have HPF := Lib.hid (show fullB l at_ = true → ∀ wz, Below w.heap.size w wz → P (.returned (.tuple #[.slice none 0 0, .int .i64 0, .int .i64 6])) wz from fun hf wz hb => by
        rw [← HP.out]
        unfold HoldE
        rw [HH.out, if_pos hf]
        exact ⟨rfl, hb⟩)
      have HPO := Lib.hid (show fullB l at_ = false → ∀ wz A c, Row wz wz.heap.size A (flat blobC (withB l at_ (t, (l.getD at_ bnil).2 + 1))) → Below w.heap.size w wz → P (.returned (.tuple #[.slice A (withB l at_ (t, (l.getD at_ bnil).2 + 1)).length c, .int .i64 at_, .int .i64 0])) wz from fun hf wz A c hz hb => by
        rw [← HP.out]
        unfold HoldE
        rw [HH.out, if_neg (by rw [hf]; simp)]
        exact ⟨A, c, rfl, hz, hb⟩)
      clear HP HH HU HAT HJ HQ HI
      unfold fullB at HPF HPO
      by_cases h60 : at_ = 60
      · subst h60
        go_wp2_with fail
        go_ret3
        exact HPF.out (by simp) _ hbd
      have b60 : ((at_ : Int) == 60) = false := beq_eq_false_iff_ne.2 (by omega)
      have b60' : (at_ == 60) = false := beq_eq_false_iff_ne.2 h60
      rw [b60', Bool.false_or] at HPF HPO
      by_cases hlt : at_ < l.length
      · have d1 : decide ((at_ : Int) < (l.length : Int)) = true := by simp; omega
        have d1' : decide (at_ < l.length) = true := by simp; omega
        rw [d1', Bool.true_and] at HPF HPO
        have hk1 : (at_ : Int) < (l.length : Int) := by omega
        have hk0 : (0 : Int) ≤ (at_ : Int) := by omega
        obtain ⟨b, o, rfl, _, hc0, hc1⟩ := (hr.below hbd).blob hlt bnil
        have hxb := HALL.out _ (getD_mem bnil hlt)
        unfold withB at HPO
        rw [if_pos hlt] at HPO
        by_cases hth : (l.getD at_ bnil).2 = 1000
        · have b1 : ((l.getD at_ bnil).2 == 1000) = true := by rw [hth]; rfl
          rw [b1] at HPF
          clear HPO hth
          generalize l.getD at_ bnil = x at *
          go_wp2_with fail
          go_ret3
          exact HPF.out (by simp) _ hbd
        · have b1 : ((l.getD at_ bnil).2 == 1000) = false := beq_eq_false_iff_ne.2 hth
          rw [b1] at HPO
          have b2 : ((at_ : Int) == (l.length : Int)) = false := beq_eq_false_iff_ne.2 (by omega)
          have b2' : (at_ == l.length) = false := beq_eq_false_iff_ne.2 (by omega)
          have HPOX := Lib.hid (Eq.refl (l.getD at_ bnil))
          have HSET := Lib.hid (fun (wz : World) (base g o c : Nat) (hz : Blobs wz base (some ⟨g, o, none⟩) c l) => show Blobs ((wz.setCell ⟨g, o + at_ * 2, none⟩ (.string t)).setCell ⟨g, o + at_ * 2 + 1, none⟩ (.int .i64 ((l.getD at_ bnil).2 + 1))) base (some ⟨g, o, none⟩) c (l.set at_ (t, (l.getD at_ bnil).2 + 1)) from by
            have h1 := (hz.set0 hlt t).set1 (i := at_) (by simpa using hlt) ((l.getD at_ bnil).2 + 1)
            rw [List.set_set] at h1
            have hgd : (l.set at_ (t, (l.getD at_ bnil).2)).getD at_ bnil = (t, (l.getD at_ bnil).2) := by
              rw [List.getD_eq_getElem?_getD, List.getElem?_set]
              simp [hlt]
            rw [hgd] at h1
            exact h1)
          have HCB := Lib.hid (fun (wz : World) (base g o c : Nat) (hz : Blobs wz base (some ⟨g, o, none⟩) c l) => show wz.cell? ⟨g, o + at_ * 2, none⟩ = some (.string (l.getD at_ bnil).1) ∧ wz.cell? ⟨g, o + at_ * 2 + 1, none⟩ = some (.int .i64 (l.getD at_ bnil).2) from by
            obtain ⟨b, o1, e1, _, hc0, hc1⟩ := hz.row.blob hlt bnil
            injection e1 with e1
            injection e1 with e1 e2
            subst e1 e2
            exact ⟨hc0, hc1⟩)
          clear HPF hth HPOX
          generalize l.getD at_ bnil = x at *
          generalize hls : l.set at_ (t, x.2 + 1) = l2 at *
          have HLS := Lib.hid (show l2.length = l.length by rw [← hls]; simp)
          clear hls
          go_wp2_with fail
          refine (HCL.out wc hbd).mono ?_
          rintro e w4 ⟨v, rfl, hown, hb4⟩
          obtain ⟨A2, c2, rfl, hq⟩ := OwnAt.of_own hown
          obtain ⟨g, o2, rfl, _⟩ := OwnAt.some_of hq (by omega)
          obtain ⟨g0, g1⟩ := HCB.out w4 _ g o2 c2 hq
          have f0 := OwnAt.frozen hq (o2 + at_ * 2)
          have f1 := OwnAt.frozen hq (o2 + at_ * 2 + 1)
          have hgw : w.heap.size ≤ g := Nat.le_trans hbd.size (OwnAt.lt hq).1
          have HR := Lib.hid (Blobs.row (HSET.out w4 _ g o2 c2 hq))
          have hb04 : Below w.heap.size w w4 := hbd.trans (hb4.mono hbd.size)
          have HBW := Lib.hid ((hb04.setCell (p := ⟨g, o2 + at_ * 2, none⟩) hgw (.string t)).setCell (p := ⟨g, o2 + at_ * 2 + 1, none⟩) hgw (.int .i64 (x.2 + 1)))
          clear hown hq hb4 HCL HSET HCB
          go_wp2_with fail
          go_ret3
          have := HPO.out (by simp) _ (some ⟨g, o2, none⟩) c2 HR.out HBW.out
          rw [HLS.out] at this
          exact this
      · obtain rfl : at_ = l.length := by omega
        have d1 : decide ((l.length : Int) < (l.length : Int)) = false := by simp
        have d1' : decide (l.length < l.length) = false := by simp
        rw [d1', Bool.false_and] at HPO
        unfold withB at HPO
        rw [if_neg (by omega)] at HPO
        rw [show (l.getD l.length bnil) = bnil by simp [List.getD_eq_getElem?_getD]] at HPO
        clear HPF
        go_wp2_with fail
        refine (HCL.out wc hbd).mono ?_
        rintro e w4 ⟨v, rfl, hown, hb4⟩
        have hb04 : Below w.heap.size w w4 := hbd.trans (hb4.mono hbd.size)
        obtain ⟨A2, c2, rfl, hq⟩ := OwnAt.of_own hown
        go_upto_region 16 with (at_builtin; refine wpList_push_blob rfl (.tmp 51) (.tmp 53) rfl wc.heap.size _ l rfl (hown.alloc _) w4.heap.size bnil rfl (fun j u hu => by rw [(Box.new w4 134 #[.string ⟨#[]⟩, .int .i64 0]).cell j]; simpa [blobC] using hu) (by omega) (by have := hb4.size; simp; omega) ?_; intro v' w5 hown5 hg5)
        have hb5 : Below wc.heap.size wc w5 := (hb4.alloc hb4.size _).grown hg5 (by have := hb4.size; simp; omega) (fun k hk => (hown.lt k hk).1)
        have hb05 : Below w.heap.size w w5 := hbd.trans (hb5.mono hbd.size)
        rw [show (l ++ [bnil]).length = l.length + 1 by simp] at hown5
        obtain ⟨A5, c5, rfl, hq5⟩ := OwnAt.of_own hown5
        obtain ⟨g, o2, rfl, _⟩ := OwnAt.some_of hq5 (by omega)
        have hq5' : Blobs w5 wc.heap.size (some ⟨g, o2, none⟩) c5 (l ++ [bnil]) := by
          unfold Blobs
          rw [show (l ++ [bnil]).length = l.length + 1 by simp]
          exact hq5
        have hgx : (l ++ [bnil]).getD l.length bnil = bnil := by simp [List.getD_eq_getElem?_getD]
        obtain ⟨b, o1, e9, _, hc0, hc1⟩ := hq5'.row.blob (i := l.length) (by simp) bnil
        injection e9 with e9
        injection e9 with e9 e10
        subst e9 e10
        rw [hgx] at hc0 hc1
        have f0 := OwnAt.frozen hq5 (o2 + l.length * 2)
        have f1 := OwnAt.frozen hq5 (o2 + l.length * 2 + 1)
        have hgw : w.heap.size ≤ g := Nat.le_trans hbd.size (OwnAt.lt hq5).1
        have hs2 := (hq5'.set0 (i := l.length) (by simp) t).set1 (i := l.length) (by simp) 1
        rw [hgx, List.set_set, show ((l ++ [bnil]).set l.length (t, bnil.2)).getD l.length bnil = (t, bnil.2) by simp [List.getD_eq_getElem?_getD], show (l ++ [bnil]).set l.length (t, (1 : Int)) = l ++ [(t, 1)] by simp] at hs2
        have HR := Lib.hid (Blobs.row hs2)
        have HBW := Lib.hid ((hb05.setCell (p := ⟨g, o2 + l.length * 2, none⟩) hgw (.string t)).setCell (p := ⟨g, o2 + l.length * 2 + 1, none⟩) hgw (.int .i64 1))
        have hk1 : (l.length : Int) < ((l.length + 1 : Nat) : Int) := by omega
        have hk0 : (0 : Int) ≤ (l.length : Int) := by omega
        clear hown hq hown5 hq5 hq5' hs2 hgx hb5 hb04 hb4 hg5
        go_wp2_with fail
        go_ret3
        have := HPO.out (by simp) _ (some ⟨g, o2, none⟩) c5 HR.out HBW.out
        rw [show (l ++ [(t, bnil.2 + 1)]).length = l.length + 1 by simp] at this
        exact this

set_option maxRecDepth 100000 in
/-- 'append(nil, s...)' of a store. -/
theorem wpList_copy_blob {ops : Array Oper} {rest : List Oper} {o : Oper} {a : Act} {w : World} {Q : Exit → Act → World → Prop} (hgd : o.guard = none) (s x : Operand)
    (ho : o.op = .call { callee := .builtin .append, args := #[s, x], argTypes := #[124, 124] })
    (hs : a.eval s = .slice none 0 0) (base : Nat) (A : Option Addr) (c B : Nat) (l : List BlobT) (hx : a.eval x = .slice A l.length c) (hr : Row w B A (flat blobC l)) (hA : A = none → c = 0) (hl : l.length ≤ 100000) (hbase : base ≤ w.heap.size)
    (h : ∀ A' c' w', Blobs w' base A' c' l → w.grownBy w' none → wpList Try.prog ops Q rest (a.put o.dst (.slice A' l.length c')) w') : wpList Try.prog ops Q (o :: rest) a w := by
  obtain ⟨i0, z0, hi0, hz0, hz1, hz2, hz3⟩ := blob_parts
  rcases A with _ | ad
  · obtain rfl := hA rfl
    have hy : l = [] := by
      rcases l with _ | ⟨y, r⟩
      · rfl
      · obtain ⟨b, o, h, _⟩ := hr (by rw [flat_len blobC_len]; simp)
        cases h
    subst hy
    refine wpList_append_own_none hgd s x _ ho base 134 i0 2 Try.underlying124 hi0 (.slice none 0 0) 0 [] hs (World.ownsRow_nil _ _ _ _) hx ?_
    exact h none 0 w OwnAt.nil (World.grownBy.refl w _)
  · refine wpList_append_nil hgd s x _ ho base 134 i0 z0 2 24 Try.underlying124 hi0 hz0 hz1 hz2 hz3 (by decide) hs ad l.length c (flat blobC l) hx (flat_len blobC_len l) ?_ (blob_one_all l) (by unfold maxLen; omega) (by omega) hbase ?_
    · intro j u hu
      obtain ⟨b, o, e, _, hc⟩ := hr (by have := (List.getElem?_eq_some_iff.1 hu).1; omega)
      obtain rfl : ad = ⟨b, o, none⟩ := Option.some.inj e
      rw [addr_add]
      exact hc j u hu
    · intro A' c' w' h1 h2 _
      exact h A' c' w' h1 h2

set_option maxRecDepth 100000 in
set_option maxHeartbeats 1000000 in
theorem storeWith_any (A : Option Addr) (c : Nat) (l : List BlobT) (k : Nat) (b : BlobT) (w : World) (hr : Row w w.heap.size A (flat blobC l)) (hA : A = none → c = 0) (hl : l.length ≤ 60) (hk : k ≤ l.length) :
    Calls Try.prog 98 #[.slice A l.length c, .int .i64 k, blobV b] w (StorePost (withB l k b) w) := by
  unfold blobV
  obtain ⟨i0, z0, hi0, hz0, hz1, hz2, hz3⟩ := blob_parts
  have hal : Below w.heap.size w (w.alloc (.cells #[.string b.1, .int .i64 b.2] 134)) := (Below.refl _ _).alloc (Nat.le_refl _) _
  have hk0 : (0 : Int) ≤ (k : Int) := by omega
  generalize hres : withB l k b = res
  have HRES := Lib.hid hres
  clear hres
  have HBX := Lib.hid (Box.new w 134 #[.string b.1, .int .i64 b.2])
  go_enter Try.func98, Try.ntmps98
  go_upto_region 2 with (at_builtin; refine wpList_copy_blob rfl (.const (.slice none 0 0)) (.tmp 8) rfl rfl w.heap.size A c w.heap.size l rfl (hr.below hal) hA (by omega) (by simp) ?_; intro A1 c1 w1 hq hg1)
  have hb1 : Below w.heap.size w w1 := hal.grown hg1 (by simp) (fun k hk => by cases hk)
  have hbx : Box w1 w.heap.size 134 #[.string b.1, .int .i64 b.2] := HBX.out.grown hg1 (by simp)
  have hx0 : w1.cell? ⟨w.heap.size, 0, none⟩ = some (.string b.1) := by simpa using hbx.cell 0
  have hx1 : w1.cell? ⟨w.heap.size, 1, none⟩ = some (.int .i64 b.2) := by simpa using hbx.cell 1
  by_cases hlt : k < l.length
  · have b1 : ((k : Int) == (l.length : Int)) = false := beq_eq_false_iff_ne.2 (by omega)
    have b1' : (k == l.length) = false := beq_eq_false_iff_ne.2 (by omega)
    have hk1 : (k : Int) < (l.length : Int) := by omega
    have HR0 := Lib.hid (show res = l.set k b by rw [← HRES.out]; unfold withB; rw [if_pos hlt])
    obtain ⟨g, o2, rfl, _⟩ := OwnAt.some_of hq (by omega)
    obtain ⟨b9, o1, e9, _, hc0, hc1⟩ := hq.row.blob hlt bnil
    injection e9 with e9
    injection e9 with e9 e10
    subst e9 e10
    have f0 := OwnAt.frozen hq (o2 + k * 2)
    have f1 := OwnAt.frozen hq (o2 + k * 2 + 1)
    have hs2 := (hq.set0 hlt b.1).set1 (i := k) (by simpa using hlt) b.2
    rw [List.set_set, show ((l.set k (b.1, (l.getD k bnil).2)).getD k bnil).1 = b.1 by rw [List.getD_eq_getElem?_getD, List.getElem?_set]; simp [hlt]] at hs2
    have HR := Lib.hid (Blobs.row hs2)
    have hgw := (OwnAt.lt hq).1
    have HBW := Lib.hid ((hb1.setCell (p := ⟨g, o2 + k * 2, none⟩) hgw (.string b.1)).setCell (p := ⟨g, o2 + k * 2 + 1, none⟩) hgw (.int .i64 b.2))
    have HCM := Lib.hid (OwnAt.cap_le hq)
    clear hs2 hq hg1 HRES
    generalize l.getD k bnil = x at *
    go_wp2_with fail
    go_ret
    rw [HR0.out]
    exact ⟨_, c1, by rw [List.length_set]; rfl, HR.out, by rw [List.length_set]; exact HCM.out.1, HCM.out.2, HBW.out⟩
  · obtain rfl : k = l.length := by omega
    have HR0 := Lib.hid (show res = l ++ [b] by rw [← HRES.out]; unfold withB; rw [if_neg (by omega)])
    clear HRES
    have hs1 := hb1.size
    go_wp2_with (at_builtin; refine wpList_append_q rfl (.tmp 14) (.tmp 16) _ rfl w.heap.size 134 i0 z0 2 24 Try.underlying124 hi0 hz0 hz1 hz2 hz3 (by decide) A1 l.length c1 (flat blobC l) rfl (OwnAt.alloc hq _) ⟨w1.heap.size, 0, none⟩ 1 1 (blobC b) rfl rfl (fun j u hu => by rw [addr_add, Nat.zero_add, (Box.new w1 134 #[.string b.1, .int .i64 b.2]).cell j]; simpa [blobC] using hu) (blob_one b) (by unfold maxLen; omega) (by omega) (by simp; omega) (by decide) ?_; intro g' o' c' w2 hq2 hg2 hbk2)
    go_ret
    rw [HR0.out]
    have hq3 : Blobs w2 w.heap.size (some ⟨g', o', none⟩) c' (l ++ [b]) := by
      unfold Blobs
      rw [List.length_append, flat_append, flat_one]
      exact hq2
    refine ⟨_, c', by rw [List.length_append]; rfl, hq3.row, (by rw [List.length_append]; exact (OwnAt.cap_le hq2).1), (OwnAt.cap_le hq2).2, below_q (hb1.alloc hs1 _) hg2 (by simp; omega) (fun a b e => by subst e; exact (OwnAt.lt hq).1) (OwnAt.form' hq)⟩
end Go.Proofs.Ytjblfkoepedhpaa
