
/-
  The reference's Reads: a range over the shape's string.
-/
import Derived.Test.YthglcnodoophaaaIn8
import Derived.Laws.RangeString
namespace Go.Proofs.Ythglcnodoophaaa
open Go.RowKit

theorem range_at (w : World) (s : ByteArray) : ∃ wi, (Instr.range 9 (.string s)).run Try.prog w = .ok (.pointer (some ⟨w.heap.size, 0, none⟩)) wi ∧ wi.heap[w.heap.size]? = some (.stringIter s 0) ∧ Below w.heap.size w wi ∧ w.heap.size < wi.heap.size :=
  ⟨w.iter s 0, run_range_string w 9 s Try.underlying9, World.iter_heap w s 0, (Below.refl _ _).alloc (Nat.le_refl _) _, by simp [World.iter]⟩
theorem next_at {w : World} {g k : Nat} {s : ByteArray} (hg : w.heap[g]? = some (.stringIter s k)) (h : k < s.size) (ha : (s[k]'h).toNat < 128) :
    ∃ wn, (∀ ty, (Instr.next (.pointer (some ⟨g, 0, none⟩)) true ty).run Try.prog w = .ok (.tuple #[.bool true, .int .i64 k, .int .i32 (s[k]'h).toNat]) wn) ∧ wn.heap[g]? = some (.stringIter s (k + 1)) ∧ w.grownBy wn (some g) := by
  have hlt : g < w.heap.size := by
    rcases Nat.lt_or_ge g w.heap.size with h1 | h1
    · exact h1
    · rw [Array.getElem?_eq_none h1] at hg; cases hg
  refine ⟨{ w with heap := w.heap.setIfInBounds g (.stringIter s (k + 1)) }, fun ty => ?_, ?_, ?_⟩
  · simp only [Instr.next, getObj, setObj, Sem.run_bind, Sem.run, hg, Result.andThen, h, if_true, decode_ascii s k h ha]
    simp [goInt]
  · simp [hlt]
  · refine ⟨rfl, rfl, rfl, by simp, fun b _ hne => ?_⟩
    have hne' : g ≠ b := fun e => hne (by rw [e])
    simp [hne']
theorem next_end {w : World} {g k : Nat} {s : ByteArray} (hg : w.heap[g]? = some (.stringIter s k)) (h : ¬ k < s.size) (ty : TypeId) :
    (Instr.next (.pointer (some ⟨g, 0, none⟩)) true ty).run Try.prog w = .ok (.tuple #[.bool false]) w := by
  simp [Instr.next, getObj, Sem.run, hg, h]

/-- A range over a string in flight, a slice of ints of the call's own gathered beside it. -/
structure It (w : World) (I : Array Value) (g : Nat) (s : ByteArray) (k : Nat) (A : Option Addr) (c : Nat) (zs : List Int) (wr : World) : Prop where
  own : OwnAt wr w.heap.size 3 1 A zs.length c (ints zs)
  it : wr.heap[g]? = some (.stringIter s k)
  ne : ∀ b, A.map (·.block) = some b → b ≠ g ∧ b ≠ w.heap.size
  box : Box wr w.heap.size 33 I
  below : Below w.heap.size w wr
  lt : w.heap.size < g
theorem It.ltg {w wr : World} {I : Array Value} {g k c : Nat} {s : ByteArray} {A : Option Addr} {zs : List Int} (h : It w I g s k A c zs wr) : g < wr.heap.size := by
  rcases Nat.lt_or_ge g wr.heap.size with h1 | h1
  · exact h1
  · have := h.it; rw [Array.getElem?_eq_none h1] at this; cases this
theorem It.hne {w wr : World} {I : Array Value} {g k c : Nat} {s : ByteArray} {A : Option Addr} {zs : List Int} (h : It w I g s k A c zs wr) : ∀ b, A.map (·.block) = some b → w.heap.size ≤ b := fun b hb => by
  rcases h.own.form with ⟨rfl, _⟩ | ⟨g1, o1, rfl⟩
  · cases hb
  · simp at hb; subst hb; exact h.own.lt.1
theorem It.next {w wr : World} {I : Array Value} {g k c : Nat} {s : ByteArray} {A : Option Addr} {zs : List Int} (h : It w I g s k A c zs wr) (hk : k < s.size) (ha : (s[k]'hk).toNat < 128) :
    ∃ wn, (∀ ty, (Instr.next (.pointer (some ⟨g, 0, none⟩)) true ty).run Try.prog wr = .ok (.tuple #[.bool true, .int .i64 k, .int .i32 (s[k]'hk).toNat]) wn) ∧ It w I g s (k + 1) A c zs wn := by
  obtain ⟨wn, h1, h2, h3⟩ := next_at h.it hk ha
  refine ⟨wn, h1, h.own.grown h3 (fun g1 o1 e hne => (h.ne g1 (by rw [e]; rfl)).1 (Option.some.inj hne)), h2, h.ne, h.box.grown h3 (fun e => Nat.ne_of_lt h.lt (Option.some.inj e)), h.below.grown h3 h.below.size (fun b hb => by cases hb; exact Nat.le_of_lt h.lt), h.lt⟩
theorem It.alloc {w wr : World} {I : Array Value} {g k c : Nat} {s : ByteArray} {A : Option Addr} {zs : List Int} (h : It w I g s k A c zs wr) (o : Obj) : It w I g s k A c zs (wr.alloc o) :=
  ⟨h.own.below ((Below.refl _ _).alloc (Nat.le_refl _) _), (Below.heap_alloc wr o g h.ltg).trans h.it, h.ne, h.box.alloc o, h.below.alloc h.below.size o, h.lt⟩
theorem It.grown {w wr w9 : World} {I : Array Value} {g k c g9 o9 d9 m : Nat} {s : ByteArray} {A : Option Addr} {zs ms : List Int} (h : It w I g s k A c zs wr) (hm : m = ms.length)
    (j1 : OwnAt w9 w.heap.size 3 1 (some ⟨g9, o9, none⟩) (zs.length + m) d9 (ints zs ++ ints ms)) (j2 : wr.grownBy w9 (A.map (·.block))) (j3 : A.map (·.block) = some g9 ∨ g9 = wr.heap.size) : It w I g s k (some ⟨g9, o9, none⟩) d9 (zs ++ ms) w9 := by
  refine ⟨?_, ?_, fun b hb => ?_, ?_, ?_, h.lt⟩
  · have e1 : (zs ++ ms).length = zs.length + m := by rw [List.length_append, hm]
    have e2 : ints (zs ++ ms) = ints zs ++ ints ms := by simp [ints]
    rw [e1, e2]
    exact j1
  · exact (j2.block g h.ltg (fun e => (h.ne g e.symm).1 rfl)).trans h.it
  · simp at hb
    subst hb
    rcases j3 with j3 | j3
    · exact h.ne g9 j3
    · have := h.ltg; have := h.lt; omega
  · exact h.box.grown j2 (fun e => (h.ne _ e.symm).2 rfl)
  · exact h.below.grown j2 h.below.size h.hne

def chunk (x : InC) (ch : UInt8) : List Int := if ch = 97 then [x.a] else if ch = 98 then [x.b] else x.args
theorem readL_take (x : InC) : ∀ (l : List UInt8) (k : Nat) (h : k < l.length), readL (l.take (k + 1)) x = readL (l.take k) x ++ chunk x l[k]
  | [], k, h => by simp at h
  | ch :: r, 0, _ => by simp [readL, chunk]
  | ch :: r, k + 1, h => by
    have ih := readL_take x r k (by simpa using h)
    simp only [List.take_succ_cons, readL, List.getElem_cons_succ]
    rw [ih, List.append_assoc]
theorem readL_len (x : InC) (hx : x.args.length ≤ 1048576) : ∀ l : List UInt8, (readL l x).length ≤ 1048576 * l.length
  | [] => by simp [readL]
  | ch :: r => by
    have ih := readL_len x hx r
    simp only [readL, List.length_append, List.length_cons]
    split
    · simp; omega
    · split
      · simp; omega
      · omega
def shapeStrs : List ByteArray := [⟨#[]⟩, ⟨#[98]⟩, ⟨#[42]⟩, ⟨#[98, 42]⟩, ⟨#[97, 98]⟩, ⟨#[97]⟩]
theorem shape_mem (op : Int) : (shapeF op).s ∈ shapeStrs := by
  unfold shapeF
  repeat' split
  all_goals simp [shapeStrs]
theorem strs_small : ∀ s ∈ shapeStrs, s.data.toList.length ≤ 2 ∧ ∀ ch ∈ s.data.toList, ch.toNat < 128 := by
  intro s hs
  simp only [shapeStrs, List.mem_cons, List.not_mem_nil, or_false] at hs
  rcases hs with rfl | rfl | rfl | rfl | rfl | rfl <;> decide

set_option maxRecDepth 100000 in
set_option maxHeartbeats 4000000 in
theorem rreads_any (x : InC) (B : Nat) (w : World) (hok : InOk w B x) : Calls Try.prog 14 #[inV x] w (IsRow w (readsT x)) := by
  obtain ⟨i1, hi1, hy0, hy1, hy2⟩ := int_partsI
  obtain ⟨X, hX⟩ : ∃ X, Hid (X = x) := ⟨_, rfl⟩
  have HLA : Hid (X.args.length ≤ 1048576) := by show _ ≤ _; rw [hX.out]; exact hok.len
  obtain ⟨hs2, hsa⟩ := strs_small _ (shape_mem x.op)
  unfold readsT
  rw [show readL (shapeF x.op).s.data.toList x = readL (shapeF x.op).s.data.toList X by rw [hX.out]]
  have HXa : Hid (X.a = x.a) := by show _ = _; rw [hX.out]
  have HXb : Hid (X.b = x.b) := by show _ = _; rw [hX.out]
  have HXg : Hid (X.args = x.args) := by show _ = _; rw [hX.out]
  obtain ⟨op, a, b, c, A, cap, args⟩ := x
  unfold inV
  simp only at hs2 hsa HXa HXb HXg ⊢
  have HS := Lib.hid (shapes_any op (w.alloc (.cells #[.int .i64 op, .int .i64 a, .int .i64 b, .int .i64 c, .slice A args.length cap] 33)))
  have HB := Lib.hid ((Below.refl w.heap.size w).alloc (Nat.le_refl _) (.cells #[.int .i64 op, .int .i64 a, .int .i64 b, .int .i64 c, .slice A args.length cap] 33))
  have HBX := Lib.hid (Box.new w 33 #[.int .i64 op, .int .i64 a, .int .i64 b, .int .i64 c, .slice A args.length cap])
  have HSZ : Hid (w.heap.size < (w.alloc (.cells #[.int .i64 op, .int .i64 a, .int .i64 b, .int .i64 c, .slice A args.length cap] 33)).heap.size) := by show _ < _; simp
  have HOK := Lib.hid hok
  generalize shapeF op = sh at *
  obtain ⟨s, sw, se⟩ := sh
  simp only at HS hs2 hsa ⊢
  have hsz : s.size = s.data.toList.length := rfl
  have HSA : Hid (∀ k (h : k < s.size), (s[k]'h).toNat < 128) := fun k h => hsa _ (by simp [ByteArray.getElem_eq_getElem_data])
  have HS2 : Hid (s.size ≤ 2) := by show _ ≤ _; rw [hsz]; exact hs2
  have HRL : Hid (∀ k (h : k < s.size), readL (s.data.toList.take (k + 1)) X = readL (s.data.toList.take k) X ++ chunk X (s[k]'h)) := fun k h => by
    have := readL_take X s.data.toList k (by rw [← hsz]; exact h)
    rw [this]
    simp [ByteArray.getElem_eq_getElem_data]
  have HRN : Hid (∀ k, k ≤ s.size → (readL (s.data.toList.take k) X).length ≤ 2097152) := fun k h => by
    have := readL_len X HLA.out (s.data.toList.take k)
    have h2 : (s.data.toList.take k).length ≤ 2 := by rw [List.length_take]; omega
    omega
  have HRE : Hid (readL (s.data.toList.take s.size) X = readL s.data.toList X) := by show _ = _; rw [hsz, List.take_length]
  clear hok hs2 hsa hsz hX
  go_enter Try.func14, Try.ntmps14
  go_wp2_with fail
  refine HS.out.mono ?_
  rintro e w1 ⟨rfl, hb⟩
  have HB1 := Lib.hid (HB.out.trans (hb.mono HB.out.size))
  have HLT1 : Hid (w.heap.size < w1.heap.size) := Nat.lt_of_lt_of_le HSZ.out hb.size
  have HBX1 := Lib.hid (HBX.out.below hb HSZ.out)
  have hf0 := field0 s sw se w1
  obtain ⟨wi, hri, hit, hbi, hlti⟩ := range_at w1 s
  have HI : Hid (It w #[.int .i64 op, .int .i64 a, .int .i64 b, .int .i64 c, .slice A args.length cap] w1.heap.size s 0 none 0 [] wi) := ⟨OwnAt.nil, hit, (fun b hb => by cases hb), HBX1.out.below hbi HLT1.out, HB1.out.trans (hbi.mono HB1.out.size), HLT1.out⟩
  clear hb hit hbi hlti
  generalize w1.heap.size = g at *
  go_wp2_with fail
  go_loopg [3] s.size (fun gk q wr => ∃ (k : Nat) (A2 : Option Addr) (c2 : Nat), gk = s.size - k ∧ k ≤ s.size ∧ q = .slice A2 (readL (s.data.toList.take k) X).length c2 ∧ It w #[.int .i64 op, .int .i64 a, .int .i64 b, .int .i64 c, .slice A args.length cap] g s k A2 c2 (readL (s.data.toList.take k) X) wr)
  case atStart => exact ⟨0, none, 0, rfl, Nat.zero_le _, rfl, HI.out⟩
  case round =>
    obtain ⟨k, A2, c2, hgk, hk, rfl, hi2⟩ := hrel
    have HK := Lib.hid hgk
    clear hgk
    by_cases hlt : k < s.size
    · obtain ⟨wn, hn, hin⟩ := hi2.next hlt (HSA.out k hlt)
      have hnn := hn 0
      have HIN := Lib.hid hin
      have HRK := Lib.hid (HRL.out k hlt)
      have HRM := Lib.hid (HRN.out k hk)
      have HMS : Hid (s.size - (k + 1) < gk) := by have := HK.out; show _ < _; omega
      generalize readL (s.data.toList.take k) X = zs at *
      generalize s[k]'hlt = ch at *
      have HCH : Hid (chunk X ch = if ch = 97 then [a] else if ch = 98 then [b] else args) := by
        show _ = _
        unfold chunk
        rw [HXa.out, HXb.out, HXg.out]
      have hbx := HIN.out.box
      by_cases hc97 : ch = 97
      · have n0 : wn.cell? ⟨w.heap.size, 0, none⟩ = some (.int .i64 op) := hbx.cell 0
        have n1 : wn.cell? ⟨w.heap.size, 1, none⟩ = some (.int .i64 a) := hbx.cell 1
        have n2 : wn.cell? ⟨w.heap.size, 2, none⟩ = some (.int .i64 b) := hbx.cell 2
        have n3 : wn.cell? ⟨w.heap.size, 3, none⟩ = some (.int .i64 c) := hbx.cell 3
        have n4 : wn.cell? ⟨w.heap.size, 4, none⟩ = some (.slice A args.length cap) := hbx.cell 4
        subst hc97
        rw [if_pos rfl] at HCH
        have hall := HIN.out.alloc (.cells #[.int .i64 a] 3)
        have HAL := Lib.hid hall
        have HLT : Hid ((wn.alloc (.cells #[.int .i64 a] 3)).cell? ⟨wn.heap.size, 0, none⟩ = some (.int .i64 a)) := (Box.new wn 3 #[.int .i64 a]).cell 0
        have HM1 : Hid (zs.length + 1 ≤ maxLen) := by show _ ≤ _; have := HRM.out; unfold maxLen; omega
        have HM2 : Hid ((zs.length + 1) * 8 ≤ 140737488355328) := by show _ ≤ _; have := HRM.out; omega
        clear hi2 hin hall hbx
        go_wp2_with (at_builtin; refine wpList_append_q rfl (.tmp 21) (.tmp 24) 23 rfl w.heap.size 3 i1 (.int .i64 0) 1 8 Try.underlying23 hi1 hy0 hy1 hy2 rfl (by decide) A2 zs.length c2 (ints zs) rfl HAL.out.own ⟨wn.heap.size, 0, none⟩ 1 1 (ints [a]) rfl rfl (lit_intC HLT.out) (ints_oneI _) HM1.out HM2.out HAL.out.below.size (by decide) ?_; intro g9 o9 d9 w9 j1 j2 j3; have H9 := Lib.hid (HAL.out.grown (ms := [a]) rfl j1 j2 j3); clear j1 j2 j3)
        go_roundg (s.size - (k + 1))
        case measure => exact HMS.out
        case rel => exact ⟨k + 1, some ⟨g9, o9, none⟩, d9, rfl, hlt, by rw [HRK.out, HCH.out]; simp, by rw [HRK.out, HCH.out]; exact H9.out⟩
      by_cases hc98 : ch = 98
      · have n0 : wn.cell? ⟨w.heap.size, 0, none⟩ = some (.int .i64 op) := hbx.cell 0
        have n1 : wn.cell? ⟨w.heap.size, 1, none⟩ = some (.int .i64 a) := hbx.cell 1
        have n2 : wn.cell? ⟨w.heap.size, 2, none⟩ = some (.int .i64 b) := hbx.cell 2
        have n3 : wn.cell? ⟨w.heap.size, 3, none⟩ = some (.int .i64 c) := hbx.cell 3
        have n4 : wn.cell? ⟨w.heap.size, 4, none⟩ = some (.slice A args.length cap) := hbx.cell 4
        subst hc98
        rw [if_neg (by decide), if_pos rfl] at HCH
        have hall := HIN.out.alloc (.cells #[.int .i64 b] 3)
        have HAL := Lib.hid hall
        have HLT : Hid ((wn.alloc (.cells #[.int .i64 b] 3)).cell? ⟨wn.heap.size, 0, none⟩ = some (.int .i64 b)) := (Box.new wn 3 #[.int .i64 b]).cell 0
        have HM1 : Hid (zs.length + 1 ≤ maxLen) := by show _ ≤ _; have := HRM.out; unfold maxLen; omega
        have HM2 : Hid ((zs.length + 1) * 8 ≤ 140737488355328) := by show _ ≤ _; have := HRM.out; omega
        clear hi2 hin hall hbx
        go_wp2_with (at_builtin; refine wpList_append_q rfl (.tmp 28) (.tmp 31) 23 rfl w.heap.size 3 i1 (.int .i64 0) 1 8 Try.underlying23 hi1 hy0 hy1 hy2 rfl (by decide) A2 zs.length c2 (ints zs) rfl HAL.out.own ⟨wn.heap.size, 0, none⟩ 1 1 (ints [b]) rfl rfl (lit_intC HLT.out) (ints_oneI _) HM1.out HM2.out HAL.out.below.size (by decide) ?_; intro g9 o9 d9 w9 j1 j2 j3; have H9 := Lib.hid (HAL.out.grown (ms := [b]) rfl j1 j2 j3); clear j1 j2 j3)
        go_roundg (s.size - (k + 1))
        case measure => exact HMS.out
        case rel => exact ⟨k + 1, some ⟨g9, o9, none⟩, d9, rfl, hlt, by rw [HRK.out, HCH.out]; simp, by rw [HRK.out, HCH.out]; exact H9.out⟩
      have n0 : wn.cell? ⟨w.heap.size, 0, none⟩ = some (.int .i64 op) := hbx.cell 0
      have n1 : wn.cell? ⟨w.heap.size, 1, none⟩ = some (.int .i64 a) := hbx.cell 1
      have n2 : wn.cell? ⟨w.heap.size, 2, none⟩ = some (.int .i64 b) := hbx.cell 2
      have n3 : wn.cell? ⟨w.heap.size, 3, none⟩ = some (.int .i64 c) := hbx.cell 3
      have n4 : wn.cell? ⟨w.heap.size, 4, none⟩ = some (.slice A args.length cap) := hbx.cell 4
      rw [if_neg hc97, if_neg hc98] at HCH
      have hz97 : (((ch.toNat : Nat) : Int) == 97) = false := by
        simp only [beq_eq_false_iff_ne, ne_eq]
        intro e
        exact hc97 (UInt8.toNat_inj.mp (by simpa using (by exact_mod_cast e : ch.toNat = 97)))
      have hz98 : (((ch.toNat : Nat) : Int) == 98) = false := by
        simp only [beq_eq_false_iff_ne, ne_eq]
        intro e
        exact hc98 (UInt8.toNat_inj.mp (by simpa using (by exact_mod_cast e : ch.toNat = 98)))
      generalize ((ch.toNat : Nat) : Int) = zc at *
      have HAR : Hid (Row wn B A (ints args)) := (HOK.out.below HIN.out.below).row
      have HAL2 : Hid (args.length ≤ 1048576) := HOK.out.len
      have hcap : zs.length ≤ c2 := by rcases HIN.out.own.2 with ⟨_, h1, h2⟩ | ⟨_, _, _, _, _, _, h1, _⟩ <;> omega
      clear hi2 hin hbx hc97 hc98
      rcases args with _ | ⟨y, ys⟩
      · go_wp2_with (at_builtin; refine wpList_append_z rfl (.tmp 15) (.tmp 17) 23 rfl 3 i1 Try.underlying23 hi1 A2 zs.length c2 hcap rfl A cap rfl ?_)
        go_roundg (s.size - (k + 1))
        case measure => exact HMS.out
        case rel => exact ⟨k + 1, A2, c2, rfl, hlt, by rw [HRK.out, HCH.out]; simp, by rw [HRK.out, HCH.out, List.append_nil]; exact HIN.out⟩
      · have hup : 0 < (y :: ys).length := by simp
        obtain ⟨b2, o2, hya, hbb, hcc⟩ := HAR.out (by rw [ints_len]; exact hup)
        have HYA := Lib.hid hya
        have HNW : Hid (∀ j u, (ints (y :: ys))[j]? = some u → wn.cell? ((⟨b2, o2, none⟩ : Addr).add j) = some u) := fun j u hu => by
          rw [addr_add]
          exact hcc j u hu
        have HLN : Hid ((ints (y :: ys)).length = (y :: ys).length * 1) := by show _ = _; rw [ints_len, Nat.mul_one]
        have HM1 : Hid (zs.length + (y :: ys).length ≤ maxLen) := by show _ ≤ _; have := HRM.out; have := HAL2.out; unfold maxLen; omega
        have HM2 : Hid ((zs.length + (y :: ys).length) * 8 ≤ 140737488355328) := by show _ ≤ _; have := HRM.out; have := HAL2.out; omega
        have HUP := Lib.hid hup
        have HLL : Hid (zs.length + (y :: ys).length = (zs ++ (y :: ys)).length) := by show _ = _; simp
        have HME : Hid ((y :: ys).length = (y :: ys).length) := rfl
        clear hya hbb hcc hup hcap HOK HAL2 HBX HSZ HB HS HAR
        generalize hU : (y :: ys).length = U at *
        have HU := Lib.hid hU
        clear hU
        go_wp2_with (at_builtin; refine wpList_append_q rfl (.tmp 15) (.tmp 17) 23 rfl w.heap.size 3 i1 (.int .i64 0) 1 8 Try.underlying23 hi1 hy0 hy1 hy2 rfl (by decide) A2 zs.length c2 (ints zs) rfl HIN.out.own ⟨b2, o2, none⟩ U cap (ints (y :: ys)) (by rw [← HYA.out]; rfl) HLN.out HNW.out (ints_oneI _) HM1.out HM2.out HIN.out.below.size HUP.out ?_; intro g9 o9 d9 w9 j1 j2 j3; have H9 := Lib.hid (HIN.out.grown (ms := y :: ys) HU.out.symm j1 j2 j3); clear j1 j2 j3)
        go_roundg (s.size - (k + 1))
        case measure => exact HMS.out
        case rel => exact ⟨k + 1, some ⟨g9, o9, none⟩, d9, rfl, hlt, by rw [HRK.out, HCH.out, ← HLL.out], by rw [HRK.out, HCH.out]; exact H9.out⟩
    · obtain rfl : k = s.size := by omega
      have hnn := next_end hi2.it hlt 0
      rw [HRE.out] at hi2 ⊢
      have HI2 := Lib.hid hi2
      clear hi2
      go_wp2_with fail
      go_ret
      exact ⟨_, _, rfl, HI2.out.own, HI2.out.below⟩
end Go.Proofs.Ythglcnodoophaaa
