/-
  The letters again; the letters of a sender.
-/
import Derived.Test.YtaecgapoaagjfaaBox3
namespace Go.Proofs.Ytaecgapoaagjfaa
open Go.RowKit

/-- A box and an errno. -/
def BoxPost (w : World) (n : Nat) (f p : Int) (ts : List Let) (e : Ending) (w' : World) : Prop :=
  ∃ A' c' l', e = .returned (.tuple #[boxV A' l'.length c' p, .int .i64 f]) ∧ letterRow w' (w.heap.size ≤ ·) n A' c' l' ts ∧ Below w.heap.size w w'
theorem letterRow.none {w : World} {S : Nat → Prop} {n : Nat} : letterRow w S n none 0 [] [] :=
  ⟨rfl, RowS.nil, fun i hi => absurd hi (by simp), by simp, by unfold maxLen; simp, fun _ => rfl, by simp⟩
theorem own_cells2 {w : World} {g : Nat} {e : TypeId} {c0 c1 : Value} (h : Box w g e #[c0, c1]) :
    w.cell? ⟨g, 0, none⟩ = some c0 ∧ w.cell? ⟨g, 1, none⟩ = some c1 ∧ w.frozen? ⟨g, 0, none⟩ = false ∧ w.frozen? ⟨g, 1, none⟩ = false :=
  ⟨h.cell 0, h.cell 1, h.frozen 0, h.frozen 1⟩

set_option maxRecDepth 100000 in
set_option maxHeartbeats 1000000 in
theorem again_any (n : Nat) (A : Option Addr) (c : Nat) (l : List LC) (ts : List Let) (p : Int) (w : World) (S : Nat → Prop) (h : letterRow w S n A c l ts) :
    Calls Try.prog 17 #[boxV A l.length c p] w (BoxPost w n (boxF l p) 0 (if boxF l p = 0 then ts else [])) := by
  have HB := Lib.hid (show ∀ o1 o2, Below w.heap.size w ((w.alloc o1).alloc o2) from fun _ _ => ((Below.refl _ _).alloc (Nat.le_refl _) _).alloc (by simp) _)
  have HR := Lib.hid h.lt
  have HCK := Lib.hid (check_any A c l p)
  have hlc := h.2.2.2.1
  have hm := h.2.2.2.2.1
  clear h
  generalize hf : boxF l p = f at *
  unfold boxV at *
  by_cases h0 : f = 0
  · subst h0
    rw [if_pos rfl]
    go_enter Try.func17, Try.ntmps17
    go_wp2_with fail
    refine (HCK.out _ ((HR.out.below (HB.out _ _) fun _ h => h.2).2.1.all) hlc hm).mono ?_
    rintro e w1 ⟨rfl, hb1⟩
    have B1 := box4 hb1
    have B0 : Box w1 w.heap.size 24 #[.slice A l.length c, .int .i64 p] := ((Box.new w _ _).alloc _).below hb1 (by simp; omega)
    have h01 := below2 hb1
    obtain ⟨a0, a1, _, _⟩ := own_cells2 B0
    obtain ⟨b0, b1, g0, g1⟩ := own_cells2 B1
    have HE := Lib.hid (each_letter n (fun x v w S h => copy_letter n x v w S h) A c l ts w1 _ (HR.out.below h01 fun _ h => h.2))
    have hs1 := hb1.size
    have hs1' : w.heap.size + 2 ≤ w1.heap.size := by simpa using hs1
    clear hb1 hs1 HCK
    go_wp2_with fail
    refine HE.out.mono ?_
    rintro e w2 ⟨A', c', l', rfl, hmk, hby, hb2⟩
    have HW := Lib.hid (h01.trans (hb2.mono h01.size))
    have HR2 := Lib.hid (hmk.row hby)
    obtain ⟨b0, b1, g0, g1⟩ := own_cells2 (B1.below hb2 (by omega))
    clear hmk hb2 B0 B1 HE
    go_wp2_with fail
    refine bodyPost_ret (v := .tuple #[boxV A' l'.length c' 0, .int .i64 0]) (by unfold boxV; simp [results, Try.results17, go_sem, b0, b1]) rfl ?_
    refine ⟨A', c', l', rfl, HR2.out.keep (fun q hq => ?_) fun b hb => by rcases hb with hb | hb <;> omega, ?_⟩
    · have : w1.heap.size ≤ q.block := by rcases hq with hq | hq <;> exact hq
      iterate 2 rw [cell_far (by simp; omega)]
    · exact (HW.out.setCell (by simp) _).setCell (by simp) _
  · rw [if_neg h0]
    have bf : (f != 0) = true := by simp [h0]
    clear h0
    go_enter Try.func17, Try.ntmps17
    go_wp2_with fail
    refine (HCK.out _ ((HR.out.below (HB.out _ _) fun _ h => h.2).2.1.all) hlc hm).mono ?_
    rintro e w1 ⟨rfl, hb1⟩
    have HW := Lib.hid (below2 hb1)
    obtain ⟨b0, b1, g0, g1⟩ := own_cells2 (box4 hb1)
    clear hb1 HCK
    go_wp2_with fail
    refine bodyPost_ret (v := .tuple #[boxV none 0 0 0, .int .i64 f]) (by unfold boxV; simp [results, Try.results17, go_sem, b0, b1]) rfl ?_
    exact ⟨none, 0, [], rfl, letterRow.none, (HW.out.setCell (by simp) _).setCell (by simp) _⟩

/-- Letters and an errno. -/
def LetPost (w : World) (n : Nat) (f : Int) (ts : List Let) (e : Ending) (w' : World) : Prop :=
  ∃ A' c' l', e = .returned (.tuple #[.slice A' l'.length c', .int .i64 f]) ∧ letterRow w' (w.heap.size ≤ ·) n A' c' l' ts ∧ Below w.heap.size w w'
def fromOf (who : Int) (ts : List Let) : List Let := ts.filter fun t => t.frm == who
theorem fromOf_take (who : Int) (ts : List Let) (k : Nat) (hk : k < ts.length) : fromOf who (ts.take (k + 1)) = fromOf who (ts.take k) ++ (if (ts.getD k let0).frm == who then [ts.getD k let0] else []) := by
  unfold fromOf
  rw [take_getD ts let0 hk, List.filter_append]
  congr 1
  generalize ts.getD k let0 = t
  by_cases h : (t.frm == who) = true <;> simp [List.filter_cons, h]

set_option maxRecDepth 100000 in
set_option maxHeartbeats 1000000 in
theorem from_any (n : Nat) (A : Option Addr) (c : Nat) (l : List LC) (ts : List Let) (p who : Int) (w : World) (S : Nat → Prop) (h : letterRow w S n A c l ts) :
    Calls Try.prog 18 #[boxV A l.length c p, .int .i64 who] w (LetPost w n (boxF l p) (if boxF l p = 0 then fromOf who ts else [])) := by
  have HB := Lib.hid (show ∀ o1, Below w.heap.size w (w.alloc o1) from fun _ => (Below.refl _ _).alloc (Nat.le_refl _) _)
  have HR := Lib.hid h.lt
  have HCK := Lib.hid (check_any A c l p)
  have hlc := h.2.2.2.1
  have hm := h.2.2.2.2.1
  have HL := Lib.hid h.1
  have hl60 : boxF l p = 0 → l.length ≤ 60 := fun h => by
    unfold boxF at h
    split at h
    · cases h
    · omega
  clear h
  generalize hf : boxF l p = f at *
  unfold boxV at *
  by_cases h0 : f = 0
  · have hl6 := hl60 h0
    clear hl60
    subst h0
    rw [if_pos rfl]
    go_enter Try.func18, Try.ntmps18
    go_wp2_with fail
    refine (HCK.out _ ((HR.out.below (HB.out _) fun _ h => h.2).2.1.all) hlc hm).mono ?_
    rintro e w1 ⟨rfl, hb1⟩
    have B0 : Box w1 w.heap.size 24 #[.slice A l.length c, .int .i64 p] := (Box.new w _ _).below hb1 (by simp)
    have h01 : Below w.heap.size w w1 := (HB.out _).trans (hb1.mono (by simp))
    obtain ⟨a0, a1, _, _⟩ := own_cells2 B0
    have HW1 := Lib.hid h01
    clear hb1 HCK B0 h01
    go_wp2_with fail
    go_loopg [7, 18] l.length (fun gk ov i wr => ∃ (k : Nat) (out : List LC) (Ao : Option Addr) (co : Nat), gk = l.length - k ∧ k ≤ l.length ∧ i = .int .i64 k ∧ ov = .slice Ao out.length co ∧ out.length ≤ k ∧ letterMk wr w.heap.size (w.heap.size ≤ ·) n Ao co out (fromOf who (ts.take k)) ∧ Below w.heap.size w wr)
    case atStart => exact ⟨0, [], none, 0, by omega, by omega, rfl, rfl, by simp, letterMk.nil, HW1.out⟩
    case round =>
      obtain ⟨k, out, Ao, co, hgk, hk, rfl, rfl, hout, hmk, hb⟩ := hrel
      have HG := Lib.hid hgk
      have HMK := Lib.hid hmk
      clear hgk hmk
      by_cases hlt : k < l.length
      · have hrw := HR.out.below hb (fun b h => h.2)
        have HV := Lib.hid (hrw.2.2.1 k hlt)
        obtain ⟨b, o, rfl, _, hc0, hc1, hc2, hc3, hc4, hc5, hc6, hc7, hc8⟩ := hrw.2.1.all.letter hlt lc0
        have HTK := Lib.hid (fromOf_take who ts k (by rw [← HL.out]; exact hlt))
        have hfrm : (l.getD k lc0).frm = (ts.getD k let0).frm := (hrw.2.2.1 k hlt).1.2.1
        rw [← hfrm] at HTK
        clear hrw hfrm
        generalize l.getD k lc0 = x at *
        generalize ts.getD k let0 = v at *
        have hbk : (out.length + 1) * 104 ≤ 140737488355328 := by omega
        have hbw := hb.size
        by_cases hwho : x.frm = who
        · have bw : (x.frm == who) = true := by simp [hwho]
          rw [bw] at HTK
          clear hwho
          go_wp2_with fail
          refine (copy_letter n x v _ _ (HV.out.keep (w' := wr.alloc (.cells (letterC x).toArray 29)) (fun p hp => World.cell?_alloc_lt wr _ p (by have := hp.2; omega)) fun _ h => h)).mono ?_
          rintro e w2 ⟨y, rfl, hy, hb2⟩
          unfold letterV
          have hb2' : Below wr.heap.size wr w2 := ((Below.refl wr.heap.size wr).alloc (Nat.le_refl _) _).trans (hb2.mono (by simp))
          have hs2 : wr.heap.size + 1 ≤ w2.heap.size := by have := hb2.size; simpa using this
          have HMK2 := Lib.hid ((HMK.out.below hb2').below ((Below.refl w2.heap.size w2).alloc (Nat.le_refl _) (.cells (letterC y).toArray 29)))
          have HY := Lib.hid (show LIn (w2.alloc (.cells (letterC y).toArray 29)) (Off (w.heap.size ≤ ·) Ao) n y v from hy.lt.keep (fun p hp => World.cell?_alloc_lt w2 _ p hp.2) fun b h => ⟨by have := h.1; simp at this; omega, fun e => by
            have h1 := h.1
            rcases HMK.out.2.1.form with ⟨rfl, _⟩ | ⟨g1, o1, rfl⟩
            · cases e
            · simp at e h1
              have := HMK.out.2.1.lt.2
              omega⟩)
          have HBN := Lib.hid (show Below w.heap.size w (w2.alloc (.cells (letterC y).toArray 29)) from (hb.trans (hb2'.mono hb.size)).alloc (by omega) _)
          clear hy hb2 hb2' HMK
          go_wp2_with (at_builtin; refine wpList_mk_letter rfl (.tmp 26) (.tmp 29) rfl w.heap.size (w.heap.size ≤ ·) n Ao co out.length out (fromOf who (ts.take k)) rfl rfl HMK2.out w2.heap.size y v rfl (letter_new w2 y) HY.out hbk (by simp; omega) ?_; intro A' c' w5 hmk5 hb5)
          have HM5 := Lib.hid hmk5
          clear hmk5
          go_roundg (l.length - (k + 1))
          case measure => have := HG.out; omega
          case rel =>
            refine ⟨k + 1, out ++ [y], A', c', rfl, by omega, by go_num, by simp, by simp; omega, ?_, HBN.out.trans hb5⟩
            rw [HTK.out]
            exact HM5.out
        · have bw : (x.frm == who) = false := by simp [hwho]
          rw [bw] at HTK
          clear hwho
          go_wp2_with fail
          go_roundg (l.length - (k + 1))
          case measure => have := HG.out; omega
          case rel =>
            refine ⟨k + 1, out, Ao, co, rfl, by omega, by go_num, rfl, by omega, ?_, hb.alloc hbw _⟩
            rw [HTK.out]
            simpa using HMK.out.below ((Below.refl wr.heap.size wr).alloc (Nat.le_refl _) _)
      · obtain rfl : k = l.length := by omega
        go_wp2_with fail
        go_ret2
        have hmk := HMK.out
        rw [HL.out, List.take_length] at hmk
        exact ⟨Ao, co, out, rfl, (hmk.row (by unfold reachBytes; omega)).keep (fun _ _ => rfl) fun b hb => by rcases hb with hb | hb <;> exact hb, hb⟩
  · rw [if_neg h0]
    have bf : (f != 0) = true := by simp [h0]
    clear h0 hl60
    go_enter Try.func18, Try.ntmps18
    go_wp2_with fail
    refine (HCK.out _ ((HR.out.below (HB.out _) fun _ h => h.2).2.1.all) hlc hm).mono ?_
    rintro e w1 ⟨rfl, hb1⟩
    have HW := Lib.hid ((HB.out _).trans (hb1.mono (HB.out _).size))
    clear hb1 HCK
    go_wp2_with fail
    go_ret2
    exact ⟨none, 0, [], rfl, letterRow.none, HW.out⟩
end Go.Proofs.Ytaecgapoaagjfaa
