
/-
  Links: a row found; rows copied.
-/
import Derived.Test.YtgjimjpbogadjaaLkOwn
import Derived.Deep.RegionHeld3
namespace Go.Proofs.Ytgjimjpbogadjaa
open Go.RowKit

theorem isLk_map (id : Int) : ∀ (l : List LkC) (vs : List Lk) (k : Int), l.length = vs.length → (∀ i, i < l.length → (l.getD i lkc0).r = (vs.getD i lk0).ref) → idxAt (fun x : LkC => x.r == id) l k = idxAt (isLk id) vs k
  | [], [], _, _, _ => rfl
  | x :: r, y :: t, k, hl, h => by
    have h0 : x.r = y.ref := h 0 (by simp)
    have ih := isLk_map id r t (k + 1) (by simpa using hl) (fun i hi => by simpa using h (i + 1) (by simpa using hi))
    unfold idxAt isLk
    rw [h0, ih]
    rfl
  | [], y :: t, _, hl, _ => by simp at hl
  | x :: r, [], _, hl, _ => by simp at hl
theorem lkRow.at_ref {w : World} {S : Nat → Prop} {n : Nat} {A : Option Addr} {c : Nat} {l : List LkC} {vs : List Lk} (h : lkRow w S n A c l vs) (id : Int) : idxAt (fun x : LkC => x.r == id) l 0 = lkAt vs id :=
  isLk_map id l vs 0 h.1 (fun i hi => (h.2.2.1 i hi).1)

theorem enters_lkbegin : Enters 150 := fun _ _ => by kernel_rfl
set_option maxHeartbeats 400000 in
theorem lkbegin1_any (x : LkC) (id : Int) (gk : Nat) (w : World) (hk : w.cell? ⟨gk, 0, none⟩ = some (.int .i64 id)) :
    Calls Try.prog 150 #[lkV x, .pointer (some ⟨gk, 0, none⟩)] w fun e w' => e = .returned (.bool (x.r == id)) ∧ Below w.heap.size w w' := by
  obtain ⟨x1, ⟨WA, wl, wc⟩, ⟨LA, ll, lc⟩⟩ := x
  have hk1 := lt_of_cell hk
  dsimp only at hk1
  unfold lkV
  dsimp only
  have HI := Lib.hid (show (x1 == id) = (x1 == id) from rfl)
  go_enter Try.func150, Try.ntmps150
  go_wp2_with fail
  go_ret
  exact ⟨rfl, (Below.refl _ _).alloc (Nat.le_refl _) _⟩

set_option maxHeartbeats 400000 in
theorem lkfind_any (id : Int) (gk : Nat) (A : Option Addr) (c : Nat) (l : List LkC) (vs : List Lk) (w : World) (hin : lkRow w (· < w.heap.size) 0 A c l vs) (hk : w.cell? ⟨gk, 0, none⟩ = some (.int .i64 id)) :
    Calls Try.prog 149 #[.slice A l.length c, .func (.func 150) #[] #[.pointer (some ⟨gk, 0, none⟩)]] w fun e w' => e = .returned (.int .i64 (lkAt vs id)) ∧ Below w.heap.size w w' := by
  have hgl : gk < w.heap.size := lt_of_cell hk
  have hx := indexFunc_lk A c l 150 #[.pointer (some ⟨gk, 0, none⟩)] (fun x => x.r == id) w.heap.size (fun u => Below w.heap.size w u) w enters_lkbegin (Nat.le_trans hin.2.2.2.1 hin.2.2.2.2.1)
    (fun u hu => hin.row.below hu)
    (fun x _ u hu => (lkbegin1_any x id gk u ((hu.cell (p := ⟨gk, 0, none⟩) hgl).trans hk)).mono fun e w' ⟨h1, h2⟩ => ⟨h1, hu.trans (h2.mono hu.size)⟩) (Below.refl _ _)
  rw [hin.at_ref] at hx
  exact hx

set_option maxRecDepth 100000 in
set_option maxHeartbeats 1000000 in
theorem linkAt_any (id : Int) (A : Option Addr) (c : Nat) (l : List LkC) (vs : List Lk) (w : World) (hin : lkRow w (· < w.heap.size) 0 A c l vs) :
    Calls Try.prog 54 #[.slice A l.length c, .int .i64 id] w fun e w' => e = .returned (.int .i64 (lkAt vs id)) ∧ Below w.heap.size w w' := by
  have HR := Lib.hid hin.row
  have HL := Lib.hid (hin.at_ref id).symm
  have hlm : l.length ≤ 2 ^ 63 - 1 := Nat.le_trans hin.2.2.2.1 hin.2.2.2.2.1
  generalize lkAt vs id = R at *
  clear hin
  go_enter Try.func54, Try.ntmps54
  go_wp2_with fail
  go_loopg [9] l.length (fun gk i wr => ∃ k : Nat, gk = l.length - k ∧ k ≤ l.length ∧ i = .int .i64 k ∧ idxAt (fun x : LkC => x.r == id) l 0 = idxAt (fun x : LkC => x.r == id) (l.drop k) k ∧ Below w.heap.size w wr)
  case atStart => exact ⟨0, by omega, by omega, rfl, rfl, Below.refl _ _⟩
  case round =>
    obtain ⟨k, hgk, hk, rfl, hF, hb⟩ := hrel
    have HK := Lib.hid hgk
    have HF := Lib.hid hF
    have HB := Lib.hid hb
    have hbs := hb.size
    clear hgk hF hb
    by_cases hlt : k < l.length
    · obtain ⟨b, o, rfl, hbl, c0, c1, c2⟩ := (HR.out.below HB.out).lk hlt lkc0
      have HD := Lib.hid (idxAt_drop (fun x : LkC => x.r == id) l lkc0 k hlt k)
      generalize l.getD k lkc0 = y at *
      obtain ⟨y0, ⟨WA, wl, wc⟩, ⟨LA, ll, lc⟩⟩ := y
      dsimp only at c0 c1 c2 HD
      by_cases hy : y0 = id
      · have b1 : (y0 == id) = true := by simpa using hy
        have HE := Lib.hid (show R = (k : Int) by rw [HL.out, HF.out, HD.out, if_pos b1])
        clear hy
        go_wp2_with fail
        go_ret
        exact ⟨by rw [HE.out]; rfl, HB.out.alloc hbs _⟩
      · have b1 : (y0 == id) = false := by simpa using hy
        have HE := Lib.hid (show idxAt (fun x : LkC => x.r == id) l 0 = idxAt (fun x : LkC => x.r == id) (l.drop (k + 1)) ((k + 1 : Nat) : Int) by rw [HF.out, HD.out, if_neg (by rw [b1]; decide)]; rfl)
        clear hy
        go_wp2_with fail
        go_roundg (l.length - (k + 1))
        case measure => have := HK.out; omega
        case rel => exact ⟨k + 1, rfl, by omega, by go_num, HE.out, HB.out.alloc hbs _⟩
    · have HE := Lib.hid (show R = -1 by rw [HL.out, HF.out, List.drop_eq_nil_of_le (by omega)]; rfl)
      go_wp2_with fail
      go_ret
      exact ⟨by rw [HE.out]; rfl, HB.out⟩


/-- What a copy of rows leaves. -/
def LkCopy (vs : List Lk) (m : Nat) (w : World) (e : Ending) (w' : World) : Prop := ∃ A' c' l', e = .returned (.slice A' m c') ∧ l'.length = m ∧ OwnLks w' w.heap.size A' c' l' vs ∧ Below w.heap.size w w'

set_option maxRecDepth 100000 in
set_option maxHeartbeats 2000000 in
theorem lkcopy_any (A : Option Addr) (c : Nat) (l : List LkC) (vs : List Lk) (w : World) (hin : lkRow w (· < w.heap.size) 0 A c l vs) (h100 : l.length ≤ 100) :
    Calls Try.prog 92 #[.slice A l.length c] w fun e w' => LkCopy vs l.length w e w' := by
  have HLV := Lib.hid hin.1
  have HH := Lib.hid hin
  clear hin
  go_enter Try.func92, Try.ntmps92
  go_wp2_with fail
  go_loopg [3, 8] l.length (fun gk v i wr => ∃ (k : Nat) (A1 : Option Addr) (c1 : Nat) (l1 : List LkC), gk = l.length - k ∧ k ≤ l.length ∧ v = .slice A1 k c1 ∧ i = .int .i64 k ∧ l1.length = k ∧ OwnLks wr w.heap.size A1 c1 l1 (vs.take k) ∧ Below w.heap.size w wr)
  case atStart => exact ⟨0, none, 0, [], by omega, by omega, rfl, rfl, rfl, OwnLks.nil, Below.refl _ _⟩
  case round =>
    obtain ⟨k, A1, c1, l1, hgk, hk, rfl, rfl, hl1, hown, hb⟩ := hrel
    have HK := Lib.hid hgk
    have HL1 := Lib.hid hl1
    have HO := Lib.hid hown
    have HB := Lib.hid hb
    have hbs := hb.size
    clear hgk hl1 hown hb
    by_cases hlt : k < l.length
    · have hro := HH.out.below HB.out (fun _ h => h)
      obtain ⟨b, o, rfl, hbl, c0, c1', c2⟩ := hro.row.lk hlt lkc0
      have hi := hro.2.2.1 k hlt
      have HT := Lib.hid (take_getD vs lk0 (show k < vs.length by rw [← HLV.out]; exact hlt))
      generalize vs.getD k lk0 = y at *
      generalize l.getD k lkc0 = z at *
      obtain ⟨y0, ws, ls⟩ := y
      obtain ⟨z0, ⟨WA, wl, wc⟩, ⟨LA, ll, lc⟩⟩ := z
      obtain ⟨e0, i1, i2⟩ := hi
      dsimp only at c0 c1' c2 e0 i1 i2
      subst e0
      have q1 : wl = ws.length := i1.1
      have q2 : ll = ls.length := i2.1
      subst q1 q2
      have hbelow0 : Below w.heap.size wr (wr.alloc (.cells #[.int .i64 z0, .slice WA ws.length wc, .slice LA ls.length lc] 114)) := ((Below.refl w.heap.size wr).alloc hbs _)
      have HI1 := Lib.hid (i1.below hbelow0 (fun _ h => h))
      have HI2 := Lib.hid (i2.below hbelow0 (fun _ h => h))
      have HO2 := Lib.hid (HO.out.below ((Below.refl wr.heap.size wr).alloc (Nat.le_refl _) (.cells #[.int .i64 z0, .slice WA ws.length wc, .slice LA ls.length lc] 114)))
      have HB2 := Lib.hid (HB.out.trans hbelow0)
      clear i1 i2 hro hbelow0
      go_upto_region 5 with fail
      have hbx := Box.new wr 114 #[.int .i64 z0, .slice WA ws.length wc, .slice LA ls.length lc]
      have hgA : ¬ blkS A1 wr.heap.size := fun h => by have := (blkS_lt HO.out.row h).2; omega
      have hgs : wr.heap.size < (wr.alloc (.cells #[.int .i64 z0, .slice WA ws.length wc, .slice LA ls.length lc] 114)).heap.size := hbx.lt
      obtain ⟨g, hg⟩ : ∃ g, wr.heap.size = g := ⟨_, rfl⟩
      rw [hg] at hbx hgA hgs ⊢
      clear c0 c1' c2 HO HB hg
      generalize wr.alloc (.cells #[.int .i64 z0, .slice WA ws.length wc, .slice LA ls.length lc] 114) = w2 at *
      have x0 := hbx.cell 0
      have x1 := hbx.cell 1
      have x2 := hbx.cell 2
      simp only [List.getElem?_toArray, List.getElem?_cons_zero, List.getElem?_cons_succ] at x0 x1 x2
      have HSK := Lib.hid (show ∀ w', Below w2.heap.size w2 w' → w'.cell? ⟨g, 0, none⟩ = some (.int .i64 z0) ∧ w'.cell? ⟨g, 1, none⟩ = some (.slice WA ws.length wc) ∧ w'.cell? ⟨g, 2, none⟩ = some (.slice LA ls.length lc) from
        fun w' h => ⟨(h.cell (p := ⟨g, 0, none⟩) hgs).trans x0, (h.cell (p := ⟨g, 1, none⟩) hgs).trans x1, (h.cell (p := ⟨g, 2, none⟩) hgs).trans x2⟩)
      have HSO := Lib.hid (show ∀ w' w'', Below w2.heap.size w2 w' → Only (fun b => blkS A1 b) w' w'' → w''.cell? ⟨g, 0, none⟩ = some (.int .i64 z0) ∧ w''.cell? ⟨g, 1, none⟩ = some (.slice WA ws.length wc) ∧ w''.cell? ⟨g, 2, none⟩ = some (.slice LA ls.length lc) from
        fun w' w'' h ho => by
          have hlt : g < w'.heap.size := Nat.lt_of_lt_of_le hgs h.size
          have hb2 : w''.heap[g]? = w'.heap[g]? := ho.block g hlt hgA
          obtain ⟨a0, a1, a2⟩ := HSK.out w' h
          refine ⟨?_, ?_, ?_⟩
          · rw [← a0]; simp only [World.cell?, hb2]
          · rw [← a1]; simp only [World.cell?, hb2]
          · rw [← a2]; simp only [World.cell?, hb2])
      have HWI := Lib.hid (fun (w' : World) (h : Below w2.heap.size w2 w') => HI1.out.below (h.mono HB2.out.size) (fun _ h => h))
      have HLI := Lib.hid (fun (w' : World) (h : Below w2.heap.size w2 w') => HI2.out.below (h.mono HB2.out.size) (fun _ h => h))
      have HCW := Lib.hid (fun (w' : World) (h : Below w2.heap.size w2 w') => cloneI WA wc ws _ w' (HWI.out w' h))
      have HCL := Lib.hid (fun (w' : World) (h : Below w2.heap.size w2 w') => cloneI LA lc ls _ w' (HLI.out w' h))
      have hk100 : (k + 1) * 56 ≤ 140737488355328 := by omega
      clear hbx HI1 HI2 hgA
      go_region_held3 (fun w' => w'.cell? ⟨g, 0, none⟩ = some (.int .i64 z0) ∧ w'.cell? ⟨g, 1, none⟩ = some (.slice WA ws.length wc) ∧ w'.cell? ⟨g, 2, none⟩ = some (.slice LA ls.length lc))
        ((first | exact HSO.out _ _ (hk5.alloc hk5.size _) ho6 | exact HSK.out _ (hk5.alloc hk5.size _) | exact HSK.out _ hk5 | exact HSK.out _ hk4 | exact HSK.out _ (below_drewN (Below.refl _ _) 1) | go_keep))
        ((first
          | ((refine step_push_lk (by rfl) (.tmp 12) (.tmp 22) (by rfl) w.heap.size A1 c1 k l1 (vs.take k) HL1.out (by rfl) ((HO2.out.below hk5).below ((Below.refl w5.heap.size w5).alloc (Nat.le_refl _) _)) w5.heap.size ⟨z0, ⟨yA, ws.length, yc⟩, ⟨zA, ls.length, zc⟩⟩ ⟨z0, ws, ls⟩ (by rfl) (lk_new w5 _) ((hp.lower HB2.out.size).below ((Below.refl w5.heap.size w5).alloc (Nat.le_refl _) _)) (LkOwn.new HO2.out hp) hk100 (Nat.le_trans HB2.out.size (hk5.alloc hk5.size _).size) ?_); intro A2 c2 w6 hown2 hb6 ho6)
          | (go_at_call 128; (with_reducible refine (HCL.out _ hk4).mono ?_); rintro e w5 ⟨zA, zc, rfl, hz, hb5⟩; have hk5 := hk4.trans (hb5.mono hk4.size); have hp := lk_pair1 (r := z0) hk4.size hy hz hb5)
          | (go_at_call 128; (with_reducible refine (HCW.out _ hk4).mono ?_); rintro e w5 ⟨yA, yc, rfl, hy, hb5⟩; have hk5 := hk4.trans (hb5.mono hk4.size); have hp := lk_pair2 (r := z0) hk4.size hz hy hb5)
          | (go_at_call 128; (with_reducible refine (HCW.out _ (show Below w2.heap.size w2 w2.drew from below_drewN (Below.refl _ _) 1)).mono ?_); rintro e w4 ⟨yA, yc, rfl, hy, hb4⟩; have hk4 := (show Below w2.heap.size w2 w2.drew from below_drewN (Below.refl _ _) 1).trans hb4)
          | (go_at_call 128; (with_reducible refine (HCL.out _ (show Below w2.heap.size w2 w2.drew from below_drewN (Below.refl _ _) 1)).mono ?_); rintro e w4 ⟨zA, zc, rfl, hz, hb4⟩; have hk4 := (show Below w2.heap.size w2 w2.drew from below_drewN (Below.refl _ _) 1).trans hb4)))
      all_goals
        have HB6 := Lib.hid ((HB2.out.trans ((hk5.alloc hk5.size _).mono HB2.out.size)).trans hb6)
        have HO6 := Lib.hid hown2
        clear hown2 hb6 ho6 hp hk4 hk5
        go_wp2_with fail
        go_roundg (l.length - (k + 1))
        case measure => have := HK.out; omega
        case rel => exact ⟨k + 1, A2, c2, l1 ++ [⟨z0, ⟨yA, ws.length, yc⟩, ⟨zA, ls.length, zc⟩⟩], rfl, by omega, rfl, by go_num, by rw [List.length_append, HL1.out]; rfl, by rw [HT.out]; exact HO6.out, HB6.out⟩
    · obtain rfl : k = l.length := by omega
      go_wp2_with fail
      go_ret
      exact ⟨A1, c1, l1, rfl, HL1.out, by have := HO.out; rwa [List.take_of_length_le (by rw [HLV.out]; omega)] at this, HB.out⟩


set_option maxRecDepth 100000 in
set_option maxHeartbeats 2000000 in
theorem linkOwn_any (A : Option Addr) (c : Nat) (l : List LkC) (vs : List Lk) (w : World) (hin : lkRow w (· < w.heap.size) 0 A c l vs) (h100 : l.length ≤ 100) :
    Calls Try.prog 55 #[.slice A l.length c] w fun e w' => LkCopy vs l.length w e w' := by
  have HLV := Lib.hid hin.1
  have HH := Lib.hid hin
  clear hin
  go_enter Try.func55, Try.ntmps55
  go_wp2_with fail
  go_loopg [3, 8] l.length (fun gk v i wr => ∃ (k : Nat) (A1 : Option Addr) (c1 : Nat) (l1 : List LkC), gk = l.length - k ∧ k ≤ l.length ∧ v = .slice A1 k c1 ∧ i = .int .i64 k ∧ l1.length = k ∧ OwnLks wr w.heap.size A1 c1 l1 (vs.take k) ∧ Below w.heap.size w wr)
  case atStart => exact ⟨0, none, 0, [], by omega, by omega, rfl, rfl, rfl, OwnLks.nil, Below.refl _ _⟩
  case round =>
    obtain ⟨k, A1, c1, l1, hgk, hk, rfl, rfl, hl1, hown, hb⟩ := hrel
    have HK := Lib.hid hgk
    have HL1 := Lib.hid hl1
    have HO := Lib.hid hown
    have HB := Lib.hid hb
    have hbs := hb.size
    clear hgk hl1 hown hb
    by_cases hlt : k < l.length
    · have hro := HH.out.below HB.out (fun _ h => h)
      obtain ⟨b, o, rfl, hbl, c0, c1', c2⟩ := hro.row.lk hlt lkc0
      have hi := hro.2.2.1 k hlt
      have HT := Lib.hid (take_getD vs lk0 (show k < vs.length by rw [← HLV.out]; exact hlt))
      generalize vs.getD k lk0 = y at *
      generalize l.getD k lkc0 = z at *
      obtain ⟨y0, ws, ls⟩ := y
      obtain ⟨z0, ⟨WA, wl, wc⟩, ⟨LA, ll, lc⟩⟩ := z
      obtain ⟨e0, i1, i2⟩ := hi
      dsimp only at c0 c1' c2 e0 i1 i2
      subst e0
      have q1 : wl = ws.length := i1.1
      have q2 : ll = ls.length := i2.1
      subst q1 q2
      have hbelow0 : Below w.heap.size wr (wr.alloc (.cells #[.int .i64 z0, .slice WA ws.length wc, .slice LA ls.length lc] 114)) := ((Below.refl w.heap.size wr).alloc hbs _)
      have HI1 := Lib.hid (i1.below hbelow0 (fun _ h => h))
      have HI2 := Lib.hid (i2.below hbelow0 (fun _ h => h))
      have HO2 := Lib.hid (HO.out.below ((Below.refl wr.heap.size wr).alloc (Nat.le_refl _) (.cells #[.int .i64 z0, .slice WA ws.length wc, .slice LA ls.length lc] 114)))
      have HB2 := Lib.hid (HB.out.trans hbelow0)
      clear i1 i2 hro hbelow0
      go_upto_region 5 with fail
      have hbx := Box.new wr 114 #[.int .i64 z0, .slice WA ws.length wc, .slice LA ls.length lc]
      have hgA : ¬ blkS A1 wr.heap.size := fun h => by have := (blkS_lt HO.out.row h).2; omega
      have hgs : wr.heap.size < (wr.alloc (.cells #[.int .i64 z0, .slice WA ws.length wc, .slice LA ls.length lc] 114)).heap.size := hbx.lt
      obtain ⟨g, hg⟩ : ∃ g, wr.heap.size = g := ⟨_, rfl⟩
      rw [hg] at hbx hgA hgs ⊢
      clear c0 c1' c2 HO HB hg
      generalize wr.alloc (.cells #[.int .i64 z0, .slice WA ws.length wc, .slice LA ls.length lc] 114) = w2 at *
      have x0 := hbx.cell 0
      have x1 := hbx.cell 1
      have x2 := hbx.cell 2
      simp only [List.getElem?_toArray, List.getElem?_cons_zero, List.getElem?_cons_succ] at x0 x1 x2
      have HSK := Lib.hid (show ∀ w', Below w2.heap.size w2 w' → w'.cell? ⟨g, 0, none⟩ = some (.int .i64 z0) ∧ w'.cell? ⟨g, 1, none⟩ = some (.slice WA ws.length wc) ∧ w'.cell? ⟨g, 2, none⟩ = some (.slice LA ls.length lc) from
        fun w' h => ⟨(h.cell (p := ⟨g, 0, none⟩) hgs).trans x0, (h.cell (p := ⟨g, 1, none⟩) hgs).trans x1, (h.cell (p := ⟨g, 2, none⟩) hgs).trans x2⟩)
      have HSO := Lib.hid (show ∀ w' w'', Below w2.heap.size w2 w' → Only (fun b => blkS A1 b) w' w'' → w''.cell? ⟨g, 0, none⟩ = some (.int .i64 z0) ∧ w''.cell? ⟨g, 1, none⟩ = some (.slice WA ws.length wc) ∧ w''.cell? ⟨g, 2, none⟩ = some (.slice LA ls.length lc) from
        fun w' w'' h ho => by
          have hlt : g < w'.heap.size := Nat.lt_of_lt_of_le hgs h.size
          have hb2 : w''.heap[g]? = w'.heap[g]? := ho.block g hlt hgA
          obtain ⟨a0, a1, a2⟩ := HSK.out w' h
          refine ⟨?_, ?_, ?_⟩
          · rw [← a0]; simp only [World.cell?, hb2]
          · rw [← a1]; simp only [World.cell?, hb2]
          · rw [← a2]; simp only [World.cell?, hb2])
      have HWI := Lib.hid (fun (w' : World) (h : Below w2.heap.size w2 w') => HI1.out.below (h.mono HB2.out.size) (fun _ h => h))
      have HLI := Lib.hid (fun (w' : World) (h : Below w2.heap.size w2 w') => HI2.out.below (h.mono HB2.out.size) (fun _ h => h))
      have HCW := Lib.hid (fun (w' : World) (h : Below w2.heap.size w2 w') => cloneI WA wc ws _ w' (HWI.out w' h))
      have HCL := Lib.hid (fun (w' : World) (h : Below w2.heap.size w2 w') => cloneI LA lc ls _ w' (HLI.out w' h))
      have hk100 : (k + 1) * 56 ≤ 140737488355328 := by omega
      clear hbx HI1 HI2 hgA
      go_region_held3 (fun w' => w'.cell? ⟨g, 0, none⟩ = some (.int .i64 z0) ∧ w'.cell? ⟨g, 1, none⟩ = some (.slice WA ws.length wc) ∧ w'.cell? ⟨g, 2, none⟩ = some (.slice LA ls.length lc))
        ((first | exact HSO.out _ _ (hk5.alloc hk5.size _) ho6 | exact HSK.out _ (hk5.alloc hk5.size _) | exact HSK.out _ hk5 | exact HSK.out _ hk4 | exact HSK.out _ (below_drewN (Below.refl _ _) 1) | go_keep))
        ((first
          | ((refine step_push_lk (by rfl) (.tmp 12) (.tmp 22) (by rfl) w.heap.size A1 c1 k l1 (vs.take k) HL1.out (by rfl) ((HO2.out.below hk5).below ((Below.refl w5.heap.size w5).alloc (Nat.le_refl _) _)) w5.heap.size ⟨z0, ⟨yA, ws.length, yc⟩, ⟨zA, ls.length, zc⟩⟩ ⟨z0, ws, ls⟩ (by rfl) (lk_new w5 _) ((hp.lower HB2.out.size).below ((Below.refl w5.heap.size w5).alloc (Nat.le_refl _) _)) (LkOwn.new HO2.out hp) hk100 (Nat.le_trans HB2.out.size (hk5.alloc hk5.size _).size) ?_); intro A2 c2 w6 hown2 hb6 ho6)
          | ((refine step_catnil (by rfl) (.const (.slice none 0 0)) (.tmp 19) (by rfl) (by rfl) LA lc ls (by rfl) _ (HLI.out _ hk4) ?_); intro zA zc w5 hz hb5; have hk5 := hk4.trans (hb5.mono hk4.size); have hp := lk_pair1 (r := z0) hk4.size hy hz hb5)
          | ((refine step_catnil (by rfl) (.const (.slice none 0 0)) (.tmp 16) (by rfl) (by rfl) WA wc ws (by rfl) _ (HWI.out _ hk4) ?_); intro yA yc w5 hy hb5; have hk5 := hk4.trans (hb5.mono hk4.size); have hp := lk_pair2 (r := z0) hk4.size hz hy hb5)
          | ((refine step_catnil (by rfl) (.const (.slice none 0 0)) (.tmp 16) (by rfl) (by rfl) WA wc ws (by rfl) _ (HWI.out _ (show Below w2.heap.size w2 w2.drew from below_drewN (Below.refl _ _) 1)) ?_); intro yA yc w4 hy hb4; have hk4 := (show Below w2.heap.size w2 w2.drew from below_drewN (Below.refl _ _) 1).trans hb4)
          | ((refine step_catnil (by rfl) (.const (.slice none 0 0)) (.tmp 19) (by rfl) (by rfl) LA lc ls (by rfl) _ (HLI.out _ (show Below w2.heap.size w2 w2.drew from below_drewN (Below.refl _ _) 1)) ?_); intro zA zc w4 hz hb4; have hk4 := (show Below w2.heap.size w2 w2.drew from below_drewN (Below.refl _ _) 1).trans hb4)))
      all_goals
        have HB6 := Lib.hid ((HB2.out.trans ((hk5.alloc hk5.size _).mono HB2.out.size)).trans hb6)
        have HO6 := Lib.hid hown2
        clear hown2 hb6 ho6 hp hk4 hk5
        go_wp2_with fail
        go_roundg (l.length - (k + 1))
        case measure => have := HK.out; omega
        case rel => exact ⟨k + 1, A2, c2, l1 ++ [⟨z0, ⟨yA, ws.length, yc⟩, ⟨zA, ls.length, zc⟩⟩], rfl, by omega, rfl, by go_num, by rw [List.length_append, HL1.out]; rfl, by rw [HT.out]; exact HO6.out, HB6.out⟩
    · obtain rfl : k = l.length := by omega
      go_wp2_with fail
      go_ret
      exact ⟨A1, c1, l1, rfl, HL1.out, by have := HO.out; rwa [List.take_of_length_le (by rw [HLV.out]; omega)] at this, HB.out⟩

end Go.Proofs.Ytgjimjpbogadjaa
