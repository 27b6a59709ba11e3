
/-
  timer.Next, timer.Out, timer.Go.
-/
import Derived.Test.YtdjahlkjfpbifaaTm5
import Derived.Test.YtdjahlkjfpbifaaTm4
namespace Go.Proofs.Ytdjahlkjfpbifaa
open Go.RowKit

/-- What lies in a cell, whatever it is. -/
def cellT (w : World) (a : Addr) : Value := (w.cell? a).getD (.bool false)
theorem cellT_of {w : World} {a : Addr} {v : Value} (h : w.cell? a = some v) : w.cell? a = some (cellT w a) := by
  unfold cellT; rw [h]; rfl
theorem cell_farT {w : World} {p q : Addr} {u : Value} (h : p.block ≠ q.block) : (w.setCell q u).cell? p = w.cell? p := by
  simp only [World.cell?, Below.heap_setCell w q u p.block h]
theorem own_cells2T {w : World} {g : Nat} {e : TypeId} {c0 c1 : Value} (h : Box w g e #[c0, c1]) :
    w.cell? ⟨g, 0, none⟩ = some c0 ∧ w.cell? ⟨g, 1, none⟩ = some c1 ∧ w.frozen? ⟨g, 0, none⟩ = false ∧ w.frozen? ⟨g, 1, none⟩ = false :=
  ⟨h.cell 0, h.cell 1, h.frozen 0, h.frozen 1⟩
section
variable {w w1 w2 : World} {g b o : Nat} {a0 a1 d0 : Value}
theorem tm_keep (hb : Below (g + 2) w1 w2) (hbg : b < g + 2)
    (h : Below g w w1 ∧ g + 2 ≤ w1.heap.size ∧ w1.cell? ⟨g, 0, none⟩ = some a0 ∧ w1.cell? ⟨g, 1, none⟩ = some a1 ∧ w1.cell? ⟨b, o, none⟩ = some d0 ∧ w1.cell? ⟨g + 1, 0, none⟩ = some (cellT w1 ⟨g + 1, 0, none⟩) ∧ w1.cell? ⟨g + 1, 1, none⟩ = some (cellT w1 ⟨g + 1, 1, none⟩) ∧ w1.frozen? ⟨g + 1, 0, none⟩ = false ∧ w1.frozen? ⟨g + 1, 1, none⟩ = false) :
    Below g w w2 ∧ g + 2 ≤ w2.heap.size ∧ w2.cell? ⟨g, 0, none⟩ = some a0 ∧ w2.cell? ⟨g, 1, none⟩ = some a1 ∧ w2.cell? ⟨b, o, none⟩ = some d0 ∧ w2.cell? ⟨g + 1, 0, none⟩ = some (cellT w2 ⟨g + 1, 0, none⟩) ∧ w2.cell? ⟨g + 1, 1, none⟩ = some (cellT w2 ⟨g + 1, 1, none⟩) ∧ w2.frozen? ⟨g + 1, 0, none⟩ = false ∧ w2.frozen? ⟨g + 1, 1, none⟩ = false := by
  have hc : ∀ b o, b < g + 2 → w2.cell? ⟨b, o, none⟩ = w1.cell? ⟨b, o, none⟩ := fun b o h => hb.cell (p := ⟨b, o, none⟩) h
  have hz : ∀ b o, b < g + 2 → w2.frozen? ⟨b, o, none⟩ = w1.frozen? ⟨b, o, none⟩ := fun b o h => by simp only [World.frozen?, hb.block b h]
  obtain ⟨h1, h2, h3, h4, h5, h6, h7, h8, h9⟩ := h
  exact ⟨h1.trans (hb.mono (by omega)), Nat.le_trans h2 hb.size, (hc _ _ (by omega)).trans h3, (hc _ _ (by omega)).trans h4, (hc _ _ hbg).trans h5, cellT_of ((hc (g + 1) 0 (by omega)).trans h6), cellT_of ((hc (g + 1) 1 (by omega)).trans h7), (hz (g + 1) 0 (by omega)).trans h8, (hz (g + 1) 1 (by omega)).trans h9⟩
theorem tm_keep_set (i : Nat) (u : Value) (hbg : b < g + 1)
    (h : Below g w w1 ∧ g + 2 ≤ w1.heap.size ∧ w1.cell? ⟨g, 0, none⟩ = some a0 ∧ w1.cell? ⟨g, 1, none⟩ = some a1 ∧ w1.cell? ⟨b, o, none⟩ = some d0 ∧ w1.cell? ⟨g + 1, 0, none⟩ = some (cellT w1 ⟨g + 1, 0, none⟩) ∧ w1.cell? ⟨g + 1, 1, none⟩ = some (cellT w1 ⟨g + 1, 1, none⟩) ∧ w1.frozen? ⟨g + 1, 0, none⟩ = false ∧ w1.frozen? ⟨g + 1, 1, none⟩ = false) :
    Below g w (w1.setCell ⟨g + 1, i, none⟩ u) ∧ g + 2 ≤ (w1.setCell ⟨g + 1, i, none⟩ u).heap.size ∧ (w1.setCell ⟨g + 1, i, none⟩ u).cell? ⟨g, 0, none⟩ = some a0 ∧ (w1.setCell ⟨g + 1, i, none⟩ u).cell? ⟨g, 1, none⟩ = some a1 ∧ (w1.setCell ⟨g + 1, i, none⟩ u).cell? ⟨b, o, none⟩ = some d0 ∧ (w1.setCell ⟨g + 1, i, none⟩ u).cell? ⟨g + 1, 0, none⟩ = some (cellT (w1.setCell ⟨g + 1, i, none⟩ u) ⟨g + 1, 0, none⟩) ∧ (w1.setCell ⟨g + 1, i, none⟩ u).cell? ⟨g + 1, 1, none⟩ = some (cellT (w1.setCell ⟨g + 1, i, none⟩ u) ⟨g + 1, 1, none⟩) ∧ (w1.setCell ⟨g + 1, i, none⟩ u).frozen? ⟨g + 1, 0, none⟩ = false ∧ (w1.setCell ⟨g + 1, i, none⟩ u).frozen? ⟨g + 1, 1, none⟩ = false := by
  obtain ⟨h1, h2, h3, h4, h5, h6, h7, h8, h9⟩ := h
  have hi : ∀ j, w1.cell? ⟨g + 1, j, none⟩ = some (cellT w1 ⟨g + 1, j, none⟩) → (w1.setCell ⟨g + 1, i, none⟩ u).cell? ⟨g + 1, j, none⟩ = some (cellT (w1.setCell ⟨g + 1, i, none⟩ u) ⟨g + 1, j, none⟩) := fun j hj => by
    obtain ⟨v', hv'⟩ := cell?_setCell_some (p := ⟨g + 1, i, none⟩) (x := u) hj
    exact cellT_of hv'
  have hz : ∀ j, (w1.setCell ⟨g + 1, i, none⟩ u).frozen? ⟨g + 1, j, none⟩ = w1.frozen? ⟨g + 1, j, none⟩ := fun j => World.frozen?_setCell _ _ _ _
  exact ⟨h1.setCell (show g ≤ g + 1 by omega) u, by simpa [World.setCell] using h2, (cell_farT (show g ≠ g + 1 by omega)).trans h3, (cell_farT (show g ≠ g + 1 by omega)).trans h4, (cell_farT (show b ≠ g + 1 by omega)).trans h5, hi 0 h6, hi 1 h7, (hz 0).trans h8, (hz 1).trans h9⟩
end

/-- Timers that a call gives. -/
def TmRes (r : Int × List Du) (w : World) (v : Value) (w' : World) : Prop :=
  ∃ A c, v = .agg #[.int .i64 r.1, .slice A r.2.length c] ∧ DuIn w' A r.2 ∧ Below w.heap.size w w'
theorem tm_ok {now : Int} {l : List Du} (h : ¬ tmF now l ≠ 0) : TmOk now l := tmF_ok (by simpa using h)
theorem own_du {w : World} {base n : Nat} {A : Option Addr} {c : Nat} {l : List Du} (h : OwnAt w base 139 2 A n c (flat duC l)) (hl : l.length ≤ 1000) : DuIn w A l := ⟨h.row, by unfold maxLen; omega⟩


set_option maxRecDepth 100000 in
set_option maxHeartbeats 2000000 in
theorem tmnext_any (now : Int) (A : Option Addr) (c : Nat) (l : List Du) (w : World) (hr : DuIn w A l) (hlc : l.length ≤ c) :
    Calls Try.prog 59 #[.agg #[.int .i64 now, .slice A l.length c]] w fun e w' => e = .returned (.tuple #[.int .i64 (nextF now l), .int .i64 (nextE now l)]) ∧ Below w.heap.size w w' := by
  have hal : Below w.heap.size w (w.alloc (.cells #[.int .i64 now, .slice A l.length c] 128)) := (Below.refl _ _).alloc (Nat.le_refl _) _
  have HCK := Lib.hid (tmcheck_any now A c l _ (hr.below hal) hlc)
  have HX : Hid (Box (w.alloc (.cells #[.int .i64 now, .slice A l.length c] 128)) w.heap.size 128 #[.int .i64 now, .slice A l.length c]) := Box.new _ _ _
  have HB := Lib.hid hal
  have HR := Lib.hid (fun (w' : World) (hb : Below w.heap.size w w') => hr.below hb)
  have hs1 : w.heap.size < (w.alloc (.cells #[.int .i64 now, .slice A l.length c] 128)).heap.size := by simp
  have HS := Lib.hid hs1
  clear hal hr hs1
  have HE0 : Hid (nextE now l = if tmF now l ≠ 0 then tmF now l else if l.length = 0 then 4 else 0) := rfl
  have HF0 : Hid (nextF now l = if nextE now l = 0 then (l.getD 0 du0).t - now else 0) := rfl
  by_cases h1 : tmF now l ≠ 0
  · have HE := Lib.hid (show nextE now l = tmF now l by rw [HE0.out, if_pos h1])
    have HF := Lib.hid (show nextF now l = 0 by rw [HF0.out, HE.out, if_neg h1])
    rw [HE.out, HF.out]
    generalize tmF now l = R at *
    have b1 : (R != 0) = true := by simpa using h1
    clear h1 HE HF HE0 HF0 HX HR
    go_enter Try.func59, Try.ntmps59
    go_wp2_with fail
    refine HCK.out.mono ?_
    rintro e w2 ⟨rfl, hb2⟩
    go_wp2_with fail
    go_ret2
    exact ⟨rfl, HB.out.trans (hb2.mono HB.out.size)⟩
  have hok := tm_ok h1
  have h1' : tmF now l = 0 := by simpa using h1
  rw [h1'] at HCK
  by_cases h2 : l.length = 0
  · have HE := Lib.hid (show nextE now l = 4 by rw [HE0.out, if_neg h1, if_pos h2])
    have HF := Lib.hid (show nextF now l = 0 by rw [HF0.out, HE.out]; rfl)
    rw [HE.out, HF.out]
    clear HE HF HE0 HF0 HR hok h1 h1'
    rw [h2] at HCK HX HB HS ⊢
    go_enter Try.func59, Try.ntmps59
    go_wp2_with fail
    refine HCK.out.mono ?_
    rintro e w2 ⟨rfl, hb2⟩
    obtain ⟨x0, x1, _⟩ := own_cells2T (HX.out.below hb2 HS.out)
    have HZ := Lib.hid (HB.out.trans (hb2.mono HB.out.size))
    clear hb2
    go_wp2_with fail
    go_ret2
    exact ⟨rfl, HZ.out⟩
  · have hpos : 0 < l.length := by omega
    have HE := Lib.hid (show nextE now l = 0 by rw [HE0.out, if_neg h1, if_neg h2])
    have HF := Lib.hid (show nextF now l = (l.getD 0 du0).t - now by rw [HF0.out, HE.out]; rfl)
    rw [HE.out, HF.out]
    obtain ⟨hy1, hy2⟩ := hok.rows _ (getD_mem du0 hpos)
    obtain ⟨y, hy⟩ : ∃ y, l.getD 0 du0 = y := ⟨_, rfl⟩
    rw [hy] at hy1 hy2
    rw [hy]
    have HY := Lib.hid hy
    have hn0 := hok.now0
    have hn1 := hok.now1
    have hw : IntKind.i64.wrap (y.t - now) = y.t - now := IntWalk.i64_in _ (by omega)
    have hl0 : decide ((l.length : Int) = 0) = false := decide_eq_false (by omega)
    have hl1 : ((l.length : Int) == 0) = false := by rw [beq_eq_false_iff_ne]; omega
    have hl3 : l ≠ [] := fun e => by rw [e] at hpos; cases hpos
    have hl2 : (0 : Int) < (l.length : Int) := by omega
    have HP := Lib.hid hpos
    clear HE HF HE0 HF0 hok h1 h1' h2 hy
    go_enter Try.func59, Try.ntmps59
    go_wp2_with fail
    refine HCK.out.mono ?_
    rintro e w2 ⟨rfl, hb2⟩
    obtain ⟨x0, x1, _⟩ := own_cells2T (HX.out.below hb2 HS.out)
    have HZ := Lib.hid (HB.out.trans (hb2.mono HB.out.size))
    obtain ⟨b, o, rfl, _, c0, _⟩ := (HR.out w2 HZ.out).1.du hpos du0
    rw [HY.out] at c0
    rw [Nat.zero_mul, Nat.add_zero] at c0
    clear hb2
    go_wp2_with fail
    go_quiet (fail)
    rename_i nq
    go_wp2_with fail
    go_ret2
    exact ⟨rfl, below_drewN HZ.out _⟩

set_option maxRecDepth 100000 in
set_option maxHeartbeats 4000000 in
theorem tmout_any (now : Int) (A : Option Addr) (c : Nat) (l : List Du) (id : Int) (w : World) (hr : DuIn w A l) (hlc : l.length ≤ c) (hA : A = none → c = 0) :
    Calls Try.prog 57 #[.agg #[.int .i64 now, .slice A l.length c], .int .i64 id] w fun e w' => ∃ v, e = .returned (.tuple #[v, .int .i64 (outL now l id), .int .i64 (outE now l id)]) ∧ TmRes (outF now l id) w v w' := by
  have hal : Below w.heap.size w ((w.alloc (.cells #[.int .i64 now, .slice A l.length c] 128)).alloc (.cells #[.int .i64 0, .slice none 0 0] 128)) := ((Below.refl _ _).alloc (Nat.le_refl _) _).alloc (by simp) _
  have HCK := Lib.hid (tmcheck_any now A c l _ (hr.below hal) hlc)
  have HX : Hid (Box ((w.alloc (.cells #[.int .i64 now, .slice A l.length c] 128)).alloc (.cells #[.int .i64 0, .slice none 0 0] 128)) w.heap.size 128 #[.int .i64 now, .slice A l.length c]) := (Box.new _ _ _).alloc _
  have HX2 : Hid (Box ((w.alloc (.cells #[.int .i64 now, .slice A l.length c] 128)).alloc (.cells #[.int .i64 0, .slice none 0 0] 128)) (w.heap.size + 1) 128 #[.int .i64 0, .slice none 0 0]) := by
    have := Box.new (w.alloc (.cells #[.int .i64 now, .slice A l.length c] 128)) 128 #[.int .i64 0, .slice none 0 0]
    rwa [show (w.alloc (.cells #[.int .i64 now, .slice A l.length c] 128)).heap.size = w.heap.size + 1 by simp] at this
  have HB := Lib.hid hal
  have HR := Lib.hid (fun (w' : World) (hb : Below w.heap.size w w') => hr.below hb)
  have HS : Hid (((w.alloc (.cells #[.int .i64 now, .slice A l.length c] 128)).alloc (.cells #[.int .i64 0, .slice none 0 0] 128)).heap.size = w.heap.size + 2) := by show _ = _; simp
  have HRW := Lib.hid hr
  clear hal hr
  have HE0 : Hid (outE now l id = if tmF now l ≠ 0 then tmF now l else if atD l id = 0 then 4 else 0) := rfl
  have HF0 : Hid (outF now l id = if outE now l id = 0 then (now, restD l id) else (0, [])) := rfl
  have HL0 : Hid (outL now l id = if outE now l id = 0 then atD l id - now else 0) := rfl
  by_cases h1 : tmF now l ≠ 0
  · have HE := Lib.hid (show outE now l id = tmF now l by rw [HE0.out, if_pos h1])
    rw [HF0.out, HL0.out, HE.out, if_neg h1, if_neg h1]
    generalize tmF now l = R at *
    have b1 : (R != 0) = true := by simpa using h1
    clear h1 HE HE0 HF0 HL0
    go_enter Try.func57, Try.ntmps57
    go_wp2_with fail
    refine HCK.out.mono ?_
    rintro e w2 ⟨rfl, hb2⟩
    obtain ⟨x0, x1, _⟩ := own_cells2T (HX.out.below hb2 (by have := HS.out; omega))
    obtain ⟨r0, r1, z0, z1⟩ := own_cells2T (HX2.out.below hb2 (by have := HS.out; omega))
    have HZ := Lib.hid (HB.out.trans (hb2.mono HB.out.size))
    have hsz : w.heap.size + 2 ≤ w2.heap.size := by have := HS.out; have := hb2.size; omega
    clear hb2
    go_wp2_with fail
    refine bodyPost_ret (v := .tuple #[.agg #[.int .i64 0, .slice none 0 0], .int .i64 0, .int .i64 R]) (by simp [results, Try.results57, go_sem, r0, r1]) rfl ?_
    exact ⟨_, rfl, none, 0, rfl, DuIn.nil _, (HZ.out.setCell (by show w.heap.size ≤ w.heap.size + 1; omega) _).setCell (by show w.heap.size ≤ w.heap.size + 1; omega) _⟩
  have hok := tm_ok h1
  have h1' : tmF now l = 0 := by simpa using h1
  rw [h1'] at HCK
  rcases atD_pos hok (id := id) with ⟨k1, k2, k3⟩ | ⟨i, k1, k2, k3, k4, k5, k6⟩
  · have HE := Lib.hid (show outE now l id = 4 by rw [HE0.out, if_neg h1, if_pos k2])
    rw [HF0.out, HL0.out, HE.out, if_neg (by decide), if_neg (by decide)]
    have HFN := Lib.hid (fun (w' : World) (hb : Below w.heap.size w w') => tmfind_any id A c l w' (HR.out w' hb).1 (HR.out w' hb).2)
    rw [k1] at HFN
    clear h1 h1' HE HE0 HF0 HL0 k1 k2 k3 hok
    go_enter Try.func57, Try.ntmps57
    go_wp2_with fail
    refine HCK.out.mono ?_
    rintro e w2 ⟨rfl, hb2⟩
    obtain ⟨x0, x1, _⟩ := own_cells2T (HX.out.below hb2 (by have := HS.out; omega))
    obtain ⟨r0, r1, z0, z1⟩ := own_cells2T (HX2.out.below hb2 (by have := HS.out; omega))
    have HZ := Lib.hid (HB.out.trans (hb2.mono HB.out.size))
    have hsz : w.heap.size + 2 ≤ w2.heap.size := by have := HS.out; have := hb2.size; omega
    clear hb2
    go_wp2_with fail
    refine (HFN.out _ HZ.out).mono ?_
    rintro e w3 ⟨rfl, hb3⟩
    have r0' := (hb3.cell (p := ⟨w.heap.size + 1, 0, none⟩) (by show w.heap.size + 1 < _; omega)).trans r0
    have r1' := (hb3.cell (p := ⟨w.heap.size + 1, 1, none⟩) (by show w.heap.size + 1 < _; omega)).trans r1
    have z0' : w3.frozen? ⟨w.heap.size + 1, 0, none⟩ = false := by rw [← z0]; simp only [World.frozen?, hb3.block (w.heap.size + 1) (by omega)]
    have z1' : w3.frozen? ⟨w.heap.size + 1, 1, none⟩ = false := by rw [← z1]; simp only [World.frozen?, hb3.block (w.heap.size + 1) (by omega)]
    have HZ3 := Lib.hid (HZ.out.trans (hb3.mono HZ.out.size))
    clear hb3 r0 r1 z0 z1 x0 x1
    go_wp2_with fail
    refine bodyPost_ret (v := .tuple #[.agg #[.int .i64 0, .slice none 0 0], .int .i64 0, .int .i64 4]) (by simp [results, Try.results57, go_sem, r0', r1']) rfl ?_
    exact ⟨_, rfl, none, 0, rfl, DuIn.nil _, (HZ3.out.setCell (by show w.heap.size ≤ w.heap.size + 1; omega) _).setCell (by show w.heap.size ≤ w.heap.size + 1; omega) _⟩
  · have HE := Lib.hid (show outE now l id = 0 by rw [HE0.out, if_neg h1, if_neg (by omega)])
    rw [HF0.out, HL0.out, HE.out, if_pos rfl, if_pos rfl, k3, k6]
    have HFN := Lib.hid (fun (w' : World) (hb : Below w.heap.size w w') => tmfind_any id A c l w' (HR.out w' hb).1 (HR.out w' hb).2)
    rw [k1] at HFN
    obtain ⟨hy1, hy2⟩ := hok.rows _ (getD_mem du0 k2)
    have hn0 := hok.now0
    have hn1 := hok.now1
    have hl1 := hok.len
    have hil : (i : Int) < (l.length : Int) := by omega
    have hi0 : (0 : Int) ≤ (i : Int) := by omega
    have hiw : IntKind.i64.wrap ((i : Int) + 1) = ((i + 1 : Nat) : Int) := by rw [IntWalk.i64_in _ (by omega)]; omega
    obtain ⟨b, o, rfl, hbl, c0, _⟩ := HRW.out.1.du k2 du0
    have HC0 := Lib.hid (show b < w.heap.size ∧ w.cell? ⟨b, o + i * 2, none⟩ = some (.int .i64 (l.getD i du0).t) from ⟨hbl, c0⟩)
    obtain ⟨y, hy⟩ : ∃ y, l.getD i du0 = y := ⟨_, rfl⟩
    rw [hy] at hy1 hy2 HC0
    rw [hy]
    clear hy
    have hw : IntKind.i64.wrap (y.t - now) = y.t - now := IntWalk.i64_in _ (by omega)
    have HCL := Lib.hid (fun (w' : World) (hb : Below w.heap.size w w') => clone_du (some ⟨b, o, none⟩) c l w'.heap.size w' (HR.out w' hb).1 (fun e => by cases e) (by omega))
    have HDL := Lib.hid (fun (base g o cap : Nat) (w' : World) (ho : OwnAt w' base 139 2 (some ⟨g, o, none⟩) l.length cap (flat duC l)) => delete_du base g o cap i l w' ho k2)
    have HLL : Hid ((l.take i ++ l.drop (i + 1)).length ≤ 1000) := by show _ ≤ _; rw [List.length_append, List.length_take, List.length_drop]; omega
    generalize l.take i ++ l.drop (i + 1) = Z at *
    clear h1 h1' HE HE0 HF0 HL0 k1 k3 k4 k5 k6 hok c0 HRW
    go_enter Try.func57, Try.ntmps57
    go_wp2_with fail
    refine HCK.out.mono ?_
    rintro e w2 ⟨rfl, hb2⟩
    obtain ⟨x0, x1, _⟩ := own_cells2T (HX.out.below hb2 (by have := HS.out; omega))
    obtain ⟨r0, r1, z0, z1⟩ := own_cells2T (HX2.out.below hb2 (by have := HS.out; omega))
    have HZ := Lib.hid (HB.out.trans (hb2.mono HB.out.size))
    have hsz : w.heap.size + 2 ≤ w2.heap.size := by have := HS.out; have := hb2.size; omega
    clear hb2
    go_wp2_with fail
    refine (HFN.out _ HZ.out).mono ?_
    rintro e w3 ⟨rfl, hb3⟩
    have HZ3 := Lib.hid (HZ.out.trans (hb3.mono HZ.out.size))
    have x0' := (hb3.cell (p := ⟨w.heap.size, 0, none⟩) (by show w.heap.size < _; omega)).trans x0
    have x1' := (hb3.cell (p := ⟨w.heap.size, 1, none⟩) (by show w.heap.size < _; omega)).trans x1
    have d0' := (HZ3.out.cell (p := ⟨b, o + i * 2, none⟩) HC0.out.1).trans HC0.out.2
    have r0' := cellT_of ((hb3.cell (p := ⟨w.heap.size + 1, 0, none⟩) (by show w.heap.size + 1 < _; omega)).trans r0)
    have r1' := cellT_of ((hb3.cell (p := ⟨w.heap.size + 1, 1, none⟩) (by show w.heap.size + 1 < _; omega)).trans r1)
    have z0' : w3.frozen? ⟨w.heap.size + 1, 0, none⟩ = false := by rw [← z0]; simp only [World.frozen?, hb3.block (w.heap.size + 1) (by omega)]
    have z1' : w3.frozen? ⟨w.heap.size + 1, 1, none⟩ = false := by rw [← z1]; simp only [World.frozen?, hb3.block (w.heap.size + 1) (by omega)]
    have hsz3 : w.heap.size + 2 ≤ w3.heap.size := Nat.le_trans hsz hb3.size
    have h03 : Below w.heap.size w w3 := HZ3.out
    have hbg1 : b < w.heap.size + 1 := by have := HC0.out.1; omega
    have hbg2 : b < w.heap.size + 2 := by omega
    clear hb3 r0 r1 z0 z1 x0 x1 hsz
    go_wp2_with fail
    go_region_held3 (fun w' => Below w.heap.size w w' ∧ w.heap.size + 2 ≤ w'.heap.size ∧ w'.cell? ⟨w.heap.size, 0, none⟩ = some (.int .i64 now) ∧ w'.cell? ⟨w.heap.size, 1, none⟩ = some (.slice (some ⟨b, o, none⟩) l.length c) ∧ w'.cell? ⟨b, o + i * 2, none⟩ = some (.int .i64 y.t) ∧ w'.cell? ⟨w.heap.size + 1, 0, none⟩ = some (cellT w' ⟨w.heap.size + 1, 0, none⟩) ∧ w'.cell? ⟨w.heap.size + 1, 1, none⟩ = some (cellT w' ⟨w.heap.size + 1, 1, none⟩) ∧ w'.frozen? ⟨w.heap.size + 1, 0, none⟩ = false ∧ w'.frozen? ⟨w.heap.size + 1, 1, none⟩ = false)
      ((first
        | (refine tm_keep (w1 := w3) (below_drewN (Below.refl _ _) 1) hbg2 ?_; (repeat' apply And.intro) <;> assumption)
        | (refine tm_keep (hb4.mono (show _ ∧ w.heap.size + 2 ≤ _ ∧ _ by assumption).2.1) hbg2 ?_; assumption)
        | exact hS5
        | (refine tm_keep hb5 hbg2 ?_; assumption)
        | (refine tm_keep_set _ _ hbg1 (tm_keep_set _ _ hbg1 ?_); assumption)
        | go_keep))
      ((first
        | (go_at_call 66; refine (HCL.out _ (show Below w.heap.size w _ ∧ _ by assumption).1).mono ?_; rintro e w4 ⟨v, rfl, hv, hb4⟩; obtain ⟨A4, c4, rfl, ho4⟩ := OwnAt.of_own hv; obtain ⟨g4, o4, rfl, _⟩ := ho4.some_of (by omega); have hlo4 := (show _ ∧ w.heap.size + 2 ≤ _ ∧ _ by assumption).2.1)
        | (go_at_call 109; refine (HDL.out _ g4 o4 c4 _ ho4).mono ?_; rintro e w5 ⟨rfl, ho5, hon5⟩; have hb5 := hon5.to_below (Below.refl (w.heap.size + 2) _) (Nat.le_trans hlo4 hb4.size) (fun j hj => by rw [hj]; exact Nat.le_trans hlo4 ho4.lt.1); have hS5 := tm_keep hb5 hbg2 (by assumption))))
    all_goals
      obtain ⟨h51, h52, _, _, _, h5a, h5b, h5c, h5d⟩ := hS5
      have hg4 := Nat.le_trans hlo4 ho4.lt.1
      have HF5 := Lib.hid (own_du ((ho5.far (p := ⟨w.heap.size + 1, 0, none⟩) (fun g o e => by injection e with e; injection e with e; subst e; show _ ≠ w.heap.size + 1; omega) (.int .i64 now)).far (p := ⟨w.heap.size + 1, 1, none⟩) (fun g o e => by injection e with e; injection e with e; subst e; show _ ≠ w.heap.size + 1; omega) (.slice (some ⟨g4, o4, none⟩) Z.length c4)) HLL.out)
      have HW5 := Lib.hid h51
      clear ho4 ho5 hon5 hb5 hb4 hv
      go_wp2_with fail
      refine bodyPost_ret (v := .tuple #[.agg #[.int .i64 now, .slice (some ⟨g4, o4, none⟩) Z.length c4], .int .i64 (y.t - now), .int .i64 0]) (by simp [results, Try.results57, go_sem, h5a, h5b]) rfl ?_
      exact ⟨_, rfl, some ⟨g4, o4, none⟩, c4, rfl, HF5.out, (HW5.out.setCell (by show w.heap.size ≤ w.heap.size + 1; omega) _).setCell (by show w.heap.size ≤ w.heap.size + 1; omega) _⟩


theorem tm_slice_from (A : Option Addr) (c k : Nat) (l : List Du) (hk : k ≤ l.length) (hc : l.length ≤ c) (hA : A = none → c = 0) :
    ∃ A', (∀ w, (Instr.slice 126 (.slice A l.length c) (some (.int .i64 (k : Int))) none none).run Try.prog w = .ok (.slice A' (l.length - k) (c - k)) w) ∧ (A' = none → c - k = 0) ∧ ∀ w, DuIn w A l → DuIn w A' (l.drop k) := by
  obtain ⟨i0, z0, hi0, hz0, hz1, hz2, hz3⟩ := du_parts
  refine ⟨if c = k then A else A.map (·.add (k * 2)), fun w => ?_, fun h => ?_, fun w h => ⟨?_, by have := h.2; rw [List.length_drop]; omega⟩⟩
  · simp [Instr.slice, Instr.sliceBounds, Instr.sliceBound, run_underlying Try.underlying126, sizeOf, typeInfo, hi0, hz1, asIntOf]
    intro h
    omega
  · by_cases hck : c = k
    · omega
    · rw [if_neg hck] at h
      have : A = none := by
        cases A
        · rfl
        · cases h
      have := hA this
      omega
  · by_cases hkl : k = l.length
    · subst hkl; rw [List.drop_length]; exact Row.nil
    · rw [if_neg (by omega), flat_drop duC_len]
      obtain ⟨b, o, rfl, hb, hcs⟩ := h.1 (by rw [flat_len duC_len]; omega)
      intro hp
      refine ⟨b, o + k * 2, by simp [Addr.add], hb, fun i v hv => ?_⟩
      rw [List.getElem?_drop] at hv
      rw [Nat.add_assoc]
      exact hcs _ v hv
theorem tm_slice_to (A : Option Addr) (c k : Nat) (l : List Du) (hk : k ≤ l.length) (hc : l.length ≤ c) (hA : A = none → c = 0) :
    ∃ A', (∀ w, (Instr.slice 126 (.slice A l.length c) none (some (.int .i64 (k : Int))) (some (.int .i64 (k : Int)))).run Try.prog w = .ok (.slice A' k k) w) ∧ (A' = none → k = 0) ∧ ∀ w, DuIn w A l → DuIn w A' (l.take k) := by
  obtain ⟨i0, z0, hi0, hz0, hz1, hz2, hz3⟩ := du_parts
  refine ⟨if k = 0 then A else A.map (·.add (0 * 2)), fun w => ?_, fun h => ?_, fun w h => ?_⟩
  · simp [Instr.slice, Instr.sliceBounds, Instr.sliceBound, run_underlying Try.underlying126, sizeOf, typeInfo, hi0, asIntOf]
    intro h
    omega
  · by_cases hck : k = 0
    · exact hck
    · rw [if_neg hck] at h
      have : A = none := by
        cases A
        · rfl
        · cases h
      have := hA this
      omega
  · have h2 := h.take k
    by_cases hck : k = 0
    · rw [if_pos hck]; exact h2
    · rw [if_neg hck]
      refine ⟨?_, h2.2⟩
      obtain ⟨b, o, rfl, hb, hcs⟩ := h2.1 (by rw [flat_len duC_len, List.length_take]; omega)
      intro hp
      exact ⟨b, o, by simp [Addr.add], hb, hcs⟩

set_option maxRecDepth 100000 in
set_option maxHeartbeats 4000000 in
theorem tmgo_any (now : Int) (A : Option Addr) (c : Nat) (l : List Du) (ticks : Int) (w : World) (hr : DuIn w A l) (hlc : l.length ≤ c) (hA : A = none → c = 0) :
    Calls Try.prog 58 #[.agg #[.int .i64 now, .slice A l.length c], .int .i64 ticks] w fun e w' => ∃ v A' c', e = .returned (.tuple #[v, .slice A' (goL now l ticks).length c', .int .i64 (goE now l ticks)]) ∧ DuIn w' A' (goL now l ticks) ∧ TmRes (goF now l ticks) w v w' := by
  have hal : Below w.heap.size w ((w.alloc (.cells #[.int .i64 now, .slice A l.length c] 128)).alloc (.cells #[.int .i64 0, .slice none 0 0] 128)) := ((Below.refl _ _).alloc (Nat.le_refl _) _).alloc (by simp) _
  have HCK := Lib.hid (tmcheck_any now A c l _ (hr.below hal) hlc)
  have HX : Hid (Box ((w.alloc (.cells #[.int .i64 now, .slice A l.length c] 128)).alloc (.cells #[.int .i64 0, .slice none 0 0] 128)) w.heap.size 128 #[.int .i64 now, .slice A l.length c]) := (Box.new _ _ _).alloc _
  have HX2 : Hid (Box ((w.alloc (.cells #[.int .i64 now, .slice A l.length c] 128)).alloc (.cells #[.int .i64 0, .slice none 0 0] 128)) (w.heap.size + 1) 128 #[.int .i64 0, .slice none 0 0]) := by
    have := Box.new (w.alloc (.cells #[.int .i64 now, .slice A l.length c] 128)) 128 #[.int .i64 0, .slice none 0 0]
    rwa [show (w.alloc (.cells #[.int .i64 now, .slice A l.length c] 128)).heap.size = w.heap.size + 1 by simp] at this
  have HB := Lib.hid hal
  have HR := Lib.hid (fun (w' : World) (hb : Below w.heap.size w w') => hr.below hb)
  have HS : Hid (((w.alloc (.cells #[.int .i64 now, .slice A l.length c] 128)).alloc (.cells #[.int .i64 0, .slice none 0 0] 128)).heap.size = w.heap.size + 2) := by show _ = _; simp
  have HRW := Lib.hid hr
  clear hal hr
  have HE0 : Hid (goE now l ticks = if tmF now l ≠ 0 then tmF now l else if (decide (0 ≤ ticks) && decide (ticks ≤ 1099511627776 - now)) = false then 1 else 0) := rfl
  have HF0 : Hid (goF now l ticks = if goE now l ticks = 0 then (now + ticks, l.filter (fun x => !upTo (now + ticks) x)) else (0, [])) := rfl
  have HL0 : Hid (goL now l ticks = if goE now l ticks = 0 then l.filter (upTo (now + ticks)) else []) := rfl
  by_cases h1 : tmF now l ≠ 0
  · have HE := Lib.hid (show goE now l ticks = tmF now l by rw [HE0.out, if_pos h1])
    rw [HF0.out, HL0.out, HE.out, if_neg h1, if_neg h1]
    generalize tmF now l = R at *
    have b1 : (R != 0) = true := by simpa using h1
    clear h1 HE HE0 HF0 HL0
    go_enter Try.func58, Try.ntmps58
    go_wp2_with fail
    refine HCK.out.mono ?_
    rintro e w2 ⟨rfl, hb2⟩
    obtain ⟨x0, x1, _⟩ := own_cells2T (HX.out.below hb2 (by have := HS.out; omega))
    obtain ⟨r0, r1, z0, z1⟩ := own_cells2T (HX2.out.below hb2 (by have := HS.out; omega))
    have HZ := Lib.hid (HB.out.trans (hb2.mono HB.out.size))
    have hsz : w.heap.size + 2 ≤ w2.heap.size := by have := HS.out; have := hb2.size; omega
    clear hb2
    go_wp2_with fail
    refine bodyPost_ret (v := .tuple #[.agg #[.int .i64 0, .slice none 0 0], .slice none 0 0, .int .i64 R]) (by simp [results, Try.results58, go_sem, r0, r1]) rfl ?_
    exact ⟨_, none, 0, rfl, DuIn.nil _, none, 0, rfl, DuIn.nil _, (HZ.out.setCell (by show w.heap.size ≤ w.heap.size + 1; omega) _).setCell (by show w.heap.size ≤ w.heap.size + 1; omega) _⟩
  have hok := tm_ok h1
  have h1' : tmF now l = 0 := by simpa using h1
  rw [h1'] at HCK
  have hn0 := hok.now0
  have hn1 := hok.now1
  have hwn : IntKind.i64.wrap (1099511627776 - now) = 1099511627776 - now := IntWalk.i64_in _ (by omega)
  by_cases h2 : ticks < 0
  · have HE := Lib.hid (show goE now l ticks = 1 by rw [HE0.out, if_neg h1, if_pos (by rw [decide_eq_false (by omega : ¬ 0 ≤ ticks)]; rfl)])
    rw [HF0.out, HL0.out, HE.out, if_neg (by decide), if_neg (by decide)]
    have b2 : decide (ticks < 0) = true := decide_eq_true h2
    clear h1 h1' HE HE0 HF0 HL0 hok h2
    go_enter Try.func58, Try.ntmps58
    go_wp2_with fail
    refine HCK.out.mono ?_
    rintro e w2 ⟨rfl, hb2⟩
    obtain ⟨x0, x1, _⟩ := own_cells2T (HX.out.below hb2 (by have := HS.out; omega))
    obtain ⟨r0, r1, z0, z1⟩ := own_cells2T (HX2.out.below hb2 (by have := HS.out; omega))
    have HZ := Lib.hid (HB.out.trans (hb2.mono HB.out.size))
    have hsz : w.heap.size + 2 ≤ w2.heap.size := by have := HS.out; have := hb2.size; omega
    clear hb2
    go_wp2_with fail
    refine bodyPost_ret (v := .tuple #[.agg #[.int .i64 0, .slice none 0 0], .slice none 0 0, .int .i64 1]) (by simp [results, Try.results58, go_sem, r0, r1]) rfl ?_
    exact ⟨_, none, 0, rfl, DuIn.nil _, none, 0, rfl, DuIn.nil _, (HZ.out.setCell (by show w.heap.size ≤ w.heap.size + 1; omega) _).setCell (by show w.heap.size ≤ w.heap.size + 1; omega) _⟩
  have b2 : decide (ticks < 0) = false := decide_eq_false h2
  by_cases h3 : 1099511627776 - now < ticks
  · have HE := Lib.hid (show goE now l ticks = 1 by rw [HE0.out, if_neg h1, if_pos (by rw [decide_eq_false (by omega : ¬ ticks ≤ 1099511627776 - now), Bool.and_false])])
    rw [HF0.out, HL0.out, HE.out, if_neg (by decide), if_neg (by decide)]
    have b3 : decide (1099511627776 - now < ticks) = true := decide_eq_true h3
    clear h1 h1' HE HE0 HF0 HL0 hok h2 h3
    go_enter Try.func58, Try.ntmps58
    go_wp2_with fail
    refine HCK.out.mono ?_
    rintro e w2 ⟨rfl, hb2⟩
    obtain ⟨x0, x1, _⟩ := own_cells2T (HX.out.below hb2 (by have := HS.out; omega))
    obtain ⟨r0, r1, z0, z1⟩ := own_cells2T (HX2.out.below hb2 (by have := HS.out; omega))
    have HZ := Lib.hid (HB.out.trans (hb2.mono HB.out.size))
    have hsz : w.heap.size + 2 ≤ w2.heap.size := by have := HS.out; have := hb2.size; omega
    clear hb2
    go_wp2_with fail
    refine bodyPost_ret (v := .tuple #[.agg #[.int .i64 0, .slice none 0 0], .slice none 0 0, .int .i64 1]) (by simp [results, Try.results58, go_sem, r0, r1]) rfl ?_
    exact ⟨_, none, 0, rfl, DuIn.nil _, none, 0, rfl, DuIn.nil _, (HZ.out.setCell (by show w.heap.size ≤ w.heap.size + 1; omega) _).setCell (by show w.heap.size ≤ w.heap.size + 1; omega) _⟩
  have b3 : decide (1099511627776 - now < ticks) = false := decide_eq_false h3
  have HE := Lib.hid (show goE now l ticks = 0 by rw [HE0.out, if_neg h1, if_neg (by rw [decide_eq_true (by omega : 0 ≤ ticks), decide_eq_true (by omega : ticks ≤ 1099511627776 - now)]; decide)])
  rw [HF0.out, HL0.out, HE.out, if_pos rfl, if_pos rfl]
  have hwt : IntKind.i64.wrap (now + ticks) = now + ticks := IntWalk.i64_in _ (by omega)
  generalize hm : now + ticks = m at *
  obtain ⟨hft, hfd⟩ := cntT_filter m hok.sort
  rw [← hft, ← hfd]
  have hcl := cntT_le m l
  have hl1 := hok.len
  obtain ⟨At, hst, hAt, hrt⟩ := tm_slice_from A c (cntT m l) l hcl hlc hA
  obtain ⟨Ah, hsh, hAh, hrh⟩ := tm_slice_to A c (cntT m l) l hcl hlc hA
  have HST : Hid (∀ k, k ≤ cntT m l → ((k < l.length ∧ (l.getD k du0).t ≤ m) ↔ k < cntT m l)) := fun k hk => cntT_step m l hk
  have HNL := Lib.hid (show (l.drop (cntT m l)).length = l.length - cntT m l ∧ (l.take (cntT m l)).length = cntT m l from ⟨List.length_drop, by rw [List.length_take]; omega⟩)
  have HCT := Lib.hid (fun (w' : World) (hb : Below w.heap.size w w') => by
    have := clone_du At (c - cntT m l) (l.drop (cntT m l)) w'.heap.size w' (hrt w' (HR.out w' hb)).1 hAt (by rw [HNL.out.1]; omega)
    rwa [HNL.out.1] at this)
  have HCH := Lib.hid (fun (w' : World) (hb : Below w.heap.size w w') => by
    have := clone_du Ah (cntT m l) (l.take (cntT m l)) w'.heap.size w' (hrh w' (HR.out w' hb)).1 hAh (by rw [HNL.out.2]; omega)
    rwa [HNL.out.2] at this)
  generalize hcn : cntT m l = n at *
  have hn1' : (n : Int) ≤ (l.length : Int) := by omega
  have hn2' : (0 : Int) ≤ (n : Int) := by omega
  have hbg1 : w.heap.size < w.heap.size + 1 := by omega
  have hbg2 : w.heap.size < w.heap.size + 2 := by omega
  have HLT : Hid ((l.drop n).length ≤ 1000 ∧ (l.take n).length ≤ 1000) := ⟨by rw [HNL.out.1]; omega, by rw [HNL.out.2]; omega⟩
  rw [← hm] at hwt
  have HM := Lib.hid hm
  clear hm h1 h1' h2 h3 hok HE HE0 HF0 HL0 hft hfd hrt hrh hAt hAh hcn
  go_enter Try.func58, Try.ntmps58
  go_wp2_with fail
  refine HCK.out.mono ?_
  rintro e w2 ⟨rfl, hb2⟩
  obtain ⟨x0, x1, _⟩ := own_cells2T (HX.out.below hb2 (by have := HS.out; omega))
  obtain ⟨r0, r1, z0, z1⟩ := own_cells2T (HX2.out.below hb2 (by have := HS.out; omega))
  have HZ := Lib.hid (HB.out.trans (hb2.mono HB.out.size))
  have hsz : w.heap.size + 2 ≤ w2.heap.size := by have := HS.out; have := hb2.size; omega
  clear hb2
  go_wp2_with fail
  rw [HM.out]
  go_loopg [9] l.length (fun gk i wr => ∃ k : Nat, gk = l.length - k ∧ k ≤ n ∧ i = .int .i64 k ∧ w2 = wr)
  case atStart => exact ⟨0, by omega, by omega, rfl, rfl⟩
  case round =>
    obtain ⟨k, hgk, hk, rfl, rfl⟩ := hrel
    have HK := Lib.hid hgk
    have hkk := HST.out k hk
    clear hgk
    by_cases hlt : k < n
    · have hlk : k < l.length := by omega
      have hkt := (hkk.2 hlt).2
      obtain ⟨b, o, rfl, hbl, c0, _⟩ := (HR.out w2 HZ.out).1.du hlk du0
      generalize l.getD k du0 = y at *
      have hd : decide (y.t ≤ m) = true := decide_eq_true hkt
      have hkl : (k : Int) < (l.length : Int) := by omega
      have hk0 : (0 : Int) ≤ (k : Int) := by omega
      clear hkk hkt hst hsh
      go_wp2_with fail
      go_roundg (l.length - (k + 1))
      case measure => have := HK.out; omega
      case rel => exact ⟨k + 1, rfl, by omega, by go_num, rfl⟩
    · obtain rfl : n = k := by omega
      have hno : ¬ (n < l.length ∧ (l.getD n du0).t ≤ m) := fun h => hlt (hkk.1 h)
      clear hkk hlt hk
      by_cases hnl : n < l.length
      · obtain ⟨b, o, hAe, hbl, c0, _⟩ := (HR.out w2 HZ.out).1.du hnl du0
        have hnt : ¬ (l.getD n du0).t ≤ m := fun h => hno ⟨hnl, h⟩
        generalize l.getD n du0 = y at *
        have hd : decide (y.t ≤ m) = false := decide_eq_false hnt
        have hkl : (n : Int) < (l.length : Int) := by omega
        subst hAe
        clear hno hnt
        go_wp2_with fail
        have h02 : Below w.heap.size w w2 := HZ.out
        have r0' := cellT_of r0
        have r1' := cellT_of r1
        go_region_held3 (fun w' => Below w.heap.size w w' ∧ w.heap.size + 2 ≤ w'.heap.size ∧ w'.cell? ⟨w.heap.size, 0, none⟩ = some (.int .i64 now) ∧ w'.cell? ⟨w.heap.size, 1, none⟩ = some (.slice (some ⟨b, o, none⟩) l.length c) ∧ w'.cell? ⟨w.heap.size, 0, none⟩ = some (.int .i64 now) ∧ w'.cell? ⟨w.heap.size + 1, 0, none⟩ = some (cellT w' ⟨w.heap.size + 1, 0, none⟩) ∧ w'.cell? ⟨w.heap.size + 1, 1, none⟩ = some (cellT w' ⟨w.heap.size + 1, 1, none⟩) ∧ w'.frozen? ⟨w.heap.size + 1, 0, none⟩ = false ∧ w'.frozen? ⟨w.heap.size + 1, 1, none⟩ = false)
          ((first
            | (refine tm_keep (w1 := w2) (below_drewN (Below.refl _ _) 1) hbg2 ?_; (repeat' apply And.intro) <;> assumption)
            | exact hS5
            | (refine tm_keep (hbt.mono (show _ ∧ w.heap.size + 2 ≤ _ ∧ _ by assumption).2.1) hbg2 ?_; assumption)
            | (refine tm_keep (hbh.mono (show _ ∧ w.heap.size + 2 ≤ _ ∧ _ by assumption).2.1) hbg2 ?_; assumption)
            | (refine tm_keep_set _ _ hbg1 (tm_keep_set _ _ hbg1 ?_); assumption)
            | go_keep))
          ((first
            | (go_at_call 66; refine (HCT.out _ (show Below w.heap.size w _ ∧ _ by assumption).1).mono ?_; rintro e wt ⟨v, rfl, hv, hbt⟩; obtain ⟨A4, c4, rfl, ho4⟩ := OwnAt.of_own hv; have hlo4 := (show _ ∧ w.heap.size + 2 ≤ _ ∧ _ by assumption).2.1)
            | (go_at_call 66; refine (HCH.out _ (show Below w.heap.size w _ ∧ _ by assumption).1).mono ?_; rintro e wh ⟨v, rfl, hv, hbh⟩; obtain ⟨A5, c5, rfl, ho5⟩ := OwnAt.of_own hv; have hlo5 := (show _ ∧ w.heap.size + 2 ≤ _ ∧ _ by assumption).2.1; have hS5 := tm_keep (hbh.mono hlo5) hbg2 (by assumption))))
        obtain ⟨h51, h52, _, _, _, h5a, h5b, _, _⟩ := hS5
        have ho6 := ho4.below hbh
        have HF4 := Lib.hid (own_du ((ho6.far (p := ⟨w.heap.size + 1, 0, none⟩) (fun g o e => by subst e; have := ho4.lt.1; show g ≠ w.heap.size + 1; omega) (.int .i64 m)).far (p := ⟨w.heap.size + 1, 1, none⟩) (fun g o e => by subst e; have := ho4.lt.1; show g ≠ w.heap.size + 1; omega) (.slice A4 (l.length - n) c4)) HLT.out.1)
        have HF5 := Lib.hid (own_du ((ho5.far (p := ⟨w.heap.size + 1, 0, none⟩) (fun g o e => by subst e; have := ho5.lt.1; show g ≠ w.heap.size + 1; omega) (.int .i64 m)).far (p := ⟨w.heap.size + 1, 1, none⟩) (fun g o e => by subst e; have := ho5.lt.1; show g ≠ w.heap.size + 1; omega) (.slice A4 (l.length - n) c4)) HLT.out.2)
        have HW5 := Lib.hid h51
        clear ho4 ho5 ho6 hbt hbh
        go_wp2_with fail
        refine bodyPost_ret (v := .tuple #[.agg #[.int .i64 m, .slice A4 (l.length - n) c4], .slice A5 n c5, .int .i64 0]) (by simp [results, Try.results58, go_sem, h5a, h5b]) rfl ?_
        exact ⟨_, A5, c5, by rw [HNL.out.2], HF5.out, A4, c4, by rw [HNL.out.1], HF4.out, (HW5.out.setCell (by show w.heap.size ≤ w.heap.size + 1; omega) _).setCell (by show w.heap.size ≤ w.heap.size + 1; omega) _⟩
      · have hkl : ¬ (n : Int) < (l.length : Int) := by omega
        clear hno
        go_wp2_with fail
        have h02 : Below w.heap.size w w2 := HZ.out
        have r0' := cellT_of r0
        have r1' := cellT_of r1
        go_region_held3 (fun w' => Below w.heap.size w w' ∧ w.heap.size + 2 ≤ w'.heap.size ∧ w'.cell? ⟨w.heap.size, 0, none⟩ = some (.int .i64 now) ∧ w'.cell? ⟨w.heap.size, 1, none⟩ = some (.slice A l.length c) ∧ w'.cell? ⟨w.heap.size, 0, none⟩ = some (.int .i64 now) ∧ w'.cell? ⟨w.heap.size + 1, 0, none⟩ = some (cellT w' ⟨w.heap.size + 1, 0, none⟩) ∧ w'.cell? ⟨w.heap.size + 1, 1, none⟩ = some (cellT w' ⟨w.heap.size + 1, 1, none⟩) ∧ w'.frozen? ⟨w.heap.size + 1, 0, none⟩ = false ∧ w'.frozen? ⟨w.heap.size + 1, 1, none⟩ = false)
          ((first
            | (refine tm_keep (w1 := w2) (below_drewN (Below.refl _ _) 1) hbg2 ?_; (repeat' apply And.intro) <;> assumption)
            | exact hS5
            | (refine tm_keep (hbt.mono (show _ ∧ w.heap.size + 2 ≤ _ ∧ _ by assumption).2.1) hbg2 ?_; assumption)
            | (refine tm_keep (hbh.mono (show _ ∧ w.heap.size + 2 ≤ _ ∧ _ by assumption).2.1) hbg2 ?_; assumption)
            | (refine tm_keep_set _ _ hbg1 (tm_keep_set _ _ hbg1 ?_); assumption)
            | go_keep))
          ((first
            | (go_at_call 66; refine (HCT.out _ (show Below w.heap.size w _ ∧ _ by assumption).1).mono ?_; rintro e wt ⟨v, rfl, hv, hbt⟩; obtain ⟨A4, c4, rfl, ho4⟩ := OwnAt.of_own hv; have hlo4 := (show _ ∧ w.heap.size + 2 ≤ _ ∧ _ by assumption).2.1)
            | (go_at_call 66; refine (HCH.out _ (show Below w.heap.size w _ ∧ _ by assumption).1).mono ?_; rintro e wh ⟨v, rfl, hv, hbh⟩; obtain ⟨A5, c5, rfl, ho5⟩ := OwnAt.of_own hv; have hlo5 := (show _ ∧ w.heap.size + 2 ≤ _ ∧ _ by assumption).2.1; have hS5 := tm_keep (hbh.mono hlo5) hbg2 (by assumption))))
        obtain ⟨h51, h52, _, _, _, h5a, h5b, _, _⟩ := hS5
        have ho6 := ho4.below hbh
        have HF4 := Lib.hid (own_du ((ho6.far (p := ⟨w.heap.size + 1, 0, none⟩) (fun g o e => by subst e; have := ho4.lt.1; show g ≠ w.heap.size + 1; omega) (.int .i64 m)).far (p := ⟨w.heap.size + 1, 1, none⟩) (fun g o e => by subst e; have := ho4.lt.1; show g ≠ w.heap.size + 1; omega) (.slice A4 (l.length - n) c4)) HLT.out.1)
        have HF5 := Lib.hid (own_du ((ho5.far (p := ⟨w.heap.size + 1, 0, none⟩) (fun g o e => by subst e; have := ho5.lt.1; show g ≠ w.heap.size + 1; omega) (.int .i64 m)).far (p := ⟨w.heap.size + 1, 1, none⟩) (fun g o e => by subst e; have := ho5.lt.1; show g ≠ w.heap.size + 1; omega) (.slice A4 (l.length - n) c4)) HLT.out.2)
        have HW5 := Lib.hid h51
        clear ho4 ho5 ho6 hbt hbh
        go_wp2_with fail
        refine bodyPost_ret (v := .tuple #[.agg #[.int .i64 m, .slice A4 (l.length - n) c4], .slice A5 n c5, .int .i64 0]) (by simp [results, Try.results58, go_sem, h5a, h5b]) rfl ?_
        exact ⟨_, A5, c5, by rw [HNL.out.2], HF5.out, A4, c4, by rw [HNL.out.1], HF4.out, (HW5.out.setCell (by show w.heap.size ≤ w.heap.size + 1; omega) _).setCell (by show w.heap.size ≤ w.heap.size + 1; omega) _⟩

end Go.Proofs.Ytdjahlkjfpbifaa
