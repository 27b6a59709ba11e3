
/-
  timer.Set.
-/
import Derived.Test.YtdjahlkjfpbifaaTm6
import Derived.Test.YtdjahlkjfpbifaaTm2
namespace Go.Proofs.Ytdjahlkjfpbifaa
open Go.RowKit

/-- A due appended to dues of the call's own. -/
theorem wpList_push_own {ops : Array Oper} {rest : List Oper} {o : Oper} {a : Act} {w : World} {Q : Exit → Act → World → Prop} (hgd : o.guard = none) (s x : Operand)
    (ho : o.op = .call { callee := .builtin .append, args := #[s, x], argTypes := #[126, 126] })
    (base : Nat) (A : Option Addr) (n cap : Nat) (l : List Du) (hs : a.eval s = .slice A n cap) (hown : OwnAt w base 139 2 A n cap (flat duC l))
    (b : Nat) (y : Du) (hx : a.eval x = .slice (some ⟨b, 0, none⟩) 1 1) (hb : Box w b 139 (duC y).toArray) (hsm : n ≤ 1000) (hbase : base ≤ w.heap.size)
    (h : ∀ g' o' cap' w', OwnAt w' base 139 2 (some ⟨g', o', none⟩) (n + 1) cap' (flat duC (l ++ [y])) → Only (fun b => A.map (·.block) = some b) w w' → (A.map (·.block) = some g' ∨ g' = w.heap.size) → wpList Try.prog ops Q rest (a.put o.dst (.slice (some ⟨g', o', none⟩) (n + 1) cap')) w') :
    wpList Try.prog ops Q (o :: rest) a w := by
  obtain ⟨i0, z0, hi0, hz0, hz1, hz2, hz3⟩ := du_parts
  refine wpList_append_q hgd s x 126 ho base 139 i0 z0 2 16 Try.underlying126 hi0 hz0 hz1 hz2 hz3 (by decide) A n cap _ hs hown ⟨b, 0, none⟩ 1 1 (duC y) hx rfl (box_news_du hb) (du_one y) (by unfold maxLen; omega) (by omega) hbase (by decide) ?_
  intro g' o' cap' w' h1 h2 h3
  refine h g' o' cap' w' ?_ ⟨h2.os, h2.tape, h2.output, h2.size, fun i hi hne => h2.block i hi (fun e => hne e.symm)⟩ h3
  rw [flat_append, flat_one]
  exact h1

set_option maxRecDepth 100000 in
set_option maxHeartbeats 4000000 in
theorem tmset_any (now : Int) (A : Option Addr) (c : Nat) (l : List Du) (id ticks : Int) (w : World) (hr : DuIn w A l) (hlc : l.length ≤ c) (hA : A = none → c = 0) :
    Calls Try.prog 56 #[.agg #[.int .i64 now, .slice A l.length c], .int .i64 id, .int .i64 ticks] w fun e w' => ∃ v, e = .returned (.tuple #[v, .int .i64 (setE now l id ticks)]) ∧ TmRes (setF now l id ticks) w v w' := by
  have hal : Below w.heap.size w (((w.alloc (.cells #[.int .i64 now, .slice A l.length c] 128)).alloc (.cells #[.int .i64 id] 3)).alloc (.cells #[.int .i64 0, .slice none 0 0] 128)) := (((Below.refl _ _).alloc (Nat.le_refl _) _).alloc (by simp) _).alloc (by simp; omega) _
  have HCK := Lib.hid (tmcheck_any now A c l _ (hr.below hal) hlc)
  have HX : Hid (Box (((w.alloc (.cells #[.int .i64 now, .slice A l.length c] 128)).alloc (.cells #[.int .i64 id] 3)).alloc (.cells #[.int .i64 0, .slice none 0 0] 128)) w.heap.size 128 #[.int .i64 now, .slice A l.length c]) := ((Box.new _ _ _).alloc _).alloc _
  have HX1 : Hid (Box (((w.alloc (.cells #[.int .i64 now, .slice A l.length c] 128)).alloc (.cells #[.int .i64 id] 3)).alloc (.cells #[.int .i64 0, .slice none 0 0] 128)) (w.heap.size + 1) 3 #[.int .i64 id]) := by
    have := (Box.new (w.alloc (.cells #[.int .i64 now, .slice A l.length c] 128)) 3 #[.int .i64 id]).alloc (.cells #[.int .i64 0, .slice none 0 0] 128)
    show Box _ _ _ _
    simpa using this
  have HX2 : Hid (Box (((w.alloc (.cells #[.int .i64 now, .slice A l.length c] 128)).alloc (.cells #[.int .i64 id] 3)).alloc (.cells #[.int .i64 0, .slice none 0 0] 128)) (w.heap.size + 1 + 1) 128 #[.int .i64 0, .slice none 0 0]) := by
    have := Box.new ((w.alloc (.cells #[.int .i64 now, .slice A l.length c] 128)).alloc (.cells #[.int .i64 id] 3)) 128 #[.int .i64 0, .slice none 0 0]
    show Box _ _ _ _
    simpa using this
  have HB := Lib.hid hal
  have HR := Lib.hid (fun (w' : World) (hb : Below w.heap.size w w') => hr.below hb)
  have HS : Hid ((((w.alloc (.cells #[.int .i64 now, .slice A l.length c] 128)).alloc (.cells #[.int .i64 id] 3)).alloc (.cells #[.int .i64 0, .slice none 0 0] 128)).heap.size = w.heap.size + 3) := by show _ = _; simp
  clear hal hr
  have HE0 : Hid (setE now l id ticks = if tmF now l ≠ 0 then tmF now l else if (decide (1 ≤ ticks) && decide (ticks ≤ 1099511627776)) = false then 1 else if (restD l id).length = 100 then 6 else 0) := rfl
  have HF0 : Hid (setF now l id ticks = if setE now l id ticks = 0 then (now, insD ⟨now + ticks, id⟩ (restD l id)) else (0, [])) := rfl
  by_cases h1 : tmF now l ≠ 0
  · have HE := Lib.hid (show setE now l id ticks = tmF now l by rw [HE0.out, if_pos h1])
    rw [HF0.out, HE.out, if_neg h1]
    generalize tmF now l = R at *
    have b1 : (R != 0) = true := by simpa using h1
    clear h1 HE HE0 HF0
    go_enter Try.func56, Try.ntmps56
    go_wp2_with fail
    refine HCK.out.mono ?_
    rintro e w2 ⟨rfl, hb2⟩
    obtain ⟨x0, x1, _⟩ := own_cells2T (HX.out.below hb2 (by have := HS.out; omega))
    have k0 : w2.cell? ⟨w.heap.size + 1, 0, none⟩ = some (.int .i64 id) := (HX1.out.below hb2 (by have := HS.out; omega)).cell 0
    obtain ⟨r0, r1, z0, z1⟩ := own_cells2T (HX2.out.below hb2 (by have := HS.out; omega))
    have HZ := Lib.hid (HB.out.trans (hb2.mono HB.out.size))
    have hsz : w.heap.size + 3 ≤ w2.heap.size := by have := HS.out; have := hb2.size; omega
    clear hb2
    go_wp2_with fail
    refine bodyPost_ret (v := .tuple #[.agg #[.int .i64 0, .slice none 0 0], .int .i64 R]) (by simp [results, Try.results56, go_sem, r0, r1]) rfl ?_
    exact ⟨_, rfl, none, 0, rfl, DuIn.nil _, (HZ.out.setCell (by show w.heap.size ≤ w.heap.size + 1 + 1; omega) _).setCell (by show w.heap.size ≤ w.heap.size + 1 + 1; omega) _⟩
  have hok := tm_ok h1
  have h1' : tmF now l = 0 := by simpa using h1
  rw [h1'] at HCK
  have hn0 := hok.now0
  have hn1 := hok.now1
  by_cases h2 : ticks < 1
  · have HE := Lib.hid (show setE now l id ticks = 1 by rw [HE0.out, if_neg h1, if_pos (by rw [decide_eq_false (by omega : ¬ 1 ≤ ticks)]; rfl)])
    rw [HF0.out, HE.out, if_neg (by decide)]
    have b2 : decide (ticks < 1) = true := decide_eq_true h2
    clear h1 h1' HE HE0 HF0 hok h2
    go_enter Try.func56, Try.ntmps56
    go_wp2_with fail
    refine HCK.out.mono ?_
    rintro e w2 ⟨rfl, hb2⟩
    obtain ⟨x0, x1, _⟩ := own_cells2T (HX.out.below hb2 (by have := HS.out; omega))
    have k0 : w2.cell? ⟨w.heap.size + 1, 0, none⟩ = some (.int .i64 id) := (HX1.out.below hb2 (by have := HS.out; omega)).cell 0
    obtain ⟨r0, r1, z0, z1⟩ := own_cells2T (HX2.out.below hb2 (by have := HS.out; omega))
    have HZ := Lib.hid (HB.out.trans (hb2.mono HB.out.size))
    have hsz : w.heap.size + 3 ≤ w2.heap.size := by have := HS.out; have := hb2.size; omega
    clear hb2
    go_wp2_with fail
    refine bodyPost_ret (v := .tuple #[.agg #[.int .i64 0, .slice none 0 0], .int .i64 1]) (by simp [results, Try.results56, go_sem, r0, r1]) rfl ?_
    exact ⟨_, rfl, none, 0, rfl, DuIn.nil _, (HZ.out.setCell (by show w.heap.size ≤ w.heap.size + 1 + 1; omega) _).setCell (by show w.heap.size ≤ w.heap.size + 1 + 1; omega) _⟩
  have b2 : decide (ticks < 1) = false := decide_eq_false h2
  by_cases h3 : 1099511627776 < ticks
  · have HE := Lib.hid (show setE now l id ticks = 1 by rw [HE0.out, if_neg h1, if_pos (by rw [decide_eq_false (by omega : ¬ ticks ≤ 1099511627776), Bool.and_false])])
    rw [HF0.out, HE.out, if_neg (by decide)]
    have b3 : decide (1099511627776 < ticks) = true := decide_eq_true h3
    clear h1 h1' HE HE0 HF0 hok h2 h3
    go_enter Try.func56, Try.ntmps56
    go_wp2_with fail
    refine HCK.out.mono ?_
    rintro e w2 ⟨rfl, hb2⟩
    obtain ⟨x0, x1, _⟩ := own_cells2T (HX.out.below hb2 (by have := HS.out; omega))
    have k0 : w2.cell? ⟨w.heap.size + 1, 0, none⟩ = some (.int .i64 id) := (HX1.out.below hb2 (by have := HS.out; omega)).cell 0
    obtain ⟨r0, r1, z0, z1⟩ := own_cells2T (HX2.out.below hb2 (by have := HS.out; omega))
    have HZ := Lib.hid (HB.out.trans (hb2.mono HB.out.size))
    have hsz : w.heap.size + 3 ≤ w2.heap.size := by have := HS.out; have := hb2.size; omega
    clear hb2
    go_wp2_with fail
    refine bodyPost_ret (v := .tuple #[.agg #[.int .i64 0, .slice none 0 0], .int .i64 1]) (by simp [results, Try.results56, go_sem, r0, r1]) rfl ?_
    exact ⟨_, rfl, none, 0, rfl, DuIn.nil _, (HZ.out.setCell (by show w.heap.size ≤ w.heap.size + 1 + 1; omega) _).setCell (by show w.heap.size ≤ w.heap.size + 1 + 1; omega) _⟩
  have b3 : decide (1099511627776 < ticks) = false := decide_eq_false h3
  have HE1 := Lib.hid (show setE now l id ticks = if (restD l id).length = 100 then 6 else 0 by rw [HE0.out, if_neg h1, if_neg (by rw [decide_eq_true (by omega : 1 ≤ ticks), decide_eq_true (by omega : ticks ≤ 1099511627776)]; decide)])
  have hl1 := hok.len
  have HCL := Lib.hid (fun (w' : World) (hb : Below w.heap.size w w') => clone_du A c l w'.heap.size w' (HR.out w' hb).1 hA (by omega))
  have HDF := Lib.hid (fun (gc base cap : Nat) (A' : Option Addr) (w' : World) hk (ho : OwnAt w' base 139 2 A' l.length cap (flat duC l)) hg => deleteFunc_any id gc base cap A' l w' hk ho hg (by omega))
  have hZ1 : (restD l id).Pairwise (fun a b => duLt a b = true) := hok.sort.filter _
  have hZ2 : ∀ y ∈ restD l id, y.id ≠ id := fun y hy => by
    have := (List.mem_filter.1 hy).2
    unfold isId at this
    simpa using this
  have hZ3 : (restD l id).length ≤ l.length := List.length_filter_le _ _
  generalize restD l id = Z at *
  have HIN := Lib.hid (fun (m : List Du) (hp : m.Perm (Z ++ [⟨now + ticks, id⟩])) (hs : m.Pairwise (fun a b => duLt b a = false)) => sorted_one (l := insD ⟨now + ticks, id⟩ Z) (hp.trans (insD_perm _ _).symm) (insD_sorted ⟨now + ticks, id⟩ Z hZ1 hZ2) hs)
  have HIL := Lib.hid (show (insD ⟨now + ticks, id⟩ Z).length = Z.length + 1 by rw [(insD_perm _ _).length_eq, List.length_append]; rfl)
  clear hZ1 hZ2 h1 h1' h2 h3 HE0 hok
  have hwt : IntKind.i64.wrap (now + ticks) = now + ticks := IntWalk.i64_in _ (by simp at b2 b3; omega)
  have hz1 : Z.length ≤ 100 := by omega
  go_enter Try.func56, Try.ntmps56
  go_wp2_with fail
  refine HCK.out.mono ?_
  rintro e w2 ⟨rfl, hb2⟩
  obtain ⟨x0, x1, _⟩ := own_cells2T (HX.out.below hb2 (by have := HS.out; omega))
  have k0 : w2.cell? ⟨w.heap.size + 1, 0, none⟩ = some (.int .i64 id) := (HX1.out.below hb2 (by have := HS.out; omega)).cell 0
  obtain ⟨r0, r1, z0, z1⟩ := own_cells2T (HX2.out.below hb2 (by have := HS.out; omega))
  have HZ := Lib.hid (HB.out.trans (hb2.mono HB.out.size))
  have hsz : w.heap.size + 3 ≤ w2.heap.size := by have := HS.out; have := hb2.size; omega
  clear hb2
  go_wp2_with fail
  refine (HCL.out _ HZ.out).mono ?_
  rintro e w3 ⟨v, rfl, hv, hb3⟩
  obtain ⟨A3, c3, rfl, ho3⟩ := OwnAt.of_own hv
  have hA3 : ∀ g o, A3 = some ⟨g, o, none⟩ → w2.heap.size ≤ g := fun g o e => by subst e; exact ho3.lt.1
  have hk3 : w3.cell? ⟨w.heap.size + 1, 0, none⟩ = some (.int .i64 id) := (hb3.cell (p := ⟨w.heap.size + 1, 0, none⟩) (by show w.heap.size + 1 < _; omega)).trans k0
  have hg3 : A3.map (·.block) ≠ some (w.heap.size + 1) := fun e => by
    rcases ho3.form with ⟨rfl, _⟩ | ⟨g, o, rfl⟩
    · cases e
    · have := hA3 g o rfl
      simp at e
      omega
  have HB3 := Lib.hid hb3
  have HD := Lib.hid (HDF.out _ _ _ _ _ hk3 ho3 hg3)
  clear hv hk3 hb3 ho3 HCL HDF
  go_wp2_with fail
  refine HD.out.mono ?_
  rintro e w4 ⟨rfl, ho4, hon4⟩
  have hb4 : Below w2.heap.size w2 w4 := hon4.to_below HB3.out HB3.out.size (fun i hi => by
    rcases ho4.form with ⟨rfl, _⟩ | ⟨g, o, rfl⟩
    · cases hi
    · have := hA3 g o rfl
      simp at hi
      omega)
  have HZ4 := Lib.hid (HZ.out.trans (hb4.mono HZ.out.size))
  have x0' := (hb4.cell (p := ⟨w.heap.size, 0, none⟩) (by show w.heap.size < _; omega)).trans x0
  have k0' := (hb4.cell (p := ⟨w.heap.size + 1, 0, none⟩) (by show w.heap.size + 1 < _; omega)).trans k0
  have HO4 := Lib.hid ho4
  have HB4 := Lib.hid hb4
  clear HD ho4 hon4 hg3
  by_cases hfull : Z.length = 100
  · have HES := Lib.hid (show setE now l id ticks = 6 ∧ setF now l id ticks = (0, []) from ⟨by rw [HE1.out, if_pos hfull], by rw [HF0.out, HE1.out, if_pos hfull, if_neg (by decide)]⟩)
    have hfu : ((Z.length : Int) == 100) = true := by rw [beq_iff_eq]; omega
    have r0' := (hb4.cell (p := ⟨w.heap.size + 1 + 1, 0, none⟩) (by show w.heap.size + 1 + 1 < _; omega)).trans r0
    have r1' := (hb4.cell (p := ⟨w.heap.size + 1 + 1, 1, none⟩) (by show w.heap.size + 1 + 1 < _; omega)).trans r1
    have z0' : w4.frozen? ⟨w.heap.size + 1 + 1, 0, none⟩ = false := by rw [← z0]; simp only [World.frozen?, hb4.block (w.heap.size + 1 + 1) (by omega)]
    have z1' : w4.frozen? ⟨w.heap.size + 1 + 1, 1, none⟩ = false := by rw [← z1]; simp only [World.frozen?, hb4.block (w.heap.size + 1 + 1) (by omega)]
    clear hb4 r0 r1 z0 z1 x0 k0
    go_wp2_with fail
    refine bodyPost_ret (v := .tuple #[.agg #[.int .i64 0, .slice none 0 0], .int .i64 6]) (by simp [results, Try.results56, go_sem, r0', r1']) rfl ?_
    rw [HES.out.1, HES.out.2]
    exact ⟨_, rfl, none, 0, rfl, DuIn.nil _, (HZ4.out.setCell (by show w.heap.size ≤ w.heap.size + 1 + 1; omega) _).setCell (by show w.heap.size ≤ w.heap.size + 1 + 1; omega) _⟩
  have HES := Lib.hid (show setE now l id ticks = 0 ∧ setF now l id ticks = (now, insD ⟨now + ticks, id⟩ Z) from ⟨by rw [HE1.out, if_neg hfull], by rw [HF0.out, HE1.out, if_neg hfull, if_pos rfl]⟩)
  have hfd : ((Z.length : Int) == 100) = false := by rw [beq_eq_false_iff_ne]; omega
  have hfd' : decide ((Z.length : Int) = 100) = false := decide_eq_false (by omega)
  have hbx : Box (w4.alloc (.cells #[.int .i64 (now + ticks), .int .i64 id] 139)) w4.heap.size 139 (duC ⟨now + ticks, id⟩).toArray := Box.new _ _ _
  have HBX := Lib.hid hbx
  have HO4A := Lib.hid (HO4.out.alloc (.cells #[.int .i64 (now + ticks), .int .i64 id] 139))
  have HB4A := Lib.hid (hb4.alloc hb4.size (.cells #[.int .i64 (now + ticks), .int .i64 id] 139))
  have hbs : w2.heap.size ≤ (w4.alloc (.cells #[.int .i64 (now + ticks), .int .i64 id] 139)).heap.size := HB4A.out.size
  have HBS := Lib.hid hbs
  clear hbx hbs hb4 hfull
  go_wp2_with (at_builtin; refine wpList_push_own rfl (.tmp 32) (.tmp 39) rfl w2.heap.size A3 Z.length c3 Z rfl HO4A.out w4.heap.size ⟨now + ticks, id⟩ rfl HBX.out (by omega) HBS.out ?_; intro g5 o5 c5 w5 ho5 hon5 hg5)
  have hb5 : Below w2.heap.size w2 w5 := hon5.to_below HB4A.out HB4A.out.size (fun i hi => by
    rcases HO4.out.form with ⟨rfl, _⟩ | ⟨g, o, rfl⟩
    · cases hi
    · have := hA3 g o rfl
      simp at hi
      omega)
  have hsrt := sortDu_own g5 o5 c5 w2.heap.size (Z ++ [⟨now + ticks, id⟩]) w5 (by rw [List.length_append]; exact ho5) (by rw [List.length_append, List.length_singleton]; omega)
  rw [List.length_append, List.length_singleton] at hsrt
  have hg5' := ho5.lt.1
  have HB5 := Lib.hid hb5
  clear ho5 hon5 hg5 hb5 HO4A HBX
  refine hsrt.mono ?_
  rintro e w6 ⟨rfl, l', hp, hs, ho6, hon6⟩
  have hl' := HIN.out l' hp hs
  subst hl'
  rw [HIL.out] at ho6
  have hb6 : Below w2.heap.size w2 w6 := hon6.to_below HB5.out HB5.out.size (fun i hi => by rw [hi]; exact hg5')
  have HZ6 := Lib.hid (HZ.out.trans (hb6.mono HZ.out.size))
  have HO6 := Lib.hid ho6
  have x6 := (hb6.cell (p := ⟨w.heap.size, 0, none⟩) (by show w.heap.size < _; omega)).trans x0
  have r6 := (hb6.cell (p := ⟨w.heap.size + 1 + 1, 0, none⟩) (by show w.heap.size + 1 + 1 < _; omega)).trans r0
  have r7 := (hb6.cell (p := ⟨w.heap.size + 1 + 1, 1, none⟩) (by show w.heap.size + 1 + 1 < _; omega)).trans r1
  have z6 : w6.frozen? ⟨w.heap.size + 1 + 1, 0, none⟩ = false := by rw [← z0]; simp only [World.frozen?, hb6.block (w.heap.size + 1 + 1) (by omega)]
  have z7 : w6.frozen? ⟨w.heap.size + 1 + 1, 1, none⟩ = false := by rw [← z1]; simp only [World.frozen?, hb6.block (w.heap.size + 1 + 1) (by omega)]
  clear hb6 ho6 hon6 hp hs hsrt x0 x0' k0 k0' r0 r1 z0 z1
  go_wp2_with fail
  refine bodyPost_ret (v := .tuple #[.agg #[.int .i64 now, .slice (some ⟨g5, o5, none⟩) (Z.length + 1) c5], .int .i64 0]) (by simp [results, Try.results56, go_sem, r6, r7]) rfl ?_
  rw [HES.out.1, HES.out.2]
  refine ⟨_, rfl, some ⟨g5, o5, none⟩, c5, by rw [HIL.out], own_du ((HO6.out.far (p := ⟨w.heap.size + 1 + 1, 0, none⟩) (fun g o e => by injection e with e; injection e with e; subst e; show _ ≠ w.heap.size + 1 + 1; omega) _).far (p := ⟨w.heap.size + 1 + 1, 1, none⟩) (fun g o e => by injection e with e; injection e with e; subst e; show _ ≠ w.heap.size + 1 + 1; omega) _) (by rw [HIL.out]; omega), (HZ6.out.setCell (by show w.heap.size ≤ w.heap.size + 1 + 1; omega) _).setCell (by show w.heap.size ≤ w.heap.size + 1 + 1; omega) _⟩
end Go.Proofs.Ytdjahlkjfpbifaa
