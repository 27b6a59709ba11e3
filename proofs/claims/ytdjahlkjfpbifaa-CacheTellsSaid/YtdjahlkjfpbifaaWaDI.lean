
/-
  slices.Delete and slices.Insert of one element, at roadstead/cache.Way.
-/
import Derived.Test.YtdjahlkjfpbifaaInsAny
import Derived.Test.YtdjahlkjfpbifaaWaRow
import Derived.Outline
namespace Go.Proofs.Ytdjahlkjfpbifaa
open Go.RowKit

theorem zero_wa (w : World) : (zeroValue 77).run Try.prog w = .ok (waV wa0) w := by kernel_rfl
theorem run_clear_wa (w : World) (ty : TypeId) (g o c : Nat) (hc : ∀ j, j < 2 → (w.cell? ⟨g, o + j, none⟩).isSome = true) (hf : ∀ j, j < 2 → w.frozen? ⟨g, o + j, none⟩ = false) :
    (Builtin.clear_ #[75] ty #[.slice (some ⟨g, o, none⟩) 1 c]).run Try.prog w = .ok (.tuple #[]) (w.setCells g o (waC wa0)) := by
  have hst := run_storeCells_cells (P := Try.prog) g o (waC wa0) 0 w (by simpa [waC] using hc) (by simpa [waC] using hf) (wa_one wa0)
  simp only [Nat.add_zero] at hst
  have hz : (Builtin.zeroCells (Value.agg #[.string ⟨#[]⟩, .int .i64 0]).cells 1).toList = waC wa0 := by kernel_rfl
  simp [Builtin.clear_, run_underlying Try.underlying75, hz, hst]

set_option maxRecDepth 100000 in
set_option maxHeartbeats 1000000 in
theorem delete_wa (base g o cap i : Nat) (Y : List Wa) (w : World) (hown : OwnAt w base 77 2 (some ⟨g, o, none⟩) Y.length cap (flat waC Y)) (hi : i < Y.length) :
    Calls Try.prog 87 #[.slice (some ⟨g, o, none⟩) Y.length cap, .int .i64 i, .int .i64 (i + 1 : Nat)] w fun e w' =>
      e = .returned (.slice (some ⟨g, o, none⟩) (Y.take i ++ Y.drop (i + 1)).length cap) ∧ OwnAt w' base 77 2 (some ⟨g, o, none⟩) (Y.take i ++ Y.drop (i + 1)).length cap (flat waC (Y.take i ++ Y.drop (i + 1))) ∧ Only (· = g) w w' := by
  obtain ⟨i0, z0, hi0, hz0, hz1, hz2, hz3⟩ := wa_parts
  have hcap := hown.cap_le
  have hfr := hown.frozen
  obtain ⟨o', hrun, hrow⟩ := hown.tailsD (k := i + 1) (by omega)
  have hfd : (flat waC Y).drop ((i + 1) * 2) = flat waC (Y.drop (i + 1)) := (flat_drop waC_len Y (i + 1)).symm
  have hft : (flat waC Y).take (i * 2) = flat waC (Y.take i) := (flat_take waC_len Y i).symm
  rw [hfd] at hrow
  have hsh := hown.shrinkD (k := i) (by omega)
  rw [hft] at hsh
  obtain ⟨m, hm⟩ : ∃ m, Y.length = i + 1 + m := ⟨Y.length - (i + 1), by omega⟩
  have hla : (Y.take i).length = i := by rw [List.length_take]; omega
  have hlb : (Y.drop (i + 1)).length = m := by rw [List.length_drop]; omega
  rw [List.length_append, hla, hlb]
  generalize Y.take i = Ya at *
  generalize Y.drop (i + 1) = Yb at *
  rw [hm]
  rw [hm] at hcap
  have HSH := Lib.hid hsh
  have HRW := Lib.hid hrow.news
  have HLB : Hid ((flat waC Yb).length = m * 2) := (flat_len waC_len Yb).trans (by rw [hlb])
  have hcl : ∀ W, OwnAt W base 77 2 (some ⟨g, o, none⟩) (i + m) cap (flat waC (Ya ++ Yb)) → ∀ ty, (Builtin.clear_ #[75] ty #[.slice (some ⟨g, o + (i + m) * 2, none⟩) 1 (cap - (i + m))]).run Try.prog W = .ok (.tuple #[]) (W.setCells g (o + (i + m) * 2) (waC wa0)) := fun W hW ty =>
    run_clear_wa W ty g _ _ (fun j hj => by rw [Nat.add_assoc]; exact hW.room (by omega)) (fun j hj => by rw [Nat.add_assoc]; exact hW.frozen _)
  have HCL := Lib.hid hcl
  have HFA : Hid (flat waC Ya ++ flat waC Yb = flat waC (Ya ++ Yb)) := (flat_append (enc := waC) Ya Yb).symm
  unfold maxLen at hcap
  have q1 : (i : Int) ≤ ((i + 1 : Nat) : Int) := by omega
  have q2 : ((i + 1 : Nat) : Int) ≤ ((i + 1 + m : Nat) : Int) := by omega
  have b1 : ((i : Int) == ((i + 1 : Nat) : Int)) = false := by simp; omega
  have b2 : (i == i + 1) = false := by simp
  have q0 : (0 : Int) ≤ (i : Int) + 1 := by omega
  have q1' : (i : Int) ≤ (i : Int) + 1 := by omega
  have q2' : (i : Int) + 1 ≤ (i : Int) + 1 + (m : Int) := by omega
  have q3 : i + m ≤ i + 1 + m := by omega
  have q4 : i + 1 + m ≤ cap := by omega
  have q5 : i ≤ cap := by omega
  have q6 : i + 1 + m - (i + m) = 1 := by omega
  have hne : ¬ cap = i + m := by omega
  clear hown hsh hrow hcl hfd hft hm hla hlb hi
  go_enter Try.func87, Try.ntmps87
  go_wp2_with fail
  go_region_law (refine step_append_in rfl (.tmp 22) (.tmp 25) 75 rfl base 77 i0 2 Try.underlying75 hi0 hz1 g o i cap (flat waC Ya) (by simp [Act.eval, Act.put]) HSH.out ⟨g, o', none⟩ m (cap - (i + 1)) (flat waC Yb) (by simp [Act.eval, Act.put]) HLB.out HRW.out (wa_one_all _) (by omega) ?_; intro w1 hw1 ho1)
  rw [HFA.out] at hw1
  have hcc := HCL.out w1 hw1
  have HW := Lib.hid hw1
  have HO := Lib.hid (((Only.refl (· = g) w).drew).trans ho1)
  clear hw1 ho1
  go_wp2_with fail
  go_ret
  exact ⟨rfl, OwnAt.setsPastD _ _ _ (Nat.le_refl _) HW.out, Only.setsD (S := (· = g)) rfl _ _ _ HO.out⟩

/-- What Insert gives. -/
def Inswa (w : World) (base : Nat) (A : Option Addr) (Z : List Wa) (e : Ending) (w' : World) : Prop :=
  ∃ g' o' cap', e = .returned (.slice (some ⟨g', o', none⟩) Z.length cap') ∧ OwnAt w' base 77 2 (some ⟨g', o', none⟩) Z.length cap' (flat waC Z) ∧ Only (fun b => A.map (·.block) = some b) w w' ∧ (A.map (·.block) = some g' ∨ w.heap.size ≤ g')
theorem ins_len {i : Nat} {Y : List Wa} (x : Wa) (hi : i ≤ Y.length) : (Y.take i ++ x :: Y.drop i).length = Y.length + 1 := by
  rw [List.length_append, List.length_cons, List.length_take, List.length_drop]; omega
theorem box_news_wa {w : World} {b : Nat} {x : Wa} (hb : Box w b 77 (waC x).toArray) : ∀ j u, (waC x)[j]? = some u → w.cell? ((⟨b, 0, none⟩ : Addr).add j) = some u := fun j u hu => by
  rw [addr_add, Nat.zero_add]
  exact (hb.cell j).trans (by simpa using hu)
set_option maxRecDepth 100000 in
set_option maxHeartbeats 1000000 in
/-- Behind the last element. -/
theorem insert_end_wa (base cap b : Nat) (A : Option Addr) (Y : List Wa) (x : Wa) (w : World) (hown : OwnAt w base 77 2 A Y.length cap (flat waC Y)) (hb : Box w b 77 (waC x).toArray) (hbase : base ≤ w.heap.size) (hbig : (Y.length + 1) * 24 ≤ 140737488355328) :
    Calls Try.prog 89 #[.slice A Y.length cap, .int .i64 Y.length, .slice (some ⟨b, 0, none⟩) 1 1] w fun e w' => Inswa w base A (Y ++ [x]) e w' := by
  obtain ⟨i0, z0, hi0, hz0, hz1, hz2, hz3⟩ := wa_parts
  have HO := Lib.hid hown
  have HN := Lib.hid (box_news_wa hb)
  have hcl := hown.cap_le
  have HF : Hid (flat waC Y ++ waC x = flat waC (Y ++ [x])) := by show _ = _; rw [flat_append, flat_one]
  have HL : Hid ((Y ++ [x]).length = Y.length + 1) := by show _ = _; simp
  have HQ := Lib.hid (fun (g' o' cap' : Nat) (w' : World) (h1 : OwnAt w' base 77 2 (some ⟨g', o', none⟩) (Y.length + 1) cap' (flat waC Y ++ waC x)) (h2 : w.grownBy w' (A.map (·.block))) (h3 : A.map (·.block) = some g' ∨ g' = w.heap.size) =>
    show Inswa w base A (Y ++ [x]) (.returned (.slice (some ⟨g', o', none⟩) (Y.length + 1) cap')) w' from ⟨g', o', cap', by rw [HL.out], by rw [HL.out, ← HF.out]; exact h1, ⟨h2.os, h2.tape, h2.output, h2.size, fun i hi hne => h2.block i hi (fun e => hne e.symm)⟩, by rcases h3 with h3 | h3; exact .inl h3; exact .inr (by omega)⟩)
  generalize Y ++ [x] = Z at *
  have hform := hown.form
  unfold maxLen at hcl
  generalize hn : Y.length = n at *
  clear hown hb HF HL hn
  have hnn : ¬ (n : Int) < 0 := by omega
  rcases hform with ⟨rfl, rfl, rfl⟩ | ⟨g, o, rfl⟩
  · go_enter Try.func89, Try.ntmps89
    go_wp2_with (at_builtin; refine wpList_append_q rfl (.tmp 23) (.tmp 24) 75 rfl base 77 i0 z0 2 24 Try.underlying75 hi0 hz0 hz1 hz2 hz3 (by decide) _ _ _ _ rfl HO.out ⟨b, 0, none⟩ 1 1 (waC x) rfl rfl HN.out (wa_one x) (by unfold maxLen; omega) (by omega) hbase (by decide) ?_; intro g' o' cap' w1 h1 h2 h3; have HZ := Lib.hid (HQ.out g' o' cap' w1 h1 h2 h3); clear h1 h2 h3)
    go_ret
    exact HZ.out
  · by_cases hc : cap = n
    all_goals
      go_enter Try.func89, Try.ntmps89
      go_wp2_with (at_builtin; refine wpList_append_q rfl (.tmp 23) (.tmp 24) 75 rfl base 77 i0 z0 2 24 Try.underlying75 hi0 hz0 hz1 hz2 hz3 (by decide) _ _ _ _ rfl HO.out ⟨b, 0, none⟩ 1 1 (waC x) rfl rfl HN.out (wa_one x) (by unfold maxLen; omega) (by omega) hbase (by decide) ?_; intro g' o' cap' w1 h1 h2 h3; have HZ := Lib.hid (HQ.out g' o' cap' w1 h1 h2 h3); clear h1 h2 h3)
      go_ret
      exact HZ.out


set_option maxRecDepth 100000 in
set_option maxHeartbeats 2000000 in
/-- Ahead of an element; there is room. -/
theorem insert_room_wa (base g o cap i m b : Nat) (Y : List Wa) (x : Wa) (w : World) (hown : OwnAt w base 77 2 (some ⟨g, o, none⟩) Y.length cap (flat waC Y)) (hY : Y.length = i + m) (hm : 0 < m) (hb : Box w b 77 (waC x).toArray) (hne : b ≠ g) (hroom : Y.length + 1 ≤ cap) :
    Calls Try.prog 89 #[.slice (some ⟨g, o, none⟩) Y.length cap, .int .i64 i, .slice (some ⟨b, 0, none⟩) 1 1] w fun e w' => Inswa w base (some ⟨g, o, none⟩) (Y.take i ++ x :: Y.drop i) e w' := by
  obtain ⟨i0, z0, hi0, hz0, hz1, hz2, hz3⟩ := wa_parts
  obtain ⟨ys, hys, hext⟩ := hown.extend (n' := Y.length + 1) (by omega) hroom
  have hfl := flat_len waC_len Y
  have hcl := hown.cap_le
  unfold maxLen at hcl
  have HLZ := Lib.hid (ins_len x (show i ≤ Y.length by omega))
  have HD := Lib.hid (show (flat waC (Y.drop i)).length = m * 2 by rw [flat_len waC_len, List.length_drop, hY]; congr 1; omega)
  have hcut : Row w w.heap.size (some ⟨g, o + i * 2, none⟩) (flat waC (Y.drop i)) := by rw [flat_drop waC_len]; exact (hown.cut (k := i) (by omega)).row
  have HSRC := Lib.hid (fun (w' : World) (h : ∀ q : Addr, q.block = g → w'.cell? q = w.cell? q) j u (hu : (flat waC (Y.drop i))[j]? = some u) => (h ((⟨g, o + i * 2, none⟩ : Addr).add j) (by rw [addr_add])).trans (hcut.news j u hu))
  have HV := Lib.hid (fun (w' : World) (h : Only (· = g) w w') => box_news_wa (h.box hb hne))
  have HX := Lib.hid hext
  have HF : Hid (∀ XS D : List Value, XS = flat waC Y ++ ys → D = flat waC (Y.drop i) → splice (splice XS ((i + 1) * 2) D) (i * 2) (waC x) = flat waC (Y.take i ++ x :: Y.drop i)) := by
    intro XS D hX hD'
    subst hX hD'
    rw [Nat.add_mul, Nat.one_mul, splice_down _ _ _ (i * 2) 2 (waC_len x) (by rw [List.length_append, hfl, hys, HD.out, hY]; omega), List.take_append_of_le_length (by rw [hfl, hY]; omega), flat_append, flat_take waC_len]
    rfl
  have HOV := Lib.hid (fun la ca lb cb p => run_overlaps_own (la := la) (ca := ca) (lb := lb) (cb := cb) (p := p) w 75 4 77 Try.underlying75 i0 hi0 126 _ Try.func126 (by kernel_rfl) (by kernel_rfl) (by kernel_rfl) (by kernel_rfl) hb hown (by omega) (by decide) hne)
  have HXL : Hid ((flat waC Y ++ ys).length = (i + m + 1) * 2) := by show _ = _; rw [List.length_append, hfl, hys, hY]; omega
  obtain ⟨XS, hXS⟩ : ∃ XS, XS = flat waC Y ++ ys := ⟨_, rfl⟩
  obtain ⟨D, hDD⟩ : ∃ D, D = flat waC (Y.drop i) := ⟨_, rfl⟩
  have HF2 := Lib.hid (HF.out XS D hXS hDD)
  have HDO := Lib.hid (show ∀ v ∈ D, v.oneCell' = true by rw [hDD]; exact wa_one_all _)
  rw [← hXS] at HX HXL
  rw [← hDD] at HD HSRC
  generalize Y.take i ++ x :: Y.drop i = Z at *
  generalize Y.length = n at *
  subst hY
  clear hown hb hext hys hfl hcut HF hXS hDD
  have hov : ∀ lb cb, (callFunc 126 #[.slice (some ⟨b, 0, none⟩) 1 1, .slice (some ⟨g, o + (i + 1) * 2, none⟩) lb cb]).run Try.prog w = .ok (.value (.bool false)) w := fun lb cb => HOV.out _ _ _ _ _
  have q1 : ¬ cap = i := by omega
  have q2 : ¬ cap = i + 1 := by omega
  have q3 : ¬ cap < i + m + 1 := by omega
  have q4 : (i : Int) ≤ (i : Int) + (m : Int) := by omega
  have q5 : ¬ (cap : Int) < (i : Int) + (m : Int) + 1 := by omega
  have q6 : (i : Int) + 1 ≤ (i : Int) + (m : Int) + 1 := by omega
  have q7 : (i : Int) ≤ (i : Int) + (m : Int) + 1 := by omega
  have b1 : ((i : Int) == ((i + m : Nat) : Int)) = false := by simp; omega
  have b2 : ((i : Int) == (i : Int) + (m : Int)) = false := by simp; omega
  have b3 : (i == i + m) = false := by simp; omega
  go_enter Try.func89, Try.ntmps89
  go_wp2_with fail
  have hw1 : IntKind.i64.wrap ((i : Int) + 1) = (i : Int) + 1 := by rw [IntKind.wrap_i64]; omega
  have hb1 : (0 : Int) ≤ (i : Int) + 1 := by omega
  have htn : ((i : Int) + 1).toNat = i + 1 := by omega
  go_region_law (refine step_copy_at rfl (.tmp 73) (.tmp 76) 75 rfl base 77 i0 2 Try.underlying75 hi0 hz1 g o (i + m + 1) cap XS HX.out ((i + 1) * 2) (o + (i + 1) * 2) m (cap - (i + 1)) rfl ⟨g, o + i * 2, none⟩ (i + m + 1 - i) (cap - i) (by simp [Act.eval, Act.put]) (by simp [Act.eval, Act.put]) D ?_ ?_ ?_ HDO.out ?_; exact HD.out.trans (by congr 1; simp only [Nat.min_def]; split <;> omega); (rw [HD.out]; omega); exact HSRC.out _ (fun _ _ => rfl); intro w1 hw1 ho1; have HW1 := Lib.hid hw1; have HO1 := Lib.hid (((Only.refl (· = g) w).drew).trans ho1); clear hw1 ho1)
  clear hw1 hb1 htn
  go_wp2_with ((with_reducible refine wpList_copy_at rfl (.tmp 80) (.tmp 81) 75 rfl base 77 i0 2 Try.underlying75 hi0 hz1 g o (i + m + 1) cap _ HW1.out (i * 2) (o + i * 2) (i + m + 1 - i) (cap - i) rfl ⟨b, 0, none⟩ 1 1 rfl rfl (waC x) ?_ ?_ (HV.out _ HO1.out) (wa_one x) ?_); (simp only [Nat.min_def]; split <;> simp [waC] <;> omega); (simp [waC]; omega); intro w2 hw2 ho2; have HW2 := Lib.hid hw2; have HO2 := Lib.hid (HO1.out.trans ho2); clear hw2 ho2)
  go_ret
  exact ⟨g, o, cap, by rw [HLZ.out]; rfl, by rw [HLZ.out, ← HF2.out]; exact HW2.out, HO2.out.more (fun b hb => by rw [hb]; rfl), .inl rfl⟩

set_option maxRecDepth 100000 in
set_option maxHeartbeats 2000000 in
/-- Ahead of an element; there is no room. -/
theorem insert_grow_wa (base g o cap i m b : Nat) (Y : List Wa) (x : Wa) (w : World) (hown : OwnAt w base 77 2 (some ⟨g, o, none⟩) Y.length cap (flat waC Y)) (hY : Y.length = i + m) (hm : 0 < m) (hb : Box w b 77 (waC x).toArray) (hroom : ¬ Y.length + 1 ≤ cap) (hbase : base ≤ w.heap.size) (hbig : (Y.length + 1) * 24 ≤ 140737488355328) :
    Calls Try.prog 89 #[.slice (some ⟨g, o, none⟩) Y.length cap, .int .i64 i, .slice (some ⟨b, 0, none⟩) 1 1] w fun e w' => Inswa w base (some ⟨g, o, none⟩) (Y.take i ++ x :: Y.drop i) e w' := by
  obtain ⟨i0, z0, hi0, hz0, hz1, hz2, hz3⟩ := wa_parts
  have hcl := hown.cap_le
  unfold maxLen at hcl
  have hgl := hown.lt
  have HLZ := Lib.hid (ins_len x (show i ≤ Y.length by omega))
  have HD := Lib.hid (show (flat waC (Y.drop i)).length = m * 2 by rw [flat_len waC_len, List.length_drop, hY]; congr 1; omega)
  have hcut : Row w w.heap.size (some ⟨g, o + i * 2, none⟩) (flat waC (Y.drop i)) := by rw [flat_drop waC_len]; exact (hown.cut (k := i) (by omega)).row
  have HSRC := Lib.hid (fun (w' : World) (h : Below w.heap.size w w') j u (hu : (flat waC (Y.drop i))[j]? = some u) => (h.cell (p := (⟨g, o + i * 2, none⟩ : Addr).add j) (by rw [addr_add]; exact hgl.2)).trans (hcut.news j u hu))
  have HV := Lib.hid (fun (w' : World) (h : Below w.heap.size w w') => box_news_wa (hb.below h hb.lt))
  have hsh := hown.shrinkD (k := i) (by omega)
  rw [← flat_take waC_len] at hsh
  have HX := Lib.hid hsh
  have HF : Hid (∀ (D ys : List Value), D = flat waC (Y.drop i) → ys.length = (m + 1) * 2 → splice (splice (flat waC (Y.take i) ++ ys) (i * 2) (waC x)) ((i + 1) * 2) D = flat waC (Y.take i ++ x :: Y.drop i)) := by
    intro D ys hD' hl
    subst hD'
    have hti : (flat waC (Y.take i)).length = i * 2 := by rw [flat_len waC_len, List.length_take, hY, Nat.min_eq_left (by omega)]
    rw [Nat.add_mul, Nat.one_mul, splice_up _ _ _ (i * 2) 2 (waC_len x) (by rw [List.length_append, hti, hl, HD.out]; omega), List.take_append_of_le_length (by rw [hti]; omega), List.take_of_length_le (by rw [hti]; omega), flat_append]
    rfl
  obtain ⟨D, hDD⟩ : ∃ D, D = flat waC (Y.drop i) := ⟨_, rfl⟩
  have HF2 := Lib.hid (fun ys hl => HF.out D ys hDD hl)
  have HDO := Lib.hid (show ∀ v ∈ D, v.oneCell' = true by rw [hDD]; exact wa_one_all _)
  rw [← hDD] at HD HSRC
  generalize Y.take i ++ x :: Y.drop i = Z at *
  generalize Y.take i = Ya at *
  generalize Y.length = n at *
  subst hY
  have hgs := hgl.2
  clear hown hb hcut HF hDD hsh hgl
  obtain rfl : cap = i + m := by omega
  have q1 : ¬ i + m = i := by omega
  have q2 : ¬ i + m = i + 1 ↔ ¬ m = 1 := by omega
  have q4 : (i : Int) ≤ (i : Int) + (m : Int) := by omega
  have b1 : ((i : Int) == ((i + m : Nat) : Int)) = false := by simp; omega
  have b2 : ((i : Int) == (i : Int) + (m : Int)) = false := by simp; omega
  have b3 : (i == i + m) = false := by simp; omega
  clear q2
  go_enter Try.func89, Try.ntmps89
  go_wp2_with (first | (at_builtin; refine wpList_zeros_at rfl (.tmp 34) (.tmp 39) 75 3 rfl base 77 i0 z0 2 24 Try.underlying75 Try.underlying3 hi0 hz0 hz1 hz2 hz3 (by decide) g o i (i + m) (flat waC Ya) rfl HX.out (m + 1) ?_ (by omega) (by omega) (by unfold maxLen; omega) (by rw [show i + (m + 1) = i + m + 1 by omega]; exact hbig) hbase ?_; (simp [Act.eval]; omega); intro cap' ys w1 hys hw1 hb1 hsz1; have HW1 := Lib.hid hw1; have HB1 := Lib.hid hb1; have HS1 := Lib.hid hsz1; have HY1 := Lib.hid hys; have hc1 : ¬ cap' = i := (by have := hw1.cap_le; omega); have hc2 : ¬ cap' = i + 1 := (by have := hw1.cap_le; omega); clear hw1 hb1 hsz1 hys) | ((with_reducible refine wpList_copy_at rfl (.tmp 43) (.tmp 44) 75 rfl base 77 i0 2 Try.underlying75 hi0 hz1 w.heap.size 0 (i + (m + 1)) cap' _ HW1.out (i * 2) (i * 2) (m + 1) (cap' - i) (Nat.zero_add _).symm ⟨b, 0, none⟩ 1 1 rfl rfl (waC x) ?_ ?_ (HV.out _ HB1.out) (wa_one x) ?_); (simp only [Nat.min_def]; split <;> simp [waC] <;> omega); (simp [waC]; omega); intro w2 hw2 ho2; have HW2 := Lib.hid hw2; have HB2 := Lib.hid (ho2.to_below HB1.out HB1.out.size (fun _ h => Nat.le_of_eq h.symm)); clear hw2 ho2))
  have hw1 : IntKind.i64.wrap ((i : Int) + 1) = (i : Int) + 1 := by rw [IntKind.wrap_i64]; omega
  have hb1 : (0 : Int) ≤ (i : Int) + 1 := by omega
  have htn : ((i : Int) + 1).toNat = i + 1 := by omega
  have hi4 : i + 1 ≤ i + (m + 1) := by omega
  have hi5 : (i : Int) + 1 ≤ (i : Int) + ((m : Int) + 1) := by omega
  go_region_law (refine step_copy_at rfl (.tmp 50) (.tmp 53) 75 rfl base 77 i0 2 Try.underlying75 hi0 hz1 w.heap.size 0 (i + (m + 1)) cap' _ HW2.out ((i + 1) * 2) ((i + 1) * 2) (i + (m + 1) - (i + 1)) (cap' - (i + 1)) (Nat.zero_add _).symm ⟨g, o + i * 2, none⟩ m m (by simp [Act.eval, Act.put]) (by simp [Act.eval, Act.put]; intro h; omega) D ?_ ?_ ?_ HDO.out ?_; exact HD.out.trans (by congr 1; simp only [Nat.min_def]; split <;> omega); (rw [HD.out]; omega); exact HSRC.out _ HB2.out.drew; intro w3 hw3 ho3; have HW3 := Lib.hid hw3; have HB3 := Lib.hid (ho3.to_below HB2.out.drew HB2.out.size (fun _ h => Nat.le_of_eq h.symm)); clear hw3 ho3)
  clear hw1 hb1 htn
  go_wp2_with fail
  go_ret
  exact ⟨w.heap.size, 0, cap', by rw [HLZ.out]; rfl, by rw [HLZ.out, ← HF2.out _ HY1.out]; exact HW3.out, Only.of_below HB3.out, .inr (Nat.le_refl _)⟩

/-- slices.Insert of one element into a row of the call's own. -/
theorem insert_wa (base cap i b : Nat) (A : Option Addr) (Y : List Wa) (x : Wa) (w : World) (hown : OwnAt w base 77 2 A Y.length cap (flat waC Y)) (hi : i ≤ Y.length) (hb : Box w b 77 (waC x).toArray) (hne : A.map (·.block) ≠ some b) (hbase : base ≤ w.heap.size) (hbig : (Y.length + 1) * 24 ≤ 140737488355328) :
    Calls Try.prog 89 #[.slice A Y.length cap, .int .i64 i, .slice (some ⟨b, 0, none⟩) 1 1] w fun e w' => Inswa w base A (Y.take i ++ x :: Y.drop i) e w' := by
  by_cases he : i = Y.length
  · subst he
    rw [List.take_length, List.drop_length]
    exact insert_end_wa base cap b A Y x w hown hb hbase hbig
  · obtain ⟨g, o, rfl, _⟩ := hown.some_of (by omega)
    by_cases hroom : Y.length + 1 ≤ cap
    · exact insert_room_wa base g o cap i (Y.length - i) b Y x w hown (by omega) (by omega) hb (fun e => hne (by rw [e]; rfl)) hroom
    · exact insert_grow_wa base g o cap i (Y.length - i) b Y x w hown (by omega) (by omega) hb hroom hbase hbig

end Go.Proofs.Ytdjahlkjfpbifaa
