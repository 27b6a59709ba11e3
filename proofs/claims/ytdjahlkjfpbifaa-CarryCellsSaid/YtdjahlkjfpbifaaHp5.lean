
/-
  An object read at a place of a heap (heap.read).
-/
import Derived.Test.YtdjahlkjfpbifaaHp4
import Derived.Test.YtdjahlkjfpbifaaByB
import Derived.Test.YtdjahlkjfpbifaaOwnOnly
namespace Go.Proofs.Ytdjahlkjfpbifaa
open Go.RowKit

/-- A heap that came in. -/
structure HpIn (w : World) (A : Option Addr) (c : Nat) (h : List Nat) : Prop where
  row : Row w w.heap.size A (flat huC h)
  none : A = none → c = 0
  le : h.length ≤ c
  cap : c ≤ maxLen
  fit : ∀ x ∈ h, x < 18446744073709551616
theorem HpIn.below {w w' : World} {A : Option Addr} {c : Nat} {h : List Nat} (s : HpIn w A c h) (hb : Below w.heap.size w w') : HpIn w' A c h := ⟨(s.row.below hb).more hb.size, s.none, s.le, s.cap, s.fit⟩
theorem HpIn.getD {w : World} {A : Option Addr} {c : Nat} {h : List Nat} (s : HpIn w A c h) (i : Nat) : h.getD i 0 < 18446744073709551616 := by
  rcases Nat.lt_or_ge i h.length with hi | hi
  · rw [List.getD_eq_getElem?_getD, List.getElem?_eq_getElem hi]
    exact s.fit _ (List.getElem_mem hi)
  · rw [List.getD_eq_getElem?_getD, List.getElem?_eq_none hi]
    decide

/-- Parts that the call made. -/
structure PNew (w : World) (base : Nat) (x : OC) : Prop where
  row : Row w w.heap.size x.A (flat huC x.o.parts)
  none : x.A = none → x.c = 0
  le : x.o.parts.length ≤ x.c
  cap : x.c ≤ maxLen
  far : ∀ a, x.A = some a → base ≤ a.block ∧ a.block < w.heap.size
  own : OwnAt w base 90 1 x.A x.o.parts.length x.c (flat huC x.o.parts)
theorem Row.only {w w' : World} {B : Nat} {A : Option Addr} {vs : List Value} {S : Nat → Prop} (h : Row w B A vs) (hB : B ≤ w.heap.size) (ho : Only S w w') (hA : ∀ a, A = some a → ¬ S a.block) : Row w' B A vs := fun hp => by
  obtain ⟨b, o, e, hb, hc⟩ := h hp
  refine ⟨b, o, e, hb, fun i v hv => ?_⟩
  rw [← hc i v hv]
  have := ho.block b (by omega) (hA _ e)
  simp [World.cell?, this]
theorem PNew.below {w w' : World} {base : Nat} {x : OC} (h : PNew w base x) (hb : Below w.heap.size w w') : PNew w' base x := ⟨(h.row.below hb).more hb.size, h.none, h.le, h.cap, fun a ha => ⟨(h.far a ha).1, Nat.lt_of_lt_of_le (h.far a ha).2 hb.size⟩, h.own.below hb⟩
theorem PNew.only {w w' : World} {base : Nat} {x : OC} {S : Nat → Prop} (h : PNew w base x) (ho : Only S w w') (hS : ∀ i, S i → i < base) : PNew w' base x :=
  ⟨(h.row.only (Nat.le_refl _) ho (fun a ha hs => by have := hS _ hs; have := h.far a ha; omega)).more ho.size, h.none, h.le, h.cap, fun a ha => ⟨(h.far a ha).1, Nat.lt_of_lt_of_le (h.far a ha).2 ho.size⟩, h.own.only ho (fun b hb hs => by
    have h1 := hS _ hs
    cases hA : x.A with
    | none => rw [hA] at hb; cases hb
    | some a =>
      rw [hA] at hb
      injection hb with hb
      have h2 : a.block = b := hb
      have := (h.far a hA).1
      omega)⟩
theorem PNew.lower {w : World} {base base' : Nat} {x : OC} (h : PNew w base x) (hb : base' ≤ base) : PNew w base' x := ⟨h.row, h.none, h.le, h.cap, fun a ha => ⟨Nat.le_trans hb (h.far a ha).1, (h.far a ha).2⟩, h.own.lower hb⟩
def ReadPost (w : World) (h : List Nat) (p : Nat) (e : Ending) (w' : World) : Prop := Below w.heap.size w w' ∧ match progF h p with
  | none => e = .returned (.tuple #[ocV oc0, .int .i64 0, .int .i64 3])
  | some o => ∃ y : OC, y.o = o ∧ PNew w' w.heap.size y ∧ e = .returned (.tuple #[ocV y, .int .i64 ((wordsF o).length : Nat), .int .i64 0])

theorem row_drop {w : World} {B b o c : Nat} {h : List Nat} (hr : Row w B (some ⟨b, o, none⟩) (flat huC h)) (k : Nat) (hk : h.length ≤ c) : Row w B (if c = k then some ⟨b, o, none⟩ else some ⟨b, o + k, none⟩) (flat huC (h.drop k)) := by
  intro hpos
  rw [flat_len huC_len, List.length_drop] at hpos
  rw [if_neg (by omega)]
  obtain ⟨b', o', e, hb, hc⟩ := hr (by rw [flat_len huC_len]; omega)
  injection e with e
  injection e with e1 e2 e3
  subst e1 e2
  refine ⟨b, o + k, rfl, hb, fun j v hv => ?_⟩
  rw [Nat.add_assoc]
  refine hc (k + j) v ?_
  have e : flat huC h = flat huC (h.take k) ++ flat huC (h.drop k) := by rw [← flat_append, List.take_append_drop]
  rw [e, List.getElem?_append_right (by rw [flat_len huC_len, List.length_take]; omega), flat_len huC_len, List.length_take]
  rw [show k + j - min k h.length * 1 = j by omega]
  exact hv
theorem row_mid {w : World} {B : Nat} {A : Addr} {l : List Nat} (hr : Row w B (some A) (flat huC l)) (k n : Nat) : Row w B (some (A.add k)) (flat huC ((l.drop k).take n)) := by
  intro hpos
  rw [flat_len huC_len, List.length_take, List.length_drop] at hpos
  obtain ⟨b', o', e, hb, hc⟩ := hr (by rw [flat_len huC_len]; omega)
  injection e with e
  subst e
  refine ⟨b', o' + k, by rw [addr_add], hb, fun j v hv => ?_⟩
  rw [Nat.add_assoc]
  refine hc (k + j) v ?_
  have e : flat huC l = flat huC (l.take k) ++ (flat huC ((l.drop k).take n) ++ flat huC ((l.drop k).drop n)) := by rw [← flat_append, ← flat_append, List.take_append_drop, List.take_append_drop]
  have hj : j < (flat huC ((l.drop k).take n)).length := (List.getElem?_eq_some_iff.1 hv).1
  rw [e, List.getElem?_append_right (by rw [flat_len huC_len, List.length_take]; omega), flat_len huC_len, List.length_take]
  rw [show k + j - min k l.length * 1 = j by omega, List.getElem?_append_left hj]
  exact hv
theorem if_none {c k : Nat} {x y : Addr} : (if c = k then some x else some y) = none → False := by
  split <;> intro e <;> cases e

theorem bytes_eq (hd : Nat) (h : hd < 18446744073709551616) : wrap64 (bits BinOp.and IntKind.u64 ((hd : Int) / 256) 4095) = (bytesF hd : Int) := by
  have e1 : (hd : Int) / 256 = ((hd / 256 : Nat) : Int) := by omega
  have e2 := Nat.and_two_pow_sub_one_eq_mod (hd / 256) 12
  have e3 : hd / 256 &&& 4095 = hd / 256 % 4096 := e2
  rw [e1, show (4095 : Int) = ((4095 : Nat) : Int) from rfl, u64_and_nat _ _ (by omega) (by omega), e3]
  unfold wrap64 bytesF
  omega
theorem kind_eq (hd : Nat) (h : hd < 18446744073709551616) : wrap64 (bits BinOp.and IntKind.u64 (hd : Int) 255) = kindF hd := by
  have e2 := Nat.and_two_pow_sub_one_eq_mod hd 8
  have e3 : hd &&& 255 = hd % 256 := e2
  rw [show (255 : Int) = ((255 : Nat) : Int) from rfl, u64_and_nat _ _ (by omega) (by omega), e3]
  unfold wrap64 kindF
  omega

/-- The call's two objects: its result and what it builds. -/
structure RdSt (W w : World) (x : OC) : Prop where
  below : Below W.heap.size W w
  size : W.heap.size + 2 ≤ w.heap.size
  b0 : ObBox w W.heap.size 0 0 0 [] none 0 0
  b1 : ObBox w (W.heap.size + 1) x.o.at_ x.o.kind x.o.num x.o.text x.A x.o.parts.length x.c
section
variable {W w w' : World} {x : OC}
theorem RdSt.alloc (s : RdSt W w x) (o : Obj) : RdSt W (w.alloc o) x := ⟨s.below.alloc (by have := s.size; omega) o, by have := s.size; simp; omega, s.b0.alloc o, s.b1.alloc o⟩
theorem RdSt.on (s : RdSt W w x) (hb : Below w.heap.size w w') : RdSt W w' x := ⟨s.below.trans (hb.mono (by have := s.size; omega)), Nat.le_trans s.size hb.size, s.b0.below hb s.b0.lt, s.b1.below hb s.b1.lt⟩
theorem RdSt.drew (s : RdSt W w x) : RdSt W w.drew x := ⟨below_drewN s.below 1, s.size, s.b0.drew, s.b1.drew⟩
theorem RdSt.grown {row : Option Nat} (s : RdSt W w x) (hg : w.grownBy w' row) (hr : ∀ b, row = some b → W.heap.size + 2 ≤ b) : RdSt W w' x :=
  ⟨s.below.grown hg (by have := s.size; omega) (fun q hq => by have := hr q hq; omega), Nat.le_trans s.size hg.size, s.b0.grown hg (fun e => by have := hr _ e.symm; omega), s.b1.grown hg (fun e => by have := hr _ e.symm; omega)⟩
theorem RdSt.cells (s : RdSt W w x) : w.cell? ⟨W.heap.size + 1, 0, none⟩ = some (.int .i64 x.o.at_) ∧ w.cell? ⟨W.heap.size + 1, 1, none⟩ = some (.int .i64 x.o.kind) ∧ w.cell? ⟨W.heap.size + 1, 2, none⟩ = some (.int .i64 x.o.num) ∧ w.cell? ⟨W.heap.size + 1, 3, none⟩ = some (.string ⟨x.o.text.toArray⟩) ∧ w.cell? ⟨W.heap.size + 1, 4, none⟩ = some (.slice x.A x.o.parts.length x.c) := ObBox.cells s.b1
theorem RdSt.cells0 (s : RdSt W w x) : w.cell? ⟨W.heap.size, 0, none⟩ = some (.int .i64 0) ∧ w.cell? ⟨W.heap.size, 1, none⟩ = some (.int .i64 0) ∧ w.cell? ⟨W.heap.size, 2, none⟩ = some (.int .i64 0) ∧ w.cell? ⟨W.heap.size, 3, none⟩ = some (.string ⟨#[]⟩) ∧ w.cell? ⟨W.heap.size, 4, none⟩ = some (.slice none 0 0) := ObBox.cells s.b0
theorem RdSt.num (s : RdSt W w x) (n : Int) : RdSt W (w.setCell ⟨W.heap.size + 1, 2, none⟩ (.int .i64 n)) ⟨{ x.o with num := n }, x.A, x.c⟩ :=
  ⟨s.below.setCell (p := ⟨W.heap.size + 1, 2, none⟩) (by simp) _, by simpa using s.size, s.b0.far (p := ⟨W.heap.size + 1, 2, none⟩) (by simp) _, s.b1.set 2 _⟩
theorem RdSt.text (s : RdSt W w x) (t : List UInt8) : RdSt W (w.setCell ⟨W.heap.size + 1, 3, none⟩ (.string ⟨t.toArray⟩)) ⟨{ x.o with text := t }, x.A, x.c⟩ :=
  ⟨s.below.setCell (p := ⟨W.heap.size + 1, 3, none⟩) (by simp) _, by simpa using s.size, s.b0.far (p := ⟨W.heap.size + 1, 3, none⟩) (by simp) _, s.b1.set 3 _⟩
theorem RdSt.parts (s : RdSt W w x) (A : Option Addr) (l : List Nat) (c : Nat) : RdSt W (w.setCell ⟨W.heap.size + 1, 4, none⟩ (.slice A l.length c)) ⟨{ x.o with parts := l }, A, c⟩ :=
  ⟨s.below.setCell (p := ⟨W.heap.size + 1, 4, none⟩) (by simp) _, by simpa using s.size, s.b0.far (p := ⟨W.heap.size + 1, 4, none⟩) (by simp) _, s.b1.set 4 _⟩
theorem RdSt.on2 (s : RdSt W w x) (hb : Below (W.heap.size + 2) w w') : RdSt W w' x := ⟨s.below.trans (hb.mono (by omega)), Nat.le_trans s.size hb.size, s.b0.below hb (by omega), s.b1.below hb (by omega)⟩
/-- A result stored whole. -/
theorem RdSt.ret (s : RdSt W w x) (y : OC) : ∀ w', w' = ((((w.setCell ⟨W.heap.size, 0, none⟩ (.int .i64 y.o.at_)).setCell ⟨W.heap.size, 1, none⟩ (.int .i64 y.o.kind)).setCell ⟨W.heap.size, 2, none⟩ (.int .i64 y.o.num)).setCell ⟨W.heap.size, 3, none⟩ (.string ⟨y.o.text.toArray⟩)).setCell ⟨W.heap.size, 4, none⟩ (.slice y.A y.o.parts.length y.c) →
    Below W.heap.size W w' ∧ ObBox w' W.heap.size y.o.at_ y.o.kind y.o.num y.o.text y.A y.o.parts.length y.c ∧ Below W.heap.size w w' := by
  rintro w' rfl
  have hb : Below W.heap.size w (((((w.setCell ⟨W.heap.size, 0, none⟩ (.int .i64 y.o.at_)).setCell ⟨W.heap.size, 1, none⟩ (.int .i64 y.o.kind)).setCell ⟨W.heap.size, 2, none⟩ (.int .i64 y.o.num)).setCell ⟨W.heap.size, 3, none⟩ (.string ⟨y.o.text.toArray⟩)).setCell ⟨W.heap.size, 4, none⟩ (.slice y.A y.o.parts.length y.c)) :=
    (((((Below.refl W.heap.size w).setCell (p := ⟨W.heap.size, 0, none⟩) (Nat.le_refl _) _).setCell (p := ⟨W.heap.size, 1, none⟩) (Nat.le_refl _) _).setCell (p := ⟨W.heap.size, 2, none⟩) (Nat.le_refl _) _).setCell (p := ⟨W.heap.size, 3, none⟩) (Nat.le_refl _) _).setCell (p := ⟨W.heap.size, 4, none⟩) (Nat.le_refl _) _
  exact ⟨s.below.trans hb, ((((s.b0.set 0 _).set 1 _).set 2 _).set 3 _).set 4 _, hb⟩
theorem RdSt.ret_only (_s : RdSt W w x) (y : OC) : ∀ w', w' = ((((w.setCell ⟨W.heap.size, 0, none⟩ (.int .i64 y.o.at_)).setCell ⟨W.heap.size, 1, none⟩ (.int .i64 y.o.kind)).setCell ⟨W.heap.size, 2, none⟩ (.int .i64 y.o.num)).setCell ⟨W.heap.size, 3, none⟩ (.string ⟨y.o.text.toArray⟩)).setCell ⟨W.heap.size, 4, none⟩ (.slice y.A y.o.parts.length y.c) →
    Only (fun b => b = W.heap.size) w w' := by
  rintro w' rfl
  exact (((((Only.refl (fun b => b = W.heap.size) w).set (p := ⟨W.heap.size, 0, none⟩) rfl _).set (p := ⟨W.heap.size, 1, none⟩) rfl _).set (p := ⟨W.heap.size, 2, none⟩) rfl _).set (p := ⟨W.heap.size, 3, none⟩) rfl _).set (p := ⟨W.heap.size, 4, none⟩) rfl _
end

theorem make_by (n : Nat) (hn : n ≤ 1000) (w : World) : ∃ w', (Instr.makeSlice 200 (.int .i64 0) (.int .i64 (n : Int))).run Try.prog w = .ok (.slice (some ⟨w.heap.size, 0, none⟩) 0 n) w' ∧ ByOwn w' w.heap.size (some ⟨w.heap.size, 0, none⟩) n [] ∧ w.grownBy w' none := by
  obtain ⟨i0, hi0, hz0, hz1, hz2⟩ := info_parts by8_info
  obtain ⟨w', h1, h2, h3⟩ := run_make_own (P := Try.prog) (w := w) w.heap.size 200 5 i0 _ 1 Try.underlying200 hi0 hz0 hz1 .i64 .i64 n (by rw [hz2]; omega) (by unfold maxLen; omega) (Nat.le_refl _)
  refine ⟨w', h1, ?_, h3⟩
  obtain ⟨A, cap, hv, ho⟩ := OwnAt.of_own h2
  injection hv with h4 h5 h6
  subst h4 h6
  exact ho

theorem u8_of (x k : Nat) : (x : Int) / 2 ^ (8 * k) % 256 = ((UInt8.ofNat (x / 256 ^ k % 256)).toNat : Int) := by
  rw [show (2 : Int) ^ (8 * k) = ((256 ^ k : Nat) : Int) by rw [Int.pow_mul]; simp]
  rw [← Int.natCast_ediv]
  generalize x / 256 ^ k = q
  simp

set_option maxRecDepth 100000 in
set_option maxHeartbeats 4000000 in
theorem read_out (A : Option Addr) (c : Nat) (h : List Nat) (p : Int) (w : World) (hp : p < 0 ∨ (h.length : Int) ≤ p) : Calls Try.prog 128 #[.slice A h.length c, .int .i64 p] w fun e w' => Below w.heap.size w w' ∧ e = .returned (.tuple #[ocV oc0, .int .i64 0, .int .i64 4]) := by
  have hb := (Below.refl w.heap.size w).alloc (Nat.le_refl _) (.cells #[.int .i64 0, .int .i64 0, .int .i64 0, .string ⟨#[]⟩, .slice none 0 0] 113)
  by_cases h0 : p < 0
  · have d0 : decide (p < 0) = true := by simp [h0]
    go_enter Try.func128, Try.ntmps128
    go_wp2_with fail
    refine bodyPost_ret (v := .tuple #[ocV oc0, .int .i64 0, .int .i64 4]) (by unfold ocV oc0; simp [results, Try.results128, go_sem]) rfl ?_
    exact ⟨hb, rfl⟩
  · have d0 : decide (p < 0) = false := by simp; omega
    have d1 : decide ((h.length : Int) ≤ p) = true := by simp; omega
    go_enter Try.func128, Try.ntmps128
    go_wp2_with fail
    refine bodyPost_ret (v := .tuple #[ocV oc0, .int .i64 0, .int .i64 4]) (by unfold ocV oc0; simp [results, Try.results128, go_sem]) rfl ?_
    exact ⟨hb, rfl⟩

set_option maxRecDepth 100000 in
set_option maxHeartbeats 4000000 in
theorem read_in (A : Option Addr) (c : Nat) (h : List Nat) (p : Nat) (w : World) (hh : HpIn w A c h) (hp : p < h.length) : Calls Try.prog 128 #[.slice A h.length c, .int .i64 (p : Int)] w (ReadPost w h p) := by
  obtain ⟨b, o, rfl, hbb, hc0⟩ := Row.u hh.row hp
  have hfit := hh.getD p
  have HPF := Lib.hid (show progF h p = if 64 < bytesF (h.getD p 0) ∨ 400 < partsF (h.getD p 0) ∨ (restF h p (h.getD p 0)).length < (bytesF (h.getD p 0) + 7) / 8 + partsF (h.getD p 0) then none
    else if OkAt h p (h.getD p 0) then some (obF h p (h.getD p 0)) else none from rfl)
  generalize h.getD p 0 = hd at *
  have HHH := Lib.hid hh
  have HBE := Lib.hid (bytes_eq hd hfit)
  have HFIT := Lib.hid hfit
  have HKE := Lib.hid (kind_eq hd hfit)
  have hcap := hh.cap
  have hle := hh.le
  unfold maxLen at hcap
  have d0 : decide ((p : Int) < 0) = false := by simp
  have d1 : decide ((h.length : Int) ≤ (p : Int)) = false := by simp; omega
  have d2 : decide (h.length ≤ p) = false := by simp; omega
  clear hh
  go_enter Try.func128, Try.ntmps128
  go_upto_region 7 with fail
  rw [HBE.out, HKE.out, show (hd : Int) / 1048576 = (partsF hd : Int) by unfold partsF; omega]
  generalize hk : kindF hd = k at *
  have hst : RdSt w ((w.alloc (.cells #[.int .i64 0, .int .i64 0, .int .i64 0, .string ⟨#[]⟩, .slice none 0 0] 113)).alloc (.cells #[.int .i64 p, .int .i64 k, .int .i64 0, .string ⟨#[]⟩, .slice none 0 0] 113)) ⟨⟨p, k, 0, [], []⟩, none, 0⟩ := by
    have b1 := Box.new (w.alloc (.cells #[.int .i64 0, .int .i64 0, .int .i64 0, .string ⟨#[]⟩, .slice none 0 0] 113)) 113 #[.int .i64 p, .int .i64 k, .int .i64 0, .string ⟨#[]⟩, .slice none 0 0]
    rw [show (w.alloc (.cells #[.int .i64 0, .int .i64 0, .int .i64 0, .string ⟨#[]⟩, .slice none 0 0] 113)).heap.size = w.heap.size + 1 by simp] at b1
    exact ⟨((Below.refl _ _).alloc (Nat.le_refl _) _).alloc (by simp) _, by simp, (Box.new _ _ _).alloc _, b1⟩
  generalize (w.alloc (.cells #[.int .i64 0, .int .i64 0, .int .i64 0, .string ⟨#[]⟩, .slice none 0 0] 113)).alloc (.cells #[.int .i64 p, .int .i64 k, .int .i64 0, .string ⟨#[]⟩, .slice none 0 0] 113) = w2 at *
  have hrow1 := (row_drop HHH.out.row (p + 1) hle).below hst.below
  obtain ⟨A1, hA1⟩ : ∃ A1 : Addr, (if c = p + 1 then some (⟨b, o, none⟩ : Addr) else some ⟨b, o + (p + 1), none⟩) = some A1 := by split <;> exact ⟨_, rfl⟩
  rw [hA1] at hrow1 ⊢
  obtain ⟨l1, hl1⟩ : ∃ l1, l1 = h.drop (p + 1) := ⟨_, rfl⟩
  have hl1len : l1.length = h.length - (p + 1) := by rw [hl1, List.length_drop]
  rw [← hl1len]
  rw [← hl1] at hrow1
  have HRF := Lib.hid (show restF h p hd = if isNum k = true then l1.drop 1 else l1 by unfold restF; rw [hk, hl1, List.drop_drop])
  have HNF := Lib.hid (show numF h p hd = if isNum k = true ∧ 0 < l1.length then wrap64 (l1.getD 0 0 : Nat) else 0 by
    unfold numF
    rw [hk, hl1, List.length_drop, show (h.drop (p + 1)).getD 0 0 = h.getD (p + 1) 0 by simp [List.getD_eq_getElem?_getD]]
    by_cases hx : p + 1 < h.length
    · simp only [hx, eq_true (show 0 < h.length - (p + 1) by omega)]
    · simp only [hx, eq_false (show ¬0 < h.length - (p + 1) by omega)])
  have hc1 : c - (p + 1) ≤ 9223372036854775807 := by omega
  have HL1 := Lib.hid hl1len
  have hlc1 : l1.length ≤ c - (p + 1) := by omega
  generalize c - (p + 1) = c1 at *
  have HROW1 := Lib.hid hrow1
  have HST := Lib.hid hst
  obtain ⟨f0, f1, f2, f3, f4⟩ := hst.cells
  have g2 := hst.b1.frozen 2
  dsimp only at f0 f1 f2 f3 f4
  clear hA1 hl1 hl1len hrow1 hst hc0 hbb hfit
  obtain ⟨q, hq⟩ : ∃ q, q = (isNum k && decide (0 < l1.length)) := ⟨_, rfl⟩
  have HQ := Lib.hid hq
  clear hq
  go_cut [51] (fun v wx => v = .bool q ∧ w2 = wx)
  case first =>
    cases hN : isNum k with
    | true =>
      go_wp2_with (go_at_call 167; refine (hasNum_any k _).mono ?_; rintro e wk ⟨rfl, rfl⟩; rw [hN])
      go_meet
      refine ⟨?_, rfl⟩
      rw [HQ.out, hN]
      simp
    | false =>
      go_wp2_with (go_at_call 167; refine (hasNum_any k _).mono ?_; rintro e wk ⟨rfl, rfl⟩; rw [hN])
      go_meet
      refine ⟨?_, rfl⟩
      rw [HQ.out, hN]
      rfl
  obtain ⟨rfl, rfl⟩ := hcut
  go_upto_if 51 with fail
  go_cut [11] (fun v wx => ∃ (A2 : Addr) (c2 : Nat) (l2 : List Nat) (nm : Int), v = .slice (some A2) l2.length c2 ∧ l2 = restF h p hd ∧ nm = numF h p hd ∧ Row wx w.heap.size (some A2) (flat huC l2) ∧ l2.length ≤ c2 ∧ c2 ≤ 9223372036854775807 ∧ RdSt w wx ⟨⟨p, k, nm, [], []⟩, none, 0⟩)
  case first =>
    cases q with
    | true =>
      have hN : isNum k = true ∧ 0 < l1.length := by simpa using HQ.out.symm
      obtain ⟨b1, o1, hAe, _, hcc⟩ := Row.u HROW1.out hN.2
      injection hAe with hAe
      subst hAe
      rw [Nat.add_zero] at hcc
      have hpos := hN.2
      have hst := HST.out.num (wrap64 (l1.getD 0 0 : Nat))
      have hnm : wrap64 (l1.getD 0 0 : Nat) = numF h p hd := by rw [HNF.out, if_pos hN]
      have hl2 : l1.drop 1 = restF h p hd := by rw [HRF.out, if_pos hN.1]
      have hrow := (row_drop (HROW1.out) 1 hlc1).below ((Below.refl w.heap.size w2).setCell (p := ⟨w.heap.size + 1, 2, none⟩) (by simp) (.int .i64 (wrap64 (l1.getD 0 0 : Nat))))
      have e0 : ((l1[0] : Nat) : Int) = ((l1.getD 0 0 : Nat) : Int) := by rw [List.getD_eq_getElem?_getD, List.getElem?_eq_getElem hpos, Option.getD_some]
      have H1 := Lib.hid (And.intro hst (And.intro hnm (And.intro hl2 (And.intro hrow e0))))
      clear hst hnm hl2 hrow e0
      by_cases hc11 : c1 = 1
      · go_wp2_with fail
        go_meet
        obtain ⟨hst, hnm, hl2, hrow, e0⟩ := H1.out
        rw [if_pos hc11] at hrow
        rw [e0]
        exact ⟨_, _, l1.drop 1, _, by rw [List.length_drop], hl2, hnm, hrow, by rw [List.length_drop]; omega, by omega, hst⟩
      · go_wp2_with fail
        go_meet
        obtain ⟨hst, hnm, hl2, hrow, e0⟩ := H1.out
        rw [if_neg hc11] at hrow
        rw [e0]
        exact ⟨_, _, l1.drop 1, _, by rw [List.length_drop], hl2, hnm, hrow, by rw [List.length_drop]; omega, by omega, hst⟩
    | false =>
      go_wp2_with fail
      go_meet
      refine ⟨A1, c1, l1, 0, rfl, ?_, ?_, HROW1.out, hlc1, hc1, HST.out⟩
      · rw [HRF.out]
        cases hx : isNum k with
        | false => rfl
        | true => 
          have hq := HQ.out
          rw [hx, Bool.true_and] at hq
          have hz := of_decide_eq_false hq.symm
          rw [if_pos rfl, List.eq_nil_of_length_eq_zero (show l1.length = 0 by omega)]
          rfl
      · rw [HNF.out, if_neg]
        intro hx
        have hq := HQ.out
        simp [hx] at hq
  obtain ⟨A2, c2, l2, nm, rfl, hl2, hnm, hrow2, hlc2, hc2, hst⟩ := hcut
  have HROW2 := Lib.hid hrow2
  have HL2 := Lib.hid hl2
  have HNM := Lib.hid hnm
  have HST2 := Lib.hid hst
  clear hrow2 hl2 hnm HROW1 HST f0 f1 f2 f3 f4 g2 HRF HNF HQ HL1 hlc1 hc1
  have hnbf : bytesF hd < 4096 := by unfold bytesF; omega
  have hnpf : partsF hd < 17592186044416 := by have := HFIT.out; unfold partsF; omega
  have hpf2 := HPF.out
  rw [← HL2.out] at hpf2
  generalize hnb : bytesF hd = nb at *
  generalize hnp : partsF hd = np at *
  have HPF2 := Lib.hid hpf2
  clear hpf2 HPF
  obtain ⟨bad, hbad⟩ : ∃ bad, bad = decide (64 < nb ∨ 400 < np ∨ l2.length < (nb + 7) / 8 + np) := ⟨_, rfl⟩
  have HBAD := Lib.hid hbad
  clear hbad hst
  go_upto_region 11 with fail
  go_cut [76] (fun v wx => v = .bool bad ∧ wc = wx)
  case first =>
    go_wp2_with fail
    all_goals
      go_meet
      refine ⟨congrArg _ ?_, rfl⟩
      rw [HBAD.out, Bool.eq_iff_iff]
      simp only [Bool.or_eq_true, decide_eq_true_eq, true_iff]
      omega
  obtain ⟨rfl, rfl⟩ := hcut
  cases bad with
  | true =>
    obtain ⟨f0, f1, f2, f3, f4⟩ := HST2.out.cells0
    have z0 := HST2.out.b0.frozen 0
    have z1 := HST2.out.b0.frozen 1
    have z2 := HST2.out.b0.frozen 2
    have z3 := HST2.out.b0.frozen 3
    have z4 := HST2.out.b0.frozen 4
    go_wp2_with fail
    obtain ⟨wr, hwr⟩ : ∃ wr, wr = ((((wc.setCell ⟨w.heap.size, 0, none⟩ (.int .i64 0)).setCell ⟨w.heap.size, 1, none⟩ (.int .i64 0)).setCell ⟨w.heap.size, 2, none⟩ (.int .i64 0)).setCell ⟨w.heap.size, 3, none⟩ (.string ⟨#[]⟩)).setCell ⟨w.heap.size, 4, none⟩ (.slice none 0 0) := ⟨_, rfl⟩
    rw [← hwr]
    obtain ⟨hbr, hxr, _⟩ := HST2.out.ret oc0 wr hwr
    obtain ⟨r0, r1, r2, r3, r4⟩ := ObBox.cells hxr
    refine bodyPost_ret (v := .tuple #[ocV oc0, .int .i64 0, .int .i64 3]) (by unfold ocV oc0; simp [results, Try.results128, r0, r1, r2, r3, r4, oc0, go_sem]) rfl ?_
    refine ⟨hbr, ?_⟩
    rw [HPF2.out, if_pos (of_decide_eq_true HBAD.out.symm)]
  | false =>
    have hgood : ¬(64 < nb ∨ 400 < np ∨ l2.length < (nb + 7) / 8 + np) := of_decide_eq_false HBAD.out.symm
    have HG := Lib.hid hgood
    obtain ⟨wm, hmk, hown, hgr⟩ := make_by nb (by omega) wc
    have hsz := HST2.out.size
    have hbm : Below (w.heap.size + 2) wc wm := (Below.refl _ wc).grown hgr hsz (fun q hq => by cases hq)
    have HOWN := Lib.hid (hown.lower hsz)
    have HBM := Lib.hid hbm
    clear hown hgr hbm hsz
    go_upto_region 14 with fail
    go_wp2_with fail
    go_loopg [13, 14, 81] nb (fun gk v _x i wr => ∃ (j : Nat) (A3 : Option Addr) (c3 : Nat), gk = nb - j ∧ j ≤ nb ∧ v = .slice A3 j c3 ∧ i = .int .i64 j ∧ ByOwn wr (w.heap.size + 2) A3 c3 (textF l2 j) ∧ Below (w.heap.size + 2) wc wr)
    case atStart => exact ⟨0, _, nb, by omega, by omega, rfl, rfl, HOWN.out, HBM.out⟩
    case round =>
      clear HOWN HBM hmk
      obtain ⟨j, A3, c3, hgk, hj, rfl, rfl, hown, hb⟩ := hrel
      have HGK := Lib.hid hgk
      clear hgk
      by_cases hlt : j < nb
      · obtain ⟨b2, o2, hAe, _, hcl⟩ := Row.u (i := j / 8) (HROW2.out.below (hb.mono (by omega))) (by have := HG.out; omega)
        injection hAe with hAe
        subst hAe
        have hj8 : j / 8 < l2.length := by have := HG.out; omega
        have hts := textF_succ l2 j
        generalize l2.getD (j / 8) 0 = x at hcl hts
        have HTS := Lib.hid hts
        have HB := Lib.hid hb
        have HOWN := Lib.hid hown
        have HY := Lib.hid (u8_of x (j % 8))
        have hsz : w.heap.size + 2 ≤ wr.heap.size := Nat.le_trans HST2.out.size hb.size
        have hj0 : j < 64 := by have := HG.out; omega
        have HL := Lib.hid (show (textF l2 j).length + 1 ≤ 140737488355328 by rw [textF_len]; omega)
        have HC := Lib.hid (show (wr.alloc (.cells #[.int .u8 ((x : Int) / 2 ^ (8 * (j % 8)) % 256)] 5)).cell? ⟨wr.heap.size, 0, none⟩ = some (.int .u8 ((UInt8.ofNat (x / 256 ^ (j % 8) % 256)).toNat : Int)) by
          rw [← HY.out]
          exact (Box.new wr 5 #[.int .u8 ((x : Int) / 2 ^ (8 * (j % 8)) % 256)]).cell 0)
        clear hts hb hown HY
        go_wp2_with (at_builtin; go_loud (refine wpList_push_by rfl (.tmp 84) (.tmp 95) rfl (w.heap.size + 2) A3 c3 (textF l2 j) (congrArg (fun n => Value.slice A3 n c3) (textF_len l2 j).symm) (HOWN.out.alloc _) wr.heap.size (UInt8.ofNat (x / 256 ^ (j % 8) % 256)) rfl HC.out HL.out (by simp; omega) ?_; intro g' o' c' w3 hown' hgr'; rw [← HTS.out, textF_len] at *))
        go_roundg (nb - (j + 1))
        case measure => have := HGK.out; omega
        case rel =>
          exact ⟨j + 1, _, c', rfl, by omega, rfl, by go_num, hown', hgr'.below (HB.out.alloc hsz _) (by simp; omega) (fun b hb => (ByOwn.blk HOWN.out b hb).1)⟩
      · obtain rfl : j = nb := by omega
        have hcv := by8_string A3 c3 wr.heap.size (textF l2 j) wr hown.row
        rw [textF_len] at hcv
        have hst := HST2.out.on2 hb
        have HST := Lib.hid (hst.text (textF l2 j))
        have HROW := Lib.hid ((HROW2.out.below (hb.mono (by omega))).below ((Below.refl w.heap.size wr).setCell (p := ⟨w.heap.size + 1, 3, none⟩) (by simp) (.string ⟨(textF l2 j).toArray⟩)))
        obtain ⟨f0, f1, f2, f3, f4⟩ := hst.cells
        have g3 := hst.b1.frozen 3
        clear hst hown hb
        go_upto_region 20 with fail
        generalize wr.setCell ⟨w.heap.size + 1, 3, none⟩ (.string ⟨(textF l2 j).toArray⟩) = w4 at *
        have hps : ((l2.drop ((j + 7) / 8)).take np).length = np := by
          have := HG.out
          rw [List.length_take, List.length_drop]
          omega
        obtain ⟨ps, hpe⟩ : ∃ ps, ps = (l2.drop ((j + 7) / 8)).take np := ⟨_, rfl⟩
        rw [← hpe] at hps
        have HPE := Lib.hid hpe
        have HPS := Lib.hid hps
        clear hpe hps f0 f1 f2 f3 f4 g3 hcv
        go_upto_if 102 with fail
        go_cut [] (fun wx => ∃ (A4 : Option Addr) (c4 : Nat), RdSt w wx ⟨⟨p, k, nm, textF l2 j, ps⟩, A4, c4⟩ ∧ PNew wx (w.heap.size + 2) ⟨⟨p, k, nm, textF l2 j, ps⟩, A4, c4⟩)
        case first =>
          by_cases hz : np = 0
          · have d5 : decide (0 < (np : Int)) = false := by simp; omega
            have d6 : decide (0 < np) = false := by simp; omega
            have d7 : ¬ 0 < np := by omega
            have HZ := Lib.hid hz
            clear hz
            go_wp2_with fail
            go_meet
            have hz := HZ.out
            have hp0 : ps = [] := List.eq_nil_of_length_eq_zero (by rw [HPS.out, hz])
            subst hp0
            exact ⟨none, 0, HST.out, Row.nil, fun _ => rfl, Nat.le_of_eq rfl, Nat.zero_le _, (fun a ha => by cases ha), OwnAt.nil⟩
          · have d5 : decide (0 < (np : Int)) = true := by simp; omega
            have d6 : decide (0 < np) = true := by simp; omega
            have d7 : 0 < np := by omega
            have hcl := clone_hu (some (A2.add ((j + 7) / 8))) (c2 - (j + 7) / 8) ps w.heap.size w4 (by rw [HPE.out]; exact row_mid HROW.out _ _) (fun e => by cases e) (by rw [HPS.out]; have := HG.out; omega)
            rw [HPS.out] at hcl
            have HCL := Lib.hid hcl
            clear hcl
            go_wp2_with fail
            refine HCL.out.mono ?_
            rintro e w5 ⟨v, rfl, hown, hb5⟩
            obtain ⟨A4, c4, rfl, hoa⟩ := OwnAt.of_own hown
            have HOA := Lib.hid hoa
            clear hown hoa
            have hst5 := HST.out.on hb5
            have hst6 := hst5.parts A4 ps c4
            rw [HPS.out] at hst6
            have HST6 := Lib.hid hst6
            obtain ⟨f0, f1, f2, f3, f4⟩ := hst5.cells
            have g4 := hst5.b1.frozen 4
            clear hst5 hst6
            have hs4 := HST.out.size
            go_wp2_with fail
            go_meet
            have hof := HOA.out.far (p := ⟨w.heap.size + 1, 4, none⟩) (by rintro g o rfl; have := HOA.out.lt; simp; omega) (.slice A4 np c4)
            refine ⟨A4, c4, HST6.out, hof.row, fun e => ?_, by rw [show (_ : OC).o.parts.length = np from HPS.out]; exact hof.cap_le.1, hof.cap_le.2, fun a ha => ?_, by show OwnAt _ _ _ 1 A4 ps.length c4 (flat huC ps); rw [HPS.out]; exact hof.lower hs4⟩
            · rcases hof.form with ⟨_, _, h3⟩ | ⟨g, o, h3⟩
              · exact h3
              · rw [show A4 = none from e] at h3; cases h3
            · rcases hof.form with ⟨h3, _, _⟩ | ⟨g, o, h3⟩
              · rw [show A4 = some a from ha] at h3; cases h3
              · obtain rfl : a = ⟨g, o, none⟩ := by rw [show A4 = some a from ha] at h3; injection h3
                subst h3
                have := HOA.out.lt
                have := hof.lt
                exact ⟨by show w.heap.size + 2 ≤ g; omega, this.2⟩
        obtain ⟨A4, c4, hst, hpn⟩ := hcut
        have HX := Lib.hid (show obF h p hd = ⟨p, k, nm, textF l2 j, ps⟩ by
          unfold obF
          rw [hk, ← HNM.out, ← HL2.out, hnb, hnp, ← HPE.out])
        have HOK := Lib.hid (show OkAt h p hd ↔ (OkO ⟨p, k, nm, textF l2 j, ps⟩ ∧ (h.drop p).take (wordsF ⟨p, k, nm, textF l2 j, ps⟩).length = wordsF ⟨p, k, nm, textF l2 j, ps⟩) by
          unfold OkAt
          rw [HX.out])
        generalize textF l2 j = tx at *
        have HP := Lib.hid hpn
        have HS := Lib.hid hst
        obtain ⟨f0, f1, f2, f3, f4⟩ := hst.cells
        dsimp only at f0 f1 f2 f3 f4
        obtain ⟨ok, hok⟩ : ∃ ok, ok = decide (OkO ⟨p, k, nm, tx, ps⟩) := ⟨_, rfl⟩
        have hv : Calls Try.prog 168 #[.agg #[.int .i64 p, .int .i64 k, .int .i64 nm, .string ⟨tx.toArray⟩, .slice A4 ps.length c4]] wc fun e w' => e = .returned (.bool ok) ∧ Below wc.heap.size wc w' := by
          rw [hok]
          exact hvalid_any ⟨⟨p, k, nm, tx, ps⟩, A4, c4⟩ wc
        have HV := Lib.hid hv
        have HK := Lib.hid hok
        clear hv hok hst hpn HST HROW HPE HL2 HNM
        go_upto_if 114 with (go_at_call 168; refine HV.out.mono ?_; rintro e w6 ⟨rfl, hb6⟩)
        have hst6 := HS.out.on hb6
        have HP6 := Lib.hid (HP.out.below hb6)
        have HS6 := Lib.hid hst6
        clear f0 f1 f2 f3 f4 HV HP HS hb6
        cases ok with
        | false =>
          obtain ⟨f0, f1, f2, f3, f4⟩ := hst6.cells0
          have z0 := hst6.b0.frozen 0
          have z1 := hst6.b0.frozen 1
          have z2 := hst6.b0.frozen 2
          have z3 := hst6.b0.frozen 3
          have z4 := hst6.b0.frozen 4
          go_wp2_with fail
          obtain ⟨wr, hwr⟩ : ∃ wr, wr = ((((w6.setCell ⟨w.heap.size, 0, none⟩ (.int .i64 0)).setCell ⟨w.heap.size, 1, none⟩ (.int .i64 0)).setCell ⟨w.heap.size, 2, none⟩ (.int .i64 0)).setCell ⟨w.heap.size, 3, none⟩ (.string ⟨#[]⟩)).setCell ⟨w.heap.size, 4, none⟩ (.slice none 0 0) := ⟨_, rfl⟩
          rw [← hwr]
          obtain ⟨hbr, hxr, _⟩ := hst6.ret oc0 wr hwr
          obtain ⟨r0, r1, r2, r3, r4⟩ := ObBox.cells hxr
          refine bodyPost_ret (v := .tuple #[ocV oc0, .int .i64 0, .int .i64 3]) (by unfold ocV oc0; simp [results, Try.results128, r0, r1, r2, r3, r4, oc0, go_sem]) rfl ?_
          refine ⟨hbr, ?_⟩
          rw [HPF2.out, if_neg HG.out, if_neg]
          intro hh
          have := (HOK.out.1 hh).1
          have h2 := HK.out
          rw [decide_eq_true this] at h2
          cases h2
        | true =>
          have hoko : OkO ⟨p, k, nm, tx, ps⟩ := of_decide_eq_true HK.out.symm
          obtain ⟨f0, f1, f2, f3, f4⟩ := hst6.cells
          dsimp only at f0 f1 f2 f3 f4
          have hw := words_any ⟨⟨p, k, nm, tx, ps⟩, A4, c4⟩ w6 hoko HP6.out.row HP6.out.none
          have hRle := wordsF_le hoko
          have hRp := wordsF_pos ⟨p, k, nm, tx, ps⟩
          unfold ocV at hw
          dsimp only at hw
          have HO := Lib.hid hoko
          generalize hR : wordsF ⟨p, k, nm, tx, ps⟩ = R at *
          have HRE := Lib.hid hR
          clear hR
          have HW := Lib.hid hw
          clear hw hoko hst6
          go_upto_region 25 with (go_at_call 169; refine HW.out.mono ?_; rintro e w7 ⟨v, rfl, hown, hb7⟩; obtain ⟨g, c7, rfl, hg⟩ := UOwn.form hown hRp)
          have hst7 := HS6.out.on hb7
          have HP7 := Lib.hid (HP6.out.below hb7)
          have HS7 := Lib.hid hst7
          obtain ⟨A7, c8, hv7, hoa⟩ := OwnAt.of_own hown
          injection hv7 with e1 e2 e3
          subst e1 e3
          have hrow7 := hoa.row
          clear HW HP6 HS6 hb7 f0 f1 f2 f3 f4 e2 hown hoa hg
          by_cases hlen : h.length - p < R.length
          · have hi : (h.length : Int) - (p : Int) < (R.length : Int) := by omega
            have d8 : decide (((h.length : Int) - (p : Int)) < (R.length : Int)) = true := decide_eq_true hi
            have HL := Lib.hid hlen
            clear hlen hrow7
            obtain ⟨f0, f1, f2, f3, f4⟩ := hst7.cells0
            have z0 := hst7.b0.frozen 0
            have z1 := hst7.b0.frozen 1
            have z2 := hst7.b0.frozen 2
            have z3 := hst7.b0.frozen 3
            have z4 := hst7.b0.frozen 4
            go_wp2_with fail
            obtain ⟨wr, hwr⟩ : ∃ wr, wr = ((((w7.setCell ⟨w.heap.size, 0, none⟩ (.int .i64 0)).setCell ⟨w.heap.size, 1, none⟩ (.int .i64 0)).setCell ⟨w.heap.size, 2, none⟩ (.int .i64 0)).setCell ⟨w.heap.size, 3, none⟩ (.string ⟨#[]⟩)).setCell ⟨w.heap.size, 4, none⟩ (.slice none 0 0) := ⟨_, rfl⟩
            rw [← hwr]
            obtain ⟨hbr, hxr, _⟩ := hst7.ret oc0 wr hwr
            obtain ⟨r0, r1, r2, r3, r4⟩ := ObBox.cells hxr
            refine bodyPost_ret (v := .tuple #[ocV oc0, .int .i64 0, .int .i64 3]) (by unfold ocV oc0; simp [results, Try.results128, r0, r1, r2, r3, r4, oc0, go_sem]) rfl ?_
            refine ⟨hbr, ?_⟩
            rw [HPF2.out, if_neg HG.out, if_neg]
            intro hh
            have h1 := (HOK.out.1 hh).2
            have h2 := congrArg List.length h1
            rw [List.length_take, List.length_drop] at h2
            have := HL.out
            omega
          · have hi : ¬ ((h.length : Int) - (p : Int) < (R.length : Int)) := by omega
            have d8 : decide (((h.length : Int) - (p : Int)) < (R.length : Int)) = false := decide_eq_false hi
            have hll : ((h.drop p).take R.length).length = R.length := by rw [List.length_take, List.length_drop]; omega
            have he := equal_hu (some ⟨g, 0, none⟩) (some (Addr.add ⟨b, o, none⟩ p)) c7 (c - p) R ((h.drop p).take R.length) _ _ w7 hrow7 (row_mid (HHH.out.row.below HS7.out.below) p R.length) (by unfold maxLen; omega) (by rw [hll]; unfold maxLen; omega)
            rw [hll, addr_add] at he
            obtain ⟨q, hq⟩ : ∃ q, q = decide (R = (h.drop p).take R.length) := ⟨_, rfl⟩
            rw [← hq] at he
            have HE := Lib.hid he
            have HQ := Lib.hid hq
            clear he hq hll hrow7
            go_upto_if 136 with (go_at_call 170; refine HE.out.mono ?_; rintro e w8 ⟨rfl, m8, rfl⟩)
            have hst8 := hst7.on (below_drewN (Below.refl _ w7) m8)
            have HP8 := Lib.hid (HP7.out.below (below_drewN (Below.refl _ w7) m8))
            generalize w7.drewN m8 = w8 at *
            clear HE HP7 HS7 hst7
            cases q with
            | false =>
              obtain ⟨f0, f1, f2, f3, f4⟩ := hst8.cells0
              have z0 := hst8.b0.frozen 0
              have z1 := hst8.b0.frozen 1
              have z2 := hst8.b0.frozen 2
              have z3 := hst8.b0.frozen 3
              have z4 := hst8.b0.frozen 4
              go_wp2_with fail
              obtain ⟨wr, hwr⟩ : ∃ wr, wr = ((((w8.setCell ⟨w.heap.size, 0, none⟩ (.int .i64 0)).setCell ⟨w.heap.size, 1, none⟩ (.int .i64 0)).setCell ⟨w.heap.size, 2, none⟩ (.int .i64 0)).setCell ⟨w.heap.size, 3, none⟩ (.string ⟨#[]⟩)).setCell ⟨w.heap.size, 4, none⟩ (.slice none 0 0) := ⟨_, rfl⟩
              rw [← hwr]
              obtain ⟨hbr, hxr, _⟩ := hst8.ret oc0 wr hwr
              obtain ⟨r0, r1, r2, r3, r4⟩ := ObBox.cells hxr
              refine bodyPost_ret (v := .tuple #[ocV oc0, .int .i64 0, .int .i64 3]) (by unfold ocV oc0; simp [results, Try.results128, r0, r1, r2, r3, r4, oc0, go_sem]) rfl ?_
              refine ⟨hbr, ?_⟩
              rw [HPF2.out, if_neg HG.out, if_neg]
              intro hh
              have h1 := (HOK.out.1 hh).2
              exact absurd h1.symm (of_decide_eq_false HQ.out.symm)
            | true =>
              obtain ⟨f0, f1, f2, f3, f4⟩ := hst8.cells
              dsimp only at f0 f1 f2 f3 f4
              obtain ⟨y0, y1, y2, y3, y4⟩ := hst8.cells0
              have z0 := hst8.b0.frozen 0
              have z1 := hst8.b0.frozen 1
              have z2 := hst8.b0.frozen 2
              have z3 := hst8.b0.frozen 3
              have z4 := hst8.b0.frozen 4
              go_wp2_with fail
              obtain ⟨wr, hwr⟩ : ∃ wr, wr = ((((w8.setCell ⟨w.heap.size, 0, none⟩ (.int .i64 p)).setCell ⟨w.heap.size, 1, none⟩ (.int .i64 k)).setCell ⟨w.heap.size, 2, none⟩ (.int .i64 nm)).setCell ⟨w.heap.size, 3, none⟩ (.string ⟨tx.toArray⟩)).setCell ⟨w.heap.size, 4, none⟩ (.slice A4 ps.length c4) := ⟨_, rfl⟩
              rw [← hwr]
              obtain ⟨hbr, hxr, _⟩ := hst8.ret ⟨⟨p, k, nm, tx, ps⟩, A4, c4⟩ wr hwr
              have hor := hst8.ret_only ⟨⟨p, k, nm, tx, ps⟩, A4, c4⟩ wr hwr
              obtain ⟨r0, r1, r2, r3, r4⟩ := ObBox.cells hxr
              dsimp only at r0 r1 r2 r3 r4
              refine bodyPost_ret (v := .tuple #[ocV ⟨⟨p, k, nm, tx, ps⟩, A4, c4⟩, .int .i64 R.length, .int .i64 0]) (by unfold ocV; simp [results, Try.results128, r0, r1, r2, r3, r4, go_sem]) rfl ?_
              refine ⟨hbr, ?_⟩
              rw [HPF2.out, if_neg HG.out, if_pos (HOK.out.2 ⟨HO.out, (of_decide_eq_true HQ.out.symm).symm⟩), HX.out]
              exact ⟨⟨⟨p, k, nm, tx, ps⟩, A4, c4⟩, rfl, (HP8.out.only hor (fun i hi => by omega)).lower (by omega), by rw [HRE.out]⟩
end Go.Proofs.Ytdjahlkjfpbifaa
