
/-
  Values and letters copied.
-/
import Derived.Test.YtdjahlkjfpbifaaValEach
namespace Go.Proofs.Ytdjahlkjfpbifaa
open Go.RowKit

theorem row_of_VIn {w : World} {S : Nat → Prop} {n : Nat} {k m : Int} {t : ByteArray} {A : Option Addr} {len cap : Nat} {v : Val} (h : VIn w S (n + 1) ⟨k, m, t, A, len, cap⟩ v) :
    ∃ l : List VC, l.length = len ∧ valRow w S n A cap l v.args := by
  obtain ⟨⟨h1, h2, h3, h4, h5⟩, ⟨h6, h7, h8, h9⟩, l, h10, h11, h12⟩ := h
  simp only at h4 h6 h7 h8 h9 h10 h11
  exact ⟨l, h10, by omega, h11, h12, by omega, h7, h8, by omega⟩
theorem VIn_of_row {w : World} {S S' : Nat → Prop} {w0 : World} {n : Nat} {k m : Int} {t : ByteArray} {A A' : Option Addr} {len cap c' : Nat} {v : Val} {l : List VC} (h : VIn w0 S' (n + 1) ⟨k, m, t, A, len, cap⟩ v) (hr : valRow w S n A' c' l v.args) : VIn w S (n + 1) ⟨k, m, t, A', l.length, c'⟩ v := by
  obtain ⟨⟨h1, h2, h3, _, h5⟩, _⟩ := h
  exact ⟨⟨h1, h2, h3, hr.1, h5⟩, ⟨hr.2.2.2.1, hr.2.2.2.2.1, hr.2.2.2.2.2.1, hr.2.2.2.2.2.2⟩, l, rfl, hr.2.1, hr.2.2.1⟩

theorem cell_far {w : World} {p q : Addr} {u : Value} (h : p.block ≠ q.block) : (w.setCell q u).cell? p = w.cell? p := by
  simp only [World.cell?, Below.heap_setCell w q u p.block h]
theorem own_cells4 {w : World} {g : Nat} {e : TypeId} {c0 c1 c2 c3 : Value} (h : Box w g e #[c0, c1, c2, c3]) :
    w.cell? ⟨g, 0, none⟩ = some c0 ∧ w.cell? ⟨g, 1, none⟩ = some c1 ∧ w.cell? ⟨g, 2, none⟩ = some c2 ∧ w.cell? ⟨g, 3, none⟩ = some c3 ∧ w.frozen? ⟨g, 0, none⟩ = false ∧ w.frozen? ⟨g, 1, none⟩ = false ∧ w.frozen? ⟨g, 2, none⟩ = false ∧ w.frozen? ⟨g, 3, none⟩ = false :=
  ⟨h.cell 0, h.cell 1, h.cell 2, h.cell 3, h.frozen 0, h.frozen 1, h.frozen 2, h.frozen 3⟩

set_option maxRecDepth 100000 in
set_option maxHeartbeats 1000000 in
theorem copy_val : ∀ n, Copiesval n
  | 0 => fun _ _ _ _ h => h.elim
  | n + 1 => by
    have ih := copy_val n
    intro x v w S h
    obtain ⟨k, m, t, A, len, cap⟩ := x
    have HV := Lib.hid h.lt
    obtain ⟨l, rfl, hrow⟩ := row_of_VIn h.lt
    have HIH := Lib.hid (each_val n ih A cap l v.args)
    have HROW := Lib.hid hrow
    clear h hrow ih
    unfold valV
    simp only
    go_enter Try.func162, Try.ntmps162
    go_wp2_with fail
    refine (HIH.out _ _ ((HROW.out.below (B := w.heap.size) ((Below.refl _ _).alloc (Nat.le_refl _) _) fun _ h => h.2).below (B := w.heap.size) (((Below.refl w.heap.size _).alloc (by simp) _)) fun _ h => h.2)).mono ?_
    rintro e w1 ⟨A', c', l', rfl, hmk', hby', hb⟩
    have hrow' := (hmk'.row hby').keep (w := w1) (w' := w1) (S' := (((w.alloc (.cells #[.int .i64 k, .int .i64 m, .string t, .slice A l.length cap] 28)).alloc (.cells #[.int .i64 0, .int .i64 0, .string ⟨#[]⟩, .slice none 0 0] 28)).heap.size ≤ ·)) (fun _ _ => rfl) (fun b hb => by rcases hb with hb | hb <;> exact hb)
    have B1 : Box w1 w.heap.size 28 #[.int .i64 k, .int .i64 m, .string t, .slice A l.length cap] := ((Box.new w _ _).alloc _).below hb (by simp; omega)
    have B2 : Box w1 (w.heap.size + 1) 28 #[.int .i64 0, .int .i64 0, .string ⟨#[]⟩, .slice none 0 0] := by
      have := (Box.new (w.alloc (.cells #[.int .i64 k, .int .i64 m, .string t, .slice A l.length cap] 28)) 28 #[.int .i64 0, .int .i64 0, .string ⟨#[]⟩, .slice none 0 0]).below hb (by simp)
      simpa using this
    have hcells := own_cells4 B1
    obtain ⟨a0, a1, a2, a3, f0, f1, f2, f3⟩ := own_cells4 B1
    obtain ⟨b0, b1, b2, b3, g0, g1, g2, g3⟩ := own_cells4 B2
    have HW := Lib.hid (show Below w.heap.size w w1 from (((Below.refl w.heap.size w).alloc (Nat.le_refl _) _).alloc (by simp) _).trans (hb.mono (by simp; omega)))
    have HR := Lib.hid (show valRow w1 (fun b => w.heap.size + 2 ≤ b) n A' c' l' v.args by simpa using hrow')
    clear hb B1 B2 hrow' hcells hmk' hby'
    go_wp2_with fail
    refine bodyPost_ret (v := .agg #[.int .i64 k, .int .i64 m, .string t, .slice A' l'.length c']) (by simp [results, Try.results162, go_sem, b0, b1, b2, b3]) rfl ?_
    refine ⟨⟨k, m, t, A', l'.length, c'⟩, rfl, VIn_of_row HV.out (HR.out.keep (fun p hp => ?_) fun b hb => by omega), ?_⟩
    · rw [cell_far (by simp; omega), cell_far (by simp; omega), cell_far (by simp; omega), cell_far (by simp; omega), cell_far (by simp; omega)]
    · have := HW.out
      exact ((((this.setCell (by simp) _).setCell (by simp) _).setCell (by simp) _).setCell (by simp) _).setCell (by simp) _


/-- The nine cells x read as the letter t. -/
def LIn (w : World) (S : Nat → Prop) (n : Nat) (x : LC) (t : Let) : Prop :=
  (x.kind = t.kind ∧ x.frm = t.frm ∧ x.to = t.to ∧ x.num = t.num ∧ x.text = t.text ∧ x.text.size ≤ maxLen ∧ I64 x.kind ∧ I64 x.frm ∧ I64 x.to ∧ I64 x.num) ∧ VIn w S n x.v t.v
theorem LIn.keep {w w' : World} {S S' : Nat → Prop} (hk : ∀ p : Addr, S p.block → w'.cell? p = w.cell? p) (hS : ∀ b, S b → S' b) {n : Nat} {x : LC} {t : Let} (h : LIn w S n x t) : LIn w' S' n x t := ⟨h.1, h.2.keep hk hS⟩
theorem LIn.below {w w' : World} {B : Nat} {S : Nat → Prop} (hb : Below B w w') (hS : ∀ b, S b → b < B) {n : Nat} {x : LC} {t : Let} (h : LIn w S n x t) : LIn w' S n x t := ⟨h.1, h.2.below hb hS⟩
theorem LIn.lt {w : World} {S : Nat → Prop} {n : Nat} {x : LC} {t : Let} (h : LIn w S n x t) : LIn w (fun b => S b ∧ b < w.heap.size) n x t := ⟨h.1, h.2.lt⟩
theorem LIn.all {w : World} {S : Nat → Prop} {n : Nat} {x : LC} {t : Let} (h : LIn w S n x t) : LIn w (· < w.heap.size) n x t := ⟨h.1, h.2.all⟩

theorem own_cells9 {w : World} {g : Nat} {e : TypeId} {c0 c1 c2 c3 c4 c5 c6 c7 c8 : Value} (h : Box w g e #[c0, c1, c2, c3, c4, c5, c6, c7, c8]) :
    (w.cell? ⟨g, 0, none⟩ = some c0 ∧ w.cell? ⟨g, 1, none⟩ = some c1 ∧ w.cell? ⟨g, 2, none⟩ = some c2 ∧ w.cell? ⟨g, 3, none⟩ = some c3 ∧ w.cell? ⟨g, 4, none⟩ = some c4 ∧ w.cell? ⟨g, 5, none⟩ = some c5 ∧ w.cell? ⟨g, 6, none⟩ = some c6 ∧ w.cell? ⟨g, 7, none⟩ = some c7 ∧ w.cell? ⟨g, 8, none⟩ = some c8) ∧
    (w.frozen? ⟨g, 0, none⟩ = false ∧ w.frozen? ⟨g, 1, none⟩ = false ∧ w.frozen? ⟨g, 2, none⟩ = false ∧ w.frozen? ⟨g, 3, none⟩ = false ∧ w.frozen? ⟨g, 4, none⟩ = false ∧ w.frozen? ⟨g, 5, none⟩ = false ∧ w.frozen? ⟨g, 6, none⟩ = false ∧ w.frozen? ⟨g, 7, none⟩ = false ∧ w.frozen? ⟨g, 8, none⟩ = false) :=
  ⟨⟨h.cell 0, h.cell 1, h.cell 2, h.cell 3, h.cell 4, h.cell 5, h.cell 6, h.cell 7, h.cell 8⟩, ⟨h.frozen 0, h.frozen 1, h.frozen 2, h.frozen 3, h.frozen 4, h.frozen 5, h.frozen 6, h.frozen 7, h.frozen 8⟩⟩

set_option maxRecDepth 100000 in
set_option maxHeartbeats 1000000 in
theorem copy_letter (n : Nat) (x : LC) (t : Let) (w : World) (S : Nat → Prop) (h : LIn w S n x t) :
    Calls Try.prog 124 #[letterV x] w fun e w' => ∃ y, e = .returned (letterV y) ∧ LIn w' (w.heap.size ≤ ·) n y t ∧ Below w.heap.size w w' := by
  obtain ⟨kd, fr, tt, nm, tx, v⟩ := x
  have HV := Lib.hid h.lt
  clear h
  unfold letterV
  simp only
  go_enter Try.func124, Try.ntmps124
  go_wp2_with fail
  refine (copy_val n v t.v _ _ ((HV.out.2.below (B := w.heap.size) ((Below.refl _ _).alloc (Nat.le_refl _) _) fun _ h => h.2).below (B := w.heap.size) (((Below.refl w.heap.size _).alloc (by simp) _)) fun _ h => h.2)).mono ?_
  rintro e w1 ⟨y, rfl, hy, hb⟩
  unfold valV
  have B1 : Box w1 w.heap.size 37 #[.int .i64 kd, .int .i64 fr, .int .i64 tt, .int .i64 nm, .string tx, .int .i64 v.kind, .int .i64 v.num, .string v.text, .slice v.A v.len v.cap] := ((Box.new w _ _).alloc _).below hb (by simp; omega)
  have B2 : Box w1 (w.heap.size + 1) 37 #[.int .i64 0, .int .i64 0, .int .i64 0, .int .i64 0, .string ⟨#[]⟩, .int .i64 0, .int .i64 0, .string ⟨#[]⟩, .slice none 0 0] := by
    have := (Box.new (w.alloc (.cells #[.int .i64 kd, .int .i64 fr, .int .i64 tt, .int .i64 nm, .string tx, .int .i64 v.kind, .int .i64 v.num, .string v.text, .slice v.A v.len v.cap] 37)) 37 #[.int .i64 0, .int .i64 0, .int .i64 0, .int .i64 0, .string ⟨#[]⟩, .int .i64 0, .int .i64 0, .string ⟨#[]⟩, .slice none 0 0]).below hb (by simp)
    simpa using this
  obtain ⟨⟨a0, a1, a2, a3, a4, a5, a6, a7, a8⟩, ⟨f0, f1, f2, f3, f4, f5, f6, f7, f8⟩⟩ := own_cells9 B1
  obtain ⟨⟨b0, b1, b2, b3, b4, b5, b6, b7, b8⟩, ⟨g0, g1, g2, g3, g4, g5, g6, g7, g8⟩⟩ := own_cells9 B2
  have HW := Lib.hid (show Below w.heap.size w w1 from (((Below.refl w.heap.size w).alloc (Nat.le_refl _) _).alloc (by simp) _).trans (hb.mono (by simp; omega)))
  have HR := Lib.hid (show VIn w1 (fun b => w.heap.size + 2 ≤ b) n y t.v by simpa using hy)
  clear hb B1 B2 hy
  go_wp2_with fail
  refine bodyPost_ret (v := .agg #[.int .i64 kd, .int .i64 fr, .int .i64 tt, .int .i64 nm, .string tx, .int .i64 y.kind, .int .i64 y.num, .string y.text, .slice y.A y.len y.cap]) (by simp [results, Try.results124, go_sem, b0, b1, b2, b3, b4, b5, b6, b7, b8]) rfl ?_
  refine ⟨⟨kd, fr, tt, nm, tx, y⟩, rfl, ⟨HV.out.1, HR.out.keep (fun p hp => ?_) fun b hb => by omega⟩, ?_⟩
  · iterate 13 rw [cell_far (by simp; omega)]
  · refine HW.out.trans ?_
    iterate 12 refine Below.setCell ?_ (by simp) _
    exact (Below.refl _ _).setCell (by simp) _

end Go.Proofs.Ytdjahlkjfpbifaa
