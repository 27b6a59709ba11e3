/-
  Both ends in memory, side by side: each block that may turn bears a label; bodies lie in blocks of label 0.
-/
import Derived.Test.YtaecgapoaagjfaaLineBytes
namespace Go.Proofs.Ytaecgapoaagjfaa
open Go.RowKit

theorem cell_off {w : World} {p q : Addr} {u : Value} (h : p.block ≠ q.block) : (w.setCell q u).cell? p = w.cell? p := by
  simp only [World.cell?, Below.heap_setCell w q u p.block h]
def blk (A : Option Addr) (b : Nat) : Prop := A.map (·.block) = some b
/-- What both ends hold. -/
structure LS where
  win : Int
  lim : Int
  base : Int
  want : Int
  Q : List (Body × Bool)
  I : List Body
  due : Bool
  mlim : Int
  mbase : Int
  told : Int
  took : Int
  rd : Int
  All : List Body
  Got : List Body
  owe : Bool
  ref : Bool
/-- Where the rows lie. -/
structure LR where
  A1 : Option Addr
  c1 : Nat
  l1 : List PC
  A2 : Option Addr
  c2 : Nat
  l2 : List BC
  A3 : Option Addr
  c3 : Nat
  l3 : List BC
  A4 : Option Addr
  c4 : Nat
  l4 : List BC
def xCells (s : LS) (r : LR) : Array Value := #[.int .i64 s.win, .int .i64 s.lim, .int .u32 s.base, .int .u32 s.want, .slice r.A1 r.l1.length r.c1, .slice r.A2 r.l2.length r.c2, .bool s.due]
def mCells (s : LS) (r : LR) : Array Value := #[.int .i64 s.win, .int .i64 s.mlim, .int .i64 s.mbase, .int .i64 s.told, .slice r.A3 r.l3.length r.c3, .int .i64 s.took, .int .i64 s.rd, .slice r.A4 r.l4.length r.c4, .bool s.owe]
structure LineAt (w : World) (B0 g m : Nat) (s : LS) (r : LR) (f : Nat → Nat) : Prop where
  x : Box w g 276 (xCells s r)
  y : s.ref = true → Box w m 88 (mCells s r)
  o1 : pendMk w B0 (fun b => f b = 0) 0 r.A1 r.c1 r.l1 s.Q
  o2 : bodyMk w B0 (fun b => f b = 0) 0 r.A2 r.c2 r.l2 s.I
  o3 : bodyMk w B0 (fun b => f b = 0) 0 r.A3 r.c3 r.l3 s.All
  o4 : bodyMk w B0 (fun b => f b = 0) 0 r.A4 r.c4 r.l4 s.Got
  fg : f g = 1
  fm : s.ref = true → f m = 2
  f1 : ∀ b, blk r.A1 b → f b = 3
  f2 : ∀ b, blk r.A2 b → f b = 4
  f3 : ∀ b, blk r.A3 b → f b = 5
  f4 : ∀ b, blk r.A4 b → f b = 6
  hg : B0 ≤ g
  hm : B0 ≤ m

section
variable {w w' : World} {B0 g m : Nat} {s : LS} {r : LR} {f f' : Nat → Nat}
/-- What turned bears none of the labels; the labels of what was there stay. -/
theorem LineAt.keep (h : LineAt w B0 g m s r f) (ho : Only (fun b => 7 ≤ f b) w w') (hf : ∀ b, b < w.heap.size → f' b = f b) : LineAt w' B0 g m s r f' := by
  have hlt : ∀ (A : Option Addr) (c n e k : Nat) (xs : List Value), OwnAt w B0 e k A n c xs → ∀ b, blk A b → b < w.heap.size := fun A c n e k xs ho b hb => by
    rcases ho.form with ⟨rfl, _⟩ | ⟨g1, o1, rfl⟩
    · cases hb
    · simp [blk] at hb; subst hb; exact ho.lt.2
  refine ⟨ho.box h.x (by rw [h.fg]; omega), (fun hr => ho.box (h.y hr) (by rw [h.fm hr]; omega)), h.o1.only ho (fun b hb => by rw [h.f1 b hb]; omega) (fun b hb hl => ⟨by omega, by rw [hf b hl]; exact hb⟩), h.o2.only ho (fun b hb => by rw [h.f2 b hb]; omega) (fun b hb hl => ⟨by omega, by rw [hf b hl]; exact hb⟩), h.o3.only ho (fun b hb => by rw [h.f3 b hb]; omega) (fun b hb hl => ⟨by omega, by rw [hf b hl]; exact hb⟩), h.o4.only ho (fun b hb => by rw [h.f4 b hb]; omega) (fun b hb hl => ⟨by omega, by rw [hf b hl]; exact hb⟩), ?_, ?_, fun b hb => ?_, fun b hb => ?_, fun b hb => ?_, fun b hb => ?_, h.hg, h.hm⟩
  · rw [hf g h.x.lt]; exact h.fg
  · intro hr; rw [hf m (h.y hr).lt]; exact h.fm hr
  · rw [hf b (hlt _ _ _ _ _ _ h.o1.2.1 b hb)]; exact h.f1 b hb
  · rw [hf b (hlt _ _ _ _ _ _ h.o2.2.1 b hb)]; exact h.f2 b hb
  · rw [hf b (hlt _ _ _ _ _ _ h.o3.2.1 b hb)]; exact h.f3 b hb
  · rw [hf b (hlt _ _ _ _ _ _ h.o4.2.1 b hb)]; exact h.f4 b hb
theorem LineAt.below (h : LineAt w B0 g m s r f) (hb : Below w.heap.size w w') : LineAt w' B0 g m s r f := h.keep (Only.of_below hb) fun _ _ => rfl

/-- What a row's blocks are labelled behind a push. -/
def lab (f : Nat → Nat) (n k : Nat) (A : Option Addr) (b : Nat) : Nat := if A.map (·.block) = some b then k else if b < n then f b else 0
def lab0 (f : Nat → Nat) (n : Nat) (b : Nat) : Nat := if b < n then f b else 0
theorem lab_blk {f : Nat → Nat} {n k : Nat} {A : Option Addr} {b : Nat} (h : blk A b) : lab f n k A b = k := by unfold lab; rw [if_pos (show A.map (·.block) = some b from h)]
theorem lab_old {f : Nat → Nat} {n k : Nat} {A : Option Addr} {b : Nat} (hA : ∀ b, blk A b → f b = k ∨ n ≤ b) (h : b < n) : lab f n k A b = f b := by
  unfold lab
  by_cases e : A.map (·.block) = some b
  · rw [if_pos e]
    rcases hA b e with h1 | h1
    · exact h1.symm
    · omega
  · rw [if_neg e, if_pos h]
theorem blk_lt {w : World} {B0 e k n c : Nat} {A : Option Addr} {xs : List Value} (ho : OwnAt w B0 e k A n c xs) {b : Nat} (hb : blk A b) : b < w.heap.size := by
  rcases ho.form with ⟨rfl, _⟩ | ⟨g1, o1, rfl⟩
  · cases hb
  · simp [blk] at hb; subst hb; exact ho.lt.2
theorem LineAt.put1 (h : LineAt w B0 g m s r f) (ho : Only (fun b => f b = 3) w w') {A : Option Addr} {c : Nat} {l : List PC} {vs} (hmk : pendMk w' B0 (fun b => lab0 f w.heap.size b = 0) 0 A c l vs) (hA : ∀ b, blk A b → f b = 3 ∨ w.heap.size ≤ b) :
    LineAt (w'.setCell ⟨g, 4, none⟩ (.slice A l.length c)) B0 g m { s with Q := vs } { r with A1 := A, c1 := c, l1 := l } (lab f w.heap.size 3 A) := by
  have hgx : Box w' g 276 (xCells s r) := ho.box h.x (by rw [h.fg]; omega)
  have hmy : s.ref = true → Box w' m 88 (mCells s r) := fun hr => ho.box (h.y hr) (by rw [h.fm hr]; omega)
  have hgm : s.ref = true → g ≠ m := fun hr e => by have h1 := h.fg; have h2 := h.fm hr; rw [e] at h1; omega
  have hfg : lab f w.heap.size 3 A g = 1 := (lab_old hA h.x.lt).trans h.fg
  have hfm : s.ref = true → lab f w.heap.size 3 A m = 2 := fun hr => (lab_old hA (h.y hr).lt).trans (h.fm hr)
  have hoE : Only (fun b => b = g) w' (w'.setCell ⟨g, 4, none⟩ (.slice A l.length c)) := (Only.refl (fun b => b = g) w').set (p := ⟨g, 4, none⟩) rfl _
  have k2 := (h.o2.only (S' := fun b => lab f w.heap.size 3 A b = 0) ho (fun b hb => by rw [h.f2 b hb]; omega) (fun b hb hl => ⟨by rw [hb]; omega, by show lab _ _ _ _ b = 0; rw [lab_old hA hl]; exact hb⟩)).only (S' := fun b => lab f w.heap.size 3 A b = 0) hoE (fun b hb e => by subst e; have := h.f2 _ hb; have := h.fg; omega) (fun b hb _ => ⟨fun e => by subst e; have := hfg; omega, hb⟩)
  have k3 := (h.o3.only (S' := fun b => lab f w.heap.size 3 A b = 0) ho (fun b hb => by rw [h.f3 b hb]; omega) (fun b hb hl => ⟨by rw [hb]; omega, by show lab _ _ _ _ b = 0; rw [lab_old hA hl]; exact hb⟩)).only (S' := fun b => lab f w.heap.size 3 A b = 0) hoE (fun b hb e => by subst e; have := h.f3 _ hb; have := h.fg; omega) (fun b hb _ => ⟨fun e => by subst e; have := hfg; omega, hb⟩)
  have k4 := (h.o4.only (S' := fun b => lab f w.heap.size 3 A b = 0) ho (fun b hb => by rw [h.f4 b hb]; omega) (fun b hb hl => ⟨by rw [hb]; omega, by show lab _ _ _ _ b = 0; rw [lab_old hA hl]; exact hb⟩)).only (S' := fun b => lab f w.heap.size 3 A b = 0) hoE (fun b hb e => by subst e; have := h.f4 _ hb; have := h.fg; omega) (fun b hb _ => ⟨fun e => by subst e; have := hfg; omega, hb⟩)
  have k1 : pendMk (w'.setCell ⟨g, 4, none⟩ (.slice A l.length c)) B0 (fun b => lab f w.heap.size 3 A b = 0) 0 A c l vs := by
    have hne : ¬ blk A g := fun hb => by
      have h1 := lab_blk (f := f) (n := w.heap.size) (k := 3) hb
      have h2 := hfg
      omega
    refine ⟨hmk.1, hmk.2.1.only hoE (fun b hb e => by subst e; exact hne hb), fun i hi => (hmk.2.2 i hi).keep (fun p hp => ?_) fun b hp => ⟨?_, hp.2⟩⟩
    · refine cell_off (fun e => ?_)
      have h0 : lab0 f w.heap.size g = 0 := by
        have h1 : lab0 f w.heap.size p.block = 0 := hp.1
        rw [e] at h1
        exact h1
      have hl := h.x.lt
      have hff := h.fg
      unfold lab0 at h0
      rw [if_pos hl] at h0
      omega
    · have h0 : lab0 f w.heap.size b = 0 := hp.1
      show lab _ _ _ _ b = 0
      unfold lab
      rw [if_neg hp.2]
      exact h0
  exact ⟨by have := hgx.set 4 (.slice A l.length c); exact this, (fun hr => (hmy hr).far (p := ⟨g, 4, none⟩) (by have := hgm hr; show m ≠ g; omega) _), k1, k2, k3, k4, hfg, hfm, fun b hb => lab_blk hb, fun b hb => (lab_old hA (blk_lt h.o2.2.1 hb)).trans (h.f2 b hb), fun b hb => (lab_old hA (blk_lt h.o3.2.1 hb)).trans (h.f3 b hb), fun b hb => (lab_old hA (blk_lt h.o4.2.1 hb)).trans (h.f4 b hb), h.hg, h.hm⟩
theorem LineAt.put2 (h : LineAt w B0 g m s r f) (ho : Only (fun b => f b = 4) w w') {A : Option Addr} {c : Nat} {l : List BC} {vs} (hmk : bodyMk w' B0 (fun b => lab0 f w.heap.size b = 0) 0 A c l vs) (hA : ∀ b, blk A b → f b = 4 ∨ w.heap.size ≤ b) :
    LineAt (w'.setCell ⟨g, 5, none⟩ (.slice A l.length c)) B0 g m { s with I := vs } { r with A2 := A, c2 := c, l2 := l } (lab f w.heap.size 4 A) := by
  have hgx : Box w' g 276 (xCells s r) := ho.box h.x (by rw [h.fg]; omega)
  have hmy : s.ref = true → Box w' m 88 (mCells s r) := fun hr => ho.box (h.y hr) (by rw [h.fm hr]; omega)
  have hgm : s.ref = true → g ≠ m := fun hr e => by have h1 := h.fg; have h2 := h.fm hr; rw [e] at h1; omega
  have hfg : lab f w.heap.size 4 A g = 1 := (lab_old hA h.x.lt).trans h.fg
  have hfm : s.ref = true → lab f w.heap.size 4 A m = 2 := fun hr => (lab_old hA (h.y hr).lt).trans (h.fm hr)
  have hoE : Only (fun b => b = g) w' (w'.setCell ⟨g, 5, none⟩ (.slice A l.length c)) := (Only.refl (fun b => b = g) w').set (p := ⟨g, 5, none⟩) rfl _
  have k1 := (h.o1.only (S' := fun b => lab f w.heap.size 4 A b = 0) ho (fun b hb => by rw [h.f1 b hb]; omega) (fun b hb hl => ⟨by rw [hb]; omega, by show lab _ _ _ _ b = 0; rw [lab_old hA hl]; exact hb⟩)).only (S' := fun b => lab f w.heap.size 4 A b = 0) hoE (fun b hb e => by subst e; have := h.f1 _ hb; have := h.fg; omega) (fun b hb _ => ⟨fun e => by subst e; have := hfg; omega, hb⟩)
  have k3 := (h.o3.only (S' := fun b => lab f w.heap.size 4 A b = 0) ho (fun b hb => by rw [h.f3 b hb]; omega) (fun b hb hl => ⟨by rw [hb]; omega, by show lab _ _ _ _ b = 0; rw [lab_old hA hl]; exact hb⟩)).only (S' := fun b => lab f w.heap.size 4 A b = 0) hoE (fun b hb e => by subst e; have := h.f3 _ hb; have := h.fg; omega) (fun b hb _ => ⟨fun e => by subst e; have := hfg; omega, hb⟩)
  have k4 := (h.o4.only (S' := fun b => lab f w.heap.size 4 A b = 0) ho (fun b hb => by rw [h.f4 b hb]; omega) (fun b hb hl => ⟨by rw [hb]; omega, by show lab _ _ _ _ b = 0; rw [lab_old hA hl]; exact hb⟩)).only (S' := fun b => lab f w.heap.size 4 A b = 0) hoE (fun b hb e => by subst e; have := h.f4 _ hb; have := h.fg; omega) (fun b hb _ => ⟨fun e => by subst e; have := hfg; omega, hb⟩)
  have k2 : bodyMk (w'.setCell ⟨g, 5, none⟩ (.slice A l.length c)) B0 (fun b => lab f w.heap.size 4 A b = 0) 0 A c l vs := by
    have hne : ¬ blk A g := fun hb => by
      have h1 := lab_blk (f := f) (n := w.heap.size) (k := 4) hb
      have h2 := hfg
      omega
    refine ⟨hmk.1, hmk.2.1.only hoE (fun b hb e => by subst e; exact hne hb), fun i hi => (hmk.2.2 i hi).keep (fun p hp => ?_) fun b hp => ⟨?_, hp.2⟩⟩
    · refine cell_off (fun e => ?_)
      have h0 : lab0 f w.heap.size g = 0 := by
        have h1 : lab0 f w.heap.size p.block = 0 := hp.1
        rw [e] at h1
        exact h1
      have hl := h.x.lt
      have hff := h.fg
      unfold lab0 at h0
      rw [if_pos hl] at h0
      omega
    · have h0 : lab0 f w.heap.size b = 0 := hp.1
      show lab _ _ _ _ b = 0
      unfold lab
      rw [if_neg hp.2]
      exact h0
  exact ⟨by have := hgx.set 5 (.slice A l.length c); exact this, (fun hr => (hmy hr).far (p := ⟨g, 5, none⟩) (by have := hgm hr; show m ≠ g; omega) _), k1, k2, k3, k4, hfg, hfm, fun b hb => (lab_old hA (blk_lt h.o1.2.1 hb)).trans (h.f1 b hb), fun b hb => lab_blk hb, fun b hb => (lab_old hA (blk_lt h.o3.2.1 hb)).trans (h.f3 b hb), fun b hb => (lab_old hA (blk_lt h.o4.2.1 hb)).trans (h.f4 b hb), h.hg, h.hm⟩
theorem LineAt.put3 (h : LineAt w B0 g m s r f) (hr : s.ref = true) (ho : Only (fun b => f b = 5) w w') {A : Option Addr} {c : Nat} {l : List BC} {vs} (hmk : bodyMk w' B0 (fun b => lab0 f w.heap.size b = 0) 0 A c l vs) (hA : ∀ b, blk A b → f b = 5 ∨ w.heap.size ≤ b) :
    LineAt (w'.setCell ⟨m, 4, none⟩ (.slice A l.length c)) B0 g m { s with All := vs } { r with A3 := A, c3 := c, l3 := l } (lab f w.heap.size 5 A) := by
  have hgx : Box w' g 276 (xCells s r) := ho.box h.x (by rw [h.fg]; omega)
  have hmy : Box w' m 88 (mCells s r) := ho.box (h.y hr) (by rw [h.fm hr]; omega)
  have hgm : g ≠ m := fun e => by have h1 := h.fg; have h2 := (h.fm hr); rw [e] at h1; omega
  have hfg : lab f w.heap.size 5 A g = 1 := (lab_old hA h.x.lt).trans h.fg
  have hfm : lab f w.heap.size 5 A m = 2 := (lab_old hA (h.y hr).lt).trans (h.fm hr)
  have hoE : Only (fun b => b = m) w' (w'.setCell ⟨m, 4, none⟩ (.slice A l.length c)) := (Only.refl (fun b => b = m) w').set (p := ⟨m, 4, none⟩) rfl _
  have k1 := (h.o1.only (S' := fun b => lab f w.heap.size 5 A b = 0) ho (fun b hb => by rw [h.f1 b hb]; omega) (fun b hb hl => ⟨by rw [hb]; omega, by show lab _ _ _ _ b = 0; rw [lab_old hA hl]; exact hb⟩)).only (S' := fun b => lab f w.heap.size 5 A b = 0) hoE (fun b hb e => by subst e; have := h.f1 _ hb; have := (h.fm hr); omega) (fun b hb _ => ⟨fun e => by subst e; have := hfm; omega, hb⟩)
  have k2 := (h.o2.only (S' := fun b => lab f w.heap.size 5 A b = 0) ho (fun b hb => by rw [h.f2 b hb]; omega) (fun b hb hl => ⟨by rw [hb]; omega, by show lab _ _ _ _ b = 0; rw [lab_old hA hl]; exact hb⟩)).only (S' := fun b => lab f w.heap.size 5 A b = 0) hoE (fun b hb e => by subst e; have := h.f2 _ hb; have := (h.fm hr); omega) (fun b hb _ => ⟨fun e => by subst e; have := hfm; omega, hb⟩)
  have k4 := (h.o4.only (S' := fun b => lab f w.heap.size 5 A b = 0) ho (fun b hb => by rw [h.f4 b hb]; omega) (fun b hb hl => ⟨by rw [hb]; omega, by show lab _ _ _ _ b = 0; rw [lab_old hA hl]; exact hb⟩)).only (S' := fun b => lab f w.heap.size 5 A b = 0) hoE (fun b hb e => by subst e; have := h.f4 _ hb; have := (h.fm hr); omega) (fun b hb _ => ⟨fun e => by subst e; have := hfm; omega, hb⟩)
  have k3 : bodyMk (w'.setCell ⟨m, 4, none⟩ (.slice A l.length c)) B0 (fun b => lab f w.heap.size 5 A b = 0) 0 A c l vs := by
    have hne : ¬ blk A m := fun hb => by
      have h1 := lab_blk (f := f) (n := w.heap.size) (k := 5) hb
      have h2 := hfm
      omega
    refine ⟨hmk.1, hmk.2.1.only hoE (fun b hb e => by subst e; exact hne hb), fun i hi => (hmk.2.2 i hi).keep (fun p hp => ?_) fun b hp => ⟨?_, hp.2⟩⟩
    · refine cell_off (fun e => ?_)
      have h0 : lab0 f w.heap.size m = 0 := by
        have h1 : lab0 f w.heap.size p.block = 0 := hp.1
        rw [e] at h1
        exact h1
      have hl := (h.y hr).lt
      have hff := (h.fm hr)
      unfold lab0 at h0
      rw [if_pos hl] at h0
      omega
    · have h0 : lab0 f w.heap.size b = 0 := hp.1
      show lab _ _ _ _ b = 0
      unfold lab
      rw [if_neg hp.2]
      exact h0
  exact ⟨hgx.far (p := ⟨m, 4, none⟩) (by show g ≠ m; omega) _, (fun _ => by have := hmy.set 4 (.slice A l.length c); exact this), k1, k2, k3, k4, hfg, (fun _ => hfm), fun b hb => (lab_old hA (blk_lt h.o1.2.1 hb)).trans (h.f1 b hb), fun b hb => (lab_old hA (blk_lt h.o2.2.1 hb)).trans (h.f2 b hb), fun b hb => lab_blk hb, fun b hb => (lab_old hA (blk_lt h.o4.2.1 hb)).trans (h.f4 b hb), h.hg, h.hm⟩
theorem LineAt.put4 (h : LineAt w B0 g m s r f) (hr : s.ref = true) (ho : Only (fun b => f b = 6) w w') {A : Option Addr} {c : Nat} {l : List BC} {vs} (hmk : bodyMk w' B0 (fun b => lab0 f w.heap.size b = 0) 0 A c l vs) (hA : ∀ b, blk A b → f b = 6 ∨ w.heap.size ≤ b) :
    LineAt (w'.setCell ⟨m, 7, none⟩ (.slice A l.length c)) B0 g m { s with Got := vs } { r with A4 := A, c4 := c, l4 := l } (lab f w.heap.size 6 A) := by
  have hgx : Box w' g 276 (xCells s r) := ho.box h.x (by rw [h.fg]; omega)
  have hmy : Box w' m 88 (mCells s r) := ho.box (h.y hr) (by rw [h.fm hr]; omega)
  have hgm : g ≠ m := fun e => by have h1 := h.fg; have h2 := (h.fm hr); rw [e] at h1; omega
  have hfg : lab f w.heap.size 6 A g = 1 := (lab_old hA h.x.lt).trans h.fg
  have hfm : lab f w.heap.size 6 A m = 2 := (lab_old hA (h.y hr).lt).trans (h.fm hr)
  have hoE : Only (fun b => b = m) w' (w'.setCell ⟨m, 7, none⟩ (.slice A l.length c)) := (Only.refl (fun b => b = m) w').set (p := ⟨m, 7, none⟩) rfl _
  have k1 := (h.o1.only (S' := fun b => lab f w.heap.size 6 A b = 0) ho (fun b hb => by rw [h.f1 b hb]; omega) (fun b hb hl => ⟨by rw [hb]; omega, by show lab _ _ _ _ b = 0; rw [lab_old hA hl]; exact hb⟩)).only (S' := fun b => lab f w.heap.size 6 A b = 0) hoE (fun b hb e => by subst e; have := h.f1 _ hb; have := (h.fm hr); omega) (fun b hb _ => ⟨fun e => by subst e; have := hfm; omega, hb⟩)
  have k2 := (h.o2.only (S' := fun b => lab f w.heap.size 6 A b = 0) ho (fun b hb => by rw [h.f2 b hb]; omega) (fun b hb hl => ⟨by rw [hb]; omega, by show lab _ _ _ _ b = 0; rw [lab_old hA hl]; exact hb⟩)).only (S' := fun b => lab f w.heap.size 6 A b = 0) hoE (fun b hb e => by subst e; have := h.f2 _ hb; have := (h.fm hr); omega) (fun b hb _ => ⟨fun e => by subst e; have := hfm; omega, hb⟩)
  have k3 := (h.o3.only (S' := fun b => lab f w.heap.size 6 A b = 0) ho (fun b hb => by rw [h.f3 b hb]; omega) (fun b hb hl => ⟨by rw [hb]; omega, by show lab _ _ _ _ b = 0; rw [lab_old hA hl]; exact hb⟩)).only (S' := fun b => lab f w.heap.size 6 A b = 0) hoE (fun b hb e => by subst e; have := h.f3 _ hb; have := (h.fm hr); omega) (fun b hb _ => ⟨fun e => by subst e; have := hfm; omega, hb⟩)
  have k4 : bodyMk (w'.setCell ⟨m, 7, none⟩ (.slice A l.length c)) B0 (fun b => lab f w.heap.size 6 A b = 0) 0 A c l vs := by
    have hne : ¬ blk A m := fun hb => by
      have h1 := lab_blk (f := f) (n := w.heap.size) (k := 6) hb
      have h2 := hfm
      omega
    refine ⟨hmk.1, hmk.2.1.only hoE (fun b hb e => by subst e; exact hne hb), fun i hi => (hmk.2.2 i hi).keep (fun p hp => ?_) fun b hp => ⟨?_, hp.2⟩⟩
    · refine cell_off (fun e => ?_)
      have h0 : lab0 f w.heap.size m = 0 := by
        have h1 : lab0 f w.heap.size p.block = 0 := hp.1
        rw [e] at h1
        exact h1
      have hl := (h.y hr).lt
      have hff := (h.fm hr)
      unfold lab0 at h0
      rw [if_pos hl] at h0
      omega
    · have h0 : lab0 f w.heap.size b = 0 := hp.1
      show lab _ _ _ _ b = 0
      unfold lab
      rw [if_neg hp.2]
      exact h0
  exact ⟨hgx.far (p := ⟨m, 7, none⟩) (by show g ≠ m; omega) _, (fun _ => by have := hmy.set 7 (.slice A l.length c); exact this), k1, k2, k3, k4, hfg, (fun _ => hfm), fun b hb => (lab_old hA (blk_lt h.o1.2.1 hb)).trans (h.f1 b hb), fun b hb => (lab_old hA (blk_lt h.o2.2.1 hb)).trans (h.f2 b hb), fun b hb => (lab_old hA (blk_lt h.o3.2.1 hb)).trans (h.f3 b hb), fun b hb => lab_blk hb, h.hg, h.hm⟩
end
end Go.Proofs.Ytaecgapoaagjfaa
