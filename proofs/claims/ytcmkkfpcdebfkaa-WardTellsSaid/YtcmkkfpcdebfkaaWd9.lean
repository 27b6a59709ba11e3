/-
  What Down hands back; the memory in which it runs.
-/
import Derived.Test.YtcmkkfpcdebfkaaWd6b
namespace Go.Proofs.Ytcmkkfpcdebfkaa
open Go.RowKit

/-- Where a plan's two slices lie. -/
structure PA where
  C : Option Addr
  k : Nat
  D : Option Addr
  l : Nat
def planV (p : PA) (q : PlV) : Value := .agg #[.slice p.C q.1.length p.k, .slice p.D q.2.1.length p.l, .bool q.2.2]
structure POwn (w : World) (base : Nat) (p : PA) (q : PlV) : Prop where
  stop : OwnAt w base 3 1 p.C q.1.length p.k (ints q.1)
  start : OwnAt w base 3 1 p.D q.2.1.length p.l (ints q.2.1)
theorem POwn.below {w w' : World} {base : Nat} {p : PA} {q : PlV} (h : POwn w base p q) (hb : Below w.heap.size w w') : POwn w' base p q := ⟨h.stop.below hb, h.start.below hb⟩
theorem POwn.lower {w : World} {base base' : Nat} {p : PA} {q : PlV} (h : POwn w base p q) (hb : base' ≤ base) : POwn w base' p q := ⟨h.stop.lower hb, h.start.lower hb⟩
theorem own_min {w : World} {base : Nat} {e : TypeId} {size n cap : Nat} {A : Option Addr} {xs : List Value} (h : OwnAt w base e size A n cap xs) : ∀ b, A.map (·.block) = some b → base ≤ b := by
  intro b hb
  rcases h.form with ⟨rfl, _⟩ | ⟨g, o, rfl⟩
  · cases hb
  · injection hb with hb
    dsimp only at hb
    have := h.lt.1
    omega
theorem POwn.only {w w' : World} {base : Nat} {p : PA} {q : PlV} {T : Nat → Prop} (h : POwn w base p q) (ho : Only T w w') (hT : ∀ b, T b → b < base) : POwn w' base p q :=
  ⟨h.stop.only ho (fun b hb ht => by have := own_min h.stop b hb; have := hT b ht; omega), h.start.only ho (fun b hb ht => by have := own_min h.start b hb; have := hT b ht; omega)⟩
theorem WOwn.only {w w' : World} {base : Nat} {x : WA} {v : Wd} {T : Nat → Prop} (h : WOwn w base x v) (ho : Only T w w') (hT : ∀ b, T b → b < base) : WOwn w' base x v :=
  ⟨h.ch.only ho (fun b hb ht => by have := own_min h.ch b hb; have := hT b ht; omega), h.tm.only ho (fun b hb ht => by have := own_min h.tm b hb; have := hT b ht; omega)⟩
/-- A supervisor, a plan, an error. -/
def FallPost (r : Wd × PlV) (n : Int) (w : World) (e : Ending) (w' : World) : Prop :=
  ∃ x p, e = .returned (.tuple #[wardV x r.1, planV p r.2, .int .i64 n]) ∧ WOwn w' w.heap.size x r.1 ∧ POwn w' w.heap.size p r.2 ∧ Below w.heap.size w w'
def pl0 : PlV := ([], [], false)

abbrev zW : Array Value := #[.int .i64 0, .int .i64 0, .int .i64 0, .slice none 0 0, .slice none 0 0]
abbrev zP : Array Value := #[.slice none 0 0, .slice none 0 0, .bool false]
theorem plan_info : (Try.prog.info? 220).map (·.size) = some 3 := by kernel_rfl
/-- The memory of a call of Down: the supervisor's copy, the time, the two results. -/
structure DnW (W w : World) (cs : Array Value) (now : Int) : Prop where
  bx : Box w W.heap.size 215 cs
  bn : Box w (W.heap.size + 1) 3 #[.int .i64 now]
  br : Box w (W.heap.size + 2) 215 zW
  bp : Box w (W.heap.size + 3) 220 zP
  bb : Below W.heap.size W w
theorem DnW.lt {W w : World} {cs : Array Value} {now : Int} (h : DnW W w cs now) : W.heap.size + 3 < w.heap.size := h.bp.lt
theorem DnW.below {W w w' : World} {cs : Array Value} {now : Int} (h : DnW W w cs now) (hb : Below w.heap.size w w') : DnW W w' cs now :=
  ⟨h.bx.below hb h.bx.lt, h.bn.below hb h.bn.lt, h.br.below hb h.br.lt, h.bp.below hb h.bp.lt, h.bb.trans (hb.mono h.bb.size)⟩
theorem DnW.only {W w w' : World} {cs : Array Value} {now : Int} {S : Nat → Prop} (h : DnW W w cs now) (ho : Only S w w') (hS : ∀ b, S b → W.heap.size + 3 < b) : DnW W w' cs now :=
  ⟨ho.box h.bx (fun e => by have := hS _ e; omega), ho.box h.bn (fun e => by have := hS _ e; omega), ho.box h.br (fun e => by have := hS _ e; omega), ho.box h.bp (fun e => by have := hS _ e; omega),
    ho.to_below h.bb h.bb.size (fun i hi => by have := hS _ hi; omega)⟩
theorem DnW.stored {W w w' : World} {cs cs' : Array Value} {now : Int} (h : DnW W w cs now) (hs : Stored w w' W.heap.size 215 cs') : DnW W w' cs' now :=
  ⟨hs.box, hs.only.box h.bn (by omega), hs.only.box h.br (by omega), hs.only.box h.bp (by omega), hs.only.to_below h.bb h.bb.size (fun i hi => by omega)⟩
theorem dn_start (W : World) (cs : Array Value) (now : Int) :
    DnW W ((((W.alloc (.cells cs 215)).alloc (.cells #[.int .i64 now] 3)).alloc (.cells zW 215)).alloc (.cells zP 220)) cs now := by
  have h1 := Box.new (W.alloc (.cells cs 215)) 3 #[.int .i64 now]
  have h2 := Box.new ((W.alloc (.cells cs 215)).alloc (.cells #[.int .i64 now] 3)) 215 zW
  have h3 := Box.new (((W.alloc (.cells cs 215)).alloc (.cells #[.int .i64 now] 3)).alloc (.cells zW 215)) 220 zP
  rw [show (W.alloc (.cells cs 215)).heap.size = W.heap.size + 1 by simp] at h1
  rw [show ((W.alloc (.cells cs 215)).alloc (.cells #[.int .i64 now] 3)).heap.size = W.heap.size + 2 by simp] at h2
  rw [show (((W.alloc (.cells cs 215)).alloc (.cells #[.int .i64 now] 3)).alloc (.cells zW 215)).heap.size = W.heap.size + 3 by simp] at h3
  exact ⟨(((Box.new W 215 cs).alloc _).alloc _).alloc _, (h1.alloc _).alloc _, h2.alloc _, h3,
    ((((Below.refl W.heap.size W).alloc (Nat.le_refl _) _).alloc (by simp) _).alloc (by simp; omega) _).alloc (by simp; omega) _⟩

theorem idxAt_spec {α : Type} (f : α → Bool) (d : α) : ∀ (l : List α) (k : Nat), idxAt f l (k : Int) = -1 ∨ ∃ i, i < l.length ∧ idxAt f l (k : Int) = ((k + i : Nat) : Int) ∧ f (l.getD i d) = true
  | [], _ => .inl rfl
  | x :: r, k => by
    by_cases h : f x = true
    · exact .inr ⟨0, by simp, by simp [idxAt, h], by simpa using h⟩
    · have h' : f x = false := by simpa using h
      have e : idxAt f (x :: r) (k : Int) = idxAt f r ((k + 1 : Nat) : Int) := by simp [idxAt, h']
      rcases idxAt_spec f d r (k + 1) with h1 | ⟨i, h1, h2, h3⟩
      · exact .inl (by rw [e, h1])
      · exact .inr ⟨i + 1, by simp; omega, by rw [e, h2]; congr 1; omega, by simpa using h3⟩
theorem fallE_bad {v : Wd} (id now : Int) (h : wardF v ≠ 0) : fallE v id now = wardF v := by unfold fallE; rw [if_pos h]
theorem fallE_none {v : Wd} {id : Int} (now : Int) (h : wardF v = 0) (h1 : idxAt (isId id) v.ch 0 = -1) : fallE v id now = 4 := by
  unfold fallE
  rw [if_neg (by rw [h]; decide), if_pos (by omega)]
theorem fallE_dead {v : Wd} {id : Int} (now : Int) {i : Nat} (h : wardF v = 0) (h1 : idxAt (isId id) v.ch 0 = (i : Int)) (h2 : (v.ch.getD i (0, 0, false)).2.2 = false) : fallE v id now = 8 := by
  unfold fallE childAt
  rw [if_neg (by rw [h]; decide), if_neg (by omega), h1, if_pos (by simpa using h2)]
theorem fallE_time {v : Wd} {id now : Int} {i : Nat} (h : wardF v = 0) (h1 : idxAt (isId id) v.ch 0 = (i : Int)) (h2 : (v.ch.getD i (0, 0, false)).2.2 = true) (h3 : now < lastT v.tm ∨ 1099511627776 < now) : fallE v id now = 21 := by
  unfold fallE childAt
  rw [if_neg (by rw [h]; decide), if_neg (by omega), h1, if_neg (by rw [Int.toNat_natCast, h2]; decide), if_pos h3]
theorem fallE_ok {v : Wd} {id now : Int} {i : Nat} (h : wardF v = 0) (h1 : idxAt (isId id) v.ch 0 = (i : Int)) (h2 : (v.ch.getD i (0, 0, false)).2.2 = true) (h3 : lastT v.tm ≤ now) (h4 : now ≤ 1099511627776) : fallE v id now = 0 := by
  unfold fallE childAt
  rw [if_neg (by rw [h]; decide), if_neg (by omega), h1, if_neg (by rw [Int.toNat_natCast, h2]; decide), if_neg (by omega)]
theorem lastT_at (l : List Int) : lastT l = l.getD (l.length - 1) 0 := by
  unfold lastT
  rw [List.getLast?_eq_getElem?, List.getD_eq_getElem?_getD]
theorem lastT_nil {l : List Int} (h : l.length = 0) : lastT l = 0 := by
  rw [List.length_eq_zero_iff.1 h]
  rfl
/-- What a fall makes. -/
def fallQ (v : Wd) (id : Int) (failed : Bool) (now : Int) : Wd × PlV := if fallE v id now = 0 then fallV v (idxAt (isId id) v.ch 0).toNat failed now else (wd0, pl0)
theorem fallQ_bad {v : Wd} {id : Int} (failed : Bool) {now : Int} (h : fallE v id now ≠ 0) : fallQ v id failed now = (wd0, pl0) := by unfold fallQ; rw [if_neg h]
theorem fallQ_ok {v : Wd} {id : Int} {failed : Bool} {now : Int} {i : Nat} (h : fallE v id now = 0) (h1 : idxAt (isId id) v.ch 0 = (i : Int)) : fallQ v id failed now = fallV v i failed now := by
  unfold fallQ
  rw [if_pos h, h1, Int.toNat_natCast]
theorem fallen0 (w : World) (base : Nat) : WOwn w base ⟨none, 0, none, 0⟩ wd0 ∧ POwn w base ⟨none, 0, none, 0⟩ pl0 := ⟨⟨OwnAt.nil, OwnAt.nil⟩, ⟨OwnAt.nil, OwnAt.nil⟩⟩
end Go.Proofs.Ytcmkkfpcdebfkaa
