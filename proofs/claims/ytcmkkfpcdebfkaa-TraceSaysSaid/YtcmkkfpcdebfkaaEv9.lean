/-
  Histories: vector clocks (clock.Clocks): what the loop keeps.
-/
import Derived.Test.YtcmkkfpcdebfkaaEv8
namespace Go.Proofs.Ytcmkkfpcdebfkaa
open Go.RowKit Go.Maps

theorem IOwn.grown {w w' : World} {base : Nat} {u : Value} {xs : List Int} {row : Option Nat} (h : IOwn w base u xs) (hg : w.grownBy w' row) (hN : ∀ g, row = some g → NoInts w g) : IOwn w' base u xs :=
  h.only (Only.of_grown hg) fun b _ hb => hN b hb.symm
theorem NoInts.map {w : World} {g n : Nat} {F : Int → Option Value} (h : IntMap w g n F) : NoInts w g := fun cur hc => by
  obtain ⟨D, ⟨es, clock, hb, _⟩, _⟩ := h
  rw [hb] at hc
  cases hc
theorem NoInts.row {w : World} {base n : Nat} {t : TypeId} {v : Value} {xs : List Value} (h : w.ownsRow base t 1 v n xs) (ht : t ≠ 3) : ∀ g, v.ownBlock = some g → NoInts w g := fun g hv cur hc => by
  rcases h.2 with ⟨rfl, _⟩ | ⟨g', cap, cur', rfl, _, hh, _⟩
  · cases hv
  · simp [Value.ownBlock] at hv
    subst hv
    rw [hh] at hc
    injection hc with hc
    injection hc with _ hc
    exact ht hc
theorem int_ne_row : 33 ≠ 3 := by decide
theorem IOwn.set {w : World} {base b o cap n : Nat} {xs : List Int} (h : OwnAt w base 3 1 (some ⟨b, o, none⟩) n cap (ints xs)) (hn : xs.length = n) (j : Nat) (v : Int) : IOwn (w.setCell ⟨b, o + j, none⟩ (.int .i64 v)) base (.slice (some ⟨b, o, none⟩) n cap) (xs.set j v) := by
  subst hn
  have h1 := h.set (j := j) (.int .i64 v)
  have e : (ints xs).set j (.int .i64 v) = ints (xs.set j v) := by unfold ints; rw [List.map_set]
  rw [e] at h1
  exact ⟨_, cap, by rw [List.length_set], by rw [List.length_set]; exact h1⟩

def hsA (hs : Nat → Value) : Array Value := ((List.range 8).map hs).toArray
theorem hsA_get {hs : Nat → Value} {p : Nat} (hp : p < 8) : (hsA hs)[p]? = some (hs p) := by simp [hsA, hp]
theorem hsA_set {hs : Nat → Value} (p : Nat) (u : Value) : (hsA hs).setIfInBounds p u = hsA (fun i => if i = p then u else hs i) := by
  unfold hsA
  rw [List.setIfInBounds_toArray]
  congr 1
  apply List.ext_getElem
  · simp
  · intro i h1 h2
    rw [List.getElem_set]
    by_cases e : p = i
    · simp [e]
    · rw [if_neg e]
      simp [show ¬ i = p from fun h => e h.symm]

/-- The rows of the clocks so far. -/
def OutRows (l : List Ev) (w : World) (base : Nat) (os : List Value) : Prop := ∀ (i : Nat) (u : Value), os[i]? = some u → IOwn w base u (vec l (Upto l i) l.length)
/-- The first k clocks are there. -/
structure ClkSt (l : List Ev) (W wr : World) (g1 g2 gb k : Nat) (v : Value) : Prop where
  last : ∃ hs, Box wr g1 33 (hsA hs) ∧ ∀ p : Nat, p < 8 → IOwn wr W.heap.size (hs p) (vec l (Lst l k (p : Int)) l.length)
  sent : ∃ F, IntMap wr g2 k F ∧ (∀ m u, F m = some u → IOwn wr W.heap.size u (vec l (Snd l k m) l.length)) ∧ ∀ m, F m = none → ∀ j, ¬ Snd l k m j
  out : ∃ os, os.length = k ∧ wr.ownsRow gb 33 1 v k os ∧ OutRows l wr W.heap.size os
  bel : Below W.heap.size W wr
  low : W.heap.size ≤ g1 ∧ W.heap.size ≤ g2 ∧ g1 ≠ g2 ∧ g1 < gb ∧ g2 < gb ∧ gb ≤ wr.heap.size
/-- .. and what is sent and last is stored, the clock u itself not yet. -/
structure ClkPut (l : List Ev) (W wr : World) (g1 g2 gb k : Nat) (v u : Value) : Prop where
  last : ∃ hs, Box wr g1 33 (hsA hs) ∧ ∀ p : Nat, p < 8 → IOwn wr W.heap.size (hs p) (vec l (Lst l (k + 1) (p : Int)) l.length)
  sent : ∃ F, IntMap wr g2 (k + 1) F ∧ (∀ m u, F m = some u → IOwn wr W.heap.size u (vec l (Snd l (k + 1) m) l.length)) ∧ ∀ m, F m = none → ∀ j, ¬ Snd l (k + 1) m j
  out : ∃ os, os.length = k ∧ wr.ownsRow gb 33 1 v k os ∧ OutRows l wr W.heap.size os
  own : IOwn wr W.heap.size u (vec l (Upto l k) l.length)
  bel : Below W.heap.size W wr
  low : W.heap.size ≤ g1 ∧ W.heap.size ≤ g2 ∧ g1 ≠ g2 ∧ g1 < gb ∧ g2 < gb ∧ gb ≤ wr.heap.size
/-- .. what is sent is stored, the clock u is there, and nothing else yet. -/
structure ClkMid (l : List Ev) (W wr : World) (g1 g2 gb k : Nat) (v u : Value) : Prop where
  last : ∃ hs, Box wr g1 33 (hsA hs) ∧ ∀ p : Nat, p < 8 → IOwn wr W.heap.size (hs p) (vec l (Lst l k (p : Int)) l.length)
  sent : ∃ F, IntMap wr g2 (k + 1) F ∧ (∀ m u, F m = some u → IOwn wr W.heap.size u (vec l (Snd l (k + 1) m) l.length)) ∧ ∀ m, F m = none → ∀ j, ¬ Snd l (k + 1) m j
  out : ∃ os, os.length = k ∧ wr.ownsRow gb 33 1 v k os ∧ OutRows l wr W.heap.size os
  own : IOwn wr W.heap.size u (vec l (Upto l k) l.length)
  bel : Below W.heap.size W wr
  low : W.heap.size ≤ g1 ∧ W.heap.size ≤ g2 ∧ g1 ≠ g2 ∧ g1 < gb ∧ g2 < gb ∧ gb ≤ wr.heap.size
theorem grown_none {w w' : World} (hb : Below w.heap.size w w') : w.grownBy w' none := ⟨hb.os, hb.tape, hb.output, hb.size, fun i hi _ => hb.block i hi⟩
section
variable {l : List Ev} {W wr : World} {g1 g2 gb k : Nat} {v : Value}
theorem ClkSt.under {w' : World} (h : ClkSt l W wr g1 g2 gb k v) (hb : Below wr.heap.size wr w') : ClkSt l W w' g1 g2 gb k v := by
  obtain ⟨hs, a1, a2⟩ := h.last
  obtain ⟨F, b1, b2, b3⟩ := h.sent
  obtain ⟨os, c1, c2, c3⟩ := h.out
  have := hb.size
  have := h.low
  exact ⟨⟨hs, a1.below hb a1.lt, fun p hp => (a2 p hp).below hb⟩, ⟨F, b1.under hb, fun m u hu => (b2 m u hu).below hb, b3⟩, ⟨os, c1, c2.kept (grown_none hb) (by cases v.ownBlock <;> simp), fun i u hu => (c3 i u hu).below hb⟩, h.bel.trans (hb.mono h.bel.size), by omega⟩
theorem ClkSt.alloc (h : ClkSt l W wr g1 g2 gb k v) (o : Obj) : ClkSt l W (wr.alloc o) g1 g2 gb k v := h.under ((Below.refl _ _).alloc (Nat.le_refl _) _)
theorem own_lower {w : World} {base base' size n : Nat} {e : TypeId} {v : Value} {xs : List Value} (h : w.ownsRow base e size v n xs) (hb : base' ≤ base) : w.ownsRow base' e size v n xs := by
  refine ⟨h.1, ?_⟩
  rcases h.2 with h0 | ⟨g, cap, cur, h1, h2, h3⟩
  · exact .inl h0
  · exact .inr ⟨g, cap, cur, h1, Nat.le_trans hb h2, h3⟩
theorem own_not {w : World} {base size n g : Nat} {e : TypeId} {v : Value} {xs : List Value} (h : w.ownsRow base e size v n xs) (hg : g < base) : v.ownBlock = none ∨ v.ownBlock ≠ some g := by
  cases hv : v.ownBlock with
  | none => exact .inl rfl
  | some g' =>
    right
    intro e
    injection e with e
    have := (h.lt g' hv).1
    omega

theorem lst_vec_put {p : Nat} : vec l (Lst l (k + 1) (p : Int)) l.length = if (p : Int) = (evAt l k).1 then vec l (Upto l k) l.length else vec l (Lst l k (p : Int)) l.length := by
  by_cases e : (p : Int) = (evAt l k).1
  · rw [if_pos e, e]
    exact vec_iff fun j _ => lst_here
  · rw [if_neg e]
    exact vec_iff fun j _ => lst_other (fun h => e h.symm)

/-- The clock stored as its place's last one. -/
theorem ClkMid.store {u : Value} {q : Nat} (h : ClkMid l W wr g1 g2 gb k v u) (hq : (evAt l k).1 = (q : Int)) :
    ClkPut l W (wr.setCell ⟨g1, q, none⟩ u) g1 g2 gb k v u := by
  obtain ⟨hs, a1, a2⟩ := h.last
  obtain ⟨F, b1, b2, b3⟩ := h.sent
  obtain ⟨os, c1, c2, c3⟩ := h.out
  have hn : NoInts wr g1 := NoInts.box a1 int_ne_row
  have hgr : wr.grownBy (wr.setCell ⟨g1, q, none⟩ u) (some g1) := ⟨rfl, rfl, rfl, by simp [World.setCell], fun i _ hi => Below.heap_setCell wr ⟨g1, q, none⟩ u i (fun e => hi (by rw [e]))⟩
  have hN : ∀ g, some g1 = some g → NoInts wr g := fun g e => by injection e with e; subst e; exact hn
  have hl := h.low
  refine ⟨⟨_, by have := a1.set q u; rw [hsA_set] at this; exact this, fun p hp => ?_⟩, ⟨F, b1.set (by simp; omega) u, fun m x hx => (b2 m x hx).grown hgr hN, b3⟩, ⟨os, c1, c2.kept hgr (own_not c2 (by omega)), fun i x hx => (c3 i x hx).grown hgr hN⟩, h.own.grown hgr hN, h.bel.setCell (by simp; omega) u, by simp [World.setCell]; omega⟩
  rw [lst_vec_put, hq]
  by_cases e : p = q
  · subst e
    rw [if_pos rfl, if_pos rfl]
    exact h.own.grown hgr hN
  · rw [if_neg e, if_neg (by omega)]
    exact (a2 p hp).grown hgr hN
theorem ClkSt.send1 {u : Value} (h : ClkSt l W wr g1 g2 gb k v) (h2 : (evAt l k).2.1 ≠ 2) (hu : IOwn wr W.heap.size u (vec l (Upto l k) l.length)) : ClkMid l W wr g1 g2 gb k v u := by
  obtain ⟨F, b1, b2, b3⟩ := h.sent
  refine ⟨h.last, ⟨F, b1.mono (by omega), fun m x hx => ?_, fun m hm j hj => ?_⟩, h.out, hu, h.bel, h.low⟩
  · rw [vec_iff (T := Snd l k m) fun j _ => snd_other (fun hh => h2 hh.1)]
    exact b2 m x hx
  · exact b3 m hm j ((snd_other (fun hh => h2 hh.1)).1 hj)
/-- The message sent with the clock. -/
theorem ClkSt.send2 {u : Value} (h : ClkSt l W wr g1 g2 gb k v) (hl : l.length ≤ 200) (hk : k < l.length) (hg : Good1 l k) (h2 : (evAt l k).2.1 = 2) (hu : IOwn wr W.heap.size u (vec l (Upto l k) l.length)) :
    ∃ w', (Instr.mapUpdate 282 (.map (some g2)) (.int .i64 (evAt l k).2.2) u).run Try.prog wr = .ok () w' ∧ wr.grownBy w' (some g2) ∧ ClkMid l W w' g1 g2 gb k v u := by
  obtain ⟨hs, a1, a2⟩ := h.last
  obtain ⟨F, b1, b2, b3⟩ := h.sent
  obtain ⟨os, c1, c2, c3⟩ := h.out
  have hlow := h.low
  have hmg := hg.msg (by omega)
  obtain ⟨w', hrun, hm, hgr⟩ := b1.put (t := 282) (e := 33) ints_keyed Try.underlying282 (by unfold maxLen; omega) intL_inj intL_key (int_key (show I64 (evAt l k).2.2 by unfold I64; omega)) u
  have hN : ∀ g, some g2 = some g → NoInts wr g := fun g e => by injection e with e; subst e; exact NoInts.map b1
  have hsz := hgr.size
  refine ⟨w', hrun, hgr, ⟨hs, a1.grown hgr (by simp; omega), fun p hp => (a2 p hp).grown hgr hN⟩, ⟨_, hm, fun m x hx => ?_, fun m hm0 j hj => ?_⟩, ⟨os, c1, c2.kept hgr (own_not c2 (by omega)), fun i x hx => (c3 i x hx).grown hgr hN⟩, hu.grown hgr hN, h.bel.grown hgr h.bel.size (fun g e => by simp at e; omega), by omega⟩
  · by_cases e : m = (evAt l k).2.2
    · rw [if_pos e] at hx
      injection hx with hx
      subst hx e
      rw [vec_iff (T := Upto l k) fun j _ => snd_here h2 (hg.uniq h2)]
      exact hu.grown hgr hN
    · rw [if_neg e] at hx
      rw [vec_iff (T := Snd l k m) fun j _ => snd_other (fun hh => e hh.2.symm)]
      exact (b2 m x hx).grown hgr hN
  · by_cases e : m = (evAt l k).2.2
    · rw [if_pos e] at hm0; cases hm0
    · rw [if_neg e] at hm0
      exact b3 m hm0 j ((snd_other (fun hh => e hh.2.symm)).1 hj)
/-- .. and put out. -/
theorem ClkPut.step {u v' : Value} {w' : World} {os : List Value} (h : ClkPut l W wr g1 g2 gb k v u) (o : Obj) (hos : os.length = k ∧ wr.ownsRow gb 33 1 v k os ∧ OutRows l wr W.heap.size os)
    (ho : w'.ownsRow gb 33 1 v' (k + 1) (os ++ [u])) (hg : (wr.alloc o).grownBy w' v.ownBlock) : ClkSt l W w' g1 g2 gb (k + 1) v' := by
  obtain ⟨hs, a1, a2⟩ := h.last
  obtain ⟨F, b1, b2, b3⟩ := h.sent
  obtain ⟨c1, c2, c3⟩ := hos
  have hl := h.low
  have hN : ∀ g, v.ownBlock = some g → NoInts (wr.alloc o) g := NoInts.row (c2.alloc o) int_ne_row
  have ne : ∀ g, g < gb → some g ≠ v.ownBlock := fun g hlt e => by have := (c2.lt g e.symm).1; omega
  have hsz := hg.size
  simp at hsz
  have up : ∀ {x : Value} {xs : List Int}, IOwn wr W.heap.size x xs → IOwn w' W.heap.size x xs := fun hx => (hx.alloc o).grown hg hN
  refine ⟨⟨hs, (a1.alloc o).grown hg (ne g1 hl.2.2.2.1), fun p hp => up (a2 p hp)⟩, ⟨F, (b1.alloc o).kept hg (ne g2 hl.2.2.2.2.1), fun m x hx => up (b2 m x hx), b3⟩, ⟨os ++ [u], by simp [c1], ho, fun i x hx => ?_⟩, (h.bel.alloc h.bel.size o).grown hg (Nat.le_trans h.bel.size (by simp)) (fun g hq => by have := (c2.lt g hq).1; omega), by omega⟩
  rcases Nat.lt_or_ge i k with hlt | hge
  · rw [List.getElem?_append_left (by omega)] at hx
    exact up (c3 i x hx)
  · rw [List.getElem?_append_right (by omega)] at hx
    match hi : i - os.length, hx with
    | 0, hx =>
      simp at hx
      subst hx
      obtain rfl : i = k := by omega
      exact up h.own
    | j + 1, hx => simp at hx
end

/-- One header appended to a row of the call's own. -/
theorem wpList_push_hd {ops : Array Oper} {rest : List Oper} {o : Oper} {a : Act} {w : World} {Q : Exit → Act → World → Prop} (hgd : o.guard = none) (s x : Operand)
    (ho : o.op = .call { callee := .builtin .append, args := #[s, x], argTypes := #[85, 85] })
    (base : Nat) (v : Value) (n : Nat) (zs : List Value) (hs : a.eval s = v) (hown : w.ownsRow base 33 1 v n zs) (g : Nat) (A : Option Addr) (m c : Nat) (hx : a.eval x = .slice (some ⟨g, 0, none⟩) 1 1) (hy : w.cell? ⟨g, 0, none⟩ = some (.slice A m c))
    (hb : (n + 1) * 24 ≤ 140737488355328) (hbase : base ≤ w.heap.size)
    (h : ∀ v' w', w'.ownsRow base 33 1 v' (n + 1) (zs ++ [.slice A m c]) → w.grownBy w' v.ownBlock → wpList Try.prog ops Q rest (a.put o.dst v') w') : wpList Try.prog ops Q (o :: rest) a w := by
  obtain ⟨i0, hi0, hz0, hz1, hz2⟩ := info_parts mis_info
  refine wpList_append_own _ hgd s x _ ho base 33 i0 (.slice none 0 0) 1 24 Try.underlying85 hi0 hz0 hz1 hz2 rfl (by decide) v n zs hs hown ⟨g, 0, none⟩ 1 1 [.slice A m c] hx rfl ?_ ?_ (by unfold maxLen; omega) hb hbase ?_
  · intro j u hu
    match j, hu with
    | 0, hu =>
      simp at hu
      subst hu
      simpa [Addr.add] using hy
    | j + 1, hu => simp at hu
  · intro u hu
    simp at hu
    subst hu
    rfl
  · intro v' w' h1 h2 _
    exact h v' w' h1 h2
end Go.Proofs.Ytcmkkfpcdebfkaa
