/-
  Histories: Lamport's numbers (clock.Numbers).
-/
import Derived.Test.YtcmkkfpcdebfkaaEv6
import Derived.Test.YtcmkkfpcdebfkaaClock
namespace Go.Proofs.Ytcmkkfpcdebfkaa
open Go.RowKit Go.Maps

theorem own_not_map {w : World} {base size n m g : Nat} {e : TypeId} {v : Value} {xs : List Value} {F : Int → Option Value} (h : w.ownsRow base e size v n xs) (hm : IntMap w g m F) : v.ownBlock = none ∨ v.ownBlock ≠ some g := by
  obtain ⟨D, ⟨es, clock, hb, _⟩, _⟩ := hm
  rcases h.2 with ⟨rfl, _⟩ | ⟨g', cap, cur, rfl, _, hh, _⟩
  · exact .inl rfl
  · right
    simp only [Value.ownBlock, ne_eq, Option.some.injEq]
    intro e
    subst e
    rw [hh] at hb
    cases hb

/-- The first k numbers are there. -/
structure NumSt (l : List Ev) (W wr : World) (g1 g2 k : Nat) (v : Value) : Prop where
  m1 : ∃ F, IntMap wr g1 k F ∧ ∀ p, (F p).getD (.int .i64 0) = .int .i64 (mx (num l) (Lst l k p) l.length : Int)
  m2 : ∃ F, IntMap wr g2 k F ∧ ∀ m, (F m).getD (.int .i64 0) = .int .i64 (mx (num l) (Snd l k m) l.length : Int)
  out : wr.ownsRow W.heap.size 3 1 v (nv k (num l)).length (ints (nv k (num l)))
  bel : Below W.heap.size W wr
  low : W.heap.size ≤ g1 ∧ W.heap.size ≤ g2 ∧ g1 ≠ g2
theorem nv_succ {k : Nat} {f : Nat → Nat} : nv (k + 1) f = nv k f ++ [(f k : Int)] := by simp [nv, List.range_succ]

section
variable {l : List Ev} {W wr : World} {g1 g2 k : Nat} {v : Value}
theorem NumSt.alloc (h : NumSt l W wr g1 g2 k v) (o : Obj) : NumSt l W (wr.alloc o) g1 g2 k v := by
  obtain ⟨F, h1, h2⟩ := h.m1
  obtain ⟨G, h3, h4⟩ := h.m2
  exact ⟨⟨F, h1.alloc o, h2⟩, ⟨G, h3.alloc o, h4⟩, h.out.alloc o, h.bel.alloc h.bel.size o, h.low⟩
theorem NumSt.look (h : NumSt l W wr g1 g2 k v) {x : Int} (hx : I64 x) :
    (Instr.lookup 271 (.map (some g1)) (.int .i64 x) false).run Try.prog wr = .ok (.int .i64 (mx (num l) (Lst l k x) l.length : Int)) wr ∧
    (Instr.lookup 271 (.map (some g2)) (.int .i64 x) false).run Try.prog wr = .ok (.int .i64 (mx (num l) (Snd l k x) l.length : Int)) wr := by
  obtain ⟨F, h1, h2⟩ := h.m1
  obtain ⟨G, h3, h4⟩ := h.m2
  have e1 := h1.look (t := 271) (e := 3) ints_keyed Try.underlying271 (zero_intS _) (int_key hx)
  have e2 := h3.look (t := 271) (e := 3) ints_keyed Try.underlying271 (zero_intS _) (int_key hx)
  rw [h2] at e1
  rw [h4] at e2
  exact ⟨e1, e2⟩
/-- What the round's stores leave, ahead of the append. -/
structure NumPut (l : List Ev) (W wr : World) (g1 g2 k : Nat) (v : Value) : Prop where
  m1 : ∃ F, IntMap wr g1 (k + 1) F ∧ ∀ p, (F p).getD (.int .i64 0) = .int .i64 (mx (num l) (Lst l (k + 1) p) l.length : Int)
  m2 : ∃ F, IntMap wr g2 (k + 1) F ∧ ∀ m, (F m).getD (.int .i64 0) = .int .i64 (mx (num l) (Snd l (k + 1) m) l.length : Int)
  out : wr.ownsRow W.heap.size 3 1 v (nv k (num l)).length (ints (nv k (num l)))
  bel : Below W.heap.size W wr
  low : W.heap.size ≤ g1 ∧ W.heap.size ≤ g2 ∧ g1 ≠ g2

theorem mx_lst_put {p : Int} (hk : k < l.length) : mx (num l) (Lst l (k + 1) p) l.length = if p = (evAt l k).1 then num l k else mx (num l) (Lst l k p) l.length := by
  by_cases e : p = (evAt l k).1
  · subst e
    rw [if_pos rfl, ← mx_upto hk]
    exact mx_congr (fun j _ => lst_here) (fun _ _ _ => rfl)
  · rw [if_neg e]
    exact mx_congr (fun j _ => lst_other (fun h => e h.symm)) (fun _ _ _ => rfl)
theorem mx_snd_put {m : Int} (hk : k < l.length) (hg : Good1 l k) : mx (num l) (Snd l (k + 1) m) l.length = if (evAt l k).2.1 = 2 ∧ m = (evAt l k).2.2 then num l k else mx (num l) (Snd l k m) l.length := by
  by_cases e : (evAt l k).2.1 = 2 ∧ m = (evAt l k).2.2
  · obtain ⟨e1, rfl⟩ := e
    rw [if_pos ⟨e1, rfl⟩, ← mx_upto hk]
    exact mx_congr (fun j _ => snd_here e1 (hg.uniq e1)) (fun _ _ _ => rfl)
  · rw [if_neg e]
    exact mx_congr (fun j _ => snd_other (fun h => e ⟨h.1, h.2.symm⟩)) (fun _ _ _ => rfl)

theorem NumSt.put1 (h : NumSt l W wr g1 g2 k v) (hk : k < l.length) (hl : l.length ≤ 200) (hg : Good1 l k) (h2 : (evAt l k).2.1 ≠ 2) :
    ∃ w3, (Instr.mapUpdate 271 (.map (some g1)) (.int .i64 (evAt l k).1) (.int .i64 (num l k : Int))).run Try.prog wr = .ok () w3 ∧ NumPut l W w3 g1 g2 k v := by
  obtain ⟨F, h1, hF⟩ := h.m1
  obtain ⟨G, h3, hG⟩ := h.m2
  obtain ⟨w3, hrun, hm, hgr⟩ := h1.put (t := 271) (e := 3) ints_keyed Try.underlying271 (by unfold maxLen; omega) intL_inj intL_key (int_key (show I64 (evAt l k).1 by have := hg.place; unfold I64; omega)) (.int .i64 (num l k : Int))
  refine ⟨w3, hrun, ⟨_, hm, fun p => ?_⟩, ⟨G, (h3.kept hgr (by simpa using h.low.2.2.symm)).mono (by omega), fun m => ?_⟩, h.out.kept hgr (own_not_map h.out h1), h.bel.grown hgr h.bel.size (fun q hq => by simp at hq; have := h.low.1; omega), h.low⟩
  · rw [mx_lst_put hk]
    by_cases e : p = (evAt l k).1
    · rw [if_pos e, if_pos e]; rfl
    · rw [if_neg e, if_neg e]; exact hF p
  · rw [mx_snd_put hk hg, if_neg (fun h => h2 h.1)]
    exact hG m
theorem NumSt.put2 (h : NumSt l W wr g1 g2 k v) (hk : k < l.length) (hl : l.length ≤ 200) (hg : Good1 l k) (h2 : (evAt l k).2.1 = 2) :
    ∃ w2, (Instr.mapUpdate 271 (.map (some g2)) (.int .i64 (evAt l k).2.2) (.int .i64 (num l k : Int))).run Try.prog wr = .ok () w2 ∧ wr.grownBy w2 (some g2) ∧
      ∃ w3, (Instr.mapUpdate 271 (.map (some g1)) (.int .i64 (evAt l k).1) (.int .i64 (num l k : Int))).run Try.prog w2 = .ok () w3 ∧ NumPut l W w3 g1 g2 k v := by
  obtain ⟨F, h1, hF⟩ := h.m1
  obtain ⟨G, h3, hG⟩ := h.m2
  obtain ⟨w2, hrun2, hm2, hgr2⟩ := h3.put (t := 271) (e := 3) ints_keyed Try.underlying271 (by unfold maxLen; omega) intL_inj intL_key (int_key (show I64 (evAt l k).2.2 by have := hg.msg (by omega); unfold I64; omega)) (.int .i64 (num l k : Int))
  have h1' := h1.kept hgr2 (by simpa using h.low.2.2)
  have ho' := h.out.kept hgr2 (own_not_map h.out h3)
  have hb' := h.bel.grown hgr2 h.bel.size (fun q hq => by simp at hq; have := h.low.2.1; omega)
  obtain ⟨w3, hrun, hm, hgr⟩ := h1'.put (t := 271) (e := 3) ints_keyed Try.underlying271 (by unfold maxLen; omega) intL_inj intL_key (int_key (show I64 (evAt l k).1 by have := hg.place; unfold I64; omega)) (.int .i64 (num l k : Int))
  refine ⟨w2, hrun2, hgr2, w3, hrun, ⟨_, hm, fun p => ?_⟩, ⟨_, hm2.kept hgr (by simpa using h.low.2.2.symm), fun m => ?_⟩, ho'.kept hgr (own_not_map ho' h1'), hb'.grown hgr hb'.size (fun q hq => by simp at hq; have := h.low.1; omega), h.low⟩
  · rw [mx_lst_put hk]
    by_cases e : p = (evAt l k).1
    · rw [if_pos e, if_pos e]; rfl
    · rw [if_neg e, if_neg e]; exact hF p
  · rw [mx_snd_put hk hg]
    by_cases e : m = (evAt l k).2.2
    · rw [if_pos e, if_pos ⟨h2, e⟩]; rfl
    · rw [if_neg e, if_neg (fun h => e h.2)]; exact hG m
theorem NumPut.step {w' : World} {v' : Value} (h : NumPut l W wr g1 g2 k v) (ho : w'.ownsRow W.heap.size 3 1 v' (nv k (num l) ++ [(num l k : Int)]).length (ints (nv k (num l) ++ [(num l k : Int)]))) (o : Obj) (hg : (wr.alloc o).grownBy w' v.ownBlock) : NumSt l W w' g1 g2 (k + 1) v' := by
  obtain ⟨F, h1, hF⟩ := h.m1
  obtain ⟨G, h2, hG⟩ := h.m2
  have n1 := own_not_map (h.out.alloc o) (h1.alloc o)
  have n2 := own_not_map (h.out.alloc o) (h2.alloc o)
  refine ⟨⟨F, (h1.alloc o).kept hg (fun e => ?_), hF⟩, ⟨G, (h2.alloc o).kept hg (fun e => ?_), hG⟩, by rw [nv_succ]; exact ho, (h.bel.alloc h.bel.size o).grown hg (Nat.le_trans h.bel.size (by simp)) (fun g hq => (h.out.lt g hq).1), h.low⟩
  · rcases n1 with n | n
    · rw [n] at e; cases e
    · exact n e.symm
  · rcases n2 with n | n
    · rw [n] at e; cases e
    · exact n e.symm
end
end Go.Proofs.Ytcmkkfpcdebfkaa
