
/-
  cut: a history in the making (begin's first loop).
-/
import Derived.Test.YtgkckldflfalgaaCu2
namespace Go.Proofs.Ytgkckldflfalgaa
open Go.RowKit Go.Maps

/-- What a block is not. -/
structure BgSt (W w : World) (l : List Ev) (j : Nat) (gh gs gt ms : Nat) (AR : Nat → Option Addr × Nat) : Prop where
  bl : Below W.heap.size W w
  box : Box w gh 50 (hisV (fun p => plF (l.take j) (p : Int)) AR gs gt).toArray
  rows : ∀ p : Nat, p < 8 → OwnAt w W.heap.size 41 3 (AR p).1 (plF (l.take j) (p : Int)).length (AR p).2 (flat evC (plF (l.take j) (p : Int)))
  ap : ∀ p q b : Nat, p < 8 → q < 8 → p ≠ q → (AR p).1.map (·.block) = some b → (AR q).1.map (·.block) ≠ some b
  rb : ∀ p b : Nat, p < 8 → (AR p).1.map (·.block) = some b → b ≠ gh ∧ b ≠ gs ∧ b ≠ gt
  snd : IntMap w gs ms (fun m => (sndF l j m).map spotV)
  tk : ∃ F, IntMap w gt ms F
  lo : W.heap.size ≤ gh ∧ W.heap.size ≤ gs ∧ W.heap.size ≤ gt
  ne : gh ≠ gs ∧ gh ≠ gt ∧ gs ≠ gt
  msj : ms ≤ j
section
variable {W w w' : World} {l : List Ev} {j gh gs gt ms : Nat} {AR : Nat → Option Addr × Nat}
theorem own_blkE {e : TypeId} {base m c s : Nat} {A : Option Addr} {xs : List Value} (h : OwnAt w base e s A m c xs) {b : Nat} (hb : A.map (·.block) = some b) : base ≤ b ∧ b < w.heap.size := by
  rcases h.form with ⟨rfl, _⟩ | ⟨g', o, rfl⟩
  · cases hb
  · have := h.lt
    simp at hb
    omega
theorem only_grownE {row : Option Nat} (hg : w.grownBy w' row) : Only (fun b => row = some b) w w' := ⟨hg.os, hg.tape, hg.output, hg.size, fun i hi hne => hg.block i hi (fun e => hne e.symm)⟩
/-- What turns none of its blocks. -/
theorem BgSt.off {S : Nat → Prop} (h : BgSt W w l j gh gs gt ms AR) (ho : Only S w w') (hS : ∀ b, S b → W.heap.size ≤ b ∧ b ≠ gh ∧ b ≠ gs ∧ b ≠ gt ∧ ∀ p, p < 8 → (AR p).1.map (·.block) ≠ some b) : BgSt W w' l j gh gs gt ms AR :=
  ⟨ho.to_below h.bl h.bl.size (fun b hb => (hS b hb).1), ho.box h.box (fun e => (hS _ e).2.1 rfl), fun p hp => (h.rows p hp).only ho (fun b hb e => (hS b e).2.2.2.2 p hp hb), h.ap, h.rb, h.snd.only ho (fun e => (hS _ e).2.2.1 rfl), (by obtain ⟨F, hF⟩ := h.tk; exact ⟨F, hF.only ho (fun e => (hS _ e).2.2.2.1 rfl)⟩), h.lo, h.ne, h.msj⟩
theorem BgSt.below (h : BgSt W w l j gh gs gt ms AR) (hb : Below w.heap.size w w') : BgSt W w' l j gh gs gt ms AR :=
  ⟨h.bl.trans (hb.mono h.bl.size), h.box.below hb h.box.lt, fun p hp => (h.rows p hp).below hb, h.ap, h.rb, h.snd.under hb, (by obtain ⟨F, hF⟩ := h.tk; exact ⟨F, hF.under hb⟩), h.lo, h.ne, h.msj⟩
theorem BgSt.place (h : BgSt W w l j gh gs gt ms AR) {p : Nat} (hp : p < 8) : w.cell? ⟨gh, p, none⟩ = some (.slice (AR p).1 (plF (l.take j) (p : Int)).length (AR p).2) := by
  rw [h.box.cell p, ← hisV_at (fun p => plF (l.take j) (p : Int)) AR gs gt hp]
  simp
/-- How the history lies once the maps were asked: what is still to come is the row. -/
structure BgMid (W w : World) (l : List Ev) (j : Nat) (gh gs gt ms : Nat) (AR : Nat → Option Addr × Nat) : Prop where
  bl : Below W.heap.size W w
  box : Box w gh 50 (hisV (fun p => plF (l.take j) (p : Int)) AR gs gt).toArray
  rows : ∀ p : Nat, p < 8 → OwnAt w W.heap.size 41 3 (AR p).1 (plF (l.take j) (p : Int)).length (AR p).2 (flat evC (plF (l.take j) (p : Int)))
  ap : ∀ p q b : Nat, p < 8 → q < 8 → p ≠ q → (AR p).1.map (·.block) = some b → (AR q).1.map (·.block) ≠ some b
  rb : ∀ p b : Nat, p < 8 → (AR p).1.map (·.block) = some b → b ≠ gh ∧ b ≠ gs ∧ b ≠ gt
  snd : IntMap w gs ms (fun m => (sndF l (j + 1) m).map spotV)
  tk : ∃ F, IntMap w gt ms F
  lo : W.heap.size ≤ gh ∧ W.heap.size ≤ gs ∧ W.heap.size ≤ gt
  ne : gh ≠ gs ∧ gh ≠ gt ∧ gs ≠ gt
  msj : ms ≤ j + 1
theorem BgSt.other (h : BgSt W w l j gh gs gt ms AR) (hk : (evAt l j).2.1 ≠ 2) : BgMid W w l j gh gs gt ms AR :=
  ⟨h.bl, h.box, h.rows, h.ap, h.rb, by
    refine Eq.mp ?_ h.snd
    congr 1
    funext m
    rw [show sndF l (j + 1) m = sndF l j m from if_neg (fun e => hk e.1)], h.tk, h.lo, h.ne, by have := h.msj; omega⟩
theorem BgSt.send (h : BgSt W w l j gh gs gt ms AR) (hj : j < 1048576) (hk : (evAt l j).2.1 = 2) (h64 : I64 (evAt l j).2.2) :
    ∃ w', (Instr.mapUpdate 47 (.map (some gs)) (.int .i64 (evAt l j).2.2) (.agg #[.int .i64 (evAt l j).1, .int .i64 (rkF l j : Int)])).run Try.prog w = .ok () w' ∧ BgMid W w' l j gh gs gt (ms + 1) AR ∧ Only (fun b => b = gs) w w' := by
  have hmj := h.msj
  obtain ⟨w', hrun, h1, h2⟩ := h.snd.put ints_keyed (t := 47) (e := 52) Try.underlying47 (show ms < maxLen by unfold maxLen; omega) intL_inj intL_key (int_key h64) (.agg #[.int .i64 (evAt l j).1, .int .i64 (rkF l j : Int)])
  have ho : Only (fun b => b = gs) w w' := (only_grownE h2).more (fun b e => by injection e with e; exact e.symm)
  have hne := h.ne
  have hlo := h.lo
  refine ⟨w', hrun, ⟨ho.to_below h.bl h.bl.size (fun b e => by omega), ho.box h.box hne.1, fun p hp => (h.rows p hp).only ho (fun b hb e => (h.rb p b hp hb).2.1 e), h.ap, h.rb, ?_, ?_, h.lo, h.ne, by omega⟩, ho⟩
  · refine Eq.mp ?_ h1
    congr 1
    funext m
    show _ = Option.map spotV (if (evAt l j).2.1 = 2 ∧ (evAt l j).2.2 = m then some ((evAt l j).1, rkF l j) else sndF l j m)
    by_cases e : m = (evAt l j).2.2
    · subst e
      rw [if_pos rfl, if_pos ⟨hk, rfl⟩]
      rfl
    · rw [if_neg e, if_neg (fun h3 => e h3.2.symm)]
  · obtain ⟨F, hF⟩ := h.tk
    exact ⟨F, (hF.only ho (fun e => hne.2.2 e.symm)).mono (by omega)⟩
theorem BgSt.take (h : BgSt W w l j gh gs gt ms AR) (hj : j < 1048576) (hk : (evAt l j).2.1 ≠ 2) (h64 : I64 (evAt l j).2.2) (v : Value) :
    ∃ w', (Instr.mapUpdate 47 (.map (some gt)) (.int .i64 (evAt l j).2.2) v).run Try.prog w = .ok () w' ∧ BgMid W w' l j gh gs gt (ms + 1) AR ∧ Only (fun b => b = gt) w w' := by
  have hmj := h.msj
  obtain ⟨F, hF⟩ := h.tk
  obtain ⟨w', hrun, h1, h2⟩ := hF.put ints_keyed (t := 47) (e := 52) Try.underlying47 (show ms < maxLen by unfold maxLen; omega) intL_inj intL_key (int_key h64) v
  have ho : Only (fun b => b = gt) w w' := (only_grownE h2).more (fun b e => by injection e with e; exact e.symm)
  have hne := h.ne
  have hlo := h.lo
  have hm := h.other hk
  exact ⟨w', hrun, ⟨ho.to_below h.bl h.bl.size (fun b e => by omega), ho.box h.box hne.2.1, fun p hp => (h.rows p hp).only ho (fun b hb e => (h.rb p b hp hb).2.2 e), h.ap, h.rb, (hm.snd.only ho hne.2.2).mono (by omega), ⟨_, h1⟩, h.lo, h.ne, by omega⟩, ho⟩
theorem BgMid.below (h : BgMid W w l j gh gs gt ms AR) (hb : Below w.heap.size w w') : BgMid W w' l j gh gs gt ms AR :=
  ⟨h.bl.trans (hb.mono h.bl.size), h.box.below hb h.box.lt, fun p hp => (h.rows p hp).below hb, h.ap, h.rb, h.snd.under hb, (by obtain ⟨F, hF⟩ := h.tk; exact ⟨F, hF.under hb⟩), h.lo, h.ne, h.msj⟩
theorem BgMid.place (h : BgMid W w l j gh gs gt ms AR) {p : Nat} (hp : p < 8) : w.cell? ⟨gh, p, none⟩ = some (.slice (AR p).1 (plF (l.take j) (p : Int)).length (AR p).2) := by
  rw [h.box.cell p, ← hisV_at (fun p => plF (l.take j) (p : Int)) AR gs gt hp]
  simp
/-- The row of the event's place grown and put back. -/
theorem BgMid.push (h : BgMid W w l j gh gs gt ms AR) (hj : j < l.length) {p : Nat} (hp : p < 8) (hpj : (evAt l j).1 = (p : Int)) {A' : Option Addr} {c' : Nat} (hg : w.grownBy w' ((AR p).1.map (·.block)))
    (hown : OwnAt w' W.heap.size 41 3 A' ((plF (l.take j) (p : Int)).length + 1) c' (flat evC (plF (l.take j) (p : Int)) ++ evC (evAt l j))) (hA : ∀ b, A'.map (·.block) = some b → (AR p).1.map (·.block) = some b ∨ w.heap.size ≤ b) :
    BgSt W (w'.setCell ⟨gh, p, none⟩ (.slice A' ((plF (l.take j) (p : Int)).length + 1) c')) l (j + 1) gh gs gt ms (fun q => if q = p then (A', c') else AR q) := by
  have ho1 := only_grownE hg
  have ho2 : Only (fun b => b = gh) w' (w'.setCell ⟨gh, p, none⟩ (.slice A' ((plF (l.take j) (p : Int)).length + 1) c')) := Only.set (S := fun b => b = gh) (Only.refl _ _) (p := ⟨gh, p, none⟩) rfl _
  have hbx1 := ho1.box h.box (fun e => (h.rb p _ hp e).1 rfl)
  have hbx := hbx1.set p (.slice A' ((plF (l.take j) (p : Int)).length + 1) c')
  have hlo := h.lo
  have hne := h.ne
  have hgl := h.box.lt
  have hsl := h.snd.lt
  have htl : gt < w.heap.size := by obtain ⟨F, hF⟩ := h.tk; exact hF.lt
  have hb1 : Below W.heap.size W w' := ho1.to_below h.bl h.bl.size (fun b hb => (own_blkE (h.rows p hp) hb).1)
  have hpl : ∀ q : Nat, plF (l.take (j + 1)) (q : Int) = if q = p then plF (l.take j) (p : Int) ++ [evAt l j] else plF (l.take j) (q : Int) := fun q => by
    rw [pl_succ hj, hpj]
    by_cases e : q = p
    · subst e; rw [if_pos rfl, if_pos rfl]
    · rw [if_neg (by omega), if_neg e, List.append_nil]
  have hA' : ∀ b, A'.map (·.block) = some b → b ≠ gh ∧ b ≠ gs ∧ b ≠ gt := fun b hb => by
    rcases hA b hb with e | e
    · exact h.rb p b hp e
    · omega
  refine ⟨ho2.to_below hb1 hb1.size (fun b e => by omega), ?_, fun q hq => ?_, fun q r b hq hr hqr hb e => ?_, fun q b hq hb => ?_, ?_, ?_, h.lo, h.ne, h.msj⟩
  · refine Eq.mp ?_ hbx
    congr 1
    rw [List.setIfInBounds_toArray]
    congr 1
    unfold hisV
    rw [List.set_append_left _ _ (by simp; omega)]
    congr 1
    refine List.ext_getElem? fun q => ?_
    rw [List.getElem?_set, List.getElem?_map, List.getElem?_map]
    by_cases hq : q < 8
    · rw [List.getElem?_range hq]
      by_cases e : p = q
      · subst e
        rw [if_pos rfl, if_pos (by simp; omega)]
        simp [hpl]
      · rw [if_neg e]
        have e2 : ¬ q = p := fun h => e h.symm
        simp [hpl, e2]
    · rw [List.getElem?_eq_none (by simp; omega)]
      rw [if_neg (by omega)]
      rfl
  · rw [hpl q]
    by_cases e : q = p
    · subst e
      rw [if_pos rfl, if_pos rfl, List.length_append, List.length_singleton, flat_append, flat_one]
      exact hown.only ho2 (fun b hb e => (hA' b hb).1 e)
    · rw [if_neg e, if_neg e]
      exact ((h.rows q hq).only ho1 (fun b hb e2 => h.ap q p b hq hp e hb e2)).only ho2 (fun b hb e2 => (h.rb q b hq hb).1 e2)
  · by_cases e1 : q = p
    · subst e1
      have e2 : ¬ r = q := fun h => hqr h.symm
      rw [if_pos rfl] at hb
      rw [if_neg e2] at e
      rcases hA b hb with e3 | e3
      · exact h.ap q r b hq hr hqr e3 e
      · have := (own_blkE (h.rows r hr) e).2; omega
    · rw [if_neg e1] at hb
      by_cases e2 : r = p
      · subst e2
        rw [if_pos rfl] at e
        rcases hA b e with e3 | e3
        · exact h.ap q r b hq hr hqr hb e3
        · have := (own_blkE (h.rows q hq) hb).2; omega
      · rw [if_neg e2] at e
        exact h.ap q r b hq hr hqr hb e
  · by_cases e1 : q = p
    · rw [if_pos e1] at hb
      exact hA' b hb
    · rw [if_neg e1] at hb
      exact h.rb q b hq hb
  · exact (h.snd.only ho1 (fun e => (h.rb p _ hp e).2.1 rfl)).only ho2 (fun e => hne.1 e.symm)
  · obtain ⟨F, hF⟩ := h.tk
    exact ⟨F, (hF.only ho1 (fun e => (h.rb p _ hp e).2.2 rfl)).only ho2 (fun e => hne.2.1 e.symm)⟩
theorem BgSt.made (w : World) (l : List Ev) : BgSt w (((w.alloc (.map #[] 0)).alloc (.map #[] 0)).alloc (.cells #[.slice none 0 0, .slice none 0 0, .slice none 0 0, .slice none 0 0, .slice none 0 0, .slice none 0 0, .slice none 0 0, .slice none 0 0, .map (some w.heap.size), .map (some (w.heap.size + 1))] 50)) l 0 (w.heap.size + 1 + 1) w.heap.size (w.heap.size + 1) 0 (fun _ => (none, 0)) := by
  have e1 : (w.alloc (.map #[] 0)).heap.size = w.heap.size + 1 := by simp
  have e2 : ((w.alloc (.map #[] 0)).alloc (.map #[] 0)).heap.size = w.heap.size + 1 + 1 := by simp
  have hm1 : IntMap (w.alloc (.map #[] 0)) w.heap.size 0 (fun _ => none) := MapV.made w
  have hm2 : IntMap ((w.alloc (.map #[] 0)).alloc (.map #[] 0)) (w.heap.size + 1) 0 (fun _ => none) := by rw [← e1]; exact MapV.made _
  have hbx := Box.new ((w.alloc (.map #[] 0)).alloc (.map #[] 0)) 50 #[.slice none 0 0, .slice none 0 0, .slice none 0 0, .slice none 0 0, .slice none 0 0, .slice none 0 0, .slice none 0 0, .slice none 0 0, .map (some w.heap.size), .map (some (w.heap.size + 1))]
  rw [e2] at hbx
  refine ⟨((Below.refl _ _).alloc (Nat.le_refl _) _ |>.alloc (by simp) _).alloc (by simp; omega) _, hbx, fun p hp => OwnAt.nil, (fun p q b hp hq hpq hb => by cases hb), (fun p b hp hb => by cases hb), (hm1.alloc _).alloc _, ⟨_, hm2.alloc _⟩, by omega, by omega, Nat.le_refl _⟩
theorem BgSt.done (h : BgSt W w l l.length gh gs gt ms AR) : HiIn w l gh gs gt ms AR := by
  have hb := h.box
  have hr := h.rows
  rw [List.take_length] at hb hr
  exact ⟨hb, fun p hp => (hr p hp).row, h.snd⟩
end
end Go.Proofs.Ytgkckldflfalgaa
