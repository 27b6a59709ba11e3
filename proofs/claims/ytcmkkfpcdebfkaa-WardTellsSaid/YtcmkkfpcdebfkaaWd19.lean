/-
  The memory in which the reference's Fallen runs; its rounds in plain.
-/
import Derived.Test.YtcmkkfpcdebfkaaWd18
namespace Go.Proofs.Ytcmkkfpcdebfkaa
open Go.RowKit

/-- A supervisor and a plan. -/
def Fall2Post (r : Wd × PlV) (w : World) (e : Ending) (w' : World) : Prop :=
  ∃ x p, e = .returned (.tuple #[wardV x r.1, planV p r.2]) ∧ WOwn w' w.heap.size x r.1 ∧ POwn w' w.heap.size p r.2 ∧ Below w.heap.size w w'
/-- The supervisor's copy, the two results. -/
structure FnA (W w : World) (cs : Array Value) : Prop where
  bx : Box w W.heap.size 215 cs
  br : Box w (W.heap.size + 1) 215 zW
  bq : Box w (W.heap.size + 2) 220 zP
  bb : Below W.heap.size W w
theorem FnA.lt {W w : World} {cs : Array Value} (h : FnA W w cs) : W.heap.size + 2 < w.heap.size := h.bq.lt
theorem FnA.below {W w w' : World} {cs : Array Value} (h : FnA W w cs) (hb : Below w.heap.size w w') : FnA W w' cs :=
  ⟨h.bx.below hb h.bx.lt, h.br.below hb h.br.lt, h.bq.below hb h.bq.lt, h.bb.trans (hb.mono h.bb.size)⟩
theorem FnA.only {W w w' : World} {cs : Array Value} {S : Nat → Prop} (h : FnA W w cs) (ho : Only S w w') (hS : ∀ b, S b → W.heap.size + 2 < b) : FnA W w' cs :=
  ⟨ho.box h.bx (fun e => by have := hS _ e; omega), ho.box h.br (fun e => by have := hS _ e; omega), ho.box h.bq (fun e => by have := hS _ e; omega), ho.to_below h.bb h.bb.size (fun i hi => by have := hS _ hi; omega)⟩
theorem fn_start (W : World) (cs : Array Value) : FnA W (((W.alloc (.cells cs 215)).alloc (.cells zW 215)).alloc (.cells zP 220)) cs := by
  have h1 := Box.new (W.alloc (.cells cs 215)) 215 zW
  have h2 := Box.new ((W.alloc (.cells cs 215)).alloc (.cells zW 215)) 220 zP
  rw [show (W.alloc (.cells cs 215)).heap.size = W.heap.size + 1 by simp] at h1
  rw [show ((W.alloc (.cells cs 215)).alloc (.cells zW 215)).heap.size = W.heap.size + 2 by simp] at h2
  exact ⟨((Box.new W 215 cs).alloc _).alloc _, h1.alloc _, h2, (((Below.refl W.heap.size W).alloc (Nat.le_refl _) _).alloc (by simp) _).alloc (by simp; omega) _⟩
theorem FnA.res {W w : World} {cs : Array Value} (h : FnA W w cs) : w.cell? ⟨W.heap.size + 1, 0, none⟩ = some (.int .i64 0) ∧ w.cell? ⟨W.heap.size + 1, 1, none⟩ = some (.int .i64 0) ∧ w.cell? ⟨W.heap.size + 1, 2, none⟩ = some (.int .i64 0) ∧ w.cell? ⟨W.heap.size + 1, 3, none⟩ = some (.slice none 0 0) ∧ w.cell? ⟨W.heap.size + 1, 4, none⟩ = some (.slice none 0 0)
    ∧ w.cell? ⟨W.heap.size + 1 + 1, 0, none⟩ = some (.slice none 0 0) ∧ w.cell? ⟨W.heap.size + 1 + 1, 1, none⟩ = some (.slice none 0 0) ∧ w.cell? ⟨W.heap.size + 1 + 1, 2, none⟩ = some (.bool false) :=
  ⟨h.br.cell 0, h.br.cell 1, h.br.cell 2, h.br.cell 3, h.br.cell 4, h.bq.cell 0, h.bq.cell 1, h.bq.cell 2⟩
theorem FnA.fro {W w : World} {cs : Array Value} (h : FnA W w cs) : w.frozen? ⟨W.heap.size + 1, 0, none⟩ = false ∧ w.frozen? ⟨W.heap.size + 1, 1, none⟩ = false ∧ w.frozen? ⟨W.heap.size + 1, 2, none⟩ = false ∧ w.frozen? ⟨W.heap.size + 1, 3, none⟩ = false ∧ w.frozen? ⟨W.heap.size + 1, 4, none⟩ = false
    ∧ w.frozen? ⟨W.heap.size + 1 + 1, 0, none⟩ = false ∧ w.frozen? ⟨W.heap.size + 1 + 1, 1, none⟩ = false ∧ w.frozen? ⟨W.heap.size + 1 + 1, 2, none⟩ = false :=
  ⟨h.br.frozen 0, h.br.frozen 1, h.br.frozen 2, h.br.frozen 3, h.br.frozen 4, h.bq.frozen 0, h.bq.frozen 1, h.bq.frozen 2⟩
/-- The two results stored, cell by cell. -/
def setTwo (W w : World) (a b c d e s t u : Value) : World :=
  (((((((w.setCell ⟨W.heap.size + 1, 0, none⟩ a).setCell ⟨W.heap.size + 1, 1, none⟩ b).setCell ⟨W.heap.size + 1, 2, none⟩ c).setCell ⟨W.heap.size + 1, 3, none⟩ d).setCell ⟨W.heap.size + 1, 4, none⟩ e).setCell ⟨W.heap.size + 1 + 1, 0, none⟩ s).setCell ⟨W.heap.size + 1 + 1, 1, none⟩ t).setCell ⟨W.heap.size + 1 + 1, 2, none⟩ u
theorem setTwo_br {W w : World} {cs : Array Value} (h : FnA W w cs) (a b c d e s t u : Value) : Box (setTwo W w a b c d e s t u) (W.heap.size + 1) 215 #[a, b, c, d, e] := by
  have h1 := (((((h.br.set 0 a).set 1 b).set 2 c).set 3 d).set 4 e)
  have h2 := ((h1.far (p := ⟨W.heap.size + 1 + 1, 0, none⟩) (by simp) s).far (p := ⟨W.heap.size + 1 + 1, 1, none⟩) (by simp) t).far (p := ⟨W.heap.size + 1 + 1, 2, none⟩) (by simp) u
  simpa [setTwo] using h2
theorem setTwo_bq {W w : World} {cs : Array Value} (h : FnA W w cs) (a b c d e s t u : Value) : Box (setTwo W w a b c d e s t u) (W.heap.size + 2) 220 #[s, t, u] := by
  have h1 := ((((h.bq.far (p := ⟨W.heap.size + 1, 0, none⟩) (by simp) a).far (p := ⟨W.heap.size + 1, 1, none⟩) (by simp) b).far (p := ⟨W.heap.size + 1, 2, none⟩) (by simp) c).far (p := ⟨W.heap.size + 1, 3, none⟩) (by simp) d).far (p := ⟨W.heap.size + 1, 4, none⟩) (by simp) e
  have h2 := (((h1.set 0 s).set 1 t).set 2 u)
  simpa [setTwo] using h2
theorem setTwo_only (W w : World) (a b c d e s t u : Value) : Only (fun x => x = W.heap.size + 1 ∨ x = W.heap.size + 2) w (setTwo W w a b c d e s t u) :=
  ((((((((Only.refl _ w).set (p := ⟨W.heap.size + 1, 0, none⟩) (.inl rfl) a).set (p := ⟨W.heap.size + 1, 1, none⟩) (.inl rfl) b).set (p := ⟨W.heap.size + 1, 2, none⟩) (.inl rfl) c).set (p := ⟨W.heap.size + 1, 3, none⟩) (.inl rfl) d).set (p := ⟨W.heap.size + 1, 4, none⟩) (.inl rfl) e).set (p := ⟨W.heap.size + 1 + 1, 0, none⟩) (.inr rfl) s).set (p := ⟨W.heap.size + 1 + 1, 1, none⟩) (.inr rfl) t).set (p := ⟨W.heap.size + 1 + 1, 2, none⟩) (.inr rfl) u

/-- .. and what the call itself made: the supervisor to come, the child's place, the plan to come. -/
structure FnW (W w : World) (go gi gp : Nat) (cs co : Array Value) (i : Nat) (cp : Array Value) : Prop where
  a : FnA W w cs
  bo : Box w go 215 co
  bi : Box w gi 3 #[.int .i64 (i : Int)]
  bp : Box w gp 220 cp
  o1 : W.heap.size + 2 < go
  o2 : go < gi
  o3 : gi < gp
section
variable {W w w' : World} {go gi gp i : Nat} {cs co cp : Array Value}
theorem FnW.lt (h : FnW W w go gi gp cs co i cp) : gp < w.heap.size := h.bp.lt
theorem FnW.below (h : FnW W w go gi gp cs co i cp) (hb : Below w.heap.size w w') : FnW W w' go gi gp cs co i cp :=
  ⟨h.a.below hb, h.bo.below hb h.bo.lt, h.bi.below hb h.bi.lt, h.bp.below hb h.bp.lt, h.o1, h.o2, h.o3⟩
theorem FnW.only {S : Nat → Prop} (h : FnW W w go gi gp cs co i cp) (ho : Only S w w') (hS : ∀ b, S b → gp < b) : FnW W w' go gi gp cs co i cp :=
  ⟨h.a.only ho (fun b hb => by have := hS b hb; have := h.o1; have := h.o2; have := h.o3; omega), ho.box h.bo (fun e => by have := hS _ e; have := h.o2; have := h.o3; omega), ho.box h.bi (fun e => by have := hS _ e; have := h.o3; omega), ho.box h.bp (fun e => by have := hS _ e; omega), h.o1, h.o2, h.o3⟩
/-- a child's cell stored -/
theorem FnW.child {A : Option Addr} {n cap : Nat} {xs : List Value} {p : Addr} (h : FnW W w go gi gp cs co i cp) (ho : OwnAt w (W.heap.size + 3) 230 3 A n cap xs) (hp : A.map (·.block) = some p.block) (u : Value) : FnW W (w.setCell p u) go gi gp cs co i cp := by
  have hn := own_min ho _ hp
  exact ⟨h.a.only ((Only.refl (fun b => b = p.block) w).set rfl u) (fun b hb => by omega), h.bo.far (fun e => ownW_ne ho h.bo (by decide) (by rw [hp, e])) u, h.bi.far (fun e => ownW_ne ho h.bi (by decide) (by rw [hp, e])) u, h.bp.far (fun e => ownW_ne ho h.bp (by decide) (by rw [hp, e])) u, h.o1, h.o2, h.o3⟩
/-- a cell of the plan to come stored -/
theorem FnW.setP (h : FnW W w go gi gp cs co i cp) (j : Nat) (u : Value) : FnW W (w.setCell ⟨gp, j, none⟩ u) go gi gp cs co i (cp.setIfInBounds j u) :=
  ⟨h.a.only ((Only.refl (fun b => b = gp) w).set (p := ⟨gp, j, none⟩) rfl u) (fun b hb => by have := h.o1; have := h.o2; have := h.o3; omega), h.bo.far (p := ⟨gp, j, none⟩) (by have := h.o2; have := h.o3; dsimp only; omega) u, h.bi.far (p := ⟨gp, j, none⟩) (by have := h.o3; dsimp only; omega) u, h.bp.set j u, h.o1, h.o2, h.o3⟩
/-- a cell of the supervisor to come stored -/
theorem FnW.setO (h : FnW W w go gi gp cs co i cp) (j : Nat) (u : Value) : FnW W (w.setCell ⟨go, j, none⟩ u) go gi gp cs (co.setIfInBounds j u) i cp :=
  ⟨h.a.only ((Only.refl (fun b => b = go) w).set (p := ⟨go, j, none⟩) rfl u) (fun b hb => by have := h.o1; omega), h.bo.set j u, h.bi.far (p := ⟨go, j, none⟩) (by have := h.o2; dsimp only; omega) u, h.bp.far (p := ⟨go, j, none⟩) (by have := h.o2; have := h.o3; dsimp only; omega) u, h.o1, h.o2, h.o3⟩
end
/-- The loop over the children, in memory: what is stopped, what is to be started. -/
structure Lp (W w : World) (go gi gp bs : Nat) (cs co : Array Value) (i : Nat) (A : Option Addr) (cA : Nat) (l : List Ch) (C : Option Addr) (kC : Nat) (stop : List Int) (D : Option Addr) (kD : Nat) (start : List Int) (gv : Bool) (B : Option Addr) (kB : Nat) (keep : List Int) : Prop where
  fn : FnW W w go gi gp cs co i #[.slice C stop.length kC, .slice none 0 0, .bool gv]
  ch : OwnAt w (W.heap.size + 3) 230 3 A l.length cA (flat wcC l)
  st : OwnAt w bs 3 1 C stop.length kC (ints stop)
  sr : OwnAt w bs 3 1 D start.length kD (ints start)
  tm : OwnAt w (gp + 1) 3 1 B keep.length kB (ints keep)
  ap : ∀ b, C.map (·.block) = some b → ¬ D.map (·.block) = some b
  tb : ∀ b, B.map (·.block) = some b → b < bs
  gb : gp < bs
section
variable {W w w' : World} {go gi gp bs i cA kC kD kB : Nat} {cs co : Array Value} {A B C D : Option Addr} {l : List Ch} {stop start keep : List Int} {gv : Bool}
theorem Lp.below (h : Lp W w go gi gp bs cs co i A cA l C kC stop D kD start gv B kB keep) (hb : Below w.heap.size w w') : Lp W w' go gi gp bs cs co i A cA l C kC stop D kD start gv B kB keep :=
  ⟨h.fn.below hb, h.ch.below hb, h.st.below hb, h.sr.below hb, h.tm.below hb, h.ap, h.tb, h.gb⟩
/-- a child's Lives stored -/
theorem Lp.put {g o : Nat} (h : Lp W w go gi gp bs cs co i (some ⟨g, o, none⟩) cA l C kC stop D kD start gv B kB keep) {m : Nat} (hm : m < l.length) (b : Bool) :
    Lp W (w.setCell ⟨g, o + m * 3 + 2, none⟩ (.bool b)) go gi gp bs cs co i (some ⟨g, o, none⟩) cA (l.set m ((l.getD m (0, 0, false)).1, (l.getD m (0, 0, false)).2.1, b)) C kC stop D kD start gv B kB keep := by
  have hon : Only (fun x => x = g) w (w.setCell ⟨g, o + m * 3 + 2, none⟩ (.bool b)) := (Only.refl (fun x => x = g) w).set (p := ⟨g, o + m * 3 + 2, none⟩) rfl _
  refine ⟨h.fn.child (p := ⟨g, o + m * 3 + 2, none⟩) h.ch rfl _, own_put h.ch hm b, h.st.only hon (fun x hx e => ?_), h.sr.only hon (fun x hx e => ?_), h.tm.only hon (fun x hx e => ?_), h.ap, h.tb, h.gb⟩
  · subst e; exact own_apart h.st h.ch (by decide) _ hx rfl
  · subst e; exact own_apart h.sr h.ch (by decide) _ hx rfl
  · subst e; exact own_apart h.tm h.ch (by decide) _ hx rfl
/-- one id more is stopped: the row grew -/
theorem Lp.grewC {C' : Option Addr} {kC' : Nat} {y : Int} (h : Lp W w go gi gp bs cs co i A cA l C kC stop D kD start gv B kB keep) (hr : OwnAt w' bs 3 1 C' (stop.length + 1) kC' (ints (stop ++ [y]))) (ho : Only (fun b => C.map (·.block) = some b) w w')
    (hf : ∀ b, C'.map (·.block) = some b → C.map (·.block) = some b ∨ w.heap.size ≤ b) :
    Lp W (w'.setCell ⟨gp, 0, none⟩ (.slice C' (stop.length + 1) kC')) go gi gp bs cs co i A cA l C' kC' (stop ++ [y]) D kD start gv B kB keep := by
  have hbs := h.gb
  have hfn := (h.fn.only ho (fun b hb => by have := own_min h.st b hb; omega)).setP 0 (.slice C' (stop.length + 1) kC')
  have hon : Only (fun b => C.map (·.block) = some b ∨ b = gp) w (w'.setCell ⟨gp, 0, none⟩ (.slice C' (stop.length + 1) kC')) := (ho.more (fun b hb => .inl hb)).set (p := ⟨gp, 0, none⟩) (.inr rfl) _
  refine ⟨by rw [List.length_append]; simpa using hfn, h.ch.only hon (fun b hb hc => ?_), ?_, h.sr.only hon (fun b hb hc => ?_), h.tm.only hon (fun b hb hc => ?_), fun b hb hd => ?_, h.tb, h.gb⟩
  · rcases hc with hc | rfl
    · exact own_apart h.ch h.st (by decide) b hb hc
    · exact ownW_ne h.ch h.fn.bp (by decide) hb
  · rw [List.length_append]
    exact hr.far (p := ⟨gp, 0, none⟩) (fun g o e => by have := own_min hr g (by rw [e]; rfl); dsimp only; omega) _
  · rcases hc with hc | rfl
    · exact h.ap b hc hb
    · have := own_min h.sr _ hb; omega
  · rcases hc with hc | rfl
    · have := own_min h.st b hc; have := h.tb b hb; omega
    · have := own_min h.tm _ hb; omega
  · rcases hf b hb with h1 | h1
    · exact h.ap b h1 hd
    · have := own_max h.sr b hd; omega
/-- one id more is to be started: the row grew -/
theorem Lp.grewD {D' : Option Addr} {kD' : Nat} {y : Int} (h : Lp W w go gi gp bs cs co i A cA l C kC stop D kD start gv B kB keep) (hr : OwnAt w' bs 3 1 D' (start.length + 1) kD' (ints (start ++ [y]))) (ho : Only (fun b => D.map (·.block) = some b) w w')
    (hf : ∀ b, D'.map (·.block) = some b → D.map (·.block) = some b ∨ w.heap.size ≤ b) :
    Lp W w' go gi gp bs cs co i A cA l C kC stop D' kD' (start ++ [y]) gv B kB keep := by
  have hbs := h.gb
  refine ⟨h.fn.only ho (fun b hb => by have := own_min h.sr b hb; omega), h.ch.only ho (fun b hb hc => own_apart h.ch h.sr (by decide) b hb hc), h.st.only ho (fun b hb hc => h.ap b hb hc), by rw [List.length_append]; exact hr, h.tm.only ho (fun b hb hc => by have := own_min h.sr b hc; have := h.tb b hb; omega), fun b hb hd => ?_, h.tb, h.gb⟩
  rcases hf b hd with h1 | h1
  · exact h.ap b hb h1
  · have := own_max h.st b hb; omega
end

/-- The rounds in plain. -/
def tgtC (gv : Bool) (ch c1 : List Ch) : List Ch := if gv = true then c1.map deadC else ch
theorem tgt_len {gv : Bool} {ch c1 : List Ch} (h : c1.length = ch.length) : (tgtC gv ch c1).length = ch.length := by
  unfold tgtC
  split <;> simp [h]
def stopB (gv : Bool) (how : Int) (i m : Nat) (b : Bool) : Bool := b && (gv || touchB how i m)
def startB (gv : Bool) (how : Int) (i m : Nat) (b : Bool) : Bool := !gv && (touchB how i m && (b || m == i))
section
variable {ch : List Ch} {i : Nat} {how : Int} {gv : Bool}
theorem c1_at (hl : i < ch.length) (hv : (ch.getD i (0, 0, false)).2.2 = true) (m : Nat) :
    (ch.getD m (0, 0, false)) = (((ch.set i (deadC (ch.getD i (0, 0, false)))).getD m (0, 0, false)).1, ((ch.set i (deadC (ch.getD i (0, 0, false)))).getD m (0, 0, false)).2.1, ((ch.set i (deadC (ch.getD i (0, 0, false)))).getD m (0, 0, false)).2.2 || m == i) := by
  by_cases h : m = i
  · subst h
    have e : (ch.set m (deadC (ch.getD m (0, 0, false)))).getD m (0, 0, false) = deadC (ch.getD m (0, 0, false)) := by
      rw [List.getD_eq_getElem?_getD, List.getElem?_set_self hl]
      rfl
    rw [e]
    generalize ch.getD m (0, 0, false) = z at *
    obtain ⟨a, b, c⟩ := z
    dsimp only at hv
    subst hv
    simp [deadC]
  · have e : (ch.set i (deadC (ch.getD i (0, 0, false)))).getD m (0, 0, false) = ch.getD m (0, 0, false) := by
      rw [List.getD_eq_getElem?_getD, List.getElem?_set, if_neg (fun e => h e.symm), ← List.getD_eq_getElem?_getD]
    rw [e]
    have : (m == i) = false := by simpa using h
    rw [this, Bool.or_false]
theorem round_list {c1 : List Ch} (hl : i < ch.length) (hv : (ch.getD i (0, 0, false)).2.2 = true) (hc : ch.set i (deadC (ch.getD i (0, 0, false))) = c1) {m : Nat} (hm : m < ch.length) {y : Ch} (hy : c1.getD m (0, 0, false) = y) {l l1 l2 : List Ch}
    (h0 : l = c1.take (m + 1) ++ (tgtC gv ch c1).drop (m + 1)) (h1 : l1 = if stopB gv how i m y.2.2 = true then l.set m (y.1, y.2.1, false) else l) (h2 : l2 = if startB gv how i m y.2.2 = true then l1.set m (y.1, y.2.1, true) else l1) :
    l2 = c1.take m ++ (tgtC gv ch c1).drop m := by
  have hcl : c1.length = ch.length := by rw [← hc]; simp
  have hz := c1_at hl hv m
  rw [hc, hy] at hz
  have hset : ∀ u, l.set m u = c1.take m ++ u :: (tgtC gv ch c1).drop (m + 1) := fun u => by
    rw [h0, take_getD c1 (0, 0, false) (by omega), List.append_assoc, List.set_append_right _ _ (by simp; omega), List.length_take, Nat.min_eq_left (by omega), Nat.sub_self]
    rfl
  have hl0 : l = c1.take m ++ y :: (tgtC gv ch c1).drop (m + 1) := by
    rw [h0, take_getD c1 (0, 0, false) (by omega), hy]
    simp
  have hset2 : ∀ u u', (l.set m u).set m u' = c1.take m ++ u' :: (tgtC gv ch c1).drop (m + 1) := fun u u' => by rw [List.set_set, hset]
  rw [drop_getD (tgtC gv ch c1) (0, 0, false) (by rw [tgt_len hcl]; omega)]
  have ht : (tgtC gv ch c1).getD m (0, 0, false) = if gv = true then deadC y else (y.1, y.2.1, y.2.2 || m == i) := by
    unfold tgtC
    cases gv with
    | true =>
      rw [if_pos rfl, if_pos rfl, List.getD_eq_getElem?_getD, List.getElem?_map, getD_some (0, 0, false) (show m < c1.length by omega), hy]
      rfl
    | false =>
      rw [if_neg (by decide), if_neg (by decide)]
      exact hz
  have key : l2 = c1.take m ++ (if startB gv how i m y.2.2 = true then (y.1, y.2.1, true) else if stopB gv how i m y.2.2 = true then (y.1, y.2.1, false) else y) :: (tgtC gv ch c1).drop (m + 1) := by
    rw [h2, h1]
    split
    · split
      · exact hset2 _ _
      · exact hset _
    · split
      · exact hset _
      · exact hl0
  rw [ht, key]
  congr 2
  have htm : (m == i) = true → touchB how i m = true := fun e => by unfold touchB; rw [e]; rfl
  clear key ht hset hset2 hl0 hz h0 h1 h2 hy
  obtain ⟨y0, y1, y2⟩ := y
  unfold stopB startB
  generalize touchB how i m = t at *
  generalize (m == i) = mi at *
  cases gv <;> cases t <;> cases y2 <;> cases mi <;> simp_all [deadC]
theorem round_stop {c1 : List Ch} {m : Nat} {y : Ch} (hy : c1.getD m (0, 0, false) = y) {stop TS : List Int} (h : stop ++ stopT (fun k => gv || touchB how i k) c1 (m + 1) = TS) :
    (if stopB gv how i m y.2.2 = true then stop ++ [y.1] else stop) ++ stopT (fun k => gv || touchB how i k) c1 m = TS := by
  rw [← h]
  unfold stopB
  rw [stopT, hy]
  generalize touchB how i m = t
  cases gv <;> cases t <;> cases hb : y.2.2 <;> simp
theorem round_start {c1 : List Ch} (hl : i < ch.length) (hv : (ch.getD i (0, 0, false)).2.2 = true) (hc : ch.set i (deadC (ch.getD i (0, 0, false))) = c1) {m : Nat} {y : Ch} (hy : c1.getD m (0, 0, false) = y) {start TR : List Int} (h : start ++ stopT (fun k => !gv && touchB how i k) ch (m + 1) = TR) :
    (if startB gv how i m y.2.2 = true then start ++ [y.1] else start) ++ stopT (fun k => !gv && touchB how i k) ch m = TR := by
  have hz := c1_at hl hv m
  rw [hc, hy] at hz
  rw [← h]
  unfold startB
  rw [stopT, hz]
  generalize touchB how i m = t
  generalize (m == i) = mi
  cases gv <;> cases t <;> cases mi <;> cases hb : y.2.2 <;> simp
end
theorem tm_range : ∀ (l : List Int) (a : Int), 0 ≤ a → tmF a l = 0 → ∀ t ∈ l, 0 ≤ t ∧ t ≤ 1099511627776
  | [], _, _, _, t, ht => by simp at ht
  | x :: r, a, ha, h, t, ht => by
    unfold tmF at h
    split at h
    · cases h
    · rename_i hn
      rcases List.mem_cons.1 ht with rfl | h2
      · omega
      · exact tm_range r x (by omega) h t h2
theorem stopT_none (l : List Ch) : ∀ n, stopT (fun _ => false) l n = []
  | 0 => rfl
  | n + 1 => by rw [stopT, if_neg (by simp), stopT_none l n]
/-- All of a slice of ints appended to nil. -/
theorem wpList_all_ints {ops : Array Oper} {rest : List Oper} {o : Oper} {a : Act} {w : World} {Q : Exit → Act → World → Prop} (hgd : o.guard = none) (s x : Operand)
    (ho : o.op = .call { callee := .builtin .append, args := #[s, x], argTypes := #[33, 33] })
    (base : Nat) (hs : a.eval s = .slice none 0 0) (A : Option Addr) (c B : Nat) (ys : List Int) (hx : a.eval x = .slice A ys.length c) (hr : Row w B A (ints ys)) (hA : A = none → c = 0) (hb : ys.length ≤ 50) (hbase : base ≤ w.heap.size)
    (h : ∀ A' c' w', OwnAt w' base 3 1 A' ys.length c' (ints ys) → Below w.heap.size w w' → wpList Try.prog ops Q rest (a.put o.dst (.slice A' ys.length c')) w') : wpList Try.prog ops Q (o :: rest) a w := by
  refine wpList_append_ints hgd s x ho base _ [] hs (ownsNil w base) A c B ys hx hr hA (by simp; omega) hbase ?_
  intro v' w' h1 h2
  rw [List.nil_append] at h1
  obtain ⟨A', c', rfl, h3⟩ := OwnAt.of_own h1
  exact h A' c' w' h3 (Only.to_below (S := fun _ => False) ⟨h2.os, h2.tape, h2.output, h2.size, fun i hi hne => h2.block i hi (by simp [Value.ownBlock])⟩ (Below.refl _ _) (Nat.le_refl _) (fun i hi => hi.elim))
end Go.Proofs.Ytcmkkfpcdebfkaa
