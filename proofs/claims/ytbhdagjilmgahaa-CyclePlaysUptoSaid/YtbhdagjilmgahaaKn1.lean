
/-
  A marking node in memory.
-/
import Derived.Test.YtbhdagjilmgahaaKnRow
import Derived.Test.YtbhdagjilmgahaaKnLaw2
import Derived.Test.YtbhdagjilmgahaaMapR
namespace Go.Proofs.Ytbhdagjilmgahaa
open Go.RowKit

theorem own_lo' {w : World} {base : Nat} {e : TypeId} {size n cap : Nat} {A : Option Addr} {xs : List Value} (h : OwnAt w base e size A n cap xs) : ∀ b, A.map (·.block) = some b → base ≤ b := fun b hb' => by
  rcases h.form with ⟨rfl, _⟩ | ⟨g1, o1, rfl⟩
  · cases hb'
  · simp at hb'; subst hb'; exact h.lt.1
/-- A row in blocks of S. -/
def RowZ (w : World) (S : Nat → Prop) (A : Option Addr) (vs : List Value) : Prop := 0 < vs.length → ∃ b o, A = some ⟨b, o, none⟩ ∧ S b ∧ ∀ i v, vs[i]? = some v → w.cell? ⟨b, o + i, none⟩ = some v
def allR (K : List KnC) : List Int := K.flatMap (·.refs)
/-- Which blocks a node turns. -/
def Sp (gn gm gt : Nat) (D : Option Addr) (b : Nat) : Prop := b = gn ∨ b = gm ∨ b = gt ∨ D.map (·.block) = some b
/-- Blocks ahead of N that no node turns. -/
def Calm (N gn gr gm gt b : Nat) : Prop := b < N ∧ b ≠ gn ∧ b ≠ gr ∧ b ≠ gm ∧ b ≠ gt
structure NdSt (W w : World) (N gn gr gm gt : Nat) (K : List KnC) (RA : Int → Option Addr × Nat) (M told due : List Int) (nM : Nat) (D : Option Addr) (cd : Nat) (came : Int) : Prop where
  bl : Below W.heap.size W w
  box : Box w gn 61 #[.map (some gr), .map (some gm), .slice D due.length cd, .map (some gt), .int .i64 came]
  refs : IntMap w gr K.length (fun x => if ownF K x = true then some (.slice (RA x).1 (refsF K x).length (RA x).2) else none)
  rows : ∀ x, ownF K x = true → RowZ w (Calm N gn gr gm gt) (RA x).1 (ints (refsF K x))
  mr : IntSet w gm nM M
  tl : IntSet w gt told.length told
  du : OwnAt w W.heap.size 3 1 D due.length cd (ints due)
  nw : N ≤ w.heap.size
  lo : W.heap.size ≤ gn ∧ W.heap.size ≤ gr ∧ W.heap.size ≤ gm ∧ W.heap.size ≤ gt
  hi : gn < N ∧ gr < N ∧ gm < N ∧ gt < N
  ne : gn ≠ gr ∧ gn ≠ gm ∧ gn ≠ gt ∧ gr ≠ gm ∧ gr ≠ gt ∧ gm ≠ gt
  dn : ∀ b, D.map (·.block) = some b → N ≤ b
  tn : told.Nodup ∧ ∀ y ∈ told, y ∈ allR K
  dl : due.length ≤ told.length
section
variable {W w w' : World} {N gn gr gm gt : Nat} {K : List KnC} {RA : Int → Option Addr × Nat} {M told due : List Int} {nM : Nat} {D : Option Addr} {cd : Nat} {came : Int}
/-- What turns none of the node's blocks. -/
theorem NdSt.off {S : Nat → Prop} (h : NdSt W w N gn gr gm gt K RA M told due nM D cd came) (ho : Only S w w') (hS : ∀ b, S b → N ≤ b ∧ D.map (·.block) ≠ some b) : NdSt W w' N gn gr gm gt K RA M told due nM D cd came := by
  have hn : ∀ g, g < N → ¬ S g := fun g hg hs => by have := (hS g hs).1; omega
  obtain ⟨h1, h2, h3, h4⟩ := h.hi
  have hlo := h.lo
  refine ⟨ho.to_below h.bl h.bl.size (fun b hb => by have := (hS b hb).1; omega), ho.box h.box (hn _ h1), h.refs.only ho (hn _ h2), fun x hx hp => ?_, ?_, ?_, h.du.only ho (fun b hb hs => (hS b hs).2 hb), Nat.le_trans h.nw ho.size, h.lo, h.hi, h.ne, h.dn, h.tn, h.dl⟩
  · obtain ⟨b, o, e, hb, hc⟩ := h.rows x hx hp
    refine ⟨b, o, e, hb, fun i v hv => ?_⟩
    have hbl : b < w.heap.size := Nat.lt_of_lt_of_le hb.1 h.nw
    have : w'.heap[b]? = w.heap[b]? := ho.block b hbl (hn b hb.1)
    have e2 : w'.cell? ⟨b, o + i, none⟩ = w.cell? ⟨b, o + i, none⟩ := by simp only [World.cell?, this]
    exact e2.trans (hc i v hv)
  · obtain ⟨D', ⟨es, clock, hb, k1⟩, k2⟩ := h.mr
    exact ⟨D', ⟨es, clock, (ho.block gm (by have := h.nw; omega) (hn _ h3)).trans hb, k1⟩, k2⟩
  · obtain ⟨D', ⟨es, clock, hb, k1⟩, k2⟩ := h.tl
    exact ⟨D', ⟨es, clock, (ho.block gt (by have := h.nw; omega) (hn _ h4)).trans hb, k1⟩, k2⟩
theorem NdSt.below (h : NdSt W w N gn gr gm gt K RA M told due nM D cd came) (hb : Below w.heap.size w w') : NdSt W w' N gn gr gm gt K RA M told due nM D cd came :=
  h.off (S := fun _ => False) (Only.of_below hb) (fun _ h => h.elim)
theorem NdSt.alloc (h : NdSt W w N gn gr gm gt K RA M told due nM D cd came) (o : Obj) : NdSt W (w.alloc o) N gn gr gm gt K RA M told due nM D cd came :=
  h.below ((Below.refl _ _).alloc (Nat.le_refl _) o)
/-- A block of the node's own turned, the others not. -/
theorem NdSt.turn {g : Nat} (h : NdSt W w N gn gr gm gt K RA M told due nM D cd came) (ho : Only (fun b => b = g) w w') (hg : g = gm ∨ g = gt ∨ g = gn) :
    Below W.heap.size W w' ∧ (g ≠ gr → IntMap w' gr K.length (fun x => if ownF K x = true then some (.slice (RA x).1 (refsF K x).length (RA x).2) else none)) ∧ (∀ x, ownF K x = true → RowZ w' (Calm N gn gr gm gt) (RA x).1 (ints (refsF K x)))
      ∧ OwnAt w' W.heap.size 3 1 D due.length cd (ints due) ∧ (g ≠ gn → Box w' gn 61 #[.map (some gr), .map (some gm), .slice D due.length cd, .map (some gt), .int .i64 came])
      ∧ (g ≠ gm → IntSet w' gm nM M) ∧ (g ≠ gt → IntSet w' gt told.length told) := by
  have hlo := h.lo
  have hhi := h.hi
  have hnw := h.nw
  refine ⟨ho.to_below h.bl h.bl.size (fun b hb => by subst hb; rcases hg with rfl | rfl | rfl <;> omega), fun hne => h.refs.only ho (fun e => hne e.symm), fun x hx hp => ?_, h.du.only ho (fun b hb hs => by have := h.dn b hb; rcases hg with rfl | rfl | rfl <;> omega), fun hne => ho.box h.box (fun e => hne e.symm), fun hne => ?_, fun hne => ?_⟩
  · obtain ⟨b, o, e, hb, hc⟩ := h.rows x hx hp
    refine ⟨b, o, e, hb, fun i v hv => ?_⟩
    have hbl : b < w.heap.size := Nat.lt_of_lt_of_le hb.1 h.nw
    have : w'.heap[b]? = w.heap[b]? := ho.block b hbl (fun e2 => by
      subst e2
      obtain ⟨_, n1, n2, n3, n4⟩ := hb
      rcases hg with rfl | rfl | rfl
      · exact n3 rfl
      · exact n4 rfl
      · exact n1 rfl)
    have e2 : w'.cell? ⟨b, o + i, none⟩ = w.cell? ⟨b, o + i, none⟩ := by simp only [World.cell?, this]
    exact e2.trans (hc i v hv)
  · obtain ⟨D', ⟨es, clock, hb, k1⟩, k2⟩ := h.mr
    exact ⟨D', ⟨es, clock, (ho.block gm (by omega) (fun e => hne e.symm)).trans hb, k1⟩, k2⟩
  · obtain ⟨D', ⟨es, clock, hb, k1⟩, k2⟩ := h.tl
    exact ⟨D', ⟨es, clock, (ho.block gt (by omega) (fun e => hne e.symm)).trans hb, k1⟩, k2⟩
theorem only_of_grown {g : Nat} (h2 : w.grownBy w' (some g)) : Only (fun b => b = g) w w' := ⟨h2.os, h2.tape, h2.output, h2.size, fun i hi hne => h2.block i hi (fun e => hne (Option.some.inj e))⟩
/-- An actor marked. -/
theorem NdSt.mark (h : NdSt W w N gn gr gm gt K RA M told due nM D cd came) {y : Int} (hy : I64 y) (hn : nM < maxLen) :
    ∃ w', (Instr.mapUpdate 59 (.map (some gm)) (.int .i64 y) (.bool true)).run Try.prog w = .ok () w' ∧ NdSt W w' N gn gr gm gt K RA (M ++ [y]) told due (nM + 1) D cd came ∧ Only (fun b => b = gm) w w' := by
  obtain ⟨w', hrun, h1, h2⟩ := h.mr.put ints_keyed Try.underlying59 Try.underlying4 hn intL_inj intL_key (int_key hy)
  have ho := only_of_grown h2
  obtain ⟨k1, k2, k3, k4, k5, _, k7⟩ := h.turn ho (.inl rfl)
  have hne := h.ne
  exact ⟨w', hrun, ⟨k1, k5 (by omega), k2 (by omega), k3, h1, k7 (by omega), k4, Nat.le_trans h.nw ho.size, h.lo, h.hi, h.ne, h.dn, h.tn, h.dl⟩, ho⟩
theorem NdSt.look_mark (h : NdSt W w N gn gr gm gt K RA M told due nM D cd came) {y : Int} (hy : I64 y) : (Instr.lookup 59 (.map (some gm)) (.int .i64 y) false).run Try.prog w = .ok (.bool (M.contains y)) w :=
  h.mr.look ints_keyed Try.underlying59 Try.underlying4 (zero_boolS w) (int_key hy)
theorem NdSt.look_told (h : NdSt W w N gn gr gm gt K RA M told due nM D cd came) {y : Int} (hy : I64 y) : (Instr.lookup 59 (.map (some gt)) (.int .i64 y) false).run Try.prog w = .ok (.bool (told.contains y)) w :=
  h.tl.look ints_keyed Try.underlying59 Try.underlying4 (zero_boolS w) (int_key hy)
theorem NdSt.told_len (h : NdSt W w N gn gr gm gt K RA M told due nM D cd came) : told.length ≤ (allR K).length := nodup_len _ _ h.tn.1 h.tn.2
/-- A reference told of. -/
theorem NdSt.tellM (h : NdSt W w N gn gr gm gt K RA M told due nM D cd came) {y : Int} (hy : I64 y) (hK : (allR K).length ≤ 1048576) (hm : y ∈ allR K) (hno : told.contains y = false) :
    ∃ w', (Instr.mapUpdate 59 (.map (some gt)) (.int .i64 y) (.bool true)).run Try.prog w = .ok () w' ∧ NdSt W w' N gn gr gm gt K RA M (told ++ [y]) due nM D cd came ∧ Only (fun b => b = gt) w w' := by
  have hl := h.told_len
  obtain ⟨w', hrun, h1, h2⟩ := h.tl.put ints_keyed Try.underlying59 Try.underlying4 (show told.length < maxLen by unfold maxLen; omega) intL_inj intL_key (int_key hy)
  have ho := only_of_grown h2
  obtain ⟨k1, k2, k3, k4, k5, k6, _⟩ := h.turn ho (.inr (.inl rfl))
  have hne := h.ne
  have hno' : y ∉ told := by simpa using hno
  refine ⟨w', hrun, ⟨k1, k5 (by omega), k2 (by omega), k3, k6 (by omega), by rw [List.length_append]; exact h1, k4, Nat.le_trans h.nw ho.size, h.lo, h.hi, h.ne, h.dn, ⟨?_, fun z hz => ?_⟩, by rw [List.length_append]; have := h.dl; omega⟩, ho⟩
  · rw [List.nodup_append]
    exact ⟨h.tn.1, by simp, fun a ha b hb e => by rw [List.mem_singleton] at hb; subst hb e; exact hno' ha⟩
  · rcases List.mem_append.1 hz with hz | hz
    · exact h.tn.2 z hz
    · rw [List.mem_singleton.1 hz]; exact hm
/-- The list of those that are due grown, and stored. -/
theorem NdSt.grow (h : NdSt W w N gn gr gm gt K RA M told due nM D cd came) {D' : Option Addr} {cd' : Nat} {due' : List Int} (ho : w.grownBy w' (D.map (·.block))) (hown : OwnAt w' W.heap.size 3 1 D' due'.length cd' (ints due'))
    (hD : ∀ g, D'.map (·.block) = some g → D.map (·.block) = some g ∨ w.heap.size ≤ g) (hdl : due'.length ≤ told.length) :
    NdSt W (w'.setCell ⟨gn, 2, none⟩ (.slice D' due'.length cd')) N gn gr gm gt K RA M told due' nM D' cd' came ∧ Only (fun b => b = gn ∨ D.map (·.block) = some b) w (w'.setCell ⟨gn, 2, none⟩ (.slice D' due'.length cd')) := by
  have ho1 : Only (fun b => D.map (·.block) = some b) w w' := ⟨ho.os, ho.tape, ho.output, ho.size, fun i hi hne => ho.block i hi (fun e => hne e.symm)⟩
  have hlo := h.lo
  have hhi := h.hi
  have hnw := h.nw
  have hbx : Box w' gn 61 #[.map (some gr), .map (some gm), .slice D due.length cd, .map (some gt), .int .i64 came] := ho1.box h.box (fun e => by have := h.dn _ e; omega)
  have ho2 : Only (fun b => b = gn ∨ D.map (·.block) = some b) w (w'.setCell ⟨gn, 2, none⟩ (.slice D' due'.length cd')) := (ho1.more (fun _ h => .inr h)).set (.inl rfl) _
  have hbk : ∀ b, b < N → b ≠ gn → (w'.setCell ⟨gn, 2, none⟩ (.slice D' due'.length cd')).heap[b]? = w.heap[b]? := fun b hb hne => ho2.block b (by omega) (fun e => e.elim hne (fun e => by have := h.dn _ e; omega))
  have hne := h.ne
  refine ⟨⟨ho2.to_below h.bl h.bl.size (fun b hb => hb.elim (fun e => by omega) (fun e => own_lo' h.du b e)), hbx.set 2 _, h.refs.only ho2 (fun e => e.elim (fun e => by omega) (fun e => by have := h.dn _ e; omega)), fun x hx hp => ?_, ?_, ?_, hown.far (fun g o e => ?_) _, Nat.le_trans h.nw ho2.size, h.lo, h.hi, h.ne, fun b hb => (hD b hb).elim (h.dn b) (fun e => by omega), h.tn, hdl⟩, ho2⟩
  · obtain ⟨b, o, e, hb, hc⟩ := h.rows x hx hp
    refine ⟨b, o, e, hb, fun i v hv => ?_⟩
    have e2 : (w'.setCell ⟨gn, 2, none⟩ (.slice D' due'.length cd')).cell? ⟨b, o + i, none⟩ = w.cell? ⟨b, o + i, none⟩ := by simp only [World.cell?, hbk b hb.1 hb.2.1]
    exact e2.trans (hc i v hv)
  · obtain ⟨D2, ⟨es, clock, hb, k1⟩, k2⟩ := h.mr
    exact ⟨D2, ⟨es, clock, (hbk gm (by omega) (by omega)).trans hb, k1⟩, k2⟩
  · obtain ⟨D2, ⟨es, clock, hb, k1⟩, k2⟩ := h.tl
    exact ⟨D2, ⟨es, clock, (hbk gt (by omega) (by omega)).trans hb, k1⟩, k2⟩
  · have h1 := hD g (by rw [e]; rfl)
    rcases h1 with h1 | h1
    · have := h.dn _ h1
      show g ≠ gn
      omega
    · show g ≠ gn
      omega
end
end Go.Proofs.Ytbhdagjilmgahaa
