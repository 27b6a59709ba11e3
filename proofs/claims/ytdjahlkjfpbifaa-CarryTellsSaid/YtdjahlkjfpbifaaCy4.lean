
/-
  Values copied between heaps: the reference's state.
-/
import Derived.Test.YtdjahlkjfpbifaaCy1
import Derived.Test.YtdjahlkjfpbifaaHp8
import Derived.Test.YtdjahlkjfpbifaaBdPut
import Derived.Laws.AppendOwnNone
namespace Go.Proofs.Ytdjahlkjfpbifaa
open Go.RowKit

def mvM (s : CSt) (x : Int) : Option Value := (s.mv x).map fun c : Nat => .int .u64 (c : Int)
def csM (s : CSt) (x : Int) : Option Value := if x ∈ s.cs then some (.bool true) else none
def rcB (gm gc b : Nat) : Prop := b = gm ∨ b = gc
/-- What the reference has: the two heaps, the map gm of what was moved, the map gc of cells. -/
structure RSt (w : World) (gm gc : Nat) (Af : Option Addr) (cf : Nat) (g : List Nat) (At : Option Addr) (ct : Nat) (s : CSt) : Prop where
  hf : HpIn w Af cf g
  ht : HpIn w At ct s.h
  mp : IntMap w gm s.h.length (mvM s)
  mc : IntMap w gc s.h.length (csM s)
  inv : CInv g s
  ne : gm ≠ gc
  ff : ∀ b, blkO Af b → ¬ rcB gm gc b ∧ b < w.heap.size
  ft : ∀ b, blkO At b → ¬ rcB gm gc b ∧ b < w.heap.size
section
variable {w w' : World} {gm gc : Nat} {Af At : Option Addr} {cf ct : Nat} {g : List Nat} {s : CSt}
theorem RSt.lt (h : RSt w gm gc Af cf g At ct s) : ∀ b, rcB gm gc b → b < w.heap.size := by
  intro b hb
  rcases hb with rfl | rfl
  · exact h.mp.lt
  · exact h.mc.lt
theorem RSt.only {S : Nat → Prop} (h : RSt w gm gc Af cf g At ct s) (ho : Only S w w') (h1 : ∀ b, rcB gm gc b → ¬ S b) (h2 : ∀ b, blkO Af b → ¬ S b) (h3 : ∀ b, blkO At b → ¬ S b) : RSt w' gm gc Af cf g At ct s :=
  ⟨h.hf.only ho h2, h.ht.only ho h3, h.mp.only ho (h1 _ (.inl rfl)), h.mc.only ho (h1 _ (.inr rfl)), h.inv, h.ne,
    fun b hb => ⟨(h.ff b hb).1, Nat.lt_of_lt_of_le (h.ff b hb).2 ho.size⟩, fun b hb => ⟨(h.ft b hb).1, Nat.lt_of_lt_of_le (h.ft b hb).2 ho.size⟩⟩
theorem RSt.on (h : RSt w gm gc Af cf g At ct s) (hb : Below w.heap.size w w') : RSt w' gm gc Af cf g At ct s :=
  h.only (Only.of_below (S := fun _ => False) hb) (fun _ _ e => e) (fun _ _ e => e) (fun _ _ e => e)
end
/-- What copying a word gives, the reference's way. -/
def CrPost (gm gc : Nat) (Af : Option Addr) (cf : Nat) (g : List Nat) (At : Option Addr) (r : Except Int (Nat × CSt)) (w : World) (e : Ending) (w' : World) : Prop :=
  Only (rcB gm gc) w w' ∧ match r with
    | .error er => e = .returned (.tuple #[.slice none 0 0, .int .u64 0, .int .i64 er])
    | .ok (x, s') => ∃ At' ct', e = .returned (.tuple #[.slice At' s'.h.length ct', .int .u64 (x : Int), .int .i64 0]) ∧ RSt w' gm gc Af cf g At' ct' s' ∧ ∀ b, blkO At' b → blkO At b ∨ w.heap.size ≤ b
theorem CrPost.err {gm gc cf : Nat} {Af At : Option Addr} {g : List Nat} {r : Except Int (Nat × CSt)} {w w' : World} {er : Int} (hr : r = .error er) (ho : Only (rcB gm gc) w w') : CrPost gm gc Af cf g At r w (.returned (.tuple #[.slice none 0 0, .int .u64 0, .int .i64 er])) w' := by
  subst hr
  exact ⟨ho, rfl⟩
theorem CrPost.same {gm gc cf ct : Nat} {Af At : Option Addr} {g : List Nat} {r : Except Int (Nat × CSt)} {w : World} {x : Nat} {s : CSt} (hr : r = .ok (x, s)) (h : RSt w gm gc Af cf g At ct s) : CrPost gm gc Af cf g At r w (.returned (.tuple #[.slice At s.h.length ct, .int .u64 (x : Int), .int .i64 0])) w := by
  subst hr
  exact ⟨Only.refl _ _, At, ct, rfl, h, fun _ h => .inl h⟩
def CarriesAt (d : Nat) : Prop := ∀ (u : Nat) (s : CSt) (gm gc : Nat) (Af : Option Addr) (cf : Nat) (g : List Nat) (At : Option Addr) (ct : Nat) (level : Int) (w : World), u < 18446744073709551616 → RSt w gm gc Af cf g At ct s → level + d = 41 → d ≤ 40 →
  Calls Try.prog 40 #[.slice Af g.length cf, .slice At s.h.length ct, .int .u64 (u : Int), .int .i64 level, .map (some gm), .map (some gc)] w (CrPost gm gc Af cf g At (carF g d u s) w)

/-- The loop over an object's parts, the reference's way: its own list of parts is PP. -/
structure WRp (w w3 wr : World) (gm gc : Nat) (Af : Option Addr) (cf : Nat) (g : List Nat) (At : Option Addr) (g2 : Nat) (y1 y2 y3 : Int) (y4 : List UInt8) (PA : Option Addr) (n pc : Nat) (ys : List Nat) (PP : Option Addr) (pk : Nat) (xs : List Nat) (At' : Option Addr) (ct' : Nat) (s' : CSt) : Prop where
  st : RSt wr gm gc Af cf g At' ct' s'
  on : Only (rcB gm gc) w wr
  ob : ObBox wr g2 y1 y2 y3 y4 PA n pc
  pr : OwnAt wr w.heap.size 90 1 PA n pc (flat huC ys)
  pp : HOwn wr w3.heap.size PP pk xs
  fa : ∀ b, blkO At' b → blkO At b ∨ w3.heap.size ≤ b
  ap : ∀ b, blkO At' b → ¬ blkO PP b
  sz : w3.heap.size ≤ wr.heap.size
  lo : ∀ b, rcB gm gc b → b < w.heap.size
  la : ∀ b, blkO At b → b < w.heap.size
  lf : ∀ b, blkO Af b → b < w.heap.size
  g1 : w.heap.size ≤ g2
  g3 : g2 < w3.heap.size
  far : ∀ a, PA = some a → w.heap.size ≤ a.block ∧ a.block < g2
theorem new_hu_row (w : World) (x : Nat) : Row (w.alloc (.cells #[.int .u64 (x : Int)] 90)) (w.alloc (.cells #[.int .u64 (x : Int)] 90)).heap.size (some ⟨w.heap.size, 0, none⟩) (flat huC [x]) := fun _ =>
  ⟨w.heap.size, 0, rfl, by simp, fun i v hv => by rw [Nat.zero_add, (Box.new w 90 #[.int .u64 (x : Int)]).cell i, ← hv]; simp [flat, huC]⟩
section
variable {w w3 wr w' : World} {gm gc : Nat} {Af At At' At'' PA PP PP' : Option Addr} {cf ct' ct'' g2 n pc pk pk' : Nat} {g : List Nat} {y1 y2 y3 : Int} {y4 : List UInt8} {ys xs xs' : List Nat} {s' s'' : CSt}
theorem WRp.offP (h : WRp w w3 wr gm gc Af cf g At g2 y1 y2 y3 y4 PA n pc ys PP pk xs At' ct' s') {b : Nat} (hb : blkO PP b) : w3.heap.size ≤ b ∧ b < wr.heap.size := blkO_own h.pp hb
theorem WRp.parts_lt (h : WRp w w3 wr gm gc Af cf g At g2 y1 y2 y3 y4 PA n pc ys PP pk xs At' ct' s') {b : Nat} (hb : PA.map (·.block) = some b) : w.heap.size ≤ b ∧ b < g2 := by
  cases hA : PA with
  | none => rw [hA] at hb; cases hb
  | some a =>
    have h3 := h.far a hA
    rw [hA] at hb
    injection hb with hb
    have hb2 : a.block = b := hb
    omega
theorem WRp.call (h : WRp w w3 wr gm gc Af cf g At g2 y1 y2 y3 y4 PA n pc ys PP pk xs At' ct' s') (ho : Only (rcB gm gc) wr w') (ht : RSt w' gm gc Af cf g At'' ct'' s'') (h1 : ∀ b, blkO At'' b → blkO At' b ∨ wr.heap.size ≤ b) :
    WRp w w3 w' gm gc Af cf g At g2 y1 y2 y3 y4 PA n pc ys PP pk xs At'' ct'' s'' := by
  have hg1 := h.g1
  have hg3 := h.g3
  have hsz := h.sz
  have hwsz := h.on.size
  refine ⟨ht, h.on.trans ho, ho.box h.ob (fun e => ?_), h.pr.only ho (fun b hb e => ?_), h.pp.only ho (fun b hb e => ?_), fun b hb => ?_, fun b hb e => ?_, Nat.le_trans h.sz ho.size, h.lo, h.la, h.lf, h.g1, h.g3, h.far⟩
  · have := h.lo _ e; omega
  · have := h.lo _ e
    have := h.parts_lt hb
    omega
  · have := h.lo _ e
    have := h.offP hb
    omega
  · rcases h1 b hb with hb | hb
    · exact h.fa b hb
    · exact .inr (by omega)
  · have h2 := h.offP e
    rcases h1 b hb with hb | hb
    · exact h.ap b hb e
    · omega
/-- A part noted. -/
theorem WRp.push (h : WRp w w3 wr gm gc Af cf g At g2 y1 y2 y3 y4 PA n pc ys PP pk xs At' ct' s') {ob : Obj} (hg : Grew PP PP' (wr.alloc ob) w') (hp : HOwn w' w3.heap.size PP' pk' xs') :
    WRp w w3 w' gm gc Af cf g At g2 y1 y2 y3 y4 PA n pc ys PP' pk' xs' At' ct' s' := by
  have hg1 := h.g1
  have hg3 := h.g3
  have hsz := h.sz
  have hwsz := h.on.size
  have hg2 := hg.from_alloc
  have ho : Only (fun b => blkO PP b) wr w' := hg2.only
  have hlow : ∀ b, b < w3.heap.size → ¬ blkO PP b := fun b hb e => by have := h.offP e; omega
  refine ⟨h.st.only ho (fun b hb => hlow b ?_) (fun b hb => hlow b ?_) (fun b hb e => h.ap b hb e), h.on.later ho (fun b hb => .inr ?_), ho.box h.ob (hlow g2 hg3), h.pr.only ho (fun b hb => hlow b ?_), hp, h.fa, fun b hb e => ?_, Nat.le_trans h.sz ho.size, h.lo, h.la, h.lf, h.g1, h.g3, h.far⟩
  · have := h.lo b hb; omega
  · have := h.lf b hb; omega
  · have := h.offP hb; omega
  · have := h.parts_lt hb; omega
  · rcases hg2.at' b e with e | e
    · exact h.ap b hb e
    · have := (h.st.ft b hb).2; omega
/-- The parts laid into the object. -/
theorem WRp.store (h : WRp w w3 wr gm gc Af cf g At g2 y1 y2 y3 y4 PA n pc ys PP pk xs At' ct' s') (v : Value) : RSt (wr.setCell ⟨g2, 4, none⟩ v) gm gc Af cf g At' ct' s' ∧ Only (rcB gm gc) w (wr.setCell ⟨g2, 4, none⟩ v) ∧ HOwn (wr.setCell ⟨g2, 4, none⟩ v) w3.heap.size PP pk xs := by
  have hg1 := h.g1
  have hg3 := h.g3
  have hset : Only (fun b => b = g2) wr (wr.setCell ⟨g2, 4, none⟩ v) := (Only.refl (fun b => b = g2) wr).set (p := ⟨g2, 4, none⟩) rfl _
  refine ⟨h.st.only hset (fun b hb e => ?_) (fun b hb e => ?_) (fun b hb e => ?_), h.on.trans2' hset hg1, h.pp.only hset (fun b hb e => ?_)⟩
  · have := h.lo b hb; omega
  · have := h.lf b hb; omega
  · rcases h.fa b hb with e1 | e1
    · have := h.la b e1; omega
    · omega
  · have := h.offP hb; omega
end
theorem wp_append_noneC {P : Program} {w : World} {o : Oper} {a : Act} {K : Act → World → Prop} {Q : Exit → Act → World → Prop} (s x : Operand) (t : TypeId)
    (ho : o.op = .call { callee := .builtin .append, args := #[s, x], argTypes := #[t, t] })
    (base : Nat) (e : TypeId) (i : TypeInfo) (size : Nat) (ht : P.underlying t = some (.slice e)) (hi : P.info? e = some i)
    (v : Value) (n : Nat) (xs : List Value) (hs : a.eval s = v) (hown : w.ownsRow base e size v n xs) (hx : a.eval x = .slice none 0 0)
    (h : K (a.put o.dst v) w) : Oper.wp P o a w K Q := by
  have hrun := run_append_owned_none (P := P) (w := w) base t o.type e i size ht hi v n xs hown
  unfold Oper.wp
  simp [execOp, ho, resolve, invoke, builtin, hs, hx, hrun, Result.andThen]
  exact h
/-- Words appended inside a region that draws: none of them, or more. -/
theorem step_cat_hu {w : World} {ops : Array Oper} {o : Oper} {a : Act} {K : Act → World → Prop} {Q : Exit → Act → World → Prop} {E : Prop} (hgd : o.guard = none) (s x : Operand)
    (ho : o.op = .call { callee := .builtin .append, args := #[s, x], argTypes := #[88, 88] })
    (base : Nat) (v : Value) (zs : List Nat) (hs : a.eval s = v) (hown : UOwn w base v zs) (A : Option Addr) (c : Nat) (ys : List Nat) (hx : a.eval x = .slice A ys.length c) (hr : Row w w.heap.size A (flat huC ys)) (hA : A = none → c = 0)
    (hb : (zs.length + ys.length) * 8 ≤ 140737488355328) (hbase : base ≤ w.heap.size)
    (h : ∀ v' w', UOwn w' base v' (zs ++ ys) → w.grownBy w' v.ownBlock → K (a.put o.dst v') w') :
    if Region.wanted o (yielded ops a.tmps) = true then Oper.wp Try.prog o a w K Q else E := by
  rcases A with _ | ad
  · obtain rfl := hA rfl
    have hy : ys = [] := by
      rcases ys with _ | ⟨y, r⟩
      · rfl
      · obtain ⟨b, o, h, _⟩ := hr (by rw [flat_len huC_len]; simp)
        cases h
    subst hy
    have hw : Region.wanted o (yielded ops a.tmps) = true := by simp [Region.wanted, hgd]
    rw [if_pos hw]
    obtain ⟨i0, z0, hi0, hz0, hz1, hz2, hz3⟩ := hu_parts
    refine wp_append_noneC s x 88 ho base 90 i0 1 Try.underlying88 hi0 v zs.length (flat huC zs) hs hown hx (h v w ?_ (World.grownBy.refl w _))
    rw [List.append_nil]
    exact hown
  · exact step_append_hu hgd s x ho base v zs hs hown ad c ys.length w.heap.size ys rfl hx hr hb hbase h
section
variable {w w1 w2 w3 : World} {gm gc : Nat} {Af At A5 : Option Addr} {cf ct c5 : Nat} {g : List Nat} {s s' : CSt} {F : Int → Option Value}
theorem RSt.mark {n : Int} (h : RSt w gm gc Af cf g At ct s) (hn : I64 n) : ∃ w1, (Instr.mapUpdate 96 (.map (some gc)) (.int .i64 n) (.bool true)).run Try.prog w = .ok () w1 ∧ Only (fun b => b = gc) w w1 ∧ IntMap w1 gc (s.h.length + 1) (fun y => if y = n then some (.bool true) else csM s y) := by
  have hlen := h.inv.len
  obtain ⟨w1, hrun, h3, h4⟩ := h.mc.put ints_keyed Try.underlying96 (show s.h.length < maxLen by unfold maxLen; omega) intL_inj intL_key (int_key hn) (.bool true)
  exact ⟨w1, hrun, ⟨h4.os, h4.tape, h4.output, h4.size, fun i hi hne => h4.block i hi (fun e => hne (Option.some.inj e))⟩, h3⟩
theorem RSt.last {n : Int} (h : RSt w gm gc Af cf g At ct s) (hn : I64 n) (c : Nat) (ho : Only (fun b => b = gc) w w1) (hc : IntMap w1 gc (s.h.length + 1) F) :
    ∃ w2, (Instr.mapUpdate 99 (.map (some gm)) (.int .i64 n) (.int .u64 (c : Int))).run Try.prog w1 = .ok () w2 ∧ Only (rcB gm gc) w w2 ∧ Only (fun b => b = gm) w1 w2 ∧ IntMap w2 gm (s.h.length + 1) (fun y => if y = n then some (.int .u64 (c : Int)) else mvM s y) ∧ IntMap w2 gc (s.h.length + 1) F := by
  have hlen := h.inv.len
  have hm := h.mp.only ho h.ne
  obtain ⟨w2, hrun, h3, h4⟩ := hm.put ints_keyed Try.underlying99 (show s.h.length < maxLen by unfold maxLen; omega) intL_inj intL_key (int_key hn) (.int .u64 (c : Int))
  have hon : Only (fun b => b = gm) w1 w2 := ⟨h4.os, h4.tape, h4.output, h4.size, fun i hi hne => h4.block i hi (fun e => hne (Option.some.inj e))⟩
  exact ⟨w2, hrun, (ho.more (fun _ e => .inr e)).trans (hon.more (fun _ e => .inl e)), hon, h3, hc.only hon (fun e => h.ne e.symm)⟩
theorem RSt.fin {N : Nat} (h : RSt w gm gc Af cf g At ct s) (ho : Only (rcB gm gc) w w2) (hm : IntMap w2 gm N (mvM s')) (hc : IntMap w2 gc N (csM s')) (hb : Below w2.heap.size w2 w3) (hA : HOwn w3 w2.heap.size A5 c5 s'.h) (hN : N ≤ s'.h.length) (hi : CInv g s') : RSt w3 gm gc Af cf g A5 c5 s' := by
  have hlt : ∀ b, rcB gm gc b → b < w2.heap.size := fun b hb => Nat.lt_of_lt_of_le (h.lt b hb) ho.size
  refine ⟨(h.hf.only ho (fun b hb => (h.ff b hb).1)).below hb, HpIn.own hA hi.fit, (hm.mono hN).under hb, (hc.mono hN).under hb, hi, h.ne, fun b hb' => ⟨(h.ff b hb').1, ?_⟩, fun b hb' => ?_⟩
  · have := (h.ff b hb').2
    have := ho.size
    have := hb.size
    omega
  · have h1 := blkO_own hA hb'
    exact ⟨fun e => by have := hlt b e; omega, h1.2⟩
theorem mvM_put {ws : List Nat} {n : Int} {c : Nat} {cs : List Int} : (fun y => if y = n then some (Value.int .u64 (c : Int)) else mvM s y) = mvM ⟨s.h ++ ws, fun y => if y = n then some c else s.mv y, cs⟩ := by
  funext y
  unfold mvM
  dsimp only
  by_cases e : y = n
  · rw [if_pos e, if_pos e]; rfl
  · rw [if_neg e, if_neg e]
theorem csM_put {h : List Nat} {n : Int} {mv : Int → Option Nat} : (fun y => if y = n then some (Value.bool true) else csM s y) = csM ⟨h, mv, s.cs ++ [n]⟩ := by
  funext y
  unfold csM
  dsimp only
  by_cases e : y = n
  · rw [if_pos e, if_pos (by subst e; simp)]
  · rw [if_neg e]
    by_cases e2 : y ∈ s.cs
    · rw [if_pos e2, if_pos (List.mem_append_left _ e2)]
    · rw [if_neg e2, if_neg (fun h => by rcases List.mem_append.1 h with h | h; exact e2 h; exact e (by simpa using h))]
end
end Go.Proofs.Ytdjahlkjfpbifaa
