
/-
  Values copied between heaps: the state of carry's transfer.
-/
import Derived.Test.YtdjahlkjfpbifaaCyDef
import Derived.Test.YtdjahlkjfpbifaaIntSet
namespace Go.Proofs.Ytdjahlkjfpbifaa
open Go.RowKit

def blkO (A : Option Addr) (b : Nat) : Prop := A.map (·.block) = some b
theorem blkO_none (b : Nat) : ¬ blkO none b := fun h => by cases h
theorem blkO_some {a : Addr} {b : Nat} (h : blkO (some a) b) : a.block = b := by
  unfold blkO at h
  injection h
theorem blkO_own {w : World} {base e k n c : Nat} {A : Option Addr} {xs : List Value} (ho : OwnAt w base e k A n c xs) {b : Nat} (hb : blkO A b) : base ≤ b ∧ b < w.heap.size := by
  rcases ho.form with ⟨rfl, _⟩ | ⟨g1, o1, rfl⟩
  · exact absurd hb (blkO_none b)
  · have := blkO_some hb
    have h2 := ho.lt
    dsimp only at this
    omega
theorem HpIn.blk {w : World} {A : Option Addr} {c : Nat} {h : List Nat} (hh : HpIn w A c h) (hp : 0 < h.length) {b : Nat} (hb : blkO A b) : b < w.heap.size := by
  obtain ⟨g, o, e, hg, _⟩ := Row.hu hh.row hp 0
  subst e
  have := blkO_some hb
  dsimp only at this
  omega
/-- A heap that came in, where only blocks that are not its own have turned. -/
theorem HpIn.only {w w' : World} {A : Option Addr} {c : Nat} {h : List Nat} {S : Nat → Prop} (s : HpIn w A c h) (ho : Only S w w') (hA : ∀ b, blkO A b → ¬ S b) : HpIn w' A c h :=
  ⟨(s.row.only (Nat.le_refl _) ho (fun a ha hs => hA a.block (by rw [ha]; rfl) hs)).more ho.size, s.none, s.le, s.cap, s.fit⟩
theorem HpIn.own {w : World} {base c : Nat} {A : Option Addr} {h : List Nat} (ho : OwnAt w base 90 1 A h.length c (flat huC h)) (hf : ∀ x ∈ h, x < 18446744073709551616) : HpIn w A c h := by
  refine ⟨ho.row, fun e => ?_, ho.cap_le.1, ho.cap_le.2, hf⟩
  rcases ho.form with ⟨_, _, h3⟩ | ⟨g, o, h3⟩
  · exact h3
  · rw [e] at h3; cases h3

/-- Where a transfer writes: its own block, its map, its list of cells. -/
def tfB (gt gm : Nat) (A : Option Addr) (b : Nat) : Prop := b = gt ∨ b = gm ∨ blkO A b
/-- The transfer in block gt, its map in gm. -/
structure TSt (base : Nat) (w : World) (gt gm : Nat) (Af : Option Addr) (cf : Nat) (g : List Nat) (At : Option Addr) (ct : Nat) (Ac : Option Addr) (cc : Nat) (s : CSt) : Prop where
  bx : Box w gt 186 #[.slice Af g.length cf, .slice At s.h.length ct, .map (some gm), .slice Ac s.cs.length cc]
  hf : HpIn w Af cf g
  ht : HpIn w At ct s.h
  mp : IntMap w gm s.h.length (fun x => (s.mv x).map fun c : Nat => .int .u64 (c : Int))
  oc : OwnAt w base 3 1 Ac s.cs.length cc (ints s.cs)
  inv : CInv g s
  b1 : base ≤ gt
  b2 : base ≤ gm
  ne : gt ≠ gm
  ff : ∀ b, blkO Af b → ¬ tfB gt gm Ac b ∧ b < w.heap.size
  ft : ∀ b, blkO At b → ¬ tfB gt gm Ac b ∧ b < w.heap.size
  fc : ¬ blkO Ac gt ∧ ¬ blkO Ac gm
section
variable {base : Nat} {w w' : World} {gt gm : Nat} {Af At Ac : Option Addr} {cf ct cc : Nat} {g : List Nat} {s : CSt}
theorem TSt.lt (h : TSt base w gt gm Af cf g At ct Ac cc s) : ∀ b, tfB gt gm Ac b → base ≤ b ∧ b < w.heap.size := by
  intro b hb
  rcases hb with rfl | rfl | hb
  · exact ⟨h.b1, h.bx.lt⟩
  · exact ⟨h.b2, h.mp.lt⟩
  · exact blkO_own h.oc hb
/-- Other blocks have turned. -/
theorem TSt.only {S : Nat → Prop} (h : TSt base w gt gm Af cf g At ct Ac cc s) (ho : Only S w w') (h1 : ∀ b, tfB gt gm Ac b → ¬ S b) (h2 : ∀ b, blkO Af b → ¬ S b) (h3 : ∀ b, blkO At b → ¬ S b) : TSt base w' gt gm Af cf g At ct Ac cc s :=
  ⟨ho.box h.bx (h1 _ (.inl rfl)), h.hf.only ho h2, h.ht.only ho h3, h.mp.only ho (h1 _ (.inr (.inl rfl))), h.oc.only ho (fun b hb => h1 b (.inr (.inr hb))), h.inv, h.b1, h.b2, h.ne,
    fun b hb => ⟨(h.ff b hb).1, Nat.lt_of_lt_of_le (h.ff b hb).2 ho.size⟩, fun b hb => ⟨(h.ft b hb).1, Nat.lt_of_lt_of_le (h.ft b hb).2 ho.size⟩, h.fc⟩
theorem TSt.on (h : TSt base w gt gm Af cf g At ct Ac cc s) (hb : Below w.heap.size w w') : TSt base w' gt gm Af cf g At ct Ac cc s :=
  h.only (Only.of_below (S := fun _ => False) hb) (fun _ _ e => e) (fun _ _ e => e) (fun _ _ e => e)
theorem TSt.alloc (h : TSt base w gt gm Af cf g At ct Ac cc s) (o : Obj) : TSt base (w.alloc o) gt gm Af cf g At ct Ac cc s := h.on ((Below.refl _ _).alloc (Nat.le_refl _) o)
theorem TSt.drewN (h : TSt base w gt gm Af cf g At ct Ac cc s) (n : Nat) : TSt base (w.drewN n) gt gm Af cf g At ct Ac cc s := h.on (below_drewN (Below.refl _ _) n)
/-- The other heap grown, its map and its cells not yet. -/
theorem TSt.cell (h : TSt base w gt gm Af cf g At ct Ac cc s) (i : Nat) : w.cell? ⟨gt, i, none⟩ = (#[Value.slice Af g.length cf, .slice At s.h.length ct, .map (some gm), .slice Ac s.cs.length cc] : Array Value)[i]? := h.bx.cell i
end

/-- What copying a word gives. -/
def CyPost (base gt gm : Nat) (Af : Option Addr) (cf : Nat) (g : List Nat) (At Ac : Option Addr) (r : Except Int (Nat × CSt)) (w : World) (e : Ending) (w' : World) : Prop :=
  Only (tfB gt gm Ac) w w' ∧ match r with
    | .error er => e = .returned (.tuple #[.int .u64 0, .int .i64 er])
    | .ok (x, s') => e = .returned (.tuple #[.int .u64 (x : Int), .int .i64 0]) ∧ ∃ At' ct' Ac' cc', TSt base w' gt gm Af cf g At' ct' Ac' cc' s' ∧ (∀ b, blkO At' b → blkO At b ∨ w.heap.size ≤ b) ∧ (∀ b, blkO Ac' b → blkO Ac b ∨ w.heap.size ≤ b)
theorem CyPost.err {base gt gm cf : Nat} {Af At Ac : Option Addr} {g : List Nat} {r : Except Int (Nat × CSt)} {w w' : World} {er : Int} (hr : r = .error er) (ho : Only (tfB gt gm Ac) w w') : CyPost base gt gm Af cf g At Ac r w (.returned (.tuple #[.int .u64 0, .int .i64 er])) w' := by
  subst hr
  exact ⟨ho, rfl⟩
theorem CyPost.same {base gt gm cf ct cc : Nat} {Af At Ac : Option Addr} {g : List Nat} {r : Except Int (Nat × CSt)} {w : World} {x : Nat} {s : CSt} (hr : r = .ok (x, s)) (h : TSt base w gt gm Af cf g At ct Ac cc s) : CyPost base gt gm Af cf g At Ac r w (.returned (.tuple #[.int .u64 (x : Int), .int .i64 0])) w := by
  subst hr
  exact ⟨Only.refl _ _, rfl, At, ct, Ac, cc, h, fun _ h => .inl h, fun _ h => .inl h⟩
theorem zero_u64C (w : World) : (zeroValue 90).run Try.prog w = .ok (.int .u64 0) w := by kernel_rfl
def CopiesAt (d : Nat) : Prop := ∀ (base u : Nat) (s : CSt) (gt gm : Nat) (Af : Option Addr) (cf : Nat) (g : List Nat) (At : Option Addr) (ct : Nat) (Ac : Option Addr) (cc : Nat) (level : Int) (w : World), u < 18446744073709551616 → TSt base w gt gm Af cf g At ct Ac cc s → level + d = 41 → d ≤ 40 → base ≤ w.heap.size →
  Calls Try.prog 92 #[.pointer (some ⟨gt, 0, none⟩), .int .u64 (u : Int), .int .i64 level] w (CyPost base gt gm Af cf g At Ac (carF g d u s) w)

theorem carStep_form (g : List Nat) (f : Nat → CSt → Except Int (Nat × CSt)) (deep : Bool) (u : Nat) (s : CSt) : carStep g f deep u s = if readB (u : Int) = false then .error 3
  else if (u : Int) % 8 ≠ 4 then .ok (u, s)
  else match s.mv (readN (u : Int)) with
    | some c => .ok (c, s)
    | none => if deep = true then .error 2
      else if (rdF g (readN (u : Int))).2.2 ≠ 0 then .error (rdF g (readN (u : Int))).2.2
      else match foldC f (rdF g (readN (u : Int))).1.parts s with
        | .error e => .error e
        | .ok (ps, s') => putC s' (readN (u : Int)) (withP (rdF g (readN (u : Int))).1 ps) := rfl

/-- The loop over an object's parts: w the call's first world, w3 the loop's; the object in block g2. -/
structure WLp (base : Nat) (w w3 wr : World) (gt gm : Nat) (Af : Option Addr) (cf : Nat) (g : List Nat) (At Ac : Option Addr) (g2 : Nat) (y1 y2 y3 : Int) (y4 : List UInt8) (PA : Option Addr) (n pc : Nat) (zs : List Nat) (At' : Option Addr) (ct' : Nat) (Ac' : Option Addr) (cc' : Nat) (s' : CSt) : Prop where
  st : TSt base wr gt gm Af cf g At' ct' Ac' cc' s'
  on : Only (tfB gt gm Ac) w wr
  ob : ObBox wr g2 y1 y2 y3 y4 PA n pc
  pr : OwnAt wr w.heap.size 90 1 PA n pc (flat huC zs)
  fa : ∀ b, blkO At' b → blkO At b ∨ w3.heap.size ≤ b
  fc : ∀ b, blkO Ac' b → blkO Ac b ∨ w3.heap.size ≤ b
  sz : w3.heap.size ≤ wr.heap.size
  lo : ∀ b, tfB gt gm Ac b → b < w.heap.size
  la : ∀ b, blkO At b → b < w.heap.size
  lf : ∀ b, blkO Af b → b < w.heap.size
  g1 : w.heap.size ≤ g2
  g3 : g2 < w3.heap.size
  far : ∀ a, PA = some a → w.heap.size ≤ a.block ∧ a.block < g2
section
variable {base : Nat} {w w3 wr w' : World} {gt gm : Nat} {Af At Ac At' Ac' At'' Ac'' PA : Option Addr} {cf ct' cc' ct'' cc'' g2 n pc : Nat} {g : List Nat} {y1 y2 y3 : Int} {y4 : List UInt8} {zs : List Nat} {s' s'' : CSt}
theorem WLp.new (h : WLp base w w3 wr gt gm Af cf g At Ac g2 y1 y2 y3 y4 PA n pc zs At' ct' Ac' cc' s') {b : Nat} (hb : tfB gt gm Ac' b) : b < w.heap.size ∨ w3.heap.size ≤ b := by
  rcases hb with rfl | rfl | hb
  · exact .inl (h.lo _ (.inl rfl))
  · exact .inl (h.lo _ (.inr (.inl rfl)))
  · rcases h.fc b hb with hb | hb
    · exact .inl (h.lo _ (.inr (.inr hb)))
    · exact .inr hb
theorem WLp.call (h : WLp base w w3 wr gt gm Af cf g At Ac g2 y1 y2 y3 y4 PA n pc zs At' ct' Ac' cc' s') (ho : Only (tfB gt gm Ac') wr w') (ht : TSt base w' gt gm Af cf g At'' ct'' Ac'' cc'' s'') (h1 : ∀ b, blkO At'' b → blkO At' b ∨ wr.heap.size ≤ b) (h2 : ∀ b, blkO Ac'' b → blkO Ac' b ∨ wr.heap.size ≤ b) :
    WLp base w w3 w' gt gm Af cf g At Ac g2 y1 y2 y3 y4 PA n pc zs At'' ct'' Ac'' cc'' s'' := by
  have hg1 := h.g1
  have hg3 := h.g3
  have hsz := h.sz
  refine ⟨ht, ⟨ho.os.trans h.on.os, ho.tape.trans h.on.tape, ho.output.trans h.on.output, Nat.le_trans h.on.size ho.size, fun i hi hne => ?_⟩, ho.box h.ob (fun e => ?_), h.pr.only ho (fun b hb e => ?_), fun b hb => ?_, fun b hb => ?_, Nat.le_trans h.sz ho.size, h.lo, h.la, h.lf, h.g1, h.g3, h.far⟩
  · have hi2 : i < wr.heap.size := Nat.lt_of_lt_of_le hi h.on.size
    refine (ho.block i hi2 (fun e => ?_)).trans (h.on.block i hi hne)
    rcases e with e | e | e
    · exact hne (.inl e)
    · exact hne (.inr (.inl e))
    · rcases h.fc i e with e | e
      · exact hne (.inr (.inr e))
      · omega
  · rcases h.new e with e | e <;> omega
  · cases hA : PA with
    | none => rw [hA] at hb; cases hb
    | some a =>
      have h3 := h.far a hA
      rw [hA] at hb
      injection hb with hb
      have hb2 : a.block = b := hb
      rcases h.new e with e | e <;> omega
  · rcases h1 b hb with hb | hb
    · exact h.fa b hb
    · exact .inr (by omega)
  · rcases h2 b hb with hb | hb
    · exact h.fc b hb
    · exact .inr (by omega)
/-- The same where only memory that the call itself made has been written: a part stored. -/
theorem WLp.part {pb po : Nat} (h : WLp base w w3 wr gt gm Af cf g At Ac g2 y1 y2 y3 y4 (some ⟨pb, po, none⟩) n pc zs At' ct' Ac' cc' s') (j x : Nat) : WLp base w w3 (wr.setCell ⟨pb, po + j, none⟩ (.int .u64 (x : Int))) gt gm Af cf g At Ac g2 y1 y2 y3 y4 (some ⟨pb, po, none⟩) n pc (zs.set j x) At' ct' Ac' cc' s' := by
  have hg1 := h.g1
  have hg3 := h.g3
  have hsz := h.sz
  have hfar := h.far _ rfl
  dsimp only at hfar
  have hset : Only (fun b => b = pb) wr (wr.setCell ⟨pb, po + j, none⟩ (.int .u64 (x : Int))) := (Only.refl (fun b => b = pb) wr).set (p := ⟨pb, po + j, none⟩) rfl _
  refine ⟨h.st.only hset (fun b hb e => ?_) (fun b hb e => ?_) (fun b hb e => ?_), h.on.trans2' hset hfar.1, hset.box h.ob (fun e => by omega), ?_, h.fa, h.fc, Nat.le_trans h.sz hset.size, h.lo, h.la, h.lf, h.g1, h.g3, h.far⟩
  · rcases h.new hb with e | e <;> omega
  · have := h.lf b hb; omega
  · rcases h.fa b hb with e | e
    · have := h.la b e; omega
    · omega
  · have h5 := h.pr.set (j := j) (.int .u64 (x : Int))
    have h6 : (flat huC zs).set j (.int .u64 (x : Int)) = flat huC (zs.set j x) := by
      have e : ∀ l : List Nat, flat huC l = l.map fun y : Nat => Value.int .u64 (y : Int) := by
        intro l
        unfold flat huC
        induction l with
        | nil => rfl
        | cons a l ih => simp only [List.flatMap_cons, List.map_cons]; rw [ih]; rfl
      rw [e, e, List.map_set]
    rw [h6] at h5
    exact h5
/-- Across a call: the object, its parts. -/
theorem ob_part (h : WLp base w w3 wr gt gm Af cf g At Ac g2 y1 y2 y3 y4 PA n pc zs At' ct' Ac' cc' s') (ho : Only (tfB gt gm Ac') wr w') : ObBox w' g2 y1 y2 y3 y4 PA n pc := by
  have hg1 := h.g1
  have hg3 := h.g3
  exact ho.box h.ob (fun e => by rcases h.new e with e | e <;> omega)
theorem pr_part (h : WLp base w w3 wr gt gm Af cf g At Ac g2 y1 y2 y3 y4 PA n pc zs At' ct' Ac' cc' s') (ho : Only (tfB gt gm Ac') wr w') : OwnAt w' w.heap.size 90 1 PA n pc (flat huC zs) := by
  have hg1 := h.g1
  have hg3 := h.g3
  refine h.pr.only ho (fun b hb e => ?_)
  cases hA : PA with
  | none => rw [hA] at hb; cases hb
  | some a =>
    have h3 := h.far a hA
    rw [hA] at hb
    injection hb with hb
    have hb2 : a.block = b := hb
    rcases h.new e with e | e <;> omega
theorem cell_part {pb po j : Nat} (h : WLp base w w3 wr gt gm Af cf g At Ac g2 y1 y2 y3 y4 (some ⟨pb, po, none⟩) n pc zs At' ct' Ac' cc' s') (ho : Only (tfB gt gm Ac') wr w') (hj : j < n) (hz : zs.length = n) : w'.cell? ⟨pb, po + j, none⟩ = some (.int .u64 ((zs.getD j 0 : Nat) : Int)) := by
  obtain ⟨b, o, e, _, hc⟩ := Row.hu (pr_part h ho).row (show j < zs.length by omega) 0
  injection e with e
  injection e with e1 e2
  subst e1 e2
  rw [Nat.mul_one] at hc
  exact hc
theorem frozen_part {pb po j : Nat} (h : WLp base w w3 wr gt gm Af cf g At Ac g2 y1 y2 y3 y4 (some ⟨pb, po, none⟩) n pc zs At' ct' Ac' cc' s') (ho : Only (tfB gt gm Ac') wr w') : w'.frozen? ⟨pb, po + j, none⟩ = false := (pr_part h ho).frozen _
/-- The world in which a part was stored behind a call that failed. -/
theorem only_part {pb po : Nat} (h : WLp base w w3 wr gt gm Af cf g At Ac g2 y1 y2 y3 y4 (some ⟨pb, po, none⟩) n pc zs At' ct' Ac' cc' s') (ho : Only (tfB gt gm Ac') wr w') (j : Nat) (v : Value) : Only (tfB gt gm Ac) w (w'.setCell ⟨pb, po + j, none⟩ v) := by
  have hfar := h.far _ rfl
  dsimp only at hfar
  have hset : Only (fun b => b = pb) w' (w'.setCell ⟨pb, po + j, none⟩ v) := (Only.refl (fun b => b = pb) w').set (p := ⟨pb, po + j, none⟩) rfl _
  have h1 : Only (tfB gt gm Ac) w w' := ⟨ho.os.trans h.on.os, ho.tape.trans h.on.tape, ho.output.trans h.on.output, Nat.le_trans h.on.size ho.size, fun i hi hne => by
    have hg1 := h.g1
    have hg3 := h.g3
    refine (ho.block i (Nat.lt_of_lt_of_le hi h.on.size) (fun e => ?_)).trans (h.on.block i hi hne)
    rcases e with e | e | e
    · exact hne (.inl e)
    · exact hne (.inr (.inl e))
    · rcases h.fc i e with e | e
      · exact hne (.inr (.inr e))
      · omega⟩
  exact h1.trans2' hset hfar.1
theorem WLp.drewN (h : WLp base w w3 wr gt gm Af cf g At Ac g2 y1 y2 y3 y4 PA n pc zs At' ct' Ac' cc' s') (m : Nat) : WLp base w w3 (wr.drewN m) gt gm Af cf g At Ac g2 y1 y2 y3 y4 PA n pc zs At' ct' Ac' cc' s' :=
  ⟨h.st.drewN m, h.on.drewN m, h.ob.drewN m, h.pr.drewN m, h.fa, h.fc, h.sz, h.lo, h.la, h.lf, h.g1, h.g3, h.far⟩
theorem WLp.drew (h : WLp base w w3 wr gt gm Af cf g At Ac g2 y1 y2 y3 y4 PA n pc zs At' ct' Ac' cc' s') : WLp base w w3 wr.drew gt gm Af cf g At Ac g2 y1 y2 y3 y4 PA n pc zs At' ct' Ac' cc' s' :=
  ⟨h.st.on (below_drewX (Below.refl _ _)), h.on.drew, h.ob.drew, h.pr.drew, h.fa, h.fc, h.sz, h.lo, h.la, h.lf, h.g1, h.g3, h.far⟩
theorem cells_kept (h : WLp base w w3 wr gt gm Af cf g At Ac g2 y1 y2 y3 y4 PA n pc zs At' ct' Ac' cc' s') (hb : Below wr.heap.size wr w') : w'.cell? ⟨gt, 1, none⟩ = some (.slice At' s'.h.length ct') ∧ w'.cell? ⟨g2, 0, none⟩ = some (.int .i64 y1) ∧ w'.cell? ⟨g2, 1, none⟩ = some (.int .i64 y2) ∧ w'.cell? ⟨g2, 2, none⟩ = some (.int .i64 y3) ∧ w'.cell? ⟨g2, 3, none⟩ = some (.string ⟨y4.toArray⟩) ∧ w'.cell? ⟨g2, 4, none⟩ = some (.slice PA n pc) :=
  ⟨(h.st.on hb).bx.cell 1, ObBox.cells (h.ob.below hb h.ob.lt)⟩
end
theorem put_at {xs us : List Nat} {j x : Nat} (hx : xs.length = j) (hj : j < us.length) : (xs ++ us.drop j).set j x = (xs ++ [x]) ++ us.drop (j + 1) := by
  rw [List.drop_eq_getElem_cons hj, List.set_append_right _ _ (by omega), hx, Nat.sub_self, List.append_assoc]
  rfl
theorem got_at {xs us : List Nat} {j : Nat} (hx : xs.length = j) : (xs ++ us.drop j).getD j 0 = us.getD j 0 := by
  rw [List.getD_eq_getElem?_getD, List.getD_eq_getElem?_getD, List.getElem?_append_right (by omega), hx, Nat.sub_self, List.getElem?_drop]
  rfl

theorem CInv.drop {g : List Nat} {h : List Nat} {mv : Int → Option Nat} {cs : List Int} {n : Int} (hi : CInv g ⟨h, mv, cs ++ [n]⟩) : CInv g ⟨h, mv, cs⟩ :=
  ⟨hi.len, hi.fit, hi.mvf, fun m hm => hi.cells m (List.mem_append_left _ hm), by have := hi.cnt; dsimp only at this; rw [List.length_append] at this; dsimp only; simp only [List.length_cons, List.length_nil] at this; omega⟩
section
variable {base : Nat} {w w5 w7 w8 : World} {gt gm : Nat} {Af At Ac A5 Ac2 : Option Addr} {cf ct cc c5 cc2 : Nat} {g : List Nat} {s : CSt}
/-- The other heap grown and the copy noted. -/
theorem TSt.put {ws : List Nat} {mv' : Int → Option Nat} (h : TSt base w gt gm Af cf g At ct Ac cc s) (hb : Below w.heap.size w w5) (ho : OwnAt w5 w.heap.size 90 1 A5 (s.h ++ ws).length c5 (flat huC (s.h ++ ws)))
    (hon : Only (fun b => b = gm) (w5.setCell ⟨gt, 1, none⟩ (.slice A5 (s.h ++ ws).length c5)) w7) (hm : IntMap w7 gm (s.h ++ ws).length (fun x => (mv' x).map fun c : Nat => .int .u64 (c : Int))) (hi : CInv g ⟨s.h ++ ws, mv', s.cs⟩) :
    TSt base w7 gt gm Af cf g A5 c5 Ac cc ⟨s.h ++ ws, mv', s.cs⟩ := by
  have hset : Only (fun b => b = gt) w5 (w5.setCell ⟨gt, 1, none⟩ (.slice A5 (s.h ++ ws).length c5)) := (Only.refl (fun b => b = gt) w5).set (p := ⟨gt, 1, none⟩) rfl _
  have hne := h.ne
  have hsz := hset.size
  have hsz2 := hon.size
  have h5 := h.on hb
  have hlt : ∀ b, tfB gt gm Ac b → b < w.heap.size := fun b hb => (h.lt b hb).2
  refine ⟨hon.box ((h5.bx).set 1 _) (fun e => hne e), (h5.hf.only hset (fun b hb e => (h.ff b hb).1 (.inl e))).only hon (fun b hb e => (h.ff b hb).1 (.inr (.inl e))), ?_, hm, (h5.oc.only hset (fun b hb e => h.fc.1 (by subst e; exact hb))).only hon (fun b hb e => h.fc.2 (by subst e; exact hb)), hi, h.b1, h.b2, h.ne,
    fun b hb => ⟨(h.ff b hb).1, by have := (h5.ff b hb).2; omega⟩, fun b hb => ?_, h.fc⟩
  · have ho2 : OwnAt w7 w.heap.size 90 1 A5 (s.h ++ ws).length c5 (flat huC (s.h ++ ws)) := (ho.only hset (fun b hb e => by
      have h1 := (blkO_own ho hb).1
      have h2 := hlt gt (.inl rfl)
      omega)).only hon (fun b hb e => by
      have h1 := (blkO_own ho hb).1
      have h2 := hlt gm (.inr (.inl rfl))
      omega)
    exact HpIn.own ho2 hi.fit
  · have h1 := blkO_own ho hb
    exact ⟨fun e => by have := hlt b e; omega, by omega⟩
theorem TSt.copied {ws : List Nat} {n : Int} {c N : Nat} (h : TSt base w gt gm Af cf g At ct Ac cc s) (hb : Below w.heap.size w w5) (hN : (s.h ++ ws).length = N) (ho : OwnAt w5 w.heap.size 90 1 A5 N c5 (flat huC (s.h ++ ws))) (hn : I64 n) (hws : 0 < ws.length)
    (hi : CInv g ⟨s.h ++ ws, fun y => if y = n then some c else s.mv y, s.cs⟩) :
    ∃ w7, (Instr.mapUpdate 99 (.map (some gm)) (.int .i64 n) (.int .u64 (c : Int))).run Try.prog (w5.setCell ⟨gt, 1, none⟩ (.slice A5 N c5)) = .ok () w7 ∧ TSt base w7 gt gm Af cf g A5 c5 Ac cc ⟨s.h ++ ws, fun y => if y = n then some c else s.mv y, s.cs⟩ ∧ Only (fun b => b = gt ∨ b = gm) w5 w7 := by
  subst hN
  have hset : Only (fun b => b = gt) w5 (w5.setCell ⟨gt, 1, none⟩ (.slice A5 (s.h ++ ws).length c5)) := (Only.refl (fun b => b = gt) w5).set (p := ⟨gt, 1, none⟩) rfl _
  have hmp := (h.on hb).mp.only hset (fun e => h.ne e.symm)
  have hlen := h.inv.len
  obtain ⟨w7, hrun, h3, h4⟩ := hmp.put ints_keyed Try.underlying99 (show s.h.length < maxLen by unfold maxLen; omega) intL_inj intL_key (int_key hn) (.int .u64 (c : Int))
  have hon : Only (fun b => b = gm) (w5.setCell ⟨gt, 1, none⟩ (.slice A5 (s.h ++ ws).length c5)) w7 := ⟨h4.os, h4.tape, h4.output, h4.size, fun i hi hne => h4.block i hi (fun e => hne (Option.some.inj e))⟩
  refine ⟨w7, hrun, h.put hb ho hon ?_ hi, (hset.more (fun _ e => .inl e)).trans (hon.more (fun _ e => .inr e))⟩
  have h5 := h3.mono (m := (s.h ++ ws).length) (by rw [List.length_append]; omega)
  have h6 : (fun y => if y = n then some (Value.int .u64 (c : Int)) else (s.mv y).map fun c : Nat => .int .u64 (c : Int)) = fun y => (if y = n then some c else s.mv y).map fun c : Nat => .int .u64 (c : Int) := by
    funext y
    by_cases e : y = n
    · rw [if_pos e, if_pos e]; rfl
    · rw [if_neg e, if_neg e]
  rw [h6] at h5
  exact h5
/-- A cell noted. -/
theorem TSt.noted {n : Int} (h : TSt base w gt gm Af cf g At ct Ac cc s) (hon : Only (fun b => blkO Ac b) w w8) (ho : OwnAt w8 base 3 1 Ac2 (s.cs.length + 1) cc2 (ints s.cs ++ [.int .i64 n])) (hA : ∀ b, blkO Ac2 b → blkO Ac b ∨ w.heap.size ≤ b) (hi : CInv g ⟨s.h, s.mv, s.cs ++ [n]⟩) :
    TSt base (w8.setCell ⟨gt, 3, none⟩ (.slice Ac2 (s.cs.length + 1) cc2)) gt gm Af cf g At ct Ac2 cc2 ⟨s.h, s.mv, s.cs ++ [n]⟩ := by
  have hset : Only (fun b => b = gt) w8 (w8.setCell ⟨gt, 3, none⟩ (.slice Ac2 (s.cs.length + 1) cc2)) := (Only.refl (fun b => b = gt) w8).set (p := ⟨gt, 3, none⟩) rfl _
  have hsz := hset.size
  have hsz2 := hon.size
  have hlt : ∀ b, tfB gt gm Ac b → b < w.heap.size := fun b hb => (h.lt b hb).2
  have hgt := hlt gt (.inl rfl)
  have hgm := hlt gm (.inr (.inl rfl))
  have hc : ¬ blkO Ac2 gt ∧ ¬ blkO Ac2 gm := by
    constructor
    · intro e
      rcases hA gt e with e | e
      · exact h.fc.1 e
      · omega
    · intro e
      rcases hA gm e with e | e
      · exact h.fc.2 e
      · omega
  have hl : s.cs.length + 1 = (s.cs ++ [n]).length := by rw [List.length_append]; rfl
  have hx : ints s.cs ++ [.int .i64 n] = ints (s.cs ++ [n]) := by simp [ints]
  have hfar : ∀ b, ¬ tfB gt gm Ac b ∧ b < w.heap.size → ¬ tfB gt gm Ac2 b ∧ b < (w8.setCell ⟨gt, 3, none⟩ (.slice Ac2 (s.cs.length + 1) cc2)).heap.size := fun b ⟨h1, h2⟩ => ⟨fun e => by
    rcases e with e | e | e
    · exact h1 (.inl e)
    · exact h1 (.inr (.inl e))
    · rcases hA b e with e | e
      · exact h1 (.inr (.inr e))
      · omega, by omega⟩
  have ho2 := ho.only hset (fun b hb e => hc.1 (by subst e; exact hb))
  rw [hl, hx] at ho2
  refine ⟨?_, (h.hf.only hon (fun b hb e => (h.ff b hb).1 (.inr (.inr e)))).only hset (fun b hb e => (h.ff b hb).1 (.inl e)), (h.ht.only hon (fun b hb e => (h.ft b hb).1 (.inr (.inr e)))).only hset (fun b hb e => (h.ft b hb).1 (.inl e)),
    (h.mp.only hon h.fc.2).only hset (fun e => h.ne e.symm), ?_, hi, h.b1, h.b2, h.ne, fun b hb => hfar b (h.ff b hb), fun b hb => hfar b (h.ft b hb), hc⟩
  · have h1 := (hon.box h.bx h.fc.1).set 3 (.slice Ac2 (s.cs.length + 1) cc2)
    rw [hl] at h1 ⊢
    exact h1
  · rw [hl]
    exact ho2
end
/-- heap.Put of an object whose parts are known. -/
theorem put_full (A : Option Addr) (c : Nat) (h : List Nat) (o : Ob) (PA : Option Addr) (n pc base : Nat) (w : World) (hh : HpIn w A c h) (hm : h.length ≤ 4000) (hp : OwnAt w base 90 1 PA n pc (flat huC o.parts)) (hn : o.parts.length = n) (hok : OkO o) (hf : 4000 < h.length + (wordsF o).length) :
    Calls Try.prog 93 #[.slice A h.length c, .agg #[.int .i64 o.at_, .int .i64 o.kind, .int .i64 o.num, .string ⟨o.text.toArray⟩, .slice PA n pc]] w fun e w' => e = .returned (.tuple #[.slice none 0 0, .int .i64 0, .int .i64 6]) ∧ Below w.heap.size w w' := by
  subst hn
  refine (Put_any A c h ⟨o, PA, pc⟩ w hh (by omega) hp.row (fun e => ?_)).mono ?_
  · rcases hp.form with ⟨_, _, h3⟩ | ⟨g, q, h3⟩
    · exact h3
    · rw [show PA = none from e] at h3; cases h3
  · rintro e w' ⟨hb, A', n', c', k, er, rfl, h1 | h1 | h1⟩
    · exact absurd hok h1.1
    · obtain ⟨_, _, rfl, rfl, rfl, rfl, rfl⟩ := h1
      exact ⟨rfl, hb⟩
    · exact absurd hf h1.2.1
theorem put_room (A : Option Addr) (c : Nat) (h : List Nat) (o : Ob) (PA : Option Addr) (n pc base : Nat) (w : World) (hh : HpIn w A c h) (hm : h.length ≤ 4000) (hp : OwnAt w base 90 1 PA n pc (flat huC o.parts)) (hn : o.parts.length = n) (hok : OkO o) (hf : ¬ 4000 < h.length + (wordsF o).length) :
    Calls Try.prog 93 #[.slice A h.length c, .agg #[.int .i64 o.at_, .int .i64 o.kind, .int .i64 o.num, .string ⟨o.text.toArray⟩, .slice PA n pc]] w fun e w' => ∃ A' c', e = .returned (.tuple #[.slice A' (h ++ wordsF o).length c', .int .i64 h.length, .int .i64 0]) ∧ OwnAt w' w.heap.size 90 1 A' (h ++ wordsF o).length c' (flat huC (h ++ wordsF o)) ∧ Below w.heap.size w w' := by
  subst hn
  refine (Put_any A c h ⟨o, PA, pc⟩ w hh (by omega) hp.row (fun e => ?_)).mono ?_
  · rcases hp.form with ⟨_, _, h3⟩ | ⟨g, q, h3⟩
    · exact h3
    · rw [show PA = none from e] at h3; cases h3
  · rintro e w' ⟨hb, A', n', c', k, er, rfl, h1 | h1 | h1⟩
    · exact absurd hok h1.1
    · exact absurd h1.2.1 hf
    · obtain ⟨_, _, rfl, rfl, rfl, h6⟩ := h1
      obtain ⟨A2, c2, e2, h7⟩ := OwnAt.of_own h6
      injection e2 with e3 e4 e5
      subst e3 e5
      refine ⟨A', c', by rw [List.length_append], h7, hb⟩

theorem tagWord_four (n : Nat) (h : n ≤ 4000) : tagWord 4 (n : Int) = ((8 * n + 4 : Nat) : Int) := by
  unfold tagWord
  simp only [IntKind.wrap_u64]
  omega
theorem int_partsY : ∃ i, Try.prog.info? 3 = some i ∧ i.zero = some (.int .i64 0) ∧ i.size = 1 ∧ i.bytes = 8 := by
  have h : (Try.prog.info? 3).map (fun i => (i.zero, i.size, i.bytes)) = some (some (.int .i64 0), 1, 8) := by kernel_rfl
  cases hi : Try.prog.info? 3 with
  | none => rw [hi] at h; cases h
  | some i =>
    rw [hi] at h
    simp only [Option.map_some, Option.some.injEq, Prod.mk.injEq] at h
    exact ⟨i, rfl, h.1, h.2.1, h.2.2⟩
theorem int_oneY (n : Int) : ∀ u ∈ [Value.int .i64 n], u.oneCell' = true := by
  intro u hu
  simp only [List.mem_cons, List.not_mem_nil, or_false] at hu
  subst hu
  rfl
theorem noted_only {w w9 : World} {Ac : Option Addr} {g9 o9 : Nat} {ob : Obj} (k2 : (w.alloc ob).grownBy w9 (Ac.map (·.block))) (k3 : Ac.map (·.block) = some g9 ∨ g9 = (w.alloc ob).heap.size) :
    Only (fun b => blkO Ac b) w w9 ∧ ∀ b, blkO (some (⟨g9, o9, none⟩ : Addr)) b → blkO Ac b ∨ w.heap.size ≤ b := by
  constructor
  · refine ((Only.refl (fun b => blkO Ac b) w).alloc ob).trans ⟨k2.os, k2.tape, k2.output, k2.size, fun i hi hne => k2.block i hi (fun e => hne e.symm)⟩
  · intro b hb
    have hb2 : g9 = b := blkO_some hb
    subst hb2
    rcases k3 with e | e
    · exact .inl e
    · right
      rw [e]
      simp
theorem Only.later {S T : Nat → Prop} {w w7 w9 : World} (h : Only S w w7) (k : Only T w7 w9) (hT : ∀ b, T b → S b ∨ w.heap.size ≤ b) : Only S w w9 :=
  ⟨k.os.trans h.os, k.tape.trans h.tape, k.output.trans h.output, Nat.le_trans h.size k.size, fun i hi hne => (k.block i (Nat.lt_of_lt_of_le hi h.size) (fun e => by
    rcases hT i e with e | e
    · exact hne e
    · omega)).trans (h.block i hi hne)⟩
end Go.Proofs.Ytdjahlkjfpbifaa
