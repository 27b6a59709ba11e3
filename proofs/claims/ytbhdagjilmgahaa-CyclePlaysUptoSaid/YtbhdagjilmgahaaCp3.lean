
/-
  CyclePlays: what lies in memory in a round.
-/
import Derived.Test.YtbhdagjilmgahaaKn11
import Derived.Test.YtbhdagjilmgahaaCp2
namespace Go.Proofs.Ytbhdagjilmgahaa
open Go.RowKit

/-- Blocks of plays: such as nothing in the loop turns. -/
def PlB (NF gn gm gt : Nat) (D0 Ac : Option Addr) (b : Nat) : Prop := b < NF ∧ ¬ Sp gn gm gt D0 b ∧ Ac.map (·.block) ≠ some b
structure CpSt (W0 W w : World) (N gn gr gm gt : Nat) (K : List KnC) (RA : Int → Option Addr × Nat) (NF : Nat) (D0 Ac : Option Addr) (cc : Nat) (Ap : Option Addr) (l : List SlZ) (P : List (List Int)) (K' : List KnC) (M told due out : List Int) (D : Option Addr) (cd : Nat) (Ao : Option Addr) (co : Nat) (came : Int) : Prop where
  bl : Below W0.heap.size W0 w
  nd : NdSt W w N gn gr gm gt K RA M told due M.length D cd came
  cl : OwnAt w W0.heap.size 28 4 Ac K'.length cc (flat knC K')
  ou : OwnAt w W0.heap.size 3 1 Ao out.length co (ints out)
  dD : ∀ b, D.map (·.block) = some b → D0.map (·.block) = some b ∨ NF ≤ b
  dC : ∀ b, Ac.map (·.block) = some b → N ≤ b ∧ b < NF
  dO : ∀ b, Ao.map (·.block) = some b → NF ≤ b
  dDO : ∀ b, Ao.map (·.block) = some b → D.map (·.block) ≠ some b
  pr : RowZ w (PlB NF gn gm gt D0 Ac) Ap (flat slZ l)
  ps : RowsZ w (PlB NF gn gm gt D0 Ac) l P
  nf : N ≤ NF ∧ NF ≤ w.heap.size
  lo : W0.heap.size ≤ W.heap.size
theorem know_ne : 3 ≠ 28 := by decide
section
variable {W0 W w w' : World} {N gn gr gm gt : Nat} {K : List KnC} {RA : Int → Option Addr × Nat} {NF : Nat} {D0 Ac : Option Addr} {cc : Nat} {Ap : Option Addr} {l : List SlZ} {P : List (List Int)} {K' : List KnC} {M told due out : List Int} {D : Option Addr} {cd : Nat} {Ao : Option Addr} {co : Nat} {came : Int}
theorem CpSt.below (h : CpSt W0 W w N gn gr gm gt K RA NF D0 Ac cc Ap l P K' M told due out D cd Ao co came) (hb : Below w.heap.size w w') : CpSt W0 W w' N gn gr gm gt K RA NF D0 Ac cc Ap l P K' M told due out D cd Ao co came := by
  have hT : ∀ b, PlB NF gn gm gt D0 Ac b → b < w.heap.size ∧ ¬ (fun _ : Nat => False) b := fun b hb => ⟨by have := hb.1; have := h.nf; omega, fun e => e⟩
  have ho : Only (fun _ : Nat => False) w w' := Only.of_below hb
  exact ⟨h.bl.trans (hb.mono h.bl.size), h.nd.below hb, h.cl.below hb, h.ou.below hb, h.dD, h.dC, h.dO, h.dDO, h.pr.off ho hT (fun _ h => h), h.ps.off ho hT (fun _ h => h), ⟨h.nf.1, Nat.le_trans h.nf.2 hb.size⟩, h.lo⟩
/-- Behind one of the node's calls. -/
theorem CpSt.node (h : CpSt W0 W w N gn gr gm gt K RA NF D0 Ac cc Ap l P K' M told due out D cd Ao co came) {M' told' due' : List Int} {D' : Option Addr} {cd' : Nat} {came' : Int} (hn : NdSt W w' N gn gr gm gt K RA M' told' due' M'.length D' cd' came') (ho : Only (Sp gn gm gt D) w w')
    (hD : ∀ b, D'.map (·.block) = some b → D.map (·.block) = some b ∨ w.heap.size ≤ b) : CpSt W0 W w' N gn gr gm gt K RA NF D0 Ac cc Ap l P K' M' told' due' out D' cd' Ao co came' := by
  have hlo := h.nd.lo
  have hhi := h.nd.hi
  have hl := h.lo
  have hnf := h.nf
  have hT : ∀ b, PlB NF gn gm gt D0 Ac b → b < w.heap.size ∧ ¬ Sp gn gm gt D b := fun b hb => ⟨by have := hb.1; omega, fun e => by
    rcases e with e | e | e | e
    · exact hb.2.1 (.inl e)
    · exact hb.2.1 (.inr (.inl e))
    · exact hb.2.1 (.inr (.inr (.inl e)))
    · rcases h.dD b e with e2 | e2
      · exact hb.2.1 (.inr (.inr (.inr e2)))
      · have := hb.1; omega⟩
  refine ⟨ho.to_below h.bl h.bl.size (fun b hb => ?_), hn, h.cl.only ho (fun b hb e => ?_), h.ou.only ho (fun b hb e => ?_), fun b hb => ?_, h.dC, h.dO, fun b hb e => ?_, h.pr.off ho hT (fun _ h => h), h.ps.off ho hT (fun _ h => h), ⟨hnf.1, Nat.le_trans hnf.2 ho.size⟩, hl⟩
  · rcases hb with e | e | e | e
    · omega
    · omega
    · omega
    · have := own_lo' h.nd.du b e; omega
  · have := (h.dC b hb).1
    rcases e with e | e | e | e
    · omega
    · omega
    · omega
    · exact ty_ne h.nd.du h.cl know_ne b e hb
  · have := h.dO b hb
    rcases e with e | e | e | e
    · omega
    · omega
    · omega
    · exact h.dDO b hb e
  · rcases hD b hb with e | e
    · exact h.dD b e
    · exact .inr (by omega)
  · rcases hD b e with e2 | e2
    · exact h.dDO b hb e2
    · have := (own_blkK h.ou hb).2
      omega
/-- The law's list of those told grown. -/
theorem CpSt.grow (h : CpSt W0 W w N gn gr gm gt K RA NF D0 Ac cc Ap l P K' M told due out D cd Ao co came) {out' : List Int} {A' : Option Addr} {co' : Nat} (hg : w.grownBy w' (Ao.map (·.block))) (hown : OwnAt w' W0.heap.size 3 1 A' out'.length co' (ints out'))
    (hA : ∀ b, A'.map (·.block) = some b → Ao.map (·.block) = some b ∨ w.heap.size ≤ b) : CpSt W0 W w' N gn gr gm gt K RA NF D0 Ac cc Ap l P K' M told due out' D cd A' co' came := by
  have ho := only_grownK hg
  have hnf := h.nf
  have hT : ∀ b, PlB NF gn gm gt D0 Ac b → b < w.heap.size ∧ ¬ (Ao.map (·.block) = some b) := fun b hb => ⟨by have := hb.1; omega, fun e => by have := h.dO b e; have := hb.1; omega⟩
  refine ⟨ho.to_below h.bl h.bl.size (fun b hb => own_lo' h.ou b hb), h.nd.off ho (fun b hb => ⟨by have := h.dO b hb; omega, h.dDO b hb⟩), h.cl.only ho (fun b hb e => ty_ne h.ou h.cl know_ne b e hb), hown, h.dD, h.dC, fun b hb => ?_, fun b hb e => ?_, h.pr.off ho hT (fun _ h => h), h.ps.off ho hT (fun _ h => h), ⟨hnf.1, Nat.le_trans hnf.2 ho.size⟩, h.lo⟩
  · rcases hA b hb with e | e
    · exact h.dO b e
    · omega
  · rcases hA b hb with e2 | e2
    · exact h.dDO b e2 e
    · have := (own_blkK h.nd.du e).2
      omega
/-- An actor held from now on, in the law's list. -/
theorem CpSt.root (h : CpSt W0 W w N gn gr gm gt K RA NF D0 Ac cc Ap l P K' M told due out D cd Ao co came) {i g o : Nat} (hi : i < K'.length) (hAc : Ac = some ⟨g, o, none⟩) :
    CpSt W0 W (w.setCell ⟨g, o + (i * 4 + 2), none⟩ (.bool true)) N gn gr gm gt K RA NF D0 Ac cc Ap l P (rootK K' i) M told due out D cd Ao co came := by
  subst hAc
  have hgN := h.dC g rfl
  have hnf := h.nf
  have ho : Only (fun b => b = g) w (w.setCell ⟨g, o + (i * 4 + 2), none⟩ (.bool true)) := Only.set (S := fun b => b = g) (Only.refl _ w) (p := ⟨g, o + (i * 4 + 2), none⟩) rfl _
  have hT : ∀ b, PlB NF gn gm gt D0 (some ⟨g, o, none⟩) b → b < w.heap.size ∧ ¬ (b = g) := fun b hb => ⟨by have := hb.1; omega, fun e => hb.2.2 (by rw [e]; rfl)⟩
  have hcl : OwnAt (w.setCell ⟨g, o + (i * 4 + 2), none⟩ (.bool true)) W0.heap.size 28 4 (some ⟨g, o, none⟩) (rootK K' i).length cc (flat knC (rootK K' i)) := by
    have h1 := h.cl.set (j := i * 4 + 2) (.bool true)
    have e : flat knC (rootK K' i) = (flat knC K').set (i * 4 + 2) (.bool true) := by
      have hx : K'[i]? = some (K'.getD i knc0) := getD_some knc0 hi
      have := flat_set knC_len K' (i := i) (j := 2) (.bool true) hx (by decide) { K'.getD i knc0 with root := true } rfl
      exact this.symm
    rw [e, show (rootK K' i).length = K'.length by simp [rootK]]
    exact h1
  have hlt := h.cl.lt
  refine ⟨ho.to_below h.bl h.bl.size (fun b hb => by subst hb; exact hlt.1), h.nd.off ho (fun b hb => ⟨by subst hb; exact hgN.1, fun e => ?_⟩), hcl, h.ou.only ho (fun b hb e => ?_), h.dD, h.dC, h.dO, h.dDO, h.pr.off ho hT (fun _ h => h), h.ps.off ho hT (fun _ h => h), ⟨hnf.1, Nat.le_trans hnf.2 ho.size⟩, h.lo⟩
  · subst hb
    exact ty_ne h.nd.du h.cl know_ne _ e rfl
  · subst e
    exact ty_ne h.ou h.cl know_ne _ hb rfl
/-- What the law's list reads as. -/
theorem CpSt.kn (h : CpSt W0 W w N gn gr gm gt K RA NF D0 Ac cc Ap l P K' M told due out D cd Ao co came) {A0 : Option Addr} (hk : KnIn W0 W0.heap.size A0 K) (hs : SmK K K') : KnIn w w.heap.size Ac K' := by
  have hk2 := hk.below h.bl
  have hb : ∀ x ∈ K', ∃ y ∈ K, bareK x = bareK y := fun x hx => by
    have h1 : bareK x ∈ K.map bareK := by rw [← hs]; exact List.mem_map_of_mem hx
    obtain ⟨y, hy, e⟩ := List.mem_map.1 h1
    exact ⟨y, hy, e.symm⟩
  refine ⟨h.cl.row, fun x hx => ?_, fun x hx => ?_, ?_⟩
  · obtain ⟨y, hy, e⟩ := hb x hx
    obtain ⟨h1, h2⟩ := hk2.refs y hy
    have e1 : x.A = y.A := by have e9 := congrArg KnC.A e; exact e9
    have e2 : x.refs = y.refs := by have e9 := congrArg KnC.refs e; exact e9
    have e3 : x.cap = y.cap := by have e9 := congrArg KnC.cap e; exact e9
    rw [e1, e2, e3]
    exact ⟨h1.more h.bl.size, h2⟩
  · obtain ⟨y, hy, e⟩ := hb x hx
    have e1 : x.ref = y.ref := by have e9 := congrArg KnC.ref e; exact e9
    have e2 : x.refs = y.refs := by have e9 := congrArg KnC.refs e; exact e9
    rw [e1, e2]
    exact hk.k64 y hy
  · have e : allR K' = allR K := by
      have h1 : ∀ L : List KnC, allR L = (L.map bareK).flatMap (·.refs) := fun L => by
        unfold allR
        rw [List.flatMap_map]
        rfl
      rw [h1, h1, hs]
    rw [e]
    exact hk.all
end

/-! ### two rows of the call's own -/
structure TwI (w : World) (base : Nat) (A1 : Option Addr) (c1 : Nat) (l1 : List Int) (A2 : Option Addr) (c2 : Nat) (l2 : List Int) : Prop where
  a : OwnAt w base 3 1 A1 l1.length c1 (ints l1)
  b : OwnAt w base 3 1 A2 l2.length c2 (ints l2)
  ap : ∀ b, A1.map (·.block) = some b → A2.map (·.block) ≠ some b
section
variable {w w' : World} {base : Nat} {A1 A2 : Option Addr} {c1 c2 : Nat} {l1 l2 : List Int}
theorem TwI.nil : TwI w base none 0 [] none 0 [] := ⟨OwnAt.nil, OwnAt.nil, fun b hb => by cases hb⟩
theorem TwI.below (h : TwI w base A1 c1 l1 A2 c2 l2) (hb : Below w.heap.size w w') : TwI w' base A1 c1 l1 A2 c2 l2 := ⟨h.a.below hb, h.b.below hb, h.ap⟩
theorem TwI.g1 (h : TwI w base A1 c1 l1 A2 c2 l2) {A' : Option Addr} {c' : Nat} {l' : List Int} (hg : w.grownBy w' (A1.map (·.block))) (hown : OwnAt w' base 3 1 A' l'.length c' (ints l')) (hA : ∀ b, A'.map (·.block) = some b → A1.map (·.block) = some b ∨ w.heap.size ≤ b) : TwI w' base A' c' l' A2 c2 l2 :=
  ⟨hown, h.b.only (only_grownK hg) (fun b hb e => h.ap b e hb), fun b hb e => by
    rcases hA b hb with e2 | e2
    · exact h.ap b e2 e
    · have := (own_blkK h.b e).2; omega⟩
theorem TwI.g2 (h : TwI w base A1 c1 l1 A2 c2 l2) {A' : Option Addr} {c' : Nat} {l' : List Int} (hg : w.grownBy w' (A2.map (·.block))) (hown : OwnAt w' base 3 1 A' l'.length c' (ints l')) (hA : ∀ b, A'.map (·.block) = some b → A2.map (·.block) = some b ∨ w.heap.size ≤ b) : TwI w' base A1 c1 l1 A' c' l' :=
  ⟨h.a.only (only_grownK hg) (fun b hb e => h.ap b hb e), hown, fun b hb e => by
    rcases hA b e with e2 | e2
    · exact h.ap b hb e2
    · have := (own_blkK h.a hb).2; omega⟩
theorem TwI.s1 (h : TwI w base A1 c1 l1 A2 c2 l2) {l' : List Int} (ho : Only (fun b => A1.map (·.block) = some b) w w') (hown : OwnAt w' base 3 1 A1 l'.length c1 (ints l')) : TwI w' base A1 c1 l' A2 c2 l2 :=
  ⟨hown, h.b.only ho (fun b hb e => h.ap b e hb), h.ap⟩
/-- What is behind base stays so. -/
theorem grown_below {wS : World} {A : Option Addr} {xs : List Value} {n c : Nat} {e : TypeId} (hb : Below base wS w) (hbase : base ≤ w.heap.size) (hg : w.grownBy w' (A.map (·.block))) (hown : OwnAt w base e 1 A n c xs) : Below base wS w' :=
  hb.grown hg hbase fun k hk => own_lo' hown k hk
end
/-! ### plays -/
theorem open_plays {w : World} {B : Nat} {A : Option Addr} {P : List (List Int)} (h : IntRows w B A P) : ∃ l : List SlZ, l.length = P.length ∧ Row w B A (flat slZ l) ∧ RowsZ w (fun b => b < B) l P ∧ ∀ p ∈ P, p.length ≤ maxLen ∧ ∀ x ∈ p, I64 x := by
  obtain ⟨l, hl, hp⟩ := choose_list (fun k (x : SlZ) => ∃ b o, A = some ⟨b, o, none⟩ ∧ b < B ∧ w.cell? ⟨b, o + k, none⟩ = some (.slice x.A x.len x.cap) ∧ x.len = (P.getD k []).length ∧ Row w B x.A (ints (P.getD k [])) ∧ (P.getD k []).length ≤ maxLen ∧ ∀ y ∈ P.getD k [], I64 y) P.length (fun k hk => by
    obtain ⟨b, o, e, hb, hh⟩ := h (by omega)
    obtain ⟨a', c, h1, h2, h3, h4⟩ := hh k hk
    exact ⟨⟨a', _, c⟩, b, o, e, hb, h1, rfl, h2, h3, h4⟩)
  have hx : ∀ i, i < l.length → l[i]? = some (l.getD i slz0) := fun i hi => getD_some slz0 hi
  refine ⟨l, hl, fun hpos => ?_, ⟨hl, fun i hi => ?_⟩, fun p hpm => ?_⟩
  · rw [flat_len slZ_len, Nat.mul_one] at hpos
    obtain ⟨b, o, e, hb, _⟩ := hp 0 _ (hx 0 hpos)
    refine ⟨b, o, e, hb, fun i v hv => ?_⟩
    have hi : i < l.length := by
      have := (List.getElem?_eq_some_iff.1 hv).1
      rwa [flat_len slZ_len, Nat.mul_one] at this
    obtain ⟨b2, o2, e2, _, hc, _⟩ := hp i _ (hx i hi)
    rw [e] at e2
    injection e2 with e2
    injection e2 with e2 e3
    subst e2 e3
    rw [hc, ← hv]
    have := flat_get (enc := slZ) slZ_len (hx i hi) (j := 0) (show (slZ (l.getD i slz0))[0]? = some _ from rfl)
    rw [Nat.mul_one, Nat.add_zero] at this
    exact this.symm
  · obtain ⟨b, o, e, hb, hc, h2, h3, _⟩ := hp i _ (hx i hi)
    exact ⟨h2, h3⟩
  · obtain ⟨i, hi⟩ := List.mem_iff_getElem?.1 hpm
    have hil := (List.getElem?_eq_some_iff.1 hi).1
    obtain ⟨_, _, _, _, _, _, _, h4, h5⟩ := hp i _ (hx i (by omega))
    have e : P.getD i [] = p := by rw [List.getD_eq_getElem?_getD, hi]; rfl
    rw [e] at h4 h5
    exact ⟨h4, h5⟩
end Go.Proofs.Ytbhdagjilmgahaa
