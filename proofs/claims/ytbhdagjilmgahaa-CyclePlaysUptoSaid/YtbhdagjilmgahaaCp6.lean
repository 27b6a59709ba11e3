
/-
  CyclePlays: all that holds between two messages; the node's calls in it.
-/
import Derived.Test.YtbhdagjilmgahaaCp5
namespace Go.Proofs.Ytbhdagjilmgahaa
open Go.RowKit

structure CpA (W0 W w : World) (N gn gr gm gt : Nat) (K : List KnC) (RA : Int → Option Addr × Nat) (NF : Nat) (D0 Ac : Option Addr) (cc : Nat) (Ap : Option Addr) (l : List SlZ) (P : List (List Int)) (K' : List KnC) (M told due out : List Int) (D : Option Addr) (cd : Nat) (Ao : Option Addr) (co : Nat) (came : Int) : Prop where
  st : CpSt W0 W w N gn gr gm gt K RA NF D0 Ac cc Ap l P K' M told due out D cd Ao co came
  sm : SmK K K'
  rch : ∀ y, y ∈ M ↔ Rch K' y
  tol : TolK K M told
  due : DueK told due out
  md : M.Nodup
  mo : ∀ y ∈ M, ownF K y = true
def CpR (W0 W w : World) (N gn gr gm gt : Nat) (K : List KnC) (RA : Int → Option Addr × Nat) (NF : Nat) (D0 Ac : Option Addr) (cc : Nat) (Ap : Option Addr) (l : List SlZ) (P : List (List Int)) (out : List Int) (Ao : Option Addr) (co : Nat) (came : Int) : Prop :=
  ∃ K' M told due D cd, CpA W0 W w N gn gr gm gt K RA NF D0 Ac cc Ap l P K' M told due out D cd Ao co came
section
variable {W0 W w w' : World} {N gn gr gm gt : Nat} {K : List KnC} {RA : Int → Option Addr × Nat} {NF : Nat} {D0 Ac : Option Addr} {cc : Nat} {Ap : Option Addr} {l : List SlZ} {P : List (List Int)} {K' : List KnC} {M told due out : List Int} {D : Option Addr} {cd : Nat} {Ao : Option Addr} {co : Nat} {came : Int}
theorem CpA.below (h : CpA W0 W w N gn gr gm gt K RA NF D0 Ac cc Ap l P K' M told due out D cd Ao co came) (hb : Below w.heap.size w w') : CpA W0 W w' N gn gr gm gt K RA NF D0 Ac cc Ap l P K' M told due out D cd Ao co came :=
  ⟨h.st.below hb, h.sm, h.rch, h.tol, h.due, h.md, h.mo⟩
theorem CpA.all (h : CpA W0 W w N gn gr gm gt K RA NF D0 Ac cc Ap l P K' M told due out D cd Ao co came) : CpR W0 W w N gn gr gm gt K RA NF D0 Ac cc Ap l P out Ao co came := ⟨_, _, _, _, _, _, h⟩
/-- What the node turns lies ahead. -/
theorem CpA.ltB (h : CpA W0 W w N gn gr gm gt K RA NF D0 Ac cc Ap l P K' M told due out D cd Ao co came) : ∀ b, Sp gn gm gt D b → b < w.heap.size := fun b hb => by
  have h1 := h.st.nd.hi
  have h2 := h.st.nd.nw
  rcases hb with e | e | e | e
  · omega
  · omega
  · omega
  · exact (own_blkK h.st.nd.du e).2
theorem CpSt.play (h : CpSt W0 W w N gn gr gm gt K RA NF D0 Ac cc Ap l P K' M told due out D cd Ao co came) {k : Nat} (hk : k < P.length) : ∃ g o, Ap = some ⟨g, o, none⟩ ∧ g < w.heap.size ∧ w.cell? ⟨g, o + k, none⟩ = some (.slice (l.getD k slz0).A (P.getD k []).length (l.getD k slz0).cap) ∧ Row w w.heap.size (l.getD k slz0).A (ints (P.getD k [])) := by
  have hkl : k < l.length := by rw [h.ps.1]; exact hk
  obtain ⟨g, o, e, hb, hc⟩ := h.pr (by rw [flat_len slZ_len]; omega)
  have hnf := h.nf
  refine ⟨g, o, e, by have := hb.1; omega, ?_, fun hp => ?_⟩
  · have h1 := flat_get (enc := slZ) slZ_len (getD_some slz0 hkl) (j := 0) (show (slZ (l.getD k slz0))[0]? = some _ from rfl)
    rw [Nat.mul_one, Nat.add_zero] at h1
    rw [hc k _ h1, (h.ps.2 k hkl).1]
  · obtain ⟨g', o', e', hb', hc'⟩ := (h.ps.2 k hkl).2 hp
    exact ⟨g', o', e', by have := hb'.1; omega, hc'⟩
theorem CpA.come_yes (h : CpA W0 W w N gn gr gm gt K RA NF D0 Ac cc Ap l P K' M told due out D cd Ao co came) (hK : (allR K).length ≤ 1048576) (h64 : K64 K) (hKl : K.length ≤ 480) {i g o : Nat} (hi : i < K'.length) (hAc : Ac = some ⟨g, o, none⟩) (hc0 : 0 ≤ came) (hc1 : came ≤ 4398046511104) {r : Int} (hr : rfK K' i = r) {B : Nat} (hB : ∀ b, Sp gn gm gt D b → b < B)
    (hb : Below (w.setCell ⟨g, o + (i * 4 + 2), none⟩ (.bool true)).heap.size (w.setCell ⟨g, o + (i * 4 + 2), none⟩ (.bool true)) w') :
    Calls Try.prog 19 #[.pointer (some ⟨gn, 0, none⟩), .int .i64 r] w' fun e w2 => e = .returned (.int .i64 0) ∧ CpR W0 W w2 N gn gr gm gt K RA NF D0 Ac cc Ap l P out Ao co (came + 1) ∧ Only (fun b => b < B) w' w2 := by
  have h1 := (h.st.root hi hAc).below hb
  have hik : i < K.length := by rw [← h.sm.len]; exact hi
  have hrk : rfK K i = r := by rw [← h.sm.rf]; exact hr
  have hown : ownF K r = true := by rw [← hrk]; exact own_at hik
  refine (come_any h1.nd hown h64 hK hKl h.md h.mo h.tol h.due hc0 hc1).mono ?_
  rintro e w2 ⟨M', told', due', D', cd', rfl, hn, ht, hd, hm, ho, hcase, honly, hD⟩
  refine ⟨rfl, ⟨rootK K' i, M', told', due', D', cd', h1.node hn honly hD, root_sm h.sm i, fun y => ?_, ht, hd, hm, ho⟩, honly.more hB⟩
  rcases hcase with ⟨hrm, rfl⟩ | ⟨hrm, m, hm0, rfl⟩
  · exact come_old h.sm h.rch hik (by rw [hrk]; exact hrm) y
  · have := come_new h.sm h.rch hik (m := m) (by rw [hrk]; exact hm0) y
    rw [hrk] at this
    exact this
theorem CpA.come_no (h : CpA W0 W w N gn gr gm gt K RA NF D0 Ac cc Ap l P K' M told due out D cd Ao co came) {r : Int} (hr : I64 r) (hno : ownF K' r = false) :
    Calls Try.prog 19 #[.pointer (some ⟨gn, 0, none⟩), .int .i64 r] w fun e w' => e = .returned (.int .i64 4) ∧ w' = w :=
  Go.Proofs.Ytbhdagjilmgahaa.come_no h.st.nd hr (by rw [← h.sm.own]; exact hno)
theorem CpA.outs (h : CpA W0 W w N gn gr gm gt K RA NF D0 Ac cc Ap l P K' M told due out D cd Ao co came) (hK : (allR K).length ≤ 1048576) {A' : Option Addr} {co' : Nat} (hg : CpSt W0 W w' N gn gr gm gt K RA NF D0 Ac cc Ap l P K' M told due (out ++ srtI due) D cd A' co' came) :
    Calls Try.prog 14 #[.pointer (some ⟨gn, 0, none⟩)] w' fun e w2 => e = .returned (.slice D due.length cd) ∧ Row w2 w2.heap.size D (ints (srtI due)) ∧ CpA W0 W w2 N gn gr gm gt K RA NF D0 Ac cc Ap l P K' M told [] (out ++ srtI due) none 0 A' co' came ∧ Only (fun b => b < w.heap.size) w' w2 := by
  refine (out_any hg.nd hK).mono ?_
  rintro e w2 ⟨rfl, ho, hn, honly⟩
  have hlt : ∀ b, (b = gn ∨ D.map (·.block) = some b) → b < w.heap.size := fun b hb => by
    rcases hb with e | e
    · have := h.st.nd.hi; have := h.st.nd.nw; omega
    · exact (own_blkK h.st.nd.du e).2
  exact ⟨rfl, ho.row, ⟨hg.node hn (honly.more fun b hb => hb.elim (fun e => .inl e) (fun e => .inr (.inr (.inr e)))) (fun b e => by cases e), h.sm, h.rch, h.tol, law_out h.due, h.md, h.mo⟩, honly.more hlt⟩
theorem CpA.hn (h : CpA W0 W w N gn gr gm gt K RA NF D0 Ac cc Ap l P K' M told due out D cd Ao co came) (hn : (K.map (·.ref)).Nodup) : (K'.map (·.ref)).Nodup := by rw [h.sm.refs]; exact hn
theorem CpA.count (h : CpA W0 W w N gn gr gm gt K RA NF D0 Ac cc Ap l P K' M told due out D cd Ao co came) (hn : (K.map (·.ref)).Nodup) : told.length = (dueX K' (aliveF K') K'.length).length :=
  (law_count (h.hn hn) h.sm h.rch h.tol h.st.nd.tn.1).symm
theorem CpA.more (h : CpA W0 W w N gn gr gm gt K RA NF D0 Ac cc Ap l P K' M told due out D cd Ao co came) (hn : (K.map (·.ref)).Nodup) : srtI (moreX out (dueX K' (aliveF K') K'.length)) = srtI due :=
  law_more (h.hn hn) h.sm h.rch h.tol h.due
theorem CpA.lefts (h : CpA W0 W w N gn gr gm gt K RA NF D0 Ac cc Ap l P K' M told due out D cd Ao co came) (hn : (K.map (·.ref)).Nodup) (hkl : K.length ≤ 480) :
    Calls Try.prog 24 #[.pointer (some ⟨gn, 0, none⟩)] w fun e w' => ∃ A c, e = .returned (.slice A (srtI (leftX K' (aliveF K') K'.length)).length c) ∧ Row w' w'.heap.size A (ints (srtI (leftX K' (aliveF K') K'.length))) ∧ Below w.heap.size w w' := by
  refine (left_any h.st.nd hn hkl).mono ?_
  rintro e w' ⟨A, c, rfl, ho, hb⟩
  have e1 : srtI (leftX K' (aliveF K') K'.length) = srtI (leftF K M) := law_left (h.hn hn) h.sm h.rch
  rw [e1]
  exact ⟨A, c, rfl, ho.row, hb⟩
/-- The law's list of those told lies ahead. -/
theorem CpA.told_lt (h : CpA W0 W w N gn gr gm gt K RA NF D0 Ac cc Ap l P K' M told due out D cd Ao co came) : (∀ b, Ao.map (·.block) = some b → b < w.heap.size) ∧ out.length ≤ told.length ∧ told.length ≤ (allR K).length := by
  refine ⟨fun b hb => (own_blkK h.st.ou hb).2, nodup_len _ _ h.due.2.2.2 h.due.2.2.1, nodup_len _ _ h.st.nd.tn.1 h.st.nd.tn.2⟩
end

theorem TwI.off {w w' : World} {base : Nat} {A1 A2 : Option Addr} {c1 c2 : Nat} {l1 l2 : List Int} {S : Nat → Prop} (h : TwI w base A1 c1 l1 A2 c2 l2) (ho : Only S w w') (hS : ∀ b, S b → b < base) : TwI w' base A1 c1 l1 A2 c2 l2 :=
  ⟨h.a.only ho (fun b hb e => by have := hS b e; have := own_lo' h.a b hb; omega), h.b.only ho (fun b hb e => by have := hS b e; have := own_lo' h.b b hb; omega), h.ap⟩
/-! ### the law's list of those due -/
theorem foldX_take {K : List KnC} {rs D : List Int} {m : Nat} (hm : m < rs.length) : (rs.take (m + 1)).foldl (putX K) D = putX K ((rs.take m).foldl (putX K) D) (rs.getD m 0) := by
  rw [List.take_add_one, List.getElem?_eq_getElem hm, List.foldl_append, List.getD_eq_getElem?_getD, List.getElem?_eq_getElem hm]
  rfl
theorem allR_at {K : List KnC} {n : Nat} (hn : n < K.length) {y : Int} (h : y ∈ rsK K n) : y ∈ allR K := List.mem_flatMap.2 ⟨_, getD_mem knc0 hn, h⟩
theorem dueX_sub (K : List KnC) (al : List Int) {n : Nat} (hn : n ≤ K.length) : ∀ y ∈ dueX K al n, y ∈ allR K := fun y hy => by
  obtain ⟨_, i, h1, _, h2⟩ := (dueX_mem K al y n).1 hy
  exact allR_at (by omega) h2
theorem dueX_bound (K : List KnC) (al : List Int) {n : Nat} (hn : n < K.length) (m : Nat) : (((rsK K n).take m).foldl (putX K) (dueX K al n)).length ≤ (allR K).length := by
  refine nodup_len _ _ (foldX_nodup K _ _ (dueX_nodup K al n)) fun y hy => ?_
  rcases (foldX_mem K _ _ y).1 hy with h | ⟨h, _⟩
  · exact dueX_sub K al (by omega) y h
  · exact allR_at hn (List.mem_of_mem_take h)
theorem dueX_len (K : List KnC) (al : List Int) : (dueX K al K.length).length ≤ (allR K).length := nodup_len _ _ (dueX_nodup K al _) (dueX_sub K al (Nat.le_refl _))
theorem rowX_neg {K : List KnC} {al D : List Int} {n : Nat} (h : al.getD n 0 < 0) : rowX K al D n = D := by unfold rowX; rw [if_pos h]
theorem rowX_pos {K : List KnC} {al D : List Int} {n : Nat} (h : ¬ al.getD n 0 < 0) : rowX K al D n = (rsK K n).foldl (putX K) D := by unfold rowX; rw [if_neg h]
theorem moreX_take {out L : List Int} {m : Nat} (hm : m < L.length) : moreX out (L.take (m + 1)) = if out.contains (L.getD m 0) = true then moreX out (L.take m) else moreX out (L.take m) ++ [L.getD m 0] := by
  have e : L.getD m 0 = L[m] := by rw [List.getD_eq_getElem?_getD, List.getElem?_eq_getElem hm]; rfl
  unfold moreX
  rw [List.take_add_one, List.getElem?_eq_getElem hm, List.filter_append, e]
  by_cases h : out.contains L[m] = true
  · rw [if_pos h]
    have : L[m] ∈ out := by simpa using h
    simp [this]
  · rw [if_neg h]
    have : L[m] ∉ out := by simpa using h
    simp [this]
theorem moreX_len (out L : List Int) : (moreX out L).length ≤ L.length := List.length_filter_le _ _
theorem putX_in {K : List KnC} {D : List Int} {r : Int} (h : D.contains r = true) : putX K D r = D := by
  unfold putX
  rw [if_neg (fun h2 => by rw [h2.1] at h; cases h)]
theorem putX_own {K : List KnC} {D : List Int} {r : Int} (h : ownF K r = true) : putX K D r = D := by
  unfold putX
  rw [if_neg (fun h2 => by rw [h2.2] at h; cases h)]
theorem putX_put {K : List KnC} {D : List Int} {r : Int} (h : D.contains r = false) (h2 : ownF K r = false) : putX K D r = D ++ [r] := by
  unfold putX
  rw [if_pos ⟨h, h2⟩]
end Go.Proofs.Ytbhdagjilmgahaa
