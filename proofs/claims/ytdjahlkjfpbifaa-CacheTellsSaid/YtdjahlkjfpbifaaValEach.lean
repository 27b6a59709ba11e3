
/-
  copies.Each over VC: the copies read as what was copied, in memory of their own.
-/
import Derived.Test.YtdjahlkjfpbifaaValRead
import Derived.Deep.LoopGhost
import Derived.Deep.DeepCutAuto
import Derived.Deep.CutBlock
import Derived.Deep.RegionLaw
namespace Go.Proofs.Ytdjahlkjfpbifaa
open Go.RowKit

/-- A slice whose elements read as vs. -/
def valRow (w : World) (S : Nat → Prop) (n : Nat) (A : Option Addr) (c : Nat) (l : List VC) (vs : List Val) : Prop :=
  l.length = vs.length ∧ RowS w S A (flat valC l) ∧ (∀ i, i < l.length → VIn w S n (l.getD i vc0) (vs.getD i val0)) ∧ l.length ≤ c ∧ c ≤ maxLen ∧ (A = none → c = 0) ∧ l.length * 56 ≤ reachBytes
theorem valRow.keep {w w' : World} {S S' : Nat → Prop} {n : Nat} {A : Option Addr} {c : Nat} {l : List VC} {vs : List Val} (hk : ∀ p : Addr, S p.block → w'.cell? p = w.cell? p) (hS : ∀ b, S b → S' b) (h : valRow w S n A c l vs) : valRow w' S' n A c l vs :=
  ⟨h.1, h.2.1.keep hk hS, fun i hi => (h.2.2.1 i hi).keep hk hS, h.2.2.2⟩
theorem valRow.below {w w' : World} {B : Nat} {S : Nat → Prop} {n : Nat} {A : Option Addr} {c : Nat} {l : List VC} {vs : List Val} (hb : Below B w w') (hS : ∀ b, S b → b < B) (h : valRow w S n A c l vs) : valRow w' S n A c l vs :=
  h.keep (fun _ hp => hb.cell (hS _ hp)) fun _ h => h
theorem valRow.lt {w : World} {S : Nat → Prop} {n : Nat} {A : Option Addr} {c : Nat} {l : List VC} {vs : List Val} (h : valRow w S n A c l vs) : valRow w (fun b => S b ∧ b < w.heap.size) n A c l vs :=
  ⟨h.1, h.2.1.lt, fun i hi => (h.2.2.1 i hi).lt, h.2.2.2⟩
theorem valRow.all {w : World} {S : Nat → Prop} {n : Nat} {A : Option Addr} {c : Nat} {l : List VC} {vs : List Val} (h : valRow w S n A c l vs) : valRow w (· < w.heap.size) n A c l vs :=
  h.lt.keep (fun _ _ => rfl) fun _ h => h.2

/-- A row in the making: its block is the call's own, its elements' parts lie in S, off that block. -/
def valMk (w : World) (base : Nat) (S : Nat → Prop) (n : Nat) (A : Option Addr) (c : Nat) (l : List VC) (vs : List Val) : Prop :=
  l.length = vs.length ∧ OwnAt w base 28 4 A l.length c (flat valC l) ∧ ∀ i, i < l.length → VIn w (Off S A) n (l.getD i vc0) (vs.getD i val0)
theorem valMk.nil {w : World} {base : Nat} {S : Nat → Prop} {n : Nat} : valMk w base S n none 0 [] [] := ⟨rfl, OwnAt.nil, fun i hi => absurd hi (by simp)⟩
theorem valMk.below {w w' : World} {base : Nat} {S : Nat → Prop} {n : Nat} {A : Option Addr} {c : Nat} {l : List VC} {vs : List Val} (h : valMk w base S n A c l vs) (hb : Below w.heap.size w w') : valMk w' base S n A c l vs :=
  ⟨h.1, h.2.1.below hb, fun i hi => (h.2.2 i hi).lt.keep (fun _ hp => hb.cell hp.2) fun _ hp => hp.1⟩
theorem valMk.row {w : World} {base : Nat} {S : Nat → Prop} {n : Nat} {A : Option Addr} {c : Nat} {l : List VC} {vs : List Val} (h : valMk w base S n A c l vs) (hm : l.length * 56 ≤ reachBytes) : valRow w (fun b => S b ∨ base ≤ b) n A c l vs := by
  refine ⟨h.1, ?_, fun i hi => (h.2.2 i hi).keep (fun _ _ => rfl) fun _ hp => .inl hp.1, ?_⟩
  · intro hp
    obtain ⟨b, o, e, _, hc⟩ := h.2.1.row hp
    subst e
    exact ⟨b, o, rfl, .inr h.2.1.lt.1, hc⟩
  · rcases h.2.1.2 with ⟨h1, h2, h3⟩ | ⟨g, o, cur, h1, h2, h3, h4, h5, _⟩
    · exact ⟨by omega, by omega, fun _ => h3, hm⟩
    · exact ⟨h4, h5, (fun e => by rw [h1] at e; cases e), hm⟩

theorem valMk.push {w w' : World} {base : Nat} {S : Nat → Prop} {n : Nat} {A : Option Addr} {c : Nat} {l : List VC} {vs : List Val} (hmk : valMk w base S n A c l vs) (hbase : base ≤ w.heap.size) {y : VC} {v : Val} (hv : VIn w (Off S A) n y v) {g' o' c' : Nat}
    (h1 : OwnAt w' base 28 4 (some ⟨g', o', none⟩) (l.length + 1) c' (flat valC l ++ valC y)) (h2 : w.grownBy w' (A.map (·.block))) (h3 : A.map (·.block) = some g' ∨ g' = w.heap.size) :
    valMk w' base S n (some ⟨g', o', none⟩) c' (l ++ [y]) (vs ++ [v]) ∧ Below base w w' := by
  have hcell : ∀ p : Addr, Off S A p.block ∧ p.block < w.heap.size → w'.cell? p = w.cell? p := fun p hp => by
    have := h2.block p.block hp.2 (fun e => hp.1.2 e.symm)
    simp only [World.cell?, this]
  have hoff : ∀ b, Off S A b ∧ b < w.heap.size → Off S (some ⟨g', o', none⟩) b := fun b hp => ⟨hp.1.1, fun e => by
    simp at e
    rcases h3 with h3 | h3
    · exact hp.1.2 (by rw [h3, e])
    · omega⟩
  refine ⟨⟨by simp [hmk.1], by rw [List.length_append, flat_append, flat_one]; exact h1, fun i hi => ?_⟩, ?_⟩
  · rw [List.length_append, List.length_singleton] at hi
    have hl := hmk.1
    rcases Nat.lt_or_ge i l.length with hlt | hge
    · have := hmk.2.2 i hlt
      simp only [List.getD_eq_getElem?_getD, List.getElem?_append_left hlt, List.getElem?_append_left (show i < vs.length by omega)] at this ⊢
      exact this.lt.keep hcell hoff
    · obtain rfl : i = l.length := by omega
      simp only [List.getD_eq_getElem?_getD, List.getElem?_append_right (Nat.le_refl _), List.getElem?_append_right (show vs.length ≤ l.length by omega), Nat.sub_self, show l.length - vs.length = 0 by omega, List.getElem?_cons_zero, Option.getD_some]
      exact hv.lt.keep hcell hoff
  · refine (Below.refl base w).grown h2 hbase fun k hk => ?_
    rcases hmk.2.1.form with ⟨rfl, _⟩ | ⟨g1, o1, rfl⟩
    · cases hk
    · simp at hk; subst hk; exact hmk.2.1.lt.1
theorem valMk.weak {w : World} {base base' : Nat} {S S' : Nat → Prop} {n : Nat} {A : Option Addr} {c : Nat} {l : List VC} {vs : List Val} (h : valMk w base S n A c l vs) (hb : base' ≤ base) (hS : ∀ b, S b → S' b) : valMk w base' S' n A c l vs :=
  ⟨h.1, h.2.1.lower hb, fun i hi => (h.2.2 i hi).keep (fun _ _ => rfl) fun b hp => ⟨hS b hp.1, hp.2⟩⟩

/-- One element appended to a row in the making. -/
theorem wpList_mk_val {ops : Array Oper} {rest : List Oper} {o : Oper} {a : Act} {w : World} {Q : Exit → Act → World → Prop} (hgd : o.guard = none) (s x : Operand)
    (ho : o.op = .call { callee := .builtin .append, args := #[s, x], argTypes := #[26, 26] })
    (base : Nat) (S : Nat → Prop) (n : Nat) (A : Option Addr) (c m : Nat) (l : List VC) (vs : List Val) (hm : l.length = m) (hs : a.eval s = .slice A m c) (hmk : valMk w base S n A c l vs) (g : Nat) (y : VC) (v : Val) (hx : a.eval x = .slice (some ⟨g, 0, none⟩) 1 1) (hy : ∀ j u, (valC y)[j]? = some u → w.cell? ⟨g, j, none⟩ = some u)
    (hv : VIn w (Off S A) n y v)
    (hb : (m + 1) * 56 ≤ 140737488355328) (hbase : base ≤ w.heap.size)
    (h : ∀ A' c' w', valMk w' base S n A' c' (l ++ [y]) (vs ++ [v]) → Below base w w' → wpList Try.prog ops Q rest (a.put o.dst (.slice A' (m + 1) c')) w') : wpList Try.prog ops Q (o :: rest) a w := by
  subst hm
  obtain ⟨i0, z0, hi0, hz0, hz1, hz2, hz3⟩ := val_parts
  refine wpList_append_q hgd s x _ ho base 28 i0 z0 4 56 Try.underlying26 hi0 hz0 hz1 hz2 hz3 (by decide) A l.length c (flat valC l) hs hmk.2.1 ⟨g, 0, none⟩ 1 1 (valC y) hx rfl ?_ (val_one y) (by unfold maxLen; omega) hb hbase (by decide) ?_
  · intro j u hu
    rw [addr_add, Nat.zero_add]
    exact hy j u hu
  · intro g' o' c' w' h1 h2 h3
    have := hmk.push hbase hv h1 h2 h3
    exact h _ c' w' this.1 this.2

/-- The same in a region that draws its order. -/
theorem step_mk_val {ops : Array Oper} {o : Oper} {a : Act} {w : World} {K : Act → World → Prop} {Q : Exit → Act → World → Prop} {E : Prop} (hgd : o.guard = none) (s x : Operand)
    (ho : o.op = .call { callee := .builtin .append, args := #[s, x], argTypes := #[26, 26] })
    (base : Nat) (S : Nat → Prop) (n : Nat) (A : Option Addr) (c m : Nat) (l : List VC) (vs : List Val) (hm : l.length = m) (hs : a.eval s = .slice A m c) (hmk : valMk w base S n A c l vs) (g : Nat) (y : VC) (v : Val) (hx : a.eval x = .slice (some ⟨g, 0, none⟩) 1 1) (hy : ∀ j u, (valC y)[j]? = some u → w.cell? ⟨g, j, none⟩ = some u)
    (hv : VIn w (Off S A) n y v)
    (hb : (m + 1) * 56 ≤ 140737488355328) (hbase : base ≤ w.heap.size)
    (h : ∀ A' c' w', valMk w' base S n A' c' (l ++ [y]) (vs ++ [v]) → Below base w w' → K (a.put o.dst (.slice A' (m + 1) c')) w') :
    if Region.wanted o (yielded ops a.tmps) = true then Oper.wp Try.prog o a w K Q else E := by
  subst hm
  obtain ⟨i0, z0, hi0, hz0, hz1, hz2, hz3⟩ := val_parts
  refine step_append_q hgd s x _ ho base 28 i0 z0 4 56 Try.underlying26 hi0 hz0 hz1 hz2 hz3 (by decide) A l.length c (flat valC l) hs hmk.2.1 ⟨g, 0, none⟩ 1 1 (valC y) hx rfl ?_ (val_one y) (by unfold maxLen; omega) hb hbase (by decide) ?_
  · intro j u hu
    rw [addr_add, Nat.zero_add]
    exact hy j u hu
  · intro g' o' c' w' h1 h2 h3
    have := hmk.push hbase hv h1 h2 h3
    exact h _ c' w' this.1 this.2

/-- What a copy of one element gives. -/
def Copiesval (n : Nat) : Prop := ∀ (x : VC) (v : Val) (w : World) (S : Nat → Prop), VIn w S n x v → Calls Try.prog 162 #[valV x] w fun e w' => ∃ y, e = .returned (valV y) ∧ VIn w' (w.heap.size ≤ ·) n y v ∧ Below w.heap.size w w'
def EachPostval (w : World) (n : Nat) (vs : List Val) (e : Ending) (w' : World) : Prop :=
  ∃ A' c' l', e = .returned (.slice A' l'.length c') ∧ valMk w' w.heap.size (w.heap.size ≤ ·) n A' c' l' vs ∧ l'.length * 56 ≤ reachBytes ∧ Below w.heap.size w w'
theorem enters_copyval : Enters 162 := fun _ _ => by kernel_rfl
theorem val_new (w : World) (y : VC) (j : Nat) (u : Value) (h : (valC y)[j]? = some u) :
    (w.alloc (.cells (valC y).toArray 28)).cell? ⟨w.heap.size, j, none⟩ = some u := by
  rw [(Box.new w 28 (valC y).toArray).cell j, ← h]
  simp

set_option maxRecDepth 100000 in
set_option maxHeartbeats 1000000 in
theorem each_val (n : Nat) (hc : Copiesval n) (A : Option Addr) (c : Nat) (l : List VC) (vs : List Val) (w : World) (S : Nat → Prop) (h : valRow w S n A c l vs) :
    Calls Try.prog 161 #[.slice A l.length c, .func (.func 162) #[] #[]] w (EachPostval w n vs) := by
  have he := enters_copyval
  unfold Enters at he
  have HC := Lib.hid hc
  have h := h.lt
  have HROW := Lib.hid h
  obtain ⟨hl, hr, hv, hlc, hcm, hA, hby⟩ := h
  have HL := Lib.hid hl
  unfold reachBytes at hby
  unfold maxLen at hcm
  clear hc hl hr hv
  go_enter Try.func161, Try.ntmps161
  go_wp2_with fail
  go_loopg [5, 10] l.length (fun gk ov i wr => ∃ (k : Nat) (out : List VC) (Ao : Option Addr) (co : Nat), gk = l.length - k ∧ k ≤ l.length ∧ i = .int .i64 k ∧ out.length = k ∧ ov = .slice Ao k co ∧ valMk wr w.heap.size (w.heap.size ≤ ·) n Ao co out (vs.take k) ∧ Below w.heap.size w wr)
  case atStart => exact ⟨0, [], none, 0, by omega, by omega, rfl, rfl, rfl, valMk.nil, Below.refl _ _⟩
  case round =>
    obtain ⟨k, out, Ao, co, hgk, hk, rfl, hout, rfl, hmk, hb⟩ := hrel
    have HG := Lib.hid hgk
    have HO := Lib.hid hout
    have HMK := Lib.hid hmk
    clear hgk hout hmk
    by_cases hlt : k < l.length
    · have hrw := HROW.out.below hb (fun b h => h.2)
      have HV := Lib.hid (hrw.2.2.1 k hlt)
      obtain ⟨b, o, rfl, _, hc0, hc1, hc2, hc3⟩ := hrw.2.1.all.val hlt vc0
      have HTK := Lib.hid (take_getD vs val0 (k := k) (by rw [← HL.out]; exact hlt))
      clear hrw
      generalize l.getD k vc0 = x at *
      generalize vs.getD k val0 = v at *
      have hbk : (k + 1) * 56 ≤ 140737488355328 := by omega
      go_wp2_with fail
      refine (HC.out x v _ _ (HV.out.keep (w' := wr.alloc (.cells (valC x).toArray 28)) (fun p hp => World.cell?_alloc_lt wr _ p (by have := hb.size; have := hp.2; omega)) fun _ h => h)).mono ?_
      rintro e w2 ⟨y, rfl, hy, hb2⟩
      unfold valV
      have hbw := hb.size
      have hb2' : Below wr.heap.size wr w2 := ((Below.refl wr.heap.size wr).alloc (Nat.le_refl _) _).trans (hb2.mono (by simp))
      have hs2 : wr.heap.size + 1 ≤ w2.heap.size := by have := hb2.size; simpa using this
      have HMK2 := Lib.hid ((HMK.out.below hb2').below ((Below.refl w2.heap.size w2).alloc (Nat.le_refl _) (.cells (valC y).toArray 28)))
      have HY := Lib.hid (show VIn (w2.alloc (.cells (valC y).toArray 28)) (Off (w.heap.size ≤ ·) Ao) n y v from hy.lt.keep (fun p hp => World.cell?_alloc_lt w2 _ p hp.2) fun b h => ⟨by have := h.1; simp at this; omega, fun e => by
        have h1 := h.1
        rcases HMK.out.2.1.form with ⟨rfl, _⟩ | ⟨g1, o1, rfl⟩
        · cases e
        · simp at e h1
          have := HMK.out.2.1.lt.2
          omega⟩)
      have HBN := Lib.hid (show Below w.heap.size w (w2.alloc (.cells (valC y).toArray 28)) from (hb.trans (hb2'.mono hb.size)).alloc (by omega) _)
      clear hy hb2 hb2' HMK
      go_wp2_with (at_builtin; refine wpList_mk_val rfl (.tmp 14) (.tmp 18) rfl w.heap.size (w.heap.size ≤ ·) n Ao co k out (vs.take k) HO.out rfl HMK2.out w2.heap.size y v rfl (val_new w2 y) HY.out hbk (by simp; omega) ?_; intro A' c' w5 hmk5 hb5)
      have HM5 := Lib.hid hmk5
      clear hmk5
      go_roundg (l.length - (k + 1))
      case measure => have := HG.out; omega
      case rel =>
        refine ⟨k + 1, out ++ [y], A', c', rfl, by omega, by go_num, by simp [HO.out], rfl, ?_, HBN.out.trans hb5⟩
        rw [HTK.out]
        exact HM5.out
    · obtain rfl : k = l.length := by omega
      go_wp2_with fail
      go_ret
      have hlen := HO.out
      have hmk := HMK.out
      refine ⟨Ao, co, out, by rw [hlen]; rfl, ?_, by unfold reachBytes; omega, hb⟩
      rw [HL.out, List.take_length] at hmk
      exact hmk
end Go.Proofs.Ytdjahlkjfpbifaa
