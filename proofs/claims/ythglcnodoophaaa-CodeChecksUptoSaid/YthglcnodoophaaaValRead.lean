
/-
  Values of the language as they lie in memory: what one reads as, in any set of blocks, and how an argument opens.
-/
import Derived.Test.YthglcnodoophaaaLetRow
namespace Go.Proofs.Ythglcnodoophaaa
open Go.ChangeShapes Go.WideShapes Go.RowKit Go.Deep

/-- A slice that starts at A reads as vs; its block lies in S. -/
def RowS (w : World) (S : Nat → Prop) (A : Option Addr) (vs : List Value) : Prop :=
  0 < vs.length → ∃ b o, A = some ⟨b, o, none⟩ ∧ S b ∧ ∀ i v, vs[i]? = some v → w.cell? ⟨b, o + i, none⟩ = some v
theorem RowS.nil {w : World} {S : Nat → Prop} {A : Option Addr} : RowS w S A [] := fun h => absurd h (by simp)
theorem RowS.keep {w w' : World} {S S' : Nat → Prop} {A : Option Addr} {vs : List Value} (h : RowS w S A vs) (hk : ∀ p : Addr, S p.block → w'.cell? p = w.cell? p) (hS : ∀ b, S b → S' b) : RowS w' S' A vs := fun hp => by
  obtain ⟨b, o, e, hb, hc⟩ := h hp
  exact ⟨b, o, e, hS b hb, fun i v hv => (hk _ hb).trans (hc i v hv)⟩
theorem RowS.row {w : World} {B : Nat} {A : Option Addr} {vs : List Value} (h : RowS w (· < B) A vs) : Row w B A vs := h
theorem RowS.all {w : World} {S : Nat → Prop} {A : Option Addr} {vs : List Value} (h : RowS w S A vs) : Row w w.heap.size A vs := fun hp => by
  obtain ⟨b, o, e, _, hc⟩ := h hp
  exact ⟨b, o, e, lt_of_cell (hc 0 _ (List.getElem?_eq_getElem hp)), hc⟩

theorem RowS.lt {w : World} {S : Nat → Prop} {A : Option Addr} {vs : List Value} (h : RowS w S A vs) : RowS w (fun b => S b ∧ b < w.heap.size) A vs := fun hp => by
  obtain ⟨b, o, e, hb, hc⟩ := h hp
  exact ⟨b, o, e, ⟨hb, lt_of_cell (hc 0 _ (List.getElem?_eq_getElem hp))⟩, hc⟩
/-- In S, and not the block that a slice lies in. -/
def Off (S : Nat → Prop) (A : Option Addr) (b : Nat) : Prop := S b ∧ A.map (·.block) ≠ some b

/-- The four cells x read as the value v, whose parts lie in blocks of S; it is less than n deep. -/
def VIn (w : World) (S : Nat → Prop) : Nat → VC → Val → Prop
  | 0, _, _ => False
  | n + 1, x, v => (x.kind = v.kind ∧ x.num = v.num ∧ x.text = v.text ∧ x.len = v.args.length ∧ x.text.size ≤ maxLen ∧ I64 x.kind ∧ I64 x.num) ∧ (x.len ≤ x.cap ∧ x.cap ≤ maxLen ∧ (x.A = none → x.cap = 0) ∧ x.len * 56 ≤ reachBytes) ∧
    ∃ l : List VC, l.length = x.len ∧ RowS w S x.A (flat valC l) ∧ ∀ i, i < l.length → VIn w S n (l.getD i vc0) (v.args.getD i val0)

theorem VIn.keep {w w' : World} {S S' : Nat → Prop} (hk : ∀ p : Addr, S p.block → w'.cell? p = w.cell? p) (hS : ∀ b, S b → S' b) : ∀ {n : Nat} {x : VC} {v : Val}, VIn w S n x v → VIn w' S' n x v
  | 0, _, _, h => h.elim
  | n + 1, x, v, h => by
    obtain ⟨h1, h2, l, h3, h4, h5⟩ := h
    exact ⟨h1, h2, l, h3, h4.keep hk hS, fun i hi => VIn.keep hk hS (h5 i hi)⟩
theorem VIn.below {w w' : World} {B : Nat} {S : Nat → Prop} (hb : Below B w w') (hS : ∀ b, S b → b < B) {n : Nat} {x : VC} {v : Val} (h : VIn w S n x v) : VIn w' S n x v :=
  h.keep (fun _ hp => hb.cell (hS _ hp)) fun _ h => h
theorem VIn.more {w : World} {S : Nat → Prop} : ∀ {n m : Nat} {x : VC} {v : Val}, n ≤ m → VIn w S n x v → VIn w S m x v
  | 0, _, _, _, _, h => h.elim
  | n + 1, 0, _, _, hm, _ => by omega
  | n + 1, m + 1, x, v, hm, h => by
    obtain ⟨h1, h2, l, h3, h4, h5⟩ := h
    exact ⟨h1, h2, l, h3, h4, fun i hi => VIn.more (by omega) (h5 i hi)⟩
/-- Its blocks, whatever set names them, are blocks that are there. -/
theorem VIn.lt {w : World} {S : Nat → Prop} : ∀ {n : Nat} {x : VC} {v : Val}, VIn w S n x v → VIn w (fun b => S b ∧ b < w.heap.size) n x v
  | 0, _, _, h => h.elim
  | n + 1, x, v, h => by
    obtain ⟨h1, h2, l, h3, h4, h5⟩ := h
    refine ⟨h1, h2, l, h3, fun hp => ?_, fun i hi => VIn.lt (h5 i hi)⟩
    obtain ⟨b, o, e, hb, hc⟩ := h4 hp
    exact ⟨b, o, e, ⟨hb, lt_of_cell (hc 0 _ (List.getElem?_eq_getElem hp))⟩, hc⟩
theorem VIn.all {w : World} {S : Nat → Prop} {n : Nat} {x : VC} {v : Val} (h : VIn w S n x v) : VIn w (· < w.heap.size) n x v :=
  h.lt.keep (fun _ _ => rfl) fun _ h => h.2

section
variable {H : Type} {enc : TypeId × Value → H} {P : Program} {W : World}

def Sized (P : Program) (t : TypeId) (d : DataW H) : Prop := ∀ n ∈ d.weights P t, n ≤ reachBytes
theorem sized_each {ts : List TypeId} {ds : List (DataW H)} (h : (DataW.weightsEach P ts ds).all (· ≤ reachBytes) = true) {j : Nat} {t : TypeId} {d : DataW H} (ht : ts[j]? = some t) (hd : ds[j]? = some d) : Sized P t d := fun n hn => by
  simpa using List.all_eq_true.1 h n (DataW.weights_mem_each ht hd n hn)
theorem weightsAll_mem {e : TypeId} : ∀ {ds : List (DataW H)} {d : DataW H}, d ∈ ds → ∀ n ∈ d.weights P e, n ∈ DataW.weightsAll P e ds
  | d0 :: ds, d, hd, n, hn => by
    simp only [DataW.weightsAll, List.mem_append]
    rcases List.mem_cons.1 hd with rfl | hd
    · exact .inl hn
    · exact .inr (weightsAll_mem hd n hn)
theorem Sized.field {t : TypeId} {fs : Array Field} {parts : List (DataW H)} (he : P.underlying t = some (.struct fs)) (h : Sized P t (.agg parts)) {j : Nat} {f : Field} {d : DataW H} (hj : fs[j]? = some f) (hd : parts[j]? = some d) : Sized P f.type d := fun n hn => by
  refine h n ?_
  simp only [DataW.weights, he]
  exact DataW.weights_mem_each (by simp [hj]) hd n hn

/-- A slice of elements, each of which opens with less fuel. -/
theorem open_rowDeep {α : Type} (ec : α → List Value) (G : α → Prop) {size : Nat} {t e : TypeId} (ht : P.underlying t = some (.slice e)) (hC : P.cellsOf e = size) (hs : ∀ x, (ec x).length = size) (hz : 0 < size)
    {fuel : Nat} {cs : List Value} {x : DataW H × List MemPlace}
    (hopen : ∀ n, n < fuel → ∀ cs y, DataW.trod enc P W 0 (fun _ => true) true n e cs = some y → Sized P e y.1 → ∃ x : α, cs = ec x ∧ G x)
    (h : DataW.trod enc P W 0 (fun _ => true) true fuel t cs = some x) (hx : Sized P t x.1) :
    ∃ (A : Option Addr) (c : Nat) (l : List α), cs = [.slice A l.length c] ∧ RowS W (· < W.heap.size) A (flat ec l) ∧ l.length ≤ c ∧ c ≤ maxLen ∧ (A = none → c = 0) ∧ (∀ x ∈ l, G x) ∧ c * P.bytesOf e ≤ reachBytes := by
  subst hC
  rcases DataW.trod_slice ht h with ⟨rfl, rfl⟩ | ⟨a, len, cap, elems, rest, n, rfl, rfl, rfl, _, hl, hm, hel, hi, hsp, _⟩
  · exact ⟨none, 0, [], rfl, RowS.nil, by simp, by simp, fun _ => rfl, by simp, by simp⟩
  · obtain ⟨l, hll, hp⟩ := choose_list (fun i (x : α) => W.cells? 0 (a.add (i * P.cellsOf e)) (P.cellsOf e) = some (ec x) ∧ G x) len fun i hlt => by
      have h1 := hi i hlt
      rw [List.getElem?_eq_getElem (by omega)] at h1
      obtain ⟨cs', h2, h3⟩ := Option.bind_eq_some_iff.1 h1
      obtain ⟨x, rfl, hg⟩ := hopen n (by omega) _ _ h3 (fun m hm' => hx m (by
        simp only [DataW.weights, ht, List.mem_cons, List.mem_append]
        exact .inr (.inl (weightsAll_mem (List.mem_map.2 ⟨_, List.getElem_mem _, rfl⟩) m hm'))))
      exact ⟨x, h2, hg⟩
    have hrl := (hsp rfl).1
    refine ⟨some a, cap, l, by rw [hll], fun hpos => ?_, by omega, hm, (fun e => by cases e), fun x hx => ?_, ?_⟩
    · rw [flat_len hs] at hpos
      have hl0 : 0 < l.length := Nat.pos_of_ne_zero (fun h0 => by rw [h0] at hpos; simp at hpos)
      obtain ⟨b, o, spot⟩ := a
      obtain ⟨hc0, _⟩ := hp 0 (l[0]) (List.getElem?_eq_getElem hl0)
      have hcell := (World.cells?_some hc0).2.2 0 hz
      rw [List.getElem?_eq_getElem (by rw [hs]; exact hz)] at hcell
      have hspot : spot = none := by simpa [Addr.add] using World.cell?_spot hcell
      subst hspot
      refine ⟨b, o, rfl, by simpa [Addr.add] using lt_of_cell hcell, fun k v hv => ?_⟩
      have hk : k < (flat ec l).length := (List.getElem?_eq_some_iff.1 hv).1
      rw [flat_len hs] at hk
      have hdm := Nat.div_add_mod k (P.cellsOf e)
      have hmod := Nat.mod_lt k hz
      have hdiv : k / P.cellsOf e < l.length := Nat.div_lt_of_lt_mul (by rw [Nat.mul_comm]; exact hk)
      obtain ⟨hck, _⟩ := hp (k / P.cellsOf e) _ (List.getElem?_eq_getElem hdiv)
      have hcell := (World.cells?_some hck).2.2 (k % P.cellsOf e) hmod
      rw [addr_add, addr_add, Nat.add_assoc, Nat.mul_comm (k / P.cellsOf e), hdm] at hcell
      rw [hcell, ← hv]
      have hg := flat_get (enc := ec) hs (List.getElem?_eq_getElem hdiv) (List.getElem?_eq_getElem (show k % P.cellsOf e < (ec (l[k / P.cellsOf e])).length by rw [hs]; exact hmod))
      rw [Nat.mul_comm (k / P.cellsOf e), hdm] at hg
      rw [hg]
      exact List.getElem?_eq_getElem _
    · obtain ⟨i, hi'⟩ := List.mem_iff_getElem?.1 hx
      exact (hp i x hi').2
    · have := hx ((elems.map (·.1)).length + (rest.map (·.1)).length |>.mul (P.bytesOf e)) (by simp only [DataW.weights, ht]; exact List.mem_cons_self ..)
      simp only [List.length_map, hel, hrl] at this
      rw [show len + (cap - len) = cap by omega] at this
      exact this
end

section
variable {H : Type} {enc : TypeId × Value → H} {W : World}
end
end Go.Proofs.Ythglcnodoophaaa
