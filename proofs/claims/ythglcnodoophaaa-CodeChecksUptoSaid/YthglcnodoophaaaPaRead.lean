
/-
  Patterns as they lie in memory: what one reads as, in any set of blocks, and how an argument opens (with its size under the argument's bulk).
-/
import Derived.Test.YthglcnodoophaaaPaRow
import Derived.Test.YthglcnodoophaaaFrameU
import Derived.Test.YthglcnodoophaaaValRead
import Derived.Test.YthglcnodoophaaaVSize
namespace Go.Proofs.Ythglcnodoophaaa
open Go.ChangeShapes Go.WideShapes Go.RowKit Go.Deep

/-- The four cells x read as the pattern v, whose parts lie in blocks of S; it is less than n deep. -/
def PaIn (w : World) (S : Nat → Prop) : Nat → PaC → Pt → Prop
  | 0, _, _ => False
  | n + 1, x, v => (x.kind = v.kind ∧ x.len = v.args.length) ∧ (x.len ≤ x.cap ∧ x.cap ≤ maxLen ∧ (x.A = none → x.cap = 0) ∧ x.len * 56 ≤ reachBytes) ∧
    ∃ l : List PaC, l.length = x.len ∧ RowS w S x.A (flat paC l) ∧ ∀ i, i < l.length → PaIn w S n (l.getD i pac0) (v.args.getD i pt0)

theorem PaIn.keep {w w' : World} {S S' : Nat → Prop} (hk : ∀ p : Addr, S p.block → w'.cell? p = w.cell? p) (hS : ∀ b, S b → S' b) : ∀ {n : Nat} {x : PaC} {v : Pt}, PaIn w S n x v → PaIn w' S' n x v
  | 0, _, _, h => h.elim
  | n + 1, x, v, h => by
    obtain ⟨h1, h2, l, h3, h4, h5⟩ := h
    exact ⟨h1, h2, l, h3, h4.keep hk hS, fun i hi => PaIn.keep hk hS (h5 i hi)⟩
theorem PaIn.below {w w' : World} {B : Nat} {S : Nat → Prop} (hb : Below B w w') (hS : ∀ b, S b → b < B) {n : Nat} {x : PaC} {v : Pt} (h : PaIn w S n x v) : PaIn w' S n x v :=
  h.keep (fun _ hp => hb.cell (hS _ hp)) fun _ h => h
theorem PaIn.more {w : World} {S : Nat → Prop} : ∀ {n m : Nat} {x : PaC} {v : Pt}, n ≤ m → PaIn w S n x v → PaIn w S m x v
  | 0, _, _, _, _, h => h.elim
  | n + 1, 0, _, _, hm, _ => by omega
  | n + 1, m + 1, x, v, hm, h => by
    obtain ⟨h1, h2, l, h3, h4, h5⟩ := h
    exact ⟨h1, h2, l, h3, h4, fun i hi => PaIn.more (by omega) (h5 i hi)⟩

/-- A value's cells and reading as a pattern's (the two types lie alike). -/
def toPaC (x : VC) : PaC := ⟨x.kind, x.num, x.text, x.A, x.len, x.cap⟩
mutual
def toPt : Val → Pt
  | .mk k _ _ l => .mk k (toPts l)
def toPts : List Val → List Pt
  | [] => []
  | v :: r => toPt v :: toPts r
end
theorem toPts_map : ∀ l : List Val, toPts l = l.map toPt
  | [] => rfl
  | v :: r => by rw [toPts, toPts_map r]; rfl
theorem toPt_args (v : Val) : (toPt v).args = v.args.map toPt := by
  cases v
  rw [toPt, toPts_map]
  rfl
theorem toPt_kind (v : Val) : (toPt v).kind = v.kind := by cases v; rw [toPt]; rfl
theorem toPaC_flat (l : List VC) : flat paC (l.map toPaC) = flat valC l := by
  induction l with
  | nil => rfl
  | cons x r ih =>
    show paC (toPaC x) ++ flat paC (r.map toPaC) = valC x ++ flat valC r
    rw [ih]
    rfl
theorem PaIn.of_V {w : World} {S : Nat → Prop} : ∀ {n : Nat} {x : VC} {v : Val}, VIn w S n x v → PaIn w S n (toPaC x) (toPt v)
  | 0, _, _, h => h.elim
  | n + 1, x, v, h => by
    obtain ⟨⟨h1, _, _, h4, _⟩, h2, l, h5, h6, h7⟩ := h
    refine ⟨⟨by rw [toPt_kind]; exact h1, by rw [toPt_args, List.length_map]; exact h4⟩, h2, l.map toPaC, by rw [List.length_map]; exact h5, by rw [toPaC_flat]; exact h6, fun i hi => ?_⟩
    rw [List.length_map] at hi
    have hv : i < v.args.length := by rw [← h4, ← h5]; exact hi
    have e1 : (l.map toPaC).getD i pac0 = toPaC (l.getD i vc0) := by simp [List.getD_eq_getElem?_getD, List.getElem?_map, List.getElem?_eq_getElem hi]
    have e2 : (toPt v).args.getD i pt0 = toPt (v.args.getD i val0) := by rw [toPt_args]; simp [List.getD_eq_getElem?_getD, List.getElem?_map, List.getElem?_eq_getElem hv]
    rw [e1, e2]
    exact PaIn.of_V (h7 i hi)
mutual
theorem toPt_size : ∀ v : Val, (toPt v).size = v.size
  | .mk k n t l => by
    rw [toPt]
    simp only [Pt.size, Val.size, toPts_sizes l]
theorem toPts_sizes : ∀ l : List Val, Pt.sizes (toPts l) = Val.sizes l
  | [] => rfl
  | v :: r => by
    rw [toPts]
    simp only [Pt.sizes, Val.sizes, toPt_size v, toPts_sizes r]
end
end Go.Proofs.Ythglcnodoophaaa
