
/-
  Three rows of dues of the call's own, told apart; what the law's loop counts.
-/
import Derived.Test.YtdjahlkjfpbifaaTm7
namespace Go.Proofs.Ytdjahlkjfpbifaa
open Go.RowKit

def Apart (A B : Option Addr) : Prop := ∀ g, A.map (·.block) = some g → B.map (·.block) ≠ some g
theorem Apart.symm {A B : Option Addr} (h : Apart A B) : Apart B A := fun g h1 h2 => h g h2 h1
structure R3 (w : World) (B : Nat) (A1 : Option Addr) (c1 : Nat) (X1 : List Du) (A2 : Option Addr) (c2 : Nat) (X2 : List Du) (A3 : Option Addr) (c3 : Nat) (X3 : List Du) : Prop where
  o1 : OwnAt w B 139 2 A1 X1.length c1 (flat duC X1)
  o2 : OwnAt w B 139 2 A2 X2.length c2 (flat duC X2)
  o3 : OwnAt w B 139 2 A3 X3.length c3 (flat duC X3)
  d12 : Apart A1 A2
  d13 : Apart A1 A3
  d23 : Apart A2 A3
section
variable {w w' : World} {B : Nat} {A1 A2 A3 : Option Addr} {c1 c2 c3 : Nat} {X1 X2 X3 : List Du}
theorem R3.swap (h : R3 w B A1 c1 X1 A2 c2 X2 A3 c3 X3) : R3 w B A2 c2 X2 A1 c1 X1 A3 c3 X3 := ⟨h.o2, h.o1, h.o3, h.d12.symm, h.d23, h.d13⟩
theorem R3.swap3 (h : R3 w B A1 c1 X1 A2 c2 X2 A3 c3 X3) : R3 w B A3 c3 X3 A2 c2 X2 A1 c1 X1 := ⟨h.o3, h.o2, h.o1, h.d23.symm, h.d13.symm, h.d12.symm⟩
theorem R3.below (h : R3 w B A1 c1 X1 A2 c2 X2 A3 c3 X3) (hb : Below w.heap.size w w') : R3 w' B A1 c1 X1 A2 c2 X2 A3 c3 X3 := ⟨h.o1.below hb, h.o2.below hb, h.o3.below hb, h.d12, h.d13, h.d23⟩
theorem own_block_lt {e : TypeId} {n c : Nat} {A : Option Addr} {xs : List Value} (h : OwnAt w B e 2 A n c xs) {g : Nat} (hg : A.map (·.block) = some g) : B ≤ g ∧ g < w.heap.size := by
  rcases h.form with ⟨rfl, _⟩ | ⟨g', o, rfl⟩
  · cases hg
  · have := h.lt
    simp at hg
    omega
theorem R3.push (h : R3 w B A1 c1 X1 A2 c2 X2 A3 c3 X3) {y : Du} {g' o' c' : Nat} (ho : OwnAt w' B 139 2 (some ⟨g', o', none⟩) (X1.length + 1) c' (flat duC (X1 ++ [y]))) (hon : Only (fun b => A1.map (·.block) = some b) w w') (hg : A1.map (·.block) = some g' ∨ g' = w.heap.size) :
    R3 w' B (some ⟨g', o', none⟩) c' (X1 ++ [y]) A2 c2 X2 A3 c3 X3 := by
  have hap : ∀ A, Apart A1 A → (∀ g, A.map (·.block) = some g → g < w.heap.size) → Apart (some ⟨g', o', none⟩) A := fun A hA hlt g h1 h2 => by
    have h1' : g' = g := by simpa using h1
    subst h1'
    rcases hg with hg | hg
    · exact hA _ hg h2
    · have := hlt _ h2; omega
  exact ⟨by rw [List.length_append]; exact ho, h.o2.only hon (fun b hb hb' => h.d12 b hb' hb), h.o3.only hon (fun b hb hb' => h.d13 b hb' hb), hap _ h.d12 (fun g hg => (own_block_lt h.o2 hg).2), hap _ h.d13 (fun g hg => (own_block_lt h.o3 hg).2), h.d23⟩
theorem R3.later (h : R3 w B A1 c1 X1 A2 c2 X2 A3 c3 X3) {v : World} (hb : Below B v w) (hB : v.heap.size = B) (hon : Only (fun b => A1.map (·.block) = some b) w w') : Below B v w' :=
  hon.to_below hb (by rw [← hB]; exact hb.size) (fun _ hi => (own_block_lt h.o1 hi).1)
end

/-- When one's is due, as the law finds it: the last one's of the dues up to a place. -/
def atF (id : Int) (a : Int) (d : Du) : Int := if isId id d then d.t else a
def atW (l : List Du) (id : Int) : Int := l.foldl (atF id) 0
theorem foldl_at (id : Int) : ∀ (l : List Du) (a : Int), l.Pairwise (fun a b => a.id ≠ b.id) → l.foldl (atF id) a = match l.find? (isId id) with | some x => x.t | none => a
  | [], a, _ => rfl
  | x :: r, a, h => by
    obtain ⟨h1, h2⟩ := List.pairwise_cons.1 h
    rw [List.foldl_cons, foldl_at id r _ h2, List.find?_cons]
    by_cases hx : isId id x = true
    · have : r.find? (isId id) = none := by
        rw [List.find?_eq_none]
        intro y hy
        have := h1 y hy
        unfold isId at hx ⊢
        simp at hx ⊢
        omega
      rw [this, hx]
      unfold atF
      rw [if_pos hx]
    · have hx' : isId id x = false := by simpa using hx
      rw [hx']
      unfold atF
      rw [if_neg hx]
theorem atW_eq {now : Int} {l : List Du} (h : TmOk now l) (id : Int) : atW l id = atD l id := by
  unfold atW atD
  rw [foldl_at id l 0 h.ids]
  cases l.find? (isId id) <;> rfl
theorem take_next (l : List Du) {k : Nat} (hk : k < l.length) : l.take (k + 1) = l.take k ++ [l.getD k du0] := by
  rw [List.take_add_one, List.getElem?_eq_getElem hk]; simp [List.getD, List.getElem?_eq_getElem hk]
theorem atW_next (l : List Du) (id : Int) {k : Nat} (hk : k < l.length) : atW (l.take (k + 1)) id = if isId id (l.getD k du0) then (l.getD k du0).t else atW (l.take k) id := by
  rw [take_next l hk]; unfold atW; rw [List.foldl_append]; rfl
theorem restD_next (l : List Du) (id : Int) {k : Nat} (hk : k < l.length) : restD (l.take (k + 1)) id = if isId id (l.getD k du0) then restD (l.take k) id else restD (l.take k) id ++ [l.getD k du0] := by
  rw [take_next l hk]; unfold restD; rw [List.filter_append]
  generalize l.getD k du0 = y
  by_cases h : isId id y = true
  · rw [if_pos h]; simp [h]
  · rw [if_neg h]; simp [h]
/-- Is a due due, as the law asks? -/
def cnd (now ticks : Int) (d : Du) : Bool := (decide (0 ≤ ticks) && decide (ticks ≤ 1099511627776)) && decide (d.t ≤ now + ticks)
def dueD (now ticks : Int) (l : List Du) : List Du := l.filter (cnd now ticks)
def latD (now ticks : Int) (l : List Du) : List Du := l.filter (fun d => !cnd now ticks d)
theorem dueD_next (now ticks : Int) (l : List Du) {k : Nat} (hk : k < l.length) : dueD now ticks (l.take (k + 1)) = if cnd now ticks (l.getD k du0) then dueD now ticks (l.take k) ++ [l.getD k du0] else dueD now ticks (l.take k) := by
  rw [take_next l hk]; unfold dueD; rw [List.filter_append]
  generalize l.getD k du0 = y
  by_cases h : cnd now ticks y = true
  · rw [if_pos h]; simp [h]
  · rw [if_neg h]; simp [h]
theorem latD_next (now ticks : Int) (l : List Du) {k : Nat} (hk : k < l.length) : latD now ticks (l.take (k + 1)) = if cnd now ticks (l.getD k du0) then latD now ticks (l.take k) else latD now ticks (l.take k) ++ [l.getD k du0] := by
  rw [take_next l hk]; unfold latD; rw [List.filter_append]
  generalize l.getD k du0 = y
  by_cases h : cnd now ticks y = true
  · rw [if_pos h]; simp [h]
  · rw [if_neg h]; simp [h]
theorem due_eq {now ticks : Int} (h : 0 ≤ ticks ∧ ticks ≤ 1099511627776) (l : List Du) : dueD now ticks l = l.filter (upTo (now + ticks)) ∧ latD now ticks l = l.filter (fun x => !upTo (now + ticks) x) := by
  have : cnd now ticks = upTo (now + ticks) := by
    funext d
    unfold cnd upTo
    rw [decide_eq_true h.1, decide_eq_true h.2]
    rfl
  unfold dueD latD
  rw [this]
  exact ⟨rfl, rfl⟩
end Go.Proofs.Ytdjahlkjfpbifaa
