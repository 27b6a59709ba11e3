
/-
  A value built in a heap, a word read: the plain law (what the program and the reference both compute).
-/
import Derived.Test.YtdjahlkjfpbifaaBdPut
import Derived.Test.YtdjahlkjfpbifaaTermW
import Derived.Test.YtdjahlkjfpbifaaValSame
namespace Go.Proofs.Ytdjahlkjfpbifaa
open Go.RowKit

theorem wrap_u64_range (n : Int) : 0 ≤ IntKind.u64.wrap n ∧ IntKind.u64.wrap n < 18446744073709551616 := by
  rw [wrap_u64]
  omega
def tagW (t n : Int) : Nat := (tagWord t n).toNat
theorem tagW_int (t n : Int) : ((tagW t n : Nat) : Int) = tagWord t n := by
  have := (wrap_u64_range (IntKind.u64.wrap (8 * IntKind.u64.wrap n) + t)).1
  unfold tagW tagWord
  omega
/-- Which object a kind of value is. -/
def kindIx (k : Int) : Int := if k = 2 then 1 else if k = 4 then 2 else if k = 5 then 3 else if k = 7 then 4 else if k = 8 then 5 else 0
/-- One after the other: the heap goes on, the words are kept. -/
def foldW (f : List Nat → Val → Except Int (List Nat × Nat)) : List Nat → List Val → Except Int (List Nat × List Nat)
  | h, [] => .ok (h, [])
  | h, x :: r => match f h x with
    | .error e => .error e
    | .ok (h', u) => match foldW f h' r with
      | .error e => .error e
      | .ok (h'', us) => .ok (h'', u :: us)
def wordV (v : Val) : Bool := ofB v.kind v.num v.text v.args.length
def buildN : Nat → List Nat → Val → Except Int (List Nat × Nat)
  | 0, _, _ => .error 1
  | n + 1, h, v => if wordV v = true then .ok (h, tagW (tagOf v.kind) v.num)
    else if kindIx v.kind = 0 ∨ (v.num ≠ 0 ∧ isNum (kindIx v.kind) = false) then .error 1
    else match foldW (buildN n) h v.args with
      | .error e => .error e
      | .ok (h', us) => match putF h' ⟨0, kindIx v.kind, v.num, v.text.data.toList, us⟩ with
        | .error e => .error e
        | .ok (h'', p) => .ok (h'', tagW 4 p)

/-- How far one has come with the parts. -/
def FoldSt (f : List Nat → Val → Except Int (List Nat × Nat)) (h : List Nat) (vs : List Val) (j : Nat) (hj : List Nat) (us : List Nat) : Prop :=
  us.length = j ∧ j ≤ vs.length ∧ foldW f h vs = match foldW f hj (vs.drop j) with
    | .error e => .error e
    | .ok (h'', r) => .ok (h'', us ++ r)
theorem FoldSt.nil (f : List Nat → Val → Except Int (List Nat × Nat)) (h : List Nat) (vs : List Val) : FoldSt f h vs 0 h [] := by
  refine ⟨rfl, Nat.zero_le _, ?_⟩
  rw [List.drop_zero]
  cases foldW f h vs with
  | error e => rfl
  | ok r => rfl
theorem foldW_drop {f : List Nat → Val → Except Int (List Nat × Nat)} {h : List Nat} {vs : List Val} {j : Nat} (hj : j < vs.length) : foldW f h (vs.drop j) = match f h (vs.getD j val0) with
    | .error e => .error e
    | .ok (h', u) => match foldW f h' (vs.drop (j + 1)) with
      | .error e => .error e
      | .ok (h'', us) => .ok (h'', u :: us) := by
  rw [List.drop_eq_getElem_cons hj, List.getD_eq_getElem?_getD, List.getElem?_eq_getElem hj]
  rfl
theorem FoldSt.fail {f : List Nat → Val → Except Int (List Nat × Nat)} {h hj : List Nat} {vs : List Val} {j : Nat} {us : List Nat} {e : Int} (s : FoldSt f h vs j hj us) (hlt : j < vs.length) (he : f hj (vs.getD j val0) = .error e) : foldW f h vs = .error e := by
  rw [s.2.2, foldW_drop hlt, he]
theorem FoldSt.step {f : List Nat → Val → Except Int (List Nat × Nat)} {h hj h' : List Nat} {vs : List Val} {j u : Nat} {us : List Nat} (s : FoldSt f h vs j hj us) (hlt : j < vs.length) (he : f hj (vs.getD j val0) = .ok (h', u)) : FoldSt f h vs (j + 1) h' (us ++ [u]) := by
  refine ⟨by rw [List.length_append, s.1]; rfl, hlt, ?_⟩
  rw [s.2.2, foldW_drop hlt, he]
  dsimp only
  cases foldW f h' (vs.drop (j + 1)) with
  | error e => rfl
  | ok r => simp
theorem FoldSt.done {f : List Nat → Val → Except Int (List Nat × Nat)} {h hj : List Nat} {vs : List Val} {j : Nat} {us : List Nat} (s : FoldSt f h vs j hj us) (hj' : vs.length ≤ j) : foldW f h vs = .ok (hj, us) := by
  rw [s.2.2, List.drop_eq_nil_of_le hj']
  simp [foldW]
theorem putF_len {h h' : List Nat} {o : Ob} {p : Nat} (e : putF h o = .ok (h', p)) : p = h.length ∧ h'.length ≤ 4000 ∧ OkO o ∧ h' = h ++ wordsF o := by
  unfold putF at e
  split at e
  · split at e
    · cases e
    · injection e with e
      injection e with e1 e2
      subst e1 e2
      exact ⟨rfl, by rw [List.length_append]; omega, by assumption, rfl⟩
  · cases e
/-- A heap does not pass its bound. -/
theorem foldW_len {f : List Nat → Val → Except Int (List Nat × Nat)} (hf : ∀ h v h' u, h.length ≤ 4000 → f h v = .ok (h', u) → h'.length ≤ 4000) : ∀ (vs : List Val) (h h' : List Nat) (us : List Nat), h.length ≤ 4000 → foldW f h vs = .ok (h', us) → h'.length ≤ 4000
  | [], h, h', us, hl, e => by
    injection e with e
    injection e with e1 _
    subst e1
    exact hl
  | v :: r, h, h', us, hl, e => by
    unfold foldW at e
    cases h1 : f h v with
    | error e1 => rw [h1] at e; cases e
    | ok p =>
      obtain ⟨h2, u⟩ := p
      rw [h1] at e
      dsimp only at e
      cases h3 : foldW f h2 r with
      | error e1 => rw [h3] at e; cases e
      | ok q =>
        obtain ⟨h4, us'⟩ := q
        rw [h3] at e
        injection e with e
        injection e with e1 _
        subst e1
        exact foldW_len hf r h2 h4 us' (hf _ _ _ _ hl h1) h3
theorem buildN_len : ∀ (n : Nat) (h : List Nat) (v : Val) (h' : List Nat) (u : Nat), h.length ≤ 4000 → buildN n h v = .ok (h', u) → h'.length ≤ 4000
  | 0, _, _, _, _, _, e => by cases e
  | n + 1, h, v, h', u, hl, e => by
    unfold buildN at e
    split at e
    · injection e with e
      injection e with e1 _
      subst e1
      exact hl
    · split at e
      · cases e
      · split at e
        · cases e
        · split at e
          · cases e
          · rename_i h2 us hfold h3 p hput
            injection e with e
            injection e with e1 _
            subst e1
            exact (putF_len hput).2.1
theorem putF_err {h : List Nat} {o : Ob} {e : Int} (he : putF h o = .error e) : e ≠ 0 := by
  unfold putF at he
  split at he
  · split at he
    · injection he with he
      omega
    · cases he
  · injection he with he
    omega
theorem foldW_err {f : List Nat → Val → Except Int (List Nat × Nat)} (hf : ∀ h v e, f h v = .error e → e ≠ 0) : ∀ (vs : List Val) (h : List Nat) (e : Int), foldW f h vs = .error e → e ≠ 0
  | [], h, e, he => by cases he
  | v :: r, h, e, he => by
    unfold foldW at he
    cases h1 : f h v with
    | error e1 =>
      rw [h1] at he
      injection he with he
      subst he
      exact hf _ _ _ h1
    | ok p =>
      obtain ⟨h2, u⟩ := p
      rw [h1] at he
      dsimp only at he
      cases h3 : foldW f h2 r with
      | error e1 =>
        rw [h3] at he
        injection he with he
        subst he
        exact foldW_err hf r h2 _ h3
      | ok q => rw [h3] at he; cases he
theorem buildN_err : ∀ (n : Nat) (h : List Nat) (v : Val) (e : Int), buildN n h v = .error e → e ≠ 0
  | 0, _, _, _, he => by
    injection he with he
    omega
  | n + 1, h, v, e, he => by
    unfold buildN at he
    split at he
    · cases he
    · split at he
      · injection he with he
        omega
      · split at he
        · rename_i e1 hfold
          injection he with he
          subst he
          exact foldW_err (buildN_err n) _ _ _ hfold
        · split at he
          · rename_i e1 hput
            injection he with he
            subst he
            exact putF_err hput
          · cases he
end Go.Proofs.Ytdjahlkjfpbifaa
