
/-
  Slices of ints: the library's IndexFunc and ContainsFunc at a test that is a function value; one element appended to a row of the call's own.
-/
import Derived.Test.YtgkckldflfalgaaOpen
import Derived.OwnWalk
import Derived.WalkLawsBesides
import Derived.Outline
namespace Go.Proofs.Ytgkckldflfalgaa
open Go.RowKit

/-- A function value that is entered when it is called. -/
def Enters (fid : FuncId) : Prop := ∀ args w, (callFunc fid args).run Try.prog w = .ok (.enter fid args) w

theorem int_info : (Try.prog.info? 3).map (fun i => (i.zero, i.size, i.bytes)) = some (some (.int .i64 0), 1, 8) := by kernel_rfl

/-- One int appended to a row of the call's own. -/
theorem wpList_push {ops : Array Oper} {rest : List Oper} {o : Oper} {a : Act} {w : World} {Q : Exit → Act → World → Prop} (hgd : o.guard = none) (s x : Operand)
    (ho : o.op = .call { callee := .builtin .append, args := #[s, x], argTypes := #[53, 53] })
    (base : Nat) (v : Value) (zs : List Int) (hs : a.eval s = v) (hown : w.ownsRow base 3 1 v zs.length (ints zs)) (g : Nat) (y : Int) (hx : a.eval x = .slice (some ⟨g, 0, none⟩) 1 1) (hy : w.cell? ⟨g, 0, none⟩ = some (.int .i64 y))
    (hb : (zs.length + 1) * 8 ≤ 140737488355328) (hbase : base ≤ w.heap.size)
    (h : ∀ v' w', w'.ownsRow base 3 1 v' (zs ++ [y]).length (ints (zs ++ [y])) → w.grownBy w' v.ownBlock → wpList Try.prog ops Q rest (a.put o.dst v') w') : wpList Try.prog ops Q (o :: rest) a w := by
  obtain ⟨i0, hi0, hz0, hz1, hz2⟩ := info_parts int_info
  refine wpList_append_own _ hgd s x _ ho base 3 i0 (.int .i64 0) 1 8 Try.underlying53 hi0 hz0 hz1 hz2 rfl (by decide) v zs.length (ints zs) hs hown ⟨g, 0, none⟩ 1 1 [.int .i64 y] hx rfl ?_ ?_ (by unfold maxLen; omega) hb hbase ?_
  · intro j u hu
    match j, hu with
    | 0, hu =>
      simp at hu
      subst hu
      simpa [Addr.add] using hy
    | j + 1, hu => simp at hu
  · intro u hu
    simp at hu
    subst hu
    rfl
  · intro v' w' h1 h2 _
    refine h v' w' ?_ h2
    rw [List.length_append]
    simpa [ints] using h1

/-- A row of the call's own reads as a slice. -/
theorem row_of_own {w : World} {base : Nat} {e : TypeId} {v : Value} {vs : List Value} (h : w.ownsRow base e 1 v vs.length vs) :
    ∃ A c, v = .slice A vs.length c ∧ Row w w.heap.size A vs ∧ vs.length ≤ c ∧ c ≤ maxLen ∧ (A = none → c = 0) := by
  rcases h.2 with ⟨rfl, h0⟩ | ⟨g, cap, cur, rfl, _, hh, hn, hm, _, htk⟩
  · have : vs = [] := List.eq_nil_of_length_eq_zero h0
    subst this
    exact ⟨none, 0, rfl, Row.nil, by simp, by simp, fun _ => rfl⟩
  · refine ⟨_, cap, rfl, fun hp => ⟨g, 0, rfl, ?_, fun i u hu => ?_⟩, hn, hm, fun he => by cases he⟩
    · rcases Nat.lt_or_ge g w.heap.size with hlt | hge
      · exact hlt
      · rw [Array.getElem?_eq_none hge] at hh; cases hh
    · have e1 : cur[i]? = some u := by
        rw [← Array.getElem?_toList]
        have h2 : (cur.toList.take (vs.length * 1))[i]? = some u := by rw [htk]; exact hu
        rw [List.getElem?_take] at h2
        split at h2
        · exact h2
        · cases h2
      simp [World.cell?, hh, e1]

theorem row_of_own_int {w : World} {base : Nat} {e : TypeId} {v : Value} {zs : List Int} (h : w.ownsRow base e 1 v zs.length (ints zs)) :
    ∃ A c, v = .slice A zs.length c ∧ Row w w.heap.size A (ints zs) ∧ zs.length ≤ c ∧ c ≤ maxLen ∧ (A = none → c = 0) := by
  rw [← ints_len zs] at h
  obtain ⟨A, c, h1, h2, h3, h4, h5⟩ := row_of_own h
  rw [ints_len] at h1 h3
  exact ⟨A, c, h1, h2, h3, h4, h5⟩

/-- What IndexFunc answers. -/
def idxFrom (f : Int → Bool) : List Int → Int → Int
  | [], _ => -1
  | x :: xs, k => if f x then k else idxFrom f xs (k + 1)
theorem idxFrom_any (f : Int → Bool) : ∀ (xs : List Int) (k : Int), 0 ≤ k → decide (0 ≤ idxFrom f xs k) = xs.any f
  | [], k, _ => by simp [idxFrom]
  | x :: xs, k, hk => by
    unfold idxFrom
    by_cases h : f x = true
    · simp [h, hk]
    · rw [if_neg h, idxFrom_any f xs (k + 1) (by omega)]
      simp [h]
theorem idxFrom_drop (f : Int → Bool) (xs : List Int) (k : Nat) (hk : k < xs.length) (K : Int) :
    idxFrom f (xs.drop k) K = if f (xs.getD k 0) then K else idxFrom f (xs.drop (k + 1)) (K + 1) := by
  rw [List.drop_eq_getElem_cons hk]
  have : xs.getD k 0 = xs[k] := by simp [List.getD_eq_getElem?_getD, hk]
  rw [this]
  rfl

end Go.Proofs.Ytgkckldflfalgaa
