
/-
  Timers (package timer): dues in plain form, what is wrong with them, and what each call answers.
-/
import Derived.Test.YtdjahlkjfpbifaaQueue
namespace Go.Proofs.Ytdjahlkjfpbifaa

/-- A due: its time, and whose it is. -/
structure Du where
  t : Int
  id : Int
deriving DecidableEq
def du0 : Du := ⟨0, 0⟩
instance : Inhabited Du := ⟨du0⟩
/-- Is a due ahead of another? -/
def duLt (x y : Du) : Bool := decide (x.t < y.t) || (decide (x.t = y.t) && decide (x.id < y.id))
theorem duLt_iff (x y : Du) : duLt x y = true ↔ x.t < y.t ∨ (x.t = y.t ∧ x.id < y.id) := by unfold duLt; simp
theorem duLt_not (x y : Du) : duLt x y = false ↔ ¬ (x.t < y.t ∨ (x.t = y.t ∧ x.id < y.id)) := by rw [← duLt_iff]; simp
def isId (n : Int) (x : Du) : Bool := x.id == n
def inAt (now : Int) (x : Du) : Bool := decide (now < x.t) && decide (x.t ≤ 2199023255552)

/-- What is wrong with dues, behind those that are there. -/
def tmGo (now : Int) : List Du → List Du → Int
  | _, [] => 0
  | pre, x :: r =>
    if inAt now x = false then 1 else if pre.getLast?.any (fun y => !duLt y x) = true then 21 else if pre.any (isId x.id) = true then 5 else tmGo now (pre ++ [x]) r
def tmF (now : Int) (l : List Du) : Int := if 100 < l.length then 2 else if (decide (0 ≤ now) && decide (now ≤ 1099511627776)) = false then 1 else tmGo now [] l
theorem getLast_take {α : Type} (l : List α) (d : α) : ∀ {k : Nat}, k ≤ l.length → (l.take k).getLast? = if k = 0 then none else some (l.getD (k - 1) d)
  | 0, _ => by simp
  | k + 1, h => by
    rw [if_neg (by omega), List.getLast?_eq_getElem?, List.length_take, Nat.min_eq_left h, Nat.add_sub_cancel, List.getElem?_take, if_pos (by omega)]
    simp [List.getD, List.getElem?_eq_getElem (show k < l.length by omega)]
theorem tmGo_step (now : Int) (l : List Du) {k : Nat} (hk : k < l.length) : tmGo now (l.take k) (l.drop k) =
    if inAt now (l.getD k du0) = false then 1 else if (decide (0 < k) && !duLt (l.getD (k - 1) du0) (l.getD k du0)) = true then 21 else if (l.take k).any (isId (l.getD k du0).id) = true then 5 else tmGo now (l.take (k + 1)) (l.drop (k + 1)) := by
  have h1 : l.take (k + 1) = l.take k ++ [l.getD k du0] := by
    rw [List.take_add_one, List.getElem?_eq_getElem hk]; simp [List.getD, List.getElem?_eq_getElem hk]
  rw [h1, drop_getD l du0 hk, tmGo, getLast_take l du0 (Nat.le_of_lt hk)]
  by_cases h0 : k = 0
  · subst h0; simp
  · rw [if_neg h0]; simp [show 0 < k by omega]

/-- What dues that are right are. -/
structure TmOk (now : Int) (l : List Du) : Prop where
  len : l.length ≤ 100
  now0 : 0 ≤ now
  now1 : now ≤ 1099511627776
  rows : ∀ x ∈ l, now < x.t ∧ x.t ≤ 2199023255552
  sort : l.Pairwise (fun a b => duLt a b = true)
  ids : l.Pairwise (fun a b => a.id ≠ b.id)
theorem duLt_trans {a b c : Du} (h1 : duLt a b = true) (h2 : duLt b c = true) : duLt a c = true := by
  rw [duLt_iff] at *; omega
theorem tmGo_ok (now : Int) : ∀ (l pre : List Du), tmGo now pre l = 0 → (∀ x ∈ l, now < x.t ∧ x.t ≤ 2199023255552) ∧ l.Pairwise (fun a b => duLt a b = true) ∧ l.Pairwise (fun a b => a.id ≠ b.id) ∧ (∀ y, pre.getLast? = some y → ∀ x ∈ l, duLt y x = true) ∧ ∀ y ∈ pre, ∀ x ∈ l, y.id ≠ x.id
  | [], _, _ => ⟨by simp, .nil, .nil, by simp, by simp⟩
  | x :: r, pre, h => by
    unfold tmGo at h
    by_cases h1 : inAt now x = false
    · rw [if_pos h1] at h; cases h
    rw [if_neg h1] at h
    by_cases h2 : pre.getLast?.any (fun y => !duLt y x) = true
    · rw [if_pos h2] at h; cases h
    rw [if_neg h2] at h
    by_cases h3 : pre.any (isId x.id) = true
    · rw [if_pos h3] at h; cases h
    rw [if_neg h3] at h
    obtain ⟨k1, k2, k3, k4, k5⟩ := tmGo_ok now r _ h
    have k4' := k4 x (by simp)
    have h1' : now < x.t ∧ x.t ≤ 2199023255552 := by
      have : inAt now x = true := by cases h : inAt now x <;> simp_all
      unfold inAt at this; simpa using this
    refine ⟨?_, List.pairwise_cons.2 ⟨k4', k2⟩, List.pairwise_cons.2 ⟨fun y hy => k5 x (by simp) y hy, k3⟩, ?_, ?_⟩
    · intro y hy
      rcases List.mem_cons.1 hy with rfl | hy
      · exact h1'
      · exact k1 y hy
    · intro y hy z hz
      have h4 : duLt y x = true := by
        rw [hy] at h2; simpa using h2
      rcases List.mem_cons.1 hz with rfl | hz
      · exact h4
      · exact duLt_trans h4 (k4' z hz)
    · intro y hy z hz
      rcases List.mem_cons.1 hz with rfl | hz
      · intro e
        apply h3
        rw [List.any_eq_true]
        exact ⟨y, hy, by unfold isId; simpa using e⟩
      · exact k5 y (List.mem_append_left _ hy) z hz
theorem tmF_ok {now : Int} {l : List Du} (h : tmF now l = 0) : TmOk now l := by
  unfold tmF at h
  by_cases h1 : 100 < l.length
  · rw [if_pos h1] at h; cases h
  rw [if_neg h1] at h
  by_cases h2 : (decide (0 ≤ now) && decide (now ≤ 1099511627776)) = false
  · rw [if_pos h2] at h; cases h
  rw [if_neg h2] at h
  obtain ⟨k1, k2, k3, _, _⟩ := tmGo_ok now l [] h
  have h2' : 0 ≤ now ∧ now ≤ 1099511627776 := by
    have : (decide (0 ≤ now) && decide (now ≤ 1099511627776)) = true := by
      cases hh : (decide (0 ≤ now) && decide (now ≤ 1099511627776))
      · exact absurd hh h2
      · rfl
    simpa using this
  exact ⟨by omega, h2'.1, h2'.2, k1, k2, k3⟩

/-! ### What the calls answer -/
/-- A due laid into its order. -/
def insD (x : Du) : List Du → List Du
  | [] => [x]
  | y :: r => if duLt y x then y :: insD x r else x :: y :: r
/-- How many dues lie ahead of one. -/
def cntD (x : Du) : List Du → Nat
  | [] => 0
  | y :: r => if duLt y x then cntD x r + 1 else 0
theorem cntD_le (x : Du) : ∀ l : List Du, cntD x l ≤ l.length
  | [] => Nat.le_refl _
  | y :: r => by unfold cntD; have := cntD_le x r; split <;> simp <;> omega
theorem insD_eq (x : Du) : ∀ l : List Du, insD x l = l.take (cntD x l) ++ x :: l.drop (cntD x l)
  | [] => rfl
  | y :: r => by
    unfold insD cntD
    by_cases h : duLt y x = true
    · simp [h, insD_eq x r]
    · simp [h]
theorem cntD_lt (x : Du) : ∀ (l : List Du) {k : Nat}, k < cntD x l → duLt (l.getD k du0) x = true
  | [], k, h => by simp [cntD] at h
  | y :: r, k, h => by
    unfold cntD at h
    by_cases hy : duLt y x = true
    · rw [if_pos hy] at h
      cases k with
      | zero => exact hy
      | succ k => exact cntD_lt x r (by omega)
    · rw [if_neg hy] at h; omega
theorem cntD_at (x : Du) : ∀ (l : List Du), cntD x l < l.length → duLt (l.getD (cntD x l) du0) x = false
  | [], h => by simp at h
  | y :: r, h => by
    unfold cntD at h ⊢
    by_cases hy : duLt y x = true
    · rw [if_pos hy] at h ⊢
      exact cntD_at x r (by simpa using h)
    · rw [if_neg hy]; simpa using hy
/-- The last place is known by what stands ahead of it. -/
theorem cntD_step (x : Du) (l : List Du) {k : Nat} (hk : k ≤ cntD x l) : (k < l.length ∧ duLt (l.getD k du0) x = true) ↔ k < cntD x l := by
  constructor
  · rintro ⟨h1, h2⟩
    by_cases h : k = cntD x l
    · have := cntD_at x l (by omega); rw [← h, h2] at this; cases this
    · omega
  · intro h
    exact ⟨Nat.lt_of_lt_of_le h (cntD_le x l), cntD_lt x l h⟩

theorem insD_perm (x : Du) (l : List Du) : (insD x l).Perm (l ++ [x]) := by
  rw [insD_eq]
  refine (List.perm_middle).trans ?_
  rw [List.take_append_drop]
  exact (List.perm_append_comm (l₁ := [x]) (l₂ := l))
theorem insD_sorted (x : Du) : ∀ (l : List Du), l.Pairwise (fun a b => duLt a b = true) → (∀ y ∈ l, y.id ≠ x.id) → (insD x l).Pairwise (fun a b => duLt a b = true)
  | [], _, _ => by simp [insD]
  | y :: r, h, hn => by
    obtain ⟨h1, h2⟩ := List.pairwise_cons.1 h
    unfold insD
    by_cases hy : duLt y x = true
    · rw [if_pos hy]
      refine List.pairwise_cons.2 ⟨fun z hz => ?_, insD_sorted x r h2 (fun z hz => hn z (List.mem_cons_of_mem _ hz))⟩
      have := (insD_perm x r).mem_iff.1 hz
      rcases List.mem_append.1 this with h | h
      · exact h1 z h
      · rw [List.mem_singleton.1 h]; exact hy
    · rw [if_neg hy]
      have hxy : duLt x y = true := by
        have := hn y (by simp)
        have hy' : duLt y x = false := by simpa using hy
        rw [duLt_not] at hy'; rw [duLt_iff]; omega
      refine List.pairwise_cons.2 ⟨fun z hz => ?_, h⟩
      rcases List.mem_cons.1 hz with rfl | hz
      · exact hxy
      · exact duLt_trans hxy (h1 z hz)
/-- What is the same but for the order, and in order, is the same. -/
theorem sorted_one {l m : List Du} (hp : m.Perm l) (hl : l.Pairwise (fun a b => duLt a b = true)) (hm : m.Pairwise (fun a b => duLt b a = false)) : m = l := by
  refine List.Perm.eq_of_pairwise (le := fun a b => duLt b a = false) (fun a b _ _ h1 h2 => ?_) hm (hl.imp fun {a b} h => ?_) hp
  · rw [duLt_not] at h1 h2
    obtain ⟨a1, a2⟩ := a
    obtain ⟨b1, b2⟩ := b
    dsimp only at h1 h2
    have e1 : a1 = b1 := by omega
    have e2 : a2 = b2 := by omega
    rw [e1, e2]
  · rw [duLt_not]; rw [duLt_iff] at h; omega

/-- In order: those up to a time are those at the head. -/
def cntT (m : Int) : List Du → Nat
  | [] => 0
  | y :: r => if y.t ≤ m then cntT m r + 1 else 0
def upTo (m : Int) (x : Du) : Bool := decide (x.t ≤ m)
theorem cntT_le (m : Int) : ∀ l : List Du, cntT m l ≤ l.length
  | [] => Nat.le_refl _
  | y :: r => by unfold cntT; have := cntT_le m r; split <;> simp <;> omega
theorem cntT_none (m : Int) : ∀ {l : List Du}, (∀ x ∈ l, ¬ x.t ≤ m) → l.filter (upTo m) = [] ∧ l.filter (fun x => !upTo m x) = l
  | [], _ => ⟨rfl, rfl⟩
  | y :: r, h => by
    have h1 : upTo m y = false := by unfold upTo; simpa using h y (by simp)
    obtain ⟨k1, k2⟩ := cntT_none m (l := r) (fun x hx => h x (List.mem_cons_of_mem _ hx))
    simp [h1, k1, k2]
theorem cntT_filter (m : Int) : ∀ {l : List Du}, l.Pairwise (fun a b => duLt a b = true) → l.take (cntT m l) = l.filter (upTo m) ∧ l.drop (cntT m l) = l.filter (fun x => !upTo m x)
  | [], _ => ⟨rfl, rfl⟩
  | y :: r, h => by
    obtain ⟨h1, h2⟩ := List.pairwise_cons.1 h
    unfold cntT
    by_cases hy : y.t ≤ m
    · obtain ⟨k1, k2⟩ := cntT_filter m h2
      have hu : upTo m y = true := by unfold upTo; simpa using hy
      rw [if_pos hy]
      simp [hu, k1, k2]
    · have hn : ∀ x ∈ y :: r, ¬ x.t ≤ m := by
        intro x hx
        rcases List.mem_cons.1 hx with rfl | hx
        · exact hy
        · have := (duLt_iff _ _).1 (h1 x hx); omega
      obtain ⟨k1, k2⟩ := cntT_none m hn
      rw [if_neg hy, k1, k2]
      exact ⟨rfl, rfl⟩
theorem cntT_lt (m : Int) : ∀ (l : List Du) {k : Nat}, k < cntT m l → (l.getD k du0).t ≤ m
  | [], k, h => by simp [cntT] at h
  | y :: r, k, h => by
    unfold cntT at h
    by_cases hy : y.t ≤ m
    · rw [if_pos hy] at h
      cases k with
      | zero => exact hy
      | succ k => exact cntT_lt m r (by omega)
    · rw [if_neg hy] at h; omega
theorem cntT_at (m : Int) : ∀ (l : List Du), cntT m l < l.length → ¬ (l.getD (cntT m l) du0).t ≤ m
  | [], h => by simp at h
  | y :: r, h => by
    unfold cntT at h ⊢
    by_cases hy : y.t ≤ m
    · rw [if_pos hy] at h ⊢
      exact cntT_at m r (by simpa using h)
    · rw [if_neg hy]; simpa using hy
theorem cntT_step (m : Int) (l : List Du) {k : Nat} (hk : k ≤ cntT m l) : (k < l.length ∧ (l.getD k du0).t ≤ m) ↔ k < cntT m l := by
  constructor
  · rintro ⟨h1, h2⟩
    by_cases h : k = cntT m l
    · have := cntT_at m l (by omega); rw [← h] at this; exact absurd h2 this
    · omega
  · intro h
    exact ⟨Nat.lt_of_lt_of_le h (cntT_le m l), cntT_lt m l h⟩

/-- All but one's. -/
def restD (l : List Du) (id : Int) : List Du := l.filter (fun x => !isId id x)
/-- When one's is due; 0 if there is none. -/
def atD (l : List Du) (id : Int) : Int := match l.find? (isId id) with | some x => x.t | none => 0
def duAt (l : List Du) (id : Int) : Int := idxAt (isId id) l 0
theorem restD_none {l : List Du} {id : Int} (h : ∀ x ∈ l, x.id ≠ id) : restD l id = l := by
  unfold restD
  rw [List.filter_eq_self]
  intro x hx
  unfold isId
  simpa using h x hx
theorem duAt_cases (id : Int) : ∀ (l : List Du) (k : Int), 0 ≤ k → (idxAt (isId id) l k = -1 ∧ ∀ x ∈ l, x.id ≠ id) ∨ ∃ i : Nat, idxAt (isId id) l k = k + i ∧ i < l.length ∧ (l.getD i du0).id = id ∧ l.find? (isId id) = some (l.getD i du0)
  | [], k, _ => .inl ⟨rfl, by simp⟩
  | x :: r, k, hk => by
    unfold idxAt
    by_cases h : isId id x = true
    · rw [if_pos h]
      exact .inr ⟨0, by simp, by simp, by unfold isId at h; simpa using h, by simp [h]⟩
    · rw [if_neg h]
      rcases duAt_cases id r (k + 1) (by omega) with ⟨h1, h2⟩ | ⟨i, h1, h2, h3, h4⟩
      · refine .inl ⟨h1, fun y hy => ?_⟩
        rcases List.mem_cons.1 hy with rfl | hy
        · unfold isId at h; simpa using h
        · exact h2 y hy
      · refine .inr ⟨i + 1, by rw [h1]; omega, by simpa using h2, h3, ?_⟩
        rw [List.find?_cons, show isId id x = false by simpa using h]
        exact h4
theorem restD_erase (id : Int) : ∀ (l : List Du) {i : Nat}, l.Pairwise (fun a b => a.id ≠ b.id) → i < l.length → (l.getD i du0).id = id → restD l id = l.take i ++ l.drop (i + 1)
  | [], _, _, h, _ => by simp at h
  | x :: r, 0, hp, _, hx => by
    obtain ⟨h1, _⟩ := List.pairwise_cons.1 hp
    have hx' : x.id = id := hx
    have : restD (x :: r) id = restD r id := by unfold restD; rw [List.filter_cons, if_neg (by unfold isId; simpa using hx')]
    rw [this, restD_none (fun y hy => by rw [← hx']; exact fun e => h1 y hy e.symm)]
    rfl
  | x :: r, i + 1, hp, hi, hx => by
    obtain ⟨h1, h2⟩ := List.pairwise_cons.1 hp
    have hi' : i < r.length := by simpa using hi
    have hm : r.getD i du0 ∈ r := by rw [List.getD, List.getElem?_eq_getElem hi']; exact List.getElem_mem hi'
    have hne : x.id ≠ id := by rw [← hx]; exact h1 _ hm
    have : restD (x :: r) id = x :: restD r id := by unfold restD; rw [List.filter_cons, if_pos (by unfold isId; simpa using hne)]
    rw [this, restD_erase id r h2 hi' hx]
    rfl

def setE (now : Int) (l : List Du) (id ticks : Int) : Int := if tmF now l ≠ 0 then tmF now l else if (decide (1 ≤ ticks) && decide (ticks ≤ 1099511627776)) = false then 1 else if (restD l id).length = 100 then 6 else 0
def setF (now : Int) (l : List Du) (id ticks : Int) : Int × List Du := if setE now l id ticks = 0 then (now, insD ⟨now + ticks, id⟩ (restD l id)) else (0, [])
def outE (now : Int) (l : List Du) (id : Int) : Int := if tmF now l ≠ 0 then tmF now l else if atD l id = 0 then 4 else 0
def outF (now : Int) (l : List Du) (id : Int) : Int × List Du := if outE now l id = 0 then (now, restD l id) else (0, [])
def outL (now : Int) (l : List Du) (id : Int) : Int := if outE now l id = 0 then atD l id - now else 0
def goE (now : Int) (l : List Du) (ticks : Int) : Int := if tmF now l ≠ 0 then tmF now l else if (decide (0 ≤ ticks) && decide (ticks ≤ 1099511627776 - now)) = false then 1 else 0
def goF (now : Int) (l : List Du) (ticks : Int) : Int × List Du := if goE now l ticks = 0 then (now + ticks, l.filter (fun x => !upTo (now + ticks) x)) else (0, [])
def goL (now : Int) (l : List Du) (ticks : Int) : List Du := if goE now l ticks = 0 then l.filter (upTo (now + ticks)) else []
def nextE (now : Int) (l : List Du) : Int := if tmF now l ≠ 0 then tmF now l else if l.length = 0 then 4 else 0
def nextF (now : Int) (l : List Du) : Int := if nextE now l = 0 then (l.getD 0 du0).t - now else 0
theorem atD_pos {now : Int} {l : List Du} (h : TmOk now l) {id : Int} : (duAt l id = -1 ∧ atD l id = 0 ∧ ∀ x ∈ l, x.id ≠ id) ∨ ∃ i : Nat, duAt l id = i ∧ i < l.length ∧ atD l id = (l.getD i du0).t ∧ 0 < atD l id ∧ (l.getD i du0).id = id ∧ restD l id = l.take i ++ l.drop (i + 1) := by
  rcases duAt_cases id l 0 (by omega) with ⟨h1, h2⟩ | ⟨i, h1, h2, h3, h4⟩
  · refine .inl ⟨h1, ?_, h2⟩
    have : l.find? (isId id) = none := by rw [List.find?_eq_none]; intro x hx; unfold isId; simpa using h2 x hx
    unfold atD; rw [this]
  · have ha : atD l id = (l.getD i du0).t := by unfold atD; rw [h4]
    have hm : l.getD i du0 ∈ l := by rw [List.getD, List.getElem?_eq_getElem h2]; exact List.getElem_mem h2
    have := (h.rows _ hm).1
    have := h.now0
    exact .inr ⟨i, by unfold duAt; rw [h1]; omega, h2, ha, by omega, h3, restD_erase id l h.ids h2 h3⟩
end Go.Proofs.Ytdjahlkjfpbifaa
