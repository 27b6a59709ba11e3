/-
  A membership protocol's state, in plain words.
-/
import Derived.Test.YtaecgapoaagjfaaQueue
namespace Go.Proofs.Ytaecgapoaagjfaa

def upd {α : Type} (F : Nat → α) (i : Nat) (x : α) : Nat → α := fun j => if j = i then x else F j
theorem upd_same {α : Type} (F : Nat → α) (i : Nat) (x : α) : upd F i x i = x := by simp [upd]
theorem upd_ne {α : Type} (F : Nat → α) {i j : Nat} (x : α) (h : j ≠ i) : upd F i x j = F j := by simp [upd, h]

/-- Who is known, at what turn, and what is said of it. -/
structure GS where
  K : Nat → Bool
  T : Nat → Int
  S : Nat → Int
def gN (G : GS) (i : Nat) : Int := if G.K i then (i : Int) else 0
abbrev RowT := Int × Int × Int
/-- What is known of node i is at least as new. -/
def stale (G : GS) (i : Nat) (t s : Int) : Bool := G.K i && !(decide (G.T i < t) || (G.T i == t && decide (G.S i < s)))
def GS.set (G : GS) (i : Nat) (t s : Int) : GS := ⟨upd G.K i true, upd G.T i t, upd G.S i s⟩
def capT (t : Int) : Int := if t + 1 ≤ 1099511627776 then t + 1 else 1099511627776
/-- A row is heard of. -/
def hearG (me : Nat) (G : GS) (r : RowT) : GS :=
  if stale G r.1.toNat r.2.1 r.2.2 then G else if r.1.toNat = me ∧ r.2.2 ≠ 1 then G.set me (capT r.2.1) 1 else G.set r.1.toNat r.2.1 r.2.2
def hearV (me : Nat) (G : GS) (V : Nat → Int) (r : RowT) : Nat → Int :=
  if stale G r.1.toNat r.2.1 r.2.2 then V else if r.1.toNat = me ∧ r.2.2 ≠ 1 then V else upd V r.1.toNat 0
def hearW (G : GS) (V : Nat → Int) (r : RowT) : Nat → Int :=
  if stale G r.1.toNat r.2.1 r.2.2 then V else upd V r.1.toNat 0
def heardG (me : Nat) : GS → List RowT → GS
  | G, [] => G
  | G, r :: l => heardG me (hearG me G r) l
def heardV (me : Nat) : GS → (Nat → Int) → List RowT → (Nat → Int)
  | _, V, [] => V
  | G, V, r :: l => heardV me (hearG me G r) (hearV me G V r) l
def heardW (me : Nat) : GS → (Nat → Int) → List RowT → (Nat → Int)
  | _, V, [] => V
  | G, V, r :: l => heardW me (hearG me G r) (hearW G V r) l

def rowBad (r : RowT) : Bool := decide (r.1 < 1) || decide (8 < r.1) || decide (r.2.1 < 0) || decide (1099511627776 < r.2.1) || decide (r.2.2 < 1) || decide (3 < r.2.2)
def prevBad (p : Option Int) (n : Int) : Bool := match p with | some q => decide (n ≤ q) | none => false
/-- What is wrong with rows, behind one of node p. -/
def rowsF : Option Int → List RowT → Int
  | _, [] => 0
  | p, r :: l => if rowBad r then 1 else if prevBad p r.1 then 21 else rowsF (some r.1) l
def rowsFault (l : List RowT) : Int := if 8 < l.length then 2 else rowsF none l

/-- What always holds of a gossip's state. -/
structure GOk (me : Nat) (ticks last : Int) (G : GS) (V W : Nat → Int) : Prop where
  m1 : 1 ≤ me
  m8 : me ≤ 8
  t1 : 1 ≤ ticks
  t2 : ticks ≤ 100
  l0 : 0 ≤ last
  l8 : last ≤ 8
  kme : G.K me = true
  sme : G.S me = 1
  k0 : G.K 0 = false
  off : ∀ i, i < 9 → G.K i = false → G.T i = 0 ∧ G.S i = 0
  on : ∀ i, i < 9 → G.K i = true → 1 ≤ G.S i ∧ G.S i ≤ 3 ∧ 0 ≤ G.T i ∧ G.T i ≤ 1099511627776
  wait : ∀ i, i < 9 → G.S i = 2 → V i = W i ∧ 0 ≤ V i ∧ V i < 100

theorem rowsF_ok : ∀ (p : Option Int) (l : List RowT), rowsF p l = 0 → ∀ r ∈ l, rowBad r = false
  | _, [], _, r, hr => by simp at hr
  | p, x :: l, h, r, hr => by
    unfold rowsF at h
    split at h
    · cases h
    · rename_i hb
      split at h
      · cases h
      · rcases List.mem_cons.1 hr with rfl | hr
        · simpa using hb
        · exact rowsF_ok _ l h r hr
theorem rowBad_false {r : RowT} (h : rowBad r = false) : 1 ≤ r.1 ∧ r.1 ≤ 8 ∧ 0 ≤ r.2.1 ∧ r.2.1 ≤ 1099511627776 ∧ 1 ≤ r.2.2 ∧ r.2.2 ≤ 3 := by
  simp [rowBad] at h
  omega

theorem GOk.hear {me : Nat} {ticks last : Int} {G : GS} {V W : Nat → Int} (h : GOk me ticks last G V W) {r : RowT} (hr : rowBad r = false) : GOk me ticks last (hearG me G r) (hearV me G V r) (hearW G W r) := by
  have hb := rowBad_false hr
  unfold hearG hearV hearW
  by_cases hst : stale G r.1.toNat r.2.1 r.2.2 = true
  · rw [if_pos hst, if_pos hst, if_pos hst]; exact h
  · rw [if_neg hst, if_neg hst, if_neg hst]
    have hcap : 0 ≤ capT r.2.1 ∧ capT r.2.1 ≤ 1099511627776 := by unfold capT; split <;> omega
    by_cases hme : r.1.toNat = me ∧ r.2.2 ≠ 1
    · rw [if_pos hme, if_pos hme, hme.1]
      refine ⟨h.m1, h.m8, h.t1, h.t2, h.l0, h.l8, by simp [GS.set, upd], by simp [GS.set, upd], ?_, ?_, ?_, ?_⟩
      · have := h.m1; simp only [GS.set]; rw [upd_ne _ _ (by omega)]; exact h.k0
      · intro i hi hk
        by_cases e : i = me
        · subst e; simp [GS.set, upd] at hk
        · simp only [GS.set, upd_ne _ _ e] at hk ⊢; exact h.off i hi hk
      · intro i hi hk
        by_cases e : i = me
        · subst e; simp only [GS.set, upd_same]; omega
        · simp only [GS.set, upd_ne _ _ e] at hk ⊢; exact h.on i hi hk
      · intro i hi hs
        by_cases e : i = me
        · subst e; simp [GS.set, upd] at hs
        · simp only [GS.set, upd_ne _ _ e] at hs ⊢; exact h.wait i hi hs
    · rw [if_neg hme, if_neg hme]
      obtain ⟨n, hn⟩ : ∃ n : Nat, r.1.toNat = n := ⟨_, rfl⟩
      have hn1 : 1 ≤ n ∧ n ≤ 8 := by omega
      rw [hn] at hme ⊢
      refine ⟨h.m1, h.m8, h.t1, h.t2, h.l0, h.l8, ?_, ?_, ?_, ?_, ?_, ?_⟩
      · by_cases e : me = n
        · subst e; simp [GS.set, upd]
        · simp only [GS.set, upd_ne _ _ e]; exact h.kme
      · by_cases e : me = n
        · subst e
          simp only [GS.set, upd_same]
          rcases Int.lt_trichotomy r.2.2 1 with h1 | h1 | h1
          · omega
          · exact h1
          · exact absurd ⟨rfl, by omega⟩ hme
        · simp only [GS.set, upd_ne _ _ e]; exact h.sme
      · simp only [GS.set]; rw [upd_ne _ _ (by omega)]; exact h.k0
      · intro i hi hk
        by_cases e : i = n
        · subst e; simp [GS.set, upd] at hk
        · simp only [GS.set, upd_ne _ _ e] at hk ⊢; exact h.off i hi hk
      · intro i hi hk
        by_cases e : i = n
        · subst e; simp only [GS.set, upd_same]; omega
        · simp only [GS.set, upd_ne _ _ e] at hk ⊢; exact h.on i hi hk
      · intro i hi hs
        by_cases e : i = n
        · subst e; simp [upd]
        · simp only [GS.set, upd_ne _ _ e] at hs ⊢; exact h.wait i hi hs
theorem GOk.heard {me : Nat} {ticks last : Int} : ∀ {G : GS} {V W : Nat → Int} (l : List RowT), GOk me ticks last G V W → (∀ r ∈ l, rowBad r = false) → GOk me ticks last (heardG me G l) (heardV me G V l) (heardW me G W l)
  | _, _, _, [], h, _ => h
  | _, _, _, r :: l, h, hr => GOk.heard l (h.hear (hr r (by simp))) fun x hx => hr x (by simp [hx])

/-- Someone is doubted. -/
def GS.say (G : GS) (i : Nat) (s : Int) : GS := ⟨G.K, G.T, upd G.S i s⟩
theorem GOk.doubt {me : Nat} {ticks last : Int} {G : GS} {V W : Nat → Int} (h : GOk me ticks last G V W) {i : Nat} (hk : G.K i = true) (hne : i ≠ me) : GOk me ticks last (G.say i 2) (upd V i 0) (upd W i 0) := by
  refine ⟨h.m1, h.m8, h.t1, h.t2, h.l0, h.l8, h.kme, ?_, h.k0, ?_, ?_, ?_⟩
  · simp only [GS.say]; rw [upd_ne _ _ (Ne.symm hne)]; exact h.sme
  · intro j hj hf
    simp only [GS.say] at hf ⊢
    have : j ≠ i := fun e => by subst e; rw [hk] at hf; cases hf
    rw [upd_ne _ _ this]; exact h.off j hj hf
  · intro j hj hf
    simp only [GS.say] at hf ⊢
    have := h.on j hj hf
    by_cases e : j = i
    · subst e; rw [upd_same]; omega
    · rw [upd_ne _ _ e]; exact this
  · intro j hj hs
    simp only [GS.say] at hs
    by_cases e : j = i
    · subst e; simp [upd]
    · rw [upd_ne _ _ e] at hs; rw [upd_ne _ _ e, upd_ne _ _ e]; exact h.wait j hj hs

/-- One node's timer advances. -/
def tickS (ticks : Int) (G : GS) (V : Nat → Int) (i : Nat) : Int := if G.S i = 2 ∧ ticks ≤ V i + 1 then 3 else G.S i
def tickV (G : GS) (V : Nat → Int) (i : Nat) : Int := if G.S i = 2 then V i + 1 else V i
/-- The first k nodes' timers have advanced. -/
def tickG (ticks : Int) (G : GS) (V : Nat → Int) (k : Nat) : GS := ⟨G.K, G.T, fun i => if i < k then tickS ticks G V i else G.S i⟩
def tickVs (G : GS) (V : Nat → Int) (k : Nat) : Nat → Int := fun i => if i < k then tickV G V i else V i
theorem GOk.tick {me : Nat} {ticks last : Int} {G : GS} {V W : Nat → Int} (h : GOk me ticks last G V W) : GOk me ticks last (tickG ticks G V 9) (tickVs G V 9) (tickVs G W 9) ∧ ∀ i, i < 9 → tickS ticks G V i = tickS ticks G W i := by
  have hsame : ∀ i, i < 9 → tickS ticks G V i = tickS ticks G W i := fun i hi => by
    unfold tickS
    by_cases h2 : G.S i = 2
    · rw [(h.wait i hi h2).1]
    · rw [if_neg (fun e => h2 e.1), if_neg (fun e => h2 e.1)]
  refine ⟨⟨h.m1, h.m8, h.t1, h.t2, h.l0, h.l8, h.kme, ?_, h.k0, ?_, ?_, ?_⟩, hsame⟩
  · have := h.m8
    have hs := h.sme
    simp only [tickG]
    rw [if_pos (by omega)]
    unfold tickS
    rw [if_neg (fun e => by omega)]
    exact hs
  · intro j hj hf
    have := h.off j hj hf
    simp only [tickG] at hf ⊢
    rw [if_pos hj]
    unfold tickS
    rw [if_neg (fun e => by omega)]
    exact this
  · intro j hj hf
    have := h.on j hj hf
    simp only [tickG] at hf ⊢
    rw [if_pos hj]
    unfold tickS
    split <;> omega
  · intro j hj hs
    simp only [tickG] at hs
    rw [if_pos hj] at hs
    unfold tickS at hs
    unfold tickVs tickV
    split at hs
    · cases hs
    · rename_i hno
      have hw := h.wait j hj hs
      have ht := h.t2
      rw [if_pos hj, if_pos hj, if_pos hs, if_pos hs]
      have : ¬ (ticks ≤ V j + 1) := fun e => hno ⟨hs, e⟩
      omega

/-- Whom to ask next: the first, from the k-th on. -/
def askOk (me : Nat) (G : GS) (n : Nat) : Bool := G.K n && decide (n ≠ me) && decide (G.S n ≠ 3)
def askN (last : Int) (k : Nat) : Nat := (last.toNat + k) % 8 + 1
def askF (me : Nat) (last : Int) (G : GS) : Nat → Nat → Nat
  | 0, _ => 0
  | m + 1, k => if askOk me G (askN last k) then askN last k else askF me last G m (k + 1)
theorem askF_le (me : Nat) (last : Int) (G : GS) : ∀ m k, askF me last G m k ≤ 8
  | 0, _ => by simp [askF]
  | m + 1, k => by
    unfold askF
    split
    · unfold askN; omega
    · exact askF_le me last G m (k + 1)
theorem GOk.ask {me : Nat} {ticks last : Int} {G : GS} {V W : Nat → Int} (h : GOk me ticks last G V W) (n : Nat) (hn : n ≤ 8) : GOk me ticks n G V W := ⟨h.m1, h.m8, h.t1, h.t2, by omega, by omega, h.kme, h.sme, h.k0, h.off, h.on, h.wait⟩

/-- All rows that are known, the first k. -/
def rowsOf (G : GS) : Nat → List RowT
  | 0 => []
  | k + 1 => rowsOf G k ++ (if G.K k then [((k : Int), G.T k, G.S k)] else [])
theorem rowsOf_len (G : GS) : ∀ k, (rowsOf G k).length ≤ k
  | 0 => by simp [rowsOf]
  | k + 1 => by
    have := rowsOf_len G k
    unfold rowsOf
    rw [List.length_append]
    split <;> simp <;> omega
end Go.Proofs.Ytaecgapoaagjfaa
