
/-
  CacheTells' state behind an append that laid the reference's row anew.
-/
import Derived.Test.YtdjahlkjfpbifaaCa8
namespace Go.Proofs.Ytdjahlkjfpbifaa
open Go.RowKit Go.Maps Go.WideMaps

section
variable {W w wO w1 : World} {cv : Array Value} {gk gm gw n1 n2 : Nat} {AI : Option Addr} {cI : Nat} {ims : List Im} {R R2 : K2 → Option (Option Addr × Nat)} {T1 T2 : K2 → List Wa} {h m : Int}
/-- The reference's row of a site is what an append to a block of the call's own left. -/
theorem ClSt.putJoin (s : ClSt W w cv gk gm gw n1 n2 AI cI ims R R2 T1 T2 h m) (hn : n2 < maxLen) {a b : Int} (ha : I64 a) (hb : I64 b) {AO : Option Addr} (hAO : ∀ q, AO.map (·.block) = some q → w.heap.size ≤ q) (hO : Below w.heap.size w wO) {A' : Option Addr} {c' n : Nat} {L : List Wa} (hL : L.length ≤ 5) (hn' : n = L.length)
    (hon : Only (fun b => AO.map (·.block) = some b) wO w1) (hown : OwnAt w1 W.heap.size 77 2 A' n c' (flat waC L)) (hA : ∀ q, A'.map (·.block) = some q → AO.map (·.block) = some q ∨ wO.heap.size ≤ q) :
    ∃ w2, (Instr.mapUpdate 67 (.map (some gw)) (.agg #[.int .i64 a, .int .i64 b]) (.slice A' n c')).run Try.prog w1 = .ok () w2 ∧ ClSt W w2 cv gk gm gw n1 (n2 + 1) AI cI ims R (updR R2 (k2 a b ha hb) (some (A', c'))) T1 (updR T2 (k2 a b ha hb) L) h m ∧ Only (· = gw) w1 w2 ∧ Below w.heap.size w w1 ∧ (∀ q, A'.map (·.block) = some q → w.heap.size ≤ q) := by
  subst hn'
  have hb1 : Below w.heap.size w w1 := hon.to_below hO hO.size hAO
  have hA1 : ∀ q, A'.map (·.block) = some q → w.heap.size ≤ q := fun q hq => by
    rcases hA q hq with e | e
    · exact hAO q e
    · exact Nat.le_trans hO.size e
  obtain ⟨w2, h1, h2, h3⟩ := s.put hn ha hb hL hb1 hown (fun q hq => .inr (hA1 q hq))
  exact ⟨w2, h1, h2, h3, hb1, hA1⟩
/-- An append beside the state: what an append to rows behind it leaves. -/
theorem join_below {AO : Option Addr} {g : Nat} (hAO : ∀ q, AO.map (·.block) = some q → g ≤ q) (hO : Below g w wO) (hg : g ≤ wO.heap.size) (hon : Only (fun b => AO.map (·.block) = some b) wO w1) : Below g w w1 := hon.to_below hO hg hAO
end
theorem wa_slice_to (A : Option Addr) (n c k : Nat) (hk : k ≤ c) (w : World) :
    (Instr.slice 75 (.slice A n c) none (some (.int .i64 (k : Int))) none).run Try.prog w = .ok (.slice A k c) w := by
  obtain ⟨i0, z0, hi0, hz0, hz1, hz2, hz3⟩ := wa_parts
  have e : A.map (fun a => a.add 0) = A := by
    rcases A with _ | ⟨b, o, s⟩
    · rfl
    · show some (Addr.add ⟨b, o, s⟩ 0) = _
      unfold Addr.add
      split <;> simp_all
  simp [Instr.slice, Instr.sliceBounds, Instr.sliceBound, run_underlying Try.underlying75, sizeOf, typeInfo, hi0, asIntOf, hk, e]
theorem wa_slice_from (A : Option Addr) (n c k : Nat) (hk : k ≤ n) (hc : n ≤ c) :
    ∃ A', (∀ w, (Instr.slice 75 (.slice A n c) (some (.int .i64 (k : Int))) none none).run Try.prog w = .ok (.slice A' (n - k) (c - k)) w) ∧ ∀ w B (l : List Wa), l.length = n → Row w B A (flat waC l) → Row w B A' (flat waC (l.drop k)) := by
  obtain ⟨i0, z0, hi0, hz0, hz1, hz2, hz3⟩ := wa_parts
  refine ⟨if c = k then A else A.map (·.add (k * 2)), fun w => ?_, fun w B l hl h => ?_⟩
  · simp [Instr.slice, Instr.sliceBounds, Instr.sliceBound, run_underlying Try.underlying75, sizeOf, typeInfo, hi0, hz1, asIntOf]
    intro h
    omega
  · by_cases hkl : k = l.length
    · rw [hkl, List.drop_length]
      exact Row.nil
    · rw [if_neg (by omega)]
      rw [flat_drop waC_len]
      intro hp
      obtain ⟨b, o, rfl, hb, hcl⟩ := h (by rw [List.length_drop] at hp; omega)
      refine ⟨b, o + k * 2, by simp [addr_add], hb, fun i v hv => ?_⟩
      rw [List.getElem?_drop] at hv
      rw [Nat.add_assoc]
      exact hcl _ v hv
theorem step_joinQ_wa {ops : Array Oper} {o : Oper} {a : Act} {w : World} {K : Act → World → Prop} {Q : Exit → Act → World → Prop} {E : Prop} (hgd : o.guard = none) (s x : Operand)
    (ho : o.op = .call { callee := .builtin .append, args := #[s, x], argTypes := #[75, 75] })
    (base : Nat) (A : Option Addr) (n cap : Nat) (l : List Wa) (hs : a.eval s = .slice A n cap) (hown : OwnAt w base 77 2 A n cap (flat waC l)) (B : Option Addr) (m c Bd : Nat) (l2 : List Wa) (hx : a.eval x = .slice B m c) (hm : l2.length = m) (hr : Row w Bd B (flat waC l2)) (hsm : n + m ≤ 1000) (hbase : base ≤ w.heap.size)
    (q : Nat) (hq : n + m = q) (J : List Wa) (hJ : l ++ l2 = J)
    (h : ∀ A' c' w', OwnAt w' base 77 2 A' q c' (flat waC J) → Only (fun b => A.map (·.block) = some b) w w' → (∀ q, A'.map (·.block) = some q → A.map (·.block) = some q ∨ w.heap.size ≤ q) → K (a.put o.dst (.slice A' q c')) w') :
    if Region.wanted o (yielded ops a.tmps) = true then Oper.wp Try.prog o a w K Q else E := by
  subst hq hJ
  exact step_join_wa hgd s x ho base A n cap l hs hown B m c Bd l2 hx hm hr hsm hbase h
theorem OwnAt.lit {base : Nat} (w : World) (hb : base ≤ w.heap.size) (z : Wa) : OwnAt (w.alloc (.cells #[.string z.tag, .int .i64 z.fn] 77)) base 77 2 (some ⟨w.heap.size, 0, none⟩) 1 1 (flat waC [z]) :=
  ⟨rfl, .inr ⟨w.heap.size, 0, #[.string z.tag, .int .i64 z.fn], rfl, hb, Box.new w _ _, Nat.le_refl _, by unfold maxLen; omega, by simp, rfl⟩⟩
theorem rowA_upd (R : K2 → Option (Option Addr × Nat)) (x : K2) (p : Option Addr × Nat) : rowA (updR R x (some p)) x = p := by
  unfold rowA updR
  rw [if_pos rfl]
  rfl
theorem upd_at {α : Type} (T : K2 → α) (x : K2) (v : α) : updR T x v x = v := by
  unfold updR
  rw [if_pos rfl]
theorem upd_upd {α : Type} (T : K2 → α) (x : K2) (u v : α) : updR (updR T x u) x v = updR T x v := by
  funext y
  unfold updR
  by_cases h : y = x
  · rw [if_pos h, if_pos h]
  · rw [if_neg h, if_neg h, if_neg h]
section
variable {W w w1 : World} {cv : Array Value} {gk gm gw n1 n2 : Nat} {AI : Option Addr} {cI : Nat} {ims : List Im} {R R2 : K2 → Option (Option Addr × Nat)} {T1 T2 : K2 → List Wa} {h m : Int}
theorem ClSt.putN (s : ClSt W w cv gk gm gw n1 n2 AI cI ims R R2 T1 T2 h m) (hn : n2 < maxLen) {a b : Int} (ha : I64 a) (hb : I64 b) {A' : Option Addr} {c' n : Nat} {L : List Wa} (hL : L.length ≤ 5) (hn' : n = L.length) (ho : Below w.heap.size w w1) (hown : OwnAt w1 W.heap.size 77 2 A' n c' (flat waC L))
    (hA : ∀ q, A'.map (·.block) = some q → (rowA R2 (k2 a b ha hb)).1.map (·.block) = some q ∨ w.heap.size ≤ q) :
    ∃ w2, (Instr.mapUpdate 67 (.map (some gw)) (.agg #[.int .i64 a, .int .i64 b]) (.slice A' n c')).run Try.prog w1 = .ok () w2 ∧ ClSt W w2 cv gk gm gw n1 (n2 + 1) AI cI ims R (updR R2 (k2 a b ha hb) (some (A', c'))) T1 (updR T2 (k2 a b ha hb) L) h m ∧ Only (· = gw) w1 w2 := by
  subst hn'
  exact s.put hn ha hb hL ho hown hA
end
end Go.Proofs.Ytdjahlkjfpbifaa
