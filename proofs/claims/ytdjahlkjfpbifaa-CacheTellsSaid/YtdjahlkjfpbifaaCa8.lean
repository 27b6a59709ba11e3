
/-
  A row of entries appended to a row of the call's own, whatever is empty.
-/
import Derived.Test.YtdjahlkjfpbifaaCa7
namespace Go.Proofs.Ytdjahlkjfpbifaa
open Go.RowKit Go.Maps Go.WideMaps

theorem run_append_w0 {P : Program} (w : World) (t ty e : TypeId) (i : TypeInfo) (ht : P.underlying t = some (.slice e)) (hi : P.info? e = some i) (A : Option Addr) (n cap : Nat) (hn : n ≤ cap) (B : Option Addr) (c : Nat) :
    (Builtin.append_ #[t, t] ty #[.slice A n cap, .slice B 0 c]).run P w = .ok (.slice A n cap) w := by
  rcases A with _ | a <;> rcases B with _ | b <;> simp [Builtin.append_, run_underlying ht, sizeOf, typeInfo, hi, Builtin.lenOf, hn, Builtin.firstCells, loadCells, loadCellsFrom, storeCells]
theorem step_join_wa {ops : Array Oper} {o : Oper} {a : Act} {w : World} {K : Act → World → Prop} {Q : Exit → Act → World → Prop} {E : Prop} (hgd : o.guard = none) (s x : Operand)
    (ho : o.op = .call { callee := .builtin .append, args := #[s, x], argTypes := #[75, 75] })
    (base : Nat) (A : Option Addr) (n cap : Nat) (l : List Wa) (hs : a.eval s = .slice A n cap) (hown : OwnAt w base 77 2 A n cap (flat waC l)) (B : Option Addr) (m c Bd : Nat) (l2 : List Wa) (hx : a.eval x = .slice B m c) (hm : l2.length = m) (hr : Row w Bd B (flat waC l2)) (hsm : n + m ≤ 1000) (hbase : base ≤ w.heap.size)
    (h : ∀ A' c' w', OwnAt w' base 77 2 A' (n + m) c' (flat waC (l ++ l2)) → Only (fun b => A.map (·.block) = some b) w w' → (∀ q, A'.map (·.block) = some q → A.map (·.block) = some q ∨ w.heap.size ≤ q) → K (a.put o.dst (.slice A' (n + m) c')) w') :
    if Region.wanted o (yielded ops a.tmps) = true then Oper.wp Try.prog o a w K Q else E := by
  obtain ⟨i0, z0, hi0, hz0, hz1, hz2, hz3⟩ := wa_parts
  subst hm
  rcases Nat.eq_zero_or_pos l2.length with h0 | hp
  · have e2 : l2 = [] := List.length_eq_zero_iff.1 h0
    subst e2
    rw [List.append_nil] at h
    have hw : Region.wanted o (yielded ops a.tmps) = true := by simp [Region.wanted, hgd]
    rw [if_pos hw]
    have hrun := run_append_w0 (P := Try.prog) w 75 o.type 77 i0 Try.underlying75 hi0 A n cap hown.cap_le.1 B c
    unfold Oper.wp execOp
    simp only [ho, resolve, invoke, builtin, Sem.run_bind, Sem.run_pure, Result.andThen_ok, List.map_toArray, List.map_cons, List.map_nil, hs, hx, List.length_nil, hrun]
    exact h A cap w hown (Only.refl _ _) fun q hq => .inl hq
  · obtain ⟨b, o1, rfl, hb, hc⟩ := hr (by rw [flat_len waC_len]; omega)
    refine step_append_q hgd s x _ ho base 77 i0 z0 2 24 Try.underlying75 hi0 hz0 hz1 hz2 hz3 (by decide) A n cap (flat waC l) hs hown ⟨b, o1, none⟩ l2.length c (flat waC l2) hx (flat_len waC_len l2) (fun j u hu => by rw [addr_add]; exact hc j u hu) (wa_one_all l2) (by unfold maxLen; omega) (by omega) hbase hp ?_
    intro g' o' c' w' h1 h2 h3
    refine h _ c' w' (by rw [flat_append]; exact h1) ⟨h2.os, h2.tape, h2.output, h2.size, fun i hi hne => h2.block i hi (fun e => hne e.symm)⟩ fun q hq => ?_
    simp at hq
    subst hq
    exact h3.imp_right fun e => by omega
end Go.Proofs.Ytdjahlkjfpbifaa
