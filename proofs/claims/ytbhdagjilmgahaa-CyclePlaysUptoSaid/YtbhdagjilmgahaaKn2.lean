
/-
  cycle: (*Node).tell.
-/
import Derived.Test.YtbhdagjilmgahaaKn1
import Derived.Deep.LoopGhost
import Derived.Deep.DeepCutAuto
import Derived.Deep.CutBlock
namespace Go.Proofs.Ytbhdagjilmgahaa
open Go.RowKit

theorem int_partsK : ∃ i, Try.prog.info? 3 = some i ∧ i.zero = some (.int .i64 0) ∧ i.size = 1 ∧ i.bytes = 8 := by
  have h : (Try.prog.info? 3).map (fun i => (i.zero, i.size, i.bytes)) = some (some (.int .i64 0), 1, 8) := by kernel_rfl
  cases hi : Try.prog.info? 3 with
  | none => rw [hi] at h; cases h
  | some i =>
    rw [hi] at h
    simp only [Option.map_some, Option.some.injEq, Prod.mk.injEq] at h
    exact ⟨i, rfl, h.1, h.2.1, h.2.2⟩
theorem ints_oneK (xs : List Int) : ∀ u ∈ ints xs, u.oneCell' = true := by
  intro u hu
  simp only [ints, List.mem_map] at hu
  obtain ⟨x, _, rfl⟩ := hu
  rfl
/-- One int appended to a row of the call's own. -/
theorem wpList_append_k {ops : Array Oper} {rest : List Oper} {o : Oper} {a : Act} {w : World} {Q : Exit → Act → World → Prop} (hgd : o.guard = none) (s x : Operand)
    (ho : o.op = .call { callee := .builtin .append, args := #[s, x], argTypes := #[23, 23] })
    (base : Nat) (A : Option Addr) (c : Nat) (zs : List Int) (hs : a.eval s = .slice A zs.length c) (hown : OwnAt w base 3 1 A zs.length c (ints zs))
    (g : Nat) (y : Int) (hx : a.eval x = .slice (some ⟨g, 0, none⟩) 1 1) (hc : w.cell? ⟨g, 0, none⟩ = some (.int .i64 y))
    (hb : zs.length + 1 ≤ 4398046511104) (hbase : base ≤ w.heap.size)
    (h : ∀ A' c' w', OwnAt w' base 3 1 A' (zs ++ [y]).length c' (ints (zs ++ [y])) → w.grownBy w' (A.map (·.block)) → (∀ g, A'.map (·.block) = some g → A.map (·.block) = some g ∨ w.heap.size ≤ g) → wpList Try.prog ops Q rest (a.put o.dst (.slice A' (zs ++ [y]).length c')) w') : wpList Try.prog ops Q (o :: rest) a w := by
  obtain ⟨i1, hi1, hy0, hy1, hy2⟩ := int_partsK
  refine wpList_append_q hgd s x 23 ho base 3 i1 (.int .i64 0) 1 8 Try.underlying23 hi1 hy0 hy1 hy2 rfl (by decide) A zs.length c (ints zs) hs hown ⟨g, 0, none⟩ 1 1 (ints [y]) hx rfl (fun j u hu => ?_) (ints_oneK _) (by unfold maxLen; omega) (by omega) hbase (by decide) ?_
  · match j, hu with
    | 0, hu => simp [ints] at hu; subst hu; exact hc
    | j + 1, hu => simp [ints] at hu
  · intro g' o' c' w' h2 h3 h4
    have e : zs.length + 1 = (zs ++ [y]).length := by simp
    rw [e]
    refine h (some ⟨g', o', none⟩) c' w' ?_ h3 (fun g hg => ?_)
    · rw [← e]
      unfold ints
      rw [List.map_append]
      exact h2
    · simp at hg
      subst hg
      exact h4.imp id (fun e => Nat.le_of_eq e.symm)
def tellT (told : List Int) (y : Int) : List Int := if told.contains y = true then told else told ++ [y]
def tellD (told due : List Int) (y : Int) : List Int := if told.contains y = true then due else due ++ [y]
section
variable {W w : World} {N gn gr gm gt : Nat} {K : List KnC} {RA : Int → Option Addr × Nat} {M told due : List Int} {nM : Nat} {D : Option Addr} {cd : Nat} {came : Int}
/-- What a call leaves of the node. -/
def NdP (W w : World) (N gn gr gm gt : Nat) (K : List KnC) (RA : Int → Option Addr × Nat) (M told due : List Int) (nM : Nat) (D : Option Addr) (came : Int) (w' : World) : Prop :=
  ∃ D' cd', NdSt W w' N gn gr gm gt K RA M told due nM D' cd' came ∧ Only (Sp gn gm gt D) w w' ∧ ∀ b, D'.map (·.block) = some b → D.map (·.block) = some b ∨ w.heap.size ≤ b
set_option maxRecDepth 100000 in
set_option maxHeartbeats 1000000 in
theorem tell_any {y : Int} (h : NdSt W w N gn gr gm gt K RA M told due nM D cd came) (hy : I64 y) (hK : (allR K).length ≤ 1048576) (hm : y ∈ allR K) :
    Calls Try.prog 33 #[.pointer (some ⟨gn, 0, none⟩), .int .i64 y] w fun e w' => e = .returned (.tuple #[]) ∧ NdP W w N gn gr gm gt K RA M (tellT told y) (tellD told due y) nM D came w' := by
  have hlk := h.look_told hy
  have b2 : w.cell? ⟨gn, 2, none⟩ = some (.slice D due.length cd) := h.box.cell 2
  have b3 : w.cell? ⟨gn, 3, none⟩ = some (.map (some gt)) := h.box.cell 3
  unfold tellT tellD
  cases ht : told.contains y with
  | true =>
    rw [ht] at hlk
    have HH := Lib.hid h
    clear h ht hm hK
    go_enter Try.func33, Try.ntmps33
    go_wp2_with fail
    go_end0
    exact ⟨rfl, D, cd, HH.out, Only.refl _ _, fun _ h => .inl h⟩
  | false =>
    rw [ht] at hlk
    obtain ⟨w1, hrun, h1, ho1⟩ := h.tellM hy hK hm ht
    have hdl : (due ++ [y]).length ≤ (told ++ [y]).length := by have := h.dl; simp; exact this
    have hdb : due.length + 1 ≤ 4398046511104 := by have := h.dl; have := h.told_len; omega
    have HDL := Lib.hid hdl
    have HO1 := Lib.hid ho1
    have HD1 := Lib.hid h1
    have HA1 := Lib.hid (h1.alloc (.cells #[.int .i64 y] 3))
    have d2 : w1.cell? ⟨gn, 2, none⟩ = some (.slice D due.length cd) := h1.box.cell 2
    have e0 : (w1.alloc (.cells #[.int .i64 y] 3)).cell? ⟨w1.heap.size, 0, none⟩ = some (.int .i64 y) := (Box.new w1 3 #[.int .i64 y]).cell 0
    have hbase : W.heap.size ≤ (w1.alloc (.cells #[.int .i64 y] 3)).heap.size := by simp; have := h1.bl.size; omega
    have hdu := h1.du.alloc (.cells #[.int .i64 y] 3)
    have HDU := Lib.hid hdu
    have HBS := Lib.hid hbase
    have HE0 := Lib.hid e0
    have hsz := ho1.size
    clear h ht hm hK h1 ho1 hdl hbase hdu e0
    go_enter Try.func33, Try.ntmps33
    go_wp2_with (at_builtin; refine wpList_append_k rfl (.tmp 20) (.tmp 22) rfl W.heap.size D cd due rfl HDU.out w1.heap.size y rfl HE0.out hdb HBS.out ?_; intro A9 c9 w9 j1 j2 j3; have H9 := Lib.hid (by have q := HA1.out.grow j2 j1 j3 HDL.out; rw [List.length_append, List.length_singleton] at q; exact q); have HJ := Lib.hid (And.intro j2 j3); have k2 : w9.cell? ⟨gn, 2, none⟩ = some (.slice D due.length cd) := (HA1.out.box.grown j2 (fun e => by have := HA1.out.dn _ e.symm; have := HA1.out.hi; omega)).cell 2; have kf : w9.frozen? ⟨gn, 2, none⟩ = false := (HA1.out.box.grown j2 (fun e => by have := HA1.out.dn _ e.symm; have := HA1.out.hi; omega)).frozen 2; clear j1 j2 j3)
    go_end0
    refine ⟨rfl, A9, c9, H9.out.1, ?_, fun b hb => (HJ.out.2 b hb).imp id (fun e => by simp at e; omega)⟩
    have e1 : Only (Sp gn gm gt D) w w1 := HO1.out.more (fun b hb => .inr (.inr (.inl hb)))
    have e2 : Only (Sp gn gm gt D) w (w1.alloc (.cells #[.int .i64 y] 3)) := e1.alloc _
    exact e2.trans (H9.out.2.more (fun b hb => hb.elim .inl (fun e => .inr (.inr (.inr e)))))
end
end Go.Proofs.Ytbhdagjilmgahaa
