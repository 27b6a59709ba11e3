
/-
  Slices of uint64: what they read as, and the library's functions over them.
-/
import Derived.Test.YtdjahlkjfpbifaaQueue
import Derived.Laws.StructEq
namespace Go.Proofs.Ytdjahlkjfpbifaa
open Go.RowKit

def huC (x : Nat) : List Value := [.int .u64 (x : Int)]
def huV (x : Nat) : Value := .agg #[.int .u64 (x : Int)]
theorem huC_len (x : Nat) : (huC x).length = 1 := rfl
theorem hu_info : (Try.prog.info? 90).map (fun i => (i.size, i.bytes)) = some (1, 8) := by kernel_rfl
theorem hu_zero : ((Try.prog.info? 90).bind (·.zero)).map (fun z => z.cells.size) = some 1 := by kernel_rfl
theorem hu_parts : ∃ i z, Try.prog.info? 90 = some i ∧ i.zero = some z ∧ i.size = 1 ∧ i.bytes = 8 ∧ z.cells.size = 1 := by
  have h1 := hu_info
  have h2 := hu_zero
  cases hi : Try.prog.info? 90 with
  | none => rw [hi] at h1; cases h1
  | some i =>
    rw [hi] at h1 h2
    simp only [Option.map_some, Option.some.injEq, Prod.mk.injEq, Option.bind_some] at h1 h2
    cases hz : i.zero with
    | none => rw [hz] at h2; cases h2
    | some z =>
      rw [hz] at h2
      simp only [Option.map_some, Option.some.injEq] at h2
      exact ⟨i, z, rfl, hz, h1.1, h1.2, h2⟩
theorem hu_one (x : Nat) : ∀ u ∈ huC x, u.oneCell' = true := by
  intro u hu
  simp only [huC, List.mem_cons, List.not_mem_nil, or_false] at hu
  rcases hu with rfl <;> rfl
theorem hu_one_all (l : List (Nat)) : ∀ u ∈ flat huC l, u.oneCell' = true := by
  intro u hu
  simp only [flat, List.mem_flatMap] at hu
  obtain ⟨x, _, hx⟩ := hu
  exact hu_one x u hx
/-- Element i's cells. -/
theorem Row.hu {w : World} {B : Nat} {A : Option Addr} {l : List (Nat)} (h : Row w B A (flat huC l)) {i : Nat} (hi : i < l.length) (d : Nat) :
    ∃ b o, A = some ⟨b, o, none⟩ ∧ b < B
      ∧ w.cell? ⟨b, o + i * 1, none⟩ = some (.int .u64 ((l.getD i d) : Int))
    := by
  obtain ⟨b, o, e, hb, hc⟩ := Row.elem huC_len (by decide) h (getD_some d hi)
  exact ⟨b, o, e, hb, hc 0 _ rfl⟩

/-- One element appended to a row of the call's own. -/
theorem wpList_push_hu {ops : Array Oper} {rest : List Oper} {o : Oper} {a : Act} {w : World} {Q : Exit → Act → World → Prop} (hgd : o.guard = none) (s x : Operand)
    (ho : o.op = .call { callee := .builtin .append, args := #[s, x], argTypes := #[88, 88] })
    (base : Nat) (v : Value) (zs : List (Nat)) (hs : a.eval s = v) (hown : w.ownsRow base 90 1 v zs.length (flat huC zs)) (g : Nat) (y : Nat) (hx : a.eval x = .slice (some ⟨g, 0, none⟩) 1 1) (hy : ∀ j u, (huC y)[j]? = some u → w.cell? ⟨g, j, none⟩ = some u)
    (hb : (zs.length + 1) * 8 ≤ 140737488355328) (hbase : base ≤ w.heap.size)
    (h : ∀ v' w', w'.ownsRow base 90 1 v' (zs ++ [y]).length (flat huC (zs ++ [y])) → w.grownBy w' v.ownBlock → wpList Try.prog ops Q rest (a.put o.dst v') w') : wpList Try.prog ops Q (o :: rest) a w := by
  obtain ⟨i0, z0, hi0, hz0, hz1, hz2, hz3⟩ := hu_parts
  refine wpList_append_own _ hgd s x _ ho base 90 i0 z0 1 8 Try.underlying88 hi0 hz0 hz1 hz2 hz3 (by decide) v zs.length (flat huC zs) hs hown ⟨g, 0, none⟩ 1 1 (huC y) hx rfl ?_ (hu_one y) (by unfold maxLen; omega) hb hbase ?_
  · intro j u hu
    rw [addr_add, Nat.zero_add]
    exact hy j u hu
  · intro v' w' h1 h2 _
    refine h v' w' ?_ h2
    rw [List.length_append, flat_append, flat_one]
    exact h1

set_option maxRecDepth 100000 in
set_option maxHeartbeats 400000 in
theorem clone_hu (A : Option Addr) (c : Nat) (xs : List (Nat)) (B : Nat) (w : World) (hr : Row w B A (flat huC xs)) (hA : A = none → c = 0) (hm : xs.length * 8 ≤ 140737488355328) :
    Calls Try.prog 41 #[.slice A xs.length c] w fun e w' => ∃ v, e = .returned v ∧ w'.ownsRow w.heap.size 90 1 v xs.length (flat huC xs) ∧ Below w.heap.size w w' := by
  rcases A with _ | ad
  · obtain rfl := hA rfl
    have hx : xs = [] := by
      rcases xs with _ | ⟨x, r⟩
      · rfl
      · obtain ⟨b, o, h, _⟩ := hr (by rw [flat_len huC_len]; simp)
        cases h
    subst hx
    have he := fun w => Lib.run_eql_slice_nil (P := Try.prog) w 89 90 none 0 0 0 0 Try.underlying89
    go_enter Try.func41, Try.ntmps41
    go_wp2_with fail
    go_ret
    exact ⟨_, rfl, World.ownsRow_nil _ _ _ _, Below.refl _ _⟩
  · have he := fun w => Lib.run_eql_slice_nil (P := Try.prog) w 89 90 (some ad) xs.length c 0 0 Try.underlying89
    obtain ⟨i0, z0, hi0, hz0, hz1, hz2, hz3⟩ := hu_parts
    have hnews : ∀ j u, (flat huC xs)[j]? = some u → (w.alloc (.cells ⟨[]⟩ 90)).cell? (ad.add j) = some u := by
      intro j u hu
      have hj : j < (flat huC xs).length := (List.getElem?_eq_some_iff.1 hu).1
      obtain ⟨b, o, e, _, hc⟩ := hr (by omega)
      injection e with e
      subst e
      have h1 := hc j u hu
      rw [addr_add, World.cell?_alloc_lt w _ ⟨b, o + j, none⟩ (lt_of_cell h1)]
      exact h1
    have HN := Lib.hid hnews
    have HO := Lib.hid (hu_one_all xs)
    have hown : (w.alloc (.cells ⟨[]⟩ 90)).ownsRow w.heap.size 90 1 (.slice (some ⟨w.heap.size, 0, none⟩) 0 0) 0 [] := World.ownsRow_lit w ⟨[]⟩ 0 (Nat.le_refl _) (Nat.zero_le _) rfl
    have HW := Lib.hid hown
    have HB := Lib.hid (show Below w.heap.size w (w.alloc (.cells ⟨[]⟩ 90)) from (Below.refl _ _).alloc (Nat.le_refl _) _)
    clear hnews hown hr hA
    go_enter Try.func41, Try.ntmps41
    go_wp2_with (at_builtin; refine wpList_append_own _ rfl (.tmp 5) (.tmp 6) _ rfl w.heap.size 90 i0 z0 1 8 Try.underlying89 hi0 hz0 hz1 hz2 hz3 (by decide) _ 0 [] rfl HW.out ad xs.length c (flat huC xs) rfl (flat_len huC_len xs) HN.out HO.out (by unfold maxLen; omega) (by omega) (by simp) ?_; intro v' w1 hown' hg' _)
    go_ret
    refine ⟨v', rfl, by simpa using hown', HB.out.grown hg' (by simp) (fun k hk => ?_)⟩
    have hk' := (HW.out.lt k hk).1
    exact hk'
end Go.Proofs.Ytdjahlkjfpbifaa
