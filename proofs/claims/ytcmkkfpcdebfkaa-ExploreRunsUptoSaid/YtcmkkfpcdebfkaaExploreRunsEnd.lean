/-
  ExploreRuns: Check, Run and Steps return the specified results. For every input of bulk at most 1048576 (the given bound of the second form).
-/
import Derived.Test.YtcmkkfpcdebfkaaEx15
import Derived.Test.YtcmkkfpcdebfkaaFrameU
import Derived.Lib.SmallJoins
namespace Go.Proofs.Ytcmkkfpcdebfkaa
open Go.ChangeShapes Go.WideShapes Go.ChangeAt Go.RowKit Go.Joins Go.Deep

section
variable {H : Type} {enc : TypeId × Value → H} {W : World}
set_option maxRecDepth 100000 in
theorem open_dos {fuel : Nat} {cs : List Value} {x : DataW H × List MemPlace} (h : DataW.trod enc Try.prog W 0 (fun _ => true) true fuel 53 cs = some x) :
    ∃ (B : Option Addr) (d : Nat) (row : List Do), cs = [.slice B row.length d] ∧ Row W W.heap.size B (flat rdC row) ∧ row.length ≤ d ∧ d ≤ maxLen ∧ (B = none → d = 0) ∧ row.length ≤ Rows.uptoBulk x.1 := by
  obtain ⟨A, c, l, hcs, hr, hlc, hm, hA, _, hd⟩ := open_rowOf rdC (fun _ => True) (size := 3) Try.underlying53 (by kernel_rfl) rdC_len (by decide) (fun n cs y hy => by
    obtain ⟨hl, hfs⟩ := open_fields Try.underlying57 (by kernel_rfl) (by kernel_rfl) hy
    obtain ⟨u0, y0, k0, hu0, ht0⟩ := hfs 0 _ rfl
    obtain ⟨u1, y1, k1, hu1, ht1⟩ := hfs 1 _ rfl
    obtain ⟨u2, y2, k2, hu2, ht2⟩ := hfs 2 _ rfl
    obtain ⟨n0, e0, _, _⟩ := DataW.trod_int Try.underlying3 ht0
    obtain ⟨n1, e1, _, _⟩ := DataW.trod_int Try.underlying3 ht1
    obtain ⟨n2, e2, _, _⟩ := DataW.trod_int Try.underlying3 ht2
    injection e0 with e0
    injection e1 with e1
    injection e2 with e2
    subst e0 e1 e2
    refine ⟨(n0, n1, n2), ?_, trivial⟩
    match cs, hl with
    | [a, b, c], _ =>
      simp at hu0 hu1 hu2
      subst hu0 hu1 hu2
      rfl) h
  refine ⟨A, c, l, hcs, hr, hlc, hm, hA, ?_⟩
  rcases hd with ⟨_, rfl, _⟩ | ⟨el, sp, e, hl, _⟩
  · simp
  · rw [e, ← hl]
    have h1 := bulk_slice el sp
    have h2 := bulk_len el
    omega
theorem flat_bulk : ∀ (l : List (List Do)) (D : Nat → DataW H), (∀ i row, l[i]? = some row → row.length ≤ Rows.uptoBulk (D i)) → l.flatten.length ≤ Rows.uptoBulkAll ((List.range l.length).map D)
  | [], _, _ => by simp
  | x :: r, D, h => by
    have h0 := h 0 x rfl
    have h1 := flat_bulk r (fun i => D (i + 1)) (fun i row hi => h (i + 1) row (by simpa using hi))
    rw [List.length_cons, List.range_succ_eq_map, List.map_cons, List.map_map, List.flatten_cons, List.length_append]
    simp only [Rows.uptoBulkAll]
    have e : (D ∘ Nat.succ) = fun i => D (i + 1) := rfl
    rw [e]
    omega
set_option maxRecDepth 100000 in
theorem open_progs {base : Nat} {v : Value} {d : DataW H} {p : List MemPlace} (hv : Value.okWide Try.prog W .any base 32 v) (h : DataW.Trod enc Try.prog W 0 (fun _ => true) true 32 v d p) (hb : Rows.uptoBulk d ≤ 1048576) :
    ∃ (A : Option Addr) (c : Nat) (l : List (List Do)), v = .slice A l.length c ∧ PIn W A c l := by
  obtain ⟨A0, n0, c0, rfl⟩ := okWide_slice Try.underlying32 hv
  obtain ⟨fuel, hf⟩ := h
  have hC : Try.prog.cellsOf 53 = 1 := by kernel_rfl
  rcases open_slice Try.underlying32 hf with ⟨hcs, _⟩ | ⟨a, len, cap, m, n, D, Pl, hcs, _, hl, hm, hmm, hx, hi⟩
  · simp [Value.cells] at hcs
    obtain ⟨rfl, rfl, rfl⟩ := hcs
    exact ⟨none, 0, [], rfl, ⟨fun i hi => absurd hi (by simp), by simp, by simp, by simp, by simp⟩⟩
  · simp [Value.cells] at hcs
    obtain ⟨rfl, rfl, rfl⟩ := hcs
    simp only [if_true] at hmm
    subst hmm
    simp only [Prod.mk.injEq] at hx
    obtain ⟨hd, _⟩ := hx
    obtain ⟨l, hll, hp⟩ := choose_list (fun i (row : List Do) => ∃ (B : Option Addr) (d : Nat), W.cells? 0 (a.add (i * 1)) 1 = some [.slice B row.length d] ∧ Row W W.heap.size B (flat rdC row) ∧ row.length ≤ d ∧ d ≤ maxLen ∧ (B = none → d = 0) ∧ row.length ≤ Rows.uptoBulk (D i)) n0 fun i hlt => by
      obtain ⟨cs', h1, h2⟩ := hi i (by omega)
      obtain ⟨B, d, row, rfl, hr⟩ := open_dos h2
      rw [hC] at h1
      exact ⟨row, B, d, h1, hr⟩
    subst hll
    have hsum := flat_bulk l D (fun i row hi => by obtain ⟨B, d, _, _, _, _, _, h⟩ := hp i row hi; exact h)
    rw [hd] at hb
    have hbs := bulk_slice ((List.range l.length).map D) ((List.range (m - l.length)).map fun j => D (l.length + j))
    have hbl := bulk_len ((List.range l.length).map D)
    simp only [List.length_map, List.length_range] at hbl hbs
    refine ⟨some a, m, l, rfl, ⟨fun i hi' => ?_, hl, hm, by omega, by omega⟩⟩
    obtain ⟨B, d, hc, hr, h1, h2, h3, _⟩ := hp i (l.getD i []) (getD_some [] hi')
    obtain ⟨b, o, spot⟩ := a
    have hcell := (World.cells?_some hc).2.2 0 (by decide)
    obtain ⟨_, _, hc0, _⟩ := hp 0 (l.getD 0 []) (getD_some [] (by omega))
    have hcell0 := (World.cells?_some hc0).2.2 0 (by decide)
    have hspot : spot = none := by simpa [Addr.add] using World.cell?_spot hcell0
    subst hspot
    rw [addr_add, addr_add] at hcell
    simp only [Nat.mul_one, Nat.add_zero] at hcell
    exact ⟨b, o, B, d, rfl, lt_of_cell hcell, hcell, hr, h1, h2, h3⟩
end

theorem exploreRuns_walk (A B : Option Addr) (c d : Nat) (l : List (List Do)) (o : List Int) (W : World) (h : ExIn W A B c d l o) :
    Calls Try.prog 4 #[.slice A l.length c, .slice B o.length d] W fun e w' => e = .returned (.bool true) ∧ Below W.heap.size W w' := by
  by_cases hp : progBad l = 0
  · exact exploreRuns_ok A B c d l o W h hp
  · exact exploreRuns_bad A B c d l o W h hp

set_option maxRecDepth 100000 in
theorem exploreRuns_called : CalledUpto 4 Try.f4 := by
  intro H enc W base args ds p hval hA hsz hbulk
  rw [Try.params4] at hA hval
  obtain ⟨v0, v1, d0, d1, p0, p1, rfl, rfl, rfl, h0, h1⟩ := trodAll_two hA
  simp only [Rows.uptoBulkAll] at hbulk
  obtain ⟨A, c, l, rfl, hin⟩ := open_progs (hval 0 32 v0 rfl rfl) h0 (by omega)
  obtain ⟨B, d, xs, rfl, hr, _, _, _, hd⟩ := open_intRow Try.underlying33 Try.underlying3 (by kernel_rfl) (hval 1 33 v1 rfl rfl) h1
  refine exploreRuns_walk A B c d l xs W ⟨hin, hr, ?_⟩
  rcases hd with ⟨_, rfl, _⟩ | ⟨el, sp, rfl, hl, _⟩
  · simp
  · have h1 := bulk_slice el sp
    have h2 := bulk_len el
    omega

set_option maxRecDepth 100000 in
theorem exploreRuns_lifted (os : Os) (started : os.Started) (H : Type) (enc : TypeId × Value → H) (F : Stop.Interp) :
    ReturnsInHanded {} Try.checked os 4 .any ((Rows.OpenSpec.upto Rows.exploreRunsSpec).pre6 enc Try.prog Try.f4 Rows.exploreRunsUptoRow.domain false) (((Rows.OpenSpec.upto Rows.exploreRunsSpec).at F).post enc Try.prog Try.f4 false true false false) :=
  law_lift_upto started (by kernel_rfl) Try.func4
    (OpenSpec.witness (enc := enc) (C := Try.checked) (s := Rows.OpenSpec.upto Rows.exploreRunsSpec) (k := Rows.uptoSmall) rfl false ⟨#[], #[.slice none 0 0, .slice none 0 0], []⟩ 8 (by kernel_rfl) (by kernel_rfl) (by kernel_rfl)
      (x := ([.nil, .nil], [], [])) (by kernel_rfl) rfl (by kernel_rfl))
    rfl rfl (by kernel_rfl) (by kernel_rfl) (fun l hl => by
      rw [Try.params4] at hl
      match l, hl with
      | [d0, d1], _ => rfl) exploreRuns_called

theorem exploreRuns_holds : Rows.ExploreRunsUptoSaid :=
  OpenClaim.holds_of_cond 4 Try.f4 rfl rfl rfl rfl rfl rfl rfl ⟨rfl, rfl, rfl, rfl, rfl⟩ rfl rfl rfl rfl rfl (by kernel_rfl) Try.func4 (by kernel_rfl)
    (of_decide_eq_true (by kernel_rfl)) (by unfold Func.isWrapper; first | (rw [if_pos (by decide +kernel)]; kernel_rfl) | (rw [if_neg (by decide +kernel)]; exact ⟨rfl, rfl⟩))
    (fun os started H enc _ F => exploreRuns_lifted os started H enc F)
end Go.Proofs.Ytcmkkfpcdebfkaa
