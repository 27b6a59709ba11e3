/-
  GossipPlays: every sequence of calls of a membership protocol has the specified results.
-/
import Derived.Test.YtaecgapoaagjfaaGossipPlays
import Derived.Lib.SmallJoins
namespace Go.Proofs.Ytaecgapoaagjfaa
open Go.ChangeShapes Go.WideShapes Go.ChangeAt Go.RowKit Go.Joins Go.Deep

section
variable {H : Type} {enc : TypeId × Value → H} {W : World}
set_option maxRecDepth 100000 in
theorem open_told (n : Nat) (cs : List Value) (y : DataW H × List MemPlace) (h : DataW.trod enc Try.prog W 0 (fun _ => true) true n 52 cs = some y) : ∃ x : Value, cs = [x] ∧ Told W x := by
  obtain ⟨A, c, l, hcs, hr, hlc, hm, _⟩ := open_rowOf grC (fun _ => True) (size := 3) Try.underlying52 (by kernel_rfl) grC_len (by decide) (fun n cs y hy => by
    obtain ⟨hl, hfs⟩ := open_fields Try.underlying54 (by kernel_rfl) (by kernel_rfl) hy
    obtain ⟨u0, y0, k0, hu0, ht0⟩ := hfs 0 _ rfl
    obtain ⟨u1, y1, k1, hu1, ht1⟩ := hfs 1 _ rfl
    obtain ⟨u2, y2, k2, hu2, ht2⟩ := hfs 2 _ rfl
    obtain ⟨n0, e0, _⟩ := DataW.trod_int Try.underlying3 ht0
    obtain ⟨n1, e1, _⟩ := DataW.trod_int Try.underlying3 ht1
    obtain ⟨n2, e2, _⟩ := DataW.trod_int Try.underlying3 ht2
    injection e0 with e0
    injection e1 with e1
    injection e2 with e2
    subst e0 e1 e2
    refine ⟨(n0, n1, n2), ?_, trivial⟩
    match cs, hl with
    | [a, b, c], _ =>
      simp at hu0 hu1 hu2
      subst hu0 hu1 hu2
      rfl) h
  exact ⟨_, hcs, A, c, l, rfl, hr, by omega⟩
end

set_option maxRecDepth 100000 in
theorem gossipPlays_called : Called 4 Try.f4 := by
  intro H enc W base args ds p hval hA hsz
  rw [Try.params4] at hA hval
  obtain ⟨v0, v1, v2, v3, d0, d1, d2, d3, p0, p1, p2, p3, rfl, rfl, rfl, h0, h1, h2, h3⟩ := trodAll_four hA
  obtain ⟨me, rfl, rfl, rfl, w0⟩ := open_int Try.underlying3 (hval 0 3 v0 rfl rfl) h0
  obtain ⟨ticks, rfl, rfl, rfl, w1⟩ := open_int Try.underlying3 (hval 1 3 v1 rfl rfl) h1
  obtain ⟨A, c, xss, rfl, hr, hl, hm, _⟩ := open_intRows Try.underlying46 Try.underlying64 Try.underlying3 (by kernel_rfl) (by kernel_rfl) (hval 2 46 v2 rfl rfl) h2
  obtain ⟨B, n, d, rfl⟩ := okWide_slice Try.underlying47 (hval 3 47 v3 rfl rfl)
  obtain ⟨fuel, hf⟩ := h3
  obtain ⟨B', d', tl, hcs, hrt, hlt, hmt, _, hT, _⟩ := open_rowOf (fun v : Value => [v]) (Told W) (size := 1) Try.underlying47 (by kernel_rfl) (fun _ => rfl) (by decide) (fun n cs y hy => open_told n cs y hy) hf
  simp [Value.cells] at hcs
  obtain ⟨rfl, rfl, rfl⟩ := hcs
  refine gossipPlays_walk me ticks A B c d tl.length xss W hr (by omega) (by omega) (fun hpos => ?_)
  have hfl : flat (fun v : Value => [v]) tl = tl := by simp [flat]
  rw [hfl] at hrt
  obtain ⟨b, o, e, hb, hk⟩ := hrt hpos
  exact ⟨b, o, e, hb, fun k hk' => ⟨tl[k], hk k _ (List.getElem?_eq_getElem hk'), hT _ (List.getElem_mem hk')⟩⟩

set_option maxRecDepth 100000 in
theorem gossipPlays_lifted (os : Os) (started : os.Started) (H : Type) (enc : TypeId × Value → H) :
    ReturnsInHanded {} Try.checked os 4 .any (Rows.gossipPlaysSpec.pre6 enc Try.prog Try.f4 Rows.gossipPlaysRow.domain false) (Rows.gossipPlaysSpec.post enc Try.prog Try.f4 false true false false) :=
  law_lift started (by kernel_rfl) Try.func4
    (ChangeSpec.witness6 (enc := enc) (C := Try.checked) false ⟨#[], #[.int .i64 0, .int .i64 0, .slice none 0 0, .slice none 0 0], []⟩ 8 (by kernel_rfl) (by kernel_rfl) (by kernel_rfl) (by kernel_rfl))
    rfl rfl (by kernel_rfl) (by kernel_rfl) (fun l hl => by
      rw [Try.params4] at hl
      match l, hl with
      | [d0, d1, d2, d3], _ => rfl) gossipPlays_called

theorem gossipPlays_over : Rows.gossipPlaysRow.holds Try.pinned (OpenSpec.ofChange Rows.gossipPlaysSpec) :=
  OpenClaim.holds_of_wide 4 Try.f4 rfl rfl rfl rfl rfl rfl rfl ⟨rfl, rfl, rfl, rfl, rfl⟩ rfl rfl rfl rfl rfl (by kernel_rfl) Try.func4 (by kernel_rfl)
    (of_decide_eq_true (by kernel_rfl)) (by unfold Func.isWrapper; first | (rw [if_pos (by decide +kernel)]; kernel_rfl) | (rw [if_neg (by decide +kernel)]; exact ⟨rfl, rfl⟩))
    (fun os started H enc _ => gossipPlays_lifted os started H enc)

theorem gossipPlays_holds : Rows.GossipPlaysSaid := gossipPlays_over
end Go.Proofs.Ytaecgapoaagjfaa
