/-
  LinePlays: every sequence of calls of a channel end, with any packets, has the specified results.
-/
import Derived.Test.YtaecgapoaagjfaaLinePlays
import Derived.Lib.SmallJoins
namespace Go.Proofs.Ytaecgapoaagjfaa
open Go.ChangeShapes Go.WideShapes Go.ChangeAt Go.RowKit Go.Joins Go.Deep

section
variable {H : Type} {enc : TypeId × Value → H} {W : World}
theorem u8_of (v : Int) (h : (Lit.int .u8 v).wf = true) : ∃ b : UInt8, (b.toNat : Int) = v := by
  have h1 : 0 ≤ v ∧ v < 256 := by
    have h1 : IntKind.u8.min = 0 := by decide
    have h2 : IntKind.u8.max = 255 := by decide
    simp [Lit.wf, h1, h2] at h
    omega
  refine ⟨UInt8.ofNat v.toNat, ?_⟩
  simp
  omega
theorem u32_of (v : Int) (h : (Lit.int .u32 v).wf = true) : 0 ≤ v ∧ v < 4294967296 := by
  have h1 : IntKind.u32.min = 0 := by decide
  have h2 : IntKind.u32.max = 4294967295 := by decide
  simp [Lit.wf, h1, h2] at h
  omega
set_option maxRecDepth 100000 in
theorem open_body (n : Nat) (cs : List Value) (y : DataW H × List MemPlace) (h : DataW.trod enc Try.prog W 0 (fun _ => true) true n 80 cs = some y) : ∃ x : BC, cs = bodyC x ∧ ∃ b, BIn W (· < W.heap.size) 0 x b := by
  obtain ⟨A, c, l, hcs, hr, hlc, hm, hA, _⟩ := open_rowOf u8C (fun _ => True) (size := 1) Try.underlying80 (by kernel_rfl) (fun _ => rfl) (by decide) (fun n cs y hy => by
    obtain ⟨v, e, _, hwf⟩ := DataW.trod_int Try.underlying5 hy
    obtain ⟨b, hb⟩ := u8_of v hwf
    exact ⟨b, by rw [e, ← hb]; rfl, trivial⟩) h
  rw [flat_u8] at hr
  exact ⟨⟨A, l.length, c⟩, hcs, l, rfl, hr, hlc, hm, hA⟩
set_option maxRecDepth 100000 in
theorem open_pkt (n : Nat) (cs : List Value) (y : DataW H × List MemPlace) (h : DataW.trod enc Try.prog W 0 (fun _ => true) true n 91 cs = some y) : ∃ x : KC, cs = rpkC x ∧ ∃ p : Pkt, KIn W (· < W.heap.size) 0 x p ∧ (0 ≤ p.seq ∧ p.seq < 4294967296) ∧ 0 ≤ p.ack ∧ p.ack < 4294967296 := by
  obtain ⟨hl, hfs⟩ := open_fields Try.underlying91 (by kernel_rfl) (by kernel_rfl) h
  obtain ⟨u0, y0, k0, hu0, ht0⟩ := hfs 0 _ rfl
  obtain ⟨u1, y1, k1, hu1, ht1⟩ := hfs 1 _ rfl
  obtain ⟨u2, y2, k2, hu2, ht2⟩ := hfs 2 _ rfl
  obtain ⟨u3, y3, k3, hu3, ht3⟩ := hfs 3 _ rfl
  obtain ⟨u4, y4, k4, hu4, ht4⟩ := hfs 4 _ rfl
  obtain ⟨n0, e0, _, w0⟩ := DataW.trod_int Try.underlying83 ht0
  obtain ⟨n1, e1, _, w1⟩ := DataW.trod_int Try.underlying83 ht1
  obtain ⟨n2, e2, _⟩ := DataW.trod_bool Try.underlying4 ht2
  obtain ⟨n3, e3, _⟩ := DataW.trod_int Try.underlying3 ht3
  obtain ⟨xb, e4, b, hb⟩ := open_body _ _ _ ht4
  injection e0 with e0
  injection e1 with e1
  injection e2 with e2
  injection e3 with e3
  unfold bodyC at e4
  injection e4 with e4
  subst e0 e1 e2 e3 e4
  refine ⟨⟨n0, n1, n2, n3, xb⟩, ?_, ⟨n0, n1, n2, n3, b⟩, ⟨⟨rfl, rfl, rfl, rfl⟩, hb⟩, u32_of _ w0, u32_of _ w1⟩
  match cs, hl with
  | [a0, a1, a2, a3, a4], _ =>
    simp at hu0 hu1 hu2 hu3 hu4
    subst hu0 hu1 hu2 hu3 hu4
    rfl
end
theorem bytes_ints : Try.prog.bytesOf 64 = 24 := by kernel_rfl
theorem bytes_body : Try.prog.bytesOf 80 = 24 := by kernel_rfl
theorem bytes_pkt : Try.prog.bytesOf 91 = 48 := by kernel_rfl

set_option maxRecDepth 100000 in
theorem linePlays_called : Called 5 Try.f5 := by
  intro H enc W base args ds p hval hA hsz
  rw [Try.params5] at hA hval hsz
  obtain ⟨v0, v1, v2, v3, d0, d1, d2, d3, p0, p1, p2, p3, rfl, rfl, rfl, h0, h1, h2, h3⟩ := trodAll_four hA
  obtain ⟨win, rfl, rfl, rfl, w0⟩ := open_int Try.underlying3 (hval 0 3 v0 rfl rfl) h0
  obtain ⟨A, c, xss, rfl, hr, hl, hm, hd⟩ := open_intRows Try.underlying46 Try.underlying64 Try.underlying3 (by kernel_rfl) (by kernel_rfl) (hval 1 46 v1 rfl rfl) h1
  obtain ⟨B, nB, cB, rfl⟩ := okWide_slice Try.underlying74 (hval 2 74 v2 rfl rfl)
  obtain ⟨C, nC, cC, rfl⟩ := okWide_slice Try.underlying75 (hval 3 75 v3 rfl rfl)
  obtain ⟨fuel2, hf2⟩ := h2
  obtain ⟨fuel3, hf3⟩ := h3
  obtain ⟨B', cB', lb, hcs2, hrb, hlb, hmb, hAb, hG2, hd2⟩ := open_rowOf bodyC (fun x => ∃ b, BIn W (· < W.heap.size) 0 x b) (size := 1) Try.underlying74 (by kernel_rfl) bodyC_len (by decide) (fun n cs y hy => open_body n cs y hy) hf2
  obtain ⟨C', cC', lp, hcs3, hrp, hlp, hmp, hAp, hG3, hd3⟩ := open_rowOf rpkC (fun x => ∃ p : Pkt, KIn W (· < W.heap.size) 0 x p ∧ (0 ≤ p.seq ∧ p.seq < 4294967296) ∧ 0 ≤ p.ack ∧ p.ack < 4294967296) (size := 5) Try.underlying75 (by kernel_rfl) rpkC_len (by decide) (fun n cs y hy => open_pkt n cs y hy) hf3
  simp [Value.cells] at hcs2 hcs3
  obtain ⟨rfl, rfl, rfl⟩ := hcs2
  obtain ⟨rfl, rfl, rfl⟩ := hcs3
  obtain ⟨bs, hbl, hbs⟩ := choose_list (fun i b => BIn W (· < W.heap.size) 0 (lb.getD i bc0) b) lb.length (fun i hi => hG2 _ (getD_mem bc0 hi))
  obtain ⟨ps, hpl, hps⟩ := choose_list (fun i (q : Pkt) => KIn W (· < W.heap.size) 0 (lp.getD i kc0) q ∧ (0 ≤ q.seq ∧ q.seq < 4294967296) ∧ 0 ≤ q.ack ∧ q.ack < 4294967296) lp.length (fun i hi => hG3 _ (getD_mem kc0 hi))
  refine linePlays_walk win A B C c cB cC xss lb bs lp ps W hr ?_ ⟨hbl.symm, hrb, fun i hi => hbs i _ (getD_some [] (by omega)), hlb, hmb, hAb, ?_⟩ ⟨hpl.symm, hrp, fun i hi => (hps i _ (getD_some pkt0 (by omega))).1, hlp, hmp, hAp, ?_⟩ (fun q hq => ?_)
  · rcases hd with ⟨_, rfl, _⟩ | ⟨el, sp, rfl, e1, e2⟩
    · simp
    · have := sized_slice hsz (j := 1) (t := 46) (e := 64) rfl rfl Try.underlying46
      rw [bytes_ints] at this
      simp only [reachBytes] at this
      omega
  · rcases hd2 with ⟨_, e, _⟩ | ⟨el, sp, e0, e1, e2⟩
    · rw [e]; simp
    · have := sized_slice hsz (j := 2) (t := 74) (e := 80) (elems := el) (spare := sp) rfl (by simp only [List.getElem?_cons_succ, List.getElem?_cons_zero]; exact congrArg some e0) Try.underlying74
      rw [bytes_body] at this
      simp only [reachBytes] at this ⊢
      omega
  · rcases hd3 with ⟨_, e, _⟩ | ⟨el, sp, e0, e1, e2⟩
    · rw [e]; simp
    · have := sized_slice hsz (j := 3) (t := 75) (e := 91) (elems := el) (spare := sp) rfl (by simp only [List.getElem?_cons_succ, List.getElem?_cons_zero]; exact congrArg some e0) Try.underlying75
      rw [bytes_pkt] at this
      simp only [reachBytes] at this ⊢
      omega
  · obtain ⟨i, hi, e⟩ := List.mem_iff_getElem.1 hq
    exact (hps i q (by rw [← e]; exact List.getElem?_eq_getElem hi)).2

set_option maxRecDepth 100000 in
theorem linePlays_lifted (os : Os) (started : os.Started) (H : Type) (enc : TypeId × Value → H) :
    ReturnsInHanded {} Try.checked os 5 .any (Rows.linePlaysSpec.pre6 enc Try.prog Try.f5 Rows.linePlaysRow.domain false) (Rows.linePlaysSpec.post enc Try.prog Try.f5 false true false false) :=
  law_lift started (by kernel_rfl) Try.func5
    (ChangeSpec.witness6 (enc := enc) (C := Try.checked) false ⟨#[], #[.int .i64 0, .slice none 0 0, .slice none 0 0, .slice none 0 0], []⟩ 8 (by kernel_rfl) (by kernel_rfl) (by kernel_rfl) (by kernel_rfl))
    rfl rfl (by kernel_rfl) (by kernel_rfl) (fun l hl => by
      rw [Try.params5] at hl
      match l, hl with
      | [d0, d1, d2, d3], _ => rfl) linePlays_called

theorem linePlays_over : Rows.linePlaysRow.holds Try.pinned (OpenSpec.ofChange Rows.linePlaysSpec) :=
  OpenClaim.holds_of_wide 5 Try.f5 rfl rfl rfl rfl rfl rfl rfl ⟨rfl, rfl, rfl, rfl, rfl⟩ rfl rfl rfl rfl rfl (by kernel_rfl) Try.func5 (by kernel_rfl)
    (of_decide_eq_true (by kernel_rfl)) (by unfold Func.isWrapper; first | (rw [if_pos (by decide +kernel)]; kernel_rfl) | (rw [if_neg (by decide +kernel)]; exact ⟨rfl, rfl⟩))
    (fun os started H enc _ => linePlays_lifted os started H enc)

theorem linePlays_holds : Rows.LinePlaysSaid := linePlays_over
end Go.Proofs.Ytaecgapoaagjfaa
