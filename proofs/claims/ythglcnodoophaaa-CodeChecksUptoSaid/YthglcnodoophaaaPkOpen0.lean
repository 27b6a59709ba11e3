
/-
  Patterns as an argument holds them: how one opens (with its size under the argument's bulk).
-/
import Derived.Test.YthglcnodoophaaaValRead
import Derived.Test.YthglcnodoophaaaVSize
import Derived.Test.YthglcnodoophaaaFrameU
namespace Go.Proofs.Ythglcnodoophaaa
open Go.ChangeShapes Go.WideShapes Go.RowKit Go.Deep

section
variable {H : Type} {enc : TypeId × Value → H} {P : Program} {W : World}

theorem sizes_bulk : ∀ (vs : List Val) (ds : List (DataW H)), vs.length = ds.length → (∀ (i : Nat) (v : Val) (d : DataW H), vs[i]? = some v → ds[i]? = some d → v.size ≤ Rows.uptoBulk d) → Val.sizes vs ≤ Rows.uptoBulkAll ds
  | [], _, _, _ => by simp [Val.sizes]
  | v :: r, [], h, _ => by simp at h
  | v :: r, d :: s, h, k => by
    have h0 := k 0 v d rfl rfl
    have h1 := sizes_bulk r s (by simpa using h) (fun i v' d' hv hd => k (i + 1) v' d' (by simpa using hv) (by simpa using hd))
    simp only [Val.sizes, Rows.uptoBulkAll]
    omega
/-- A slice of elements, each of which opens with less fuel; what is told of each, of its own datum. -/
theorem open_rowTied {α : Type} (ec : α → List Value) (G : α → DataW H → Prop) {size : Nat} {t e : TypeId} (ht : P.underlying t = some (.slice e)) (hC : P.cellsOf e = size) (hs : ∀ x, (ec x).length = size) (hz : 0 < size)
    {fuel : Nat} {cs : List Value} {x : DataW H × List MemPlace}
    (hopen : ∀ n, n < fuel → ∀ cs y, DataW.trod enc P W 0 (fun _ => true) true n e cs = some y → Sized P e y.1 → ∃ x : α, cs = ec x ∧ G x y.1)
    (h : DataW.trod enc P W 0 (fun _ => true) true fuel t cs = some x) (hx : Sized P t x.1) :
    ∃ (A : Option Addr) (c : Nat) (l : List α) (ds : List (DataW H)), cs = [.slice A l.length c] ∧ RowS W (· < W.heap.size) A (flat ec l) ∧ l.length ≤ c ∧ c ≤ maxLen ∧ (A = none → c = 0) ∧ l.length = ds.length ∧ (∀ (i : Nat) (y : α) (d : DataW H), l[i]? = some y → ds[i]? = some d → G y d) ∧ c * P.bytesOf e ≤ reachBytes ∧ Rows.uptoBulkAll ds + 1 ≤ Rows.uptoBulk x.1 := by
  subst hC
  rcases DataW.trod_slice ht h with ⟨rfl, rfl⟩ | ⟨a, len, cap, elems, rest, n, rfl, rfl, rfl, _, hl, hm, hel, hi, hsp, _⟩
  · exact ⟨none, 0, [], [], rfl, RowS.nil, by simp, by simp, fun _ => rfl, rfl, by simp, by simp, by simp [Rows.uptoBulkAll, Rows.uptoBulk]⟩
  · have hE : ∀ i, i < len → ∃ (x : α) (y : DataW H × List MemPlace), elems[i]? = some y ∧ W.cells? 0 (a.add (i * P.cellsOf e)) (P.cellsOf e) = some (ec x) ∧ G x y.1 := fun i hlt => by
      have h1 := hi i hlt
      rw [List.getElem?_eq_getElem (by omega)] at h1
      obtain ⟨cs', h2, h3⟩ := Option.bind_eq_some_iff.1 h1
      obtain ⟨x, rfl, hg⟩ := hopen n (by omega) _ _ h3 (fun m hm' => hx m (by
        simp only [DataW.weights, ht, List.mem_cons, List.mem_append]
        exact .inr (.inl (weightsAll_mem (List.mem_map.2 ⟨_, List.getElem_mem _, rfl⟩) m hm'))))
      exact ⟨x, _, List.getElem?_eq_getElem (by omega), h2, hg⟩
    obtain ⟨l, hll, hp⟩ := choose_list (fun i (x : α) => ∃ y : DataW H × List MemPlace, elems[i]? = some y ∧ W.cells? 0 (a.add (i * P.cellsOf e)) (P.cellsOf e) = some (ec x) ∧ G x y.1) len hE
    have hrl := (hsp rfl).1
    refine ⟨some a, cap, l, elems.map (·.1), by rw [hll], fun hpos => ?_, by omega, hm, (fun e => by cases e), by rw [List.length_map]; omega, fun i y d hy hd => ?_, ?_, ?_⟩
    · rw [flat_len hs] at hpos
      have hl0 : 0 < l.length := Nat.pos_of_ne_zero (fun h0 => by rw [h0] at hpos; simp at hpos)
      obtain ⟨b, o, spot⟩ := a
      obtain ⟨_, _, hc0, _⟩ := hp 0 (l[0]) (List.getElem?_eq_getElem hl0)
      have hcell := (World.cells?_some hc0).2.2 0 hz
      rw [List.getElem?_eq_getElem (by rw [hs]; exact hz)] at hcell
      have hspot : spot = none := by simpa [Addr.add] using World.cell?_spot hcell
      subst hspot
      refine ⟨b, o, rfl, by simpa [Addr.add] using lt_of_cell hcell, fun k v hv => ?_⟩
      have hk : k < (flat ec l).length := (List.getElem?_eq_some_iff.1 hv).1
      rw [flat_len hs] at hk
      have hdm := Nat.div_add_mod k (P.cellsOf e)
      have hmod := Nat.mod_lt k hz
      have hdiv : k / P.cellsOf e < l.length := Nat.div_lt_of_lt_mul (by rw [Nat.mul_comm]; exact hk)
      obtain ⟨_, _, hck, _⟩ := hp (k / P.cellsOf e) _ (List.getElem?_eq_getElem hdiv)
      have hcell := (World.cells?_some hck).2.2 (k % P.cellsOf e) hmod
      rw [addr_add, addr_add, Nat.add_assoc, Nat.mul_comm (k / P.cellsOf e), hdm] at hcell
      rw [hcell, ← hv]
      have hg := flat_get (enc := ec) hs (List.getElem?_eq_getElem hdiv) (List.getElem?_eq_getElem (show k % P.cellsOf e < (ec (l[k / P.cellsOf e])).length by rw [hs]; exact hmod))
      rw [Nat.mul_comm (k / P.cellsOf e), hdm] at hg
      rw [hg]
      exact List.getElem?_eq_getElem _
    · obtain ⟨y', h1, _, h2⟩ := hp i y hy
      rw [List.getElem?_map, h1] at hd
      injection hd with hd
      subst hd
      exact h2
    · have := hx ((elems.map (·.1)).length + (rest.map (·.1)).length |>.mul (P.bytesOf e)) (by simp only [DataW.weights, ht]; exact List.mem_cons_self ..)
      simp only [List.length_map, hel, hrl] at this
      rw [show len + (cap - len) = cap by omega] at this
      exact this
    · simp only [Rows.uptoBulk]
      omega
end

section
variable {H : Type} {enc : TypeId × Value → H} {W : World}
set_option maxRecDepth 100000 in
/-- A pattern that is handed in. -/
theorem open_pat : ∀ (fuel : Nat) (cs : List Value) (x : DataW H × List MemPlace), DataW.trod enc Try.prog W 0 (fun _ => true) true fuel 41 cs = some x → Sized Try.prog 41 x.1 →
    ∃ y : VC, cs = valC y ∧ ∃ v, VIn W (· < W.heap.size) fuel y v ∧ v.size ≤ Rows.uptoBulk x.1 := by
  intro fuel
  induction fuel using Nat.strongRecOn with
  | _ fuel ih =>
    intro cs x h hx
    obtain ⟨ys, k, rfl, rfl, hl, hyl, hf⟩ := DataW.trod_struct Try.underlying41 h
    rw [show Try.prog.cellsOf 41 = 4 by kernel_rfl] at hl
    match ys, hyl with
    | [y0, y1, y2, y3], _ =>
    match cs, hl with
    | [c0, c1, c2, c3], _ =>
    have e0 := hf 0 _ rfl
    have e1 := hf 1 _ rfl
    have e2 := hf 2 _ rfl
    have e3 := hf 3 _ rfl
    simp only [List.getElem?_cons_zero, List.getElem?_cons_succ] at e0 e1 e2 e3
    obtain ⟨kd, h0, _, w0⟩ := DataW.trod_int Try.underlying3 e0
    obtain ⟨nm, h1, _, w1⟩ := DataW.trod_int Try.underlying3 e1
    obtain ⟨tx, h2, _, w2⟩ := DataW.trod_string Try.underlying9 e2
    obtain ⟨A, c, l, ds, h3, hr, hlc, hcm, hA, hld, hG, hby, hbk⟩ := open_rowTied valC (fun y d => ∃ v, VIn W (· < W.heap.size) k y v ∧ v.size ≤ Rows.uptoBulk d) (size := 4) Try.underlying39 (by kernel_rfl) valC_len (by decide)
      (fun n hn cs y hy hsz => by
        obtain ⟨y', hy1, v, hv, hb⟩ := ih n (by omega) cs y hy hsz
        exact ⟨y', hy1, v, hv.more (by omega), hb⟩) e3 (hx.field Try.underlying41 (j := 3) rfl rfl)
    rw [show Try.prog.bytesOf 41 = 56 by kernel_rfl] at hby
    injection h0 with h0
    injection h1 with h1
    injection h2 with h2
    injection h3 with h3
    subst h0 h1 h2 h3
    obtain ⟨vs, hvl, hvs⟩ := choose_list (fun i (v : Val) => VIn W (· < W.heap.size) k (l.getD i vc0) v ∧ ∀ d, ds[i]? = some d → v.size ≤ Rows.uptoBulk d) l.length fun i hi => by
      obtain ⟨v, hv, hb⟩ := hG i (l.getD i vc0) (ds.getD i DataW.nil) (getD_some vc0 hi) (getD_some DataW.nil (by omega))
      refine ⟨v, hv, fun d hd => ?_⟩
      rw [getD_some DataW.nil (show i < ds.length by omega)] at hd
      injection hd with hd
      rw [← hd]
      exact hb
    refine ⟨⟨kd, nm, tx, A, l.length, c⟩, rfl, .mk kd nm tx vs, ⟨⟨rfl, rfl, rfl, hvl.symm, w2, I64.of_wf w0, I64.of_wf w1⟩, ⟨hlc, hcm, hA, ?_⟩, l, rfl, hr, fun i hi => (hvs i _ (getD_some val0 (by rw [hvl]; exact hi))).1⟩, ?_⟩
    · have : l.length * 56 ≤ c * 56 := Nat.mul_le_mul_right _ hlc
      show l.length * 56 ≤ reachBytes
      omega
    · have hsb := sizes_bulk vs ds (by omega) (fun i v d hv hd => (hvs i v hv).2 d hd)
      simp only [Val.size, Rows.uptoBulk, Rows.uptoBulkAll, List.map_cons, List.map_nil]
      omega

end
end Go.Proofs.Ythglcnodoophaaa
