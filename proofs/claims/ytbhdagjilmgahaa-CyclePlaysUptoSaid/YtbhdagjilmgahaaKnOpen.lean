
/-
  Records of a marking as an argument holds them, of bounded bulk: how they open.
-/
import Derived.Test.YtbhdagjilmgahaaKn4
import Derived.Test.YtbhdagjilmgahaaFrameU
import Derived.Test.YtbhdagjilmgahaaOpen
namespace Go.Proofs.Ytbhdagjilmgahaa
open Go.ChangeShapes Go.WideShapes Go.ChangeAt Go.RowKit Go.Deep

section
variable {H : Type} {enc : TypeId × Value → H} {P : Program} {W : World}
def Sized (P : Program) (t : TypeId) (d : DataW H) : Prop := ∀ n ∈ d.weights P t, n ≤ reachBytes
theorem sized_each {ts : List TypeId} {ds : List (DataW H)} (h : (DataW.weightsEach P ts ds).all (· ≤ reachBytes) = true) {j : Nat} {t : TypeId} {d : DataW H} (ht : ts[j]? = some t) (hd : ds[j]? = some d) : Sized P t d := fun n hn => by
  simpa using List.all_eq_true.1 h n (DataW.weights_mem_each ht hd n hn)
theorem weightsAll_mem {e : TypeId} : ∀ {ds : List (DataW H)} {d : DataW H}, d ∈ ds → ∀ n ∈ d.weights P e, n ∈ DataW.weightsAll P e ds
  | d0 :: ds, d, hd, n, hn => by
    simp only [DataW.weightsAll, List.mem_append]
    rcases List.mem_cons.1 hd with rfl | hd
    · exact .inl hn
    · exact .inr (weightsAll_mem hd n hn)
theorem Sized.field {t : TypeId} {fs : Array Field} {parts : List (DataW H)} (he : P.underlying t = some (.struct fs)) (h : Sized P t (.agg parts)) {j : Nat} {f : Field} {d : DataW H} (hj : fs[j]? = some f) (hd : parts[j]? = some d) : Sized P f.type d := fun n hn => by
  refine h n ?_
  simp only [DataW.weights, he]
  exact DataW.weights_mem_each (by simp [hj]) hd n hn
/-- A slice of elements, each of which opens with less fuel; what is told of each, of its own datum. -/
theorem open_rowTiedK {α : Type} (ec : α → List Value) (G : α → DataW H → Prop) {size : Nat} {t e : TypeId} (ht : P.underlying t = some (.slice e)) (hC : P.cellsOf e = size) (hs : ∀ x, (ec x).length = size) (hz : 0 < size)
    {fuel : Nat} {cs : List Value} {x : DataW H × List MemPlace}
    (hopen : ∀ n, n < fuel → ∀ cs y, DataW.trod enc P W 0 (fun _ => true) true n e cs = some y → Sized P e y.1 → ∃ x : α, cs = ec x ∧ G x y.1)
    (h : DataW.trod enc P W 0 (fun _ => true) true fuel t cs = some x) (hx : Sized P t x.1) :
    ∃ (A : Option Addr) (c : Nat) (l : List α) (ds : List (DataW H)), cs = [.slice A l.length c] ∧ Row W W.heap.size A (flat ec l) ∧ l.length ≤ c ∧ c ≤ maxLen ∧ (A = none → c = 0) ∧ l.length = ds.length ∧ (∀ (i : Nat) (y : α) (d : DataW H), l[i]? = some y → ds[i]? = some d → G y d) ∧ c * P.bytesOf e ≤ reachBytes ∧ Rows.uptoBulkAll ds + 1 ≤ Rows.uptoBulk x.1 := by
  subst hC
  rcases DataW.trod_slice ht h with ⟨rfl, rfl⟩ | ⟨a, len, cap, elems, rest, n, rfl, rfl, rfl, _, hl, hm, hel, hi, hsp, _⟩
  · exact ⟨none, 0, [], [], rfl, (fun h => absurd h (by simp [flat])), by simp, by simp, fun _ => rfl, rfl, by simp, by simp, by simp [Rows.uptoBulkAll, Rows.uptoBulk]⟩
  · have hE : ∀ i, i < len → ∃ (x : α) (y : DataW H × List MemPlace), elems[i]? = some y ∧ W.cells? 0 (a.add (i * P.cellsOf e)) (P.cellsOf e) = some (ec x) ∧ G x y.1 := fun i hlt => by
      have h1 := hi i hlt
      rw [List.getElem?_eq_getElem (by omega)] at h1
      obtain ⟨cs', h2, h3⟩ := Option.bind_eq_some_iff.1 h1
      obtain ⟨x, rfl, hg⟩ := hopen n (by omega) _ _ h3 (fun m hm' => hx m (by
        simp only [DataW.weights, ht, List.mem_cons, List.mem_append]
        exact .inr (.inl (weightsAll_mem (List.mem_map.2 ⟨_, List.getElem_mem _, rfl⟩) m hm'))))
      exact ⟨x, _, List.getElem?_eq_getElem (by omega), h2, hg⟩
    obtain ⟨l, hll, hp⟩ := choose_list (fun i (x : α) => ∃ y : DataW H × List MemPlace, elems[i]? = some y ∧ W.cells? 0 (a.add (i * P.cellsOf e)) (P.cellsOf e) = some (ec x) ∧ G x y.1) len hE
    have hrl := (hsp rfl).1
    refine ⟨some a, cap, l, elems.map (·.1), by rw [hll], fun hpos => ?_, by omega, hm, (fun e => by cases e), by rw [List.length_map]; omega, fun i y d hy hd => ?_, ?_, ?_⟩
    · rw [flat_len hs] at hpos
      have hl0 : 0 < l.length := Nat.pos_of_ne_zero (fun h0 => by rw [h0] at hpos; simp at hpos)
      obtain ⟨b, o, spot⟩ := a
      obtain ⟨_, _, hc0, _⟩ := hp 0 (l[0]) (List.getElem?_eq_getElem hl0)
      have hcell := (World.cells?_some hc0).2.2 0 hz
      rw [List.getElem?_eq_getElem (by rw [hs]; exact hz)] at hcell
      have hspot : spot = none := by simpa [Addr.add] using World.cell?_spot hcell
      subst hspot
      refine ⟨b, o, rfl, by simpa [Addr.add] using lt_of_cell hcell, fun k v hv => ?_⟩
      have hk : k < (flat ec l).length := (List.getElem?_eq_some_iff.1 hv).1
      rw [flat_len hs] at hk
      have hdm := Nat.div_add_mod k (P.cellsOf e)
      have hmod := Nat.mod_lt k hz
      have hdiv : k / P.cellsOf e < l.length := Nat.div_lt_of_lt_mul (by rw [Nat.mul_comm]; exact hk)
      obtain ⟨_, _, hck, _⟩ := hp (k / P.cellsOf e) _ (List.getElem?_eq_getElem hdiv)
      have hcell := (World.cells?_some hck).2.2 (k % P.cellsOf e) hmod
      rw [addr_add, addr_add, Nat.add_assoc, Nat.mul_comm (k / P.cellsOf e), hdm] at hcell
      rw [hcell, ← hv]
      have hg := flat_get (enc := ec) hs (List.getElem?_eq_getElem hdiv) (List.getElem?_eq_getElem (show k % P.cellsOf e < (ec (l[k / P.cellsOf e])).length by rw [hs]; exact hmod))
      rw [Nat.mul_comm (k / P.cellsOf e), hdm] at hg
      rw [hg]
      exact List.getElem?_eq_getElem _
    · obtain ⟨y', h1, _, h2⟩ := hp i y hy
      rw [List.getElem?_map, h1] at hd
      injection hd with hd
      subst hd
      exact h2
    · have := hx ((elems.map (·.1)).length + (rest.map (·.1)).length |>.mul (P.bytesOf e)) (by simp only [DataW.weights, ht]; exact List.mem_cons_self ..)
      simp only [List.length_map, hel, hrl] at this
      rw [show len + (cap - len) = cap by omega] at this
      exact this
    · simp only [Rows.uptoBulk]
      omega
end
theorem flat_intsK : ∀ l : List Int, flat (fun x : Int => [Value.int .i64 x]) l = ints l
  | [] => rfl
  | x :: r => congrArg (Value.int .i64 x :: ·) (flat_intsK r)
section
variable {H : Type} {enc : TypeId × Value → H} {W : World}
def KnOk (W : World) (x : KnC) : Prop := (Row W W.heap.size x.A (ints x.refs) ∧ x.refs.length ≤ x.cap ∧ x.cap ≤ maxLen ∧ (x.A = none → x.cap = 0)) ∧ I64 x.ref ∧ ∀ y ∈ x.refs, I64 y
set_option maxRecDepth 100000 in
theorem open_kn1 (fuel : Nat) (cs : List Value) (x : DataW H × List MemPlace) (h : DataW.trod enc Try.prog W 0 (fun _ => true) true fuel 28 cs = some x) (hx : Sized Try.prog 28 x.1) :
    ∃ y : KnC, cs = knC y ∧ (KnOk W y ∧ y.refs.length ≤ Rows.uptoBulk x.1) := by
  obtain ⟨ys, k, rfl, rfl, hl, hyl, hf⟩ := DataW.trod_struct Try.underlying28 h
  rw [show Try.prog.cellsOf 28 = 4 by kernel_rfl] at hl
  match ys, hyl with
  | [y0, y1, y2, y3], _ =>
  match cs, hl with
  | [c0, c1, c2, c3], _ =>
  have e0 := hf 0 _ rfl
  have e1 := hf 1 _ rfl
  have e2 := hf 2 _ rfl
  have e3 := hf 3 _ rfl
  simp only [List.getElem?_cons_zero, List.getElem?_cons_succ] at e0 e1 e2 e3
  obtain ⟨n0, h0, _, w0⟩ := DataW.trod_int Try.underlying3 e0
  obtain ⟨b1, h1, _⟩ := DataW.trod_bool Try.underlying4 e1
  obtain ⟨b2, h2, _⟩ := DataW.trod_bool Try.underlying4 e2
  obtain ⟨A, c, l, ds, h3, hr, hlc, hm, hA, hld, hG, _, hbk⟩ := open_rowTiedK (fun x : Int => [Value.int .i64 x]) (fun y _ => I64 y) (size := 1) Try.underlying23 (by kernel_rfl) (fun _ => rfl) (by decide)
    (fun n hn cs y hy _ => by
      obtain ⟨m, hm, _, w⟩ := DataW.trod_int Try.underlying3 hy
      exact ⟨m, hm, I64.of_wf w⟩) e3 (hx.field Try.underlying28 (j := 3) rfl rfl)
  injection h0 with h0
  injection h1 with h1
  injection h2 with h2
  injection h3 with h3
  subst h0 h1 h2 h3
  rw [flat_intsK] at hr
  refine ⟨⟨n0, b1, b2, A, c, l⟩, rfl, ⟨⟨hr, hlc, hm, hA⟩, I64.of_wf w0, fun y hy => ?_⟩, ?_⟩
  · obtain ⟨i, hi⟩ := List.mem_iff_getElem?.1 hy
    have hil : i < ds.length := by rw [← hld]; exact (List.getElem?_eq_some_iff.1 hi).1
    exact hG i y _ hi (List.getElem?_eq_getElem hil)
  · have h5 := bulk_len ds
    simp only [Rows.uptoBulk, Rows.uptoBulkAll, List.map_cons, List.map_nil]
    omega
theorem bulk_allR : ∀ (K : List KnC) (ds : List (DataW H)), K.length = ds.length → (∀ (i : Nat) (y : KnC) (d : DataW H), K[i]? = some y → ds[i]? = some d → y.refs.length ≤ Rows.uptoBulk d) → (allR K).length ≤ Rows.uptoBulkAll ds
  | [], _, _, _ => Nat.zero_le _
  | y :: K, [], h, _ => by simp at h
  | y :: K, d :: ds, h, hf => by
    have h1 := hf 0 y d rfl rfl
    have h2 := bulk_allR K ds (by simpa using h) (fun i y d hy hd => hf (i + 1) y d hy hd)
    have h3 : allR (y :: K) = y.refs ++ allR K := rfl
    rw [h3, List.length_append, Rows.uptoBulkAll]
    omega
/-- How the records open. -/
theorem open_knc (fuel : Nat) (cs : List Value) (x : DataW H × List MemPlace) (h : DataW.trod enc Try.prog W 0 (fun _ => true) true fuel 22 cs = some x) (hx : Sized Try.prog 22 x.1) (hb : Rows.uptoBulk x.1 ≤ 1048576) :
    ∃ (A : Option Addr) (c : Nat) (K : List KnC), cs = [.slice A K.length c] ∧ KnIn W W.heap.size A K ∧ K.length ≤ 1048576 ∧ K.length ≤ c ∧ (A = none → c = 0) := by
  obtain ⟨A, c, K, ds, h1, hr, hlc, hm, hA, hld, hG, _, hbk⟩ := open_rowTiedK knC (fun y d => KnOk W y ∧ y.refs.length ≤ Rows.uptoBulk d) (size := 4) Try.underlying22 (by kernel_rfl) (fun _ => rfl) (by decide)
    (fun n hn cs y hy hs => open_kn1 n cs y hy hs) h hx
  have h2 := bulk_allR K ds hld (fun i y d hy hd => (hG i y d hy hd).2)
  have h3 := bulk_len ds
  have hk : ∀ y ∈ K, KnOk W y := fun y hy => by
    obtain ⟨i, hi⟩ := List.mem_iff_getElem?.1 hy
    have hil : i < ds.length := by rw [← hld]; exact (List.getElem?_eq_some_iff.1 hi).1
    exact (hG i y _ hi (List.getElem?_eq_getElem hil)).1
  exact ⟨A, c, K, h1, ⟨hr, fun y hy => (hk y hy).1, fun y hy => (hk y hy).2, by omega⟩, by omega, hlc, hA⟩
theorem open_kn (fuel : Nat) (cs : List Value) (x : DataW H × List MemPlace) (h : DataW.trod enc Try.prog W 0 (fun _ => true) true fuel 22 cs = some x) (hx : Sized Try.prog 22 x.1) (hb : Rows.uptoBulk x.1 ≤ 1048576) :
    ∃ (A : Option Addr) (c : Nat) (K : List KnC), cs = [.slice A K.length c] ∧ KnIn W W.heap.size A K ∧ K.length ≤ 1048576 ∧ K.length ≤ c := by
  obtain ⟨A, c, K, h1, h2, h3, h4, _⟩ := open_knc fuel cs x h hx hb
  exact ⟨A, c, K, h1, h2, h3, h4⟩
end
end Go.Proofs.Ytbhdagjilmgahaa
