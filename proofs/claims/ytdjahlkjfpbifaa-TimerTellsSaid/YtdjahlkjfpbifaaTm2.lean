
/-
  Dues of the call's own, put in order (slices.SortFunc by timer.order).
-/
import Derived.Test.YtdjahlkjfpbifaaSortDu
import Derived.Test.YtdjahlkjfpbifaaTm1
namespace Go.Proofs.Ytdjahlkjfpbifaa
open Go.RowKit Go.Sort

theorem flatK_du (l : List Du) : flatK duC 2 l.toArray = (flat duC l).toArray := by
  apply Array.ext
  · rw [size_flatK]; simp [flat_len duC_len]
  · intro t h1 h2
    have ht : t < l.toArray.size * 2 := by rw [size_flatK] at h1; exact h1
    have h3 := get_flatK duC 2 l.toArray t ht
    rw [getElem!_pos _ t h1] at h3
    rw [h3]
    have hq : t / 2 < l.length := by simp at ht; omega
    have h6 : t % 2 < (duC l[t / 2]).length := Nat.mod_lt _ (by decide)
    have h4 := flat_get duC_len (l := l) (i := t / 2) (j := t % 2) (x := l[t / 2]) (u := (duC l[t / 2])[t % 2]) (List.getElem?_eq_getElem hq) (List.getElem?_eq_getElem h6)
    rw [show t / 2 * 2 + t % 2 = t by omega] at h4
    have h5 : t < (flat duC l).length := by rw [flat_len duC_len]; simpa using ht
    rw [List.getElem?_eq_getElem h5] at h4
    injection h4 with h4
    show _ = (flat duC l).toArray[t]
    rw [List.getElem_toArray, h4, getElem!_pos _ (t / 2) (by simpa using hq), getElem!_pos _ (t % 2) (by simpa using h6)]
    simp

theorem du_swo : SWO (ltOf ordD) where
  irrefl x := by unfold ltOf; rw [ordD_lt, duLt_not]; omega
  trans x y z h1 h2 := by unfold ltOf at *; rw [ordD_lt] at *; exact duLt_trans h1 h2
  ntrans x y z h1 h2 := by unfold ltOf at *; rw [ordD_lt, duLt_not] at *; omega

theorem drop_take_any {cur : Array Value} {o : Nat} {ys : List Value} (h : o + ys.length ≤ cur.size) : ((putCells id o ys.toArray cur).toList.drop o).take ys.length = ys := by
  apply List.ext_getElem
  · simp [putCells]; omega
  · intro i h1 h2
    simp [putCells, h2]

theorem enters_order : ∀ args w, (callFunc 107 args).run Try.prog w = .ok (.enter 107 args) w := fun _ _ => by kernel_rfl

theorem sortDu_own (g o c base : Nat) (l : List Du) (w : World) (ho : OwnAt w base 139 2 (some ⟨g, o, none⟩) l.length c (flat duC l)) (hbig : l.length < 4611686018427387904) :
    Calls Try.prog 106 #[.slice (some ⟨g, o, none⟩) l.length c, .func (.func 107) #[] #[]] w fun e w' =>
      e = .returned (.tuple #[]) ∧ ∃ l', l'.Perm l ∧ l'.Pairwise (fun a b => duLt b a = false) ∧ OwnAt w' base 139 2 (some ⟨g, o, none⟩) l'.length c (flat duC l') ∧ Only (· = g) w w' := by
  have hcap := ho.cap_le
  unfold maxLen at hcap
  have hlt := ho.lt
  have hH : HoldsK duC 2 w g o l.toArray := fun j hj => by
    rw [flatK_du] at hj ⊢
    have hj' : j < (flat duC l).length := by simpa using hj
    refine ⟨?_, ho.frozen _⟩
    rw [ho.cells j (flat duC l)[j] (List.getElem?_eq_getElem hj')]
    simp [hj']
  have hcmp : CmpLays Try.prog 107 #[] duC 2 ordD g o l.toArray.size w := fun m os dk _ x y => by
    have := order_any x y (sortWorldK duC 2 w g o m dk os)
    exact this.mono fun e w' ⟨h1, h2⟩ => ⟨h1, h2⟩
  have hx := AnyQ.slices_SortFunc sortDu_lays 2 Try.isAgg139 Try.sizeOf139 duC (fun _ => rfl) (fun x v hv => du_one x v hv) ordD du_swo 107 #[] g o c l.toArray w enters_order hcmp hH hlt.2 (by simpa using hbig)
  change Calls Try.prog 106 #[.slice (some ⟨g, o, none⟩) l.toArray.size c, .func (.func 107) #[] #[]] w _ at hx
  rw [List.size_toArray] at hx
  refine hx.mono ?_
  rintro e w' ⟨rfl, d', m, os, hp, hs, rfl⟩
  obtain ⟨hp1, _, hp3⟩ := hp
  obtain ⟨l', rfl⟩ : ∃ l' : List Du, d' = l'.toArray := ⟨d'.toList, by simp⟩
  have hll : l'.length = l.length := by simpa using hp1
  have hperm : l'.Perm l := by
    have : (l'.toArray.extract 0 l.length).toList = l' := by simp [← hll]
    have h2 : (l.toArray.extract 0 l.length).toList = l := by simp
    rwa [this, h2] at hp3
  have hsort : l'.Pairwise (fun a b => duLt b a = false) := by
    rw [List.pairwise_iff_getElem]
    intro i j hi hj hij
    have := hs i j (Nat.zero_le _) hij (by omega)
    unfold ltOf at this
    rw [ordD_lt] at this
    simpa [hi, hj] using this
  refine ⟨rfl, l', hperm, hsort, ?_⟩
  have hF : sortWorldK duC 2 w g o m l'.toArray os = grow (putRow id (Go.Sort.ahead w m) g o (flat duC l').toArray) os := by
    unfold sortWorldK putRowK; rw [flatK_du]
  rw [hF]
  rcases ho.2 with ⟨h1, _⟩ | ⟨g', o', cur, hA, h1, h2, h3, h4, h5, h6⟩
  · cases h1
  injection hA with hA
  injection hA with hg ho'
  subst hg ho'
  have hfl : (flat duC l').length = l'.length * 2 := flat_len duC_len l'
  have hgl : g < (putRow id (Go.Sort.ahead w m) g o (flat duC l').toArray).heap.size := by unfold putRow mapBlock Go.Sort.ahead; simp; exact hlt.2
  have hheap : (grow (putRow id (Go.Sort.ahead w m) g o (flat duC l').toArray) os).heap[g]? = some (.cells (putCells id o (flat duC l').toArray cur) 139 (0, 0)) := by
    rw [heap_grow_old _ _ hgl]
    unfold putRow mapBlock Go.Sort.ahead
    simp only [Array.getElem?_modify, if_true, h2, Option.map_some, onCells]
  refine ⟨⟨by rw [hfl], .inr ⟨g, o, putCells id o (flat duC l').toArray cur, rfl, h1, hheap, by omega, h4, by simpa [putCells] using h5, ?_⟩⟩, ?_⟩
  · have := drop_take_any (cur := cur) (o := o) (ys := flat duC l') (by rw [hfl]; omega)
    rw [hfl] at this
    exact this
  · refine ⟨rfl, rfl, rfl, ?_, fun i hi hne => ?_⟩
    · rw [size_grow]; unfold putRow mapBlock Go.Sort.ahead; simp
    · rw [heap_grow_old _ _ (by unfold putRow mapBlock Go.Sort.ahead; simpa using hi)]
      unfold putRow mapBlock Go.Sort.ahead
      simp only [Array.getElem?_modify]
      rw [if_neg (fun e => hne e.symm)]
end Go.Proofs.Ytdjahlkjfpbifaa
