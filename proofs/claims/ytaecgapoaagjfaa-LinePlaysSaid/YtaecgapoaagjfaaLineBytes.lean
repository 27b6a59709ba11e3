/-
  Bodies copied, and compared.
-/
import Derived.Test.YtaecgapoaagjfaaRpkMk
import Derived.Laws.IdiomStrings
import Derived.IntWalk
import Derived.Outline
import Derived.Deep.LoopGhost
import Derived.Deep.RegionHeld3
namespace Go.Proofs.Ytaecgapoaagjfaa
open Go.RowKit

theorem flat_u8 (bs : Body) : flat u8C bs = u8s bs := by
  induction bs with
  | nil => rfl
  | cons b bs ih =>
    show u8C b ++ flat u8C bs = _
    rw [ih]
    rfl

theorem clone_body (x : BC) (bs : Body) (n : Nat) (S : Nat → Prop) (w : World) (h : BIn w S n x bs) (hm : bs.length ≤ 140737488355328) :
    Calls Try.prog 166 #[.slice x.A x.len x.cap] w fun e w' => ∃ y : BC, e = .returned (.slice y.A y.len y.cap) ∧ BIn w' (w.heap.size ≤ ·) n y bs ∧ Below w.heap.size w w' := by
  have hr : Row w w.heap.size x.A (flat u8C bs) := by rw [flat_u8]; exact h.2.1.all
  have := clone_u8 x.A x.cap bs w.heap.size w hr h.2.2.2.2 (by omega)
  rw [← h.1] at this
  refine this.mono ?_
  rintro e w' ⟨v, rfl, hown, hb⟩
  rw [h.1, flat_u8] at hown
  rcases hown.2 with ⟨rfl, h0⟩ | ⟨g, cap, cur, rfl, hg, hh, hn, hm', _, htk⟩
  · have hb0 : bs = [] := List.eq_nil_of_length_eq_zero h0
    subst hb0
    exact ⟨bc0, rfl, BIn.none, hb⟩
  · refine ⟨⟨some ⟨g, 0, none⟩, bs.length, cap⟩, rfl, ⟨rfl, fun hp => ⟨g, 0, rfl, hg, fun i u hu => ?_⟩, hn, hm', fun e => by cases e⟩, hb⟩
    have e1 : cur[i]? = some u := by
      rw [← Array.getElem?_toList]
      have h2 : (cur.toList.take (bs.length * 1))[i]? = some u := by rw [htk]; exact hu
      rw [List.getElem?_take] at h2
      split at h2
      · exact h2
      · cases h2
    simp [World.cell?, hh, e1]

set_option maxRecDepth 100000 in
theorem body_string (x : BC) (bs : Body) (n : Nat) (S : Nat → Prop) (w : World) (h : BIn w S n x bs) : (convert 80 9 (.slice x.A x.len x.cap)).run Try.prog w = .ok (.string ⟨bs.toArray⟩) w := by
  obtain ⟨A, len, cap⟩ := x
  obtain ⟨h1, h2, h3, h4, h5⟩ := h
  simp only at h1 h2 h3 h5 ⊢
  subst h1
  rcases A with _ | ⟨b, o, sp⟩
  · have hb0 : bs = [] := by
      have := h5 rfl
      exact List.eq_nil_of_length_eq_zero (by omega)
    subst hb0
    have := h5 rfl
    subst this
    show (convert 80 9 (.slice none 0 0)).run Try.prog w = _
    rw [run_convert_bytes_string w _ _ 5 none 0 0 Try.underlying80 Try.underlying5 Try.underlying9]
    rfl
  · by_cases hp : 0 < bs.length
    · obtain ⟨b', o', e, _, hc⟩ := h2 (by rw [u8s_len]; exact hp)
      injection e with e
      injection e with e1 e2 e3
      subst e1 e2 e3
      exact run_convert_bytes_back w _ _ 5 ⟨b, o, none⟩ cap bs Try.underlying80 Try.underlying5 Try.underlying9 (fun j hj => by
        rw [addr_add]
        exact hc j _ (by simp [u8s, hj]))
    · have hb0 : bs = [] := List.eq_nil_of_length_eq_zero (by omega)
      subst hb0
      exact run_convert_bytes_back w _ _ 5 ⟨b, o, sp⟩ cap [] Try.underlying80 Try.underlying5 Try.underlying9 (fun j hj => by simp at hj)

theorem enters_bytesEqual : Enters 54 := fun _ _ => by kernel_rfl
set_option maxRecDepth 100000 in
theorem bytesEqual_any (x y : BC) (a b : Body) (n : Nat) (S S' : Nat → Prop) (w : World) (hx : BIn w S n x a) (hy : BIn w S' n y b) :
    Calls Try.prog 54 #[.slice x.A x.len x.cap, .slice y.A y.len y.cap] w fun e w' => e = .returned (.bool (decide (a = b))) ∧ w = w' := by
  have e1 := body_string x a n S w hx
  have e2 := body_string y b n S' w hy
  have HE := Lib.hid (show ((⟨a.toArray⟩ : ByteArray).toList == (⟨b.toArray⟩ : ByteArray).toList) = decide (a = b) by
    rw [ByteArray.toList_eq, ByteArray.toList_eq]
    by_cases h : a = b <;> simp [h])
  generalize (⟨a.toArray⟩ : ByteArray) = sa at *
  generalize (⟨b.toArray⟩ : ByteArray) = sb at *
  generalize decide (a = b) = q at *
  clear hx hy
  go_enter Try.func54, Try.ntmps54
  go_wp2_with fail
  go_ret
  exact ⟨by rw [← HE.out]; rfl, rfl⟩
end Go.Proofs.Ytaecgapoaagjfaa
