/-
  bytes.Equal of bytes that are read.
-/
import Derived.Test.YtcmkkfpcdebfkaaBy8
namespace Go.Proofs.Ytcmkkfpcdebfkaa
open Go.RowKit

set_option maxRecDepth 100000 in
theorem by8_string (A : Option Addr) (c B : Nat) (bs : List UInt8) (w : World) (h : Row w B A (by8 bs)) : (convert 137 9 (.slice A bs.length c)).run Try.prog w = .ok (.string ⟨bs.toArray⟩) w := by
  rcases A with _ | ⟨b, o, sp⟩
  · have hb0 : bs = [] := by
      rcases bs with _ | ⟨x, r⟩
      · rfl
      · obtain ⟨b, o, e, _⟩ := h (by simp [by8])
        cases e
    subst hb0
    show (convert 137 9 (.slice none 0 c)).run Try.prog w = _
    rw [run_convert_bytes_string w _ _ 5 none 0 c Try.underlying137 Try.underlying5 Try.underlying9]
    rfl
  · by_cases hp : 0 < bs.length
    · obtain ⟨b', o', e, _, hc⟩ := h (by rw [by8_len]; exact hp)
      injection e with e
      injection e with e1 e2 e3
      subst e1 e2 e3
      exact run_convert_bytes_back w _ _ 5 ⟨b, o, none⟩ c bs Try.underlying137 Try.underlying5 Try.underlying9 (fun j hj => by
        rw [addr_add]
        exact hc j _ (by simp [by8, hj]))
    · have hb0 : bs = [] := List.eq_nil_of_length_eq_zero (by omega)
      subst hb0
      exact run_convert_bytes_back w _ _ 5 ⟨b, o, sp⟩ c [] Try.underlying137 Try.underlying5 Try.underlying9 (fun j hj => by simp at hj)

set_option maxRecDepth 100000 in
theorem eqBy (A A' : Option Addr) (c c' : Nat) (a b : List UInt8) (B B' : Nat) (w : World) (ha : Row w B A (by8 a)) (hb : Row w B' A' (by8 b)) :
    Calls Try.prog 78 #[.slice A a.length c, .slice A' b.length c'] w fun e w' => e = .returned (.bool (decide (a = b))) ∧ w = w' := by
  have e1 := by8_string A c B a w ha
  have e2 := by8_string A' c' B' b w hb
  have HE := Lib.hid (show ((⟨a.toArray⟩ : ByteArray).toList == (⟨b.toArray⟩ : ByteArray).toList) = decide (a = b) by
    rw [ByteArray.toList_eq, ByteArray.toList_eq]
    by_cases h : a = b <;> simp [h])
  generalize (⟨a.toArray⟩ : ByteArray) = sa at *
  generalize (⟨b.toArray⟩ : ByteArray) = sb at *
  generalize decide (a = b) = q at *
  clear ha hb
  go_enter Try.func78, Try.ntmps78
  go_wp2_with fail
  go_ret
  exact ⟨by rw [← HE.out]; rfl, rfl⟩
theorem eqBy1 (A A' : Option Addr) (c c' : Nat) (a : List UInt8) (B B' : Nat) (w : World) (ha : Row w B A (by8 a)) (hb : Row w B' A' (by8 a)) :
    Calls Try.prog 78 #[.slice A a.length c, .slice A' a.length c'] w fun e w' => e = .returned (.bool true) ∧ w = w' := by
  have h := eqBy A A' c c' a a B B' w ha hb
  rwa [decide_eq_true rfl] at h
end Go.Proofs.Ytcmkkfpcdebfkaa
