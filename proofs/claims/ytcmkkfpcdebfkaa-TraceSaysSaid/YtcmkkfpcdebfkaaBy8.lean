/-
  Bytes of the call's own: what they read as; one byte appended; numbers written (package wire).
-/
import Derived.Test.YtcmkkfpcdebfkaaOwnOnly
import Derived.Laws.BitsAllLaws
import Derived.Laws.IdiomStrings
import Derived.IntWalk
import Derived.Outline
import Derived.Deep.LoopGhost
namespace Go.Proofs.Ytcmkkfpcdebfkaa
open Go.RowKit

def by8 (xs : List UInt8) : List Value := xs.map fun b => Value.int .u8 (b.toNat : Int)
theorem by8_len (xs : List UInt8) : (by8 xs).length = xs.length := by simp [by8]
theorem by8_append (xs ys : List UInt8) : by8 (xs ++ ys) = by8 xs ++ by8 ys := by simp [by8]
theorem Row.by8 {w : World} {B : Nat} {A : Option Addr} {xs : List UInt8} (h : Row w B A (by8 xs)) {i : Nat} (hi : i < xs.length) :
    ∃ b o, A = some ⟨b, o, none⟩ ∧ b < B ∧ w.cell? ⟨b, o + i, none⟩ = some (.int .u8 ((xs.getD i 0).toNat : Int)) := by
  obtain ⟨b, o, e, hb, hc⟩ := h.at (i := i) (by rw [by8_len]; exact hi)
  exact ⟨b, o, e, hb, by rw [hc]; simp [Go.Proofs.Ytcmkkfpcdebfkaa.by8, hi]⟩
theorem by8_info : (Try.prog.info? 5).map (fun i => (i.zero, i.size, i.bytes)) = some (some (.int .u8 0), 1, 1) := by kernel_rfl

/-- What lies at A grew, and lies at A' now; nothing else turned. -/
structure Grew (A A' : Option Addr) (w w' : World) : Prop where
  only : Only (fun b => A.map (·.block) = some b) w w'
  at' : ∀ b, A'.map (·.block) = some b → A.map (·.block) = some b ∨ w.heap.size ≤ b
theorem Grew.refl (A : Option Addr) (w : World) : Grew A A w w := ⟨Only.refl _ _, fun _ h => .inl h⟩
theorem Grew.trans {A A1 A2 : Option Addr} {w w1 w2 : World} (h : Grew A A1 w w1) (k : Grew A1 A2 w1 w2) : Grew A A2 w w2 := by
  refine ⟨⟨k.only.os.trans h.only.os, k.only.tape.trans h.only.tape, k.only.output.trans h.only.output, Nat.le_trans h.only.size k.only.size, fun i hi hne => ?_⟩, fun b hb => ?_⟩
  · refine (k.only.block i (Nat.lt_of_lt_of_le hi h.only.size) fun hb => ?_).trans (h.only.block i hi hne)
    rcases h.at' i hb with h1 | h1
    · exact hne h1
    · omega
  · rcases k.at' b hb with h1 | h1
    · exact h.at' b h1
    · exact .inr (Nat.le_trans h.only.size h1)
theorem Grew.alloc {A A' : Option Addr} {w w' : World} (h : Grew A A' w w') (o : Obj) : Grew A A' w (w'.alloc o) := ⟨h.only.alloc o, h.at'⟩
theorem Grew.push {A : Option Addr} {w w' : World} {g o : Nat} (hg : w.grownBy w' (A.map (·.block))) (hb : A.map (·.block) = some g ∨ g = w.heap.size) : Grew A (some ⟨g, o, none⟩) w w' :=
  ⟨⟨hg.os, hg.tape, hg.output, hg.size, fun i hi hne => hg.block i hi (fun e => hne e.symm)⟩, fun b e => by
    simp at e
    subst e
    rcases hb with hb | hb
    · exact .inl hb
    · exact .inr (by omega)⟩
theorem Grew.from_alloc {A A' : Option Addr} {w w' : World} {ob : Obj} (h : Grew A A' (w.alloc ob) w') : Grew A A' w w' :=
  ⟨((Only.refl _ w).alloc ob).trans h.only, fun b hb => by
    rcases h.at' b hb with h1 | h1
    · exact .inl h1
    · exact .inr (by simp at h1; omega)⟩
theorem Grew.below {A A' : Option Addr} {w w' W : World} {base : Nat} (h : Grew A A' w w') (hb : Below base W w) (hB : base ≤ w.heap.size) (hA : ∀ b, A.map (·.block) = some b → base ≤ b) : Below base W w' := h.only.to_below hb hB hA

/-- Bytes of the call's own. -/
abbrev ByOwn (w : World) (base : Nat) (A : Option Addr) (c : Nat) (xs : List UInt8) : Prop := OwnAt w base 5 1 A xs.length c (by8 xs)
theorem ByOwn.blk {w : World} {base : Nat} {A : Option Addr} {c : Nat} {xs : List UInt8} (h : ByOwn w base A c xs) : ∀ b, A.map (·.block) = some b → base ≤ b ∧ b < w.heap.size := by
  intro b hb
  rcases h.form with ⟨rfl, _⟩ | ⟨g, o, rfl⟩
  · cases hb
  · simp at hb
    subst hb
    exact h.lt

/-- One byte appended. -/
theorem wpList_push_by {ops : Array Oper} {rest : List Oper} {o : Oper} {a : Act} {w : World} {Q : Exit → Act → World → Prop} (hgd : o.guard = none) (s x : Operand)
    (ho : o.op = .call { callee := .builtin .append, args := #[s, x], argTypes := #[137, 137] })
    (base : Nat) (A : Option Addr) (c : Nat) (xs : List UInt8) (hs : a.eval s = .slice A xs.length c) (hown : ByOwn w base A c xs) (g : Nat) (y : UInt8) (hx : a.eval x = .slice (some ⟨g, 0, none⟩) 1 1) (hy : w.cell? ⟨g, 0, none⟩ = some (.int .u8 (y.toNat : Int)))
    (hb : xs.length + 1 ≤ 140737488355328) (hbase : base ≤ w.heap.size)
    (h : ∀ g' o' c' w', ByOwn w' base (some ⟨g', o', none⟩) c' (xs ++ [y]) → Grew A (some ⟨g', o', none⟩) w w' → wpList Try.prog ops Q rest (a.put o.dst (.slice (some ⟨g', o', none⟩) (xs ++ [y]).length c')) w') : wpList Try.prog ops Q (o :: rest) a w := by
  obtain ⟨i0, hi0, hz0, hz1, hz2⟩ := info_parts by8_info
  refine wpList_append_q hgd s x _ ho base 5 i0 (.int .u8 0) 1 1 Try.underlying137 hi0 hz0 hz1 hz2 rfl (by decide) A xs.length c (by8 xs) hs hown ⟨g, 0, none⟩ 1 1 [.int .u8 (y.toNat : Int)] hx rfl ?_ ?_ (by unfold maxLen; omega) (by omega) hbase (by decide) ?_
  · intro j u hu
    match j, hu with
    | 0, hu =>
      simp at hu
      subst hu
      simpa [Addr.add] using hy
    | j + 1, hu => simp at hu
  · intro u hu
    simp at hu
    subst hu
    rfl
  · intro g' o' c' w' h1 h2 h3
    have e1 : (xs ++ [y]).length = xs.length + 1 := by simp
    have e2 : by8 xs ++ [.int .u8 (y.toNat : Int)] = by8 (xs ++ [y]) := by rw [by8_append]; rfl
    rw [e2] at h1
    rw [← e1] at h1
    have := h g' o' c' w' h1 (Grew.push h2 h3)
    rwa [e1] at this

/-- The bytes of a number below 16384. -/
def enc (n : Nat) : List UInt8 := if n < 128 then [UInt8.ofNat n] else [UInt8.ofNat (n % 128 + 128), UInt8.ofNat (n / 128)]
theorem enc_lo {n : Nat} (h : n < 128) : enc n = [UInt8.ofNat n] := if_pos h
theorem enc_hi {n : Nat} (h : 128 ≤ n) (h2 : n < 16384) : enc n = UInt8.ofNat (n % 128 + 128) :: enc (n / 128) := by
  rw [enc, if_neg (by omega), enc_lo (by omega)]
theorem ofNat_toNat {n : Nat} (h : n < 256) : ((UInt8.ofNat n).toNat : Int) = (n : Int) := by simp; omega

theorem or_top (m : Nat) : bits BinOp.or IntKind.u8 ((m : Int) % 256) 128 = ((UInt8.ofNat (m % 128 + 128)).toNat : Int) := by
  rw [ofNat_toNat (by omega), show ((m : Int) % 256) = ((m % 256 : Nat) : Int) by omega, show (128 : Int) = ((128 : Nat) : Int) from rfl, u8_or_nat _ _ (by omega) (by omega)]
  congr 1
  rw [Nat.or_comm]
  have h : ∀ k : Nat, k < 256 → 128 ||| k = k % 128 + 128 := by decide +kernel
  rw [h _ (by omega)]
  omega

set_option maxHeartbeats 1000000 in
theorem unsignedW (A : Option Addr) (c base : Nat) (xs : List UInt8) (n : Nat) (w : World) (hn : n < 16384) (hown : ByOwn w base A c xs) (hx : xs.length ≤ 1000000) (hbase : base ≤ w.heap.size) :
    Calls Try.prog 201 #[.slice A xs.length c, .int .u64 (n : Int)] w fun e w' => ∃ g o c', e = .returned (.slice (some ⟨g, o, none⟩) (xs ++ enc n).length c') ∧ ByOwn w' base (some ⟨g, o, none⟩) c' (xs ++ enc n) ∧ Grew A (some ⟨g, o, none⟩) w w' := by
  have HO := Lib.hid hown
  have HN := Lib.hid hn
  clear hown
  go_enter Try.func201, Try.ntmps201
  go_wp2_with fail
  go_loopg [0, 1] n (fun gk v u wr => ∃ (m : Nat) (A' : Option Addr) (c' : Nat) (ys : List UInt8), gk = m ∧ u = .int .u64 (m : Int) ∧ v = .slice A' ys.length c' ∧ m < 16384 ∧ ys.length ≤ 1000001 ∧ (128 ≤ m → ys.length ≤ 1000000) ∧ ys ++ enc m = xs ++ enc n ∧ ByOwn wr base A' c' ys ∧ Grew A A' w wr)
  case atStart => exact ⟨n, A, c, xs, rfl, rfl, rfl, HN.out, by omega, fun _ => hx, rfl, HO.out, Grew.refl _ _⟩
  case round =>
    obtain ⟨m, A', c', ys, hgk, rfl, rfl, hm, hy, hy2, heq, hown, hgrew⟩ := hrel
    have HE := Lib.hid heq
    have HG := Lib.hid hgrew
    have HGK := Lib.hid hgk
    have hbs := hgrew.only.size
    clear hgk heq hgrew HO HN
    by_cases h128 : 128 ≤ m
    · have hy3 := hy2 h128
      clear hy2
      have d1 : decide ((128 : Int) ≤ (m : Int)) = true := decide_eq_true (by omega)
      have d2 : decide (128 ≤ m) = true := decide_eq_true h128
      have hor := or_top m
      have HEN := Lib.hid (enc_hi h128 hm)
      generalize UInt8.ofNat (m % 128 + 128) = y at *
      go_wp2_with (at_builtin; refine wpList_push_by rfl (.tmp 9) (.tmp 13) rfl base A' c' ys rfl (hown.alloc _) wr.heap.size y rfl ((Box.new _ _ _).cell 0) (by omega) (Nat.le_trans hbase (Nat.le_trans hbs (by simp))) ?_; intro g' o' c2 w2 hown' hgr')
      have HO' := Lib.hid hown'
      have HG' := Lib.hid (HG.out.trans hgr'.from_alloc)
      clear hown hown' hgr' hor
      go_roundg (m / 128)
      case measure => have := HGK.out; omega
      case rel => exact ⟨m / 128, _, c2, ys ++ [y], rfl, by simp, by rw [List.length_append]; rfl, by omega, by simp; omega, (fun h => by omega), by rw [List.append_assoc, List.singleton_append, ← HEN.out, HE.out], HO'.out, HG'.out⟩
    · have d1 : decide ((128 : Int) ≤ (m : Int)) = false := decide_eq_false (by omega)
      have d2 : decide (128 ≤ m) = false := decide_eq_false h128
      have HM := Lib.hid (show (m : Int) = ((UInt8.ofNat m).toNat : Int) by rw [ofNat_toNat (by omega)])
      have HB := Lib.hid (show (m : Int) % 256 = ((UInt8.ofNat m).toNat : Int) by rw [ofNat_toNat (by omega)]; omega)
      have HEN := Lib.hid (enc_lo (show m < 128 by omega))
      generalize UInt8.ofNat m = y at *
      go_wp2_with (at_builtin; refine wpList_push_by rfl (.tmp 15) (.tmp 18) rfl base A' c' ys rfl (hown.alloc _) wr.heap.size y rfl (((Box.new _ _ _).cell 0).trans (by first | (show some (Value.int .u8 (m : Int)) = _; rw [HM.out]) | (show some (Value.int .u8 ((m : Int) % 256)) = _; rw [HB.out]))) (by omega) (Nat.le_trans hbase (Nat.le_trans hbs (by simp))) ?_; intro g' o' c2 w2 hown' hgr')
      have HO' := Lib.hid hown'
      have HG' := Lib.hid (HG.out.trans hgr'.from_alloc)
      have HL := Lib.hid (show ys ++ [y] = xs ++ enc n by rw [← HEN.out, HE.out])
      clear hown hown' hgr'
      go_ret
      rw [← HL.out]
      exact ⟨g', o', c2, by rw [List.length_append]; rfl, HO'.out, HG'.out⟩

set_option maxHeartbeats 400000 in
theorem natW (A : Option Addr) (c base : Nat) (xs : List UInt8) (n : Nat) (w : World) (hn : n < 16384) (hown : ByOwn w base A c xs) (hx : xs.length ≤ 1000000) (hbase : base ≤ w.heap.size) :
    Calls Try.prog 155 #[.slice A xs.length c, .int .i64 (n : Int)] w fun e w' => ∃ g o c', e = .returned (.slice (some ⟨g, o, none⟩) (xs ++ enc n).length c') ∧ ByOwn w' base (some ⟨g, o, none⟩) c' (xs ++ enc n) ∧ Grew A (some ⟨g, o, none⟩) w w' := by
  have HC := Lib.hid (unsignedW A c base xs n w hn hown hx hbase)
  generalize xs ++ enc n = ys at *
  clear hown
  go_enter Try.func155, Try.ntmps155
  go_wp2_with fail
  refine HC.out.mono ?_
  rintro e w1 ⟨g, o, c', rfl, ho, hg⟩
  have HO := Lib.hid ho
  have HG := Lib.hid hg
  clear ho hg
  go_wp2_with fail
  go_ret
  exact ⟨g, o, c', rfl, HO.out, HG.out⟩
end Go.Proofs.Ytcmkkfpcdebfkaa
