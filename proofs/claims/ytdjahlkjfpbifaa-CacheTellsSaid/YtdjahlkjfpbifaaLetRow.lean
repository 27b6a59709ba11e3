
/-
  Slices of roadstead/api.Letter: what they read as, and the library's functions over them.
-/
import Derived.Test.YtdjahlkjfpbifaaValRow
import Derived.Laws.StructEq
namespace Go.Proofs.Ytdjahlkjfpbifaa
open Go.RowKit

def letterC (x : LC) : List Value := [.int .i64 x.kind, .int .i64 x.frm, .int .i64 x.to, .int .i64 x.num, .string x.text, .int .i64 x.v.kind, .int .i64 x.v.num, .string x.v.text, .slice x.v.A x.v.len x.v.cap]
def letterV (x : LC) : Value := .agg #[.int .i64 x.kind, .int .i64 x.frm, .int .i64 x.to, .int .i64 x.num, .string x.text, .int .i64 x.v.kind, .int .i64 x.v.num, .string x.v.text, .slice x.v.A x.v.len x.v.cap]
theorem letterC_len (x : LC) : (letterC x).length = 9 := rfl
theorem letter_info : (Try.prog.info? 37).map (fun i => (i.size, i.bytes)) = some (9, 104) := by kernel_rfl
theorem letter_zero : ((Try.prog.info? 37).bind (·.zero)).map (fun z => z.cells.size) = some 9 := by kernel_rfl
theorem letter_parts : ∃ i z, Try.prog.info? 37 = some i ∧ i.zero = some z ∧ i.size = 9 ∧ i.bytes = 104 ∧ z.cells.size = 9 := by
  have h1 := letter_info
  have h2 := letter_zero
  cases hi : Try.prog.info? 37 with
  | none => rw [hi] at h1; cases h1
  | some i =>
    rw [hi] at h1 h2
    simp only [Option.map_some, Option.some.injEq, Prod.mk.injEq, Option.bind_some] at h1 h2
    cases hz : i.zero with
    | none => rw [hz] at h2; cases h2
    | some z =>
      rw [hz] at h2
      simp only [Option.map_some, Option.some.injEq] at h2
      exact ⟨i, z, rfl, hz, h1.1, h1.2, h2⟩
theorem letter_one (x : LC) : ∀ u ∈ letterC x, u.oneCell' = true := by
  intro u hu
  simp only [letterC, List.mem_cons, List.not_mem_nil, or_false] at hu
  rcases hu with rfl | rfl | rfl | rfl | rfl | rfl | rfl | rfl | rfl <;> rfl
theorem letter_one_all (l : List (LC)) : ∀ u ∈ flat letterC l, u.oneCell' = true := by
  intro u hu
  simp only [flat, List.mem_flatMap] at hu
  obtain ⟨x, _, hx⟩ := hu
  exact letter_one x u hx
/-- Element i's cells. -/
theorem Row.letter {w : World} {B : Nat} {A : Option Addr} {l : List (LC)} (h : Row w B A (flat letterC l)) {i : Nat} (hi : i < l.length) (d : LC) :
    ∃ b o, A = some ⟨b, o, none⟩ ∧ b < B
      ∧ w.cell? ⟨b, o + i * 9, none⟩ = some (.int .i64 (l.getD i d).kind)
      ∧ w.cell? ⟨b, o + i * 9 + 1, none⟩ = some (.int .i64 (l.getD i d).frm)
      ∧ w.cell? ⟨b, o + i * 9 + 2, none⟩ = some (.int .i64 (l.getD i d).to)
      ∧ w.cell? ⟨b, o + i * 9 + 3, none⟩ = some (.int .i64 (l.getD i d).num)
      ∧ w.cell? ⟨b, o + i * 9 + 4, none⟩ = some (.string (l.getD i d).text)
      ∧ w.cell? ⟨b, o + i * 9 + 5, none⟩ = some (.int .i64 (l.getD i d).v.kind)
      ∧ w.cell? ⟨b, o + i * 9 + 6, none⟩ = some (.int .i64 (l.getD i d).v.num)
      ∧ w.cell? ⟨b, o + i * 9 + 7, none⟩ = some (.string (l.getD i d).v.text)
      ∧ w.cell? ⟨b, o + i * 9 + 8, none⟩ = some (.slice (l.getD i d).v.A (l.getD i d).v.len (l.getD i d).v.cap)
    := by
  obtain ⟨b, o, e, hb, hc⟩ := Row.elem letterC_len (by decide) h (getD_some d hi)
  exact ⟨b, o, e, hb, hc 0 _ rfl, hc 1 _ rfl, hc 2 _ rfl, hc 3 _ rfl, hc 4 _ rfl, hc 5 _ rfl, hc 6 _ rfl, hc 7 _ rfl, hc 8 _ rfl⟩

/-- One element appended to a row of the call's own. -/
theorem wpList_push_letter {ops : Array Oper} {rest : List Oper} {o : Oper} {a : Act} {w : World} {Q : Exit → Act → World → Prop} (hgd : o.guard = none) (s x : Operand)
    (ho : o.op = .call { callee := .builtin .append, args := #[s, x], argTypes := #[22, 22] })
    (base : Nat) (v : Value) (zs : List (LC)) (hs : a.eval s = v) (hown : w.ownsRow base 37 9 v zs.length (flat letterC zs)) (g : Nat) (y : LC) (hx : a.eval x = .slice (some ⟨g, 0, none⟩) 1 1) (hy : ∀ j u, (letterC y)[j]? = some u → w.cell? ⟨g, j, none⟩ = some u)
    (hb : (zs.length + 1) * 104 ≤ 140737488355328) (hbase : base ≤ w.heap.size)
    (h : ∀ v' w', w'.ownsRow base 37 9 v' (zs ++ [y]).length (flat letterC (zs ++ [y])) → w.grownBy w' v.ownBlock → wpList Try.prog ops Q rest (a.put o.dst v') w') : wpList Try.prog ops Q (o :: rest) a w := by
  obtain ⟨i0, z0, hi0, hz0, hz1, hz2, hz3⟩ := letter_parts
  refine wpList_append_own _ hgd s x _ ho base 37 i0 z0 9 104 Try.underlying22 hi0 hz0 hz1 hz2 hz3 (by decide) v zs.length (flat letterC zs) hs hown ⟨g, 0, none⟩ 1 1 (letterC y) hx rfl ?_ (letter_one y) (by unfold maxLen; omega) hb hbase ?_
  · intro j u hu
    rw [addr_add, Nat.zero_add]
    exact hy j u hu
  · intro v' w' h1 h2 _
    refine h v' w' ?_ h2
    rw [List.length_append, flat_append, flat_one]
    exact h1

set_option maxRecDepth 100000 in
set_option maxHeartbeats 1000000 in
theorem indexFunc_letter (A : Option Addr) (c : Nat) (xs : List (LC)) (fid : FuncId) (caps : Array Value) (f : LC → Bool) (B : Nat) (Inv : World → Prop) (w : World) (he : Enters fid) (hm : xs.length ≤ maxLen)
    (hr : ∀ w, Inv w → Row w B A (flat letterC xs))
    (hf : ∀ x ∈ xs, ∀ w, Inv w → Calls Try.prog fid (#[letterV x] ++ caps) w fun e w' => e = .returned (.bool (f x)) ∧ Inv w') (hi : Inv w) :
    Calls Try.prog 76 #[.slice A xs.length c, .func (.func fid) #[] caps] w fun e w' => e = .returned (.int .i64 (idxAt f xs 0)) ∧ Inv w' := by
  have HF := Lib.hid hf
  have HR := Lib.hid hr
  clear hf hr
  unfold Enters at he
  unfold maxLen at hm
  go_enter Try.func76, Try.ntmps76
  go_wp2_with fail
  go_loopw [8] (fun i wr => ∃ k : Nat, k ≤ xs.length ∧ i = .int .i64 k ∧ Hid (idxAt f xs 0 = idxAt f (xs.drop k) k) ∧ Inv wr) (fun i _ => xs.length - (intOf i).toNat)
  case atStart => exact ⟨0, by omega, rfl, rfl, hi⟩
  case round =>
    obtain ⟨k, hk, rfl, HK, hI⟩ := hrel
    by_cases hlt : k < xs.length
    · obtain ⟨b, o, rfl, _, hc0, hc1, hc2, hc3, hc4, hc5, hc6, hc7, hc8⟩ := (HR.out wr hI).letter hlt lc0
      have hmem := getD_mem lc0 hlt
      have HD := Lib.hid (idxAt_drop f xs lc0 k hlt k)
      generalize xs.getD k lc0 = x at *
      have HM := Lib.hid hmem
      clear hmem
      go_wp2_with fail
      refine (HF.out x HM.out wr hI).mono ?_
      rintro e w1 ⟨rfl, hI1⟩
      by_cases hfx : f x = true
      · have HX := Lib.hid hfx
        rw [hfx]
        clear hfx
        go_wp2_with fail
        go_ret
        refine ⟨?_, hI1⟩
        rw [HK.out, HD.out, if_pos HX.out]
        rfl
      · have HX := Lib.hid hfx
        rw [show f x = false by simpa using hfx]
        clear hfx
        go_wp2_with fail
        go_roundw
        case rel =>
          refine ⟨k + 1, by omega, by go_num, ?_, hI1⟩
          unfold Hid
          rw [HK.out, HD.out, if_neg HX.out]
          rfl
        case measure => simp [intOf]; omega
    · go_wp2_with fail
      go_ret
      refine ⟨?_, hI⟩
      rw [HK.out, List.drop_eq_nil_of_le (by omega)]
      rfl

set_option maxRecDepth 100000 in
theorem containsFunc_letter (A : Option Addr) (c : Nat) (xs : List (LC)) (fid : FuncId) (caps : Array Value) (f : LC → Bool) (B : Nat) (Inv : World → Prop) (w : World) (he : Enters fid) (hm : xs.length ≤ maxLen)
    (hr : ∀ w, Inv w → Row w B A (flat letterC xs))
    (hf : ∀ x ∈ xs, ∀ w, Inv w → Calls Try.prog fid (#[letterV x] ++ caps) w fun e w' => e = .returned (.bool (f x)) ∧ Inv w') (hi : Inv w) :
    Calls Try.prog 14 #[.slice A xs.length c, .func (.func fid) #[] caps] w fun e w' => e = .returned (.bool (xs.any f)) ∧ Inv w' := by
  have HC := Lib.hid (indexFunc_letter A c xs fid caps f B Inv w he hm hr hf hi)
  clear hr hf hi he
  go_enter Try.func14, Try.ntmps14
  go_wp2_with fail
  refine HC.out.mono ?_
  rintro e w1 ⟨rfl, hI⟩
  have HA := Lib.hid (idxAt_any f xs 0 (by omega))
  generalize idxAt f xs 0 = j at *
  go_wp2_with fail
  go_ret
  refine ⟨?_, hI⟩
  rw [← HA.out]
  rfl

end Go.Proofs.Ytdjahlkjfpbifaa
