/-
  Histories unpacked (trace.Unpack).
-/
import Derived.Test.YtcmkkfpcdebfkaaNumR
import Derived.Test.YtcmkkfpcdebfkaaTr3
namespace Go.Proofs.Ytcmkkfpcdebfkaa
open Go.RowKit

/-- n events read out of bytes, and what is left. -/
def evsB : Nat → List UInt8 → Option (List Ev × List UInt8)
  | 0, bs => some ([], bs)
  | n + 1, bs => match numS bs with
    | none => none
    | some (k, r) => if k % 3 + 1 = 1 then (evsB n r).map fun p => (((k / 3 : Nat), ((k % 3 + 1 : Nat) : Int), 0) :: p.1, p.2) else
      match numS r with
      | none => none
      | some (m, r2) => (evsB n r2).map fun p => (((k / 3 : Nat), ((k % 3 + 1 : Nat) : Int), (m : Int)) :: p.1, p.2)
theorem evsB_succ (n : Nat) (bs : List UInt8) : evsB (n + 1) bs = match numS bs with
    | none => none
    | some (k, r) => if k % 3 + 1 = 1 then (evsB n r).map fun p => (((k / 3 : Nat), ((k % 3 + 1 : Nat) : Int), 0) :: p.1, p.2) else
      match numS r with
      | none => none
      | some (m, r2) => (evsB n r2).map fun p => (((k / 3 : Nat), ((k % 3 + 1 : Nat) : Int), (m : Int)) :: p.1, p.2) := rfl
def unp2 : Option (List Ev × List UInt8) → List Ev × Int
  | none => ([], 3)
  | some p => if p.2.length ≠ 0 then ([], 3) else if history p.1 ≠ 0 then ([], history p.1) else (p.1, 0)
def unp1 : Option (Nat × List UInt8) → List Ev × Int
  | none => ([], 3)
  | some p => if 200 < p.1 then ([], 2) else unp2 (evsB p.1 p.2)
def unp (bs : List UInt8) : List Ev × Int := if 4000 < bs.length then ([], 2) else unp1 (numS bs)
/-- What the events read so far have to do with all. -/
structure EvSo (n t : Nat) (r0 : List UInt8) (es : List Ev) (r : List UInt8) (bad : Bool) : Prop where
  len : es.length = t
  wf : ∀ x ∈ es, I64 x.2.2
  good : bad = false → evsB n r0 = (evsB (n - t) r).map fun p => (es ++ p.1, p.2)
  worse : bad = true → evsB n r0 = none
theorem EvSo.start (n : Nat) (r0 : List UInt8) : EvSo n 0 r0 [] r0 false :=
  ⟨rfl, (fun x hx => by cases hx), (fun _ => by simp), (fun h => by cases h)⟩
section
variable {n t : Nat} {r0 r r' r'' : List UInt8} {es : List Ev} {bad b' b'' : Bool} {k m : Int}
/-- A local event. -/
theorem EvSo.one (h : EvSo n t r0 es r false) (ht : t < n) (hk : NumIs r k r' b') (hloc : k % 3 = 0) : EvSo n (t + 1) r0 (es ++ [(k / 3, k % 3 + 1, 0)]) r' b' := by
  have hst : n - t = (n - (t + 1)) + 1 := by omega
  have hg := h.good rfl
  rw [hst] at hg
  refine ⟨by rw [List.length_append, h.len]; rfl, fun x hx => ?_, fun hb => ?_, fun hb => ?_⟩
  · rcases List.mem_append.1 hx with hx | hx
    · exact h.wf x hx
    · simp only [List.mem_singleton] at hx; subst hx; unfold I64; dsimp only; omega
  · cases hn : numS r with
    | none => have := hk.no hn; rw [this] at hb; cases hb
    | some p =>
      obtain ⟨q, rest⟩ := p
      obtain ⟨rfl, rfl, _⟩ := hk.yes q rest hn
      rw [hg]
      rw [evsB_succ, hn]
      dsimp only
      rw [if_pos (by omega)]
      rw [show ((q / 3 : Nat) : Int) = (q : Int) / 3 by omega, show ((q % 3 + 1 : Nat) : Int) = (q : Int) % 3 + 1 by omega]
      cases evsB (n - (t + 1)) r' with
      | none => rfl
      | some p2 => simp only [Option.map_some, List.append_assoc, List.singleton_append]
  · cases hn : numS r with
    | none => rw [hg, evsB_succ, hn]; rfl
    | some p =>
      obtain ⟨q, rest⟩ := p
      have := (hk.yes q rest hn).2.2
      rw [this] at hb; cases hb
/-- An event with a message. -/
theorem EvSo.two (h : EvSo n t r0 es r false) (ht : t < n) (hk : NumIs r k r' false) (hm : NumIs r' m r'' b'') (hloc : k % 3 ≠ 0) : EvSo n (t + 1) r0 (es ++ [(k / 3, k % 3 + 1, m)]) r'' b'' := by
  have hst : n - t = (n - (t + 1)) + 1 := by omega
  have hg := h.good rfl
  rw [hst] at hg
  have hk' : ∃ q : Nat, numS r = some (q, r') ∧ k = (q : Int) := by
    cases hn : numS r with
    | none => have := hk.no hn; cases this
    | some p =>
      obtain ⟨q, rest⟩ := p
      obtain ⟨h1, h2, _⟩ := hk.yes q rest hn
      exact ⟨q, by rw [h2], h1⟩
  obtain ⟨q, hq, rfl⟩ := hk'
  refine ⟨by rw [List.length_append, h.len]; rfl, fun x hx => ?_, fun hb => ?_, fun hb => ?_⟩
  · rcases List.mem_append.1 hx with hx | hx
    · exact h.wf x hx
    · simp only [List.mem_singleton] at hx
      subst hx
      have := hm.rng
      unfold I64
      dsimp only
      omega
  · cases hn : numS r' with
    | none => have := hm.no hn; rw [this] at hb; cases hb
    | some p =>
      obtain ⟨q2, rest⟩ := p
      obtain ⟨rfl, rfl, _⟩ := hm.yes q2 rest hn
      rw [hg]
      rw [evsB_succ, hq]
      dsimp only
      rw [if_neg (by omega), hn]
      dsimp only
      rw [show ((q / 3 : Nat) : Int) = (q : Int) / 3 by omega, show ((q % 3 + 1 : Nat) : Int) = (q : Int) % 3 + 1 by omega]
      cases evsB (n - (t + 1)) r'' with
      | none => rfl
      | some p2 => simp only [Option.map_some, List.append_assoc, List.singleton_append]
  · cases hn : numS r' with
    | none => rw [hg, evsB_succ, hq]; dsimp only; rw [if_neg (by omega), hn]; rfl
    | some p =>
      obtain ⟨q2, rest⟩ := p
      have := (hm.yes q2 rest hn).2.2
      rw [this] at hb; cases hb
/-- The first number of an event is wrong already. -/
theorem EvSo.lost (h : EvSo n t r0 es r false) (ht : t < n) (hk : NumIs r k r' true) (x : Ev) (hx : I64 x.2.2) (rr : List UInt8) : EvSo n (t + 1) r0 (es ++ [x]) rr true := by
  have hst : n - t = (n - (t + 1)) + 1 := by omega
  have hg := h.good rfl
  rw [hst] at hg
  refine ⟨by rw [List.length_append, h.len]; rfl, fun y hy => ?_, (fun hb => by cases hb), fun _ => ?_⟩
  · rcases List.mem_append.1 hy with hy | hy
    · exact h.wf y hy
    · simp only [List.mem_singleton] at hy; subst hy; exact hx
  · cases hn : numS r with
    | none => rw [hg, evsB_succ, hn]; rfl
    | some p =>
      obtain ⟨q, rest⟩ := p
      have := (hk.yes q rest hn).2.2
      cases this
theorem EvSo.on (h : EvSo n t r0 es r true) (x : Ev) (hx : I64 x.2.2) (rr : List UInt8) : EvSo n (t + 1) r0 (es ++ [x]) rr true := by
  refine ⟨by rw [List.length_append, h.len]; rfl, fun y hy => ?_, (fun hb => by cases hb), h.worse⟩
  rcases List.mem_append.1 hy with hy | hy
  · exact h.wf y hy
  · simp only [List.mem_singleton] at hy; subst hy; exact hx
end
end Go.Proofs.Ytcmkkfpcdebfkaa
