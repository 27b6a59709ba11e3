
/-
  Slices of roadstead/code.Actor: what they read as, and the library's functions over them.
-/
import Derived.Test.YthglcnodoophaaaCkDef
import Derived.Laws.StructEq
namespace Go.Proofs.Ythglcnodoophaaa
open Go.RowKit

def acC (x : AcC) : List Value := [.string x.name, .int .i64 x.st, .int .i64 x.fn, .bool x.top]
def acV (x : AcC) : Value := .agg #[.string x.name, .int .i64 x.st, .int .i64 x.fn, .bool x.top]
theorem acC_len (x : AcC) : (acC x).length = 4 := rfl
theorem ac_info : (Try.prog.info? 44).map (fun i => (i.size, i.bytes)) = some (4, 40) := by kernel_rfl
theorem ac_zero : ((Try.prog.info? 44).bind (·.zero)).map (fun z => z.cells.size) = some 4 := by kernel_rfl
theorem ac_parts : ∃ i z, Try.prog.info? 44 = some i ∧ i.zero = some z ∧ i.size = 4 ∧ i.bytes = 40 ∧ z.cells.size = 4 := by
  have h1 := ac_info
  have h2 := ac_zero
  cases hi : Try.prog.info? 44 with
  | none => rw [hi] at h1; cases h1
  | some i =>
    rw [hi] at h1 h2
    simp only [Option.map_some, Option.some.injEq, Prod.mk.injEq, Option.bind_some] at h1 h2
    cases hz : i.zero with
    | none => rw [hz] at h2; cases h2
    | some z =>
      rw [hz] at h2
      simp only [Option.map_some, Option.some.injEq] at h2
      exact ⟨i, z, rfl, hz, h1.1, h1.2, h2⟩
theorem ac_one (x : AcC) : ∀ u ∈ acC x, u.oneCell' = true := by
  intro u hu
  simp only [acC, List.mem_cons, List.not_mem_nil, or_false] at hu
  rcases hu with rfl | rfl | rfl | rfl <;> rfl
theorem ac_one_all (l : List (AcC)) : ∀ u ∈ flat acC l, u.oneCell' = true := by
  intro u hu
  simp only [flat, List.mem_flatMap] at hu
  obtain ⟨x, _, hx⟩ := hu
  exact ac_one x u hx
/-- Element i's cells. -/
theorem Row.ac {w : World} {B : Nat} {A : Option Addr} {l : List (AcC)} (h : Row w B A (flat acC l)) {i : Nat} (hi : i < l.length) (d : AcC) :
    ∃ b o, A = some ⟨b, o, none⟩ ∧ b < B
      ∧ w.cell? ⟨b, o + i * 4, none⟩ = some (.string (l.getD i d).name)
      ∧ w.cell? ⟨b, o + i * 4 + 1, none⟩ = some (.int .i64 (l.getD i d).st)
      ∧ w.cell? ⟨b, o + i * 4 + 2, none⟩ = some (.int .i64 (l.getD i d).fn)
      ∧ w.cell? ⟨b, o + i * 4 + 3, none⟩ = some (.bool (l.getD i d).top)
    := by
  obtain ⟨b, o, e, hb, hc⟩ := Row.elem acC_len (by decide) h (getD_some d hi)
  exact ⟨b, o, e, hb, hc 0 _ rfl, hc 1 _ rfl, hc 2 _ rfl, hc 3 _ rfl⟩
end Go.Proofs.Ythglcnodoophaaa
namespace Go.Proofs.Ythglcnodoophaaa
open Go.RowKit

def mkC (x : MkC) : List Value := [.string x.name, .string x.data, .int .i64 x.args]
def mkV (x : MkC) : Value := .agg #[.string x.name, .string x.data, .int .i64 x.args]
theorem mkC_len (x : MkC) : (mkC x).length = 3 := rfl
theorem mk_info : (Try.prog.info? 49).map (fun i => (i.size, i.bytes)) = some (3, 40) := by kernel_rfl
theorem mk_zero : ((Try.prog.info? 49).bind (·.zero)).map (fun z => z.cells.size) = some 3 := by kernel_rfl
theorem mk_parts : ∃ i z, Try.prog.info? 49 = some i ∧ i.zero = some z ∧ i.size = 3 ∧ i.bytes = 40 ∧ z.cells.size = 3 := by
  have h1 := mk_info
  have h2 := mk_zero
  cases hi : Try.prog.info? 49 with
  | none => rw [hi] at h1; cases h1
  | some i =>
    rw [hi] at h1 h2
    simp only [Option.map_some, Option.some.injEq, Prod.mk.injEq, Option.bind_some] at h1 h2
    cases hz : i.zero with
    | none => rw [hz] at h2; cases h2
    | some z =>
      rw [hz] at h2
      simp only [Option.map_some, Option.some.injEq] at h2
      exact ⟨i, z, rfl, hz, h1.1, h1.2, h2⟩
theorem mk_one (x : MkC) : ∀ u ∈ mkC x, u.oneCell' = true := by
  intro u hu
  simp only [mkC, List.mem_cons, List.not_mem_nil, or_false] at hu
  rcases hu with rfl | rfl | rfl <;> rfl
theorem mk_one_all (l : List (MkC)) : ∀ u ∈ flat mkC l, u.oneCell' = true := by
  intro u hu
  simp only [flat, List.mem_flatMap] at hu
  obtain ⟨x, _, hx⟩ := hu
  exact mk_one x u hx
/-- Element i's cells. -/
theorem Row.mk {w : World} {B : Nat} {A : Option Addr} {l : List (MkC)} (h : Row w B A (flat mkC l)) {i : Nat} (hi : i < l.length) (d : MkC) :
    ∃ b o, A = some ⟨b, o, none⟩ ∧ b < B
      ∧ w.cell? ⟨b, o + i * 3, none⟩ = some (.string (l.getD i d).name)
      ∧ w.cell? ⟨b, o + i * 3 + 1, none⟩ = some (.string (l.getD i d).data)
      ∧ w.cell? ⟨b, o + i * 3 + 2, none⟩ = some (.int .i64 (l.getD i d).args)
    := by
  obtain ⟨b, o, e, hb, hc⟩ := Row.elem mkC_len (by decide) h (getD_some d hi)
  exact ⟨b, o, e, hb, hc 0 _ rfl, hc 1 _ rfl, hc 2 _ rfl⟩
end Go.Proofs.Ythglcnodoophaaa
namespace Go.Proofs.Ythglcnodoophaaa
open Go.RowKit

def ipC (x : IpC) : List Value := [.string x.name, .string x.typ, .int .i64 x.fn]
def ipV (x : IpC) : Value := .agg #[.string x.name, .string x.typ, .int .i64 x.fn]
theorem ipC_len (x : IpC) : (ipC x).length = 3 := rfl
theorem ip_info : (Try.prog.info? 47).map (fun i => (i.size, i.bytes)) = some (3, 40) := by kernel_rfl
theorem ip_zero : ((Try.prog.info? 47).bind (·.zero)).map (fun z => z.cells.size) = some 3 := by kernel_rfl
theorem ip_parts : ∃ i z, Try.prog.info? 47 = some i ∧ i.zero = some z ∧ i.size = 3 ∧ i.bytes = 40 ∧ z.cells.size = 3 := by
  have h1 := ip_info
  have h2 := ip_zero
  cases hi : Try.prog.info? 47 with
  | none => rw [hi] at h1; cases h1
  | some i =>
    rw [hi] at h1 h2
    simp only [Option.map_some, Option.some.injEq, Prod.mk.injEq, Option.bind_some] at h1 h2
    cases hz : i.zero with
    | none => rw [hz] at h2; cases h2
    | some z =>
      rw [hz] at h2
      simp only [Option.map_some, Option.some.injEq] at h2
      exact ⟨i, z, rfl, hz, h1.1, h1.2, h2⟩
theorem ip_one (x : IpC) : ∀ u ∈ ipC x, u.oneCell' = true := by
  intro u hu
  simp only [ipC, List.mem_cons, List.not_mem_nil, or_false] at hu
  rcases hu with rfl | rfl | rfl <;> rfl
theorem ip_one_all (l : List (IpC)) : ∀ u ∈ flat ipC l, u.oneCell' = true := by
  intro u hu
  simp only [flat, List.mem_flatMap] at hu
  obtain ⟨x, _, hx⟩ := hu
  exact ip_one x u hx
/-- Element i's cells. -/
theorem Row.ip {w : World} {B : Nat} {A : Option Addr} {l : List (IpC)} (h : Row w B A (flat ipC l)) {i : Nat} (hi : i < l.length) (d : IpC) :
    ∃ b o, A = some ⟨b, o, none⟩ ∧ b < B
      ∧ w.cell? ⟨b, o + i * 3, none⟩ = some (.string (l.getD i d).name)
      ∧ w.cell? ⟨b, o + i * 3 + 1, none⟩ = some (.string (l.getD i d).typ)
      ∧ w.cell? ⟨b, o + i * 3 + 2, none⟩ = some (.int .i64 (l.getD i d).fn)
    := by
  obtain ⟨b, o, e, hb, hc⟩ := Row.elem ipC_len (by decide) h (getD_some d hi)
  exact ⟨b, o, e, hb, hc 0 _ rfl, hc 1 _ rfl, hc 2 _ rfl⟩
end Go.Proofs.Ythglcnodoophaaa
namespace Go.Proofs.Ythglcnodoophaaa
open Go.RowKit

def fcC (x : FcC) : List Value := [.string x.name, .int .i64 x.p, .int .i64 x.h, .int .i64 x.r, .slice x.A x.len x.cap]
def fcV (x : FcC) : Value := .agg #[.string x.name, .int .i64 x.p, .int .i64 x.h, .int .i64 x.r, .slice x.A x.len x.cap]
theorem fcC_len (x : FcC) : (fcC x).length = 5 := rfl
theorem fc_info : (Try.prog.info? 36).map (fun i => (i.size, i.bytes)) = some (5, 64) := by kernel_rfl
theorem fc_zero : ((Try.prog.info? 36).bind (·.zero)).map (fun z => z.cells.size) = some 5 := by kernel_rfl
theorem fc_parts : ∃ i z, Try.prog.info? 36 = some i ∧ i.zero = some z ∧ i.size = 5 ∧ i.bytes = 64 ∧ z.cells.size = 5 := by
  have h1 := fc_info
  have h2 := fc_zero
  cases hi : Try.prog.info? 36 with
  | none => rw [hi] at h1; cases h1
  | some i =>
    rw [hi] at h1 h2
    simp only [Option.map_some, Option.some.injEq, Prod.mk.injEq, Option.bind_some] at h1 h2
    cases hz : i.zero with
    | none => rw [hz] at h2; cases h2
    | some z =>
      rw [hz] at h2
      simp only [Option.map_some, Option.some.injEq] at h2
      exact ⟨i, z, rfl, hz, h1.1, h1.2, h2⟩
theorem fc_one (x : FcC) : ∀ u ∈ fcC x, u.oneCell' = true := by
  intro u hu
  simp only [fcC, List.mem_cons, List.not_mem_nil, or_false] at hu
  rcases hu with rfl | rfl | rfl | rfl | rfl <;> rfl
theorem fc_one_all (l : List (FcC)) : ∀ u ∈ flat fcC l, u.oneCell' = true := by
  intro u hu
  simp only [flat, List.mem_flatMap] at hu
  obtain ⟨x, _, hx⟩ := hu
  exact fc_one x u hx
/-- Element i's cells. -/
theorem Row.fc {w : World} {B : Nat} {A : Option Addr} {l : List (FcC)} (h : Row w B A (flat fcC l)) {i : Nat} (hi : i < l.length) (d : FcC) :
    ∃ b o, A = some ⟨b, o, none⟩ ∧ b < B
      ∧ w.cell? ⟨b, o + i * 5, none⟩ = some (.string (l.getD i d).name)
      ∧ w.cell? ⟨b, o + i * 5 + 1, none⟩ = some (.int .i64 (l.getD i d).p)
      ∧ w.cell? ⟨b, o + i * 5 + 2, none⟩ = some (.int .i64 (l.getD i d).h)
      ∧ w.cell? ⟨b, o + i * 5 + 3, none⟩ = some (.int .i64 (l.getD i d).r)
      ∧ w.cell? ⟨b, o + i * 5 + 4, none⟩ = some (.slice (l.getD i d).A (l.getD i d).len (l.getD i d).cap)
    := by
  obtain ⟨b, o, e, hb, hc⟩ := Row.elem fcC_len (by decide) h (getD_some d hi)
  exact ⟨b, o, e, hb, hc 0 _ rfl, hc 1 _ rfl, hc 2 _ rfl, hc 3 _ rfl, hc 4 _ rfl⟩
end Go.Proofs.Ythglcnodoophaaa
