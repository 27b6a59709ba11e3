/-
  Package turn's Plan.
-/
import Derived.Test.YtjblfkoepedhpaaTurnPlan
namespace Go.Proofs.Ytjblfkoepedhpaa
open Go.RowKit

/-- A queue of jobs in memory of the call's own. -/
def Jobs (w : World) (base : Nat) (A : Option Addr) (c : Nat) (l : List (Int × Int)) : Prop := OwnAt w base 83 2 A l.length c (flat jobC l)
/-- Two slices in different blocks. -/
def Apart (A A' : Option Addr) : Prop := ∀ g o g' o', A = some ⟨g, o, none⟩ → A' = some ⟨g', o', none⟩ → g ≠ g'
theorem Apart.nil (A : Option Addr) : Apart A none := fun _ _ _ _ _ h => by cases h
theorem Apart.symm {A A' : Option Addr} (h : Apart A A') : Apart A' A := fun g o g' o' h1 h2 => (h g' o' g o h2 h1).symm
theorem Jobs.row {w : World} {base : Nat} {A : Option Addr} {c : Nat} {l : List (Int × Int)} (h : Jobs w base A c l) : Row w w.heap.size A (flat jobC l) := OwnAt.row h
theorem job_tail {w : World} {base g o c : Nat} {x : Int × Int} {l : List (Int × Int)} (h : Jobs w base (some ⟨g, o, none⟩) c (x :: l)) :
    ∃ o', (∀ w, (Instr.slice 80 (.slice (some ⟨g, o, none⟩) (x :: l).length c) (some (.int .i64 1)) none none).run Try.prog w = .ok (.slice (some ⟨g, o', none⟩) l.length (c - 1)) w) ∧ Jobs w base (some ⟨g, o', none⟩) (c - 1) l := by
  obtain ⟨i0, z0, hi0, hz0, hz1, hz2, hz3⟩ := job_parts
  obtain ⟨o', h1, h2⟩ := OwnAt.tail (P := Try.prog) Try.underlying80 hi0 hz1 h (by simp)
  exact ⟨o', h1, h2⟩

/-- One job appended. -/
theorem wpList_push_q {ops : Array Oper} {rest : List Oper} {o : Oper} {a : Act} {w : World} {Q : Exit → Act → World → Prop} (hgd : o.guard = none) (s x : Operand)
    (ho : o.op = .call { callee := .builtin .append, args := #[s, x], argTypes := #[80, 80] })
    (base : Nat) (A : Option Addr) (c n : Nat) (zs : List (Int × Int)) (hn : zs.length = n) (hs : a.eval s = .slice A n c) (hown : Jobs w base A c zs) (g : Nat) (y : Int × Int) (hx : a.eval x = .slice (some ⟨g, 0, none⟩) 1 1) (hy : ∀ j u, (jobC y)[j]? = some u → w.cell? ⟨g, j, none⟩ = some u)
    (hb : (n + 1) * 16 ≤ 140737488355328) (hbase : base ≤ w.heap.size)
    (h : ∀ g' o' c' w', Jobs w' base (some ⟨g', o', none⟩) c' (zs ++ [y]) → w.grownBy w' (A.map (·.block)) → (A.map (·.block) = some g' ∨ g' = w.heap.size) → wpList Try.prog ops Q rest (a.put o.dst (.slice (some ⟨g', o', none⟩) (n + 1) c')) w') : wpList Try.prog ops Q (o :: rest) a w := by
  subst hn
  obtain ⟨i0, z0, hi0, hz0, hz1, hz2, hz3⟩ := job_parts
  refine wpList_append_q hgd s x _ ho base 83 i0 z0 2 16 Try.underlying80 hi0 hz0 hz1 hz2 hz3 (by decide) A zs.length c (flat jobC zs) hs hown ⟨g, 0, none⟩ 1 1 (jobC y) hx rfl ?_ (job_one y) (by unfold maxLen; omega) hb hbase (by decide) ?_
  · intro j u hu
    rw [addr_add, Nat.zero_add]
    exact hy j u hu
  · intro g' o' c' w' h1 h2 h3
    refine h g' o' c' w' ?_ h2 h3
    unfold Jobs
    rw [List.length_append, flat_append, flat_one]
    exact h1

/-- What the loop over the queue keeps. -/
def PlanRel (f : Int) (l : List (Int × Int)) (C : Int) (base : Nat) (w : World) (v7 v8 v9 : Value) (wr : World) : Prop :=
  ∃ (q out : List (Int × Int)) (t : Int) (A Ao : Option Addr) (c co : Nat), v9 = .slice A q.length c ∧ v7 = .slice Ao out.length co ∧ v8 = .int .i64 t ∧ Jobs wr base A c q ∧ Jobs wr base Ao co out ∧ Apart A Ao ∧
    Below base w wr ∧ base ≤ wr.heap.size ∧ (∀ x ∈ q, 1 ≤ x.2) ∧ t + sumS q = C ∧ 0 ≤ t ∧ q.length + out.length ≤ 100 ∧ plan f l 0 = out ++ plan f q t

theorem job_new (w : World) (o1 : Obj) (y : Int × Int) (j : Nat) (u : Value) (h : (jobC y)[j]? = some u) :
    ((w.alloc o1).alloc (.cells #[.int .i64 y.1, .int .i64 y.2] 83)).cell? ⟨w.heap.size + 1, j, none⟩ = some u := by
  have hb := (Box.new (w.alloc o1) 83 #[.int .i64 y.1, .int .i64 y.2]).cell j
  rw [show (w.alloc o1).heap.size = w.heap.size + 1 by simp] at hb
  rw [hb, ← h]
  simp [jobC]

theorem Apart.of_grown {w : World} {A : Option Addr} {g o g' o' : Nat} (hap : Apart (some ⟨g, o, none⟩) A) (hlt : g < w.heap.size) (h : A.map (·.block) = some g' ∨ g' = w.heap.size) (hf : A = none ∨ ∃ g o, A = some ⟨g, o, none⟩) (o1 : Nat) :
    Apart (some ⟨g, o1, none⟩) (some ⟨g', o', none⟩) := by
  intro a b c d h1 h2
  injection h1 with h1
  injection h1 with h1
  injection h2 with h2
  injection h2 with h2
  subst h1 h2
  rcases h with h | h
  · rcases hf with rfl | ⟨g3, o3, rfl⟩
    · cases h
    · simp at h
      subst h
      exact hap g o g3 o3 rfl rfl
  · omega

theorem OwnAt.far_of {w w' : World} {base : Nat} {e : TypeId} {size n cap : Nat} {A A' : Option Addr} {xs : List Value} (h : OwnAt w base e size A n cap xs) (hg : w.grownBy w' (A'.map (·.block))) (hap : Apart A A') (hf : A' = none ∨ ∃ g o, A' = some ⟨g, o, none⟩) : OwnAt w' base e size A n cap xs := by
  refine h.grown hg fun g o he => ?_
  rcases hf with rfl | ⟨g', o', rfl⟩
  · simp
  · have := hap g o g' o' he rfl
    simpa using this
theorem OwnAt.form' {w : World} {base : Nat} {e : TypeId} {size n cap : Nat} {A : Option Addr} {xs : List Value} (h : OwnAt w base e size A n cap xs) : A = none ∨ ∃ g o, A = some ⟨g, o, none⟩ := by
  rcases h.form with ⟨h, _⟩ | h
  · exact .inl h
  · exact .inr h

set_option maxRecDepth 100000 in
set_option maxHeartbeats 1000000 in
theorem plan_ok (A : Option Addr) (c : Nat) (l : List (Int × Int)) (f : Int) (w : World) (hr : Row w w.heap.size A (flat jobC l)) (hlc : l.length ≤ c) (hm : c ≤ maxLen) (hA : A = none → c = 0) (h0 : planF l f = 0) (hl : l.length ≤ 100) (hf1 : 1 ≤ f) (hf2 : f ≤ 10000) (hall : ∀ x ∈ l, 1 ≤ x.2 ∧ x.2 ≤ 10000) :
    Calls Try.prog 59 #[.slice A l.length c, .int .i64 f] w fun e w' => ∃ Ao co, e = .returned (.tuple #[.slice Ao (plan f l 0).length co, .int .i64 0]) ∧ Row w' w'.heap.size Ao (flat jobC (plan f l 0)) ∧ (plan f l 0).length ≤ 100 ∧ Below w.heap.size w w' := by
  have HC := Lib.hid (checkJobs_any A c l f w hr hlc hm)
  rw [h0] at HC
  have hC1 := sumS_le (b := 10000) fun x hx => (hall x hx).2
  have hC0 := sumS_nonneg fun x hx => (hall x hx).1
  have hC2 : sumS l ≤ 1000000 := by omega
  have HALL := Lib.hid (show ∀ x ∈ l, 1 ≤ x.2 from fun x hx => (hall x hx).1)
  clear h0 hall hC1
  go_enter Try.func59, Try.ntmps59
  go_wp2_with fail
  refine HC.out.mono ?_
  rintro e w1 ⟨rfl, hb1⟩
  go_wp2_with fail
  refine (clone_job A c l _ _ (hr.below hb1) hA (by omega)).mono ?_
  rintro e w2 ⟨v, rfl, hown, hb2⟩
  obtain ⟨A1, c1, rfl, hq⟩ := OwnAt.of_own hown
  have hb02 : Below w.heap.size w w2 := hb1.trans (hb2.mono hb1.size)
  have hs2 : w1.heap.size ≤ w2.heap.size := hb2.size
  clear hown HC
  go_wp2_with fail
  go_loopw [7, 8, 9] (fun v7 v8 v9 wr => PlanRel f l (sumS l) w.heap.size w v7 v8 v9 wr) (fun _ v8 _ _ => (sumS l - intOf v8).toNat)
  case atStart => exact ⟨l, [], 0, A1, none, c1, 0, rfl, rfl, rfl, OwnAt.lower hq hb1.size, OwnAt.nil, Apart.nil _, hb02, hb02.size, HALL.out, by omega, by omega, by simpa using hl, rfl⟩
  case round =>
    obtain ⟨q, out, t, A2, A3, c2, c3, rfl, rfl, rfl, hq, ho, hap, hbr, hbs, hq1, hsum, ht0, hlen, hpl⟩ := hrel
    have hf3 := OwnAt.form' ho
    rcases q with _ | ⟨x, q⟩
    · have HPL := Lib.hid hpl
      clear hpl hsum
      go_wp2_with fail
      go_ret2
      rw [plan_nil, List.append_nil] at HPL
      rw [HPL.out]
      exact ⟨_, _, rfl, OwnAt.row ho, by simpa using hlen, hbr⟩
    · obtain ⟨g, o, rfl, hnc⟩ := OwnAt.some_of hq (by simp)
      obtain ⟨b, o1, e1, _, hc0, hc1⟩ := hq.row.job (i := 0) (by simp) (0, 0)
      injection e1 with e1
      injection e1 with e1 e2
      subst e1 e2
      simp only [List.getD_cons_zero, Nat.zero_mul, Nat.add_zero] at hc0 hc1
      obtain ⟨o', hsl, hq'⟩ := job_tail hq
      have hgl := (OwnAt.lt hq).2
      have hx1 := hq1 x (by simp)
      have hq2 : ∀ y ∈ q, 1 ≤ y.2 := fun y hy => hq1 y (by simp [hy])
      have hs0 := sumS_nonneg hq2
      rw [sumS_cons] at hsum
      have HSUM := Lib.hid hsum
      have HPL := Lib.hid hpl
      have HQ2 := Lib.hid hq2
      have hxt : t + x.2 ≤ 1000000 := by omega
      have hcl : (x :: q).length ≤ 100 := by omega
      have hlen' : q.length + 1 + out.length ≤ 100 := by simpa using hlen
      have hcl1 : (1 : Int) ≤ ((x :: q).length : Int) := by simp; omega
      have hcl2 : 1 ≤ (x :: q).length := by simp
      have hcl3 : (0 : Int) < ((x :: q).length : Int) := by omega
      clear hlen
      generalize (x :: q).length = n at *
      clear hsum hpl hq2 hq1
      by_cases hc : x.2 ≤ f
      · have HPS := Lib.hid (plan_last f hf1 x.1 x.2 q t HQ2.out hx1 hc)
        go_wp2_with (at_builtin; refine wpList_push_q rfl (.tmp 47) (.tmp 52) rfl w.heap.size A3 c3 out.length out rfl rfl (OwnAt.alloc (OwnAt.alloc ho _) _) (wr.heap.size + 1) (x.1, t + x.2) rfl (job_new wr _ (x.1, t + x.2)) (by omega) (by simp; omega) ?_; intro g' o2 c' w5 hown' hg' hbk)
        have hb5 : Below w.heap.size w w5 := (((hbr.alloc hbs _).alloc (by simp; omega) _).grown hg' (by simp; omega) (fun k hk => by
          rcases hf3 with rfl | ⟨g3, o3, rfl⟩
          · cases hk
          · simp at hk; subst hk; exact (OwnAt.lt ho).1))
        have hq5 := OwnAt.far_of (OwnAt.alloc (OwnAt.alloc hq' _) _) hg' (fun a b c d h1 h2 => by
          injection h1 with h1
          injection h1 with h1
          subst h1
          exact hap g o c d rfl h2) hf3
        have hap5 := Apart.of_grown hap (by simp; omega) hbk hf3 o' (o' := o2)
        go_roundw
        case rel =>
          refine ⟨q, out ++ [(x.1, t + x.2)], t + x.2, _, _, _, _, rfl, by simp, rfl, hq5, hown', hap5, hb5, hb5.size, HQ2.out, ?_, by omega, by simp; omega, ?_⟩
          · have := HSUM.out; omega
          · rw [HPL.out, show x = (x.1, x.2) from rfl, HPS.out]; simp
        case measure => have := HSUM.out; simp [intOf]; omega
      · have HPS := Lib.hid (plan_more f hf1 x.1 x.2 q t HQ2.out (by omega))
        go_wp2_with (at_builtin; refine wpList_push_q rfl (.tmp 43) (.tmp 45) rfl w.heap.size (some ⟨g, o', none⟩) (c2 - 1) q.length q rfl rfl (OwnAt.alloc (OwnAt.alloc hq' _) _) (wr.heap.size + 1) (x.1, x.2 - f) rfl (job_new wr _ (x.1, x.2 - f)) (by omega) (by simp; omega) ?_; intro g' o2 c' w5 hown' hg' hbk)
        have hb5 : Below w.heap.size w w5 := (((hbr.alloc hbs _).alloc (by simp; omega) _).grown hg' (by simp; omega) (fun k hk => by
          simp at hk; subst hk; exact (OwnAt.lt hq').1))
        have ho5 := OwnAt.far_of (OwnAt.alloc (OwnAt.alloc ho _) _) hg' (fun a b c d h1 h2 => by
          injection h2 with h2
          injection h2 with h2
          subst h2
          exact (hap g o a b rfl h1).symm) (.inr ⟨_, _, rfl⟩)
        have hap5 : Apart (some ⟨g', o2, none⟩) A3 := fun a b c d h1 h2 => by
          injection h1 with h1
          injection h1 with h1
          subst h1
          rcases hbk with hbk | hbk
          · simp at hbk; subst hbk; exact hap g o c d rfl h2
          · subst h2
            have := (OwnAt.lt ho).2
            simp at hbk
            omega
        go_roundw
        case rel =>
          refine ⟨q ++ [(x.1, x.2 - f)], out, t + f, _, _, _, _, by simp, rfl, rfl, hown', ho5, hap5, hb5, hb5.size, ?_, ?_, by omega, by simp; omega, ?_⟩
          · intro y hy
            rw [List.mem_append] at hy
            rcases hy with hy | hy
            · exact HQ2.out y hy
            · simp at hy; subst hy; simp; omega
          · have := HSUM.out; rw [sumS_append, sumS_cons]; simp [sumS] at this ⊢; omega
          · rw [HPL.out, show x = (x.1, x.2) from rfl, HPS.out]
        case measure => have := HSUM.out; simp [intOf]; omega
end Go.Proofs.Ytjblfkoepedhpaa
