/-
  The reference's Planned: step by step.
-/
import Derived.Test.YtjblfkoepedhpaaPlan
import Derived.Deep.RegionLaw
import Derived.Laws.AppendOwnNone
namespace Go.Proofs.Ytjblfkoepedhpaa
open Go.RowKit

theorem below_drew {B : Nat} {a w : World} (h : Below B a w) : Below B a w.drew := ⟨h.os, h.tape, h.output, h.size, h.block⟩

/-- 'append(nil, xs...)' -/
theorem wp_append_nil {P : Program} (w : World) {o : Oper} {a : Act} {K : Act → World → Prop} {Q : Exit → Act → World → Prop} (s x : Operand) (t : TypeId)
    (ho : o.op = .call { callee := .builtin .append, args := #[s, x], argTypes := #[t, t] })
    (base : Nat) (e : TypeId) (i : TypeInfo) (z : Value) (size bytes : Nat) (ht : P.underlying t = some (.slice e)) (hi : P.info? e = some i) (hz : i.zero = some z)
    (hsize : i.size = size) (hby : i.bytes = bytes) (hzs : z.cells.size = size) (hsz : 0 < size)
    (hs : a.eval s = .slice none 0 0)
    (ad : Addr) (m c : Nat) (news : List Value) (hx : a.eval x = .slice (some ad) m c) (hl : news.length = m * size) (hnews : ∀ j u, news[j]? = some u → w.cell? (ad.add j) = some u) (h1 : ∀ u ∈ news, u.oneCell' = true)
    (h63 : m ≤ maxLen) (hbytes : m * bytes ≤ 140737488355328) (hbase : base ≤ w.heap.size)
    (h : ∀ A' c' w', OwnAt w' base e size A' m c' news → w.grownBy w' none → (∀ g o, A' = some ⟨g, o, none⟩ → g = w.heap.size) → K (a.put o.dst (.slice A' m c')) w') : o.wp P a w K Q := by
  obtain ⟨v', w', hr, hown, hg, hnil, hblk⟩ := run_append_own_at (P := P) w base t o.type e i z size bytes ht hi hz hsize hby hzs hsz (.slice none 0 0) 0 [] (World.ownsRow_nil _ _ _ _) ad m c news hl hnews h1 (by omega) (by simpa using hbytes) hbase
  rw [Nat.zero_add, List.nil_append] at hown
  obtain ⟨A', c', rfl, hq⟩ := OwnAt.of_own hown
  unfold Oper.wp execOp
  simp only [ho, resolve, invoke, builtin, Sem.run_bind, Sem.run_pure, Result.andThen_ok, List.map_toArray, List.map_cons, List.map_nil, hs, hx, hr]
  refine h A' c' w' hq hg fun g o he => ?_
  subst he
  rcases hown.2 with ⟨h0, _⟩ | ⟨g2, cap2, cur2, hv, _⟩
  · cases h0
  · injection hv with hv
    injection hv with hv
    injection hv with hv1 hv2
    subst hv1 hv2
    simpa [Value.ownBlock] using hblk
theorem wpList_append_nil {P : Program} {w : World} {ops : Array Oper} {rest : List Oper} {o : Oper} {a : Act} {Q : Exit → Act → World → Prop} (hgd : o.guard = none) (s x : Operand) (t : TypeId)
    (ho : o.op = .call { callee := .builtin .append, args := #[s, x], argTypes := #[t, t] })
    (base : Nat) (e : TypeId) (i : TypeInfo) (z : Value) (size bytes : Nat) (ht : P.underlying t = some (.slice e)) (hi : P.info? e = some i) (hz : i.zero = some z)
    (hsize : i.size = size) (hby : i.bytes = bytes) (hzs : z.cells.size = size) (hsz : 0 < size)
    (hs : a.eval s = .slice none 0 0)
    (ad : Addr) (m c : Nat) (news : List Value) (hx : a.eval x = .slice (some ad) m c) (hl : news.length = m * size) (hnews : ∀ j u, news[j]? = some u → w.cell? (ad.add j) = some u) (h1 : ∀ u ∈ news, u.oneCell' = true)
    (h63 : m ≤ maxLen) (hbytes : m * bytes ≤ 140737488355328) (hbase : base ≤ w.heap.size)
    (h : ∀ A' c' w', OwnAt w' base e size A' m c' news → w.grownBy w' none → (∀ g o, A' = some ⟨g, o, none⟩ → g = w.heap.size) → wpList P ops Q rest (a.put o.dst (.slice A' m c')) w') : wpList P ops Q (o :: rest) a w :=
  wpList_plain hgd fun _ hK => wp_append_nil w s x t ho base e i z size bytes ht hi hz hsize hby hzs hsz hs ad m c news hx hl hnews h1 h63 hbytes hbase fun A' c' w' h2 h3 h4 => hK _ _ (h A' c' w' h2 h3 h4)
theorem step_append_nil {P : Program} {w : World} {ops : Array Oper} {o : Oper} {a : Act} {K : Act → World → Prop} {Q : Exit → Act → World → Prop} {E : Prop} (hgd : o.guard = none) (s x : Operand) (t : TypeId)
    (ho : o.op = .call { callee := .builtin .append, args := #[s, x], argTypes := #[t, t] })
    (base : Nat) (e : TypeId) (i : TypeInfo) (z : Value) (size bytes : Nat) (ht : P.underlying t = some (.slice e)) (hi : P.info? e = some i) (hz : i.zero = some z)
    (hsize : i.size = size) (hby : i.bytes = bytes) (hzs : z.cells.size = size) (hsz : 0 < size)
    (hs : a.eval s = .slice none 0 0)
    (ad : Addr) (m c : Nat) (news : List Value) (hx : a.eval x = .slice (some ad) m c) (hl : news.length = m * size) (hnews : ∀ j u, news[j]? = some u → w.cell? (ad.add j) = some u) (h1 : ∀ u ∈ news, u.oneCell' = true)
    (h63 : m ≤ maxLen) (hbytes : m * bytes ≤ 140737488355328) (hbase : base ≤ w.heap.size)
    (h : ∀ A' c' w', OwnAt w' base e size A' m c' news → w.grownBy w' none → (∀ g o, A' = some ⟨g, o, none⟩ → g = w.heap.size) → K (a.put o.dst (.slice A' m c')) w') :
    if Region.wanted o (yielded ops a.tmps) = true then Oper.wp P o a w K Q else E := by
  have hw : Region.wanted o (yielded ops a.tmps) = true := by simp [Region.wanted, hgd]
  rw [if_pos hw]
  exact wp_append_nil w s x t ho base e i z size bytes ht hi hz hsize hby hzs hsz hs ad m c news hx hl hnews h1 h63 hbytes hbase h

theorem below_q {B : Nat} {a w5 w6 : World} {A5 : Option Addr} (hb : Below B a w5) (hg : w5.grownBy w6 (A5.map (·.block))) (hB : B ≤ w5.heap.size) (hA : ∀ g o, A5 = some ⟨g, o, none⟩ → B ≤ g) (hf : A5 = none ∨ ∃ g o, A5 = some ⟨g, o, none⟩) : Below B a w6 :=
  hb.grown hg hB fun k hk => by
    rcases hf with rfl | ⟨g, o, rfl⟩
    · cases hk
    · simp at hk
      subst hk
      exact hA g o rfl
theorem job_new1 (w : World) (n : Nat) (hn : w.heap.size = n) (y : Int × Int) (j : Nat) (u : Value) (h : (jobC y)[j]? = some u) :
    (w.alloc (.cells #[.int .i64 y.1, .int .i64 y.2] 83)).cell? ⟨n, j, none⟩ = some u := by
  subst hn
  rw [(Box.new w 83 #[.int .i64 y.1, .int .i64 y.2]).cell j, ← h]
  simp [jobC]
theorem job_new2 (w w5 : World) (y : Int × Int) (hg : (w.alloc (.cells #[.int .i64 y.1, .int .i64 y.2] 83)).drew.grownBy w5 none) (j : Nat) (u : Value) (h : (jobC y)[j]? = some u) :
    w5.cell? ⟨w.heap.size, j, none⟩ = some u := by
  have hb : Box w5 w.heap.size 83 #[.int .i64 y.1, .int .i64 y.2] := (Box.new w 83 #[.int .i64 y.1, .int .i64 y.2]).drew.grown hg (by simp)
  rw [hb.cell j, ← h]
  simp [jobC]

/-- The queue, h steps of its head done. -/
def dec (h : Int) : List (Int × Int) → List (Int × Int)
  | [] => []
  | x :: q => (x.1, x.2 - h) :: q
theorem dec_len (h : Int) (q : List (Int × Int)) : (dec h q).length = q.length := by cases q <;> rfl
theorem dec_zero (q : List (Int × Int)) : dec 0 q = q := by
  cases q with
  | nil => rfl
  | cons x q => simp [dec]
/-- What the loop keeps: h steps of the head's turn are done. -/
def StepRel (f : Int) (l : List (Int × Int)) (C : Int) (base : Nat) (w : World) (v5 v6 v7 v8 : Value) (wr : World) : Prop :=
  ∃ (q out : List (Int × Int)) (t h : Int) (A Ao : Option Addr) (c co : Nat), v5 = .slice A q.length c ∧ v6 = .slice Ao out.length co ∧ v7 = .int .i64 (t + h) ∧ v8 = .int .i64 h ∧ Jobs wr base A c (dec h q) ∧ Jobs wr base Ao co out ∧ Apart A Ao ∧
    Below base w wr ∧ base ≤ wr.heap.size ∧ (∀ x ∈ q, 1 ≤ x.2) ∧ t + sumS q = C ∧ 0 ≤ t ∧ q.length + out.length ≤ 100 ∧ plan f l 0 = out ++ plan f q t ∧ 0 ≤ h ∧ h < f ∧ (∀ x r, q = x :: r → h < x.2)

/-- A list of jobs is handed back in memory of its own. -/
def JobsPost (r : List (Int × Int)) (w : World) (e : Ending) (w' : World) : Prop := ∃ Ao co, e = .returned (.slice Ao r.length co) ∧ Row w' w'.heap.size Ao (flat jobC r) ∧ Below w.heap.size w w'
set_option maxRecDepth 100000 in
set_option maxHeartbeats 1000000 in
theorem planned_from (A : Option Addr) (c : Nat) (l : List (Int × Int)) (f : Int) (w : World) (hr : Row w w.heap.size A (flat jobC l)) (hlc : l.length ≤ c) (hm : c ≤ maxLen) (hA : A = none → c = 0) (hl : l.length ≤ 100) (hf1 : 1 ≤ f) (hf2 : f ≤ 10000) (hall : ∀ x ∈ l, 1 ≤ x.2 ∧ x.2 ≤ 10000) :
    Calls Try.prog 62 #[.slice A l.length c, .int .i64 f] w (JobsPost (plan f l 0) w) := by
  have hC1 := sumS_le (b := 10000) fun x hx => (hall x hx).2
  have hC0 := sumS_nonneg fun x hx => (hall x hx).1
  have hC2 : sumS l ≤ 1000000 := by omega
  have HALL := Lib.hid (show ∀ x ∈ l, 1 ≤ x.2 from fun x hx => (hall x hx).1)
  obtain ⟨i0, z0, hi0, hz0, hz1, hz2, hz3⟩ := job_parts
  have HMM := Lib.hid (show l.length ≤ maxLen by omega)
  have hd0 : ∀ x r, l = x :: r → (0 : Int) < x.2 := fun x r e => by have := HALL.out x (by rw [e]; simp); omega
  have HD0 := Lib.hid hd0
  clear hall hC1 hd0
  rcases A with _ | ad
  · obtain rfl := hA rfl
    obtain rfl : l = [] := List.eq_nil_of_length_eq_zero (by omega)
    go_enter Try.func62, Try.ntmps62
    go_wp2_with (at_builtin; refine wpList_append_own_none rfl (.const (.slice none 0 0)) (.tmp 9) _ rfl w.heap.size 83 i0 2 Try.underlying80 hi0 (.slice none 0 0) 0 [] rfl (World.ownsRow_nil _ _ _ _) rfl ?_)
    go_loop [5, 6] (fun v5 v6 => v5 = .slice none 0 0 ∧ v6 = .slice none 0 0) (fun _ _ => 0)
    case atStart => exact ⟨rfl, rfl⟩
    case round =>
      obtain ⟨rfl, rfl⟩ := hrel
      go_wp2_with fail
      go_ret
      rw [plan_nil]
      exact ⟨_, _, rfl, Row.nil, Below.refl _ _⟩
  · have HN := Lib.hid (show ∀ j u, (flat jobC l)[j]? = some u → w.cell? (ad.add j) = some u from fun j u hu => by
      obtain ⟨b, o, e, _, hc⟩ := hr (by have := (List.getElem?_eq_some_iff.1 hu).1; omega)
      injection e with e
      subst e
      rw [addr_add]
      exact hc j u hu)
    clear hA
    go_enter Try.func62, Try.ntmps62
    go_wp2_with (at_builtin; refine wpList_append_nil rfl (.const (.slice none 0 0)) (.tmp 9) _ rfl w.heap.size 83 i0 z0 2 16 Try.underlying80 hi0 hz0 hz1 hz2 hz3 (by decide) rfl ad l.length c (flat jobC l) rfl (flat_len jobC_len l) HN.out (job_one_all l) HMM.out (by omega) (Nat.le_refl _) ?_; intro A1 c1 w1 hq hg1 _)
    have hb1 : Below w.heap.size w w1 := (Below.refl _ _).grown hg1 (Nat.le_refl _) (fun k hk => by cases hk)
    have hs1 := hb1.size
    go_loopw [5, 6, 7, 8] (fun v5 v6 v7 v8 wr => StepRel f l (sumS l) w.heap.size w v5 v6 v7 v8 wr) (fun _ _ v7 _ _ => (sumS l - intOf v7).toNat)
    case atStart => exact ⟨l, [], 0, 0, A1, none, c1, 0, rfl, rfl, rfl, rfl, by unfold Jobs; rw [dec_zero]; exact hq, OwnAt.nil, Apart.nil _, hb1, hs1, HALL.out, by omega, by omega, by simpa using hl, rfl, by omega, by omega, HD0.out⟩
    case round =>
      obtain ⟨q, out, t, h, A2, A3, c2, c3, rfl, rfl, rfl, rfl, hq, ho, hap, hbr, hbs, hq1, hsum, ht0, hlen, hpl, hh0, hhf, hhs⟩ := hrel
      have hf3 := OwnAt.form' ho
      rcases q with _ | ⟨x, q⟩
      · have HPL := Lib.hid hpl
        clear hpl hsum
        go_wp2_with fail
        go_ret
        rw [plan_nil, List.append_nil] at HPL
        rw [HPL.out]
        exact ⟨_, _, rfl, OwnAt.row ho, hbr⟩
      · have hhx := hhs x q rfl
        unfold dec at hq
        obtain ⟨g, o, rfl, hnc⟩ := OwnAt.some_of hq (by simp)
        obtain ⟨b, o1, e1, _, hc0, hc1⟩ := hq.row.job (i := 0) (by simp) (0, 0)
        injection e1 with e1
        injection e1 with e1 e2
        subst e1 e2
        simp only [List.getD_cons_zero, Nat.zero_mul, Nat.add_zero] at hc0 hc1
        have hfr := OwnAt.frozen hq (o + 1)
        have hq3 : Jobs (wr.setCell ⟨g, o + 1, none⟩ (.int .i64 (x.2 - h - 1))) w.heap.size (some ⟨g, o, none⟩) c2 ((x.1, x.2 - h - 1) :: q) := OwnAt.set (j := 1) hq _
        have ho3 : Jobs (wr.setCell ⟨g, o + 1, none⟩ (.int .i64 (x.2 - h - 1))) w.heap.size A3 c3 out := OwnAt.far ho (fun a b e => (hap g o a b rfl e).symm) _
        have hb3 : Below w.heap.size w (wr.setCell ⟨g, o + 1, none⟩ (.int .i64 (x.2 - h - 1))) := hbr.setCell (OwnAt.lt hq).1 _
        obtain ⟨o', hsl, hq'⟩ := job_tail hq3
        have hgl := (OwnAt.lt hq3).2
        have hx1 := hq1 x (by simp)
        have hq2 : ∀ y ∈ q, 1 ≤ y.2 := fun y hy => hq1 y (by simp [hy])
        have hs0 := sumS_nonneg hq2
        rw [sumS_cons] at hsum
        have HSUM := Lib.hid hsum
        have HPL := Lib.hid hpl
        have HQ2 := Lib.hid hq2
        have hxt : t + x.2 ≤ 1000000 := by omega
        have hcl : (x :: q).length ≤ 100 := by omega
        have hlen' : q.length + 1 + out.length ≤ 100 := by simpa using hlen
        have hcl1 : (1 : Int) ≤ ((x :: q).length : Int) := by simp; omega
        have hcl2 : 1 ≤ (x :: q).length := by simp
        have hcl3 : (0 : Int) < ((x :: q).length : Int) := by omega
        have HLEN := Lib.hid (show (x :: q).length = q.length + 1 from rfl)
        rw [show ((x.1, x.2 - h - 1) :: q).length = (x :: q).length from rfl] at hsl
        clear hlen hhs
        generalize (x :: q).length = n at *
        clear hsum hpl hq2 hq1
        have hwz : (wr.setCell ⟨g, o + 1, none⟩ (.int .i64 (x.2 - h - 1))).heap.size = wr.heap.size := by simp
        have HWZ := Lib.hid hwz
        clear hwz
        by_cases hc : x.2 - h - 1 = 0
        · have b1 : (x.2 - h - 1 == 0) = true := by simp; omega
          have HC := Lib.hid hc
          have hxf : x.2 ≤ f := by omega
          clear hc
          have HPS := Lib.hid (plan_last f hf1 x.1 x.2 q t HQ2.out hx1 hxf)
          go_wp2_with (at_builtin; refine wpList_push_q rfl (.tmp 30) (.tmp 37) rfl w.heap.size A3 c3 out.length out rfl rfl (OwnAt.alloc ho3 _) wr.heap.size (x.1, t + h + 1) rfl (job_new1 _ _ HWZ.out (x.1, t + h + 1)) (by omega) (by simp; omega) ?_; intro g' o2 c' w5 hown' hg' hbk)
          have hb5 : Below w.heap.size w w5 := below_q (hb3.alloc hb3.size _) hg' (by simp; omega) (fun a b e => by subst e; exact (OwnAt.lt ho3).1) hf3
          have hq5 := OwnAt.far_of (OwnAt.alloc hq' _) hg' (fun a b c d h1 h2 => by
            injection h1 with h1
            injection h1 with h1
            subst h1
            exact hap g o c d rfl h2) hf3
          have hap5 := Apart.of_grown hap (by simp at hgl ⊢; omega) hbk hf3 o' (o' := o2)
          go_roundw
          case rel =>
            have hc := HC.out
            refine ⟨q, out ++ [(x.1, t + h + 1)], t + x.2, 0, _, _, _, _, rfl, by simp, by congr 1; omega, rfl, by rw [dec_zero]; exact hq5, hown', hap5, hb5, hb5.size, HQ2.out, ?_, by omega, by simp; omega, ?_, by omega, by omega, ?_⟩
            · have := HSUM.out; omega
            · rw [HPL.out, show x = (x.1, x.2) from rfl, HPS.out]; simp; omega
            · intro y r e
              have := HQ2.out y (by rw [e]; simp)
              omega
          case measure => have := HSUM.out; simp [intOf]; omega
        · have b1 : (x.2 - h - 1 == 0) = false := by simp; omega
          have HC := Lib.hid hc
          by_cases hc2 : h + 1 = f
          · have b2 : (h + 1 == f) = true := by simp; omega
            have HC2 := Lib.hid hc2
            have HPS := Lib.hid (plan_more f hf1 x.1 x.2 q t HQ2.out (by omega))
            have hxf : f < x.2 := by omega
            clear hc2 hc
            go_wp2_with fail
            generalize wr.setCell ⟨g, o + 1, none⟩ (.int .i64 (x.2 - h - 1)) = wp at *
            have e0 : wp.cell? ⟨g, o, none⟩ = some (.int .i64 x.1) := by simpa using OwnAt.cells hq3 0 _ rfl
            have e1 : wp.cell? ⟨g, o + 1, none⟩ = some (.int .i64 (x.2 - h - 1)) := OwnAt.cells hq3 1 _ rfl
            have HNW := Lib.hid (show ∀ W', Below wp.heap.size wp W' → ∀ j u, (flat jobC q)[j]? = some u → W'.cell? ((⟨g, o', none⟩ : Addr).add j) = some u from fun W' hb j u hu => by
              rw [addr_add]
              exact (hb.cell (p := ⟨g, o' + j, none⟩) hgl).trans (OwnAt.cells hq' j u hu))
            have HQM := Lib.hid (show q.length ≤ maxLen by unfold maxLen; omega)
            have HLT := Lib.hid hgl
            have hs3 := hb3.size
            clear HWZ hc0 hc1 hfr
            go_region_law ((first
              | (refine step_append_nil ?_ (.const (.slice none 0 0)) (.tmp 45) 80 ?_ w.heap.size 83 i0 z0 2 16 Try.underlying80 hi0 hz0 hz1 hz2 hz3 (by decide) ?_ ⟨g, o', none⟩ q.length (c2 - 1) (flat jobC q) ?_ (flat_len jobC_len q) ?_ (job_one_all q) HQM.out ?_ ?_ ?_
                 · rfl
                 · rfl
                 · rfl
                 · rfl
                 · first
                   | exact HNW.out _ (below_drew (Below.refl _ _))
                   | exact HNW.out _ (below_drew ((Below.refl _ _).alloc (Nat.le_refl _) _))
                 · omega
                 · simp; omega
                 intro A5 c5 w5 hown5 hg5 hA5
                 have hb5 : Below wp.heap.size wp w5 := by
                   first
                   | exact (below_drew (Below.refl _ _)).grown hg5 (Nat.le_refl _) (fun k hk => (by cases hk))
                   | exact (below_drew ((Below.refl _ _).alloc (Nat.le_refl _) _)).grown hg5 (by simp) (fun k hk => (by cases hk))
                 have e0' : w5.cell? ⟨g, o, none⟩ = some (.int .i64 x.1) := (hb5.cell (p := ⟨g, o, none⟩) HLT.out).trans e0
                 have e1' : w5.cell? ⟨g, o + 1, none⟩ = some (.int .i64 (x.2 - h - 1)) := (hb5.cell (p := ⟨g, o + 1, none⟩) HLT.out).trans e1)
              | (refine step_append_q ?_ (.tmp 46) (.tmp 50) 80 ?_ w.heap.size 83 i0 z0 2 16 Try.underlying80 hi0 hz0 hz1 hz2 hz3 (by decide) A5 q.length c5 (flat jobC q) ?_ (OwnAt.alloc hown5 _) ⟨w5.heap.size, 0, none⟩ 1 1 (jobC (x.1, x.2 - h - 1)) ?_ rfl ?_ (job_one _) ?_ ?_ ?_ (by decide) ?_
                 · rfl
                 · rfl
                 · rfl
                 · rfl
                 · intro j u hu
                   rw [addr_add, Nat.zero_add]
                   exact job_new1 w5 _ rfl (x.1, x.2 - h - 1) j u hu
                 · unfold maxLen; omega
                 · omega
                 · have := hb5.size; simp; omega
                 intro g6 o6 c6 w6 hown6 hg6 hbk6
                 have hb6 : Below wp.heap.size wp w6 := below_q (hb5.alloc hb5.size _) hg6 (by have := hb5.size; simp; omega) (fun a b e => (by have := hA5 a b e; simp at this; omega)) (OwnAt.form' hown5))
              | (refine step_append_q ?_ (.tmp 46) (.tmp 50) 80 ?_ w.heap.size 83 i0 z0 2 16 Try.underlying80 hi0 hz0 hz1 hz2 hz3 (by decide) A5 q.length c5 (flat jobC q) ?_ hown5 ⟨wp.heap.size, 0, none⟩ 1 1 (jobC (x.1, x.2 - h - 1)) ?_ rfl ?_ (job_one _) ?_ ?_ ?_ (by decide) ?_
                 · rfl
                 · rfl
                 · rfl
                 · rfl
                 · intro j u hu
                   rw [addr_add, Nat.zero_add]
                   exact job_new2 wp w5 (x.1, x.2 - h - 1) hg5 j u hu
                 · unfold maxLen; omega
                 · omega
                 · have := hb5.size; omega
                 intro g6 o6 c6 w6 hown6 hg6 hbk6
                 have hb6 : Below wp.heap.size wp w6 := below_q hb5 hg6 hb5.size (fun a b e => (by have := hA5 a b e; simp at this; omega)) (OwnAt.form' hown5))))
            all_goals
              simp only [List.getElem_toArray, List.getElem_cons_succ, List.getElem_cons_zero]
              go_frame
              go_wp2_with fail
              go_roundw
              case rel =>
                have hc2 := HC2.out
                have hbw : Below w.heap.size w w6 := hb3.trans (hb6.mono hb3.size)
                refine ⟨q ++ [(x.1, x.2 - f)], out, t + f, 0, _, _, _, _, by rw [List.length_append]; rfl, rfl, by congr 1; omega, rfl, ?_, OwnAt.below ho3 hb6, ?_, hbw, hbw.size, ?_, ?_, by omega, by simp; omega, ?_, by omega, by omega, ?_⟩
                · rw [dec_zero]
                  unfold Jobs
                  rw [List.length_append, flat_append, flat_one, show x.2 - f = x.2 - h - 1 by omega]
                  exact hown6
                · intro a b c d h1 h2
                  injection h1 with h1
                  injection h1 with h1
                  subst h1 h2
                  have h7 := (OwnAt.lt ho3).2
                  have h8 := hb5.size
                  rcases hbk6 with hbk6 | hbk6
                  · rcases OwnAt.form' hown5 with rfl | ⟨g9, o9, rfl⟩
                    · cases hbk6
                    · simp at hbk6
                      subst hbk6
                      have := hA5 _ _ rfl
                      simp at this
                      omega
                  · first
                    | (simp at hbk6; omega)
                    | omega
                · intro y hy
                  rw [List.mem_append] at hy
                  rcases hy with hy | hy
                  · exact HQ2.out y hy
                  · simp at hy; subst hy; simp; omega
                · have := HSUM.out; rw [sumS_append, sumS_cons]; simp [sumS] at this ⊢; omega
                · rw [HPL.out, show x = (x.1, x.2) from rfl, HPS.out]
                · intro y r e
                  have hm : y ∈ q ++ [(x.1, x.2 - f)] := by rw [e]; simp
                  rw [List.mem_append] at hm
                  rcases hm with hy | hy
                  · have := HQ2.out y hy; omega
                  · simp at hy; subst hy; simp; omega
              case measure => have := HSUM.out; simp [intOf]; omega
          · have b2 : (h + 1 == f) = false := by simp; omega
            have HC2 := Lib.hid hc2
            go_wp2_with fail
            go_roundw
            case rel =>
              refine ⟨x :: q, out, t, h + 1, _, _, _, _, by rw [HLEN.out]; rfl, rfl, by congr 1; omega, rfl, ?_, ho3, hap, hb3, by simpa using hbs, ?_, ?_, by omega, ?_, HPL.out, by omega, by omega, ?_⟩
              · show Jobs _ _ _ _ ((x.1, x.2 - (h + 1)) :: q)
                rw [show x.2 - (h + 1) = x.2 - h - 1 by omega]
                exact hq3
              · intro y hy
                rw [List.mem_cons] at hy
                rcases hy with rfl | hy
                · exact hx1
                · exact HQ2.out y hy
              · rw [sumS_cons]; exact HSUM.out
              · simp; omega
              · intro y r e
                injection e with e
                subst e
                omega
            case measure => have := HSUM.out; simp [intOf]; omega
end Go.Proofs.Ytjblfkoepedhpaa
