/-
  Falls one after the other (ward.Play).
-/
import Derived.Test.YtcmkkfpcdebfkaaWd14
import Derived.Test.YtcmkkfpcdebfkaaPnRow
namespace Go.Proofs.Ytcmkkfpcdebfkaa
open Go.RowKit

theorem fall_info : (Try.prog.info? 233).map (·.size) = some 3 := by kernel_rfl
/-- One plan appended to a slice of the call's own. -/
theorem wpList_pushq_pn {ops : Array Oper} {rest : List Oper} {o : Oper} {a : Act} {w : World} {Q : Exit → Act → World → Prop} (hgd : o.guard = none) (s x : Operand)
    (ho : o.op = .call { callee := .builtin .append, args := #[s, x], argTypes := #[223, 223] })
    (base : Nat) (A : Option Addr) (c : Nat) (zs : List (PA × PlV)) (hs : a.eval s = .slice A zs.length c) (hown : OwnAt w base 220 3 A zs.length c (flat pnC zs)) (g : Nat) (y : PA × PlV) (hx : a.eval x = .slice (some ⟨g, 0, none⟩) 1 1) (hy : ∀ j u, (pnC y)[j]? = some u → w.cell? ⟨g, j, none⟩ = some u)
    (hb : (zs.length + 1) * 56 ≤ 140737488355328) (hbase : base ≤ w.heap.size)
    (h : ∀ A' c' w', OwnAt w' base 220 3 A' (zs.length + 1) c' (flat pnC (zs ++ [y])) → Only (fun b => A.map (·.block) = some b) w w' → wpList Try.prog ops Q rest (a.put o.dst (.slice A' (zs.length + 1) c')) w') : wpList Try.prog ops Q (o :: rest) a w := by
  obtain ⟨i0, z0, hi0, hz0, hz1, hz2, hz3⟩ := pn_parts
  refine wpList_append_q hgd s x _ ho base 220 i0 z0 3 56 Try.underlying223 hi0 hz0 hz1 hz2 hz3 (by decide) A zs.length c (flat pnC zs) hs hown ⟨g, 0, none⟩ 1 1 (pnC y) hx rfl ?_ (pn_one y) (by unfold maxLen; omega) hb hbase (by decide) ?_
  · intro j u hu
    rw [addr_add, Nat.zero_add]
    exact hy j u hu
  · intro g' o' c' w' h1 h2 _
    exact h _ c' w' (by rw [flat_append, flat_one]; exact h1) ⟨h2.os, h2.tape, h2.output, h2.size, fun i hi hne => h2.block i hi (fun e => hne e.symm)⟩
theorem step_pushq_pn {ops : Array Oper} {o : Oper} {a : Act} {w : World} {K : Act → World → Prop} {Q : Exit → Act → World → Prop} {E : Prop} (hgd : o.guard = none) (s x : Operand)
    (ho : o.op = .call { callee := .builtin .append, args := #[s, x], argTypes := #[223, 223] })
    (base : Nat) (A : Option Addr) (c : Nat) (zs : List (PA × PlV)) (hs : a.eval s = .slice A zs.length c) (hown : OwnAt w base 220 3 A zs.length c (flat pnC zs)) (g : Nat) (y : PA × PlV) (hx : a.eval x = .slice (some ⟨g, 0, none⟩) 1 1) (hy : ∀ j u, (pnC y)[j]? = some u → w.cell? ⟨g, j, none⟩ = some u)
    (hb : (zs.length + 1) * 56 ≤ 140737488355328) (hbase : base ≤ w.heap.size)
    (h : ∀ A' c' w', OwnAt w' base 220 3 A' (zs.length + 1) c' (flat pnC (zs ++ [y])) → Only (fun b => A.map (·.block) = some b) w w' → K (a.put o.dst (.slice A' (zs.length + 1) c')) w') :
    if Region.wanted o (yielded ops a.tmps) = true then Oper.wp Try.prog o a w K Q else E := by
  obtain ⟨i0, z0, hi0, hz0, hz1, hz2, hz3⟩ := pn_parts
  refine step_append_q hgd s x _ ho base 220 i0 z0 3 56 Try.underlying223 hi0 hz0 hz1 hz2 hz3 (by decide) A zs.length c (flat pnC zs) hs hown ⟨g, 0, none⟩ 1 1 (pnC y) hx rfl ?_ (pn_one y) (by unfold maxLen; omega) hb hbase (by decide) ?_
  · intro j u hu
    rw [addr_add, Nat.zero_add]
    exact hy j u hu
  · intro g' o' c' w' h1 h2 _
    exact h _ c' w' (by rw [flat_append, flat_one]; exact h1) ⟨h2.os, h2.tape, h2.output, h2.size, fun i hi hne => h2.block i hi (fun e => hne e.symm)⟩

theorem own_max {w : World} {base : Nat} {e : TypeId} {size n cap : Nat} {A : Option Addr} {xs : List Value} (h : OwnAt w base e size A n cap xs) : ∀ b, A.map (·.block) = some b → b < w.heap.size := by
  intro b hb
  rcases h.form with ⟨rfl, _⟩ | ⟨g, o, rfl⟩
  · cases hb
  · injection hb with hb
    dsimp only at hb
    have := h.lt.2
    omega
/-- Plans of the call's own. -/
structure Plans (w : World) (base : Nat) (C : Option Addr) (kc : Nat) (outs : List (PA × PlV)) : Prop where
  row : OwnAt w base 220 3 C outs.length kc (flat pnC outs)
  each : ∀ o ∈ outs, POwn w base o.1 o.2
theorem Plans.below {w w' : World} {base : Nat} {C : Option Addr} {kc : Nat} {outs : List (PA × PlV)} (h : Plans w base C kc outs) (hb : Below w.heap.size w w') : Plans w' base C kc outs := ⟨h.row.below hb, fun o ho => (h.each o ho).below hb⟩
theorem Plans.lower {w : World} {base base' : Nat} {C : Option Addr} {kc : Nat} {outs : List (PA × PlV)} (h : Plans w base C kc outs) (hb : base' ≤ base) : Plans w base' C kc outs := ⟨h.row.lower hb, fun o ho => (h.each o ho).lower hb⟩
theorem Plans.only {w w' : World} {base : Nat} {C : Option Addr} {kc : Nat} {outs : List (PA × PlV)} {T : Nat → Prop} (h : Plans w base C kc outs) (ho : Only T w w') (hT : ∀ b, T b → b < base) : Plans w' base C kc outs :=
  ⟨h.row.only ho (fun b hb ht => by have := own_min h.row b hb; have := hT b ht; omega), fun o h2 => (h.each o h2).only ho hT⟩
theorem Plans.nil (w : World) (base : Nat) : Plans w base none 0 [] := ⟨OwnAt.nil, fun o ho => by simp at ho⟩
/-- One plan more. -/
theorem Plans.push {w w' : World} {base : Nat} {C C' : Option Addr} {kc kc' : Nat} {outs : List (PA × PlV)} {y : PA × PlV} (h : Plans w base C kc outs) (hy : POwn w base y.1 y.2) (hr : OwnAt w' base 220 3 C' (outs.length + 1) kc' (flat pnC (outs ++ [y]))) (ho : Only (fun b => C.map (·.block) = some b) w w') : Plans w' base C' kc' (outs ++ [y]) := by
  refine ⟨by rw [List.length_append]; exact hr, fun o h2 => ?_⟩
  have hp : ∀ o : PA × PlV, POwn w base o.1 o.2 → POwn w' base o.1 o.2 := fun o hq =>
    ⟨hq.stop.only ho (fun b hb ht => own_apart hq.stop h.row (by decide) b hb ht), hq.start.only ho (fun b hb ht => own_apart hq.start h.row (by decide) b hb ht)⟩
  rcases List.mem_append.1 h2 with h3 | h3
  · exact hp o (h.each o h3)
  · rw [List.mem_singleton] at h3
    subst h3
    exact hp o hy
/-- What Play hands back. -/
def PlayPost (r : Int × Wd × List PlV) (w : World) (e : Ending) (w' : World) : Prop :=
  ∃ x C kc outs, e = .returned (.tuple #[wardV x r.2.1, .slice C outs.length kc, .int .i64 r.1]) ∧ outs.map (·.2) = r.2.2 ∧ WOwn w' w.heap.size x r.2.1 ∧ Plans w' w.heap.size C kc outs ∧ Below w.heap.size w w'
/-- The memory of a call of Play. -/
structure PyW (W w : World) (cs : Array Value) : Prop where
  bx : Box w W.heap.size 215 cs
  br : Box w (W.heap.size + 1) 215 zW
  bb : Below W.heap.size W w
theorem PyW.lt {W w : World} {cs : Array Value} (h : PyW W w cs) : W.heap.size + 1 < w.heap.size := h.br.lt
theorem PyW.below {W w w' : World} {cs : Array Value} (h : PyW W w cs) (hb : Below w.heap.size w w') : PyW W w' cs :=
  ⟨h.bx.below hb h.bx.lt, h.br.below hb h.br.lt, h.bb.trans (hb.mono h.bb.size)⟩
theorem PyW.only {W w w' : World} {cs : Array Value} {S : Nat → Prop} (h : PyW W w cs) (ho : Only S w w') (hS : ∀ b, S b → W.heap.size + 1 < b) : PyW W w' cs :=
  ⟨ho.box h.bx (fun e => by have := hS _ e; omega), ho.box h.br (fun e => by have := hS _ e; omega), ho.to_below h.bb h.bb.size (fun i hi => by have := hS _ hi; omega)⟩
theorem PyW.stored {W w w' : World} {cs cs' : Array Value} (h : PyW W w cs) (hs : Stored w w' W.heap.size 215 cs') : PyW W w' cs' :=
  ⟨hs.box, hs.only.box h.br (by omega), hs.only.to_below h.bb h.bb.size (fun i hi => by omega)⟩
theorem py_start (W : World) (cs : Array Value) : PyW W ((W.alloc (.cells cs 215)).alloc (.cells zW 215)) cs := by
  have h1 := Box.new (W.alloc (.cells cs 215)) 215 zW
  rw [show (W.alloc (.cells cs 215)).heap.size = W.heap.size + 1 by simp] at h1
  exact ⟨(Box.new W 215 cs).alloc _, h1, ((Below.refl W.heap.size W).alloc (Nat.le_refl _) _).alloc (by simp) _⟩
/-- Where the falls are through. -/
def PlayCut (W : World) (r : Int × Wd × List PlV) (v8 : Value) (wx : World) : Prop :=
  ∃ x q C kc outs, r = (0, q, outs.map (·.2)) ∧ v8 = .slice C outs.length kc ∧ PyW W wx #[.int .i64 q.how, .int .i64 q.most, .int .i64 q.win, .slice x.A q.ch.length x.c, .slice x.B q.tm.length x.d] ∧ WOwn wx (W.heap.size + 2) x q ∧ Plans wx (W.heap.size + 2) C kc outs

set_option maxRecDepth 100000 in
set_option maxHeartbeats 8000000 in
theorem playW_bad (x : WA) (v : Wd) (F : Option Addr) (fc : Nat) (l : List Fl) (W : World) (h : WIn W x v) (hl : Row W W.heap.size F (flat wfC l)) (hp : wardF v ≠ 0) :
    Calls Try.prog 119 #[wardV x v, .slice F l.length fc] W (PlayPost (wardF v, wd0, []) W) := by
  have HC := Lib.hid (fun w => checkW x v w)
  obtain ⟨pb, hpb⟩ : ∃ pb, wardF v = pb := ⟨_, rfl⟩
  rw [hpb] at hp HC ⊢
  have q1 : (pb != 0) = true := by simpa using hp
  clear hp hpb
  have HIN := Lib.hid h
  obtain ⟨A, c, B, d⟩ := x
  obtain ⟨how, most, win, ch, tm⟩ := v
  have HD0 := Lib.hid (py_start W #[.int .i64 how, .int .i64 most, .int .i64 win, .slice A ch.length c, .slice B tm.length d])
  have HI0 := Lib.hid (HIN.out.below HD0.out.bb)
  have HFW := Lib.hid hl
  have HF0 := Lib.hid ((hl.below HD0.out.bb).more HD0.out.bb.size)
  unfold wardV at *
  dsimp only at *
  have hg : W.heap.size + 1 < ((W.alloc (.cells #[.int .i64 how, .int .i64 most, .int .i64 win, .slice A ch.length c, .slice B tm.length d] 215)).alloc (.cells zW 215)).heap.size := HD0.out.lt
  clear h hl
  go_enter Try.func119, Try.ntmps119
  go_upto_region 1 with fail
  generalize (W.alloc (.cells #[.int .i64 how, .int .i64 most, .int .i64 win, .slice A ch.length c, .slice B tm.length d] 215)).alloc (.cells #[.int .i64 0, .int .i64 0, .int .i64 0, .slice none 0 0, .slice none 0 0] 215) = w1 at *
  have HR0 := Lib.hid HD0.out.bx
  go_wp2_with (guard_target =~ wpList _ _ _ ({ dst := some 14, op := _, type := _, pos := _, after := _, guard := _ } :: _) _ _; refine wpList_load_box rfl 215 (.tmp 2) rfl W.heap.size rfl #[.int .i64 how, .int .i64 most, .int .i64 win, .slice A ch.length c, .slice B tm.length d] _ HR0 Try.underlying215 rfl (by rw [ward_info]; rfl) ?_)
  refine (HC.out w1 HI0.out).mono ?_
  rintro e w2 ⟨rfl, hb2⟩
  have HD2 := Lib.hid (HD0.out.below hb2)
  have HI2 := Lib.hid (HI0.out.below hb2)
  have HF2 := Lib.hid ((HF0.out.below hb2).more hb2.size)
  clear hb2 hg
  have HRz := Lib.hid HD2.out.br
  go_wp2_with (guard_target =~ wpList _ _ _ ({ dst := none, op := _, type := _, pos := _, after := _, guard := _ } :: _) _ _; refine wpList_store_box rfl 215 (.tmp 4) (.tmp 18) rfl (W.heap.size + 1) rfl zW zW rfl HRz rfl (by rw [ward_info]; rfl) (by simp [Value.oneCell']) ?_; intro w8 hs8)
  refine bodyPost_ret (v := .tuple #[.agg zW, .slice none 0 0, .int .i64 pb]) (res_c1_t2 Try.results119 rfl (run_load_box hs8.out.box Try.underlying215 rfl (by rw [ward_info]; rfl)) rfl rfl) rfl ?_
  exact ⟨⟨none, 0, none, 0⟩, none, 0, [], rfl, rfl, (fallen0 _ _).1, Plans.nil _ _, hs8.out.only.to_below HD2.out.bb HD2.out.bb.size (fun i hi => by omega)⟩
set_option maxRecDepth 100000 in
set_option maxHeartbeats 8000000 in
theorem playW_large (x : WA) (v : Wd) (F : Option Addr) (fc : Nat) (l : List Fl) (W : World) (h : WIn W x v) (hl : Row W W.heap.size F (flat wfC l)) (hp : wardF v = 0) (h5 : 50 < l.length) :
    Calls Try.prog 119 #[wardV x v, .slice F l.length fc] W (PlayPost (2, wd0, []) W) := by
  have HC := Lib.hid (fun w => checkW x v w)
  rw [hp] at HC
  have e1 : decide ((50 : Int) < (l.length : Int)) = true := decide_eq_true (by omega)
  have e1' : decide (50 < l.length) = true := decide_eq_true h5
  clear hp h5
  have HIN := Lib.hid h
  obtain ⟨A, c, B, d⟩ := x
  obtain ⟨how, most, win, ch, tm⟩ := v
  have HD0 := Lib.hid (py_start W #[.int .i64 how, .int .i64 most, .int .i64 win, .slice A ch.length c, .slice B tm.length d])
  have HI0 := Lib.hid (HIN.out.below HD0.out.bb)
  have HFW := Lib.hid hl
  have HF0 := Lib.hid ((hl.below HD0.out.bb).more HD0.out.bb.size)
  unfold wardV at *
  dsimp only at *
  have hg : W.heap.size + 1 < ((W.alloc (.cells #[.int .i64 how, .int .i64 most, .int .i64 win, .slice A ch.length c, .slice B tm.length d] 215)).alloc (.cells zW 215)).heap.size := HD0.out.lt
  clear h hl
  go_enter Try.func119, Try.ntmps119
  go_upto_region 1 with fail
  generalize (W.alloc (.cells #[.int .i64 how, .int .i64 most, .int .i64 win, .slice A ch.length c, .slice B tm.length d] 215)).alloc (.cells #[.int .i64 0, .int .i64 0, .int .i64 0, .slice none 0 0, .slice none 0 0] 215) = w1 at *
  have HR0 := Lib.hid HD0.out.bx
  go_wp2_with (guard_target =~ wpList _ _ _ ({ dst := some 14, op := _, type := _, pos := _, after := _, guard := _ } :: _) _ _; refine wpList_load_box rfl 215 (.tmp 2) rfl W.heap.size rfl #[.int .i64 how, .int .i64 most, .int .i64 win, .slice A ch.length c, .slice B tm.length d] _ HR0 Try.underlying215 rfl (by rw [ward_info]; rfl) ?_)
  refine (HC.out w1 HI0.out).mono ?_
  rintro e w2 ⟨rfl, hb2⟩
  have HD2 := Lib.hid (HD0.out.below hb2)
  have HI2 := Lib.hid (HI0.out.below hb2)
  have HF2 := Lib.hid ((HF0.out.below hb2).more hb2.size)
  clear hb2 hg
  have HRz := Lib.hid HD2.out.br
  go_wp2_with (guard_target =~ wpList _ _ _ ({ dst := none, op := _, type := _, pos := _, after := _, guard := _ } :: _) _ _; refine wpList_store_box rfl 215 (.tmp 4) (.tmp 23) rfl (W.heap.size + 1) rfl zW zW rfl HRz rfl (by rw [ward_info]; rfl) (by simp [Value.oneCell']) ?_; intro w8 hs8)
  refine bodyPost_ret (v := .tuple #[.agg zW, .slice none 0 0, .int .i64 2]) (res_c1_t2 Try.results119 rfl (run_load_box hs8.out.box Try.underlying215 rfl (by rw [ward_info]; rfl)) rfl rfl) rfl ?_
  exact ⟨⟨none, 0, none, 0⟩, none, 0, [], rfl, rfl, (fallen0 _ _).1, Plans.nil _ _, hs8.out.only.to_below HD2.out.bb HD2.out.bb.size (fun i hi => by omega)⟩
set_option maxRecDepth 100000 in
set_option maxHeartbeats 8000000 in
theorem playW_ok (x : WA) (v : Wd) (F : Option Addr) (fc : Nat) (l : List Fl) (W : World) (h : WIn W x v) (hl : Row W W.heap.size F (flat wfC l)) (hp : wardF v = 0) (h5 : l.length ≤ 50) (hfc : l.length ≤ fc) (hfm : fc ≤ maxLen) :
    Calls Try.prog 119 #[wardV x v, .slice F l.length fc] W (PlayPost (playF v l) W) := by
  have HC := Lib.hid (fun w => checkW x v w)
  obtain ⟨_, _, h20, h50, _⟩ := wardF_zero hp
  have HCP := Lib.hid (fun w h => copyW x v w h h20 h50)
  rw [hp] at HC
  have e1 : decide ((50 : Int) < (l.length : Int)) = false := decide_eq_false (by omega)
  have e1' : decide (50 < l.length) = false := decide_eq_false (by omega)
  obtain ⟨r, hr⟩ : ∃ r, playF v l = r := ⟨_, rfl⟩
  have HAZ := Lib.hid ((ahead_zero v l).trans hr)
  rw [hr]
  unfold maxLen at hfm
  clear hp hr
  have HIN := Lib.hid h
  obtain ⟨A, c, B, d⟩ := x
  obtain ⟨how, most, win, ch, tm⟩ := v
  have HD0 := Lib.hid (py_start W #[.int .i64 how, .int .i64 most, .int .i64 win, .slice A ch.length c, .slice B tm.length d])
  have HI0 := Lib.hid (HIN.out.below HD0.out.bb)
  have HFW := Lib.hid hl
  have HF0 := Lib.hid ((hl.below HD0.out.bb).more HD0.out.bb.size)
  unfold wardV at *
  dsimp only at HC HIN HD0 HI0 HF0 HCP h20 h50
  have hg : W.heap.size + 1 < ((W.alloc (.cells #[.int .i64 how, .int .i64 most, .int .i64 win, .slice A ch.length c, .slice B tm.length d] 215)).alloc (.cells zW 215)).heap.size := HD0.out.lt
  clear h hl
  go_enter Try.func119, Try.ntmps119
  go_upto_region 1 with fail
  generalize (W.alloc (.cells #[.int .i64 how, .int .i64 most, .int .i64 win, .slice A ch.length c, .slice B tm.length d] 215)).alloc (.cells #[.int .i64 0, .int .i64 0, .int .i64 0, .slice none 0 0, .slice none 0 0] 215) = w1 at *
  have HR0 := Lib.hid HD0.out.bx
  go_wp2_with (guard_target =~ wpList _ _ _ ({ dst := some 14, op := _, type := _, pos := _, after := _, guard := _ } :: _) _ _; refine wpList_load_box rfl 215 (.tmp 2) rfl W.heap.size rfl #[.int .i64 how, .int .i64 most, .int .i64 win, .slice A ch.length c, .slice B tm.length d] _ HR0 Try.underlying215 rfl (by rw [ward_info]; rfl) ?_)
  refine (HC.out w1 HI0.out).mono ?_
  rintro e w2 ⟨rfl, hb2⟩
  have HD2 := Lib.hid (HD0.out.below hb2)
  have HI2 := Lib.hid (HI0.out.below hb2)
  have HF2 := Lib.hid ((HF0.out.below hb2).more hb2.size)
  clear hb2 hg
  have HX2 := Lib.hid HD2.out.bx
  go_wp2_with (guard_target =~ wpList _ _ _ ({ dst := some 24, op := _, type := _, pos := _, after := _, guard := _ } :: _) _ _; refine wpList_load_box rfl 215 (.tmp 2) rfl W.heap.size rfl #[.int .i64 how, .int .i64 most, .int .i64 win, .slice A ch.length c, .slice B tm.length d] _ HX2 Try.underlying215 rfl (by rw [ward_info]; rfl) ?_)
  refine (HCP.out w2 HI2.out).mono ?_
  rintro e w3 ⟨⟨A2, c2, B2, d2⟩, rfl, ho3, hb3⟩
  have HD3 := Lib.hid (HD2.out.below hb3)
  have HF3 := Lib.hid ((HF2.out.below hb3).more hb3.size)
  have HX3 := Lib.hid HD3.out.bx
  have hl2 := HD2.out.lt
  have HO3 := Lib.hid ho3
  clear ho3 hb3
  go_upto_region 7 with (guard_target =~ wpList _ _ _ ({ dst := none, op := _, type := _, pos := _, after := _, guard := _ } :: _) _ _; refine wpList_store_box rfl 215 (.tmp 2) (.tmp 25) rfl W.heap.size rfl #[.int .i64 how, .int .i64 most, .int .i64 win, .slice A ch.length c, .slice B tm.length d] #[.int .i64 how, .int .i64 most, .int .i64 win, .slice A2 ch.length c2, .slice B2 tm.length d2] rfl HX3 rfl (by rw [ward_info]; rfl) (by simp [Value.oneCell']) ?_; intro w4 hs4)
  have HD4 := Lib.hid (HD3.out.stored hs4.out)
  have HO4 := Lib.hid ((HO3.out.only hs4.out.only (fun b hb => by omega)).lower (show W.heap.size + 2 ≤ w2.heap.size by omega))
  have HF4 := Lib.hid (show Row w4 W.heap.size F (flat wfC l) from HFW.out.below HD4.out.bb)
  clear hs4
  go_upto_block 0 with fail
  go_cut [8] (fun v8 wx => PlayCut W r v8 wx)
  case first =>
    go_wp2_with fail
    go_loopg [8, 28] l.length (fun gk v8 i wr => ∃ (k : Nat) (x : WA) (q : Wd) (C : Option Addr) (kc : Nat) (outs : List (PA × PlV)), gk = l.length - k ∧ k ≤ l.length ∧ i = .int .i64 k ∧ v8 = .slice C outs.length kc ∧ outs.length ≤ k ∧ ahead (outs.map (·.2)) (playF q (l.drop k)) = r ∧ PyW W wr #[.int .i64 q.how, .int .i64 q.most, .int .i64 q.win, .slice x.A q.ch.length x.c, .slice x.B q.tm.length x.d] ∧ WOwn wr (W.heap.size + 2) x q ∧ Plans wr (W.heap.size + 2) C kc outs)
    case atStart => exact ⟨0, ⟨A2, c2, B2, d2⟩, ⟨how, most, win, ch, tm⟩, none, 0, [], rfl, by omega, rfl, rfl, by simp, HAZ.out, HD4.out, HO4.out, Plans.nil _ _⟩
    case round =>
      obtain ⟨k, x, q, C, kc, outs, hgk, hk, rfl, rfl, hol, hah, hd, ho, hps⟩ := hrel
      rcases Nat.eq_or_lt_of_le hk with rfl | hlt
      · have e2 : decide ((l.length : Int) < l.length) = false := decide_eq_false (by omega)
        rw [List.drop_of_length_le (Nat.le_refl _), ahead_nil] at hah
        have HRS := Lib.hid (show PlayCut W r (.slice C outs.length kc) wr from ⟨x, q, C, kc, outs, hah.symm, rfl, hd, ho, hps⟩)
        clear hah hd ho hps hgk hk
        go_wp2_with fail
        go_meet
        exact HRS.out
      · have e2 : decide ((k : Int) < l.length) = true := decide_eq_true (by omega)
        have e2' : decide (k < l.length) = true := decide_eq_true hlt
        rw [drop_getD l (0, false, 0) hlt] at hah
        have HB := Lib.hid hd.bb
        obtain ⟨bF, oF, rfl, hbF, f0, f1, f2⟩ := Row.wf (HFW.out.below hd.bb) hlt (0, false, 0)
        obtain ⟨y, hy⟩ : ∃ y, l.getD k (0, false, 0) = y := ⟨_, rfl⟩
        rw [hy] at f0 f1 f2 hah
        have HAH := Lib.hid hah
        have HD := Lib.hid hd
        have HO := Lib.hid ho
        have HPS := Lib.hid hps
        have HGK := Lib.hid hgk
        have hgs := hd.lt
        clear hah hd ho hps hgk hk hy
        obtain ⟨y0, y1, y2⟩ := y
        dsimp only at f0 f1 f2 HAH
        have HBN := Lib.hid (Box.new wr 233 #[.int .i64 0, .bool false, .int .i64 0])
        go_upto_region 11 with (guard_target =~ wpList _ _ _ ({ dst := none, op := _, type := _, pos := _, after := _, guard := _ } :: _) _ _; refine wpList_store_box rfl 233 (.tmp 10) (.tmp 31) rfl wr.heap.size rfl #[.int .i64 0, .bool false, .int .i64 0] #[.int .i64 y0, .bool y1, .int .i64 y2] rfl HBN rfl (by rw [fall_info]; rfl) (by simp [Value.oneCell']) ?_; intro w5 hs5)
        have hb5 := hs5.out.only.to_below ((Below.refl wr.heap.size wr).alloc (Nat.le_refl _) (.cells #[.int .i64 0, .bool false, .int .i64 0] 233)) (by simp) (fun i hi => by omega)
        have HD5 := Lib.hid (HD.out.below hb5)
        have HO5 := Lib.hid (HO.out.below hb5)
        have HPS5 := Lib.hid (HPS.out.below hb5)
        have HX5 := Lib.hid HD5.out.bx
        have b0 := hs5.out.box.cell 0
        have b1 := hs5.out.box.cell 1
        have b2 := hs5.out.box.cell 2
        simp only [List.getElem?_toArray, List.getElem?_cons_zero, List.getElem?_cons_succ] at b0 b1 b2
        have hwr5 : wr.heap.size < w5.heap.size := hs5.out.box.lt
        clear f0 f1 f2 hb5 hs5
        have HAB := Lib.hid (fun h => (ahead_bad (v := q) (f := (y0, y1, y2)) (outs.map (·.2)) (l.drop (k + 1)) h).symm.trans HAH.out)
        have HAG := Lib.hid (fun h h2 => (ahead_gave (v := q) (f := (y0, y1, y2)) (outs.map (·.2)) (l.drop (k + 1)) h h2).symm.trans HAH.out)
        have HAN := Lib.hid (fun h h2 => (ahead_next (v := q) (f := (y0, y1, y2)) (outs.map (·.2)) (l.drop (k + 1)) h h2).symm.trans HAH.out)
        dsimp only at HAB HAG HAN
        clear HAH
        go_wp2_with (guard_target =~ wpList _ _ _ ({ dst := some 33, op := _, type := _, pos := _, after := _, guard := _ } :: _) _ _; refine wpList_load_box rfl 215 (.tmp 2) rfl W.heap.size rfl #[.int .i64 q.how, .int .i64 q.most, .int .i64 q.win, .slice x.A q.ch.length x.c, .slice x.B q.tm.length x.d] _ HX5 Try.underlying215 rfl (by rw [ward_info]; rfl) ?_)
        refine (downW x q y0 y1 y2 w5 HO5.out.win).mono ?_
        rintro e w6 ⟨x2, p2, rfl, hwo, hpo, hb6⟩
        generalize fallQ q y0 y1 y2 = qq at *
        generalize fallE q y0 y2 = ee at *
        have HD6 := Lib.hid (HD5.out.below hb6)
        have HPS6 := Lib.hid (HPS5.out.below hb6)
        have h25 := HD5.out.lt
        have HW6 := Lib.hid (hwo.lower (show W.heap.size + 2 ≤ w5.heap.size by omega))
        have HP6 := Lib.hid (hpo.lower (show W.heap.size + 2 ≤ w5.heap.size by omega))
        have hs56 := hb6.size
        have HN1 := Lib.hid ((Box.new w6 215 zW).alloc (.cells zP 220))
        have HN2 := Lib.hid (Box.new (w6.alloc (.cells zW 215)) 220 zP)
        rw [show (w6.alloc (.cells zW 215)).heap.size = w6.heap.size + 1 by simp] at HN2
        clear hwo hpo hb6 b0 b1 b2
        go_upto_region 12 with (first | (guard_target =~ wpList _ _ _ ({ dst := none, op := _, type := _, pos := _, after := _, guard := _ } :: _) _ _; refine wpList_store_box rfl 215 (.tmp 11) (.tmp 41) rfl w6.heap.size rfl zW #[.int .i64 qq.1.how, .int .i64 qq.1.most, .int .i64 qq.1.win, .slice x2.A qq.1.ch.length x2.c, .slice x2.B qq.1.tm.length x2.d] rfl HN1 rfl (by rw [ward_info]; rfl) (by simp [Value.oneCell']) ?_; intro w8 hs8; have HP8 := Lib.hid (hs8.out.only.box HN2.out (by omega))) | (guard_target =~ wpList _ _ _ ({ dst := none, op := _, type := _, pos := _, after := _, guard := _ } :: _) _ _; refine wpList_store_box rfl 220 (.tmp 12) (.tmp 42) rfl (w6.heap.size + 1) rfl zP #[.slice p2.C qq.2.1.length p2.k, .slice p2.D qq.2.2.1.length p2.l, .bool qq.2.2.2] rfl HP8 rfl (by rw [plan_info]; rfl) (by simp [Value.oneCell']) ?_; intro w9 hs9))
        have hb69 : Below w6.heap.size w6 w9 := hs9.out.only.to_below (hs8.out.only.to_below (((Below.refl w6.heap.size w6).alloc (Nat.le_refl _) (.cells zW 215)).alloc (by simp) (.cells zP 220)) (by simp; omega) (fun i hi => by omega)) (by have := hs8.out.size; simp at this; omega) (fun i hi => by omega)
        have HX9 := Lib.hid (hs9.out.only.box hs8.out.box (by omega))
        have HP9 := Lib.hid hs9.out.box
        have HD9 := Lib.hid (HD6.out.below hb69)
        have HPS9 := Lib.hid (HPS6.out.below hb69)
        have HW9 := Lib.hid (HW6.out.below hb69)
        have HPO9 := Lib.hid (HP6.out.below hb69)
        have h29 : W.heap.size + 1 < w6.heap.size := by omega
        have h69 : w6.heap.size + 1 < w9.heap.size := hs9.out.box.lt
        clear hb69 hs8 hs9 HP8
        by_cases he : ee = 0
        · subst he
          have HX10 := Lib.hid HD9.out.bx
          go_upto_region 15 with (first | (guard_target =~ wpList _ _ _ ({ dst := some 48, op := _, type := _, pos := _, after := _, guard := _ } :: _) _ _; refine wpList_load_box rfl 215 (.tmp 11) rfl w6.heap.size rfl #[.int .i64 qq.1.how, .int .i64 qq.1.most, .int .i64 qq.1.win, .slice x2.A qq.1.ch.length x2.c, .slice x2.B qq.1.tm.length x2.d] _ HX9 Try.underlying215 rfl (by rw [ward_info]; rfl) ?_) | (guard_target =~ wpList _ _ _ ({ dst := none, op := _, type := _, pos := _, after := _, guard := _ } :: _) _ _; refine wpList_store_box rfl 215 (.tmp 2) (.tmp 48) rfl W.heap.size rfl #[.int .i64 q.how, .int .i64 q.most, .int .i64 q.win, .slice x.A q.ch.length x.c, .slice x.B q.tm.length x.d] #[.int .i64 qq.1.how, .int .i64 qq.1.most, .int .i64 qq.1.win, .slice x2.A qq.1.ch.length x2.c, .slice x2.B qq.1.tm.length x2.d] rfl HX10 rfl (by rw [ward_info]; rfl) (by simp [Value.oneCell']) ?_; intro w10 hs10))
          have HD10 := Lib.hid (HD9.out.stored hs10.out)
          have HPS10 := Lib.hid (HPS9.out.only hs10.out.only (fun b hb => by omega))
          have HW10 := Lib.hid (HW9.out.only hs10.out.only (fun b hb => by omega))
          have HPO10 := Lib.hid (HPO9.out.only hs10.out.only (fun b hb => by omega))
          have HP10 := Lib.hid (hs10.out.only.box HP9.out (by omega))
          have hs910 : w9.heap.size ≤ w10.heap.size := by have := hs10.out.size; omega
          clear hs10
          have HPS11 := Lib.hid (HPS10.out.below ((Below.refl w10.heap.size w10).alloc (Nat.le_refl _) (.cells #[.slice p2.C qq.2.1.length p2.k, .slice p2.D qq.2.2.1.length p2.l, .bool qq.2.2.2] 220)))
          have HYC := Lib.hid (show ∀ j u, (pnC (p2, qq.2))[j]? = some u → (w10.alloc (.cells #[.slice p2.C qq.2.1.length p2.k, .slice p2.D qq.2.2.1.length p2.l, .bool qq.2.2.2] 220)).cell? ⟨w10.heap.size, j, none⟩ = some u from fun j u hu => by
            have h1 := (Box.new w10 220 (pnC (p2, qq.2)).toArray).cell j
            rw [List.getElem?_toArray] at h1
            exact h1.trans hu)
          go_upto_region 16 with (first | (guard_target =~ wpList _ _ _ ({ dst := some 50, op := _, type := _, pos := _, after := _, guard := _ } :: _) _ _; refine wpList_load_box rfl 220 (.tmp 12) rfl (w6.heap.size + 1) rfl #[.slice p2.C qq.2.1.length p2.k, .slice p2.D qq.2.2.1.length p2.l, .bool qq.2.2.2] _ HP10 Try.underlying220 rfl (by rw [plan_info]; rfl) ?_) | (at_builtin; refine wpList_pushq_pn rfl (.tmp 49) (.tmp 51) rfl (W.heap.size + 2) C kc outs rfl HPS11.out.row w10.heap.size (p2, qq.2) rfl HYC.out (by omega) (by simp; omega) ?_; intro C2 kc2 w11 hown11 ho11))
          have hcm : ∀ b, C.map (·.block) = some b → W.heap.size + 1 < b := fun b hb => by have := own_min HPS11.out.row b hb; omega
          have HPS12 := Lib.hid (HPS11.out.push ((HPO10.out.below ((Below.refl w10.heap.size w10).alloc (Nat.le_refl _) (.cells #[.slice p2.C qq.2.1.length p2.k, .slice p2.D qq.2.2.1.length p2.l, .bool qq.2.2.2] 220)))) hown11 ho11)
          have HD12 := Lib.hid ((HD10.out.below ((Below.refl w10.heap.size w10).alloc (Nat.le_refl _) (.cells #[.slice p2.C qq.2.1.length p2.k, .slice p2.D qq.2.2.1.length p2.l, .bool qq.2.2.2] 220))).only ho11 hcm)
          have hwo := HW10.out.below ((Below.refl w10.heap.size w10).alloc (Nat.le_refl _) (.cells #[.slice p2.C qq.2.1.length p2.k, .slice p2.D qq.2.2.1.length p2.l, .bool qq.2.2.2] 220))
          have HW12 := Lib.hid (show WOwn w11 (W.heap.size + 2) x2 qq.1 from ⟨hwo.ch.only ho11 (fun b hb ht => own_apart hwo.ch HPS11.out.row (by decide) b hb ht), hwo.tm.only ho11 (fun b hb ht => own_apart hwo.tm HPS11.out.row (by decide) b hb ht)⟩)
          have b2 : w11.cell? ⟨w6.heap.size + 1, 2, none⟩ = some (.bool qq.2.2.2) := by
            have hp := HP10.out.alloc (.cells #[.slice p2.C qq.2.1.length p2.k, .slice p2.D qq.2.2.1.length p2.l, .bool qq.2.2.2] 220)
            exact (ho11.box hp (fun hc => by have := own_max HPS6.out.row _ hc; omega)).cell 2
          clear hown11 ho11 hwo hcm
          have HA1 := Lib.hid (HAG.out rfl)
          have HA2 := Lib.hid (HAN.out rfl)
          clear HAB HAG HAN
          generalize hgv : qq.2.2.2 = gv at *
          cases gv with
          | true =>
            have HR := Lib.hid (show PlayCut W r (.slice C2 (outs.length + 1) kc2) w11 from ⟨x2, qq.1, C2, kc2, outs ++ [(p2, qq.2)], by rw [← HA1.out rfl]; simp, by rw [List.length_append]; rfl, HD12.out, HW12.out, HPS12.out⟩)
            clear HA1 HA2 hgv
            go_wp2_with fail
            go_meet
            exact HR.out
          | false =>
            have HR := Lib.hid (HA2.out rfl)
            clear HA1 HA2 hgv
            go_wp2_with fail
            go_roundg (l.length - (k + 1))
            case measure => have := HGK.out; omega
            case rel => exact ⟨k + 1, x2, qq.1, C2, kc2, outs ++ [(p2, qq.2)], rfl, by omega, by go_num, by rw [List.length_append]; rfl, by rw [List.length_append]; simp; omega, by rw [List.map_append]; exact HR.out, HD12.out, HW12.out, HPS12.out⟩
        · have q1 : (ee != 0) = true := by simpa using he
          have HR := Lib.hid (HAB.out he)
          have HRz := Lib.hid HD9.out.br
          clear he HAB HAG HAN
          go_wp2_with (guard_target =~ wpList _ _ _ ({ dst := none, op := _, type := _, pos := _, after := _, guard := _ } :: _) _ _; refine wpList_store_box rfl 215 (.tmp 4) (.tmp 46) rfl (W.heap.size + 1) rfl zW zW rfl HRz rfl (by rw [ward_info]; rfl) (by simp [Value.oneCell']) ?_; intro w12 hs12)
          rw [← HR.out]
          refine bodyPost_ret (v := .tuple #[.agg zW, .slice none 0 0, .int .i64 ee]) (res_c1_t2 Try.results119 rfl (run_load_box hs12.out.box Try.underlying215 rfl (by rw [ward_info]; rfl)) rfl rfl) rfl ?_
          exact ⟨⟨none, 0, none, 0⟩, none, 0, [], rfl, rfl, (fallen0 _ _).1, Plans.nil _ _, hs12.out.only.to_below HD9.out.bb HD9.out.bb.size (fun i hi => by omega)⟩
  case rest =>
    obtain ⟨x, q, C, kc, outs, rfl, rfl, hd, ho, hps⟩ := hcut
    have HX := Lib.hid hd.bx
    have HRz := Lib.hid hd.br
    have HD := Lib.hid hd
    have HO := Lib.hid ho
    have HPS := Lib.hid hps
    clear hd ho hps
    go_wp2_with (first | (guard_target =~ wpList _ _ _ ({ dst := some 56, op := _, type := _, pos := _, after := _, guard := _ } :: _) _ _; refine wpList_load_box rfl 215 (.tmp 2) rfl W.heap.size rfl #[.int .i64 q.how, .int .i64 q.most, .int .i64 q.win, .slice x.A q.ch.length x.c, .slice x.B q.tm.length x.d] _ HX Try.underlying215 rfl (by rw [ward_info]; rfl) ?_) | (guard_target =~ wpList _ _ _ ({ dst := none, op := _, type := _, pos := _, after := _, guard := _ } :: _) _ _; refine wpList_store_box rfl 215 (.tmp 4) (.tmp 56) rfl (W.heap.size + 1) rfl zW #[.int .i64 q.how, .int .i64 q.most, .int .i64 q.win, .slice x.A q.ch.length x.c, .slice x.B q.tm.length x.d] rfl HRz rfl (by rw [ward_info]; rfl) (by simp [Value.oneCell']) ?_; intro w12 hs12))
    refine bodyPost_ret (v := .tuple #[.agg #[.int .i64 q.how, .int .i64 q.most, .int .i64 q.win, .slice x.A q.ch.length x.c, .slice x.B q.tm.length x.d], .slice C outs.length kc, .int .i64 0]) (res_c1_t2 Try.results119 rfl (run_load_box hs12.out.box Try.underlying215 rfl (by rw [ward_info]; rfl)) rfl rfl) rfl ?_
    exact ⟨x, C, kc, outs, rfl, rfl, (HO.out.only hs12.out.only (fun b hb => by omega)).lower (by omega), (HPS.out.only hs12.out.only (fun b hb => by omega)).lower (by omega), hs12.out.only.to_below HD.out.bb HD.out.bb.size (fun i hi => by omega)⟩
theorem playW (x : WA) (v : Wd) (F : Option Addr) (fc : Nat) (l : List Fl) (W : World) (h : WIn W x v) (hl : Row W W.heap.size F (flat wfC l)) (hfc : l.length ≤ fc) (hfm : fc ≤ maxLen) :
    Calls Try.prog 119 #[wardV x v, .slice F l.length fc] W (PlayPost (playQ v l) W) := by
  unfold playQ
  by_cases hp : wardF v = 0
  · rw [if_neg (by rw [hp]; decide)]
    by_cases h5 : 50 < l.length
    · rw [if_pos h5]
      exact playW_large x v F fc l W h hl hp h5
    · rw [if_neg h5]
      exact playW_ok x v F fc l W h hl hp (by omega) hfc hfm
  · rw [if_pos hp]
    exact playW_bad x v F fc l W h hl hp
end Go.Proofs.Ytcmkkfpcdebfkaa
