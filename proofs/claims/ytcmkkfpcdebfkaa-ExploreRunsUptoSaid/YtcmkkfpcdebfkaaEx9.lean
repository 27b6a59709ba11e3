/-
  Programs turned from one package's type to the other's (roadlaw4.progs).
-/
import Derived.Test.YtcmkkfpcdebfkaaEx8
import Derived.Deep.RegionLaw
import Derived.Deep.RegionHeld3
import Derived.Deep.CutBlock
import Derived.Deep.DeepCutAuto
namespace Go.Proofs.Ytcmkkfpcdebfkaa
open Go.RowKit

/-- A row away from block g. -/
def RowO (w : World) (g : Nat) (A : Option Addr) (vs : List Value) : Prop :=
  0 < vs.length → ∃ b o, A = some ⟨b, o, none⟩ ∧ b < w.heap.size ∧ b ≠ g ∧ ∀ i v, vs[i]? = some v → w.cell? ⟨b, o + i, none⟩ = some v
section
variable {w w' w'' : World} {g : Nat} {A : Option Addr} {vs : List Value}
theorem RowO.sole (h : RowO w g A vs) (hs : Sole g w w') : RowO w' g A vs := fun hp => by
  obtain ⟨b, o, e, hb, hne, hc⟩ := h hp
  have hbl := hs.block b hb (by simpa using hne)
  refine ⟨b, o, e, Nat.lt_of_lt_of_le hb hs.size, hne, fun i v hv => ?_⟩
  rw [← hc i v hv]
  simp only [World.cell?, hbl]
theorem RowO.row (h : RowO w g A vs) : Row w w.heap.size A vs := fun hp => by
  obtain ⟨b, o, e, hb, _, hc⟩ := h hp
  exact ⟨b, o, e, hb, hc⟩
theorem OwnAt.rowO {base : Nat} {e : TypeId} {size n cap : Nat} (h : OwnAt w base e size A n cap vs) (hg : g < base) : RowO w g A vs := fun hp => by
  rcases h.form with ⟨_, h0, _⟩ | ⟨g', o, rfl⟩
  · rw [h.1, h0] at hp; simp at hp
  · exact ⟨g', o, rfl, h.lt.2, by have := h.lt.1; omega, h.cells⟩
theorem Sole.only {T : Nat → Prop} (h : Sole g w w') (ho : Only T w' w'') (hT : ∀ i, T i → w.heap.size ≤ i) : Sole g w w'' :=
  ⟨ho.os.trans h.os, ho.tape.trans h.tape, ho.output.trans h.output, Nat.le_trans h.size ho.size, fun i hi hne => (ho.block i (Nat.lt_of_lt_of_le hi h.size) (fun ht => by have := hT i ht; omega)).trans (h.block i hi hne)⟩
end

/-- The rows that were made. -/
structure Made (w : World) (g : Nat) (l : List (List Do)) (k : Nat) (cs : List Value) : Prop where
  len : cs.length = l.length
  box : Box w g 41 cs.toArray
  done : ∀ i, i < k → i < l.length → ∃ B d, cs[i]? = some (.slice B (l.getD i []).length d) ∧ RowO w g B (flat doC (l.getD i [])) ∧ (l.getD i []).length ≤ d ∧ d ≤ maxLen ∧ (B = none → d = 0)
  rest : ∀ i, k ≤ i → i < l.length → cs[i]? = some (.slice none 0 0)
theorem Made.next {w wr : World} {g k n c : Nat} {l : List (List Do)} {cs : List Value} {A : Option Addr} (h : Made w g l k cs) (hs : Sole g w wr) (hk : k < l.length) (hb : Box wr g 41 (cs.set k (.slice A n c)).toArray) (hn : n = (l.getD k []).length)
    (ho : OwnAt wr w.heap.size 40 3 A n c (flat xdC (l.getD k []))) : Made wr g l (k + 1) (cs.set k (.slice A n c)) := by
  have hg := h.box.lt
  refine ⟨by rw [List.length_set]; exact h.len, hb, fun i hi hl => ?_, fun i hi hl => ?_⟩
  · by_cases e : i = k
    · subst e
      subst hn
      refine ⟨A, c, by rw [List.getElem?_set_self (by rw [h.len]; exact hl)], ho.rowO hg, ho.cap_le.1, ho.cap_le.2, fun e => ?_⟩
      rcases ho.form with ⟨_, _, h0⟩ | ⟨g1, o1, h0⟩
      · exact h0
      · rw [h0] at e; cases e
    · obtain ⟨B, d, h1, h2, h3⟩ := h.done i (by omega) hl
      exact ⟨B, d, by rw [List.getElem?_set_ne (fun h => e h.symm)]; exact h1, h2.sole hs, h3⟩
  · rw [List.getElem?_set_ne (by omega)]
    exact h.rest i (by omega) hl
theorem Made.pin {w : World} {g : Nat} {l : List (List Do)} {cs : List Value} (h : Made w g l l.length cs) (h1 : l.length ≤ 1048576) (h2 : l.flatten.length ≤ 1048576) : PIn w (some ⟨g, 0, none⟩) l.length l := by
  refine ⟨fun i hi => ?_, Nat.le_refl _, by unfold maxLen; omega, h1, h2⟩
  obtain ⟨B, d, e, hr, h3⟩ := h.done i hi hi
  refine ⟨g, 0, B, d, rfl, h.box.lt, ?_, hr.row, h3⟩
  rw [h.box.cell]
  simpa using e

theorem xds_info : (Try.prog.info? 41).map (fun i => (i.zero, i.size, i.bytes)) = some (some (.slice none 0 0), 1, 24) := by kernel_rfl
theorem made_nils (z : Value) (n : Nat) : madeCells #[z] n = (List.replicate n z).toArray := by
  apply Array.ext
  · simp [madeCells]
  · intro i h1 h2
    simp [madeCells, Nat.mod_one]
def nilsA (n : Nat) : Array Value := (List.replicate n (Value.slice none 0 0)).toArray
theorem make_xds (n : Nat) (hn : n ≤ 1048576) (w : World) :
    (Instr.makeSlice 42 (.int .i64 (n : Int)) (.int .i64 (n : Int))).run Try.prog w = .ok (.slice (some ⟨w.heap.size, 0, none⟩) n n) (w.alloc (.cells (nilsA n) 41)) := by
  obtain ⟨i0, hi0, hz0, hz1, hz2⟩ := info_parts xds_info
  have hb : (i0.bytes : Int) * (n : Int) ≤ 24 * 1048576 := Int.mul_le_mul (by omega) (by omega) (by omega) (by omega)
  have hr := run_make (P := Try.prog) w 42 41 i0 _ Try.underlying42 hi0 hz0 .i64 .i64 (n : Int) (n : Int) (by omega) (by omega) (by omega) (by omega)
  rw [Int.toNat_natCast, hz1, Nat.mul_one, show (Value.slice none 0 0).cells = #[.slice none 0 0] from rfl, made_nils] at hr
  exact hr

/-- One instruction appended, in a region that draws its order. -/
theorem step_push_xd {ops : Array Oper} {o : Oper} {a : Act} {w : World} {K : Act → World → Prop} {Q : Exit → Act → World → Prop} {E : Prop} (hgd : o.guard = none) (s x : Operand)
    (ho : o.op = .call { callee := .builtin .append, args := #[s, x], argTypes := #[41, 41] })
    (base : Nat) (A : Option Addr) (c n : Nat) (zs : List Do) (hn : zs.length = n) (hs : a.eval s = .slice A n c) (hown : OwnAt w base 40 3 A n c (flat xdC zs)) (g : Nat) (y : Do) (hx : a.eval x = .slice (some ⟨g, 0, none⟩) 1 1) (hy : ∀ j u, (xdC y)[j]? = some u → w.cell? ⟨g, j, none⟩ = some u)
    (hb : (n + 1) * 24 ≤ 140737488355328) (hbase : base ≤ w.heap.size)
    (h : ∀ A' c' w', OwnAt w' base 40 3 A' (n + 1) c' (flat xdC (zs ++ [y])) → Only (fun b => A.map (·.block) = some b) w w' → K (a.put o.dst (.slice A' (n + 1) c')) w') :
    if Region.wanted o (yielded ops a.tmps) = true then Oper.wp Try.prog o a w K Q else E := by
  obtain ⟨i0, z0, hi0, hz0, hz1, hz2, hz3⟩ := xd_parts
  refine step_append_q hgd s x _ ho base 40 i0 z0 3 24 Try.underlying41 hi0 hz0 hz1 hz2 hz3 (by decide) A n c (flat xdC zs) hs hown ⟨g, 0, none⟩ 1 1 (xdC y) hx rfl ?_ (xd_one y) (by unfold maxLen; omega) hb hbase (by decide) ?_
  · intro j u hu
    rw [addr_add, Nat.zero_add]
    exact hy j u hu
  · intro g' o' c' w' h1 h2 h3
    exact h _ c' w' (by rw [flat_append, flat_one]; exact h1) ⟨h2.os, h2.tape, h2.output, h2.size, fun i hi hne => h2.block i hi (fun e => hne e.symm)⟩

/-- Programs of the call's own are handed back. -/
def ProgsPost (l : List (List Do)) (w : World) (e : Ending) (w' : World) : Prop := ∃ A' c', e = .returned (.slice A' l.length c') ∧ PIn w' A' c' l ∧ Below w.heap.size w w'

set_option maxRecDepth 100000 in
set_option maxHeartbeats 4000000 in
theorem progsC (A : Option Addr) (c : Nat) (l : List (List Do)) (W : World) (h : PIn W A c l) :
    Calls Try.prog 20 #[.slice A l.length c] W (ProgsPost l W) := by
  have HP := Lib.hid h
  have hlen := h.len
  have hsum := h.sum
  have hmk := fun w => make_xds l.length hlen w
  clear h
  go_enter Try.func20, Try.ntmps20
  go_wp2_with fail
  clear hmk
  have HM0 := Lib.hid (show Made (W.alloc (.cells (nilsA l.length) 41)) W.heap.size l 0 (List.replicate l.length (Value.slice none 0 0)) from
    ⟨by simp, Box.new _ _ _, fun i hi => by omega, fun i _ hi => by simp [hi]⟩)
  have HB0 := Lib.hid (show Below W.heap.size W (W.alloc (.cells (nilsA l.length) 41)) from (Below.refl _ _).alloc (Nat.le_refl _) _)
  generalize W.alloc (.cells (nilsA l.length) 41) = w0 at *
  go_loopg [13] l.length (fun gk i wr => ∃ (k : Nat) (cs : List Value), gk = l.length - k ∧ k ≤ l.length ∧ i = .int .i64 k ∧ Made wr W.heap.size l k cs ∧ Below W.heap.size W wr)
  case atStart => exact ⟨0, _, by omega, by omega, rfl, HM0.out, HB0.out⟩
  case round =>
    clear HM0 HB0
    obtain ⟨k, cs, hgk, hk, rfl, hm, hb⟩ := hrel
    have HK := Lib.hid hgk
    have HM := Lib.hid hm
    have HB := Lib.hid hb
    clear hgk hm hb
    by_cases hlt : k < l.length
    · obtain ⟨b, o, B, d, rfl, hbl, hcell0, hrow, hd1, hd2, hd3⟩ := HP.out.each k hlt
      have HROW := Lib.hid hrow
      have hcell := (HB.out.cell (p := ⟨b, o + k, none⟩) hbl).trans hcell0
      clear hcell0
      have hbs := HB.out.size
      have hsr := flatten_row_le l hlt
      have hml : (l.getD k []).length ≤ 1048576 := by omega
      obtain ⟨row, hrw⟩ : ∃ row, l.getD k [] = row := ⟨_, rfl⟩
      have HGR := Lib.hid hrw
      rw [hrw] at hcell HROW hml hd1
      have HCS := Lib.hid (HM.out.rest k (Nat.le_refl _) hlt)
      clear hrw hrow hsr
      go_wp2_with fail
      obtain ⟨wo, hwo⟩ : ∃ wo, wo = wr := ⟨_, rfl⟩
      subst hwo
      have HCL := Lib.hid HM.out.len
      have hgo : W.heap.size < wo.heap.size := HM.out.box.lt
      have HBX0 := Lib.hid (show Box wo W.heap.size 41 (cs.set k (.slice none 0 0)).toArray from by
        have e : cs.set k (.slice none 0 0) = cs := by
          apply List.ext_getElem?
          intro i
          rw [List.getElem?_set]
          split
          · rename_i e; subst e
            rw [HCS.out]
            rw [if_pos (by rw [HCL.out]; exact hlt)]
          · rfl
        rw [e]
        exact HM.out.box)
      go_loopg [20] row.length (fun gk i wq => ∃ (j : Nat) (A' : Option Addr) (c' : Nat), gk = row.length - j ∧ j ≤ row.length ∧ i = .int .i64 j ∧ Sole W.heap.size wo wq ∧ Box wq W.heap.size 41 (cs.set k (.slice A' j c')).toArray ∧ OwnAt wq wo.heap.size 40 3 A' j c' (flat xdC (row.take j)))
      case atStart => exact ⟨0, none, 0, by omega, by omega, rfl, Sole.refl _ _, HBX0.out, OwnAt.nil⟩
      case round =>
        clear HBX0
        obtain ⟨j, A', c', hgj, hj, rfl, hso, hbx, hown⟩ := hrel
        have HJ := Lib.hid hgj
        have HSO := Lib.hid hso
        have HBX := Lib.hid hbx
        have HO := Lib.hid hown
        have hos := hso.size
        clear hgj hso hbx hown
        by_cases hjl : j < row.length
        · have hrow2 : Row wr W.heap.size B (flat doC row) := HROW.out.below (HSO.out.below HB.out hbs (Nat.le_refl _))
          obtain ⟨b2, o2, rfl, hb2, hc0, hc1, hc2⟩ := (Row.rd hrow2 hjl (0, 0, 0))
          have HT := Lib.hid (take_getD row (0, 0, 0) hjl)
          have HTL := Lib.hid (show (row.take j).length = j by rw [List.length_take]; omega)
          clear hrow2
          generalize row.getD j (0, 0, 0) = y at *
          obtain ⟨y0, y1, y2⟩ := y
          dsimp only at hc0 hc1 hc2
          generalize hzs : row.take j = zs at *
          clear hzs
          go_upto_region 8 with fail
          have hgw : W.heap.size < wr.heap.size := by omega
          have hq0 := (HBX.out.alloc (.cells #[.int .i64 y0, .int .i64 y1, .int .i64 y2] 57)).cell k
          simp only [List.getElem?_toArray, List.getElem?_set_self (show k < cs.length by rw [HCL.out]; exact hlt)] at hq0
          have hbd := Box.new wr 57 #[.int .i64 y0, .int .i64 y1, .int .i64 y2]
          have e0 := hbd.cell 0
          have e1 := hbd.cell 1
          have e2 := hbd.cell 2
          simp only [List.getElem?_toArray, List.getElem?_cons_zero, List.getElem?_cons_succ] at e0 e1 e2
          have HSO1 := Lib.hid (HSO.out.alloc (.cells #[.int .i64 y0, .int .i64 y1, .int .i64 y2] 57))
          have HBX1 := Lib.hid (HBX.out.alloc (.cells #[.int .i64 y0, .int .i64 y1, .int .i64 y2] 57))
          have HO1 := Lib.hid (HO.out.alloc (.cells #[.int .i64 y0, .int .i64 y1, .int .i64 y2] 57))
          have HBD0 := Lib.hid (show ∀ g o, A' = some ⟨g, o, none⟩ → g < wr.heap.size from fun g o e => by have h := HO.out; subst e; exact h.lt.2)
          have hw1 : (wr.alloc (.cells #[.int .i64 y0, .int .i64 y1, .int .i64 y2] 57)).heap.size = wr.heap.size + 1 := by simp
          generalize wr.alloc (.cells #[.int .i64 y0, .int .i64 y1, .int .i64 y2] 57) = w1 at *
          have hgw1 : W.heap.size < w1.heap.size := by omega
          have hgd : wr.heap.size < w1.heap.size := by omega
          generalize wr.heap.size = gd at *
          have q1 : ∀ o, (w1.alloc o).cell? ⟨W.heap.size, k, none⟩ = some (.slice A' j c') := fun o => (World.cell?_alloc_lt w1 o ⟨W.heap.size, k, none⟩ hgw1).trans hq0
          have r0 : ∀ o, (w1.alloc o).cell? ⟨gd, 0, none⟩ = some (.int .i64 y0) := fun o => (World.cell?_alloc_lt w1 o ⟨gd, 0, none⟩ hgd).trans e0
          have r1 : ∀ o, (w1.alloc o).cell? ⟨gd, 1, none⟩ = some (.int .i64 y1) := fun o => (World.cell?_alloc_lt w1 o ⟨gd, 1, none⟩ hgd).trans e1
          have r2 : ∀ o, (w1.alloc o).cell? ⟨gd, 2, none⟩ = some (.int .i64 y2) := fun o => (World.cell?_alloc_lt w1 o ⟨gd, 2, none⟩ hgd).trans e2
          have HY := Lib.hid (show ∀ (j : Nat) (u : Value), (xdC (y0, y1, y2))[j]? = some u → ((w1.alloc (.cells #[.int .i64 y0, .int .i64 y1, .int .i64 y2] 40)).drew).cell? ⟨w1.heap.size, j, none⟩ = some u from fun j u h => by
            have h1 := (Box.new w1 40 #[.int .i64 y0, .int .i64 y1, .int .i64 y2]).drew.cell j
            rw [h1, ← h]
            simp [xdC])
          have hbb : (j + 1) * 24 ≤ 140737488355328 := by omega
          have HBS := Lib.hid (show ∀ o, wo.heap.size ≤ ((w1.alloc o).drew).heap.size from fun o => by have := HSO1.out.size; simp; omega)
          have HBD := Lib.hid (show ∀ o, Box ((w1.alloc o).drew) gd 57 #[.int .i64 y0, .int .i64 y1, .int .i64 y2] from fun o => (hbd.alloc o).drew)
          have HGN := Lib.hid (show ∀ b, A'.map (·.block) = some b → b ≠ gd from fun b hb => by
            have h0 := HO1.out
            have h2 := HBD0.out
            rcases h0.form with ⟨rfl, _⟩ | ⟨g1, o1, rfl⟩
            · cases hb
            · simp at hb; subst hb; have := h2 g1 o1 rfl; omega)
          clear hw1 hbd
          have HOQ := Lib.hid (show ∀ o, OwnAt ((w1.alloc o).drew) wo.heap.size 40 3 A' j c' (flat xdC zs) from fun o => (HO1.out.alloc o).drew)
          have HBQ := Lib.hid (show ∀ o, Box ((w1.alloc o).drew) W.heap.size 41 (cs.set k (.slice A' j c')).toArray from fun o => (HBX1.out.alloc o).drew)
          have HTO := Lib.hid (show ∀ b, A'.map (·.block) = some b → wo.heap.size ≤ b from fun b hb => by
            rcases HO.out.form with ⟨rfl, _⟩ | ⟨g1, o1, rfl⟩
            · cases hb
            · simp at hb; subst hb; exact HO.out.lt.1)
          have hne : gd ≠ W.heap.size := by omega
          have HX := Lib.hid (show ∀ w2, Only (fun b => A'.map (·.block) = some b) ((w1.alloc (.cells #[.int .i64 y0, .int .i64 y1, .int .i64 y2] 40)).drew) w2 → Box w2 W.heap.size 41 (cs.set k (.slice A' j c')).toArray ∧ w2.cell? ⟨W.heap.size, k, none⟩ = some (.slice A' j c') ∧ w2.frozen? ⟨W.heap.size, k, none⟩ = false ∧ (w2.cell? ⟨gd, 0, none⟩ = some (.int .i64 y0) ∧ w2.cell? ⟨gd, 1, none⟩ = some (.int .i64 y1) ∧ w2.cell? ⟨gd, 2, none⟩ = some (.int .i64 y2)) from fun w2 ho2 => by
            have hbx2 : Box w2 W.heap.size 41 (cs.set k (.slice A' j c')).toArray := ho2.box (HBQ.out _) (fun hb => by have := HTO.out _ hb; omega)
            have hbd2 := ho2.box (HBD.out _) (fun hb => HGN.out _ hb rfl)
            refine ⟨hbx2, (hbx2.cell k).trans ?_, hbx2.frozen k, by simpa using hbd2.cell 0, by simpa using hbd2.cell 1, by simpa using hbd2.cell 2⟩
            rw [List.getElem?_toArray, List.getElem?_set_self (show k < cs.length by rw [HCL.out]; exact hlt)])
          have HST := Lib.hid (show ∀ (w2 : World) (v : Value), (w2.cell? ⟨gd, 0, none⟩ = some (.int .i64 y0) ∧ w2.cell? ⟨gd, 1, none⟩ = some (.int .i64 y1) ∧ w2.cell? ⟨gd, 2, none⟩ = some (.int .i64 y2)) → (w2.setCell ⟨W.heap.size, k, none⟩ v).cell? ⟨gd, 0, none⟩ = some (.int .i64 y0) ∧ (w2.setCell ⟨W.heap.size, k, none⟩ v).cell? ⟨gd, 1, none⟩ = some (.int .i64 y1) ∧ (w2.setCell ⟨W.heap.size, k, none⟩ v).cell? ⟨gd, 2, none⟩ = some (.int .i64 y2) from fun w2 v h => by
            have hf : ∀ o, (w2.setCell ⟨W.heap.size, k, none⟩ v).cell? ⟨gd, o, none⟩ = w2.cell? ⟨gd, o, none⟩ := fun o => by
              have hb := Below.heap_setCell w2 ⟨W.heap.size, k, none⟩ v gd (by exact hne)
              simp only [World.cell?, hb]
            rw [hf, hf, hf]
            exact h)
          clear r0 r1 r2
          refine wp_region_held_drew (S := (fun w' => w'.cell? ⟨gd, 0, none⟩ = some (.int .i64 y0) ∧ w'.cell? ⟨gd, 1, none⟩ = some (.int .i64 y1) ∧ w'.cell? ⟨gd, 2, none⟩ = some (.int .i64 y2))) (by kernel_rfl) (by go_keep) (fun hHeld => ?_)
          refine wpAnyH_take (i := 0) (v := ?_) rfl (by kernel_rfl) (by kernel_rfl) (by kernel_rfl) (fun _ _ _ h => h) (Or.inl ⟨by rfl, ?_⟩) (by assumption) ?_
          rotate_left
          · (intro w hSw; (try dsimp only at hSw); go_simp; (try with_reducible rfl))
          try simp only [Act.put]
          try simp only [List.setIfInBounds_toArray]
          try simp only [List.set_cons_succ]
          try simp only [List.set_cons_zero]
          refine wpAnyH_take (i := 1) (v := ?_) rfl (by kernel_rfl) (by kernel_rfl) (by kernel_rfl) (fun _ _ _ h => h) (Or.inl ⟨by rfl, ?_⟩) (by assumption) ?_
          rotate_left
          · (intro w hSw; (try dsimp only at hSw); go_simp; (try with_reducible rfl))
          try simp only [Act.put]
          try simp only [List.setIfInBounds_toArray]
          try simp only [List.set_cons_succ]
          try simp only [List.set_cons_zero]
          refine wpAnyH_take (i := 2) (v := ?_) rfl (by kernel_rfl) (by kernel_rfl) (by kernel_rfl) (fun _ _ _ h => h) (Or.inl ⟨by rfl, ?_⟩) (by assumption) ?_
          rotate_left
          · (intro w hSw; (try dsimp only at hSw); go_simp; (try with_reducible rfl))
          try simp only [Act.put]
          try simp only [List.setIfInBounds_toArray]
          try simp only [List.set_cons_succ]
          try simp only [List.set_cons_zero]
          refine wpAnyH_take (i := 3) (v := ?_) rfl (by kernel_rfl) (by kernel_rfl) (by kernel_rfl) (fun _ _ _ h => h) (Or.inl ⟨by rfl, ?_⟩) (by assumption) ?_
          rotate_left
          · (intro w hSw; (try dsimp only at hSw); go_simp; (try with_reducible rfl))
          try simp only [Act.put]
          try simp only [List.setIfInBounds_toArray]
          try simp only [List.set_cons_succ]
          try simp only [List.set_cons_zero]
          refine wpAnyH_take (i := 4) (v := ?_) rfl (by kernel_rfl) (by kernel_rfl) (by kernel_rfl) (fun _ _ _ h => h) (Or.inl ⟨by rfl, ?_⟩) (by assumption) ?_
          rotate_left
          · (intro w hSw; (try dsimp only at hSw); go_simp; (try with_reducible rfl))
          try simp only [Act.put]
          try simp only [List.setIfInBounds_toArray]
          try simp only [List.set_cons_succ]
          try simp only [List.set_cons_zero]
          refine wpAnyH_take (i := 6) (v := ?_) rfl (by kernel_rfl) (by kernel_rfl) (by kernel_rfl) (fun _ _ _ h => h) (Or.inl ⟨by rfl, ?_⟩) (by assumption) ?_
          rotate_left
          · (intro w hSw; (try dsimp only at hSw); go_simp; (try with_reducible rfl))
          try simp only [Act.put]
          try simp only [List.setIfInBounds_toArray]
          try simp only [List.set_cons_succ]
          try simp only [List.set_cons_zero]
          refine wpAnyH_take (i := 7) (v := ?_) rfl (by kernel_rfl) (by kernel_rfl) (by kernel_rfl) (fun _ _ _ h => h) (Or.inl ⟨by rfl, ?_⟩) (by assumption) ?_
          rotate_left
          · (intro w hSw; (try dsimp only at hSw); go_simp; (try with_reducible rfl))
          try simp only [Act.put]
          try simp only [List.setIfInBounds_toArray]
          try simp only [List.set_cons_succ]
          try simp only [List.set_cons_zero]
          refine wpAnyH_take (i := 8) (v := ?_) rfl (by kernel_rfl) (by kernel_rfl) (by kernel_rfl) (fun _ _ _ h => h) (Or.inl ⟨by rfl, ?_⟩) (by assumption) ?_
          rotate_left
          · (intro w hSw; (try dsimp only at hSw); go_simp; (try with_reducible rfl))
          try simp only [Act.put]
          try simp only [List.setIfInBounds_toArray]
          try simp only [List.set_cons_succ]
          try simp only [List.set_cons_zero]
          refine wpAnyH_take (i := 9) (v := ?_) rfl (by kernel_rfl) (by kernel_rfl) (by kernel_rfl) (fun _ _ _ h => h) (Or.inl ⟨by rfl, ?_⟩) (by assumption) ?_
          rotate_left
          · (intro w hSw; (try dsimp only at hSw); go_simp; (try with_reducible rfl))
          try simp only [Act.put]
          try simp only [List.setIfInBounds_toArray]
          try simp only [List.set_cons_succ]
          try simp only [List.set_cons_zero]
          refine wpAnyH_take (i := 10) (v := ?_) rfl (by kernel_rfl) (by kernel_rfl) (by kernel_rfl) (fun _ _ _ h => h) (Or.inl ⟨by rfl, ?_⟩) (by assumption) ?_
          rotate_left
          · (intro w hSw; (try dsimp only at hSw); go_simp; (try with_reducible rfl))
          try simp only [Act.put]
          try simp only [List.setIfInBounds_toArray]
          try simp only [List.set_cons_succ]
          try simp only [List.set_cons_zero]
          refine wpAnyH_take (i := 11) (v := ?_) rfl (by kernel_rfl) (by kernel_rfl) (by kernel_rfl) (fun _ _ _ h => h) (Or.inl ⟨by rfl, ?_⟩) (by assumption) ?_
          rotate_left
          · (intro w hSw; (try dsimp only at hSw); go_simp; (try with_reducible rfl))
          try simp only [Act.put]
          try simp only [List.setIfInBounds_toArray]
          try simp only [List.set_cons_succ]
          try simp only [List.set_cons_zero]
          refine wpAnyH_take (i := 12) (v := ?_) rfl (by kernel_rfl) (by kernel_rfl) (by kernel_rfl) (fun _ _ _ h => h) (Or.inl ⟨by rfl, ?_⟩) (by assumption) ?_
          rotate_left
          · (intro w hSw; (try dsimp only at hSw); go_simp; (try with_reducible rfl))
          try simp only [Act.put]
          try simp only [List.setIfInBounds_toArray]
          try simp only [List.set_cons_succ]
          try simp only [List.set_cons_zero]
          refine wpAnyH_ready (rs := [5, 13]) (by kernel_rfl) (by simp) ?_
          refine AllReadyH.cons rfl (fun K hK => ?_) ?_
          · go_simp
            refine hK.out _ _ ?_ (fun hHeld => ?_)
            · go_keep
            clear hK K
            try simp only [Act.put]
            try simp only [List.setIfInBounds_toArray]
            try simp only [List.set_cons_succ]
            try simp only [List.set_cons_zero]
            refine wpAnyH_ready (rs := [13]) (by kernel_rfl) (by simp) ?_
            refine AllReadyH.cons rfl (fun K hK => ?_) AllReadyH.nil
            go_simp
            refine hK.out _ _ ?_ (fun hHeld => ?_)
            · go_keep
            clear hK K
            try simp only [Act.put]
            try simp only [List.setIfInBounds_toArray]
            try simp only [List.set_cons_succ]
            try simp only [List.set_cons_zero]
            refine wpAnyH_ready (rs := [14]) (by kernel_rfl) (by simp) ?_
            refine AllReadyH.cons rfl (fun K hK => ?_) AllReadyH.nil
            refine step_push_xd rfl (.tmp 29) (.tmp 37) rfl wo.heap.size A' c' j zs HTL.out rfl (HOQ.out _) w1.heap.size (y0, y1, y2) rfl HY.out hbb (HBS.out _) ?_
            intro A2 c2 w2 hown2 ho2
            obtain ⟨hbx2, z1, z2, hS2⟩ := HX.out w2 ho2
            refine hK.out _ _ hS2 (fun hHeld => ?_)
            clear hK K
            try simp only [Act.put]
            try simp only [List.setIfInBounds_toArray]
            try simp only [List.set_cons_succ]
            try simp only [List.set_cons_zero]
            refine wpAnyH_take (i := 15) (v := ?_) rfl (by kernel_rfl) (by kernel_rfl) (by kernel_rfl) (fun _ _ _ h => h) (Or.inl ⟨by rfl, ?_⟩) (by assumption) ?_
            rotate_left
            · (intro w hSw; (try dsimp only at hSw); go_simp; (try with_reducible rfl))
            try simp only [Act.put]
            try simp only [List.setIfInBounds_toArray]
            try simp only [List.set_cons_succ]
            try simp only [List.set_cons_zero]
            refine wpAnyH_ready (rs := [16]) (by kernel_rfl) (by simp) ?_
            refine AllReadyH.cons rfl (fun K hK => ?_) AllReadyH.nil
            go_simp
            refine hK.out _ _ ?_ (fun hHeld => ?_)
            · exact HST.out _ _ hS2
            clear hK K
            try simp only [Act.put]
            try simp only [List.setIfInBounds_toArray]
            try simp only [List.set_cons_succ]
            try simp only [List.set_cons_zero]
            refine wpAnyH_done (by kernel_rfl) ?_ _
            have HO2 := Lib.hid (hown2.far (p := ⟨W.heap.size, k, none⟩) (fun g o e => by have h1 := hown2; subst e; have := h1.lt.1; simp; omega) (.slice A2 (j + 1) c2))
            have HBX2 := Lib.hid (by have h := hbx2.set k (.slice A2 (j + 1) c2); rw [List.setIfInBounds_toArray, List.set_set] at h; exact h)
            have HSO2 := Lib.hid (((HSO1.out.alloc _).drew.only ho2 HTO.out).own k (.slice A2 (j + 1) c2))
            clear hown2 hbx2 ho2 z1 z2 hS2 hHeld
            go_wp2_with fail
            go_roundg (row.length - (j + 1))
            case measure => have := HJ.out; omega
            case rel => exact ⟨j + 1, A2, c2, rfl, by omega, by go_num, HSO2.out, HBX2.out, by rw [HT.out]; exact HO2.out⟩
          refine AllReadyH.cons rfl (fun K hK => ?_) ?_
          · go_simp
            refine hK.out _ _ ?_ (fun hHeld => ?_)
            · go_keep
            clear hK K
            try simp only [Act.put]
            try simp only [List.setIfInBounds_toArray]
            try simp only [List.set_cons_succ]
            try simp only [List.set_cons_zero]
            refine wpAnyH_ready (rs := [5]) (by kernel_rfl) (by simp) ?_
            refine AllReadyH.cons rfl (fun K hK => ?_) AllReadyH.nil
            go_simp
            refine hK.out _ _ ?_ (fun hHeld => ?_)
            · go_keep
            clear hK K
            try simp only [Act.put]
            try simp only [List.setIfInBounds_toArray]
            try simp only [List.set_cons_succ]
            try simp only [List.set_cons_zero]
            refine wpAnyH_ready (rs := [14]) (by kernel_rfl) (by simp) ?_
            refine AllReadyH.cons rfl (fun K hK => ?_) AllReadyH.nil
            refine step_push_xd rfl (.tmp 29) (.tmp 37) rfl wo.heap.size A' c' j zs HTL.out rfl (HOQ.out _) w1.heap.size (y0, y1, y2) rfl HY.out hbb (HBS.out _) ?_
            intro A2 c2 w2 hown2 ho2
            obtain ⟨hbx2, z1, z2, hS2⟩ := HX.out w2 ho2
            refine hK.out _ _ hS2 (fun hHeld => ?_)
            clear hK K
            try simp only [Act.put]
            try simp only [List.setIfInBounds_toArray]
            try simp only [List.set_cons_succ]
            try simp only [List.set_cons_zero]
            refine wpAnyH_take (i := 15) (v := ?_) rfl (by kernel_rfl) (by kernel_rfl) (by kernel_rfl) (fun _ _ _ h => h) (Or.inl ⟨by rfl, ?_⟩) (by assumption) ?_
            rotate_left
            · (intro w hSw; (try dsimp only at hSw); go_simp; (try with_reducible rfl))
            try simp only [Act.put]
            try simp only [List.setIfInBounds_toArray]
            try simp only [List.set_cons_succ]
            try simp only [List.set_cons_zero]
            refine wpAnyH_ready (rs := [16]) (by kernel_rfl) (by simp) ?_
            refine AllReadyH.cons rfl (fun K hK => ?_) AllReadyH.nil
            go_simp
            refine hK.out _ _ ?_ (fun hHeld => ?_)
            · exact HST.out _ _ hS2
            clear hK K
            try simp only [Act.put]
            try simp only [List.setIfInBounds_toArray]
            try simp only [List.set_cons_succ]
            try simp only [List.set_cons_zero]
            refine wpAnyH_done (by kernel_rfl) ?_ _
            have HO2 := Lib.hid (hown2.far (p := ⟨W.heap.size, k, none⟩) (fun g o e => by have h1 := hown2; subst e; have := h1.lt.1; simp; omega) (.slice A2 (j + 1) c2))
            have HBX2 := Lib.hid (by have h := hbx2.set k (.slice A2 (j + 1) c2); rw [List.setIfInBounds_toArray, List.set_set] at h; exact h)
            have HSO2 := Lib.hid (((HSO1.out.alloc _).drew.only ho2 HTO.out).own k (.slice A2 (j + 1) c2))
            clear hown2 hbx2 ho2 z1 z2 hS2 hHeld
            go_wp2_with fail
            go_roundg (row.length - (j + 1))
            case measure => have := HJ.out; omega
            case rel => exact ⟨j + 1, A2, c2, rfl, by omega, by go_num, HSO2.out, HBX2.out, by rw [HT.out]; exact HO2.out⟩
          exact AllReadyH.nil
        · obtain rfl : j = row.length := by omega
          have HO2 := Lib.hid (show OwnAt wr wo.heap.size 40 3 A' row.length c' (flat xdC (l.getD k [])) by
            have h := HO.out
            rw [List.take_length] at h
            rw [HGR.out]
            exact h)
          have HMN := Lib.hid (HM.out.next HSO.out hlt HBX.out (by rw [HGR.out]) HO2.out)
          have HBN := Lib.hid (HSO.out.below HB.out hbs (Nat.le_refl _))
          go_wp2_with fail
          go_roundg (l.length - (k + 1))
          case measure => have := HK.out; omega
          case rel => exact ⟨k + 1, _, rfl, by omega, by go_num, HMN.out, HBN.out⟩
    · obtain rfl : k = l.length := by omega
      go_wp2_with fail
      go_ret
      exact ⟨_, _, rfl, HM.out.pin hlen hsum, HB.out⟩
end Go.Proofs.Ytcmkkfpcdebfkaa
