/-
  The other end: what goes out.
-/
import Derived.Test.YtaecgapoaagjfaaLineLaw
namespace Go.Proofs.Ytaecgapoaagjfaa
open Go.RowKit

theorem Only.join {S T : Nat → Prop} {w w' w'' : World} (h : Only S w w') (k : Only T w' w'') (hT : ∀ b, T b → S b ∨ w.heap.size ≤ b) : Only S w w'' :=
  ⟨k.os.trans h.os, k.tape.trans h.tape, k.output.trans h.output, Nat.le_trans h.size k.size, fun i hi hne => (k.block i (Nat.lt_of_lt_of_le hi h.size) (fun ht => by
    rcases hT i ht with h1 | h1
    · exact hne h1
    · omega)).trans (h.block i hi hne)⟩

/-- One packet appended, with what has turned. -/
theorem wpList_mk2_rpk {ops : Array Oper} {rest : List Oper} {o : Oper} {a : Act} {w : World} {Q : Exit → Act → World → Prop} (hgd : o.guard = none) (s x : Operand)
    (ho : o.op = .call { callee := .builtin .append, args := #[s, x], argTypes := #[75, 75] })
    (base : Nat) (S : Nat → Prop) (n : Nat) (A : Option Addr) (c m : Nat) (l : List KC) (vs : List Pkt) (hm : l.length = m) (hs : a.eval s = .slice A m c) (hmk : rpkMk w base S n A c l vs) (g : Nat) (y : KC) (v : Pkt) (hx : a.eval x = .slice (some ⟨g, 0, none⟩) 1 1) (hy : ∀ j u, (rpkC y)[j]? = some u → w.cell? ⟨g, j, none⟩ = some u)
    (hv : KIn w (Off S A) n y v)
    (hb : (m + 1) * 48 ≤ 140737488355328) (hbase : base ≤ w.heap.size)
    (h : ∀ A' c' w', rpkMk w' base S n A' c' (l ++ [y]) (vs ++ [v]) → Below base w w' → Only (fun b => A.map (·.block) = some b) w w' → (∀ b, A'.map (·.block) = some b → A.map (·.block) = some b ∨ w.heap.size ≤ b) → wpList Try.prog ops Q rest (a.put o.dst (.slice A' (m + 1) c')) w') : wpList Try.prog ops Q (o :: rest) a w := by
  subst hm
  obtain ⟨i0, z0, hi0, hz0, hz1, hz2, hz3⟩ := rpk_parts
  refine wpList_append_q hgd s x _ ho base 91 i0 z0 5 48 Try.underlying75 hi0 hz0 hz1 hz2 hz3 (by decide) A l.length c (flat rpkC l) hs hmk.2.1 ⟨g, 0, none⟩ 1 1 (rpkC y) hx rfl ?_ (rpk_one y) (by unfold maxLen; omega) hb hbase (by decide) ?_
  · intro j u hu
    rw [addr_add, Nat.zero_add]
    exact hy j u hu
  · intro g' o' c' w' h1 h2 h3
    have := hmk.push hbase hv h1 h2 h3
    exact h _ c' w' this.1 this.2 ⟨h2.os, h2.tape, h2.output, h2.size, fun i hi hne => h2.block i hi (fun e => hne e.symm)⟩ (fun b hb => by
      simp at hb
      subst hb
      rcases h3 with h3 | h3
      · exact .inl h3
      · exact .inr (by omega))

def lab7 (f : Nat → Nat) (n : Nat) (b : Nat) : Nat := if b < n then f b else 7
theorem lab7_old {f : Nat → Nat} {n b : Nat} (h : b < n) : lab7 f n b = f b := by unfold lab7; rw [if_pos h]
theorem lab7_new {f : Nat → Nat} {n b : Nat} (h : n ≤ b) : lab7 f n b = 7 := by unfold lab7; rw [if_neg (by omega)]
theorem LineAt.ms {w : World} {B0 g m : Nat} {s : LS} {r : LR} {f : Nat → Nat} (h : LineAt w B0 g m s r f) (hr : s.ref = true) : w.cell? ⟨m, 0, none⟩ = some (.int .i64 s.win) ∧ w.cell? ⟨m, 1, none⟩ = some (.int .i64 s.mlim) ∧ w.cell? ⟨m, 2, none⟩ = some (.int .i64 s.mbase) ∧ w.cell? ⟨m, 3, none⟩ = some (.int .i64 s.told) ∧ w.cell? ⟨m, 4, none⟩ = some (.slice r.A3 r.l3.length r.c3) ∧ w.cell? ⟨m, 5, none⟩ = some (.int .i64 s.took) ∧ w.cell? ⟨m, 6, none⟩ = some (.int .i64 s.rd) ∧ w.cell? ⟨m, 7, none⟩ = some (.slice r.A4 r.l4.length r.c4) ∧ w.cell? ⟨m, 8, none⟩ = some (.bool s.owe) :=
  ⟨(h.y hr).cell 0, (h.y hr).cell 1, (h.y hr).cell 2, (h.y hr).cell 3, (h.y hr).cell 4, (h.y hr).cell 5, (h.y hr).cell 6, (h.y hr).cell 7, (h.y hr).cell 8⟩

structure OutM (w wr : World) (B0 g m gp : Nat) (s : LS) (r : LR) (f : Nat → Nat) (ak wi : Int) (A : Option Addr) (c : Nat) (l : List KC) (vs : List Pkt) : Prop where
  at_ : LineAt wr B0 g m s r f
  ref : s.ref = true
  box : Box wr gp 91 #[.int .u32 0, .int .u32 ak, .bool false, .int .i64 wi, .slice none 0 0]
  row : rpkMk wr (gp + 1) (fun b => f b = 0) 0 A c l vs
  only : Only (· = m) w wr
  lab : ∀ b, gp ≤ b → f b = 7
  le : w.heap.size ≤ gp
  size : gp < wr.heap.size

section
variable {w wr w' : World} {B0 g m gp : Nat} {s : LS} {r : LR} {f : Nat → Nat} {ak wi : Int} {A : Option Addr} {c : Nat} {l : List KC} {vs : List Pkt}
theorem OutM.y (h : OutM w wr B0 g m gp s r f ak wi A c l vs) : Box wr m 88 (mCells s r) := h.at_.y h.ref
theorem OutM.ms (h : OutM w wr B0 g m gp s r f ak wi A c l vs) : wr.cell? ⟨m, 0, none⟩ = some (.int .i64 s.win) ∧ wr.cell? ⟨m, 1, none⟩ = some (.int .i64 s.mlim) ∧ wr.cell? ⟨m, 2, none⟩ = some (.int .i64 s.mbase) ∧ wr.cell? ⟨m, 3, none⟩ = some (.int .i64 s.told) ∧ wr.cell? ⟨m, 4, none⟩ = some (.slice r.A3 r.l3.length r.c3) ∧ wr.cell? ⟨m, 5, none⟩ = some (.int .i64 s.took) ∧ wr.cell? ⟨m, 6, none⟩ = some (.int .i64 s.rd) ∧ wr.cell? ⟨m, 7, none⟩ = some (.slice r.A4 r.l4.length r.c4) ∧ wr.cell? ⟨m, 8, none⟩ = some (.bool s.owe) := h.at_.ms h.ref
theorem OutM.drewN (h : OutM w wr B0 g m gp s r f ak wi A c l vs) (n : Nat) : OutM w (wr.drewN n) B0 g m gp s r f ak wi A c l vs :=
  ⟨h.at_.below (below_drewN (Below.refl _ _) n), h.ref, h.box, h.row, h.only.drewN n, h.lab, h.le, h.size⟩
theorem OutM.ne (h : OutM w wr B0 g m gp s r f ak wi A c l vs) : gp ≠ m := fun e => by
  have h1 := h.lab gp (Nat.le_refl _)
  have h2 := h.at_.fm h.ref
  rw [e] at h1
  omega
theorem OutM.told (h : OutM w wr B0 g m gp s r f ak wi A c l vs) (t : Int) : OutM w (wr.setCell ⟨m, 3, none⟩ (.int .i64 t)) B0 g m gp { s with told := t } r f ak wi A c l vs := by
  have ho : Only (fun b => f b = 2) wr (wr.setCell ⟨m, 3, none⟩ (.int .i64 t)) := (Only.refl (fun b => f b = 2) wr).set (p := ⟨m, 3, none⟩) (h.at_.fm h.ref) _
  refine ⟨h.at_.ycell h.ref 3 (.int .i64 t) rfl rfl rfl rfl rfl rfl, h.ref, h.box.far (p := ⟨m, 3, none⟩) h.ne _, h.row.only ho (fun b hb => ?_) (fun b hb _ => ⟨by rw [hb]; omega, hb⟩), h.only.set (p := ⟨m, 3, none⟩) rfl _, h.lab, h.le, by simpa using h.size⟩
  have h1 : gp + 1 ≤ b := by
    rcases h.row.2.1.form with ⟨rfl, _⟩ | ⟨g1, o1, rfl⟩
    · cases hb
    · simp at hb; subst hb; exact h.row.2.1.lt.1
  rw [h.lab b (by omega)]
  omega
theorem OutM.push (h : OutM w wr B0 g m gp s r f ak wi A c l vs) {o : Obj} {A' : Option Addr} {c' : Nat} {l' : List KC} {vs' : List Pkt} (hmk : rpkMk w' (gp + 1) (fun b => f b = 0) 0 A' c' l' vs') (ho : Only (fun b => A.map (·.block) = some b) (wr.alloc o) w') : OutM w w' B0 g m gp s r f ak wi A' c' l' vs' := by
  have hA : ∀ b, A.map (·.block) = some b → gp + 1 ≤ b := fun b hb => by
    rcases h.row.2.1.form with ⟨rfl, _⟩ | ⟨g1, o1, rfl⟩
    · cases hb
    · simp at hb; subst hb; exact h.row.2.1.lt.1
  have hsz := ho.size
  simp at hsz
  have hoo : Only (fun b => A.map (·.block) = some b) wr w' := ((Only.refl (fun b => A.map (·.block) = some b) wr).alloc o).trans ho
  refine ⟨h.at_.keep (hoo.more fun b hb => ?_) (fun _ _ => rfl), h.ref, hoo.box h.box (fun hb => ?_), hmk, h.only.join hoo (fun b hb => .inr ?_), h.lab, h.le, by have := h.size; omega⟩
  · have := hA b hb
    rw [h.lab b (by omega)]
    omega
  · have := hA gp hb
    omega
  · have := hA b hb
    have := h.le
    omega
theorem OutM.al (h : OutM w wr B0 g m gp s r f ak wi A c l vs) (o : Obj) : OutM w (wr.alloc o) B0 g m gp s r f ak wi A c l vs :=
  ⟨h.at_.below ((Below.refl _ _).alloc (Nat.le_refl _) o), h.ref, h.box.alloc o, h.row.below ((Below.refl _ _).alloc (Nat.le_refl _) o), h.only.alloc o, h.lab, h.le, by have := h.size; simp; omega⟩
theorem OutM.mk1 (h : OutM w wr B0 g m gp s r f ak wi A c l vs) (o : Obj) : rpkMk (wr.alloc o) (gp + 1) (fun b => f b = 0) 0 A c l vs :=
  h.row.below ((Below.refl _ _).alloc (Nat.le_refl _) o)
theorem OutM.elem (h : OutM w wr B0 g m gp s r f ak wi A c l vs) {j : Nat} (hj : j < r.l3.length) (o : Obj) : BIn (wr.alloc o) (Off (fun b => f b = 0) A) 0 (r.l3.getD j bc0) (s.All.getD j []) :=
  (h.at_.o3.2.2 j hj).lt.keep (fun p hp => World.cell?_alloc_lt wr o p hp.2) fun b hp => ⟨hp.1.1, fun e => by
    have h0 : f b = 0 := hp.1.1
    have h1 : gp + 1 ≤ b := by
      rcases h.row.2.1.form with ⟨rfl, _⟩ | ⟨g1, o1, rfl⟩
      · cases e
      · simp at e; subst e; exact h.row.2.1.lt.1
    rw [h.lab b (by omega)] at h0
    omega⟩
theorem OutM.fin1 (h : OutM w wr B0 g m gp s r f ak wi A c l vs) (hl : l.length ≤ 16) : rpkRow (wr.setCell ⟨m, 8, none⟩ (.bool false)) (fun _ => True) 0 A c l vs := by
  have ho : Only (fun b => f b = 2) wr (wr.setCell ⟨m, 8, none⟩ (.bool false)) := (Only.refl (fun b => f b = 2) wr).set (p := ⟨m, 8, none⟩) (h.at_.fm h.ref) _
  have h1 := h.row.only (S' := fun b => f b = 0) ho (fun b hb => by
    have h1 : gp + 1 ≤ b := by
      rcases h.row.2.1.form with ⟨rfl, _⟩ | ⟨g1, o1, rfl⟩
      · cases hb
      · simp at hb; subst hb; exact h.row.2.1.lt.1
    rw [h.lab b (by omega)]
    omega) (fun b hb _ => ⟨by rw [hb]; omega, hb⟩)
  exact (h1.row (by unfold reachBytes; omega)).keep (fun _ _ => rfl) fun _ _ => trivial
theorem OutM.fin2 (h : OutM w wr B0 g m gp s r f ak wi A c l vs) : Only (· = m) w (wr.setCell ⟨m, 8, none⟩ (.bool false)) ∧ ∃ f', LineAt (wr.setCell ⟨m, 8, none⟩ (.bool false)) B0 g m { s with owe := false } r f' :=
  ⟨h.only.set (p := ⟨m, 8, none⟩) rfl _, _, h.at_.ycell h.ref 8 (.bool false) rfl rfl rfl rfl rfl rfl⟩
/-- The lone packet that acknowledges. -/
theorem OutM.fin3 (h : OutM w wr B0 g m gp s r f ak wi A c l vs) (sq : Int) {w3 : World} (e : w3 = ((wr.setCell ⟨gp, 0, none⟩ (.int .u32 sq)).setCell ⟨m, 8, none⟩ (.bool false)).alloc (.cells #[.int .u32 sq, .int .u32 ak, .bool false, .int .i64 wi, .slice none 0 0] 91)) :
    rpkRow w3 (fun _ => True) 0 (some ⟨wr.heap.size, 0, none⟩) 1 [⟨sq, ak, false, wi, bc0⟩] [⟨sq, ak, false, wi, []⟩] ∧ Only (· = m) w w3 ∧ ∃ f', LineAt w3 B0 g m { s with owe := false } r f' := by
  subst e
  have ho1 : Only (fun b => b = gp) wr (wr.setCell ⟨gp, 0, none⟩ (.int .u32 sq)) := (Only.refl (fun b => b = gp) wr).set (p := ⟨gp, 0, none⟩) rfl _
  refine ⟨⟨rfl, fun _ => ⟨wr.heap.size, 0, rfl, trivial, fun i v hv => ?_⟩, fun i hi => ?_, Nat.le_refl _, by unfold maxLen; omega, (fun e => by cases e), by unfold reachBytes; simp⟩, ?_, f, ?_⟩
  · have hnew := rpk_new ((wr.setCell ⟨gp, 0, none⟩ (.int .u32 sq)).setCell ⟨m, 8, none⟩ (.bool false)) ⟨sq, ak, false, wi, bc0⟩ i v (by rw [flat_one] at hv; exact hv)
    rw [show ((wr.setCell ⟨gp, 0, none⟩ (.int .u32 sq)).setCell ⟨m, 8, none⟩ (.bool false)).heap.size = wr.heap.size by simp] at hnew
    rw [Nat.zero_add]
    exact hnew
  · have : i = 0 := by simp at hi; omega
    subst this
    exact ⟨⟨rfl, rfl, rfl, rfl⟩, BIn.none⟩
  · exact ((h.only.join ho1 (fun b hb => .inr (by rw [hb]; exact h.le))).set (p := ⟨m, 8, none⟩) rfl _).alloc _
  · refine LineAt.below ((h.at_.keep (ho1.more fun b hb => ?_) (fun _ _ => rfl)).ycell (s' := { s with owe := false }) h.ref 8 (.bool false) rfl rfl rfl rfl rfl rfl) ((Below.refl _ _).alloc (Nat.le_refl _) _)
    subst hb
    rw [h.lab b (Nat.le_refl _)]
    omega
end

set_option maxRecDepth 100000 in
set_option maxHeartbeats 4000000 in
theorem out_m (B0 g m : Nat) (s : LS) (r : LR) (f : Nat → Nat) (w : World) (h : LineAt w B0 g m s r f) (hrf : s.ref = true) (hb0 : 0 ≤ s.mbase) (hb1 : s.mbase ≤ s.All.length) (hn : s.All.length ≤ 140737488355328) (hlim : 0 ≤ s.mlim ∧ s.mlim ≤ 16) (hrd : 0 ≤ s.rd ∧ s.rd ≤ 16) (hw : 0 ≤ s.win ∧ s.win ≤ 16) (ht : 0 ≤ s.told ∧ s.told ≤ 16) :
    Calls Try.prog 46 #[.pointer (some ⟨m, 0, none⟩)] w fun e w' => ∃ A c l, e = .returned (.slice A l.length c) ∧ rpkRow w' (fun _ => True) 0 A c l (outMX s) ∧ Only (· = m) w w' ∧ ∃ f', LineAt w' B0 g m { s with told := toldAt s.told (outN s), owe := false } r f' := by
  obtain ⟨mb, hmb⟩ := Int.eq_ofNat_of_zero_le hb0
  obtain ⟨ml, hml⟩ := Int.eq_ofNat_of_zero_le hlim.1
  have hl3 := h.o3.1
  obtain ⟨c0, c1, c2, c3, c4, c5, c6, _, c8⟩ := h.ms hrf
  rw [hmb] at c2
  rw [hml] at c1
  have hml' : m < w.heap.size := (h.y hrf).lt
  have HH := Lib.hid h
  have HRF := Lib.hid hrf
  have HMB := Lib.hid hmb
  have HML := Lib.hid hml
  have HL3 := Lib.hid hl3
  rw [hmb] at hb1
  rw [← hl3] at hn hb1
  obtain ⟨M, hM⟩ : ∃ M, outN s = M := ⟨_, rfl⟩
  have HM := Lib.hid hM
  have hMM : M = min ml (r.l3.length - mb) := by rw [← hM, hl3]; unfold outN; rw [hmb, hml]; simp
  rw [hM]
  have hlim16 : ml ≤ 16 := by omega
  clear h hmb hml hl3 hb0 hlim hM hrf
  go_enter Try.func46, Try.ntmps46
  go_wp2_with fail
  go_region
  go_wp2_with fail
  have hstart : OutM w (w.alloc (.cells #[.int .u32 0, .int .u32 (s.took % 4294967296), .bool false, .int .i64 (s.win - s.rd), .slice none 0 0] 91)).drew B0 g m w.heap.size { s with told := toldAt s.told 0 } r (lab7 f w.heap.size) (s.took % 4294967296) (s.win - s.rd) none 0 [] (outM s 0) := by
    have e0 : toldAt s.told 0 = s.told := by unfold toldAt; rw [if_neg (by omega)]
    rw [e0]
    have hb : Below w.heap.size w (w.alloc (.cells #[.int .u32 0, .int .u32 (s.took % 4294967296), .bool false, .int .i64 (s.win - s.rd), .slice none 0 0] 91)).drew := below_drewN ((Below.refl _ _).alloc (Nat.le_refl _) _) 1
    exact ⟨HH.out.keep (Only.of_below hb) (fun b hl => lab7_old hl), HRF.out, Box.new w 91 _, rpkMk.nil, Only.of_below hb, fun b hb => lab7_new hb, Nat.le_refl _, by simp⟩
  have HST := Lib.hid hstart
  clear hstart c0 c1 c2 c3 c4 c5 c6 c8 HH
  go_loopg [3, 5] M (fun gk v i wr => ∃ (k j : Nat) (A : Option Addr) (c : Nat) (lk : List KC), gk = M - k ∧ k ≤ M ∧ j = mb + k ∧ i = .int .i64 j ∧ v = .slice A lk.length c ∧ OutM w wr B0 g m w.heap.size { s with told := toldAt s.told k } r (lab7 f w.heap.size) (s.took % 4294967296) (s.win - s.rd) A c lk (outM s k))
  case atStart => exact ⟨0, mb, none, 0, [], by omega, by omega, rfl, rfl, rfl, HST.out⟩
  case round =>
    obtain ⟨k, j, A, c, lk, hgk, hk, hj, rfl, rfl, hout⟩ := hrel
    have HK := Lib.hid hgk
    have HJ := Lib.hid hj
    have HO := Lib.hid hout
    obtain ⟨_, e1, e2, e3, e4, _, _, _, e8⟩ := hout.ms
    simp only at e1 e2 e3 e4 e8
    rw [HML.out] at e1
    rw [HMB.out] at e2
    have hlk16 : lk.length ≤ k := by rw [hout.row.1]; exact outM_len s k
    generalize hn3 : r.l3.length = n3 at *
    have HN3 := Lib.hid hn3
    have HMM := Lib.hid hMM
    have hjn : j ≤ n3 := by omega
    by_cases hlt : k < M
    · have d1 : decide ((j : Int) < (n3 : Int)) = true := by simp; omega
      have d1' : decide (j < n3) = true := by simp; omega
      have d2 : decide ((j : Int) < (mb : Int) + (ml : Int)) = true := by simp; omega
      have d2' : decide (j < mb + ml) = true := by simp; omega
      have hjk : (j : Int) - (mb : Int) = (k : Int) := by omega
      by_cases htk : (k : Int) < s.told
      · have d3 : decide (toldAt s.told k ≤ (j : Int) - (mb : Int)) = false := by unfold toldAt; rw [if_neg (by omega)]; simp; omega
        have HOK := Lib.hid (show outM s (k + 1) = outM s k by rw [outM, if_pos htk, List.append_nil])
        have HTK := Lib.hid (show toldAt s.told (k + 1) = toldAt s.told k by unfold toldAt; rw [if_neg (by omega), if_neg (by omega)])
        generalize toldAt s.told k = tk at *
        clear hgk hj hout hn3 hMM htk hjk
        go_wp2_with fail
        go_quiet (fail)
        go_wp2_with fail
        go_quiet (fail)
        go_wp2_with fail
        go_roundg (M - (k + 1))
        case measure => have := HK.out; omega
        case rel => exact ⟨k + 1, j + 1, A, c, lk, rfl, by omega, by have := HJ.out; omega, by go_num, rfl, by rw [HOK.out, HTK.out]; exact (HO.out.drewN _)⟩
      · have d3 : decide (toldAt s.told k ≤ (j : Int) - (mb : Int)) = true := by unfold toldAt; split <;> (simp; omega)
        have HOK := Lib.hid (show outM s (k + 1) = outM s k ++ [⟨Go.Proofs.Ytaecgapoaagjfaa.u32 (s.mbase + k), Go.Proofs.Ytaecgapoaagjfaa.u32 s.took, true, s.win - s.rd, s.All.getD (s.mbase.toNat + k) []⟩] by rw [outM, if_neg htk])
        have HTK := Lib.hid (show toldAt s.told (k + 1) = (j : Int) - (mb : Int) + 1 by unfold toldAt; rw [if_pos (by omega)]; omega)
        generalize toldAt s.told k = tk at *
        clear hgk hj hout hn3 hMM htk hjk
        go_wp2_with fail
        go_quiet (fail)
        go_wp2_with fail
        revert nq
        intro nqa
        go_quiet (fail)
        go_upto_region 7 with fail
        have hq := (HO.out.drewN nqa).drewN nq
        generalize (wr.drewN nqa).drewN nq = wq at *
        have hjn3 : j < n3 := by have := HJ.out; have := HMM.out; omega
        obtain ⟨b3, o3, hA3, _, x0⟩ := hq.at_.o3.2.1.row.body (i := j) (by rw [HN3.out]; exact hjn3) bc0
        rw [Nat.mul_one] at x0
        have k1 : wq.cell? ⟨w.heap.size, 1, none⟩ = some (.int .u32 (s.took % 4294967296)) := hq.box.cell 1
        have k3 : wq.cell? ⟨w.heap.size, 3, none⟩ = some (.int .i64 (s.win - s.rd)) := hq.box.cell 3
        have k4 : wq.cell? ⟨m, 4, none⟩ = some (.slice (some ⟨b3, o3, none⟩) n3 r.c3) := by rw [← hA3, ← HN3.out]; exact hq.ms.2.2.2.2.1
        have HQ := Lib.hid (show OutM w wq.drew B0 g m w.heap.size { s with told := tk } r (lab7 f w.heap.size) (s.took % 4294967296) (s.win - s.rd) A c lk (outM s k) from hq.drewN 1)
        have HEL := Lib.hid (fun o => HQ.out.elem (show j < r.l3.length by rw [HN3.out]; exact hjn3) o)
        have hM16 : M ≤ 16 := by have := HMM.out; omega
        have hbk : (lk.length + 1) * 48 ≤ 140737488355328 := by omega
        have HSK := Lib.hid (show ∀ w', LineAt w' B0 g m { s with told := tk } r (lab7 f w.heap.size) → Box w' w.heap.size 91 #[.int .u32 0, .int .u32 (s.took % 4294967296), .bool false, .int .i64 (s.win - s.rd), .slice none 0 0] → w.heap.size < w'.heap.size ∧ w'.cell? ⟨w.heap.size, 1, none⟩ = some (.int .u32 (s.took % 4294967296)) ∧ w'.cell? ⟨w.heap.size, 3, none⟩ = some (.int .i64 (s.win - s.rd)) ∧ w'.cell? ⟨m, 4, none⟩ = some (.slice (some ⟨b3, o3, none⟩) n3 r.c3) ∧ w'.cell? ⟨b3, o3 + j, none⟩ = some (.slice (r.l3.getD j bc0).A (r.l3.getD j bc0).len (r.l3.getD j bc0).cap) from fun w' hL hB => ⟨hB.lt, hB.cell 1, hB.cell 3, by rw [← hA3, ← HN3.out]; exact (hL.ms HRF.out).2.2.2.2.1, by
          obtain ⟨b', o', e', _, x'⟩ := hL.o3.2.1.row.body (i := j) (by rw [HN3.out]; exact hjn3) bc0
          rw [hA3] at e'
          injection e' with e'
          injection e' with h1 h2
          subst h1 h2
          rw [Nat.mul_one] at x'
          exact x'⟩)
        clear e1 e2 e3 e4 e8 hq HO x0 k1 k3 k4 hA3
        have HMK := Lib.hid (fun o => HQ.out.mk1 o)
        have HSZ := Lib.hid (show w.heap.size + 1 ≤ wq.drew.heap.size from HQ.out.size)
        generalize r.l3.getD j bc0 = x at *
        go_region_held3 (fun w' => w.heap.size < w'.heap.size ∧ w'.cell? ⟨w.heap.size, 1, none⟩ = some (.int .u32 (s.took % 4294967296)) ∧ w'.cell? ⟨w.heap.size, 3, none⟩ = some (.int .i64 (s.win - s.rd)) ∧ w'.cell? ⟨m, 4, none⟩ = some (.slice (some ⟨b3, o3, none⟩) n3 r.c3) ∧ w'.cell? ⟨b3, o3 + j, none⟩ = some (.slice x.A x.len x.cap))
          ((first
            | exact HSK.out _ HQ.out.at_ HQ.out.box
            | exact HSK.out _ (HQ.out.al _).at_ (HQ.out.al _).box
            | exact HSK.out _ hq3.at_ hq3.box
            | go_keep))
          ((refine step_mk2_rpk rfl (.tmp 58) (.tmp 73) rfl (w.heap.size + 1) (fun b => lab7 f w.heap.size b = 0) 0 A c lk.length lk (outM s k) rfl rfl (HMK.out _) wq.heap.size ⟨(j : Int) % 4294967296, s.took % 4294967296, true, s.win - s.rd, x⟩ ⟨(j : Int) % 4294967296, s.took % 4294967296, true, s.win - s.rd, s.All.getD j []⟩ rfl (rpk_new wq.drew _) ⟨⟨rfl, rfl, rfl, rfl⟩, HEL.out _⟩ hbk (show _ < _ ∧ _ by assumption).1 ?_; intro A' c' w3 hmk3 hb3 ho3 hA3'; have hq3 := HQ.out.push hmk3 ho3))
        obtain ⟨_, _, e2, e3, _, _, _, _, _⟩ := hq3.ms
        simp only at e2 e3
        rw [HMB.out] at e2
        have fr3 := hq3.y.frozen 3
        have HQ4 := Lib.hid (hq3.told ((j : Int) - (mb : Int) + 1))
        clear hq3 hmk3 hb3 ho3 hA3'
        go_wp2_with fail
        go_roundg (M - (k + 1))
        case measure => have := HK.out; omega
        case rel =>
          refine ⟨k + 1, j + 1, A', c', lk ++ [⟨(j : Int) % 4294967296, s.took % 4294967296, true, s.win - s.rd, x⟩], rfl, by omega, by have := HJ.out; omega, by go_num, by rw [List.length_append]; rfl, ?_⟩
          rw [HOK.out, HTK.out, show s.mbase.toNat + k = j by rw [HMB.out, Int.toNat_natCast, HJ.out], show Go.Proofs.Ytaecgapoaagjfaa.u32 (s.mbase + k) = (j : Int) % 4294967296 by rw [HMB.out, HJ.out]; rfl]
          exact HQ4.out
    · obtain rfl : k = M := by omega
      have HOX := Lib.hid (show outMX s = if outM s k = [] ∧ s.owe = true then [ackM s] else outM s k by unfold outMX; rw [HM.out])
      have HLV := Lib.hid (show lk.length = (outM s k).length from hout.row.1)
      have hM16 : k ≤ 16 := by have := HMM.out; omega
      have HAL := Lib.hid (show (n3 : Int) = (s.All.length : Int) by rw [← HL3.out])
      generalize htk : toldAt s.told k = tk at *
      have HTKK := Lib.hid htk
      clear hgk hj hout hn3 hMM hlt htk
      have hlk16' : lk.length ≤ 16 := by omega
      by_cases hx : j < n3
      · have d1 : decide ((j : Int) < (n3 : Int)) = true := by simp; omega
        have d1' : decide (j < n3) = true := by simp; omega
        have hge : mb + ml ≤ j := by have := HJ.out; have := HMM.out; omega
        have d2 : decide ((j : Int) < (mb : Int) + (ml : Int)) = false := by simp; omega
        have d2' : decide (j < mb + ml) = false := by simp; omega
        go_wp2_with fail
        go_quiet (fail)
        generalize hwq : wr.drewN nq = wq at *
        have hq : OutM w wq B0 g m w.heap.size { s with told := tk } r (lab7 f w.heap.size) (s.took % 4294967296) (s.win - s.rd) A c lk (outM s k) := by rw [← hwq]; exact HO.out.drewN nq
        obtain ⟨_, _, _, _, e4, _, _, _, e8⟩ := hq.ms
        simp only at e4 e8
        rw [HN3.out] at e4
        have fr8 := hq.y.frozen 8
        have HQ := Lib.hid hq
        clear hwq hq HO
        by_cases hz : lk.length = 0
        · have hP0 : outM s k = [] := List.eq_nil_of_length_eq_zero (by rw [← HLV.out]; exact hz)
          have HP0 := Lib.hid hP0
          obtain rfl : lk = [] := List.eq_nil_of_length_eq_zero hz
          clear hz hP0 hlk16
          cases howe : s.owe
          · rw [howe] at e8
            have HE := Lib.hid (show outMX s = outM s k by rw [HOX.out, if_neg (by rw [howe]; simp)])
            clear howe
            go_wp2_with fail
            go_ret
            exact ⟨A, c, [], rfl, by rw [HE.out]; exact HQ.out.fin1 hlk16', by rw [HTKK.out]; exact HQ.out.fin2⟩
          · rw [howe] at e8
            have HE := Lib.hid (show outMX s = [ackM s] by rw [HOX.out, if_pos ⟨HP0.out, howe⟩])
            have q0 : wq.cell? ⟨w.heap.size, 0, none⟩ = some (.int .u32 0) := HQ.out.box.cell 0
            have q1 : wq.cell? ⟨w.heap.size, 1, none⟩ = some (.int .u32 (s.took % 4294967296)) := HQ.out.box.cell 1
            have q2 : wq.cell? ⟨w.heap.size, 2, none⟩ = some (.bool false) := HQ.out.box.cell 2
            have q3 : wq.cell? ⟨w.heap.size, 3, none⟩ = some (.int .i64 (s.win - s.rd)) := HQ.out.box.cell 3
            have q4 : wq.cell? ⟨w.heap.size, 4, none⟩ = some (.slice none 0 0) := HQ.out.box.cell 4
            have frp := HQ.out.box.frozen 0
            have hne : w.heap.size ≠ m := HQ.out.ne
            have hmq : m < wq.heap.size := HQ.out.y.lt
            clear howe
            go_wp2_with fail
            go_ret
            refine ⟨_, 1, [⟨(n3 : Int) % 4294967296, s.took % 4294967296, false, s.win - s.rd, bc0⟩], rfl, ?_⟩
            rw [HE.out, HTKK.out, show ackM s = ⟨(n3 : Int) % 4294967296, s.took % 4294967296, false, s.win - s.rd, []⟩ by unfold ackM; rw [← HAL.out]; rfl]
            exact HQ.out.fin3 _ rfl
        · have z1 : ((lk.length : Int) == 0) = false := by rw [beq_eq_false_iff_ne]; omega
          have z2 : (lk.length == 0) = false := by rw [beq_eq_false_iff_ne]; omega
          have HE := Lib.hid (show outMX s = outM s k by rw [HOX.out, if_neg (fun h => hz (by rw [HLV.out, h.1]; rfl))])
          have HF1 := Lib.hid (HQ.out.fin1 hlk16')
          have HF2 := Lib.hid HQ.out.fin2
          clear z1 z2 HQ
          obtain ⟨ln, hln⟩ : ∃ n, lk.length = n + 1 := ⟨lk.length - 1, by omega⟩
          have HLN := Lib.hid hln
          rw [hln] at hlk16 hlk16' ⊢
          have z1 : (((ln + 1 : Nat) : Int) == 0) = false := by rw [beq_eq_false_iff_ne]; omega
          have z2 : (ln + 1 == 0) = false := by rw [beq_eq_false_iff_ne]; omega
          have z3 : ((ln : Int) + 1 == 0) = false := by rw [beq_eq_false_iff_ne]; omega
          clear hz hln
          go_wp2_with fail
          go_ret
          exact ⟨A, c, lk, by rw [HLN.out]; rfl, by rw [HE.out]; exact HF1.out, by rw [HTKK.out]; exact HF2.out⟩
      · have d1 : decide ((j : Int) < (n3 : Int)) = false := by simp; omega
        have d1' : decide (j < n3) = false := by simp; omega
        go_wp2_with fail
        go_quiet (fail)
        generalize hwq : wr.drewN nq = wq at *
        have hq : OutM w wq B0 g m w.heap.size { s with told := tk } r (lab7 f w.heap.size) (s.took % 4294967296) (s.win - s.rd) A c lk (outM s k) := by rw [← hwq]; exact HO.out.drewN nq
        obtain ⟨_, _, _, _, e4, _, _, _, e8⟩ := hq.ms
        simp only at e4 e8
        rw [HN3.out] at e4
        have fr8 := hq.y.frozen 8
        have HQ := Lib.hid hq
        clear hwq hq HO
        by_cases hz : lk.length = 0
        · have hP0 : outM s k = [] := List.eq_nil_of_length_eq_zero (by rw [← HLV.out]; exact hz)
          have HP0 := Lib.hid hP0
          obtain rfl : lk = [] := List.eq_nil_of_length_eq_zero hz
          clear hz hP0 hlk16
          cases howe : s.owe
          · rw [howe] at e8
            have HE := Lib.hid (show outMX s = outM s k by rw [HOX.out, if_neg (by rw [howe]; simp)])
            clear howe
            go_wp2_with fail
            go_ret
            exact ⟨A, c, [], rfl, by rw [HE.out]; exact HQ.out.fin1 hlk16', by rw [HTKK.out]; exact HQ.out.fin2⟩
          · rw [howe] at e8
            have HE := Lib.hid (show outMX s = [ackM s] by rw [HOX.out, if_pos ⟨HP0.out, howe⟩])
            have q0 : wq.cell? ⟨w.heap.size, 0, none⟩ = some (.int .u32 0) := HQ.out.box.cell 0
            have q1 : wq.cell? ⟨w.heap.size, 1, none⟩ = some (.int .u32 (s.took % 4294967296)) := HQ.out.box.cell 1
            have q2 : wq.cell? ⟨w.heap.size, 2, none⟩ = some (.bool false) := HQ.out.box.cell 2
            have q3 : wq.cell? ⟨w.heap.size, 3, none⟩ = some (.int .i64 (s.win - s.rd)) := HQ.out.box.cell 3
            have q4 : wq.cell? ⟨w.heap.size, 4, none⟩ = some (.slice none 0 0) := HQ.out.box.cell 4
            have frp := HQ.out.box.frozen 0
            have hne : w.heap.size ≠ m := HQ.out.ne
            have hmq : m < wq.heap.size := HQ.out.y.lt
            clear howe
            go_wp2_with fail
            go_ret
            refine ⟨_, 1, [⟨(n3 : Int) % 4294967296, s.took % 4294967296, false, s.win - s.rd, bc0⟩], rfl, ?_⟩
            rw [HE.out, HTKK.out, show ackM s = ⟨(n3 : Int) % 4294967296, s.took % 4294967296, false, s.win - s.rd, []⟩ by unfold ackM; rw [← HAL.out]; rfl]
            exact HQ.out.fin3 _ rfl
        · have z1 : ((lk.length : Int) == 0) = false := by rw [beq_eq_false_iff_ne]; omega
          have z2 : (lk.length == 0) = false := by rw [beq_eq_false_iff_ne]; omega
          have HE := Lib.hid (show outMX s = outM s k by rw [HOX.out, if_neg (fun h => hz (by rw [HLV.out, h.1]; rfl))])
          have HF1 := Lib.hid (HQ.out.fin1 hlk16')
          have HF2 := Lib.hid HQ.out.fin2
          clear z1 z2 HQ
          obtain ⟨ln, hln⟩ : ∃ n, lk.length = n + 1 := ⟨lk.length - 1, by omega⟩
          have HLN := Lib.hid hln
          rw [hln] at hlk16 hlk16' ⊢
          have z1 : (((ln + 1 : Nat) : Int) == 0) = false := by rw [beq_eq_false_iff_ne]; omega
          have z2 : (ln + 1 == 0) = false := by rw [beq_eq_false_iff_ne]; omega
          have z3 : ((ln : Int) + 1 == 0) = false := by rw [beq_eq_false_iff_ne]; omega
          clear hz hln
          go_wp2_with fail
          go_ret
          exact ⟨A, c, lk, by rw [HLN.out]; rfl, by rw [HE.out]; exact HF1.out, by rw [HTKK.out]; exact HF2.out⟩
end Go.Proofs.Ytaecgapoaagjfaa
