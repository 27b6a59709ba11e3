/-
  The other end: what comes in.
-/
import Derived.Test.YtaecgapoaagjfaaLineX11
import Derived.Deep.CutBlock
import Derived.IntWalk
import Derived.Deep.DeepCutAuto
namespace Go.Proofs.Ytaecgapoaagjfaa
open Go.RowKit

theorem blk_ge {w : World} {B0 e k n c : Nat} {A : Option Addr} {xs : List Value} (ho : OwnAt w B0 e k A n c xs) {b : Nat} (hb : blk A b) : B0 ≤ b := by
  rcases ho.form with ⟨rfl, _⟩ | ⟨g1, o1, rfl⟩
  · cases hb
  · simp [blk] at hb; subst hb; exact ho.lt.1
section
variable {w : World} {B0 g m : Nat} {s : LS} {r : LR} {f : Nat → Nat}
/-- What lies under the base may bear 0. -/
theorem LineAt.base0 (h : LineAt w B0 g m s r f) : LineAt w B0 g m s r (fun b => if b < B0 then 0 else f b) := by
  have hS : ∀ b, f b = 0 → (if b < B0 then 0 else f b) = 0 := fun b hb => by rw [hb]; simp
  have hN : ∀ b k, B0 ≤ b → f b = k → (if b < B0 then 0 else f b) = k := fun b k h1 h2 => by rw [if_neg (by omega)]; exact h2
  exact ⟨h.x, h.y, h.o1.weak (Nat.le_refl _) hS, h.o2.weak (Nat.le_refl _) hS, h.o3.weak (Nat.le_refl _) hS, h.o4.weak (Nat.le_refl _) hS, hN g 1 h.hg h.fg, fun hr => hN m 2 h.hm (h.fm hr), fun b hb => hN b 3 (blk_ge h.o1.2.1 hb) (h.f1 b hb), fun b hb => hN b 4 (blk_ge h.o2.2.1 hb) (h.f2 b hb), fun b hb => hN b 5 (blk_ge h.o3.2.1 hb) (h.f3 b hb), fun b hb => hN b 6 (blk_ge h.o4.2.1 hb) (h.f4 b hb), h.hg, h.hm⟩
theorem LineAt.zero (h : LineAt w B0 g m s r f) : ∃ f', (∀ b, b < B0 → f' b = 0) ∧ LineAt w B0 g m s r f' := ⟨_, fun _ hb => if_pos hb, h.base0⟩
theorem LineAt.wait3 (h : LineAt w B0 g m s r f) (o : Obj) : bodyMk (w.alloc o) B0 (fun b => lab0 f w.heap.size b = 0) 0 r.A3 r.c3 r.l3 s.All := by
  refine h.o3.only (T := fun _ => False) ((Only.refl _ w).alloc o) (fun _ _ h => h) (fun b hb hl => ⟨fun h => h, by show lab0 f w.heap.size b = 0; unfold lab0; rw [if_pos hl]; exact hb⟩)
theorem LineAt.wait4 (h : LineAt w B0 g m s r f) (o : Obj) : bodyMk (w.alloc o) B0 (fun b => lab0 f w.heap.size b = 0) 0 r.A4 r.c4 r.l4 s.Got := by
  refine h.o4.only (T := fun _ => False) ((Only.refl _ w).alloc o) (fun _ _ h => h) (fun b hb hl => ⟨fun h => h, by show lab0 f w.heap.size b = 0; unfold lab0; rw [if_pos hl]; exact hb⟩)
theorem fresh_low {A : Option Addr} {e k n c : Nat} {xs : List Value} (hown : OwnAt w B0 e k A n c xs) (hf : ∀ b, b < B0 → f b = 0) {y : BC} {bs : Body} (hy : BIn w (· < B0) 0 y bs) (o : Obj) : BIn (w.alloc o) (Off (fun b => lab0 f w.heap.size b = 0) A) 0 y bs :=
  hy.lt.keep (fun p hp => World.cell?_alloc_lt w o p hp.2) fun b hp => ⟨by
    have h1 : b < B0 := hp.1
    show lab0 f w.heap.size b = 0
    unfold lab0
    rw [if_pos hp.2]
    exact hf b h1, fun e => by
    have h1 : b < B0 := hp.1
    have := blk_ge hown (show blk A b from e)
    omega⟩
theorem LineAt.turned3 (h : LineAt w B0 g m s r f) (o : Obj) {w3 : World} (ho : Only (fun b => r.A3.map (·.block) = some b) (w.alloc o) w3) : Only (fun b => f b = 5) w w3 :=
  ((Only.refl _ w).alloc o).trans (ho.more fun b hb => h.f3 b hb)
theorem LineAt.turned4 (h : LineAt w B0 g m s r f) (o : Obj) {w3 : World} (ho : Only (fun b => r.A4.map (·.block) = some b) (w.alloc o) w3) : Only (fun b => f b = 6) w w3 :=
  ((Only.refl _ w).alloc o).trans (ho.more fun b hb => h.f4 b hb)
end

/-- What Come may turn: the end itself, and the row of what it got. -/
def Tm (r : LR) (m : Nat) (b : Nat) : Prop := b = m ∨ blk r.A4 b
theorem LineAt.under {w w' : World} {B0 g m : Nat} {s : LS} {r : LR} {f : Nat → Nat} (h : LineAt w B0 g m s r f) (hB : B0 ≤ w.heap.size) (ho : Only (Tm r m) w w') : Below B0 w w' :=
  ho.to_below (Below.refl B0 w) hB (fun i hi => by
    rcases hi with h1 | h1
    · rw [h1]; exact h.hm
    · exact blk_ge h.o4.2.1 h1)
set_option maxRecDepth 100000 in
set_option maxHeartbeats 4000000 in
theorem come_m (B0 g m : Nat) (s : LS) (r : LR) (f : Nat → Nat) (x : KC) (p : Pkt) (w : World) (h : LineAt w B0 g m s r f) (hrf : s.ref = true) (hx : KIn w (· < B0) 0 x p) (hB : B0 ≤ w.heap.size) (hb0 : 0 ≤ s.mbase) (hb1 : s.mbase ≤ s.All.length) (hn : s.All.length ≤ 140737488355328) (ha0 : 0 ≤ p.ack) (ha1 : p.ack < 4294967296) (hk0 : 0 ≤ s.took) (hk1 : s.took ≤ 140737488355328) (hr0 : 0 ≤ s.rd) (hr1 : s.rd ≤ 16) (ht0 : 0 ≤ s.told) (ht1 : s.told ≤ 16) (hG : s.Got.length ≤ 16) :
    Calls Try.prog 49 #[.pointer (some ⟨m, 0, none⟩), rpkV x] w fun e w' => e = .returned (.tuple #[]) ∧ Only (Tm r m) w w' ∧ ∃ r' f', LineAt w' B0 g m (bodyR (ackR s p) p) r' f' := by
  obtain ⟨⟨x1, x2, x3, x4⟩, hxb⟩ := hx
  unfold rpkV
  rw [x1, x2, x3, x4]
  obtain ⟨f, hf0, h⟩ := h.zero
  have HH := Lib.hid h
  have HF0 := Lib.hid hf0
  have HXB := Lib.hid hxb
  have HRF := Lib.hid hrf
  obtain ⟨_, _, c2, _, _, _, _, _, _⟩ := h.ms hrf
  have hml := (h.y hrf).lt
  clear h hxb x1 x2 x3 x4 hf0 hrf
  go_enter Try.func49, Try.ntmps49
  have c2' := fun o => (World.cell?_alloc_lt w o ⟨m, 2, none⟩ hml).trans c2
  have hne : m ≠ w.heap.size := by omega
  go_upto_region 1 with fail
  have HB1 := Lib.hid (show Below w.heap.size w (w.alloc (.cells #[.int .u32 p.seq, .int .u32 p.ack, .bool p.has, .int .i64 p.window, .slice x.b.A x.b.len x.b.cap] 91)) from (Below.refl _ _).alloc (Nat.le_refl _) _)
  have HO1 := Lib.hid (show Only (Tm r m) w (w.alloc (.cells #[.int .u32 p.seq, .int .u32 p.ack, .bool p.has, .int .i64 p.window, .slice x.b.A x.b.len x.b.cap] 91)) from Only.of_below HB1.out)
  have HUN := Lib.hid (fun (w' : World) (ho : Only (Tm r m) w w') => HH.out.under hB ho)
  have hbox := Box.new w 91 #[.int .u32 p.seq, .int .u32 p.ack, .bool p.has, .int .i64 p.window, .slice x.b.A x.b.len x.b.cap]
  have hat1 := HH.out.below HB1.out
  have c2w := c2' (.cells #[.int .u32 p.seq, .int .u32 p.ack, .bool p.has, .int .i64 p.window, .slice x.b.A x.b.len x.b.cap] 91)
  have hgpB : B0 ≤ w.heap.size := hB
  generalize w.heap.size = gp at *
  generalize w.alloc (.cells #[.int .u32 p.seq, .int .u32 p.ack, .bool p.has, .int .i64 p.window, .slice x.b.A x.b.len x.b.cap] 91) = w1 at *
  obtain ⟨q0, q1, q2, q3, q4⟩ : w1.cell? ⟨gp, 0, none⟩ = some (.int .u32 p.seq) ∧ w1.cell? ⟨gp, 1, none⟩ = some (.int .u32 p.ack) ∧ w1.cell? ⟨gp, 2, none⟩ = some (.bool p.has) ∧ w1.cell? ⟨gp, 3, none⟩ = some (.int .i64 p.window) ∧ w1.cell? ⟨gp, 4, none⟩ = some (.slice x.b.A x.b.len x.b.cap) := ⟨hbox.cell 0, hbox.cell 1, hbox.cell 2, hbox.cell 3, hbox.cell 4⟩
  go_region
  have hat2 : LineAt w1.drew B0 g m s r f := hat1.below (below_drewN (Below.refl _ _) 1)
  have hbox2 : Box w1.drew gp 91 #[.int .u32 p.seq, .int .u32 p.ack, .bool p.has, .int .i64 p.window, .slice x.b.A x.b.len x.b.cap] := hbox
  have hb2 : Only (Tm r m) w w1.drew := HO1.out.drewN 1
  have hsz2 : B0 ≤ w1.drew.heap.size := Nat.le_trans hgpB (Nat.le_of_lt hbox.lt)
  have hmB := HH.out.hm
  clear q0 q1 q2 q3 q4 c2 c2' c2w hat1 hbox HB1 HO1 HH hB
  generalize w1.drew = w2 at *
  have HAT := Lib.hid hat2
  have HBX := Lib.hid hbox2
  have HB2 := Lib.hid hb2
  obtain ⟨d0, hd0⟩ : ∃ d0 : Int, p.ack - s.mbase % 4294967296 = d0 := ⟨_, rfl⟩
  have hd1 : -4294967296 < d0 ∧ d0 < 4294967296 := by omega
  have HK0 := Lib.hid (show sdiff p.ack (Go.Proofs.Ytaecgapoaagjfaa.u32 s.mbase) = (if (if 2147483648 ≤ d0 then d0 - 4294967296 else d0) < -2147483648 then (if 2147483648 ≤ d0 then d0 - 4294967296 else d0) + 4294967296 else (if 2147483648 ≤ d0 then d0 - 4294967296 else d0)) by
    unfold sdiff Go.Proofs.Ytaecgapoaagjfaa.u32; split <;> split <;> split <;> omega)
  obtain ⟨d1, hd1e⟩ : ∃ d1 : Int, (if 2147483648 ≤ d0 then d0 - 4294967296 else d0) = d1 := ⟨_, rfl⟩
  rw [hd1e] at HK0
  have hd1b : -4294967296 < d1 ∧ d1 < 2147483648 := by rw [← hd1e]; split <;> omega
  have HD1 := Lib.hid hd1e
  clear hat2 hbox2 hb2
  rw [hd0]
  clear hd0 hd1e
  go_upto_if 16 with fail
  go_cut [4] (fun v wx => v = .int .i64 d1 ∧ w2 = wx)
  case first =>
    have e1 := HD1.out
    by_cases hc : 2147483648 ≤ d0
    · rw [if_pos hc] at e1
      have HE1 := Lib.hid e1
      have dc : decide (2147483648 ≤ d0) = true := by simp; omega
      clear e1
      go_wp2_with fail
      go_meet
      exact ⟨by rw [HE1.out], rfl⟩
    · rw [if_neg hc] at e1
      have HE1 := Lib.hid e1
      have dc : decide (2147483648 ≤ d0) = false := by simp; omega
      clear e1
      go_wp2_with fail
      go_meet
      exact ⟨by rw [HE1.out], rfl⟩
  case rest =>
  obtain ⟨rfl, rfl⟩ := hcut
  obtain ⟨kk, hkk⟩ : ∃ kk, sdiff p.ack (Go.Proofs.Ytaecgapoaagjfaa.u32 s.mbase) = kk := ⟨_, rfl⟩
  have HKK := Lib.hid hkk
  rw [hkk] at HK0
  have hkb : -2147483648 ≤ kk ∧ kk < 2147483648 := by rw [← hkk]; unfold sdiff; split <;> omega
  clear hkk
  go_upto_if 20 with fail
  go_cut [4] (fun v wx => v = .int .i64 kk ∧ w2 = wx)
  case first =>
    have e1 := HK0.out
    by_cases hc : d1 < -2147483648
    · rw [if_pos hc] at e1
      have HE1 := Lib.hid e1
      have dc : decide (d1 < -2147483648) = true := by simp; omega
      clear e1
      go_wp2_with fail
      go_meet
      exact ⟨by rw [HE1.out], rfl⟩
    · rw [if_neg hc] at e1
      have HE1 := Lib.hid e1
      have dc : decide (d1 < -2147483648) = false := by simp; omega
      clear e1
      go_wp2_with fail
      go_meet
      exact ⟨by rw [HE1.out], rfl⟩
  case rest =>
  obtain ⟨rfl, rfl⟩ := hcut
  clear HK0 HD1 hd1 hd1b
  obtain ⟨tb, htb⟩ : ∃ tb, tb = decide (kk = 0 ∧ s.mlim < p.window) := ⟨_, rfl⟩
  have HTB := Lib.hid htb
  clear htb
  go_upto_region 6 with fail
  go_cut [33] (fun t wx => t = .bool tb ∧ Only (Tm r m) w wx ∧ Box wx gp 91 #[.int .u32 p.seq, .int .u32 p.ack, .bool p.has, .int .i64 p.window, .slice x.b.A x.b.len x.b.cap] ∧ B0 ≤ wx.heap.size ∧ LineAt wx B0 g m s r f)
  case first =>
    obtain ⟨_, c1, _, _, _, _, _, _, _⟩ := HAT.out.ms HRF.out
    have q3 : w2.cell? ⟨gp, 3, none⟩ = some (.int .i64 p.window) := HBX.out.cell 3
    have et := HTB.out
    by_cases h0 : kk = 0
    · have e0 : (kk == 0) = true := by simp [h0]
      by_cases hl : s.mlim < p.window
      · rw [show decide (kk = 0 ∧ s.mlim < p.window) = true by simp; omega] at et
        have e1 : decide (s.mlim < p.window) = true := by simp; omega
        subst et
        clear h0
        go_quiet (fail)
        go_wp2
        go_meet
        exact ⟨rfl, HB2.out.drewN nq, HBX.out, hsz2, HAT.out.below (below_drewN (Below.refl _ _) nq)⟩
      · rw [show decide (kk = 0 ∧ s.mlim < p.window) = false by simp; omega] at et
        have e1 : decide (s.mlim < p.window) = false := by simp; omega
        subst et
        clear h0
        go_quiet (fail)
        go_wp2
        go_meet
        exact ⟨rfl, HB2.out.drewN nq, HBX.out, hsz2, HAT.out.below (below_drewN (Below.refl _ _) nq)⟩
    · have e0 : (kk == 0) = false := by simp [h0]
      rw [show decide (kk = 0 ∧ s.mlim < p.window) = false by simp; omega] at et
      subst et
      clear h0
      go_quiet (fail)
      go_wp2
      go_meet
      exact ⟨rfl, HB2.out.drewN nq, HBX.out, hsz2, HAT.out.below (below_drewN (Below.refl _ _) nq)⟩
  case rest =>
  obtain ⟨rfl, hb3, hbox3, hsz3, hat3⟩ := hcut
  clear HAT HBX HB2 hsz2
  generalize wc = w3 at *
  have HAT := Lib.hid hat3
  have HBX := Lib.hid hbox3
  have HB3 := Lib.hid hb3
  clear hat3 hbox3 hb3
  obtain ⟨s1, hs1⟩ : ∃ s1, s1 = (if tb = true then { s with mlim := p.window } else s) := ⟨_, rfl⟩
  have HS1 := Lib.hid hs1
  clear hs1
  go_upto_if 33 with fail
  go_cut [34] (fun _ wx => Only (Tm r m) w wx ∧ Box wx gp 91 #[.int .u32 p.seq, .int .u32 p.ack, .bool p.has, .int .i64 p.window, .slice x.b.A x.b.len x.b.cap] ∧ B0 ≤ wx.heap.size ∧ LineAt wx B0 g m s1 r f)
  case first =>
    obtain ⟨_, c1, _, _, _, _, _, _, _⟩ := HAT.out.ms HRF.out
    have q3 : w3.cell? ⟨gp, 3, none⟩ = some (.int .i64 p.window) := HBX.out.cell 3
    have fr1 := (HAT.out.y HRF.out).frozen 1
    have es := HS1.out
    cases tb
    · rw [if_neg (by decide)] at es
      subst es
      go_wp2_with fail
      go_meet
      exact ⟨HB3.out, HBX.out, hsz3, HAT.out⟩
    · rw [if_pos rfl] at es
      have HE := Lib.hid es
      clear es
      have hne3 : gp ≠ m := fun e => hne e.symm
      go_wp2_with fail
      go_meet
      exact ⟨HB3.out.set (p := ⟨m, 1, none⟩) (.inl rfl) _, HBX.out.far (p := ⟨m, 1, none⟩) hne3 _, by simpa using hsz3, by rw [HE.out]; exact HAT.out.ycell (s' := { s with mlim := p.window }) HRF.out 1 (.int .i64 p.window) rfl rfl rfl rfl rfl rfl⟩
  case rest =>
  obtain ⟨hb4, hbox4, hsz4, hat4⟩ := hcut
  clear HAT HBX HB3 hsz3
  have hr4 : s1.ref = true := by rw [HS1.out]; split <;> exact HRF.out
  have hm4 : s1.mbase = s.mbase ∧ s1.All = s.All ∧ s1.told = s.told ∧ s1.took = s.took ∧ s1.rd = s.rd ∧ s1.Got = s.Got := by rw [HS1.out]; split <;> exact ⟨rfl, rfl, rfl, rfl, rfl, rfl⟩
  have hn4 : r.l3.length = s.All.length := by rw [← hm4.2.1]; exact hat4.o3.1
  obtain ⟨_, _, c2, c3, c4, _, _, _, _⟩ := hat4.ms hr4
  rw [hm4.1] at c2
  rw [hm4.2.2.1] at c3
  have fr1 := (hat4.y hr4).frozen 1
  have fr2 := (hat4.y hr4).frozen 2
  have fr3 := (hat4.y hr4).frozen 3
  obtain ⟨tb2, htb2⟩ : ∃ tb2, tb2 = decide (1 ≤ kk ∧ kk ≤ (r.l3.length : Int) - s.mbase) := ⟨_, rfl⟩
  have HTB2 := Lib.hid htb2
  have HM4 := Lib.hid hm4
  have HN4 := Lib.hid hn4
  have HR4 := Lib.hid hr4
  have HAT := Lib.hid hat4
  have HBX := Lib.hid hbox4
  have HB4 := Lib.hid hb4
  have hn3 : r.l3.length ≤ 140737488355328 := by omega
  have HWI : Hid (∀ v : World, Calls Try.prog 168 #[.int .i64 kk, .int .i64 1, .int .i64 ((r.l3.length : Int) - s.mbase)] v fun e w' => e = .returned (.bool tb2) ∧ w' = v) := Lib.hid (fun v => (within_any kk 1 ((r.l3.length : Int) - s.mbase) v).mono fun _ _ h => ⟨by rw [htb2]; exact h.1, h.2.symm⟩)
  clear hat4 hbox4 hb4 htb2 hm4 hn4 hr4
  go_upto_region 8 with fail
  generalize r.l3.length = n3 at *
  have hwr : IntKind.i64.wrap ((n3 : Int) - s.mbase) = (n3 : Int) - s.mbase := IntWalk.i64_in _ (by omega)
  go_quiet ((go_at_call 168; exact Calls.quiet_of_same (HWI.out _)))
  clear hwr
  have hat5 : LineAt (wc.drewN nq) B0 g m s1 r f := HAT.out.below (below_drewN (Below.refl _ _) nq)
  have hbox5 : Box (wc.drewN nq) gp 91 #[.int .u32 p.seq, .int .u32 p.ack, .bool p.has, .int .i64 p.window, .slice x.b.A x.b.len x.b.cap] := HBX.out
  have hb5 : Only (Tm r m) w (wc.drewN nq) := HB4.out.drewN nq
  have hsz5 : B0 ≤ (wc.drewN nq).heap.size := hsz4
  clear HAT HBX HB4 hsz4 c2 c3 c4 fr1 fr2 fr3
  go_upto_if 50 with fail
  generalize wc.drewN nq = w5 at *
  have HAT := Lib.hid hat5
  have HBX := Lib.hid hbox5
  have HB5 := Lib.hid hb5
  clear hat5 hbox5 hb5
  obtain ⟨s2, hs2⟩ : ∃ s2, s2 = (if tb2 = true then { s1 with mbase := s.mbase + kk, mlim := p.window, told := if s.told - kk < 0 then 0 else s.told - kk } else s1) := ⟨_, rfl⟩
  have HS2 := Lib.hid hs2
  clear hs2
  go_cut [51] (fun _ wx => Only (Tm r m) w wx ∧ Box wx gp 91 #[.int .u32 p.seq, .int .u32 p.ack, .bool p.has, .int .i64 p.window, .slice x.b.A x.b.len x.b.cap] ∧ B0 ≤ wx.heap.size ∧ LineAt wx B0 g m s2 r f)
  case first =>
    obtain ⟨_, c1, c2, c3, _, _, _, _, _⟩ := HAT.out.ms HR4.out
    rw [HM4.out.1] at c2
    rw [HM4.out.2.2.1] at c3
    have q3 : w5.cell? ⟨gp, 3, none⟩ = some (.int .i64 p.window) := HBX.out.cell 3
    have fr1 := (HAT.out.y HR4.out).frozen 1
    have fr2 := (HAT.out.y HR4.out).frozen 2
    have fr3 := (HAT.out.y HR4.out).frozen 3
    have es := HS2.out
    cases tb2
    · rw [if_neg (by decide)] at es
      subst es
      go_wp2_with fail
      go_meet
      exact ⟨HB5.out, HBX.out, hsz5, HAT.out⟩
    · rw [if_pos rfl] at es
      have HE := Lib.hid es
      have hk1 : 1 ≤ kk ∧ kk ≤ (n3 : Int) - s.mbase := by have := HTB2.out; simpa using this
      clear es
      have hne3 : gp ≠ m := fun e => hne e.symm
      have HL5 := Lib.hid (fun X : Int => ((HAT.out.ycell (s' := { s1 with mbase := s.mbase + kk }) HR4.out 2 (.int .i64 (s.mbase + kk)) rfl rfl rfl rfl rfl rfl).ycell (s' := { s1 with mbase := s.mbase + kk, mlim := p.window }) HR4.out 1 (.int .i64 p.window) rfl rfl rfl rfl rfl rfl).ycell (s' := { s1 with mbase := s.mbase + kk, mlim := p.window, told := X }) HR4.out 3 (.int .i64 X) rfl rfl rfl rfl rfl rfl)
      have HX5 := Lib.hid (fun X : Int => ((HBX.out.far (p := ⟨m, 2, none⟩) hne3 (.int .i64 (s.mbase + kk))).far (p := ⟨m, 1, none⟩) hne3 (.int .i64 p.window)).far (p := ⟨m, 3, none⟩) hne3 (.int .i64 X))
      have HB6 := Lib.hid (fun X : Int => ((HB5.out.set (p := ⟨m, 2, none⟩) (.inl rfl) (.int .i64 (s.mbase + kk))).set (p := ⟨m, 1, none⟩) (.inl rfl) (.int .i64 p.window)).set (p := ⟨m, 3, none⟩) (.inl rfl) (.int .i64 X))
      by_cases hlt : s.told - kk < 0
      · have HE2 := Lib.hid (show s2 = { s1 with mbase := s.mbase + kk, mlim := p.window, told := 0 } by rw [HE.out, if_pos hlt])
        clear hne3
        go_wp2_with fail
        go_meet
        exact ⟨HB6.out 0, HX5.out 0, by simpa using hsz5, by rw [HE2.out]; exact HL5.out 0⟩
      · have HE2 := Lib.hid (show s2 = { s1 with mbase := s.mbase + kk, mlim := p.window, told := s.told - kk } by rw [HE.out, if_neg hlt])
        clear hne3
        go_wp2_with fail
        go_meet
        exact ⟨HB6.out (s.told - kk), HX5.out (s.told - kk), by simpa using hsz5, by rw [HE2.out]; exact HL5.out (s.told - kk)⟩
  case rest =>
  obtain ⟨hb6, hbox6, hsz6, hat6⟩ := hcut
  have HACK := Lib.hid (show ackR s p = s2 by
    by_cases hA : 1 ≤ kk ∧ kk ≤ (s.All.length : Int) - s.mbase
    · have e2 : tb2 = true := by rw [HTB2.out, HN4.out]; simpa using hA
      have e1 : ¬ tb = true := by rw [HTB.out]; simp; omega
      rw [HS2.out, HS1.out, if_pos e2, if_neg e1]
      unfold ackR
      rw [HKK.out, if_pos hA]
    · have e2 : ¬ tb2 = true := by rw [HTB2.out, HN4.out]; simpa using hA
      rw [HS2.out, HS1.out, if_neg e2]
      unfold ackR
      rw [HKK.out, if_neg hA]
      by_cases h0 : kk = 0
      · rw [if_pos h0]
        by_cases hl : s.mlim < p.window
        · have e1 : tb = true := by rw [HTB.out]; simp; omega
          rw [if_pos hl, if_pos e1]
        · have e1 : ¬ tb = true := by rw [HTB.out]; simp; omega
          rw [if_neg hl, if_neg e1]
      · have e1 : ¬ tb = true := by rw [HTB.out]; simp; omega
        rw [if_neg h0, if_neg e1])
  have hm6 : s2.ref = true ∧ s2.took = s.took ∧ s2.rd = s.rd ∧ s2.Got = s.Got := by
    rw [HS2.out]
    have h1 := HM4.out
    have h2 := HR4.out
    split
    · exact ⟨h2, h1.2.2.2.1, h1.2.2.2.2.1, h1.2.2.2.2.2⟩
    · exact ⟨h2, h1.2.2.2.1, h1.2.2.2.2.1, h1.2.2.2.2.2⟩
  have hk0' : 0 ≤ s2.took := by rw [hm6.2.1]; exact hk0
  have hk1' : s2.took ≤ 140737488355328 := by rw [hm6.2.1]; exact hk1
  have hr0' : 0 ≤ s2.rd := by rw [hm6.2.2.1]; exact hr0
  have hr1' : s2.rd ≤ 16 := by rw [hm6.2.2.1]; exact hr1
  have hG' : s2.Got.length ≤ 16 := by rw [hm6.2.2.2]; exact hG
  have HRF6 := Lib.hid hm6.1
  clear HS1 HS2 HTB HTB2 HM4 HN4 HR4 HKK hm6 HAT HBX HB5 hsz5 hn3 HWI hkb hk0 hk1 hr0 hr1 hG hb1 hn
  generalize wc = w6 at *
  have HAT := Lib.hid hat6
  have HBX := Lib.hid hbox6
  have HB6 := Lib.hid hb6
  obtain ⟨c0, _, _, _, _, c5, c6, c7, c8⟩ := hat6.ms HRF6.out
  have q0 : w6.cell? ⟨gp, 0, none⟩ = some (.int .u32 p.seq) := hbox6.cell 0
  have q2 : w6.cell? ⟨gp, 2, none⟩ = some (.bool p.has) := hbox6.cell 2
  have fr8 := (hat6.y HRF6.out).frozen 8
  clear hat6 hbox6 hb6
  have hne3 : gp ≠ m := fun e => hne e.symm
  cases hhas : p.has
  · rw [hhas] at q2
    have HSB := Lib.hid (show bodyR s2 p = s2 by unfold bodyR; rw [hhas]; rfl)
    clear hhas hne3
    go_wp2_with fail
    go_end0
    exact ⟨rfl, HB6.out, r, f, by rw [HACK.out, HSB.out]; exact HAT.out⟩
  · rw [hhas] at q2
    have hat7 := HAT.out.ycell (s' := { s2 with owe := true }) HRF6.out 8 (.bool true) rfl rfl rfl rfl rfl rfl
    have hbox7 := HBX.out.far (p := ⟨m, 8, none⟩) hne3 (.bool true)
    have hb7 := HB6.out.set (p := ⟨m, 8, none⟩) (.inl rfl) (.bool true)
    have hsz7 : B0 ≤ (w6.setCell ⟨m, 8, none⟩ (.bool true)).heap.size := by simpa using hsz6
    go_upto_region 14 with fail
    clear q0 q2 c0 c5 c6 c7 c8 fr8 HAT HBX HB6 hsz6
    generalize w6.setCell ⟨m, 8, none⟩ (.bool true) = w7 at *
    obtain ⟨c0, _, _, _, _, c5, c6, c7, _⟩ := hat7.ms HRF6.out
    simp only at c0 c5 c6 c7
    have q0 : w7.cell? ⟨gp, 0, none⟩ = some (.int .u32 p.seq) := hbox7.cell 0
    have fr5 := (hat7.y HRF6.out).frozen 5
    have fr6 := (hat7.y HRF6.out).frozen 6
    have HL7 := Lib.hid hat7
    have HX7 := Lib.hid hbox7
    have HB7 := Lib.hid hb7
    by_cases hq : p.seq = Go.Proofs.Ytaecgapoaagjfaa.u32 s2.took
    · have b1 : (p.seq == s2.took % 4294967296) = true := by rw [hq]; simp [Go.Proofs.Ytaecgapoaagjfaa.u32]
      by_cases hi : s2.rd < s2.win
      · have b2 : decide (s2.rd < s2.win) = true := by simpa using hi
        have HSB := Lib.hid (show bodyR s2 p = { s2 with owe := true, took := s2.took + 1, rd := s2.rd + 1, Got := s2.Got ++ [p.body] } by unfold bodyR; rw [hhas, if_pos rfl, if_pos ⟨hq, hi⟩])
        clear hq hhas hi hat7 hbox7 hb7
        go_quiet (fail)
        have hat8 := ((HL7.out.below (below_drewN (Below.refl _ _) nq)).ycell (s' := { s2 with owe := true, took := s2.took + 1 }) HRF6.out 5 (.int .i64 (s2.took + 1)) rfl rfl rfl rfl rfl rfl).ycell (s' := { s2 with owe := true, took := s2.took + 1, rd := s2.rd + 1 }) HRF6.out 6 (.int .i64 (s2.rd + 1)) rfl rfl rfl rfl rfl rfl
        have hbox8 := ((HX7.out.drewN nq).far (p := ⟨m, 5, none⟩) hne3 (.int .i64 (s2.took + 1))).far (p := ⟨m, 6, none⟩) hne3 (.int .i64 (s2.rd + 1))
        have hb8 := ((HB7.out.drewN nq).set (p := ⟨m, 5, none⟩) (.inl rfl) (.int .i64 (s2.took + 1))).set (p := ⟨m, 6, none⟩) (.inl rfl) (.int .i64 (s2.rd + 1))
        have hsz8 : B0 ≤ (((w7.drewN nq).setCell ⟨m, 5, none⟩ (.int .i64 (s2.took + 1))).setCell ⟨m, 6, none⟩ (.int .i64 (s2.rd + 1))).heap.size := by simpa using hsz7
        go_upto_region 17 with fail
        clear c0 c5 c6 c7 q0 fr5 fr6 HL7 HX7 HB7 b1 b2 hsz7
        generalize ((w7.drewN nq).setCell ⟨m, 5, none⟩ (.int .i64 (s2.took + 1))).setCell ⟨m, 6, none⟩ (.int .i64 (s2.rd + 1)) = w8 at *
        obtain ⟨_, _, _, _, _, _, _, c7, _⟩ := hat8.ms HRF6.out
        have q4 : w8.cell? ⟨gp, 4, none⟩ = some (.slice x.b.A x.b.len x.b.cap) := hbox8.cell 4
        have fr7 := (hat8.y HRF6.out).frozen 7
        have hxq : BIn w8.drew (· < B0) 0 x.b p.body := HXB.out.below (HUN.out _ (hb8.drewN 1)) (fun _ h => h)
        have HXQ := Lib.hid hxq
        have hbk : (r.l4.length + 1) * 24 ≤ 140737488355328 := by have h1 := hat8.o4.1; have h2 : r.l4.length = s2.Got.length := h1; omega
        have hml8 : m < w8.heap.size := (hat8.y HRF6.out).lt
        have HQ := Lib.hid (show LineAt w8.drew B0 g m { s2 with owe := true, took := s2.took + 1, rd := s2.rd + 1 } r f from hat8.below (below_drewN (Below.refl _ _) 1))
        have HB8 := Lib.hid (show Only (Tm r m) w w8.drew from hb8.drewN 1)
        clear hat8 hbox8 hb8 hxq
        go_region_law ((first
          | (refine step_mk2_body rfl (.tmp 116) (.tmp 119) rfl B0 (fun b => lab0 f w8.drew.heap.size b = 0) 0 r.A4 r.c4 r.l4.length r.l4 s2.Got rfl rfl (HQ.out.wait4 _) w8.drew.heap.size x.b p.body rfl (body_new w8.drew x.b) (fresh_low HQ.out.o4.2.1 HF0.out HXQ.out _) hbk ?_ ?_
             · simp; omega
             intro A' c' w9 hmk9 hb9 ho9 hA9
             have ho9' := HQ.out.turned4 _ ho9
             have c79 : w9.cell? ⟨m, 7, none⟩ = some (.slice r.A4 r.l4.length r.c4) := (ho9'.box (HQ.out.y HRF6.out) (by rw [HQ.out.fm HRF6.out]; omega)).cell 7
             have fr79 := (ho9'.box (HQ.out.y HRF6.out) (by rw [HQ.out.fm HRF6.out]; omega)).frozen 7)))
        all_goals (
          have hL := HQ.out.put4 HRF6.out ho9' hmk9 (fun b hb => by
            rcases hA9 b hb with h1 | h1
            · exact .inl (HQ.out.f4 b h1)
            · simp at h1
              exact .inr (by simp; omega))
          rw [List.length_append, List.length_singleton] at hL
          have HL := Lib.hid hL
          have HB9 := Lib.hid (((HB8.out.alloc _).trans (ho9.more fun b hb => .inr hb)).set (p := ⟨m, 7, none⟩) (.inl rfl) (.slice A' (r.l4.length + 1) c'))
          clear hL hmk9 hb9 ho9 hA9 ho9' c79 fr79
          go_wp2_with fail
          go_end0
          exact ⟨rfl, HB9.out, _, _, by rw [HACK.out, HSB.out]; exact HL.out⟩)
      · have b2 : decide (s2.rd < s2.win) = false := by simpa using hi
        have HSB := Lib.hid (show bodyR s2 p = { s2 with owe := true } by unfold bodyR; rw [hhas, if_pos rfl, if_neg (fun h => hi h.2)])
        clear hq hhas hi hat7 hbox7 hb7 hne3
        go_quiet (fail)
        go_wp2_with fail
        go_end0
        exact ⟨rfl, HB7.out.drewN _, r, f, by rw [HACK.out, HSB.out]; exact HL7.out.below (below_drewN (Below.refl _ _) _)⟩
    · have b1 : (p.seq == s2.took % 4294967296) = false := by rw [beq_eq_false_iff_ne]; exact hq
      have HSB := Lib.hid (show bodyR s2 p = { s2 with owe := true } by unfold bodyR; rw [hhas, if_pos rfl, if_neg (fun h => hq h.1)])
      clear hq hhas hat7 hbox7 hb7 hne3
      go_quiet (fail)
      go_wp2_with fail
      go_end0
      exact ⟨rfl, HB7.out.drewN _, r, f, by rw [HACK.out, HSB.out]; exact HL7.out.below (below_drewN (Below.refl _ _) _)⟩
end Go.Proofs.Ytaecgapoaagjfaa
