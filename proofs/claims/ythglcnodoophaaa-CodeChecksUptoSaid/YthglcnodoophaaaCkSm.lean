
/-
  roadlaw1.nodes and small: some answer.
-/
import Derived.Test.YthglcnodoophaaaCkRd
namespace Go.Proofs.Ythglcnodoophaaa
open Go.RowKit

theorem PaIn.lt {w : World} {S : Nat → Prop} : ∀ {n : Nat} {x : PaC} {v : Pt}, PaIn w S n x v → PaIn w (fun b => S b ∧ b < w.heap.size) n x v
  | 0, _, _, h => h.elim
  | n + 1, x, v, h => by
    obtain ⟨h1, h2, l, h3, h4, h5⟩ := h
    exact ⟨h1, h2, l, h3, h4.lt, fun i hi => PaIn.lt (h5 i hi)⟩
/-- Some bool. -/
def SomeBl (e : Ending) : Prop := ∃ b : Bool, e = .returned (.bool b)
/-- Some number. -/
def SomeI (e : Ending) : Prop := ∃ m : Int, e = .returned (.int .i64 m)
set_option maxRecDepth 100000 in
set_option maxHeartbeats 1000000 in
theorem nodes_ck : ∀ (n : Nat) (x : PaC) (p : Pt) (d : Int) (w : World) (S : Nat → Prop), PaIn w S n x p → I64 d → Calls Try.prog 7 #[paV x, .int .i64 d] w fun e w' => SomeI e ∧ Below w.heap.size w w'
  | 0, _, _, _, _, _, h, _ => h.elim
  | n + 1, x, p, d, w, S, hx, hd => by
    have ih := nodes_ck n
    obtain ⟨k, m, t, A, len, cap⟩ := x
    obtain ⟨_, ⟨hlc, hcm, _, _⟩, l, hll, hrow, hel⟩ := hx.lt
    dsimp only at hlc hcm hll hrow
    subst hll
    have HIH := Lib.hid ih
    have HROW := Lib.hid hrow
    have HEL := Lib.hid (fun i hi => (hel i hi))
    have HD := Lib.hid hd
    unfold maxLen at hcm
    clear hrow hel ih hd
    unfold paV
    simp only
    go_enter Try.func7, Try.ntmps7
    go_wp2_with fail
    go_loopg [5, 11] l.length (fun gk mv i wr => ∃ (k : Nat) (m : Int), gk = l.length - k ∧ k ≤ l.length ∧ i = .int .i64 k ∧ mv = .int .i64 m ∧ Below w.heap.size w wr)
    case atStart => exact ⟨0, 1, by omega, by omega, rfl, rfl, (Below.refl _ _).alloc (Nat.le_refl _) _⟩
    case round =>
      obtain ⟨k, m, hgk, hk, rfl, rfl, hb⟩ := hrel
      have HG := Lib.hid hgk
      clear hgk
      by_cases hlt : k < l.length
      · have hrw := HROW.out.keep (fun p hp => hb.cell (p := p) hp.2) (fun _ h => h)
        have HV := Lib.hid ((HEL.out k hlt).below hb (fun _ h => h.2))
        obtain ⟨b, o, rfl, _, hc0, hc1, hc2, hc3⟩ := hrw.all.pa hlt pac0
        clear hrw
        generalize l.getD k pac0 = x at *
        generalize p.args.getD k pt0 = v' at *
        have hbs := hb.size
        by_cases hd1 : d < 1
        · go_wp2_with fail
          go_ret
          exact ⟨⟨_, rfl⟩, hb.alloc hbs _⟩
        · have hd2 : I64 (d - 1) := by have := HD.out; unfold I64 at *; omega
          have hwr : IntKind.i64.wrap (d - 1) = d - 1 := by unfold I64 at hd2; rw [IntKind.wrap_i64]; omega
          have HT := Lib.hid (fun o => HIH.out x v' (d - 1) (wr.alloc o) _ (HV.out.below (B := w.heap.size) ((Below.refl _ _).alloc (by omega) o) fun _ h => h.2) hd2)
          clear hd2
          unfold paV at HT
          go_wp2_with fail
          refine (HT.out _).mono ?_
          rintro e w2 ⟨⟨m', rfl⟩, hb2⟩
          have HB2 := Lib.hid (show Below w.heap.size w w2 from (hb.alloc (by omega) _).trans (hb2.mono (by simp; omega)))
          clear hb2 hwr HT
          go_wp2_with fail
          go_roundg (l.length - (k + 1))
          case measure => have := HG.out; omega
          case rel => exact ⟨k + 1, _, rfl, by omega, by go_num, rfl, HB2.out⟩
      · obtain rfl : k = l.length := by omega
        go_wp2_with fail
        go_ret
        exact ⟨⟨_, rfl⟩, hb⟩

set_option maxRecDepth 100000 in
set_option maxHeartbeats 4000000 in
theorem small_ck (B n : Nat) (v : CkV) (P : CkP) (w : World) (hB : B ≤ w.heap.size) (h : CkIn w B n v P) :
    Calls Try.prog 4 #[.agg (ckC v P)] w fun e w' => SomeBl e ∧ Below w.heap.size w w' := by
  obtain ⟨q0, q1, A2, c2, A3, c3, A4, c4, A5, c5, A6, c6⟩ := v
  obtain ⟨nT, nN, fns, acs, ims, mks, pats⟩ := P
  obtain ⟨s0, s1, s2, s3, s4, s5, s6⟩ := h.small
  obtain ⟨fs, hfl, hfr, hfn⟩ := h.fns
  obtain ⟨ls, hpl, hpr, hps⟩ := h.pats
  dsimp only at s0 s1 s2 s3 s4 s5 s6 hfl hfr hfn hpl hpr hps
  unfold ckC
  dsimp only
  rw [← hfl, ← hpl]
  rw [← hfl] at s2
  rw [← hpl] at s6
  have HFR := Lib.hid hfr
  have HFN := Lib.hid hfn
  have HPR := Lib.hid hpr
  have HPS := Lib.hid hps
  clear h hfl hfr hfn hpl hpr hps
  go_enter Try.func4, Try.ntmps4
  go_wp2_with fail
  go_loopg [3, 38] fs.length (fun gk mv iv wr => ∃ (k : Nat) (m : Int), gk = fs.length - k ∧ k ≤ fs.length ∧ iv = .int .i64 k ∧ mv = .int .i64 m ∧ Below w.heap.size w wr ∧ Box wr w.heap.size 30 #[.slice q0.A nT q0.cap, .slice q1.A nN q1.cap, .slice A2 fs.length c2, .slice A3 acs.length c3, .slice A4 ims.length c4, .slice A5 mks.length c5, .slice A6 ls.length c6])
  case atStart => exact ⟨0, _, by omega, by omega, rfl, rfl, (Below.refl _ _).alloc (Nat.le_refl _) _, Box.new _ _ _⟩
  case round =>
    obtain ⟨k, m, hgk, hk, rfl, rfl, hb, hbx⟩ := hrel
    have HGK := Lib.hid hgk
    have HBX := Lib.hid hbx
    clear hgk hbx
    have hbs := hb.size
    by_cases hlt : k < fs.length
    · obtain ⟨p1, o1, rfl, _, hc0, hc1, hc2, hc3, hc4⟩ := (HFR.out.below (hb.mono hB)).fc hlt fcc0
      have hf := HFN.out k hlt
      have hll := hf.len
      have hrowi := hf.row
      have hmaxi := hf.max
      clear hf
      generalize fs.getD k fcc0 = f at *
      generalize (fns.getD k fnp0).ins = li at *
      obtain ⟨fnm, fp, fh, fr, fA, fl, fc⟩ := f
      dsimp only at hc0 hc1 hc2 hc3 hc4 hll hrowi hmaxi
      subst hll
      go_upto_region 5 with fail
      have hb5 := (Below.refl wr.heap.size wr).alloc (Nat.le_refl _) (.cells #[.string fnm, .int .i64 fp, .int .i64 fh, .int .i64 fr, .slice fA li.length fc] 36)
      have HBX5 := Lib.hid (HBX.out.below hb5 HBX.out.lt)
      have HF5 := Lib.hid (Box.new wr 36 #[.string fnm, .int .i64 fp, .int .i64 fh, .int .i64 fr, .slice fA li.length fc])
      have HB5 := Lib.hid (hb.trans (hb5.mono hbs))
      have hsz5 : wr.heap.size < (wr.alloc (.cells #[.string fnm, .int .i64 fp, .int .i64 fh, .int .i64 fr, .slice fA li.length fc] 36)).heap.size := by simp
      clear hb5 hc0 hc1 hc2 hc3 hc4 HBX
      generalize wr.alloc (.cells #[.string fnm, .int .i64 fp, .int .i64 fh, .int .i64 fr, .slice fA li.length fc] 36) = w5 at *
      obtain ⟨g5, hg5⟩ : ∃ g5, wr.heap.size = g5 := ⟨_, rfl⟩
      rw [hg5] at HF5 hsz5 hbs
      rw [hg5]
      clear hg5 hb
      have f4 : w5.cell? ⟨g5, 4, none⟩ = some (.slice fA li.length fc) := HF5.out.cell 4
      go_wp2_with fail
      obtain ⟨wo, hwo⟩ : ∃ wo, wo = w5 := ⟨_, rfl⟩
      subst hwo
      go_loopg [3, 51] li.length (fun gk mv iv wq => ∃ (j : Nat) (m : Int), gk = li.length - j ∧ j ≤ li.length ∧ iv = .int .i64 j ∧ mv = .int .i64 m ∧ Below wo.heap.size wo wq)
      case atStart => exact ⟨0, _, by omega, by omega, rfl, rfl, Below.refl _ _⟩
      case round =>
        obtain ⟨j, m2, hgj, hj, rfl, rfl, hbq⟩ := hrel
        have HGJ := Lib.hid hgj
        have hbqs := hbq.size
        clear hgj
        by_cases hjl : j < li.length
        · obtain ⟨p2, o2, rfl, _, e0, e1, e2, e3, e4⟩ := ((hrowi.below (HB5.out.mono hB)).below (hbq.mono (by omega))).ins hjl inc0
          generalize li.getD j inc0 = ic at *
          obtain ⟨xo, xa, xb, xc, xA, xcap, xargs⟩ := ic
          dsimp only at e0 e1 e2 e3 e4
          go_wp2_with fail
          go_roundg (li.length - (j + 1))
          case measure => have := HGJ.out; omega
          case rel => exact ⟨j + 1, _, rfl, by omega, by go_num, rfl, hbq.alloc hbqs _⟩
        · obtain rfl : j = li.length := by omega
          have HF6 := Lib.hid (HF5.out.below hbq hsz5)
          have HBX6 := Lib.hid (HBX5.out.below hbq HBX5.out.lt)
          have HB6 := Lib.hid (HB5.out.trans (hbq.mono HB5.out.size))
          have f3 : wr.cell? ⟨g5, 3, none⟩ = some (.int .i64 fr) := HF6.out.cell 3
          by_cases hfr : (100 : Int) < fr
          · go_wp2_with fail
            go_ret
            exact ⟨⟨_, rfl⟩, HB6.out⟩
          · go_wp2_with fail
            go_roundg (fs.length - (k + 1))
            case measure => have := HGK.out; omega
            case rel => exact ⟨k + 1, _, rfl, by omega, by go_num, rfl, HB6.out, HBX6.out⟩
    · obtain rfl : k = fs.length := by omega
      have b6 : wr.cell? ⟨w.heap.size, 6, none⟩ = some (.slice A6 ls.length c6) := HBX.out.cell 6
      clear hlt hk HGK
      have HBB := Lib.hid hb
      clear hb HBX
      go_wp2_with fail
      obtain ⟨wa, hwa⟩ : ∃ wa, wa = wr := ⟨_, rfl⟩
      subst hwa
      go_loopg [3, 68] ls.length (fun gk mv iv wr => ∃ (k : Nat) (m : Int), gk = ls.length - k ∧ k ≤ ls.length ∧ iv = .int .i64 k ∧ mv = .int .i64 m ∧ Below w.heap.size w wr)
      case atStart => exact ⟨0, _, by omega, by omega, rfl, rfl, HBB.out⟩
      case round =>
        obtain ⟨k, m3, hgk, hk, rfl, rfl, hb3⟩ := hrel
        have HGK := Lib.hid hgk
        have HB3 := Lib.hid hb3
        have hbs3 := hb3.size
        clear hgk HBB
        by_cases hlt : k < ls.length
        · obtain ⟨p1, o1, rfl, _, hc0⟩ := Row.sl (HPR.out.below (hb3.mono hB)) hlt
          have hp := HPS.out k hlt
          obtain ⟨lp, hll, hrowp, help⟩ := hp.row
          have hpl := few_len hp.few
          have hpn := hp.len
          clear hp
          generalize ls.getD k slc0 = s at *
          generalize pats.getD k [] = vs at *
          obtain ⟨sA, sl, sc⟩ := s
          dsimp only at hc0 hll hrowp hpn
          subst hll
          have HRP := Lib.hid hrowp
          have HEP := Lib.hid help
          clear hrowp help hb3
          go_wp2_with fail
          obtain ⟨wo, hwo⟩ : ∃ wo, wo = wr := ⟨_, rfl⟩
          subst hwo
          go_loopg [3, 74] lp.length (fun gk mv iv wq => ∃ (j : Nat) (m : Int), gk = lp.length - j ∧ j ≤ lp.length ∧ iv = .int .i64 j ∧ mv = .int .i64 m ∧ Below w.heap.size w wq)
          case atStart => exact ⟨0, _, by omega, by omega, rfl, rfl, HB3.out⟩
          case round =>
            obtain ⟨j, m4, hgj, hj, rfl, rfl, hbq⟩ := hrel
            have HGJ := Lib.hid hgj
            have hbqs := hbq.size
            clear hgj
            by_cases hjl : j < lp.length
            · have HV := Lib.hid ((HEP.out j hjl).below (B := B) (hbq.mono hB) (fun b h => h))
              obtain ⟨p2, o2, rfl, _, e0, e1, e2, e3⟩ := (HRP.out.below (hbq.mono hB)).pa hjl pac0
              generalize lp.getD j pac0 = x at *
              generalize vs.getD j pt0 = v at *
              have HT := Lib.hid (fun o => nodes_ck n x v 200 (wr.alloc o) _ (HV.out.below (B := B) ((Below.refl _ _).alloc (by omega) o) fun _ h => h) (by unfold I64; omega))
              unfold paV at HT
              go_wp2_with fail
              refine (HT.out _).mono ?_
              rintro e w2 ⟨⟨m', rfl⟩, hb2⟩
              have HB2 := Lib.hid (show Below w.heap.size w w2 from (hbq.alloc (by omega) _).trans (hb2.mono (by simp; omega)))
              clear hb2 HT
              go_wp2_with fail
              go_roundg (lp.length - (j + 1))
              case measure => have := HGJ.out; omega
              case rel => exact ⟨j + 1, _, rfl, by omega, by go_num, rfl, HB2.out⟩
            · obtain rfl : j = lp.length := by omega
              go_wp2_with fail
              go_roundg (ls.length - (k + 1))
              case measure => have := HGK.out; omega
              case rel => exact ⟨k + 1, _, rfl, by omega, by go_num, rfl, hbq⟩
        · obtain rfl : k = ls.length := by omega
          go_wp2_with fail
          go_ret
          exact ⟨⟨_, rfl⟩, HB3.out⟩
end Go.Proofs.Ythglcnodoophaaa
