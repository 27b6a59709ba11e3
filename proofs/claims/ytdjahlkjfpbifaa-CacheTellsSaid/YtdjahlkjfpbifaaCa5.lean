
/-
  roadlaw1.nodes and small: some answer.
-/
import Derived.Test.YtdjahlkjfpbifaaValSame
import Derived.Test.YtdjahlkjfpbifaaFlatV
import Derived.Test.YtdjahlkjfpbifaaCaFn
import Derived.Test.YtdjahlkjfpbifaaCaIn
namespace Go.Proofs.Ytdjahlkjfpbifaa
open Go.RowKit

/-- Some number. -/
def SomeI (e : Ending) : Prop := ∃ m : Int, e = .returned (.int .i64 m)
set_option maxRecDepth 100000 in
set_option maxHeartbeats 1000000 in
theorem nodes_any : ∀ (n : Nat) (x : VC) (p : Val) (d : Int) (w : World) (S : Nat → Prop), VIn w S n x p → I64 d → Calls Try.prog 84 #[valV x, .int .i64 d] w fun e w' => SomeI e ∧ Below w.heap.size w w'
  | 0, _, _, _, _, _, h, _ => h.elim
  | n + 1, x, p, d, w, S, hx, hd => by
    have ih := nodes_any n
    obtain ⟨k, m, t, A, len, cap⟩ := x
    obtain ⟨l, rfl, hrow⟩ := row_of_VIn hx.lt
    have HIH := Lib.hid ih
    have HROW := Lib.hid hrow
    have HD := Lib.hid hd
    have hcm := hrow.2.2.2.2.1
    have hlc := hrow.2.2.2.1
    unfold maxLen at hcm
    clear hx hrow ih hd
    unfold valV
    simp only
    go_enter Try.func84, Try.ntmps84
    go_wp2_with fail
    go_loopg [5, 11] l.length (fun gk mv i wr => ∃ (k : Nat) (m : Int), gk = l.length - k ∧ k ≤ l.length ∧ i = .int .i64 k ∧ mv = .int .i64 m ∧ Below w.heap.size w wr)
    case atStart => exact ⟨0, 1, by omega, by omega, rfl, rfl, (Below.refl _ _).alloc (Nat.le_refl _) _⟩
    case round =>
      obtain ⟨k, m, hgk, hk, rfl, rfl, hb⟩ := hrel
      have HG := Lib.hid hgk
      clear hgk
      by_cases hlt : k < l.length
      · have hrw := HROW.out.below hb (fun b h => h.2)
        have HV := Lib.hid (hrw.2.2.1 k hlt)
        obtain ⟨b, o, rfl, _, hc0, hc1, hc2, hc3⟩ := hrw.2.1.all.val hlt vc0
        clear hrw
        generalize l.getD k vc0 = x at *
        generalize p.args.getD k val0 = v' at *
        have hbs := hb.size
        by_cases hd1 : d < 1
        · go_wp2_with fail
          go_ret
          exact ⟨⟨_, rfl⟩, hb.alloc hbs _⟩
        · have hd2 : I64 (d - 1) := by have := HD.out; unfold I64 at *; omega
          have hwr : IntKind.i64.wrap (d - 1) = d - 1 := by unfold I64 at hd2; rw [IntKind.wrap_i64]; omega
          have HT := Lib.hid (fun o => HIH.out x v' (d - 1) (wr.alloc o) _ (HV.out.below (B := w.heap.size) ((Below.refl _ _).alloc (by omega) o) fun _ h => h.2) hd2)
          clear hd2
          unfold valV at HT
          go_wp2_with fail
          refine (HT.out _).mono ?_
          rintro e w2 ⟨⟨m', rfl⟩, hb2⟩
          have HB2 := Lib.hid (show Below w.heap.size w w2 from (hb.alloc (by omega) _).trans (hb2.mono (by simp; omega)))
          clear hb2 hwr HT
          go_wp2_with fail
          go_roundg (l.length - (k + 1))
          case measure => have := HG.out; omega
          case rel => exact ⟨k + 1, _, rfl, by omega, by go_num, rfl, HB2.out⟩
      · obtain rfl : k = l.length := by omega
        go_wp2_with fail
        go_ret
        exact ⟨⟨_, rfl⟩, hb⟩
def slC (x : SlC) : List Value := [.slice x.A x.len x.cap]
theorem slC_len (x : SlC) : (slC x).length = 1 := rfl
theorem Row.sl {w : World} {B : Nat} {A : Option Addr} {l : List SlC} (h : Row w B A (flat slC l)) {i : Nat} (hi : i < l.length) :
    ∃ b o, A = some ⟨b, o, none⟩ ∧ b < B ∧ w.cell? ⟨b, o + i, none⟩ = some (.slice (l.getD i sl0).A (l.getD i sl0).len (l.getD i sl0).cap) := by
  obtain ⟨b, o, e, hb, hc⟩ := Row.elem slC_len (by decide) h (getD_some sl0 hi)
  have h0 := hc 0 _ rfl
  rw [Nat.mul_one] at h0
  exact ⟨b, o, e, hb, h0⟩
/-- A program's functions and patterns, as small reads them. -/
structure CodeIn (w : World) (B n : Nat) (q2 q6 : SlC) (fs : List FnC) (ls : List SlC) : Prop where
  flen : fs.length = q2.len
  frow : Row w B q2.A (flat fnC fs)
  fmax : q2.len ≤ maxLen
  ins : ∀ f ∈ fs, ∃ l : List IcC, l.length = f.ins.len ∧ Row w B f.ins.A (flat icC l) ∧ f.ins.len ≤ maxLen
  plen : ls.length = q6.len
  prow : Row w B q6.A (flat slC ls)
  pmax : q6.len ≤ maxLen
  pats : ∀ s ∈ ls, ∃ (l : List VC) (vs : List Val), l.length = s.len ∧ valRow w (· < B) n s.A s.cap l vs
theorem CodeIn.below {w w' : World} {B n : Nat} {q2 q6 : SlC} {fs : List FnC} {ls : List SlC} (h : CodeIn w B n q2 q6 fs ls) (hb : Below B w w') : CodeIn w' B n q2 q6 fs ls :=
  ⟨h.flen, h.frow.below hb, h.fmax, fun f hf => by
    obtain ⟨l, h1, h2, h3⟩ := h.ins f hf
    exact ⟨l, h1, h2.below hb, h3⟩, h.plen, h.prow.below hb, h.pmax, fun s hs => by
    obtain ⟨l, vs, h1, h2⟩ := h.pats s hs
    exact ⟨l, vs, h1, h2.below hb fun _ h => h⟩⟩

set_option maxRecDepth 100000 in
set_option maxHeartbeats 4000000 in
theorem small_any (B n : Nat) (q0 q1 q2 q3 q4 q5 q6 : SlC) (fs : List FnC) (ls : List SlC) (w : World) (hB : B ≤ w.heap.size) (h : CodeIn w B n q2 q6 fs ls) :
    Calls Try.prog 27 #[.agg #[.slice q0.A q0.len q0.cap, .slice q1.A q1.len q1.cap, .slice q2.A q2.len q2.cap, .slice q3.A q3.len q3.cap, .slice q4.A q4.len q4.cap, .slice q5.A q5.len q5.cap, .slice q6.A q6.len q6.cap]] w fun e w' => SomeB e ∧ Below w.heap.size w w' := by
  have HC := Lib.hid h
  have hfl := h.flen
  have hpl := h.plen
  have hfm := h.fmax
  have hpm := h.pmax
  unfold maxLen at hfm hpm
  obtain ⟨A2, n2, c2⟩ := q2
  obtain ⟨A6, n6, c6⟩ := q6
  dsimp only at hfl hpl hfm hpm
  subst hfl hpl
  clear h
  dsimp only
  go_enter Try.func27, Try.ntmps27
  go_wp2_with fail
  go_loopg [3, 38] fs.length (fun gk mv iv wr => ∃ (k : Nat) (m : Int), gk = fs.length - k ∧ k ≤ fs.length ∧ iv = .int .i64 k ∧ mv = .int .i64 m ∧ Below w.heap.size w wr ∧ Box wr w.heap.size 62 #[.slice q0.A q0.len q0.cap, .slice q1.A q1.len q1.cap, .slice A2 fs.length c2, .slice q3.A q3.len q3.cap, .slice q4.A q4.len q4.cap, .slice q5.A q5.len q5.cap, .slice A6 ls.length c6])
  case atStart => exact ⟨0, _, by omega, by omega, rfl, rfl, (Below.refl _ _).alloc (Nat.le_refl _) _, Box.new _ _ _⟩
  case round =>
    obtain ⟨k, m, hgk, hk, rfl, rfl, hb, hbx⟩ := hrel
    have HGK := Lib.hid hgk
    have HBX := Lib.hid hbx
    clear hgk hbx
    have hbs := hb.size
    by_cases hlt : k < fs.length
    · obtain ⟨p1, o1, rfl, _, hc0, hc1, hc2, hc3, hc4⟩ := ((HC.out.below (hb.mono hB)).frow).fn hlt fn0
      obtain ⟨li, hll, hrowi, hmaxi⟩ := HC.out.ins _ (getD_mem fn0 hlt)
      generalize fs.getD k fn0 = f at *
      obtain ⟨fnm, fp, fh, fr, ⟨fA, fl, fc⟩⟩ := f
      dsimp only at hc0 hc1 hc2 hc3 hc4 hll hrowi hmaxi
      subst hll
      unfold maxLen at hmaxi
      go_upto_region 5 with fail
      have hb5 := (Below.refl wr.heap.size wr).alloc (Nat.le_refl _) (.cells #[.string fnm, .int .i64 fp, .int .i64 fh, .int .i64 fr, .slice fA li.length fc] 167)
      have HBX5 := Lib.hid (HBX.out.below hb5 HBX.out.lt)
      have HF5 := Lib.hid (Box.new wr 167 #[.string fnm, .int .i64 fp, .int .i64 fh, .int .i64 fr, .slice fA li.length fc])
      have HB5 := Lib.hid (hb.trans (hb5.mono hbs))
      have hsz5 : wr.heap.size < (wr.alloc (.cells #[.string fnm, .int .i64 fp, .int .i64 fh, .int .i64 fr, .slice fA li.length fc] 167)).heap.size := by simp
      clear hb5 hc0 hc1 hc2 hc3 hc4 HBX
      generalize wr.alloc (.cells #[.string fnm, .int .i64 fp, .int .i64 fh, .int .i64 fr, .slice fA li.length fc] 167) = w5 at *
      obtain ⟨g5, hg5⟩ : ∃ g5, wr.heap.size = g5 := ⟨_, rfl⟩
      rw [hg5] at HF5 hsz5 hbs
      rw [hg5]
      clear hg5 hb
      have f4 : w5.cell? ⟨g5, 4, none⟩ = some (.slice fA li.length fc) := HF5.out.cell 4
      go_wp2_with fail
      obtain ⟨wo, hwo⟩ : ∃ wo, wo = w5 := ⟨_, rfl⟩
      subst hwo
      go_loopg [3, 51] li.length (fun gk mv iv wq => ∃ (j : Nat) (m : Int), gk = li.length - j ∧ j ≤ li.length ∧ iv = .int .i64 j ∧ mv = .int .i64 m ∧ Below wo.heap.size wo wq)
      case atStart => exact ⟨0, _, by omega, by omega, rfl, rfl, Below.refl _ _⟩
      case round =>
        obtain ⟨j, m2, hgj, hj, rfl, rfl, hbq⟩ := hrel
        have HGJ := Lib.hid hgj
        have hbqs := hbq.size
        clear hgj
        by_cases hjl : j < li.length
        · obtain ⟨p2, o2, rfl, _, e0, e1, e2, e3, e4⟩ := ((hrowi.below (HB5.out.mono hB)).below (hbq.mono (by omega))).ic hjl ic0
          generalize li.getD j ic0 = ic at *
          go_wp2_with fail
          go_roundg (li.length - (j + 1))
          case measure => have := HGJ.out; omega
          case rel => exact ⟨j + 1, _, rfl, by omega, by go_num, rfl, hbq.alloc hbqs _⟩
        · obtain rfl : j = li.length := by omega
          have HF6 := Lib.hid (HF5.out.below hbq hsz5)
          have HBX6 := Lib.hid (HBX5.out.below hbq HBX5.out.lt)
          have HB6 := Lib.hid (HB5.out.trans (hbq.mono HB5.out.size))
          have f3 : wr.cell? ⟨g5, 3, none⟩ = some (.int .i64 fr) := HF6.out.cell 3
          by_cases hfr : (100 : Int) < fr
          · go_wp2_with fail
            go_ret
            exact ⟨⟨_, rfl⟩, HB6.out⟩
          · go_wp2_with fail
            go_roundg (fs.length - (k + 1))
            case measure => have := HGK.out; omega
            case rel => exact ⟨k + 1, _, rfl, by omega, by go_num, rfl, HB6.out, HBX6.out⟩
    · obtain rfl : k = fs.length := by omega
      have b6 : wr.cell? ⟨w.heap.size, 6, none⟩ = some (.slice A6 ls.length c6) := HBX.out.cell 6
      clear hlt hk HGK
      have HBB := Lib.hid hb
      clear hb HBX
      go_wp2_with fail
      obtain ⟨wa, hwa⟩ : ∃ wa, wa = wr := ⟨_, rfl⟩
      subst hwa
      go_loopg [3, 68] ls.length (fun gk mv iv wr => ∃ (k : Nat) (m : Int), gk = ls.length - k ∧ k ≤ ls.length ∧ iv = .int .i64 k ∧ mv = .int .i64 m ∧ Below w.heap.size w wr)
      case atStart => exact ⟨0, _, by omega, by omega, rfl, rfl, HBB.out⟩
      case round =>
        obtain ⟨k, m3, hgk, hk, rfl, rfl, hb3⟩ := hrel
        have HGK := Lib.hid hgk
        have HB3 := Lib.hid hb3
        have hbs3 := hb3.size
        clear hgk HBB
        by_cases hlt : k < ls.length
        · obtain ⟨p1, o1, rfl, _, hc0⟩ := Row.sl ((HC.out.below (hb3.mono hB)).prow) hlt
          obtain ⟨lp, vs, hll, hrowp⟩ := HC.out.pats _ (getD_mem sl0 hlt)
          generalize ls.getD k sl0 = s at *
          obtain ⟨sA, sl, sc⟩ := s
          dsimp only at hc0 hll hrowp
          subst hll
          have HRP := Lib.hid hrowp
          have hlc := hrowp.2.2.2.1
          have hcm := hrowp.2.2.2.2.1
          unfold maxLen at hcm
          clear hrowp hb3
          go_wp2_with fail
          obtain ⟨wo, hwo⟩ : ∃ wo, wo = wr := ⟨_, rfl⟩
          subst hwo
          go_loopg [3, 74] lp.length (fun gk mv iv wq => ∃ (j : Nat) (m : Int), gk = lp.length - j ∧ j ≤ lp.length ∧ iv = .int .i64 j ∧ mv = .int .i64 m ∧ Below w.heap.size w wq)
          case atStart => exact ⟨0, _, by omega, by omega, rfl, rfl, HB3.out⟩
          case round =>
            obtain ⟨j, m4, hgj, hj, rfl, rfl, hbq⟩ := hrel
            have HGJ := Lib.hid hgj
            have hbqs := hbq.size
            clear hgj
            by_cases hjl : j < lp.length
            · have hrw := HRP.out.below (hbq.mono hB) (fun b h => h)
              have HV := Lib.hid (hrw.2.2.1 j hjl)
              obtain ⟨p2, o2, rfl, _, e0, e1, e2, e3⟩ := hrw.2.1.all.val hjl vc0
              clear hrw
              generalize lp.getD j vc0 = x at *
              generalize vs.getD j val0 = v at *
              have HT := Lib.hid (fun o => nodes_any n x v 200 (wr.alloc o) _ (HV.out.below (B := B) ((Below.refl _ _).alloc (by omega) o) fun _ h => h) (by unfold I64; omega))
              unfold valV at HT
              go_wp2_with fail
              refine (HT.out _).mono ?_
              rintro e w2 ⟨⟨m', rfl⟩, hb2⟩
              have HB2 := Lib.hid (show Below w.heap.size w w2 from (hbq.alloc (by omega) _).trans (hb2.mono (by simp; omega)))
              clear hb2 HT
              go_wp2_with fail
              go_roundg (lp.length - (j + 1))
              case measure => have := HGJ.out; omega
              case rel => exact ⟨j + 1, _, rfl, by omega, by go_num, rfl, HB2.out⟩
            · obtain rfl : j = lp.length := by omega
              go_wp2_with fail
              go_roundg (ls.length - (k + 1))
              case measure => have := HGK.out; omega
              case rel => exact ⟨k + 1, _, rfl, by omega, by go_num, rfl, hbq⟩
        · obtain rfl : k = ls.length := by omega
          go_wp2_with fail
          go_ret
          exact ⟨⟨_, rfl⟩, HB3.out⟩
end Go.Proofs.Ytdjahlkjfpbifaa
