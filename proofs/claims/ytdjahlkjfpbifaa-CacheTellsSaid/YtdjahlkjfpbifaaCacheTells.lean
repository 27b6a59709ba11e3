
/-
  CacheTells' walk.
-/
import Derived.Test.YtdjahlkjfpbifaaCa9
import Derived.Test.YtdjahlkjfpbifaaHeldC
import Derived.Test.YtdjahlkjfpbifaaCaAk
namespace Go.Proofs.Ytdjahlkjfpbifaa
open Go.RowKit Go.Maps Go.WideMaps

def tagL : List ByteArray := [⟨#[68]⟩, ⟨#[105, 110, 116]⟩, ⟨#[69]⟩, ⟨#[116, 101, 120, 116]⟩, ⟨#[]⟩, ⟨#[98, 111, 111, 108]⟩]
def nameL : List ByteArray := [⟨#[116, 101, 108, 108]⟩, ⟨#[115, 105, 122, 101]⟩]

theorem ClSt.far {W w : World} {cv : Array Value} {gc gm gw n1 n2 : Nat} {AI : Option Addr} {cI : Nat} {ims : List Im} {R R2 : K2 → Option (Option Addr × Nat)} {T1 T2 : K2 → List Wa} {h m : Int} (s : ClSt W w cv gc gm gw n1 n2 AI cI ims R R2 T1 T2 h m) {g : Nat} {e : TypeId} {cs : Array Value} (hb : Box w g e cs) (h1 : e ≠ 174) (h2 : e ≠ 77) : ¬ (g = gc ∨ g = gm ∨ RBlk R g) := fun e' => by
  rcases e' with e' | e' | ⟨y, p, hp, e'⟩
  · exact box_not_box hb s.ca.box h1 e'
  · exact box_not_map s.ca.rows.map hb e'
  · exact box_not_own hb (s.ca.rows.own y p hp) h2 e'
theorem u64_range (a : Int) : 0 ≤ IntKind.u64.wrap a ∧ IntKind.u64.wrap a < 18446744073709551616 := by
  unfold IntKind.wrap
  simp [IntKind.signed, IntKind.bits]
  omega
theorem tag_ix (a : Int) : ∃ r : Nat, wrap64 ((IntKind.u64.wrap a).tmod 6) = (r : Int) ∧ r < 6 := by
  obtain ⟨h1, h2⟩ := u64_range a
  obtain ⟨u, hu⟩ := Int.eq_ofNat_of_zero_le h1
  rw [hu]
  refine ⟨u % 6, ?_, Nat.mod_lt _ (by decide)⟩
  rw [show (u : Int).tmod 6 = ((u % 6 : Nat) : Int) by rw [Int.natCast_emod]; exact Int.tmod_eq_emod_of_nonneg (by omega)]
  unfold wrap64
  omega
theorem name_ix (a : Int) : ∃ r : Nat, wrap64 ((IntKind.u64.wrap a).tmod 2) = (r : Int) ∧ r < 2 := by
  obtain ⟨h1, h2⟩ := u64_range a
  obtain ⟨u, hu⟩ := Int.eq_ofNat_of_zero_le h1
  rw [hu]
  refine ⟨u % 2, ?_, Nat.mod_lt _ (by decide)⟩
  rw [show (u : Int).tmod 2 = ((u % 2 : Nat) : Int) by rw [Int.natCast_emod]; exact Int.tmod_eq_emod_of_nonneg (by omega)]
  unfold wrap64
  omega

set_option maxRecDepth 100000 in
set_option maxHeartbeats 4000000 in
theorem cacheTells_walk (B n : Nat) (q0 q1 q2 q3 q5 q6 : SlC) (A4 : Option Addr) (c4 : Nat) (ims : List Im) (fs : List FnC) (ls : List SlC) (Al : Option Addr) (cl : Nat) (al : List AkC) (W : World) (hB : B ≤ W.heap.size) (hcode : CodeIn W B n q2 q6 fs ls)
    (him : Row W W.heap.size A4 (flat imC ims)) (hA4 : A4 = none → c4 = 0) (_hic : ims.length ≤ c4) (hi4 : ims.length * 40 ≤ 140737488355328) (hal : Row W W.heap.size Al (flat akC al)) (_hac : al.length ≤ cl) (_hcl : cl ≤ maxLen) (hI : ∀ x ∈ al, I64 x.f ∧ I64 x.pc ∧ I64 x.tg) :
    Calls Try.prog 4 #[.agg #[.slice q0.A q0.len q0.cap, .slice q1.A q1.len q1.cap, .slice q2.A q2.len q2.cap, .slice q3.A q3.len q3.cap, .slice A4 ims.length c4, .slice q5.A q5.len q5.cap, .slice q6.A q6.len q6.cap], .slice Al al.length cl] W fun e w' => e = .returned (.bool true) ∧ Below W.heap.size W w' := by
  have HC := Lib.hid hcode
  have HIM := Lib.hid him
  have HAL := Lib.hid hal
  have HI := Lib.hid hI
  have hbx0 := Box.new W 62 #[.slice q0.A q0.len q0.cap, .slice q1.A q1.len q1.cap, .slice q2.A q2.len q2.cap, .slice q3.A q3.len q3.cap, .slice A4 ims.length c4, .slice q5.A q5.len q5.cap, .slice q6.A q6.len q6.cap]
  have hb0 : Below W.heap.size W (W.alloc (.cells #[.slice q0.A q0.len q0.cap, .slice q1.A q1.len q1.cap, .slice q2.A q2.len q2.cap, .slice q3.A q3.len q3.cap, .slice A4 ims.length c4, .slice q5.A q5.len q5.cap, .slice q6.A q6.len q6.cap] 62)) := (Below.refl _ _).alloc (Nat.le_refl _) _
  have HSM := Lib.hid (fun w1 (hb : Below W.heap.size W w1) => small_any B n q0 q1 q2 q3 ⟨A4, ims.length, c4⟩ q5 q6 fs ls w1 (Nat.le_trans hB hb.size) (hcode.below (hb.mono hB)))
  have HNEW := Lib.hid (fun w1 (hb : Below W.heap.size W w1) => new_any q0 q1 q2 q3 q5 q6 A4 c4 ims w1 ((him.below hb).more hb.size) hA4 hi4)
  clear hcode him hal hI
  unfold slV at HNEW
  dsimp only at HSM
  go_enter Try.func4, Try.ntmps4
  go_upto_region 1 with fail
  have HB0 := Lib.hid hb0
  have HX0 := Lib.hid hbx0
  clear hb0 hbx0
  generalize W.alloc (.cells #[.slice q0.A q0.len q0.cap, .slice q1.A q1.len q1.cap, .slice q2.A q2.len q2.cap, .slice q3.A q3.len q3.cap, .slice A4 ims.length c4, .slice q5.A q5.len q5.cap, .slice q6.A q6.len q6.cap] 62) = w1 at *
  have x0 : w1.cell? ⟨W.heap.size, 0, none⟩ = some (.slice q0.A q0.len q0.cap) := HX0.out.cell 0
  have x1 : w1.cell? ⟨W.heap.size, 1, none⟩ = some (.slice q1.A q1.len q1.cap) := HX0.out.cell 1
  have x2 : w1.cell? ⟨W.heap.size, 2, none⟩ = some (.slice q2.A q2.len q2.cap) := HX0.out.cell 2
  have x3 : w1.cell? ⟨W.heap.size, 3, none⟩ = some (.slice q3.A q3.len q3.cap) := HX0.out.cell 3
  have x4 : w1.cell? ⟨W.heap.size, 4, none⟩ = some (.slice A4 ims.length c4) := HX0.out.cell 4
  have x5 : w1.cell? ⟨W.heap.size, 5, none⟩ = some (.slice q5.A q5.len q5.cap) := HX0.out.cell 5
  have x6 : w1.cell? ⟨W.heap.size, 6, none⟩ = some (.slice q6.A q6.len q6.cap) := HX0.out.cell 6
  go_wp2_with fail
  refine (HSM.out w1 HB0.out).mono ?_
  rintro e w2 ⟨⟨qs, rfl⟩, hb2⟩
  have HB2 := Lib.hid (HB0.out.trans (hb2.mono HB0.out.size))
  have HX2 := Lib.hid (HX0.out.below hb2 HX0.out.lt)
  clear hb2 HB0 HX0 HSM x0 x1 x2 x3 x4 x5 x6
  cases qs
  case false =>
    go_wp2_with fail
    go_ret
    exact ⟨rfl, HB2.out⟩
  by_cases h100 : (100 : Int) < (al.length : Int)
  · go_wp2_with fail
    go_ret
    exact ⟨rfl, HB2.out⟩
  have h100' : ¬ 100 < al.length := by omega
  have x0 : w2.cell? ⟨W.heap.size, 0, none⟩ = some (.slice q0.A q0.len q0.cap) := HX2.out.cell 0
  have x1 : w2.cell? ⟨W.heap.size, 1, none⟩ = some (.slice q1.A q1.len q1.cap) := HX2.out.cell 1
  have x2 : w2.cell? ⟨W.heap.size, 2, none⟩ = some (.slice q2.A q2.len q2.cap) := HX2.out.cell 2
  have x3 : w2.cell? ⟨W.heap.size, 3, none⟩ = some (.slice q3.A q3.len q3.cap) := HX2.out.cell 3
  have x4 : w2.cell? ⟨W.heap.size, 4, none⟩ = some (.slice A4 ims.length c4) := HX2.out.cell 4
  have x5 : w2.cell? ⟨W.heap.size, 5, none⟩ = some (.slice q5.A q5.len q5.cap) := HX2.out.cell 5
  have x6 : w2.cell? ⟨W.heap.size, 6, none⟩ = some (.slice q6.A q6.len q6.cap) := HX2.out.cell 6
  have hmm := @run_makeMap_plain Try.prog
  go_wp2_with fail
  refine (HNEW.out w2 HB2.out).mono ?_
  rintro e w3 ⟨gc, gm, AI, cI, rfl, hca, hb3⟩
  have HB3 := Lib.hid (HB2.out.trans (hb3.mono HB2.out.size))
  have HX3 := Lib.hid (HX2.out.below hb3 HX2.out.lt)
  have HST := Lib.hid (show ClSt W (w3.alloc (.map #[] 0)) #[.slice q0.A q0.len q0.cap, .slice q1.A q1.len q1.cap, .slice q2.A q2.len q2.cap, .slice q3.A q3.len q3.cap, .slice A4 ims.length c4, .slice q5.A q5.len q5.cap, .slice q6.A q6.len q6.cap] gc gm w3.heap.size 0 0 AI cI ims (fun _ => none) (fun _ => none) (fun _ => []) (fun _ => []) 0 0 from
    ⟨HB3.out.alloc HB3.out.size _, (CaSt.low hca HB2.out.size).below ((Below.refl _ _).alloc (Nat.le_refl _) _), Rows1.made HB3.out.size, (fun b hb => by obtain ⟨y, q, hq, _⟩ := hb; cases hq), (fun e => by have := hca.rows.map.lt; omega), HX3.out.alloc _⟩)
  clear hca hb3 HX2 HB2 HX3 HB3 HNEW x0 x1 x2 x3 x4 x5 x6
  go_wp2_with fail
  clear hmm
  generalize w3.alloc (.map #[] 0) = w4 at *
  generalize w3.heap.size = gw at *
  go_loopg [34, 7, 8] al.length (fun gc' iv hv mv wr => ∃ (k : Nat) (gm n1 n2 : Nat) (R R2 : K2 → Option (Option Addr × Nat)) (T : K2 → List Wa) (hits misses : Int), gc' = al.length - k ∧ k ≤ al.length ∧ iv = .int .i64 k ∧ hv = .int .i64 hits ∧ mv = .int .i64 misses ∧ 0 ≤ hits ∧ hits ≤ k ∧ 0 ≤ misses ∧ misses ≤ k ∧ n1 ≤ k ∧ n2 ≤ 2 * k ∧ (∀ x, (T x).length ≤ 4) ∧ ClSt W wr #[.slice q0.A q0.len q0.cap, .slice q1.A q1.len q1.cap, .slice q2.A q2.len q2.cap, .slice q3.A q3.len q3.cap, .slice A4 ims.length c4, .slice q5.A q5.len q5.cap, .slice q6.A q6.len q6.cap] gc gm gw n1 n2 AI cI ims R R2 T T hits misses)
  case atStart => exact ⟨0, gm, 0, 0, _, _, _, 0, 0, by omega, by omega, rfl, rfl, rfl, by omega, by omega, by omega, by omega, by omega, by omega, fun _ => Nat.zero_le _, HST.out⟩
  case round =>
    clear HST
    obtain ⟨k, gm, n1, n2, R, R2, T, hits, misses, hgk, hk, rfl, rfl, rfl, hh1, hh2, hm1, hm2, hn1, hn2, hT4, hst⟩ := hrel
    have HGK := Lib.hid hgk
    have HS := Lib.hid hst
    have HT4 := Lib.hid hT4
    clear hgk hst hT4
    by_cases hlt : k < al.length
    · obtain ⟨p1, o1, rfl, _, e0, e1, e2, e3, e4⟩ := (HAL.out.below HS.out.bel).ak hlt ak0
      obtain ⟨hI1, hI2, hI3⟩ := HI.out _ (getD_mem ak0 hlt)
      generalize al.getD k ak0 = x at *
      obtain ⟨xf, xp, xn, xt, xg⟩ := x
      dsimp only at e0 e1 e2 e3 e4 hI1 hI2 hI3
      go_upto_region 9 with fail
      have hb5 := (Below.refl wr.heap.size wr).alloc (Nat.le_refl _) (.cells #[.int .i64 xf, .int .i64 xp, .int .i64 xn, .int .i64 xt, .bool xg] 69)
      have HS5 := Lib.hid (HS.out.below hb5)
      have HA5 := Lib.hid (Box.new wr 69 #[.int .i64 xf, .int .i64 xp, .int .i64 xn, .int .i64 xt, .bool xg])
      have hgk5 : gc < wr.heap.size := HS.out.ca.box.lt
      have hgw5 : gw < wr.heap.size := HS.out.ra.map.lt
      clear hb5 e0 e1 e2 e3 e4 HS
      generalize wr.alloc (.cells #[.int .i64 xf, .int .i64 xp, .int .i64 xn, .int .i64 xt, .bool xg] 69) = w5 at *
      obtain ⟨g10, hg10⟩ : ∃ g10, wr.heap.size = g10 := ⟨_, rfl⟩
      rw [hg10] at HA5 hgk5 hgw5
      rw [hg10]
      clear hg10
      have f4 : w5.cell? ⟨g10, 4, none⟩ = some (.bool xg) := HA5.out.cell 4
      go_upto_if 39 with fail
      go_cut [] from 40 to 42 (fun wx => ∃ gm n1 n2 R R2 T, n1 ≤ k ∧ n2 ≤ 2 * k ∧ (∀ x : K2, (T x).length ≤ 4) ∧ ClSt W wx #[.slice q0.A q0.len q0.cap, .slice q1.A q1.len q1.cap, .slice q2.A q2.len q2.cap, .slice q3.A q3.len q3.cap, .slice A4 ims.length c4, .slice q5.A q5.len q5.cap, .slice q6.A q6.len q6.cap] gc gm gw n1 n2 AI cI ims R R2 T T hits misses ∧ Box wx g10 69 #[.int .i64 xf, .int .i64 xp, .int .i64 xn, .int .i64 xt, .bool xg])
      case first =>
        cases xg with
        | true =>
          go_wp2_with fail
          refine (forget_any HS5.out.ca HS5.out.bel.size).mono ?_
          rintro e w6 ⟨⟨v, rfl⟩, ⟨gm', hgm', hca'⟩, ho⟩
          obtain ⟨w7, hclr, hs7, ho7⟩ := HS5.out.forget hca' ho hgm'
          have HS7 := Lib.hid hs7
          have HA7 := Lib.hid (ho7.box (ho.box HA5.out (fun e => by omega)) (fun e => by omega))
          clear hs7 hca' ho ho7 f4
          go_wp2_with fail
          go_meet
          exact ⟨gm', 0, 0, _, _, _, by omega, by omega, fun _ => Nat.zero_le _, HS7.out, HA7.out⟩
        | false =>
          go_wp2_with fail
          go_meet
          exact ⟨gm, n1, n2, R, R2, T, hn1, hn2, HT4.out, HS5.out, HA5.out⟩
      case rest =>
      clear HT4 HS5 HA5 f4 hn1 hn2
      clear n1 n2 R R2 T
      obtain ⟨gm, n1, n2, R, R2, T, hn1, hn2, hT4, hs6, ha6⟩ := hcut
      obtain ⟨w6, hw6⟩ : ∃ w6, w6 = wc := ⟨_, rfl⟩
      subst hw6
      have HT4 := Lib.hid hT4
      have HS6 := Lib.hid hs6
      have HA6 := Lib.hid ha6
      clear hT4 hs6 ha6
      have f0 : w6.cell? ⟨g10, 0, none⟩ = some (.int .i64 xf) := HA6.out.cell 0
      have f1 : w6.cell? ⟨g10, 1, none⟩ = some (.int .i64 xp) := HA6.out.cell 1
      have f3 : w6.cell? ⟨g10, 3, none⟩ = some (.int .i64 xt) := HA6.out.cell 3
      go_upto_region 13 with fail
      have hb7 := (Below.refl w6.heap.size w6).alloc (Nat.le_refl _) (.cells #[.int .i64 xf, .int .i64 xp] 70)
      have HS7 := Lib.hid (HS6.out.below hb7)
      have HA7 := Lib.hid (HA6.out.below hb7 HA6.out.lt)
      have HP7 := Lib.hid (Box.new w6 70 #[.int .i64 xf, .int .i64 xp])
      clear hb7 HS6 HA6 f0 f1 f3
      generalize w6.alloc (.cells #[.int .i64 xf, .int .i64 xp] 70) = w7 at *
      generalize w6.heap.size = g11 at *
      have f0 : w7.cell? ⟨g10, 0, none⟩ = some (.int .i64 xf) := HA7.out.cell 0
      have f1 : w7.cell? ⟨g10, 1, none⟩ = some (.int .i64 xp) := HA7.out.cell 1
      have f3 : w7.cell? ⟨g10, 3, none⟩ = some (.int .i64 xt) := HA7.out.cell 3
      have hlt10 : g10 < w7.heap.size := HA7.out.lt
      obtain ⟨r, hr, hr6⟩ : ∃ r : Nat, wrap64 ((IntKind.u64.wrap xt).tmod 6) = (r : Int) ∧ r < 6 := tag_ix xt
      obtain ⟨tg, htg⟩ : ∃ tg, tagL.getD r ⟨#[]⟩ = tg := ⟨_, rfl⟩
      go_cut [12] from 48 to 55 (fun v wx => ∃ g12, v = .pointer (some ⟨g12, 0, none⟩) ∧ Box wx g12 9 #[.string tg] ∧ Below w7.heap.size w7 wx)
      case first =>
        have hb8 := fun o1 o2 => ((Below.refl w7.heap.size w7).alloc (Nat.le_refl _) o1).alloc (by simp) o2
        have HB8 := Lib.hid hb8
        have HBX := Lib.hid (show ∀ o (s : ByteArray), Box ((w7.alloc o).alloc (.cells #[.string s] 9)) (w7.heap.size + 1) 9 #[.string s] from fun o s => by
          have := Box.new (w7.alloc o) 9 #[.string s]
          rw [show (w7.alloc o).heap.size = w7.heap.size + 1 by simp] at this
          exact this)
        clear hb8
        match r, hr6 with
        | 0, _ =>
          subst htg
          replace hr : wrap64 ((IntKind.u64.wrap xt).tmod 6) = (0 : Int) := hr
          go_wp2_with fail
          go_meet
          exact ⟨_, rfl, HBX.out _ _, HB8.out _ _⟩
        | 1, _ =>
          subst htg
          replace hr : wrap64 ((IntKind.u64.wrap xt).tmod 6) = (1 : Int) := hr
          go_wp2_with fail
          go_meet
          exact ⟨_, rfl, HBX.out _ _, HB8.out _ _⟩
        | 2, _ =>
          subst htg
          replace hr : wrap64 ((IntKind.u64.wrap xt).tmod 6) = (2 : Int) := hr
          go_wp2_with fail
          go_meet
          exact ⟨_, rfl, HBX.out _ _, HB8.out _ _⟩
        | 3, _ =>
          subst htg
          replace hr : wrap64 ((IntKind.u64.wrap xt).tmod 6) = (3 : Int) := hr
          go_wp2_with fail
          go_meet
          exact ⟨_, rfl, HBX.out _ _, HB8.out _ _⟩
        | 4, _ =>
          subst htg
          replace hr : wrap64 ((IntKind.u64.wrap xt).tmod 6) = (4 : Int) := hr
          go_wp2_with fail
          go_meet
          exact ⟨_, rfl, HBX.out _ _, HB8.out _ _⟩
        | 5, _ =>
          subst htg
          replace hr : wrap64 ((IntKind.u64.wrap xt).tmod 6) = (5 : Int) := hr
          go_wp2_with fail
          go_meet
          exact ⟨_, rfl, HBX.out _ _, HB8.out _ _⟩
      case rest =>
      obtain ⟨g12, rfl, hx12, hb8⟩ := hcut
      obtain ⟨w8, hw8⟩ : ∃ w8, w8 = wc := ⟨_, rfl⟩
      subst hw8
      have HS8 := Lib.hid (HS7.out.below hb8)
      have HA8 := Lib.hid (HA7.out.below hb8 HA7.out.lt)
      have HP8 := Lib.hid (HP7.out.below hb8 HP7.out.lt)
      have HX12 := Lib.hid hx12
      clear hb8 hx12 HS7 HA7 HP7 f0 f1 f3 hlt10 hr htg hr6
      go_upto_region 14 with fail
      have f1 : w8.cell? ⟨g10, 1, none⟩ = some (.int .i64 xp) := HA8.out.cell 1
      have hlt10 : g10 < w8.heap.size := HA8.out.lt
      obtain ⟨r, hr, hr2⟩ : ∃ r : Nat, wrap64 ((IntKind.u64.wrap xp).tmod 2) = (r : Int) ∧ r < 2 := name_ix xp
      obtain ⟨nm, hnm⟩ : ∃ nm, nameL.getD r ⟨#[]⟩ = nm := ⟨_, rfl⟩
      go_cut [13] from 56 to 63 (fun v wx => ∃ g13, v = .pointer (some ⟨g13, 0, none⟩) ∧ Box wx g13 9 #[.string nm] ∧ Below w8.heap.size w8 wx)
      case first =>
        have hb8 := fun o1 o2 => ((Below.refl w8.heap.size w8).alloc (Nat.le_refl _) o1).alloc (by simp) o2
        have HB8 := Lib.hid hb8
        have HBX := Lib.hid (show ∀ o (s : ByteArray), Box ((w8.alloc o).alloc (.cells #[.string s] 9)) (w8.heap.size + 1) 9 #[.string s] from fun o s => by
          have := Box.new (w8.alloc o) 9 #[.string s]
          rw [show (w8.alloc o).heap.size = w8.heap.size + 1 by simp] at this
          exact this)
        clear hb8
        match r, hr2 with
        | 0, _ =>
          subst hnm
          replace hr : wrap64 ((IntKind.u64.wrap xp).tmod 2) = (0 : Int) := hr
          go_wp2_with fail
          go_meet
          exact ⟨_, rfl, HBX.out _ _, HB8.out _ _⟩
        | 1, _ =>
          subst hnm
          replace hr : wrap64 ((IntKind.u64.wrap xp).tmod 2) = (1 : Int) := hr
          go_wp2_with fail
          go_meet
          exact ⟨_, rfl, HBX.out _ _, HB8.out _ _⟩
      case rest =>
      obtain ⟨g13, rfl, hx13, hb9⟩ := hcut
      obtain ⟨w9, hw9⟩ : ∃ w9, w9 = wc := ⟨_, rfl⟩
      subst hw9
      have HS9 := Lib.hid (HS8.out.below hb9)
      have HA9 := Lib.hid (HA8.out.below hb9 HA8.out.lt)
      have HP9 := Lib.hid (HP8.out.below hb9 HP8.out.lt)
      have HX129 := Lib.hid (HX12.out.below hb9 HX12.out.lt)
      have HX139 := Lib.hid hx13
      clear hb9 hx13 HS8 HA8 HP8 HX12 f1 hlt10 hr hnm hr2
      have f0 : w9.cell? ⟨g10, 0, none⟩ = some (.int .i64 xf) := HA9.out.cell 0
      have f1 : w9.cell? ⟨g10, 1, none⟩ = some (.int .i64 xp) := HA9.out.cell 1
      have s12 : w9.cell? ⟨g12, 0, none⟩ = some (.string tg) := HX129.out.cell 0
      have s13 : w9.cell? ⟨g13, 0, none⟩ = some (.string nm) := HX139.out.cell 0
      have hlk := look_any W.heap.size gc gm n1 AI cI ims R T hits misses xf xp hI1 hI2 nm tg w9 HS9.out.ca HS9.out.bel.size (by omega) (by unfold maxLen; omega) HT4.out hh1 (by omega) hm1 (by omega)
      obtain ⟨x, hx⟩ : ∃ x, k2 xf xp hI1 hI2 = x := ⟨_, rfl⟩
      have HKX := Lib.hid hx
      rw [hx] at hlk
      unfold LookPost at hlk
      obtain ⟨rr, hrr⟩ : ∃ rr, lookR ims (T x) nm tg = rr := ⟨_, rfl⟩
      obtain ⟨L', hL'⟩ : ∃ L', lookL ims (T x) nm tg = L' := ⟨_, rfl⟩
      obtain ⟨hit, hhit⟩ : ∃ hit, isHit (T x) tg = hit := ⟨_, rfl⟩
      rw [hrr, hL', hhit] at hlk
      have HLK := Lib.hid hlk
      have HRR := Lib.hid hrr
      have HLL := Lib.hid hL'
      have HHIT := Lib.hid hhit
      clear hlk hrr hL' hhit hx
      obtain ⟨rf, re⟩ := rr
      dsimp only at HLK
      go_wp2_with fail
      refine HLK.out.mono ?_
      rintro e w10 ⟨R', rfl, hca, ho, hR'⟩
      have HS10 := Lib.hid (HS9.out.look hca ho hR' (.inl rfl))
      have HA10 := Lib.hid (ho.box HA9.out (HS9.out.far HA9.out (by decide) (by decide)))
      have HP10 := Lib.hid (ho.box HP9.out (HS9.out.far HP9.out (by decide) (by decide)))
      have HX1210 := Lib.hid (ho.box HX129.out (HS9.out.far HX129.out (by decide) (by decide)))
      have HX1310 := Lib.hid (ho.box HX139.out (HS9.out.far HX139.out (by decide) (by decide)))
      clear hca ho hR' HLK HS9 HA9 HP9 HX129 HX139 f0 f1 s12 s13
      have p0 : w10.cell? ⟨g11, 0, none⟩ = some (.int .i64 xf) := HP10.out.cell 0
      have p1' : w10.cell? ⟨g11, 1, none⟩ = some (.int .i64 xp) := HP10.out.cell 1
      have hl2 := HS10.out.ra.look2 hI1 hI2
      rw [HKX.out] at hl2
      obtain ⟨L, hL⟩ : ∃ L, T x = L := ⟨_, rfl⟩
      have hL4 : L.length ≤ 4 := by rw [← hL]; exact HT4.out x
      obtain ⟨⟨Ar, cr⟩, har⟩ : ∃ q, rowA R2 x = q := ⟨_, rfl⟩
      have hown := HS10.out.ra.at x
      rw [hL, har] at hl2 hown
      dsimp only at hl2 hown
      have HTX := Lib.hid hL
      have HAR := Lib.hid har
      have HOWN := Lib.hid hown
      rw [hL] at HRR HLL HHIT
      clear hL har hown
      obtain ⟨ix, hix⟩ : ∃ ix, waAt L tg = ix := ⟨_, rfl⟩
      have HWA := Lib.hid hix
      have hixf := indexFunc_wa Ar cr L 32 #[.pointer (some ⟨g12, 0, none⟩)] (isTag tg) w10.heap.size (fun w' => Below w10.heap.size w10 w') w10 enters_cache1 (by unfold maxLen; omega) (fun w' hb' => HOWN.out.row.below hb')
        (fun y _ w' hb' => (cache1_any y tg g12 w' ((HX1210.out.below hb' HX1210.out.lt).cell 0) (by have := hb'.size; have := HX1210.out.lt; omega)).mono fun e w3 h3 => ⟨h3.1, hb'.trans (h3.2.mono hb'.size)⟩) (Below.refl _ _)
      unfold waAt at hix
      rw [hix] at hixf
      have HIXF := Lib.hid hixf
      clear hixf hix
      go_wp2_with fail
      refine HIXF.out.mono ?_
      rintro e w11 ⟨rfl, hb11⟩
      have HS11 := Lib.hid (HS10.out.below hb11)
      have HA11 := Lib.hid (HA10.out.below hb11 HA10.out.lt)
      have HP11 := Lib.hid (HP10.out.below hb11 HP10.out.lt)
      have HX1211 := Lib.hid (HX1210.out.below hb11 HX1210.out.lt)
      have HX1311 := Lib.hid (HX1310.out.below hb11 HX1310.out.lt)
      have HOWN11 := Lib.hid (HOWN.out.below hb11)
      clear hb11 HIXF HS10 HA10 HP10 HX1210 HX1310 HOWN p0 p1' hl2
      have x4 : w11.cell? ⟨W.heap.size, 4, none⟩ = some (.slice A4 ims.length c4) := HS11.out.bc.cell 4
      obtain ⟨jx, hjx⟩ : ∃ jx, imAt ims nm tg = jx := ⟨_, rfl⟩
      have HIMA := Lib.hid hjx
      have hjxf := indexFunc_im A4 c4 ims 34 #[.pointer (some ⟨g13, 0, none⟩), .pointer (some ⟨g12, 0, none⟩)] (isIm nm tg) W.heap.size (fun w' => Below w11.heap.size w11 w') w11 enters_cache2 (by unfold maxLen; omega) (fun w' hb' => HIM.out.below (HS11.out.bel.trans (hb'.mono HS11.out.bel.size)))
        (fun y _ w' hb' => (cache2_any y nm tg g13 g12 w' ((HX1311.out.below hb' HX1311.out.lt).cell 0) (by have := hb'.size; have := HX1311.out.lt; omega) ((HX1211.out.below hb' HX1211.out.lt).cell 0) (by have := hb'.size; have := HX1211.out.lt; omega)).mono fun e w3 h3 => ⟨h3.1, hb'.trans (h3.2.mono hb'.size)⟩) (Below.refl _ _)
      unfold imAt at hjx
      rw [hjx] at hjxf
      have HJXF := Lib.hid hjxf
      clear hjxf hjx
      go_wp2_with fail
      refine HJXF.out.mono ?_
      rintro e w12 ⟨rfl, hb12⟩
      have HS12 := Lib.hid (HS11.out.below hb12)
      have HA12 := Lib.hid (HA11.out.below hb12 HA11.out.lt)
      have HP12 := Lib.hid (HP11.out.below hb12 HP11.out.lt)
      have HX1212 := Lib.hid (HX1211.out.below hb12 HX1211.out.lt)
      have HOWN12 := Lib.hid (HOWN11.out.below hb12)
      clear hb12 HJXF HS11 HA11 HP11 HX1211 HX1311 HOWN11 x4
      go_upto_block 2 with fail
      obtain ⟨hv', hhv⟩ : ∃ hv', (if hit then hits + 1 else hits) = hv' := ⟨_, rfl⟩
      obtain ⟨mv', hmv⟩ : ∃ mv', (if hit then misses else misses + 1) = mv' := ⟨_, rfl⟩
      rw [hhv, hmv] at HS12
      have HHV := Lib.hid hhv
      have HMV := Lib.hid hmv
      have hb1 : 0 ≤ hv' ∧ hv' ≤ hits + 1 ∧ 0 ≤ mv' ∧ mv' ≤ misses + 1 := by
        rw [← hhv, ← hmv]
        cases hit with
        | true => exact ⟨show 0 ≤ hits + 1 by omega, Int.le_refl _, hm1, show misses ≤ misses + 1 by omega⟩
        | false => exact ⟨hh1, show hits ≤ hits + 1 by omega, show 0 ≤ misses + 1 by omega, Int.le_refl _⟩
      clear hhv hmv
      go_cut [7, 8] from 84 to 171 (fun a7 a8 wx => ∃ R3 n3, a7 = .int .i64 hv' ∧ a8 = .int .i64 mv' ∧ n3 ≤ n2 + 2 ∧ ClSt W wx #[.slice q0.A q0.len q0.cap, .slice q1.A q1.len q1.cap, .slice q2.A q2.len q2.cap, .slice q3.A q3.len q3.cap, .slice A4 ims.length c4, .slice q5.A q5.len q5.cap, .slice q6.A q6.len q6.cap] gc gm gw (n1 + 1) n3 AI cI ims R' R3 (updR T x L') (updR T x L') hv' mv' ∧ Box wx g10 69 #[.int .i64 xf, .int .i64 xp, .int .i64 xn, .int .i64 xt, .bool xg] ∧ Box wx g11 70 #[.int .i64 xf, .int .i64 xp])
      case first =>
        by_cases hi : 0 ≤ ix
        · obtain ⟨i, rfl⟩ := Int.eq_ofNat_of_zero_le hi
          have hil : i < L.length := by
            have h3 := HWA.out
            unfold waAt at h3
            rcases idxAt_rangeC (isTag tg) L 0 (Int.le_refl _) with h2 | h2 <;> omega
          have hrr := HRR.out
          have hll := HLL.out
          have hht := HHIT.out
          unfold lookR at hrr
          unfold lookL at hll
          unfold isHit at hht
          rw [HWA.out, if_pos hi, Int.toNat_natCast] at hrr hll
          rw [HWA.out, decide_eq_true hi] at hht
          subst hht
          obtain ⟨bA, oA, rfl, hbA, y0, y1⟩ := HOWN12.out.row.wa hil wa0
          obtain ⟨z, hz⟩ : ∃ z, L.getD i wa0 = z := ⟨_, rfl⟩
          rw [hz] at hrr y0 y1
          injection hrr with h1 h2
          subst h1 h2
          have hv1 : misses = mv' := HMV.out
          subst hv1
          have HV2 := Lib.hid (show hits + 1 = hv' from HHV.out)
          obtain ⟨LL, hLLd⟩ : ∃ LL, frontF L i = LL := ⟨_, rfl⟩
          rw [hLLd] at hll
          have HLE := Lib.hid hll
          obtain ⟨JJ, hJJ⟩ : ∃ JJ, L.take i ++ L.drop (i + 1) = JJ := ⟨_, rfl⟩
          have HJJ := Lib.hid hJJ
          have HLF := Lib.hid (show [z] ++ JJ = LL by rw [← hLLd, ← hJJ, ← hz]; rfl)
          have hLLn : LL.length = L.length := by rw [← hLLd]; exact front_len hil
          obtain ⟨m2, hm2⟩ : ∃ m2, L.length - (i + 1) = m2 := ⟨_, rfl⟩
          obtain ⟨k2, hk2⟩ : ∃ k2, cr - (i + 1) = k2 := ⟨_, rfl⟩
          obtain ⟨m3, hm3⟩ : ∃ m3, i + m2 = m3 := ⟨_, rfl⟩
          have HM3 := Lib.hid hm3
          have HN5 := Lib.hid (show 1 + m3 = LL.length by omega)
          have HL5 := Lib.hid (show LL.length ≤ 5 by omega)
          have HLT := Lib.hid (show (L.take i).length = i by rw [List.length_take]; omega)
          have HLD := Lib.hid (show (L.drop (i + 1)).length = m2 by rw [List.length_drop]; exact hm2)
          have HLJ := Lib.hid (show JJ.length = m3 by rw [← hJJ, List.length_append, HLT.out, HLD.out]; exact hm3)
          have HI0 := Lib.hid (show 0 + i ≤ 1000 by omega)
          have HI1 := Lib.hid (show i + m2 ≤ 1000 by omega)
          have HI2 := Lib.hid (show 1 + m3 ≤ 1000 by omega)
          have HN2 := Lib.hid (show n2 < maxLen by unfold maxLen; omega)
          have hcr : L.length ≤ cr := HOWN12.out.cap_le.1
          have HGW := Lib.hid (show g10 ≠ gw ∧ g11 ≠ gw from ⟨box_not_map HS12.out.ra.map HA12.out, box_not_map HS12.out.ra.map HP12.out⟩)
          obtain ⟨A2, hsl2, hrd2⟩ := wa_slice_from (some ⟨bA, oA, none⟩) L.length cr (i + 1) hil hcr
          rw [hm2, hk2] at hsl2
          have HRD2 := Lib.hid hrd2
          have HCR := Lib.hid hcr
          have hp0 : w12.cell? ⟨g11, 0, none⟩ = some (.int .i64 xf) := HP12.out.cell 0
          have hp1 : w12.cell? ⟨g11, 1, none⟩ = some (.int .i64 xp) := HP12.out.cell 1
          have hlk : (Instr.lookup 67 (.map (some gw)) (.agg #[.int .i64 xf, .int .i64 xp]) false).run Try.prog w12 = .ok (.slice (some ⟨bA, oA, none⟩) L.length cr) w12 := by
            have h1 := HS12.out.ra.look2 hI1 hI2
            rw [HKX.out, HTX.out, HAR.out] at h1
            exact h1
          have HSL2 := Lib.hid hsl2
          have hi1 : (i : Int) < (L.length : Int) := by omega
          clear hll hJJ hm2 hk2 hm3 hLLd hLLn hrd2 hcr HHV HMV HHIT hsl2
          go_upto_region 24 with fail
          clear hlk hp0 hp1 y0 y1
          have hb13 : Below w12.heap.size w12 (w12.alloc (.cells #[.string z.tag, .int .i64 z.fn] 77)) := (Below.refl _ _).alloc (Nat.le_refl _) _
          have HS13 := Lib.hid (HS12.out.below hb13)
          have HA13 := Lib.hid (HA12.out.below hb13 HA12.out.lt)
          have HP13 := Lib.hid (HP12.out.below hb13 HP12.out.lt)
          have HOWN13 := Lib.hid (HOWN12.out.below hb13)
          have HX18 := Lib.hid (Box.new w12 77 #[.string z.tag, .int .i64 z.fn])
          clear hb13 HS12 HA12 HP12 HOWN12 HX1212
          generalize w12.alloc (.cells #[.string z.tag, .int .i64 z.fn] 77) = w13 at *
          generalize w12.heap.size = g18 at *
          have HGW2 := Lib.hid (show g18 ≠ gw from box_not_map HS13.out.ra.map HX18.out)
          have HSK : Hid (∀ w', Below w13.heap.size w13 w' → Below w13.heap.size w13 w' ∧ w'.cell? ⟨g11, 0, none⟩ = some (.int .i64 xf) ∧ w'.cell? ⟨g11, 1, none⟩ = some (.int .i64 xp) ∧ w'.cell? ⟨g18, 0, none⟩ = some (.string z.tag) ∧ w'.cell? ⟨g18, 1, none⟩ = some (.int .i64 z.fn) ∧ (Instr.lookup 67 (.map (some gw)) (.agg #[.int .i64 xf, .int .i64 xp]) false).run Try.prog w' = .ok (.slice (some ⟨bA, oA, none⟩) L.length cr) w') := fun w' hb => ⟨hb, (HP13.out.below hb HP13.out.lt).cell 0, (HP13.out.below hb HP13.out.lt).cell 1, (HX18.out.below hb HX18.out.lt).cell 0, (HX18.out.below hb HX18.out.lt).cell 1, by
            have h1 := (HS13.out.below hb).ra.look2 hI1 hI2
            rw [HKX.out, HTX.out, HAR.out] at h1
            exact h1⟩
          have HRT := Lib.hid (fun (w' : World) (hb : Below w13.heap.size w13 w') => (HOWN13.out.row.below hb).takeF waC_len i)
          have HRD := Lib.hid (fun (w' : World) (hb : Below w13.heap.size w13 w') => HRD2.out w' _ L rfl (HOWN13.out.row.below hb))
          have HW13 := Lib.hid HS13.out.bel.size
          have HBD := Lib.hid (below_drewC (Below.refl w13.heap.size w13))
          have HBA := Lib.hid (show Below w13.heap.size w13 (w13.alloc (.cells #[.string z.tag, .int .i64 z.fn] 77)).drew from below_drewC ((Below.refl _ _).alloc (Nat.le_refl _) _))
          have HZA := Lib.hid (show w13.heap.size < (w13.alloc (.cells #[.string z.tag, .int .i64 z.fn] 77)).drew.heap.size from by show w13.heap.size < (w13.alloc _).heap.size; simp)
          have HLIT := Lib.hid (OwnAt.lit w13 HW13.out z).drew
          have hw1 : IntKind.i64.wrap ((i : Int) + 1) = (i : Int) + 1 := IntWalk.i64_in _ (by omega)
          have hw2 : 0 ≤ (i : Int) + 1 := by omega
          have hsl1 : ∀ w, (Instr.slice 75 (.slice (some ⟨bA, oA, none⟩) L.length cr) none (some (.int .i64 (i : Int))) none).run Try.prog w = .ok (.slice (some ⟨bA, oA, none⟩) i cr) w := fun w => wa_slice_to _ _ cr i (by have := HCR.out; omega) w
          have hsl2 : ∀ w, (Instr.slice 75 (.slice (some ⟨bA, oA, none⟩) L.length cr) (some (.int .i64 ((i : Int) + 1))) none none).run Try.prog w = .ok (.slice A2 m2 k2) w := HSL2.out
          go_cut [] from 103 to 120 (fun wx => ∃ A5 c5 w14, Below w13.heap.size w13 w14 ∧ ClSt W wx #[.slice q0.A q0.len q0.cap, .slice q1.A q1.len q1.cap, .slice q2.A q2.len q2.cap, .slice q3.A q3.len q3.cap, .slice A4 ims.length c4, .slice q5.A q5.len q5.cap, .slice q6.A q6.len q6.cap] gc gm gw (n1 + 1) (n2 + 1) AI cI ims R' (updR R2 x (some (A5, c5))) (updR T x L') (updR T x LL) hv' misses ∧ Only (· = gw) w14 wx)
          case first =>
            have hHeld := HSK.out w13.drew (below_drewC (Below.refl _ _))
            refine wp_region_C (S := (fun w' => Below w13.heap.size w13 w' ∧ w'.cell? ⟨g11, 0, none⟩ = some (.int .i64 xf) ∧ w'.cell? ⟨g11, 1, none⟩ = some (.int .i64 xp) ∧ w'.cell? ⟨g18, 0, none⟩ = some (.string z.tag) ∧ w'.cell? ⟨g18, 1, none⟩ = some (.int .i64 z.fn) ∧ (Instr.lookup 67 (.map (some gw)) (.agg #[.int .i64 xf, .int .i64 xp]) false).run Try.prog w' = .ok (.slice (some ⟨bA, oA, none⟩) L.length cr) w')) (k := 18) (by kernel_rfl) ?_
            refine wpAnyC_takeU (i := 0) (v := ?_) rfl (by kernel_rfl) (by kernel_rfl) (by kernel_rfl) (by kernel_rfl) (fun _ _ _ h => h) (Or.inl ⟨by rfl, ?_⟩) (fun _ => by assumption) ?_
            rotate_left
            · (intro w _; go_simp; (try with_reducible rfl))
            try simp only [List.getElem_toArray]
            try simp only [List.getElem_cons_succ]
            try simp only [List.getElem_cons_zero]
            try simp only [Act.put]
            try simp only [List.setIfInBounds_toArray]
            try simp only [List.set_cons_succ]
            try simp only [List.set_cons_zero]
            refine wpAnyC_take (i := 1) (v := ?_) rfl (by kernel_rfl) (by kernel_rfl) (by kernel_rfl) (by kernel_rfl) (by kernel_rfl) (fun _ _ _ h => h) (Or.inl ⟨by rfl, ?_⟩) (by assumption) ?_
            rotate_left
            · (intro w hSw; (try dsimp only at hSw); go_simp; (try with_reducible rfl))
            try simp only [List.getElem_toArray]
            try simp only [List.getElem_cons_succ]
            try simp only [List.getElem_cons_zero]
            try simp only [Act.put]
            try simp only [List.setIfInBounds_toArray]
            try simp only [List.set_cons_succ]
            try simp only [List.set_cons_zero]
            refine wpAnyC_take (i := 2) (v := ?_) rfl (by kernel_rfl) (by kernel_rfl) (by kernel_rfl) (by kernel_rfl) (by kernel_rfl) (fun _ _ _ h => h) (Or.inl ⟨by rfl, ?_⟩) (by assumption) ?_
            rotate_left
            · (intro w hSw; (try dsimp only at hSw); go_simp; (try with_reducible rfl))
            try simp only [List.getElem_toArray]
            try simp only [List.getElem_cons_succ]
            try simp only [List.getElem_cons_zero]
            try simp only [Act.put]
            try simp only [List.setIfInBounds_toArray]
            try simp only [List.set_cons_succ]
            try simp only [List.set_cons_zero]
            refine wpAnyC_takeU (i := 4) (v := ?_) rfl (by kernel_rfl) (by kernel_rfl) (by kernel_rfl) (by kernel_rfl) (fun _ _ _ h => h) (Or.inl ⟨by rfl, ?_⟩) (fun _ => by assumption) ?_
            rotate_left
            · (intro w _; go_simp; (try with_reducible rfl))
            try simp only [List.getElem_toArray]
            try simp only [List.getElem_cons_succ]
            try simp only [List.getElem_cons_zero]
            try simp only [Act.put]
            try simp only [List.setIfInBounds_toArray]
            try simp only [List.set_cons_succ]
            try simp only [List.set_cons_zero]
            refine wpAnyC_take (i := 5) (v := ?_) rfl (by kernel_rfl) (by kernel_rfl) (by kernel_rfl) (by kernel_rfl) (by kernel_rfl) (fun _ _ _ h => h) (Or.inl ⟨by rfl, ?_⟩) (by assumption) ?_
            rotate_left
            · (intro w hSw; (try dsimp only at hSw); go_simp; (try with_reducible rfl))
            try simp only [List.getElem_toArray]
            try simp only [List.getElem_cons_succ]
            try simp only [List.getElem_cons_zero]
            try simp only [Act.put]
            try simp only [List.setIfInBounds_toArray]
            try simp only [List.set_cons_succ]
            try simp only [List.set_cons_zero]
            refine wpAnyC_take (i := 6) (v := ?_) rfl (by kernel_rfl) (by kernel_rfl) (by kernel_rfl) (by kernel_rfl) (by kernel_rfl) (fun _ _ _ h => h) (Or.inl ⟨by rfl, ?_⟩) (by assumption) ?_
            rotate_left
            · (intro w hSw; (try dsimp only at hSw); go_simp; (try with_reducible rfl))
            try simp only [List.getElem_toArray]
            try simp only [List.getElem_cons_succ]
            try simp only [List.getElem_cons_zero]
            try simp only [Act.put]
            try simp only [List.setIfInBounds_toArray]
            try simp only [List.set_cons_succ]
            try simp only [List.set_cons_zero]
            refine wpAnyC_takeU (i := 7) (v := ?_) rfl (by kernel_rfl) (by kernel_rfl) (by kernel_rfl) (by kernel_rfl) (fun _ _ _ h => h) (Or.inl ⟨by rfl, ?_⟩) (fun _ => by assumption) ?_
            rotate_left
            · (intro w _; go_simp; (try with_reducible rfl))
            try simp only [List.getElem_toArray]
            try simp only [List.getElem_cons_succ]
            try simp only [List.getElem_cons_zero]
            try simp only [Act.put]
            try simp only [List.setIfInBounds_toArray]
            try simp only [List.set_cons_succ]
            try simp only [List.set_cons_zero]
            refine wpAnyC_takeU (i := 8) (v := ?_) rfl (by kernel_rfl) (by kernel_rfl) (by kernel_rfl) (by kernel_rfl) (fun _ _ _ h => h) (Or.inl ⟨by rfl, ?_⟩) (fun _ => by assumption) ?_
            rotate_left
            · (intro w _; go_simp; (try with_reducible rfl))
            try simp only [List.getElem_toArray]
            try simp only [List.getElem_cons_succ]
            try simp only [List.getElem_cons_zero]
            try simp only [Act.put]
            try simp only [List.setIfInBounds_toArray]
            try simp only [List.set_cons_succ]
            try simp only [List.set_cons_zero]
            refine wpAnyC_takeU (i := 10) (v := ?_) rfl (by kernel_rfl) (by kernel_rfl) (by kernel_rfl) (by kernel_rfl) (fun _ _ _ h => h) (Or.inl ⟨by rfl, ?_⟩) (fun _ => by assumption) ?_
            rotate_left
            · (intro w _; go_simp; (try with_reducible rfl))
            try simp only [List.getElem_toArray]
            try simp only [List.getElem_cons_succ]
            try simp only [List.getElem_cons_zero]
            try simp only [Act.put]
            try simp only [List.setIfInBounds_toArray]
            try simp only [List.set_cons_succ]
            try simp only [List.set_cons_zero]
            refine wpAnyC_take (i := 11) (v := ?_) rfl (by kernel_rfl) (by kernel_rfl) (by kernel_rfl) (by kernel_rfl) (by kernel_rfl) (fun _ _ _ h => h) (Or.inl ⟨by rfl, ?_⟩) (by assumption) ?_
            rotate_left
            · (intro w hSw; (try dsimp only at hSw); go_simp; (try with_reducible rfl))
            try simp only [List.getElem_toArray]
            try simp only [List.getElem_cons_succ]
            try simp only [List.getElem_cons_zero]
            try simp only [Act.put]
            try simp only [List.setIfInBounds_toArray]
            try simp only [List.set_cons_succ]
            try simp only [List.set_cons_zero]
            refine wpAnyC_take (i := 12) (v := ?_) rfl (by kernel_rfl) (by kernel_rfl) (by kernel_rfl) (by kernel_rfl) (by kernel_rfl) (fun _ _ _ h => h) (Or.inl ⟨by rfl, ?_⟩) (by assumption) ?_
            rotate_left
            · (intro w hSw; (try dsimp only at hSw); go_simp; (try with_reducible rfl))
            try simp only [List.getElem_toArray]
            try simp only [List.getElem_cons_succ]
            try simp only [List.getElem_cons_zero]
            try simp only [Act.put]
            try simp only [List.setIfInBounds_toArray]
            try simp only [List.set_cons_succ]
            try simp only [List.set_cons_zero]
            refine wpAnyC_takeU (i := 13) (v := ?_) rfl (by kernel_rfl) (by kernel_rfl) (by kernel_rfl) (by kernel_rfl) (fun _ _ _ h => h) (Or.inl ⟨by rfl, ?_⟩) (fun _ => by assumption) ?_
            rotate_left
            · (intro w _; go_simp; (try with_reducible rfl))
            try simp only [List.getElem_toArray]
            try simp only [List.getElem_cons_succ]
            try simp only [List.getElem_cons_zero]
            try simp only [Act.put]
            try simp only [List.setIfInBounds_toArray]
            try simp only [List.set_cons_succ]
            try simp only [List.set_cons_zero]
            refine wpAnyC_takeU (i := 14) (v := ?_) rfl (by kernel_rfl) (by kernel_rfl) (by kernel_rfl) (by kernel_rfl) (fun _ _ _ h => h) (Or.inl ⟨by rfl, ?_⟩) (fun _ => by assumption) ?_
            rotate_left
            · (intro w _; go_simp; (try with_reducible rfl))
            try simp only [List.getElem_toArray]
            try simp only [List.getElem_cons_succ]
            try simp only [List.getElem_cons_zero]
            try simp only [Act.put]
            try simp only [List.setIfInBounds_toArray]
            try simp only [List.set_cons_succ]
            try simp only [List.set_cons_zero]
            refine wpAnyC_takeU (i := 15) (v := ?_) rfl (by kernel_rfl) (by kernel_rfl) (by kernel_rfl) (by kernel_rfl) (fun _ _ _ h => h) (Or.inl ⟨by rfl, ?_⟩) (fun _ => by assumption) ?_
            rotate_left
            · (intro w _; go_simp; (try with_reducible rfl))
            try simp only [List.getElem_toArray]
            try simp only [List.getElem_cons_succ]
            try simp only [List.getElem_cons_zero]
            try simp only [Act.put]
            try simp only [List.setIfInBounds_toArray]
            try simp only [List.set_cons_succ]
            try simp only [List.set_cons_zero]
            refine wpAnyC_ready (rs := [3, 9]) (by kernel_rfl) (by simp) ?_
            refine AllReadyC.cons rfl (fun K hK => ?_) ?_
            · go_simp
              refine hK.out _ _ (fun _ => HSK.out _ HBA.out) ?_
              clear hK K
              try simp only [List.getElem_toArray]
              try simp only [List.getElem_cons_succ]
              try simp only [List.getElem_cons_zero]
              try simp only [Act.put]
              try simp only [List.setIfInBounds_toArray]
              try simp only [List.set_cons_succ]
              try simp only [List.set_cons_zero]
              refine wpAnyC_ready (rs := [9]) (by kernel_rfl) (by simp) ?_
              refine AllReadyC.cons rfl (fun K hK => ?_) AllReadyC.nil
              refine step_joinQ_wa rfl (.const (Value.slice none 0 0)) (.tmp 111) rfl W.heap.size none 0 0 [] rfl OwnAt.nil (some ⟨bA, oA, none⟩) i cr w13.heap.size (L.take i) rfl HLT.out (HRT.out _ HBA.out) HI0.out (Nat.le_trans HW13.out (HBA.out).size) i (Nat.zero_add _) (L.take i) (List.nil_append _) ?_
              intro A6 c6 w14 ho14 hon14 hA14
              have HB14 := Lib.hid (join_below (g := w13.heap.size) (fun q hq => by cases hq) HBA.out (HBA.out).size hon14)
              have HON14 := Lib.hid hon14
              have HO14 := Lib.hid ho14
              have HA6 := Lib.hid (fun q (hq : A6.map (·.block) = some q) => (hA14 q hq).resolve_left (fun e => by cases e))
              clear ho14 hon14 hA14
              refine hK.out _ _ (fun _ => HSK.out _ HB14.out) ?_
              clear hK K
              try simp only [List.getElem_toArray]
              try simp only [List.getElem_cons_succ]
              try simp only [List.getElem_cons_zero]
              try simp only [Act.put]
              try simp only [List.setIfInBounds_toArray]
              try simp only [List.set_cons_succ]
              try simp only [List.set_cons_zero]
              refine wpAnyC_ready (rs := [16]) (by kernel_rfl) (by simp) ?_
              refine AllReadyC.cons rfl (fun K hK => ?_) AllReadyC.nil
              refine step_joinQ_wa rfl (.tmp 112) (.tmp 118) rfl W.heap.size A6 i c6 (L.take i) rfl HO14.out A2 m2 k2 w13.heap.size (L.drop (i + 1)) rfl HLD.out (HRD.out _ HB14.out) HI1.out (Nat.le_trans HW13.out (HB14.out).size) m3 HM3.out JJ HJJ.out ?_
              intro A7 c7 w15 ho15 hon15 hA15
              have HB15 := Lib.hid (join_below (g := w13.heap.size) (fun q hq => Nat.le_trans (HBA.out.size) (HA6.out q hq)) HB14.out (HB14.out).size hon15)
              have HON15 := Lib.hid hon15
              have HO15 := Lib.hid ho15
              clear ho15 hon15 hA15
              refine hK.out _ _ (fun _ => HSK.out _ HB15.out) ?_
              clear hK K
              try simp only [List.getElem_toArray]
              try simp only [List.getElem_cons_succ]
              try simp only [List.getElem_cons_zero]
              try simp only [Act.put]
              try simp only [List.setIfInBounds_toArray]
              try simp only [List.set_cons_succ]
              try simp only [List.set_cons_zero]
              refine wpAnyC_ready (rs := [17]) (by kernel_rfl) (by simp) ?_
              refine AllReadyC.cons rfl (fun K hK => ?_) AllReadyC.nil
              refine step_joinQ_wa rfl (.tmp 106) (.tmp 119) rfl W.heap.size (some ⟨w13.heap.size, 0, none⟩) 1 1 [z] rfl (OwnAt.only (OwnAt.only HLIT.out HON14.out (fun b hb hb' => by cases hb')) HON15.out (fun b hb hb' => by have h0 : w13.heap.size = b := Option.some.inj hb; have h1 := HA6.out b hb'; have h2 := HZA.out; omega)) A7 m3 c7 _ JJ rfl HLJ.out (HO15.out).row HI2.out (Nat.le_trans HW13.out (HB15.out).size) LL.length HN5.out LL HLF.out ?_
              intro A8 c8 w16 ho16 hon16 hA16
              obtain ⟨w17, hrun, hs17, ho17, hb17, hA17⟩ := HS13.out.putJoin HN2.out hI1 hI2 (AO := some ⟨w13.heap.size, 0, none⟩) (fun q hq => by have h0 := Option.some.inj hq; rw [← h0]; exact Nat.le_refl _) HB15.out (A' := A8) (c' := c8) (n := LL.length) (L := LL) HL5.out rfl hon16 ho16 hA16
              rw [HKX.out] at hs17
              have HS17 := Lib.hid hs17
              have HO17 := Lib.hid ho17
              have HB17 := Lib.hid hb17
              clear hs17 ho17 hb17 hA17 ho16 hon16 hA16
              refine hK.out _ _ (fun _ => HSK.out _ HB17.out) ?_
              clear hK K
              try simp only [List.getElem_toArray]
              try simp only [List.getElem_cons_succ]
              try simp only [List.getElem_cons_zero]
              try simp only [Act.put]
              try simp only [List.setIfInBounds_toArray]
              try simp only [List.set_cons_succ]
              try simp only [List.set_cons_zero]
              refine wpAnyC_ready (rs := [18]) (by kernel_rfl) (by simp) ?_
              refine AllReadyC.cons rfl (fun K hK => ?_) AllReadyC.nil
              go_simp
              refine hK.out _ _ (fun h => by cases h) ?_
              clear hK K
              try simp only [List.getElem_toArray]
              try simp only [List.getElem_cons_succ]
              try simp only [List.getElem_cons_zero]
              try simp only [Act.put]
              try simp only [List.setIfInBounds_toArray]
              try simp only [List.set_cons_succ]
              try simp only [List.set_cons_zero]
              refine wpAnyC_done (by kernel_rfl) ?_ _
              go_wp2_with fail
              go_meet
              exact ⟨A8, c8, w16, HB17.out, HS17.out, HO17.out⟩
            refine AllReadyC.cons rfl (fun K hK => ?_) ?_
            · refine step_joinQ_wa rfl (.const (Value.slice none 0 0)) (.tmp 111) rfl W.heap.size none 0 0 [] rfl OwnAt.nil (some ⟨bA, oA, none⟩) i cr w13.heap.size (L.take i) rfl HLT.out (HRT.out _ HBD.out) HI0.out (Nat.le_trans HW13.out (HBD.out).size) i (Nat.zero_add _) (L.take i) (List.nil_append _) ?_
              intro A6 c6 w14 ho14 hon14 hA14
              have HB14 := Lib.hid (join_below (g := w13.heap.size) (fun q hq => by cases hq) HBD.out (HBD.out).size hon14)
              have HON14 := Lib.hid hon14
              have HO14 := Lib.hid ho14
              have HA6 := Lib.hid (fun q (hq : A6.map (·.block) = some q) => (hA14 q hq).resolve_left (fun e => by cases e))
              clear ho14 hon14 hA14
              have HWG14 := Lib.hid (Nat.le_trans HW13.out HB14.out.size)
              refine hK.out _ _ (fun _ => HSK.out _ HB14.out) ?_
              clear hK K
              try simp only [List.getElem_toArray]
              try simp only [List.getElem_cons_succ]
              try simp only [List.getElem_cons_zero]
              try simp only [Act.put]
              try simp only [List.setIfInBounds_toArray]
              try simp only [List.set_cons_succ]
              try simp only [List.set_cons_zero]
              refine wpAnyC_ready (rs := [3, 16]) (by kernel_rfl) (by simp) ?_
              refine AllReadyC.cons rfl (fun K hK => ?_) ?_
              · go_simp
                refine hK.out _ _ (fun _ => HSK.out _ (HB14.out.alloc HB14.out.size (.cells #[.string z.tag, .int .i64 z.fn] 77))) ?_
                clear hK K
                try simp only [List.getElem_toArray]
                try simp only [List.getElem_cons_succ]
                try simp only [List.getElem_cons_zero]
                try simp only [Act.put]
                try simp only [List.setIfInBounds_toArray]
                try simp only [List.set_cons_succ]
                try simp only [List.set_cons_zero]
                refine wpAnyC_ready (rs := [16]) (by kernel_rfl) (by simp) ?_
                refine AllReadyC.cons rfl (fun K hK => ?_) AllReadyC.nil
                refine step_joinQ_wa rfl (.tmp 112) (.tmp 118) rfl W.heap.size A6 i c6 (L.take i) rfl (HO14.out.alloc _) A2 m2 k2 w13.heap.size (L.drop (i + 1)) rfl HLD.out (HRD.out _ (HB14.out.alloc HB14.out.size (.cells #[.string z.tag, .int .i64 z.fn] 77))) HI1.out (Nat.le_trans HW13.out ((HB14.out.alloc HB14.out.size (.cells #[.string z.tag, .int .i64 z.fn] 77))).size) m3 HM3.out JJ HJJ.out ?_
                intro A7 c7 w15 ho15 hon15 hA15
                have HB15 := Lib.hid (join_below (g := w13.heap.size) (fun q hq => Nat.le_trans (HBD.out.size) (HA6.out q hq)) (HB14.out.alloc HB14.out.size (.cells #[.string z.tag, .int .i64 z.fn] 77)) ((HB14.out.alloc HB14.out.size (.cells #[.string z.tag, .int .i64 z.fn] 77))).size hon15)
                have HON15 := Lib.hid hon15
                have HO15 := Lib.hid ho15
                clear ho15 hon15 hA15
                refine hK.out _ _ (fun _ => HSK.out _ HB15.out) ?_
                clear hK K
                try simp only [List.getElem_toArray]
                try simp only [List.getElem_cons_succ]
                try simp only [List.getElem_cons_zero]
                try simp only [Act.put]
                try simp only [List.setIfInBounds_toArray]
                try simp only [List.set_cons_succ]
                try simp only [List.set_cons_zero]
                refine wpAnyC_ready (rs := [17]) (by kernel_rfl) (by simp) ?_
                refine AllReadyC.cons rfl (fun K hK => ?_) AllReadyC.nil
                refine step_joinQ_wa rfl (.tmp 106) (.tmp 119) rfl W.heap.size (some ⟨w14.heap.size, 0, none⟩) 1 1 [z] rfl (OwnAt.only (OwnAt.lit w14 HWG14.out z) HON15.out (fun b hb hb' => by have h0 : w14.heap.size = b := Option.some.inj hb; have h1 := (own_blk HO14.out hb').2; omega)) A7 m3 c7 _ JJ rfl HLJ.out (HO15.out).row HI2.out (Nat.le_trans HW13.out (HB15.out).size) LL.length HN5.out LL HLF.out ?_
                intro A8 c8 w16 ho16 hon16 hA16
                obtain ⟨w17, hrun, hs17, ho17, hb17, hA17⟩ := HS13.out.putJoin HN2.out hI1 hI2 (AO := some ⟨w14.heap.size, 0, none⟩) (fun q hq => by have h0 := Option.some.inj hq; rw [← h0]; exact HB14.out.size) HB15.out (A' := A8) (c' := c8) (n := LL.length) (L := LL) HL5.out rfl hon16 ho16 hA16
                rw [HKX.out] at hs17
                have HS17 := Lib.hid hs17
                have HO17 := Lib.hid ho17
                have HB17 := Lib.hid hb17
                clear hs17 ho17 hb17 hA17 ho16 hon16 hA16
                refine hK.out _ _ (fun _ => HSK.out _ HB17.out) ?_
                clear hK K
                try simp only [List.getElem_toArray]
                try simp only [List.getElem_cons_succ]
                try simp only [List.getElem_cons_zero]
                try simp only [Act.put]
                try simp only [List.setIfInBounds_toArray]
                try simp only [List.set_cons_succ]
                try simp only [List.set_cons_zero]
                refine wpAnyC_ready (rs := [18]) (by kernel_rfl) (by simp) ?_
                refine AllReadyC.cons rfl (fun K hK => ?_) AllReadyC.nil
                go_simp
                refine hK.out _ _ (fun h => by cases h) ?_
                clear hK K
                try simp only [List.getElem_toArray]
                try simp only [List.getElem_cons_succ]
                try simp only [List.getElem_cons_zero]
                try simp only [Act.put]
                try simp only [List.setIfInBounds_toArray]
                try simp only [List.set_cons_succ]
                try simp only [List.set_cons_zero]
                refine wpAnyC_done (by kernel_rfl) ?_ _
                go_wp2_with fail
                go_meet
                exact ⟨A8, c8, w16, HB17.out, HS17.out, HO17.out⟩
              refine AllReadyC.cons rfl (fun K hK => ?_) ?_
              · refine step_joinQ_wa rfl (.tmp 112) (.tmp 118) rfl W.heap.size A6 i c6 (L.take i) rfl HO14.out A2 m2 k2 w13.heap.size (L.drop (i + 1)) rfl HLD.out (HRD.out _ HB14.out) HI1.out (Nat.le_trans HW13.out (HB14.out).size) m3 HM3.out JJ HJJ.out ?_
                intro A7 c7 w15 ho15 hon15 hA15
                have HB15 := Lib.hid (join_below (g := w13.heap.size) (fun q hq => Nat.le_trans (HBD.out.size) (HA6.out q hq)) HB14.out (HB14.out).size hon15)
                have HON15 := Lib.hid hon15
                have HO15 := Lib.hid ho15
                clear ho15 hon15 hA15
                have HWG15 := Lib.hid (Nat.le_trans HW13.out HB15.out.size)
                refine hK.out _ _ (fun _ => HSK.out _ HB15.out) ?_
                clear hK K
                try simp only [List.getElem_toArray]
                try simp only [List.getElem_cons_succ]
                try simp only [List.getElem_cons_zero]
                try simp only [Act.put]
                try simp only [List.setIfInBounds_toArray]
                try simp only [List.set_cons_succ]
                try simp only [List.set_cons_zero]
                refine wpAnyC_ready (rs := [3]) (by kernel_rfl) (by simp) ?_
                refine AllReadyC.cons rfl (fun K hK => ?_) AllReadyC.nil
                go_simp
                refine hK.out _ _ (fun _ => HSK.out _ (HB15.out.alloc HB15.out.size (.cells #[.string z.tag, .int .i64 z.fn] 77))) ?_
                clear hK K
                try simp only [List.getElem_toArray]
                try simp only [List.getElem_cons_succ]
                try simp only [List.getElem_cons_zero]
                try simp only [Act.put]
                try simp only [List.setIfInBounds_toArray]
                try simp only [List.set_cons_succ]
                try simp only [List.set_cons_zero]
                refine wpAnyC_ready (rs := [17]) (by kernel_rfl) (by simp) ?_
                refine AllReadyC.cons rfl (fun K hK => ?_) AllReadyC.nil
                refine step_joinQ_wa rfl (.tmp 106) (.tmp 119) rfl W.heap.size (some ⟨w15.heap.size, 0, none⟩) 1 1 [z] rfl (OwnAt.lit w15 HWG15.out z) A7 m3 c7 _ JJ rfl HLJ.out ((HO15.out.alloc _)).row HI2.out (Nat.le_trans HW13.out ((HB15.out.alloc HB15.out.size (.cells #[.string z.tag, .int .i64 z.fn] 77))).size) LL.length HN5.out LL HLF.out ?_
                intro A8 c8 w16 ho16 hon16 hA16
                obtain ⟨w17, hrun, hs17, ho17, hb17, hA17⟩ := HS13.out.putJoin HN2.out hI1 hI2 (AO := some ⟨w15.heap.size, 0, none⟩) (fun q hq => by have h0 := Option.some.inj hq; rw [← h0]; exact HB15.out.size) (HB15.out.alloc HB15.out.size (.cells #[.string z.tag, .int .i64 z.fn] 77)) (A' := A8) (c' := c8) (n := LL.length) (L := LL) HL5.out rfl hon16 ho16 hA16
                rw [HKX.out] at hs17
                have HS17 := Lib.hid hs17
                have HO17 := Lib.hid ho17
                have HB17 := Lib.hid hb17
                clear hs17 ho17 hb17 hA17 ho16 hon16 hA16
                refine hK.out _ _ (fun _ => HSK.out _ HB17.out) ?_
                clear hK K
                try simp only [List.getElem_toArray]
                try simp only [List.getElem_cons_succ]
                try simp only [List.getElem_cons_zero]
                try simp only [Act.put]
                try simp only [List.setIfInBounds_toArray]
                try simp only [List.set_cons_succ]
                try simp only [List.set_cons_zero]
                refine wpAnyC_ready (rs := [18]) (by kernel_rfl) (by simp) ?_
                refine AllReadyC.cons rfl (fun K hK => ?_) AllReadyC.nil
                go_simp
                refine hK.out _ _ (fun h => by cases h) ?_
                clear hK K
                try simp only [List.getElem_toArray]
                try simp only [List.getElem_cons_succ]
                try simp only [List.getElem_cons_zero]
                try simp only [Act.put]
                try simp only [List.setIfInBounds_toArray]
                try simp only [List.set_cons_succ]
                try simp only [List.set_cons_zero]
                refine wpAnyC_done (by kernel_rfl) ?_ _
                go_wp2_with fail
                go_meet
                exact ⟨A8, c8, w16, HB17.out, HS17.out, HO17.out⟩
              exact AllReadyC.nil
            exact AllReadyC.nil
          case rest =>
          obtain ⟨A5, c5, w14, hb14, hs14, ho14⟩ := hcut
          obtain ⟨w15, hw15⟩ : ∃ w15, w15 = wc := ⟨_, rfl⟩
          subst hw15
          have HS15 := Lib.hid hs14
          have HA15 := Lib.hid (ho14.box (HA13.out.below hb14 HA13.out.lt) HGW.out.1)
          have HP15 := Lib.hid (ho14.box (HP13.out.below hb14 HP13.out.lt) HGW.out.2)
          have hx18 : w15.cell? ⟨g18, 1, none⟩ = some (.int .i64 z.fn) := (ho14.box (HX18.out.below hb14 HX18.out.lt) HGW2.out).cell 1
          clear hb14 hs14 ho14 HSK HRT HRD HBD HBA HLIT hsl1 hsl2 hw1 hw2 HS13 HA13 HP13 HOWN13 HX18
          go_wp2_with fail
          go_meet
          have h6 : Value.int .i64 (hits + 1) = .int .i64 hv' := by rw [← HV2.out]
          have h3 := HS15.out
          rw [HLE.out] at h3
          exact ⟨updR R2 x (some (A5, c5)), n2 + 1, h6, rfl, by omega, h3, HA15.out, HP15.out⟩
        by_cases hj : 0 ≤ jx
        · obtain ⟨j, rfl⟩ := Int.eq_ofNat_of_zero_le hj
          have hjl : j < ims.length := by
            have h3 := HIMA.out
            unfold imAt at h3
            rcases idxAt_rangeC (isIm nm tg) ims 0 (Int.le_refl _) with h2 | h2 <;> omega
          have hrr := HRR.out
          have hll := HLL.out
          have hht := HHIT.out
          unfold lookR at hrr
          unfold lookL at hll
          unfold isHit at hht
          rw [HWA.out, if_neg hi, HIMA.out, if_pos hj, Int.toNat_natCast] at hrr hll
          rw [HWA.out, decide_eq_false hi] at hht
          subst hht
          obtain ⟨bI, oI, rfl, hbI, _, _, e2⟩ := HIM.out.im hjl im0
          obtain ⟨fn, hfn⟩ : ∃ fn, (ims.getD j im0).fn = fn := ⟨_, rfl⟩
          rw [hfn] at hrr hll e2
          injection hrr with h1 h2
          subst h1 h2
          have hv1 : hits = hv' := HHV.out
          subst hv1
          have HV2 := Lib.hid (show misses + 1 = mv' from HMV.out)
          have HE2 := Lib.hid (fun (w' : World) (hb : Below W.heap.size W w') => (hb.cell (p := ⟨bI, oI + j * 3 + 2, none⟩) hbI).trans e2)
          obtain ⟨LL, hLLd⟩ : ∃ LL, (⟨tg, fn⟩ :: L : List Wa) = LL := ⟨_, rfl⟩
          rw [hLLd] at hll
          have HLE := Lib.hid hll
          have HLLl := Lib.hid (show 1 + L.length = LL.length by rw [← hLLd, List.length_cons]; omega)
          have HLF := Lib.hid (show ∀ A c w', OwnAt w' W.heap.size 77 2 A (1 + L.length) c (flat waC ([⟨tg, fn⟩] ++ L)) → OwnAt w' W.heap.size 77 2 A (1 + L.length) c (flat waC LL) from fun A c w' h => by rw [← hLLd]; exact h)
          have HGW := Lib.hid (show g10 ≠ gw ∧ g11 ≠ gw from ⟨box_not_map HS12.out.ra.map HA12.out, box_not_map HS12.out.ra.map HP12.out⟩)
          clear hll hfn HHV HMV HHIT e2 hLLd
          have hbO : Below w12.heap.size w12 ((w12.alloc (.cells #[.string tg, .int .i64 fn] 77)).drew) := below_drewC ((Below.refl _ _).alloc (Nat.le_refl _) _)
          have hlit : OwnAt ((w12.alloc (.cells #[.string tg, .int .i64 fn] 77)).drew) W.heap.size 77 2 (some ⟨w12.heap.size, 0, none⟩) 1 1 (flat waC [⟨tg, fn⟩]) := ⟨rfl, .inr ⟨w12.heap.size, 0, #[.string tg, .int .i64 fn], rfl, HS12.out.bel.size, Box.new w12 _ _, Nat.le_refl _, by unfold maxLen; omega, by simp, rfl⟩⟩
          have HBO := Lib.hid hbO
          have HLIT := Lib.hid hlit
          clear hbO hlit
          have HW12 := Lib.hid HS12.out.bel.size
          have HN2 := Lib.hid (show n2 < maxLen by unfold maxLen; omega)
          have HN3 := Lib.hid (show n2 + 1 < maxLen by unfold maxLen; omega)
          have HL5 := Lib.hid (show LL.length ≤ 5 by rw [← HLLl.out]; omega)
          have HN5 := HLLl
          have HLS := Lib.hid (show 1 + L.length ≤ 1000 by omega)
          have HAO := Lib.hid (show ∀ q, (some (⟨w12.heap.size, 0, none⟩ : Addr)).map (·.block) = some q → w12.heap.size ≤ q from fun q hq => by simp at hq; omega)
          have HSK : Hid (∀ w', Below w12.heap.size w12 w' → Below w12.heap.size w12 w' ∧ w'.cell? ⟨g11, 0, none⟩ = some (.int .i64 xf) ∧ w'.cell? ⟨g11, 1, none⟩ = some (.int .i64 xp) ∧ w'.cell? ⟨g12, 0, none⟩ = some (.string tg) ∧ w'.cell? ⟨W.heap.size, 4, none⟩ = some (.slice (some ⟨bI, oI, none⟩) ims.length c4) ∧ w'.cell? ⟨bI, oI + j * 3 + 2, none⟩ = some (.int .i64 fn) ∧ (Instr.lookup 67 (.map (some gw)) (.agg #[.int .i64 xf, .int .i64 xp]) false).run Try.prog w' = .ok (.slice Ar L.length cr) w') := fun w' hb => ⟨hb, (HP12.out.below hb HP12.out.lt).cell 0, (HP12.out.below hb HP12.out.lt).cell 1, (HX1212.out.below hb HX1212.out.lt).cell 0, (HS12.out.below hb).bc.cell 4, HE2.out _ (HS12.out.below hb).bel, by
            have h1 := (HS12.out.below hb).ra.look2 hI1 hI2
            rw [HKX.out, HTX.out, HAR.out] at h1
            exact h1⟩
          have hj0 : (0 : Int) ≤ (j : Int) := hj
          have hj1 : (j : Int) < (ims.length : Int) := by omega
          go_upto_region 29 with fail
          go_cut [] from 134 to 148 (fun wx => ∃ A5 c5 w13, Below w12.heap.size w12 w13 ∧ ClSt W wx #[.slice q0.A q0.len q0.cap, .slice q1.A q1.len q1.cap, .slice q2.A q2.len q2.cap, .slice q3.A q3.len q3.cap, .slice (some ⟨bI, oI, none⟩) ims.length c4, .slice q5.A q5.len q5.cap, .slice q6.A q6.len q6.cap] gc gm gw (n1 + 1) (n2 + 1) AI cI ims R' (updR R2 x (some (A5, c5))) (updR T x L') (updR T x LL) hits mv' ∧ Only (· = gw) w13 wx)
          case first =>
            have hHeld := HSK.out w12.drew (below_drewC (Below.refl _ _))
            refine wp_region_C (S := (fun w' => Below w12.heap.size w12 w' ∧ w'.cell? ⟨g11, 0, none⟩ = some (.int .i64 xf) ∧ w'.cell? ⟨g11, 1, none⟩ = some (.int .i64 xp) ∧ w'.cell? ⟨g12, 0, none⟩ = some (.string tg) ∧ w'.cell? ⟨W.heap.size, 4, none⟩ = some (.slice (some ⟨bI, oI, none⟩) ims.length c4) ∧ w'.cell? ⟨bI, oI + j * 3 + 2, none⟩ = some (.int .i64 fn) ∧ (Instr.lookup 67 (.map (some gw)) (.agg #[.int .i64 xf, .int .i64 xp]) false).run Try.prog w' = .ok (.slice Ar L.length cr) w')) (k := 15) (by kernel_rfl) ?_
            refine wpAnyC_takeU (i := 0) (v := ?_) rfl (by kernel_rfl) (by kernel_rfl) (by kernel_rfl) (by kernel_rfl) (fun _ _ _ h => h) (Or.inl ⟨by rfl, ?_⟩) (fun _ => by assumption) ?_
            rotate_left
            · (intro w _; go_simp; (try with_reducible rfl))
            try simp only [List.getElem_toArray]
            try simp only [List.getElem_cons_succ]
            try simp only [List.getElem_cons_zero]
            try simp only [Act.put]
            try simp only [List.setIfInBounds_toArray]
            try simp only [List.set_cons_succ]
            try simp only [List.set_cons_zero]
            refine wpAnyC_take (i := 1) (v := ?_) rfl (by kernel_rfl) (by kernel_rfl) (by kernel_rfl) (by kernel_rfl) (by kernel_rfl) (fun _ _ _ h => h) (Or.inl ⟨by rfl, ?_⟩) (by assumption) ?_
            rotate_left
            · (intro w hSw; (try dsimp only at hSw); go_simp; (try with_reducible rfl))
            try simp only [List.getElem_toArray]
            try simp only [List.getElem_cons_succ]
            try simp only [List.getElem_cons_zero]
            try simp only [Act.put]
            try simp only [List.setIfInBounds_toArray]
            try simp only [List.set_cons_succ]
            try simp only [List.set_cons_zero]
            refine wpAnyC_take (i := 2) (v := ?_) rfl (by kernel_rfl) (by kernel_rfl) (by kernel_rfl) (by kernel_rfl) (by kernel_rfl) (fun _ _ _ h => h) (Or.inl ⟨by rfl, ?_⟩) (by assumption) ?_
            rotate_left
            · (intro w hSw; (try dsimp only at hSw); go_simp; (try with_reducible rfl))
            try simp only [List.getElem_toArray]
            try simp only [List.getElem_cons_succ]
            try simp only [List.getElem_cons_zero]
            try simp only [Act.put]
            try simp only [List.setIfInBounds_toArray]
            try simp only [List.set_cons_succ]
            try simp only [List.set_cons_zero]
            refine wpAnyC_takeU (i := 3) (v := ?_) rfl (by kernel_rfl) (by kernel_rfl) (by kernel_rfl) (by kernel_rfl) (fun _ _ _ h => h) (Or.inl ⟨by rfl, ?_⟩) (fun _ => by assumption) ?_
            rotate_left
            · (intro w _; go_simp; (try with_reducible rfl))
            try simp only [List.getElem_toArray]
            try simp only [List.getElem_cons_succ]
            try simp only [List.getElem_cons_zero]
            try simp only [Act.put]
            try simp only [List.setIfInBounds_toArray]
            try simp only [List.set_cons_succ]
            try simp only [List.set_cons_zero]
            refine wpAnyC_take (i := 4) (v := ?_) rfl (by kernel_rfl) (by kernel_rfl) (by kernel_rfl) (by kernel_rfl) (by kernel_rfl) (fun _ _ _ h => h) (Or.inl ⟨by rfl, ?_⟩) (by assumption) ?_
            rotate_left
            · (intro w hSw; (try dsimp only at hSw); go_simp; (try with_reducible rfl))
            try simp only [List.getElem_toArray]
            try simp only [List.getElem_cons_succ]
            try simp only [List.getElem_cons_zero]
            try simp only [Act.put]
            try simp only [List.setIfInBounds_toArray]
            try simp only [List.set_cons_succ]
            try simp only [List.set_cons_zero]
            refine wpAnyC_takeU (i := 5) (v := ?_) rfl (by kernel_rfl) (by kernel_rfl) (by kernel_rfl) (by kernel_rfl) (fun _ _ _ h => h) (Or.inl ⟨by rfl, ?_⟩) (fun _ => by assumption) ?_
            rotate_left
            · (intro w _; go_simp; (try with_reducible rfl))
            try simp only [List.getElem_toArray]
            try simp only [List.getElem_cons_succ]
            try simp only [List.getElem_cons_zero]
            try simp only [Act.put]
            try simp only [List.setIfInBounds_toArray]
            try simp only [List.set_cons_succ]
            try simp only [List.set_cons_zero]
            refine wpAnyC_takeU (i := 6) (v := ?_) rfl (by kernel_rfl) (by kernel_rfl) (by kernel_rfl) (by kernel_rfl) (fun _ _ _ h => h) (Or.inl ⟨by rfl, ?_⟩) (fun _ => by assumption) ?_
            rotate_left
            · (intro w _; go_simp; (try with_reducible rfl))
            try simp only [List.getElem_toArray]
            try simp only [List.getElem_cons_succ]
            try simp only [List.getElem_cons_zero]
            try simp only [Act.put]
            try simp only [List.setIfInBounds_toArray]
            try simp only [List.set_cons_succ]
            try simp only [List.set_cons_zero]
            refine wpAnyC_takeU (i := 7) (v := ?_) rfl (by kernel_rfl) (by kernel_rfl) (by kernel_rfl) (by kernel_rfl) (fun _ _ _ h => h) (Or.inl ⟨by rfl, ?_⟩) (fun _ => by assumption) ?_
            rotate_left
            · (intro w _; go_simp; (try with_reducible rfl))
            try simp only [List.getElem_toArray]
            try simp only [List.getElem_cons_succ]
            try simp only [List.getElem_cons_zero]
            try simp only [Act.put]
            try simp only [List.setIfInBounds_toArray]
            try simp only [List.set_cons_succ]
            try simp only [List.set_cons_zero]
            refine wpAnyC_take (i := 8) (v := ?_) rfl (by kernel_rfl) (by kernel_rfl) (by kernel_rfl) (by kernel_rfl) (by kernel_rfl) (fun _ _ _ h => h) (Or.inl ⟨by rfl, ?_⟩) (by assumption) ?_
            rotate_left
            · (intro w hSw; (try dsimp only at hSw); go_simp; (try with_reducible rfl))
            try simp only [List.getElem_toArray]
            try simp only [List.getElem_cons_succ]
            try simp only [List.getElem_cons_zero]
            try simp only [Act.put]
            try simp only [List.setIfInBounds_toArray]
            try simp only [List.set_cons_succ]
            try simp only [List.set_cons_zero]
            refine wpAnyC_takeU (i := 9) (v := ?_) rfl (by kernel_rfl) (by kernel_rfl) (by kernel_rfl) (by kernel_rfl) (fun _ _ _ h => h) (Or.inl ⟨by rfl, ?_⟩) (fun _ => by assumption) ?_
            rotate_left
            · (intro w _; go_simp; (try with_reducible rfl))
            try simp only [List.getElem_toArray]
            try simp only [List.getElem_cons_succ]
            try simp only [List.getElem_cons_zero]
            try simp only [Act.put]
            try simp only [List.setIfInBounds_toArray]
            try simp only [List.set_cons_succ]
            try simp only [List.set_cons_zero]
            refine wpAnyC_takeU (i := 11) (v := ?_) rfl (by kernel_rfl) (by kernel_rfl) (by kernel_rfl) (by kernel_rfl) (fun _ _ _ h => h) (Or.inl ⟨by rfl, ?_⟩) (fun _ => by assumption) ?_
            rotate_left
            · (intro w _; go_simp; (try with_reducible rfl))
            try simp only [List.getElem_toArray]
            try simp only [List.getElem_cons_succ]
            try simp only [List.getElem_cons_zero]
            try simp only [Act.put]
            try simp only [List.setIfInBounds_toArray]
            try simp only [List.set_cons_succ]
            try simp only [List.set_cons_zero]
            refine wpAnyC_take (i := 12) (v := ?_) rfl (by kernel_rfl) (by kernel_rfl) (by kernel_rfl) (by kernel_rfl) (by kernel_rfl) (fun _ _ _ h => h) (Or.inl ⟨by rfl, ?_⟩) (by assumption) ?_
            rotate_left
            · (intro w hSw; (try dsimp only at hSw); go_simp; (try with_reducible rfl))
            try simp only [List.getElem_toArray]
            try simp only [List.getElem_cons_succ]
            try simp only [List.getElem_cons_zero]
            try simp only [Act.put]
            try simp only [List.setIfInBounds_toArray]
            try simp only [List.set_cons_succ]
            try simp only [List.set_cons_zero]
            refine wpAnyC_take (i := 13) (v := ?_) rfl (by kernel_rfl) (by kernel_rfl) (by kernel_rfl) (by kernel_rfl) (by kernel_rfl) (fun _ _ _ h => h) (Or.inl ⟨by rfl, ?_⟩) (by assumption) ?_
            rotate_left
            · (intro w hSw; (try dsimp only at hSw); go_simp; (try with_reducible rfl))
            try simp only [List.getElem_toArray]
            try simp only [List.getElem_cons_succ]
            try simp only [List.getElem_cons_zero]
            try simp only [Act.put]
            try simp only [List.setIfInBounds_toArray]
            try simp only [List.set_cons_succ]
            try simp only [List.set_cons_zero]
            refine wpAnyC_ready (rs := [10]) (by kernel_rfl) (by simp) ?_
            refine AllReadyC.cons rfl (fun K hK => ?_) AllReadyC.nil
            go_simp
            refine hK.out _ _ (fun _ => HSK.out _ HBO.out) ?_
            clear hK K
            try simp only [List.getElem_toArray]
            try simp only [List.getElem_cons_succ]
            try simp only [List.getElem_cons_zero]
            try simp only [Act.put]
            try simp only [List.setIfInBounds_toArray]
            try simp only [List.set_cons_succ]
            try simp only [List.set_cons_zero]
            refine wpAnyC_ready (rs := [14]) (by kernel_rfl) (by simp) ?_
            refine AllReadyC.cons rfl (fun K hK => ?_) AllReadyC.nil
            refine step_join_wa rfl (.tmp 144) (.tmp 147) rfl W.heap.size (some ⟨w12.heap.size, 0, none⟩) 1 1 [⟨tg, fn⟩] rfl HLIT.out Ar L.length cr w12.heap.size L rfl rfl (HOWN12.out.row.below HBO.out) HLS.out (Nat.le_trans HW12.out HBO.out.size) ?_
            intro A5 c5 w13 ho13 hon13 hA13
            obtain ⟨w14, hrun, hs14, ho14, hb14, hA5⟩ := HS12.out.putJoin HN2.out hI1 hI2 HAO.out HBO.out (A' := A5) (c' := c5) (n := 1 + L.length) (L := LL) HL5.out HN5.out hon13 (HLF.out _ _ _ ho13) hA13
            rw [HKX.out] at hs14
            have HS14 := Lib.hid hs14
            have HO14 := Lib.hid ho14
            have HB14 := Lib.hid hb14
            have HA5 := Lib.hid hA5
            clear hs14 ho14 hb14 hA5 ho13 hon13 hA13
            refine hK.out _ _ (fun _ => HSK.out _ HB14.out) ?_
            clear hK K
            try simp only [List.getElem_toArray]
            try simp only [List.getElem_cons_succ]
            try simp only [List.getElem_cons_zero]
            try simp only [Act.put]
            try simp only [List.setIfInBounds_toArray]
            try simp only [List.set_cons_succ]
            try simp only [List.set_cons_zero]
            refine wpAnyC_ready (rs := [15]) (by kernel_rfl) (by simp) ?_
            refine AllReadyC.cons rfl (fun K hK => ?_) AllReadyC.nil
            go_simp
            refine hK.out _ _ (fun h => by cases h) ?_
            clear hK K
            try simp only [List.getElem_toArray]
            try simp only [List.getElem_cons_succ]
            try simp only [List.getElem_cons_zero]
            try simp only [Act.put]
            try simp only [List.setIfInBounds_toArray]
            try simp only [List.set_cons_succ]
            try simp only [List.set_cons_zero]
            refine wpAnyC_done (by kernel_rfl) ?_ _
            go_wp2_with fail
            go_meet
            exact ⟨A5, c5, w13, HB14.out, HS14.out, HO14.out⟩
          case rest =>
          obtain ⟨A5, c5, w13, hb13, hs14, ho14⟩ := hcut
          obtain ⟨w14, hw14⟩ : ∃ w14, w14 = wc := ⟨_, rfl⟩
          subst hw14
          have HS14 := Lib.hid hs14
          have HA14 := Lib.hid (ho14.box (HA12.out.below hb13 HA12.out.lt) HGW.out.1)
          have HP14 := Lib.hid (ho14.box (HP12.out.below hb13 HP12.out.lt) HGW.out.2)
          have hown14 : OwnAt w14 W.heap.size 77 2 A5 LL.length c5 (flat waC LL) := by
            have h := hs14.ra.at x
            rw [rowA_upd, upd_at] at h
            exact h
          have HOWN14 := Lib.hid hown14
          have hc5 : LL.length ≤ c5 := hown14.cap_le.1
          clear hb13 hs14 ho14 hown14 HSK HBO HLIT HAO HLF HS12 HOWN12 HX1212 HA12 HP12 HLS HW12
          have HSK : Hid (∀ w', Below w14.heap.size w14 w' → Below w14.heap.size w14 w' ∧ w'.cell? ⟨g11, 0, none⟩ = some (.int .i64 xf) ∧ w'.cell? ⟨g11, 1, none⟩ = some (.int .i64 xp) ∧ (Instr.lookup 67 (.map (some gw)) (.agg #[.int .i64 xf, .int .i64 xp]) false).run Try.prog w' = .ok (.slice A5 LL.length c5) w') := fun w' hb => ⟨hb, (HP14.out.below hb HP14.out.lt).cell 0, (HP14.out.below hb HP14.out.lt).cell 1, by
            have h1 := (HS14.out.below hb).ra.look2 hI1 hI2
            rw [HKX.out, rowA_upd, upd_at] at h1
            exact h1⟩
          have HPUT := Lib.hid (fun k (hk : k ≤ LL.length) => show ∃ w2, (Instr.mapUpdate 67 (.map (some gw)) (.agg #[.int .i64 xf, .int .i64 xp]) (.slice A5 k c5)).run Try.prog w14.drew = .ok () w2 ∧ _ from
            HS14.out.putN (n := k) (L := LL.take k) HN3.out hI1 hI2 (by rw [List.length_take]; have := HL5.out; omega) (by rw [List.length_take]; omega) (below_drewC (Below.refl _ _)) (by rw [flat_take waC_len]; exact (HOWN14.out.shrinkD hk).drew) (fun q hq => .inl (by rw [HKX.out, rowA_upd]; exact hq)))
          go_upto_region 30 with fail
          go_cut [] from 149 to 159 (fun wx => ClSt W wx #[.slice q0.A q0.len q0.cap, .slice q1.A q1.len q1.cap, .slice q2.A q2.len q2.cap, .slice q3.A q3.len q3.cap, .slice (some ⟨bI, oI, none⟩) ims.length c4, .slice q5.A q5.len q5.cap, .slice q6.A q6.len q6.cap] gc gm gw (n1 + 1) (n2 + 1 + 1) AI cI ims R' (updR R2 x (some (A5, c5))) (updR T x L') (updR T x L') hits mv' ∧ Only (· = gw) w14.drew wx)
          case first =>
            by_cases h4 : 4 < LL.length
            · have h4i : (4 : Int) < (LL.length : Int) := by omega
              have hsl : ∀ w, (Instr.slice 75 (.slice A5 LL.length c5) none (some (.int .i64 (4 : Int))) none).run Try.prog w = .ok (.slice A5 4 c5) w := fun w => wa_slice_to A5 LL.length c5 4 (by omega) w
              obtain ⟨w15, hrun, hs15, ho15⟩ := HPUT.out 4 (by omega)
              rw [HKX.out] at hs15
              have HS15 := Lib.hid hs15
              have HO15 := Lib.hid ho15
              have HTK := Lib.hid HLE.out
              clear hs15 ho15 hc5 h4 HPUT
              have hHeld := HSK.out w14.drew (below_drewC (Below.refl _ _))
              refine wp_region_C (S := (fun w' => Below w14.heap.size w14 w' ∧ w'.cell? ⟨g11, 0, none⟩ = some (.int .i64 xf) ∧ w'.cell? ⟨g11, 1, none⟩ = some (.int .i64 xp) ∧ (Instr.lookup 67 (.map (some gw)) (.agg #[.int .i64 xf, .int .i64 xp]) false).run Try.prog w' = .ok (.slice A5 LL.length c5) w')) (k := 11) (by kernel_rfl) ?_
              refine wpAnyC_takeU (i := 0) (v := ?_) rfl (by kernel_rfl) (by kernel_rfl) (by kernel_rfl) (by kernel_rfl) (fun _ _ _ h => h) (Or.inl ⟨by rfl, ?_⟩) (fun _ => by assumption) ?_
              rotate_left
              · (intro w _; go_simp; (try with_reducible rfl))
              try simp only [List.getElem_toArray]
              try simp only [List.getElem_cons_succ]
              try simp only [List.getElem_cons_zero]
              try simp only [Act.put]
              try simp only [List.setIfInBounds_toArray]
              try simp only [List.set_cons_succ]
              try simp only [List.set_cons_zero]
              refine wpAnyC_take (i := 1) (v := ?_) rfl (by kernel_rfl) (by kernel_rfl) (by kernel_rfl) (by kernel_rfl) (by kernel_rfl) (fun _ _ _ h => h) (Or.inl ⟨by rfl, ?_⟩) (by assumption) ?_
              rotate_left
              · (intro w hSw; (try dsimp only at hSw); go_simp; (try with_reducible rfl))
              try simp only [List.getElem_toArray]
              try simp only [List.getElem_cons_succ]
              try simp only [List.getElem_cons_zero]
              try simp only [Act.put]
              try simp only [List.setIfInBounds_toArray]
              try simp only [List.set_cons_succ]
              try simp only [List.set_cons_zero]
              refine wpAnyC_takeU (i := 2) (v := ?_) rfl (by kernel_rfl) (by kernel_rfl) (by kernel_rfl) (by kernel_rfl) (fun _ _ _ h => h) (Or.inl ⟨by rfl, ?_⟩) (fun _ => by assumption) ?_
              rotate_left
              · (intro w _; go_simp; (try with_reducible rfl))
              try simp only [List.getElem_toArray]
              try simp only [List.getElem_cons_succ]
              try simp only [List.getElem_cons_zero]
              try simp only [Act.put]
              try simp only [List.setIfInBounds_toArray]
              try simp only [List.set_cons_succ]
              try simp only [List.set_cons_zero]
              refine wpAnyC_take (i := 3) (v := ?_) rfl (by kernel_rfl) (by kernel_rfl) (by kernel_rfl) (by kernel_rfl) (by kernel_rfl) (fun _ _ _ h => h) (Or.inl ⟨by rfl, ?_⟩) (by assumption) ?_
              rotate_left
              · (intro w hSw; (try dsimp only at hSw); go_simp; (try with_reducible rfl))
              try simp only [List.getElem_toArray]
              try simp only [List.getElem_cons_succ]
              try simp only [List.getElem_cons_zero]
              try simp only [Act.put]
              try simp only [List.setIfInBounds_toArray]
              try simp only [List.set_cons_succ]
              try simp only [List.set_cons_zero]
              refine wpAnyC_take (i := 4) (v := ?_) rfl (by kernel_rfl) (by kernel_rfl) (by kernel_rfl) (by kernel_rfl) (by kernel_rfl) (fun _ _ _ h => h) (Or.inl ⟨by rfl, ?_⟩) (by assumption) ?_
              rotate_left
              · (intro w hSw; (try dsimp only at hSw); go_simp; (try with_reducible rfl))
              try simp only [List.getElem_toArray]
              try simp only [List.getElem_cons_succ]
              try simp only [List.getElem_cons_zero]
              try simp only [Act.put]
              try simp only [List.setIfInBounds_toArray]
              try simp only [List.set_cons_succ]
              try simp only [List.set_cons_zero]
              refine wpAnyC_takeU (i := 5) (v := ?_) rfl (by kernel_rfl) (by kernel_rfl) (by kernel_rfl) (by kernel_rfl) (fun _ _ _ h => h) (Or.inl ⟨by rfl, ?_⟩) (fun _ => by assumption) ?_
              rotate_left
              · (intro w _; go_simp; (try with_reducible rfl))
              try simp only [List.getElem_toArray]
              try simp only [List.getElem_cons_succ]
              try simp only [List.getElem_cons_zero]
              try simp only [Act.put]
              try simp only [List.setIfInBounds_toArray]
              try simp only [List.set_cons_succ]
              try simp only [List.set_cons_zero]
              refine wpAnyC_take (i := 6) (v := ?_) rfl (by kernel_rfl) (by kernel_rfl) (by kernel_rfl) (by kernel_rfl) (by kernel_rfl) (fun _ _ _ h => h) (Or.inl ⟨by rfl, ?_⟩) (by assumption) ?_
              rotate_left
              · (intro w hSw; (try dsimp only at hSw); go_simp; (try with_reducible rfl))
              try simp only [List.getElem_toArray]
              try simp only [List.getElem_cons_succ]
              try simp only [List.getElem_cons_zero]
              try simp only [Act.put]
              try simp only [List.setIfInBounds_toArray]
              try simp only [List.set_cons_succ]
              try simp only [List.set_cons_zero]
              refine wpAnyC_take (i := 7) (v := ?_) rfl (by kernel_rfl) (by kernel_rfl) (by kernel_rfl) (by kernel_rfl) (by kernel_rfl) (fun _ _ _ h => h) (Or.inl ⟨by rfl, ?_⟩) (by assumption) ?_
              rotate_left
              · (intro w hSw; (try dsimp only at hSw); go_simp; (try with_reducible rfl))
              try simp only [List.getElem_toArray]
              try simp only [List.getElem_cons_succ]
              try simp only [List.getElem_cons_zero]
              try simp only [Act.put]
              try simp only [List.setIfInBounds_toArray]
              try simp only [List.set_cons_succ]
              try simp only [List.set_cons_zero]
              refine wpAnyC_takeU (i := 8) (v := ?_) rfl (by kernel_rfl) (by kernel_rfl) (by kernel_rfl) (by kernel_rfl) (fun _ _ _ h => h) (Or.inl ⟨by rfl, ?_⟩) (fun _ => by assumption) ?_
              rotate_left
              · (intro w _; go_simp; (try with_reducible rfl))
              try simp only [List.getElem_toArray]
              try simp only [List.getElem_cons_succ]
              try simp only [List.getElem_cons_zero]
              try simp only [Act.put]
              try simp only [List.setIfInBounds_toArray]
              try simp only [List.set_cons_succ]
              try simp only [List.set_cons_zero]
              refine wpAnyC_takeU (i := 9) (v := ?_) rfl (by kernel_rfl) (by kernel_rfl) (by kernel_rfl) (by kernel_rfl) (fun _ _ _ h => h) (Or.inl ⟨by rfl, ?_⟩) (fun _ => by assumption) ?_
              rotate_left
              · (intro w _; go_simp; (try with_reducible rfl))
              try simp only [List.getElem_toArray]
              try simp only [List.getElem_cons_succ]
              try simp only [List.getElem_cons_zero]
              try simp only [Act.put]
              try simp only [List.setIfInBounds_toArray]
              try simp only [List.set_cons_succ]
              try simp only [List.set_cons_zero]
              refine wpAnyC_takeU (i := 10) (v := ?_) rfl (by kernel_rfl) (by kernel_rfl) (by kernel_rfl) (by kernel_rfl) (fun _ _ _ h => h) (Or.inl ⟨by rfl, ?_⟩) (fun _ => by assumption) ?_
              rotate_left
              · (intro w _; go_simp; (try with_reducible rfl))
              try simp only [List.getElem_toArray]
              try simp only [List.getElem_cons_succ]
              try simp only [List.getElem_cons_zero]
              try simp only [Act.put]
              try simp only [List.setIfInBounds_toArray]
              try simp only [List.set_cons_succ]
              try simp only [List.set_cons_zero]
              refine wpAnyC_ready (rs := [11]) (by kernel_rfl) (by simp) ?_
              refine AllReadyC.cons rfl (fun K hK => ?_) AllReadyC.nil
              go_simp
              refine hK.out _ _ (fun h => by cases h) ?_
              clear hK K
              try simp only [List.getElem_toArray]
              try simp only [List.getElem_cons_succ]
              try simp only [List.getElem_cons_zero]
              try simp only [Act.put]
              try simp only [List.setIfInBounds_toArray]
              try simp only [List.set_cons_succ]
              try simp only [List.set_cons_zero]
              refine wpAnyC_done (by kernel_rfl) ?_ _
              clear hrun hsl
              go_wp2_with fail
              go_meet
              have h3 := HS15.out
              rw [upd_upd R2, upd_upd T, HTK.out] at h3
              exact ⟨h3, HO15.out⟩
            · have h4i : ¬ (4 : Int) < (LL.length : Int) := by omega
              have hsl : ∀ w, (Instr.slice 75 (.slice A5 LL.length c5) none (some (.int .i64 (LL.length : Int))) none).run Try.prog w = .ok (.slice A5 LL.length c5) w := fun w => wa_slice_to A5 LL.length c5 LL.length hc5 w
              obtain ⟨w15, hrun, hs15, ho15⟩ := HPUT.out LL.length (Nat.le_refl _)
              rw [HKX.out] at hs15
              have HS15 := Lib.hid hs15
              have HO15 := Lib.hid ho15
              have HTK := Lib.hid (show LL.take LL.length = L' by rw [← HLE.out, List.take_of_length_le (Nat.le_refl _), List.take_of_length_le (by omega)])
              clear hs15 ho15 hc5 h4 HPUT
              have hHeld := HSK.out w14.drew (below_drewC (Below.refl _ _))
              refine wp_region_C (S := (fun w' => Below w14.heap.size w14 w' ∧ w'.cell? ⟨g11, 0, none⟩ = some (.int .i64 xf) ∧ w'.cell? ⟨g11, 1, none⟩ = some (.int .i64 xp) ∧ (Instr.lookup 67 (.map (some gw)) (.agg #[.int .i64 xf, .int .i64 xp]) false).run Try.prog w' = .ok (.slice A5 LL.length c5) w')) (k := 11) (by kernel_rfl) ?_
              refine wpAnyC_takeU (i := 0) (v := ?_) rfl (by kernel_rfl) (by kernel_rfl) (by kernel_rfl) (by kernel_rfl) (fun _ _ _ h => h) (Or.inl ⟨by rfl, ?_⟩) (fun _ => by assumption) ?_
              rotate_left
              · (intro w _; go_simp; (try with_reducible rfl))
              try simp only [List.getElem_toArray]
              try simp only [List.getElem_cons_succ]
              try simp only [List.getElem_cons_zero]
              try simp only [Act.put]
              try simp only [List.setIfInBounds_toArray]
              try simp only [List.set_cons_succ]
              try simp only [List.set_cons_zero]
              refine wpAnyC_take (i := 1) (v := ?_) rfl (by kernel_rfl) (by kernel_rfl) (by kernel_rfl) (by kernel_rfl) (by kernel_rfl) (fun _ _ _ h => h) (Or.inl ⟨by rfl, ?_⟩) (by assumption) ?_
              rotate_left
              · (intro w hSw; (try dsimp only at hSw); go_simp; (try with_reducible rfl))
              try simp only [List.getElem_toArray]
              try simp only [List.getElem_cons_succ]
              try simp only [List.getElem_cons_zero]
              try simp only [Act.put]
              try simp only [List.setIfInBounds_toArray]
              try simp only [List.set_cons_succ]
              try simp only [List.set_cons_zero]
              refine wpAnyC_takeU (i := 2) (v := ?_) rfl (by kernel_rfl) (by kernel_rfl) (by kernel_rfl) (by kernel_rfl) (fun _ _ _ h => h) (Or.inl ⟨by rfl, ?_⟩) (fun _ => by assumption) ?_
              rotate_left
              · (intro w _; go_simp; (try with_reducible rfl))
              try simp only [List.getElem_toArray]
              try simp only [List.getElem_cons_succ]
              try simp only [List.getElem_cons_zero]
              try simp only [Act.put]
              try simp only [List.setIfInBounds_toArray]
              try simp only [List.set_cons_succ]
              try simp only [List.set_cons_zero]
              refine wpAnyC_take (i := 3) (v := ?_) rfl (by kernel_rfl) (by kernel_rfl) (by kernel_rfl) (by kernel_rfl) (by kernel_rfl) (fun _ _ _ h => h) (Or.inl ⟨by rfl, ?_⟩) (by assumption) ?_
              rotate_left
              · (intro w hSw; (try dsimp only at hSw); go_simp; (try with_reducible rfl))
              try simp only [List.getElem_toArray]
              try simp only [List.getElem_cons_succ]
              try simp only [List.getElem_cons_zero]
              try simp only [Act.put]
              try simp only [List.setIfInBounds_toArray]
              try simp only [List.set_cons_succ]
              try simp only [List.set_cons_zero]
              refine wpAnyC_take (i := 4) (v := ?_) rfl (by kernel_rfl) (by kernel_rfl) (by kernel_rfl) (by kernel_rfl) (by kernel_rfl) (fun _ _ _ h => h) (Or.inl ⟨by rfl, ?_⟩) (by assumption) ?_
              rotate_left
              · (intro w hSw; (try dsimp only at hSw); go_simp; (try with_reducible rfl))
              try simp only [List.getElem_toArray]
              try simp only [List.getElem_cons_succ]
              try simp only [List.getElem_cons_zero]
              try simp only [Act.put]
              try simp only [List.setIfInBounds_toArray]
              try simp only [List.set_cons_succ]
              try simp only [List.set_cons_zero]
              refine wpAnyC_takeU (i := 5) (v := ?_) rfl (by kernel_rfl) (by kernel_rfl) (by kernel_rfl) (by kernel_rfl) (fun _ _ _ h => h) (Or.inl ⟨by rfl, ?_⟩) (fun _ => by assumption) ?_
              rotate_left
              · (intro w _; go_simp; (try with_reducible rfl))
              try simp only [List.getElem_toArray]
              try simp only [List.getElem_cons_succ]
              try simp only [List.getElem_cons_zero]
              try simp only [Act.put]
              try simp only [List.setIfInBounds_toArray]
              try simp only [List.set_cons_succ]
              try simp only [List.set_cons_zero]
              refine wpAnyC_take (i := 6) (v := ?_) rfl (by kernel_rfl) (by kernel_rfl) (by kernel_rfl) (by kernel_rfl) (by kernel_rfl) (fun _ _ _ h => h) (Or.inl ⟨by rfl, ?_⟩) (by assumption) ?_
              rotate_left
              · (intro w hSw; (try dsimp only at hSw); go_simp; (try with_reducible rfl))
              try simp only [List.getElem_toArray]
              try simp only [List.getElem_cons_succ]
              try simp only [List.getElem_cons_zero]
              try simp only [Act.put]
              try simp only [List.setIfInBounds_toArray]
              try simp only [List.set_cons_succ]
              try simp only [List.set_cons_zero]
              refine wpAnyC_take (i := 7) (v := ?_) rfl (by kernel_rfl) (by kernel_rfl) (by kernel_rfl) (by kernel_rfl) (by kernel_rfl) (fun _ _ _ h => h) (Or.inl ⟨by rfl, ?_⟩) (by assumption) ?_
              rotate_left
              · (intro w hSw; (try dsimp only at hSw); go_simp; (try with_reducible rfl))
              try simp only [List.getElem_toArray]
              try simp only [List.getElem_cons_succ]
              try simp only [List.getElem_cons_zero]
              try simp only [Act.put]
              try simp only [List.setIfInBounds_toArray]
              try simp only [List.set_cons_succ]
              try simp only [List.set_cons_zero]
              refine wpAnyC_takeU (i := 8) (v := ?_) rfl (by kernel_rfl) (by kernel_rfl) (by kernel_rfl) (by kernel_rfl) (fun _ _ _ h => h) (Or.inl ⟨by rfl, ?_⟩) (fun _ => by assumption) ?_
              rotate_left
              · (intro w _; go_simp; (try with_reducible rfl))
              try simp only [List.getElem_toArray]
              try simp only [List.getElem_cons_succ]
              try simp only [List.getElem_cons_zero]
              try simp only [Act.put]
              try simp only [List.setIfInBounds_toArray]
              try simp only [List.set_cons_succ]
              try simp only [List.set_cons_zero]
              refine wpAnyC_takeU (i := 9) (v := ?_) rfl (by kernel_rfl) (by kernel_rfl) (by kernel_rfl) (by kernel_rfl) (fun _ _ _ h => h) (Or.inl ⟨by rfl, ?_⟩) (fun _ => by assumption) ?_
              rotate_left
              · (intro w _; go_simp; (try with_reducible rfl))
              try simp only [List.getElem_toArray]
              try simp only [List.getElem_cons_succ]
              try simp only [List.getElem_cons_zero]
              try simp only [Act.put]
              try simp only [List.setIfInBounds_toArray]
              try simp only [List.set_cons_succ]
              try simp only [List.set_cons_zero]
              refine wpAnyC_takeU (i := 10) (v := ?_) rfl (by kernel_rfl) (by kernel_rfl) (by kernel_rfl) (by kernel_rfl) (fun _ _ _ h => h) (Or.inl ⟨by rfl, ?_⟩) (fun _ => by assumption) ?_
              rotate_left
              · (intro w _; go_simp; (try with_reducible rfl))
              try simp only [List.getElem_toArray]
              try simp only [List.getElem_cons_succ]
              try simp only [List.getElem_cons_zero]
              try simp only [Act.put]
              try simp only [List.setIfInBounds_toArray]
              try simp only [List.set_cons_succ]
              try simp only [List.set_cons_zero]
              refine wpAnyC_ready (rs := [11]) (by kernel_rfl) (by simp) ?_
              refine AllReadyC.cons rfl (fun K hK => ?_) AllReadyC.nil
              go_simp
              refine hK.out _ _ (fun h => by cases h) ?_
              clear hK K
              try simp only [List.getElem_toArray]
              try simp only [List.getElem_cons_succ]
              try simp only [List.getElem_cons_zero]
              try simp only [Act.put]
              try simp only [List.setIfInBounds_toArray]
              try simp only [List.set_cons_succ]
              try simp only [List.set_cons_zero]
              refine wpAnyC_done (by kernel_rfl) ?_ _
              clear hrun hsl
              go_wp2_with fail
              go_meet
              have h3 := HS15.out
              rw [upd_upd R2, upd_upd T, HTK.out] at h3
              exact ⟨h3, HO15.out⟩
          case rest =>
          obtain ⟨hs15, ho15⟩ := hcut
          obtain ⟨w15, hw15⟩ : ∃ w15, w15 = wc := ⟨_, rfl⟩
          subst hw15
          have HS15 := Lib.hid hs15
          have HA15 := Lib.hid (ho15.box HA14.out.drew HGW.out.1)
          have HP15 := Lib.hid (ho15.box HP14.out.drew HGW.out.2)
          clear hs15 ho15 HSK HPUT HS14 HOWN14 HA14 HP14 hc5
          have x4 : w15.cell? ⟨W.heap.size, 4, none⟩ = some (.slice (some ⟨bI, oI, none⟩) ims.length c4) := HS15.out.bc.cell 4
          have e2 := HE2.out w15 HS15.out.bel
          go_wp2_with fail
          go_meet
          have h6 : Value.int .i64 (misses + 1) = .int .i64 mv' := by rw [← HV2.out]
          exact ⟨updR R2 x (some (A5, c5)), n2 + 1 + 1, rfl, h6, Nat.le_refl _, HS15.out, HA15.out, HP15.out⟩
        · have hrr := HRR.out
          have hll := HLL.out
          have hht := HHIT.out
          unfold lookR at hrr
          unfold lookL at hll
          unfold isHit at hht
          rw [HWA.out, if_neg hi, HIMA.out, if_neg hj] at hrr hll
          rw [HWA.out, decide_eq_false hi] at hht
          subst hht
          injection hrr with h1 h2
          subst h1 h2
          have hup : updR T x L' = T := by rw [← hll, ← HTX.out]; exact upd_same T x
          have HUP := Lib.hid hup
          have hv1 : hits = hv' := HHV.out
          have hv2 : misses + 1 = mv' := HMV.out
          subst hv1
          have HV2 := Lib.hid hv2
          clear hll hup hv2 HHV HMV
          go_wp2_with fail
          go_meet
          refine ⟨R2, n2, rfl, by rw [← HV2.out], by omega, ?_, HA12.out, HP12.out⟩
          rw [HUP.out]
          have h3 := HS12.out
          rw [HUP.out] at h3
          exact h3
      case rest =>
      clear HS12 HA12 HP12 HX1212 HOWN12 HAR HIMA HWA hi4
      obtain ⟨R3, n3, rfl, rfl, hn3, hs13, ha13, hp13⟩ := hcut
      obtain ⟨w13, hw13⟩ : ∃ w13, w13 = wc := ⟨_, rfl⟩
      subst hw13
      have HS13 := Lib.hid hs13
      have HA13 := Lib.hid ha13
      have HP13 := Lib.hid hp13
      clear hs13 ha13 hp13
      have HCT := Lib.hid (counts_any HS13.out.ca)
      go_wp2_with fail
      refine HCT.out.mono ?_
      rintro e w14 ⟨rfl, hb14⟩
      have HS14 := Lib.hid (HS13.out.below hb14)
      have HA14 := Lib.hid (HA13.out.below hb14 HA13.out.lt)
      have HP14 := Lib.hid (HP13.out.below hb14 HP13.out.lt)
      clear hb14 HS13 HA13 HP13 HCT
      have hT5 : ∀ y : K2, (updR T x L' y).length ≤ 4 := fun y => by
        unfold updR
        by_cases hy : y = x
        · rw [if_pos hy, ← HLL.out]
          exact look_len ims L nm tg hL4
        · rw [if_neg hy]
          exact HT4.out y
      have HT5 := Lib.hid hT5
      clear hT5
      obtain ⟨⟨A3, c3⟩, har⟩ : ∃ q, rowA R3 x = q := ⟨_, rfl⟩
      have hup : updR T x L' x = L' := by unfold updR; rw [if_pos rfl]
      have hL'4 : L'.length ≤ 4 := by have := HT5.out x; rw [hup] at this; exact this
      have HLK3 := Lib.hid (show ∀ w', Below w14.heap.size w14 w' → (Instr.lookup 67 (.map (some gw)) (.agg #[.int .i64 xf, .int .i64 xp]) false).run Try.prog w' = .ok (.slice A3 L'.length c3) w' from fun w' hb => by
        have h1 := (HS14.out.below hb).ra.look2 hI1 hI2
        rw [HKX.out, har, hup] at h1
        exact h1)
      have HWY := Lib.hid (show ∀ w', Below w14.heap.size w14 w' → Calls Try.prog 37 #[.pointer (some ⟨gc, 0, none⟩), .int .i64 xf, .int .i64 xp] w' fun e w2 => ∃ A c, e = .returned (.slice A L'.length c) ∧ Row w2 w2.heap.size A (flat waC L') ∧ Below w'.heap.size w' w2 from fun w' hb => by
        have h1 := ways_any (HS14.out.below hb).ca xf xp hI1 hI2
        rw [HKX.out, hup] at h1
        exact h1)
      have HR3 := Lib.hid (show ∀ w', Below w14.heap.size w14 w' → Row w' w'.heap.size A3 (flat waC L') from fun w' hb => by
        have h1 := ((HS14.out.below hb).ra.at x).row
        rw [har, hup] at h1
        exact h1)
      have hq1 : (hv' != hv') = false := by simp
      have hq2 : (mv' != mv') = false := by simp
      have HSK : Hid (∀ w', Below w14.heap.size w14 w' → Below w14.heap.size w14 w' ∧ w'.cell? ⟨g10, 0, none⟩ = some (.int .i64 xf) ∧ w'.cell? ⟨g10, 1, none⟩ = some (.int .i64 xp) ∧ w'.cell? ⟨g11, 0, none⟩ = some (.int .i64 xf) ∧ w'.cell? ⟨g11, 1, none⟩ = some (.int .i64 xp) ∧ (Instr.lookup 67 (.map (some gw)) (.agg #[.int .i64 xf, .int .i64 xp]) false).run Try.prog w' = .ok (.slice A3 L'.length c3) w') := fun w' hb => ⟨hb, (HA14.out.below hb HA14.out.lt).cell 0, (HA14.out.below hb HA14.out.lt).cell 1, (HP14.out.below hb HP14.out.lt).cell 0, (HP14.out.below hb HP14.out.lt).cell 1, HLK3.out w' hb⟩
      have hbk0 := Below.refl w14.heap.size w14
      have hm4 : L'.length ≤ maxLen := by unfold maxLen; omega
      clear hup har
      go_upto_region 34 with fail
      go_region_held3 (fun w' => Below w14.heap.size w14 w' ∧ w'.cell? ⟨g10, 0, none⟩ = some (.int .i64 xf) ∧ w'.cell? ⟨g10, 1, none⟩ = some (.int .i64 xp) ∧ w'.cell? ⟨g11, 0, none⟩ = some (.int .i64 xf) ∧ w'.cell? ⟨g11, 1, none⟩ = some (.int .i64 xp) ∧ (Instr.lookup 67 (.map (some gw)) (.agg #[.int .i64 xf, .int .i64 xp]) false).run Try.prog w' = .ok (.slice A3 L'.length c3) w')
        ((first
          | with_reducible exact HSK.out _ hbk2
          | with_reducible exact HSK.out _ hbk
          | with_reducible exact HSK.out _ (below_drewC hbk0)
          | go_keep))
        ((first
          | (go_at_call 37; refine (HWY.out _ (show Below w14.heap.size w14 _ ∧ _ by assumption).1).mono ?_; rintro e wk ⟨AW, cW, rfl, hrw, hbw⟩; have hbk := (show Below w14.heap.size w14 _ ∧ _ by assumption).1.trans (hbw.mono (show Below w14.heap.size w14 _ ∧ _ by assumption).1.size); clear hbw)
          | (go_at_call 36; refine (equal_wa AW A3 cW c3 L' L' _ _ _ hrw (HR3.out _ hbk) hm4 hm4).mono ?_; rintro e wk2 ⟨rfl, nd, rfl⟩; have hbk2 := below_drewN hbk nd)
          | fail))
      all_goals (
        have HS15 := Lib.hid (HS14.out.below hbk2)
        have hdd : decide (L' = L') = true := by simp
        clear hbk hbk2 hbk0
        go_wp2_with fail
        go_roundg (al.length - (k + 1))
        case measure => have := HGK.out; omega
        case rel => exact ⟨k + 1, gm, n1 + 1, n3, R', R3, updR T x L', hv', mv', rfl, by omega, by go_num, rfl, rfl, by omega, by omega, by omega, by omega, by omega, by omega, HT5.out, HS15.out⟩)
    · obtain rfl : k = al.length := by omega
      go_wp2_with fail
      go_ret
      exact ⟨rfl, HS.out.bel⟩
end Go.Proofs.Ytdjahlkjfpbifaa
