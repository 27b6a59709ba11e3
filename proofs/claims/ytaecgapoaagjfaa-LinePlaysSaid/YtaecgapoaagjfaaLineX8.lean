/-
  One end: a packet that came.
-/
import Derived.Test.YtaecgapoaagjfaaLineX7
namespace Go.Proofs.Ytaecgapoaagjfaa
open Go.RowKit

set_option maxRecDepth 100000 in
set_option maxHeartbeats 400000 in
theorem clone_pend (A : Option Addr) (c : Nat) (xs : List (PC)) (B : Nat) (w : World) (hr : Row w B A (flat pendC xs)) (hA : A = none → c = 0) (hm : xs.length * 32 ≤ 140737488355328) :
    Calls Try.prog 169 #[.slice A xs.length c] w fun e w' => ∃ v, e = .returned v ∧ w'.ownsRow w.heap.size 279 2 v xs.length (flat pendC xs) ∧ Below w.heap.size w w' := by
  rcases A with _ | ad
  · obtain rfl := hA rfl
    have hx : xs = [] := by
      rcases xs with _ | ⟨x, r⟩
      · rfl
      · obtain ⟨b, o, h, _⟩ := hr (by rw [flat_len pendC_len]; simp)
        cases h
    subst hx
    have he := fun w => Lib.run_eql_slice_nil (P := Try.prog) w 274 279 none 0 0 0 0 Try.underlying274
    go_enter Try.func169, Try.ntmps169
    go_wp2_with fail
    go_ret
    exact ⟨_, rfl, World.ownsRow_nil _ _ _ _, Below.refl _ _⟩
  · have he := fun w => Lib.run_eql_slice_nil (P := Try.prog) w 274 279 (some ad) xs.length c 0 0 Try.underlying274
    obtain ⟨i0, z0, hi0, hz0, hz1, hz2, hz3⟩ := pend_parts
    have hnews : ∀ j u, (flat pendC xs)[j]? = some u → (w.alloc (.cells ⟨[]⟩ 279)).cell? (ad.add j) = some u := by
      intro j u hu
      have hj : j < (flat pendC xs).length := (List.getElem?_eq_some_iff.1 hu).1
      obtain ⟨b, o, e, _, hc⟩ := hr (by omega)
      injection e with e
      subst e
      have h1 := hc j u hu
      rw [addr_add, World.cell?_alloc_lt w _ ⟨b, o + j, none⟩ (lt_of_cell h1)]
      exact h1
    have HN := Lib.hid hnews
    have HO := Lib.hid (pend_one_all xs)
    have hown : (w.alloc (.cells ⟨[]⟩ 279)).ownsRow w.heap.size 279 2 (.slice (some ⟨w.heap.size, 0, none⟩) 0 0) 0 [] := World.ownsRow_lit w ⟨[]⟩ 0 (Nat.le_refl _) (Nat.zero_le _) rfl
    have HW := Lib.hid hown
    have HB := Lib.hid (show Below w.heap.size w (w.alloc (.cells ⟨[]⟩ 279)) from (Below.refl _ _).alloc (Nat.le_refl _) _)
    clear hnews hown hr hA
    go_enter Try.func169, Try.ntmps169
    go_wp2_with (at_builtin; refine wpList_append_own _ rfl (.tmp 5) (.tmp 6) _ rfl w.heap.size 279 i0 z0 2 32 Try.underlying274 hi0 hz0 hz1 hz2 hz3 (by decide) _ 0 [] rfl HW.out ad xs.length c (flat pendC xs) rfl (flat_len pendC_len xs) HN.out HO.out (by unfold maxLen; omega) (by omega) (by simp) ?_; intro v' w1 hown' hg' _)
    go_ret
    refine ⟨v', rfl, by simpa using hown', HB.out.grown hg' (by simp) (fun k hk => ?_)⟩
    have hk' := (HW.out.lt k hk).1
    exact hk'

/-- the slice without its first k elements -/
theorem OwnAt.tails {w : World} {base : Nat} {e : TypeId} {size n cap : Nat} {xs : List Value} {P : Program} {t : TypeId} {i : TypeInfo} (ht : P.underlying t = some (.slice e)) (hi : P.info? e = some i) (hsz : i.size = size) {g o : Nat} (h : OwnAt w base e size (some ⟨g, o, none⟩) n cap xs) {k : Nat} (hk : k ≤ n) :
    ∃ o', (∀ w, (Instr.slice t (.slice (some ⟨g, o, none⟩) n cap) (some (.int .i64 k)) none none).run P w = .ok (.slice (some ⟨g, o', none⟩) (n - k) (cap - k)) w) ∧ Row w w.heap.size (some ⟨g, o', none⟩) (xs.drop (k * size)) := by
  have he : P.elem t = e := by simp [Program.elem, ht]
  have hr : ∀ w, (Instr.slice t (.slice (some ⟨g, o, none⟩) n cap) (some (.int .i64 k)) none none).run P w = .ok (sliced (some ⟨g, o, none⟩) k n cap size) w := fun w => by
    rw [run_slice_l w t _ n cap (by rw [he]; exact ht) .i64 k (by omega) (by omega), he]
    simp [sizeOf, typeInfo, hi, hsz]
  by_cases hc : cap = k
  · refine ⟨o, fun w => ?_, ?_⟩
    · rw [hr]; simp [sliced, hc]
    · have hcl := h.cap_le
      rw [List.drop_of_length_le (by rw [h.1]; exact Nat.mul_le_mul_right _ (by omega))]
      exact Row.nil
  · refine ⟨o + k * size, fun w => ?_, (h.cut hk).row⟩
    rw [hr]; simp only [sliced, if_neg hc, Option.map_some, addr_add]
section
variable {w w' : World} {B0 g m : Nat} {s : LS} {r : LR} {f : Nat → Nat}
/-- The rest of those that wait, copied. -/
theorem LineAt.rest (h : LineAt w B0 g m s r f) (hB : B0 ≤ w.heap.size) {k : Nat} (hk : k ≤ r.l1.length) {v : Value} (hown : w'.ownsRow w.heap.size 279 2 v (r.l1.drop k).length (flat pendC (r.l1.drop k))) (hb : Below w.heap.size w w') :
    ∃ A c f', v = .slice A (r.l1.length - k) c ∧ LineAt (w'.setCell ⟨g, 4, none⟩ v) B0 g m { s with Q := s.Q.drop k } { r with A1 := A, c1 := c, l1 := r.l1.drop k } f' := by
  obtain ⟨A, c, rfl, ho⟩ := OwnAt.of_own hown
  have hnew : ∀ b, blk A b → w.heap.size ≤ b := fun b hb' => by
    rcases ho.form with ⟨rfl, _⟩ | ⟨g1, o1, rfl⟩
    · cases hb'
    · simp [blk] at hb'; subst hb'; exact ho.lt.1
  have hQ := h.o1.1
  refine ⟨A, c, lab f w.heap.size 3 A, by rw [List.length_drop], ?_⟩
  have hmk : pendMk w' B0 (fun b => lab0 f w.heap.size b = 0) 0 A c (r.l1.drop k) (s.Q.drop k) := by
    refine ⟨by simp [hQ], ho.lower hB, fun i hi => ?_⟩
    have hi' : k + i < r.l1.length := by simp at hi; omega
    have h1 := h.o1.2.2 (k + i) hi'
    rw [show (r.l1.drop k).getD i pc0 = r.l1.getD (k + i) pc0 by simp [List.getD_eq_getElem?_getD], show (s.Q.drop k).getD i ([], false) = s.Q.getD (k + i) ([], false) by simp [List.getD_eq_getElem?_getD]]
    exact h1.lt.keep (fun p hp => hb.cell hp.2) fun b hp => ⟨by show lab0 f w.heap.size b = 0; unfold lab0; rw [if_pos hp.2]; exact hp.1.1, fun e => by
      have := hnew b e
      have := hp.2
      omega⟩
  exact h.put1 (Only.of_below hb) hmk (fun b hb' => .inr (hnew b hb'))
end

section
variable {w w1 : World} {B0 g m : Nat} {s : LS} {r : LR} {f : Nat → Nat}
/-- The row of what came in, behind a copy and one more alloc. -/
theorem LineAt.wait2 (h : LineAt w B0 g m s r f) (hb : Below w.heap.size w w1) (o : Obj) : bodyMk (w1.alloc o) B0 (fun b => lab0 f w.heap.size b = 0) 0 r.A2 r.c2 r.l2 s.I := by
  refine h.o2.only (T := fun _ => False) ?_ (fun _ _ h => h) (fun b hb hl => ⟨fun h => h, by show lab0 f w.heap.size b = 0; unfold lab0; rw [if_pos hl]; exact hb⟩)
  exact (Only.of_below hb).alloc o
theorem LineAt.fresh2 (h : LineAt w B0 g m s r f) {y : BC} {bs : Body} (hy : BIn w1 (w.heap.size ≤ ·) 0 y bs) (o : Obj) : BIn (w1.alloc o) (Off (fun b => lab0 f w.heap.size b = 0) r.A2) 0 y bs :=
  hy.lt.keep (fun p hp => World.cell?_alloc_lt w1 o p hp.2) fun b hp => ⟨by
    have h1 : w.heap.size ≤ b := hp.1
    show lab0 f w.heap.size b = 0
    unfold lab0
    rw [if_neg (by omega)], fun e => by
    have h1 : w.heap.size ≤ b := hp.1
    have := blk_lt h.o2.2.1 (show blk r.A2 b from e)
    omega⟩
theorem LineAt.turned2 (h : LineAt w B0 g m s r f) (hb : Below w.heap.size w w1) (o : Obj) {w3 : World} (ho : Only (fun b => r.A2.map (·.block) = some b) (w1.alloc o) w3) : Only (fun b => f b = 4) w w3 :=
  ((Only.of_below hb).alloc o).trans (ho.more fun b hb => h.f2 b hb)
end

/-- The signed difference of two numbers of 32 bits. -/
def sdiff (a b : Int) : Int := if (a - b) % 4294967296 < 2147483648 then (a - b) % 4294967296 else (a - b) % 4294967296 - 4294967296
def ackX (s : LS) (p : Pkt) : LS :=
  if 1 ≤ sdiff p.ack s.base ∧ sdiff p.ack s.base ≤ s.Q.length then { s with Q := s.Q.drop (sdiff p.ack s.base).toNat, base := p.ack, lim := p.window }
  else if sdiff p.ack s.base = 0 then { s with lim := if s.lim < p.window then p.window else s.lim } else s
def bodyX (s : LS) (p : Pkt) : LS :=
  if p.has = true then (if p.seq = s.want ∧ (s.I.length : Int) < s.win then { s with due := true, I := s.I ++ [p.body], want := u32 (s.want + 1) } else { s with due := true }) else s

set_option maxRecDepth 100000 in
set_option maxHeartbeats 4000000 in
theorem come_x (B0 g m : Nat) (s : LS) (r : LR) (f : Nat → Nat) (x : KC) (p : Pkt) (w : World) (h : LineAt w B0 g m s r f) (hx : KIn w (· < B0) 0 x p) (hB : B0 ≤ w.heap.size) (hl : s.Q.length ≤ 16) (hI : s.I.length ≤ 16) (hw1 : 0 ≤ p.window) (hw2 : p.window ≤ 16) (hbs : p.body.length ≤ 1048576) :
    Calls Try.prog 50 #[.pointer (some ⟨g, 0, none⟩), lpkV x] w (PutPost B0 g m (bodyX (ackX s p) p) 0 w) := by
  obtain ⟨⟨x1, x2, x3, x4⟩, hxb⟩ := hx
  unfold lpkV
  rw [x1, x2, x3, x4]
  have HH := Lib.hid h
  have HXB := Lib.hid hxb
  have d1 : decide (p.window < 0) = false := by simp; omega
  have d2 : decide (16 < p.window) = false := by simp; omega
  have d3 : decide (1048576 < x.b.len) = false := by rw [hxb.1]; simp; omega
  have d4 : decide ((1048576 : Int) < (x.b.len : Int)) = false := by rw [hxb.1]; simp; omega
  obtain ⟨_, _, c2, _, _, _, _⟩ := h.xs
  have hgl := h.x.lt
  clear h hxb x1 x2 x3 x4
  go_enter Try.func50, Try.ntmps50
  have c2' := fun o => (World.cell?_alloc_lt w o ⟨g, 2, none⟩ hgl).trans c2
  have hne : g ≠ w.heap.size := by omega
  go_upto_region 5 with fail
  have HB1 := Lib.hid (show Below w.heap.size w (w.alloc (.cells #[.int .u32 p.seq, .int .u32 p.ack, .bool p.has, .int .i64 p.window, .slice x.b.A x.b.len x.b.cap] 85)) from (Below.refl _ _).alloc (Nat.le_refl _) _)
  have hbox := Box.new w 85 #[.int .u32 p.seq, .int .u32 p.ack, .bool p.has, .int .i64 p.window, .slice x.b.A x.b.len x.b.cap]
  have hat1 := HH.out.below HB1.out
  have c2w := c2' (.cells #[.int .u32 p.seq, .int .u32 p.ack, .bool p.has, .int .i64 p.window, .slice x.b.A x.b.len x.b.cap] 85)
  have hgpB : B0 ≤ w.heap.size := hB
  generalize w.heap.size = gp at *
  generalize w.alloc (.cells #[.int .u32 p.seq, .int .u32 p.ack, .bool p.has, .int .i64 p.window, .slice x.b.A x.b.len x.b.cap] 85) = w1 at *
  obtain ⟨q0, q1, q2, q3, q4⟩ : w1.cell? ⟨gp, 0, none⟩ = some (.int .u32 p.seq) ∧ w1.cell? ⟨gp, 1, none⟩ = some (.int .u32 p.ack) ∧ w1.cell? ⟨gp, 2, none⟩ = some (.bool p.has) ∧ w1.cell? ⟨gp, 3, none⟩ = some (.int .i64 p.window) ∧ w1.cell? ⟨gp, 4, none⟩ = some (.slice x.b.A x.b.len x.b.cap) := ⟨hbox.cell 0, hbox.cell 1, hbox.cell 2, hbox.cell 3, hbox.cell 4⟩
  go_region
  have HKK := Lib.hid (show wrap64 (wrap32 ((p.ack - s.base) % 4294967296)) = sdiff p.ack s.base by unfold wrap64 wrap32 sdiff; split <;> omega)
  have hkb : -2147483648 ≤ sdiff p.ack s.base ∧ sdiff p.ack s.base < 2147483648 := by unfold sdiff; split <;> omega
  have HAX := Lib.hid (show ackX s p = if 1 ≤ sdiff p.ack s.base ∧ sdiff p.ack s.base ≤ s.Q.length then { s with Q := s.Q.drop (sdiff p.ack s.base).toNat, base := p.ack, lim := p.window } else if sdiff p.ack s.base = 0 then { s with lim := if s.lim < p.window then p.window else s.lim } else s from rfl)
  have hI1 : (ackX s p).I.length ≤ 16 := by
    unfold ackX
    split
    · exact hI
    · split
      · exact hI
      · exact hI
  rw [HKK.out]
  generalize wrap32 ((p.ack - s.base) % 4294967296) = junk at *
  generalize sdiff p.ack s.base = kk at *
  generalize ackX s p = s1 at *
  clear HKK
  go_upto_block 1 with fail
  have hat2 : LineAt w1.drew B0 g m s r f := hat1.below (below_drewN (Below.refl _ _) 1)
  have hbox2 : Box w1.drew gp 85 #[.int .u32 p.seq, .int .u32 p.ack, .bool p.has, .int .i64 p.window, .slice x.b.A x.b.len x.b.cap] := hbox
  have hb2 : Below B0 w w1.drew := below_drewN (HB1.out.mono hgpB) 1
  have hsz2 : B0 ≤ w1.drew.heap.size := Nat.le_trans hgpB (Nat.le_of_lt hbox.lt)
  clear q0 q1 q2 q3 q4 c2 c2' c2w hat1 hbox HB1 HH
  generalize w1.drew = w2 at *
  have HAT := Lib.hid hat2
  have HBX := Lib.hid hbox2
  have HB2 := Lib.hid hb2
  clear hat2 hbox2 hb2 d1 d2 d3 d4
  go_cut [28] (fun _ wx => Below B0 w wx ∧ Box wx gp 85 #[.int .u32 p.seq, .int .u32 p.ack, .bool p.has, .int .i64 p.window, .slice x.b.A x.b.len x.b.cap] ∧ B0 ≤ wx.heap.size ∧ ∃ r1 f1, LineAt wx B0 g m s1 r1 f1)
  case first =>
    have hn := HAT.out.o1.1
    obtain ⟨_, c1, c2, _, c4, _, _⟩ := HAT.out.xs
    have q1 : w2.cell? ⟨gp, 1, none⟩ = some (.int .u32 p.ack) := HBX.out.cell 1
    have q3 : w2.cell? ⟨gp, 3, none⟩ = some (.int .i64 p.window) := HBX.out.cell 3
    have fr1 := HAT.out.x.frozen 1
    have hgB := HAT.out.hg
    by_cases hA : 1 ≤ kk ∧ kk ≤ s.Q.length
    · obtain ⟨k, rfl⟩ := Int.eq_ofNat_of_zero_le (show 0 ≤ kk by omega)
      have HS1 := HAX.out
      rw [if_pos hA, Int.toNat_natCast] at HS1
      have HS := Lib.hid HS1
      have hk1 : 1 ≤ k := by omega
      have hkN : k ≤ r.l1.length := by omega
      obtain ⟨g1, o1, hA1, hc⟩ := OwnAt.some_of HAT.out.o1.2.1 (show 0 < r.l1.length by omega)
      have hcap := HAT.out.o1.2.1.cap_le
      have hown := HAT.out.o1.2.1
      rw [hA1] at c4 hown
      have HREST := Lib.hid (fun (v : Value) (w' : World) ho hb => HAT.out.rest (w' := w') hsz2 hkN (v := v) ho hb)
      obtain ⟨i0, _, hi0, _, hz1, _, _⟩ := pend_parts
      obtain ⟨o', hrun, hrow⟩ := hown.tails Try.underlying274 hi0 hz1 hkN
      rw [← flat_drop pendC_len] at hrow
      have hlen : (r.l1.drop k).length = r.l1.length - k := List.length_drop
      have HCL := Lib.hid (clone_pend (some ⟨g1, o', none⟩) (r.c1 - k) (r.l1.drop k) _ w2 hrow (fun e => by cases e) (by rw [hlen]; omega))
      rw [hlen] at HCL
      generalize hN : r.l1.length = N at *
      have HNN := Lib.hid hN
      generalize hC : r.c1 = C at *
      have HCC := Lib.hid hC
      have HA1 := Lib.hid hA1
      clear hA HS1 hn hown hrow hlen hN hC hc hi0 hz1 hA1
      have t1 : decide ((1 : Int) ≤ (k : Int)) = true := by simp; omega
      have t2 : decide ((k : Int) ≤ (N : Int)) = true := by simp; omega
      have t2' : decide (k ≤ N) = true := by simp; omega
      go_wp2_with fail
      refine HCL.out.mono ?_
      rintro e w3 ⟨v, rfl, ho3, hb3⟩
      obtain ⟨A', c', f', hv, hat4⟩ := HREST.out v w3 (by rw [List.length_drop, HNN.out]; exact ho3) hb3
      subst hv
      have x3 := (HAT.out.below hb3).x
      have c43 : w3.cell? ⟨g, 4, none⟩ = some (.slice (some ⟨g1, o1, none⟩) N C) := by rw [x3.cell 4, ← HNN.out, ← HCC.out, ← HA1.out]; rfl
      have fr43 := x3.frozen 4
      have hbox4 := (HBX.out.below hb3 HBX.out.lt).far (p := ⟨g, 4, none⟩) (by show gp ≠ g; omega) (.slice A' (N - k) c')
      have hb4 := (HB2.out.trans (hb3.mono hsz2)).setCell (p := ⟨g, 4, none⟩) hgB (.slice A' (N - k) c')
      have hsz4 : B0 ≤ (w3.setCell ⟨g, 4, none⟩ (.slice A' (N - k) c')).heap.size := by have := hb3.size; simp; omega
      go_upto_region 8 with fail
      generalize w3.setCell ⟨g, 4, none⟩ (.slice A' (N - k) c') = w4 at *
      obtain ⟨_, y1, y2, _, _, _, _⟩ := hat4.xs
      have z1 := hat4.x.frozen 1
      have z2 := hat4.x.frozen 2
      have p1 : w4.cell? ⟨gp, 1, none⟩ = some (.int .u32 p.ack) := hbox4.cell 1
      have p3 : w4.cell? ⟨gp, 3, none⟩ = some (.int .i64 p.window) := hbox4.cell 3
      have HL4 := Lib.hid hat4
      have HBX4 := Lib.hid hbox4
      have HB4 := Lib.hid hb4
      clear hat4 hbox4 hb4 hb3 ho3 x3 c43 fr43
      have HL5 := Lib.hid (((HL4.out.xcell (s' := { s with Q := s.Q.drop k, base := p.ack }) 2 (.int .u32 p.ack) rfl rfl rfl rfl rfl rfl).xcell (s' := { s with Q := s.Q.drop k, base := p.ack, lim := p.window }) 1 (.int .i64 p.window) rfl rfl rfl rfl rfl rfl).below (below_drewN (Below.refl _ _) 1))
      have HBX5 := Lib.hid ((HBX4.out.far (p := ⟨g, 2, none⟩) (by show gp ≠ g; omega) (.int .u32 p.ack)).far (p := ⟨g, 1, none⟩) (by show gp ≠ g; omega) (.int .i64 p.window))
      have HB5 := Lib.hid (below_drewN ((HB4.out.setCell (p := ⟨g, 2, none⟩) hgB (.int .u32 p.ack)).setCell (p := ⟨g, 1, none⟩) hgB (.int .i64 p.window)) 1)
      go_region
      go_wp2_with fail
      go_meet
      exact ⟨HB5.out, HBX5.out, by simpa using hsz4, _, f', by rw [HS.out]; exact HL5.out⟩
    · by_cases h0 : kk = 0
      · have HS1 := HAX.out
        rw [if_neg hA, if_pos h0] at HS1
        have HS := Lib.hid HS1
        have e1 : decide (1 ≤ kk) = false := by simp; omega
        have e2 : (kk == 0) = true := by simp [h0]
        have HX := Lib.hid (fun (X : Int) => (HAT.out.xcell (s' := { s with lim := X }) 1 (.int .i64 X) rfl rfl rfl rfl rfl rfl).below (below_drewN (Below.refl _ _) 1))
        have HBB := Lib.hid (fun (X : Int) => below_drewN (HB2.out.setCell (p := ⟨g, 1, none⟩) hgB (.int .i64 X)) 1)
        have HXX := Lib.hid (fun (X : Int) => HBX.out.far (p := ⟨g, 1, none⟩) (by show gp ≠ g; omega) (.int .i64 X))
        clear hA h0 hn HS1
        by_cases hmx : s.lim < p.window
        · have HS2 := Lib.hid (show s1 = { s with lim := p.window } by rw [HS.out, if_pos hmx])
          go_wp2_with fail
          go_region
          go_wp2_with fail
          go_meet
          exact ⟨HBB.out p.window, HXX.out p.window, by simpa using hsz2, r, f, by rw [HS2.out]; exact HX.out p.window⟩
        · have HS2 := Lib.hid (show s1 = { s with lim := s.lim } by rw [HS.out, if_neg hmx])
          go_wp2_with fail
          go_region
          go_wp2_with fail
          go_meet
          exact ⟨HBB.out s.lim, HXX.out s.lim, by simpa using hsz2, r, f, by rw [HS2.out]; exact HX.out s.lim⟩
      · have HS1 := HAX.out
        rw [if_neg hA, if_neg h0] at HS1
        have HS := Lib.hid HS1
        have e2 : (kk == 0) = false := by simp [h0]
        clear HS1 HAX
        by_cases h1 : 1 ≤ kk
        · have e1 : decide (1 ≤ kk) = true := by simp; omega
          have e3 : decide (kk ≤ (r.l1.length : Int)) = false := by simp; omega
          clear hA hn
          go_wp2_with fail
          go_meet
          exact ⟨HB2.out, HBX.out, hsz2, r, f, by rw [HS.out]; exact HAT.out⟩
        · have e1 : decide (1 ≤ kk) = false := by simp; omega
          clear hA hn
          go_wp2_with fail
          go_meet
          exact ⟨HB2.out, HBX.out, hsz2, r, f, by rw [HS.out]; exact HAT.out⟩
  case rest =>
    obtain ⟨hbc, hboxc, hszc, r1, f1, hatc⟩ := hcut
    have HBXC := Lib.hid hboxc
    have HBC := Lib.hid hbc
    have HATC := Lib.hid hatc
    have q0 : wc.cell? ⟨gp, 0, none⟩ = some (.int .u32 p.seq) := hboxc.cell 0
    have q2 : wc.cell? ⟨gp, 2, none⟩ = some (.bool p.has) := hboxc.cell 2
    have q4 : wc.cell? ⟨gp, 4, none⟩ = some (.slice x.b.A x.b.len x.b.cap) := hboxc.cell 4
    obtain ⟨c0, _, _, c3, _, c5, c6⟩ := hatc.xs
    have fr6 := hatc.x.frozen 6
    have hgB := hatc.hg
    have hn := hatc.o2.1
    clear hbc hboxc hatc HAX HAT HBX HB2
    cases hhas : p.has
    · rw [hhas] at q2
      have HSB := Lib.hid (show bodyX s1 p = s1 by unfold bodyX; rw [hhas]; rfl)
      clear hhas hn
      go_wp2_with fail
      go_ret
      exact ⟨rfl, HBC.out, r1, f1, by rw [HSB.out]; exact HATC.out⟩
    · rw [hhas] at q2
      have hat5 := HATC.out.xcell (s' := { s1 with due := true }) 6 (.bool true) rfl rfl rfl rfl rfl rfl
      have hbox5 := HBXC.out.far (p := ⟨g, 6, none⟩) (by show gp ≠ g; omega) (.bool true)
      have hb5 := HBC.out.setCell (p := ⟨g, 6, none⟩) hgB (.bool true)
      have hsz5 : B0 ≤ (wc.setCell ⟨g, 6, none⟩ (.bool true)).heap.size := by simpa using hszc
      go_upto_region 14 with fail
      clear q0 q2 q4 c0 c3 c5 c6 fr6 HBXC HBC HATC hszc
      generalize wc.setCell ⟨g, 6, none⟩ (.bool true) = w5 at *
      obtain ⟨c0, _, _, c3, _, c5, _⟩ := hat5.xs
      simp only at c0 c3 c5
      have q0 : w5.cell? ⟨gp, 0, none⟩ = some (.int .u32 p.seq) := hbox5.cell 0
      have HL5 := Lib.hid hat5
      have HX5 := Lib.hid hbox5
      have HB5 := Lib.hid hb5
      have HN5 := Lib.hid hn
      by_cases hq : p.seq = s1.want
      · have b1 : (p.seq == s1.want) = true := by simp [hq]
        by_cases hi : (s1.I.length : Int) < s1.win
        · have b2 : decide ((r1.l2.length : Int) < s1.win) = true := by rw [hn]; simpa using hi
          have HSB := Lib.hid (show bodyX s1 p = { s1 with due := true, I := s1.I ++ [p.body], want := Go.Proofs.Ytaecgapoaagjfaa.u32 (s1.want + 1) } by unfold bodyX; rw [hhas, if_pos rfl, if_pos ⟨hq, hi⟩])
          clear hq hhas hi hat5 hbox5 hb5 hn
          go_quiet (fail)
          go_upto_region 15 with fail
          have hq5 : LineAt (w5.drewN nq) B0 g m { s1 with due := true } r1 f1 := HL5.out.below (below_drewN (Below.refl _ _) nq)
          have q4q : (w5.drewN nq).cell? ⟨gp, 4, none⟩ = some (.slice x.b.A x.b.len x.b.cap) := HX5.out.cell 4
          have hbq : Below B0 w (w5.drewN nq) := below_drewN HB5.out nq
          have hBq : B0 ≤ (w5.drewN nq).heap.size := hsz5
          have c5q : (w5.drewN nq).cell? ⟨g, 5, none⟩ = some (.slice r1.A2 r1.l2.length r1.c2) := c5
          have fr5q : (w5.drewN nq).frozen? ⟨g, 5, none⟩ = false := HL5.out.x.frozen 5
          have hglq : g < (w5.drewN nq).heap.size := HL5.out.x.lt
          have hbk : (r1.l2.length + 1) * 24 ≤ 140737488355328 := by have := HN5.out; omega
          clear c0 c3 c5 q0 HL5 HX5 HB5 hsz5
          generalize w5.drewN nq = wq at *
          have HQ := Lib.hid hq5
          have HBQ := Lib.hid hbq
          have hxq : BIn wq.drew (· < B0) 0 x.b p.body := HXB.out.below (below_drewN hbq 1) (fun _ h => h)
          have HCC := Lib.hid (clone_body x.b p.body 0 _ wq.drew hxq (by omega))
          clear hq5 hbq hxq
          go_region_law ((first
            | (go_simp; go_at_call 166; refine HCC.out.mono ?_; rintro e w6 ⟨y, rfl, hy, hb6⟩; have hb6' : Below wq.heap.size wq w6 := (below_drewN (Below.refl _ _) 1).trans hb6; have c51 := (hb6'.cell (p := ⟨g, 5, none⟩) hglq).trans c5q; have c52 := fun o => (World.cell?_alloc_lt w6 o ⟨g, 5, none⟩ (lt_of_cell c51)).trans c51)
            | (refine step_mk2_body rfl (.tmp 103) (.tmp 107) rfl B0 (fun b => lab0 f1 wq.heap.size b = 0) 0 r1.A2 r1.c2 r1.l2.length r1.l2 s1.I rfl rfl (HQ.out.wait2 hb6' _) w6.heap.size y p.body rfl (body_new w6 y) (HQ.out.fresh2 hy _) hbk ?_ ?_
               · simp; have := hb6'.size; omega
               intro A' c' w7 hmk7 hb7 ho7 hA7
               have ho7' := HQ.out.turned2 hb6' _ ho7
               have c57 : w7.cell? ⟨g, 5, none⟩ = some (.slice r1.A2 r1.l2.length r1.c2) := (ho7'.box HQ.out.x (by rw [HQ.out.fg]; omega)).cell 5
               have fr57 := (ho7'.box HQ.out.x (by rw [HQ.out.fg]; omega)).frozen 5)))
          all_goals (
            have hL := HQ.out.put2 ho7' hmk7 (fun b hb => by
              rcases hA7 b hb with h1 | h1
              · exact .inl (HQ.out.f2 b h1)
              · have := hb6'.size
                simp at h1
                exact .inr (by omega))
            rw [List.length_append, List.length_singleton] at hL
            have hB7 : Below B0 w w7 := (HBQ.out.trans ((hb6'.mono hBq).alloc (Nat.le_trans hBq hb6'.size) _)).trans hb7
            have hB8 := hB7.setCell (p := ⟨g, 5, none⟩) hgB (.slice A' (r1.l2.length + 1) c')
            clear hmk7 hb7 ho7 hA7 ho7' hy hb6 hb6' c51 c52 hB7
            go_upto_region 16 with fail
            generalize w7.setCell ⟨g, 5, none⟩ (.slice A' (r1.l2.length + 1) c') = w8 at *
            obtain ⟨_, _, _, c3, _, _, _⟩ := hL.xs
            simp only at c3
            have fr3 := hL.x.frozen 3
            have HL := Lib.hid (hL.xcell (s' := { s1 with due := true, I := s1.I ++ [p.body], want := Go.Proofs.Ytaecgapoaagjfaa.u32 (s1.want + 1) }) 3 (.int .u32 ((s1.want + 1) % 4294967296)) rfl rfl rfl rfl rfl rfl)
            have HB8 := Lib.hid (hB8.setCell (p := ⟨g, 3, none⟩) hgB (.int .u32 ((s1.want + 1) % 4294967296)))
            clear hL hB8
            go_wp2_with fail
            go_ret
            exact ⟨rfl, HB8.out, _, _, by rw [HSB.out]; exact HL.out⟩)
        · have b2 : decide ((r1.l2.length : Int) < s1.win) = false := by rw [hn]; simpa using hi
          have HSB := Lib.hid (show bodyX s1 p = { s1 with due := true } by unfold bodyX; rw [hhas, if_pos rfl, if_neg (fun h => hi h.2)])
          clear hq hhas hi hat5 hbox5 hb5 hn
          go_quiet (fail)
          go_wp2_with fail
          go_ret
          exact ⟨rfl, below_drewN HB5.out _, r1, f1, by rw [HSB.out]; exact HL5.out.below (below_drewN (Below.refl _ _) _)⟩
      · have b1 : (p.seq == s1.want) = false := by simp [hq]
        have HSB := Lib.hid (show bodyX s1 p = { s1 with due := true } by unfold bodyX; rw [hhas, if_pos rfl, if_neg (fun h => hq h.1)])
        clear hq hhas hat5 hbox5 hb5 hn
        go_quiet (fail)
        go_wp2_with fail
        go_ret
        exact ⟨rfl, below_drewN HB5.out _, r1, f1, by rw [HSB.out]; exact HL5.out.below (below_drewN (Below.refl _ _) _)⟩
end Go.Proofs.Ytaecgapoaagjfaa
