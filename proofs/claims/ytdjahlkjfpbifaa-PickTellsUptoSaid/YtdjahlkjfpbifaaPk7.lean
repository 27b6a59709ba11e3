
/-
  pick.Choose's predicate; pick.Take.
-/
import Derived.Test.YtdjahlkjfpbifaaPk6
import Derived.Test.YtdjahlkjfpbifaaPk2
import Derived.Test.YtdjahlkjfpbifaaInsAny
namespace Go.Proofs.Ytdjahlkjfpbifaa
open Go.RowKit

theorem enters_choose1 : Enters 81 := fun _ _ => by kernel_rfl
set_option maxRecDepth 100000 in
theorem choose1_any (n : Nat) (A : Option Addr) (c : Nat) (l : List VC) (ps : List Val) (y : VC) (v : Val) (w : World) (Sp Sv : Nat → Prop) (gl g : Nat) (j : Int) (hx : valRow w Sp n A c l ps) (hy : VIn w Sv n y v) (hM : ∀ p ∈ ps, p.size ≤ 2097152) (hgl : w.cell? ⟨gl, 0, none⟩ = some (.slice A l.length c)) (hll : gl < w.heap.size) (hg : Box w g 3 #[.int .i64 j]) :
    Calls Try.prog 81 #[valV y, .pointer (some ⟨gl, 0, none⟩), .pointer (some ⟨g, 0, none⟩)] w fun e w' => e = .returned (.bool (decide (0 ≤ firstF n ps v))) ∧ Only (· = g) w w' ∧ Box w' g 3 #[.int .i64 (firstF n ps v)] := by
  have HB := Lib.hid (show ∀ o1, Below w.heap.size w (w.alloc o1) from fun _ => (Below.refl _ _).alloc (Nat.le_refl _) _)
  have HI := Lib.hid (fun o1 => first_pk n A c l ps y v (w.alloc o1) _ _ (hx.lt.below (HB.out o1) fun _ h => h.2) (hy.lt.below (HB.out o1) fun _ h => h.2) hM)
  have hgw := hg.lt
  have HG := Lib.hid hg
  clear hx hy hg
  unfold valV at *
  generalize firstF n ps v = R at *
  go_enter Try.func81, Try.ntmps81
  go_upto_region 1 with fail
  go_wp2_with (go_at_call 19; refine (HI.out _).mono ?_; rintro e w1 ⟨rfl, hb⟩; have hbx1 := (HG.out.alloc (.cells #[.int .i64 y.kind, .int .i64 y.num, .string y.text, .slice y.A y.len y.cap] 28)).below hb (by simp; omega); have k0 := hbx1.cell 0; have k1 := hbx1.frozen 0; have HB1 := Lib.hid hbx1; have HW1 := Lib.hid ((HB.out _).trans (hb.mono (HB.out _).size)); simp only [List.getElem?_toArray, List.getElem?_cons_zero] at k0; clear hb hbx1)
  go_ret
  refine ⟨rfl, (Only.of_below (S := (· = g)) HW1.out).set (p := ⟨g, 0, none⟩) rfl _, ?_⟩
  have := HB1.out.set 0 (.int .i64 R)
  simpa using this

theorem getD_cut {α : Type} (d : α) (L : List α) (k i : Nat) (hk : k < L.length) : (L.take k ++ L.drop (k + 1)).getD i d = if i < k then L.getD i d else L.getD (i + 1) d := by
  simp only [List.getD_eq_getElem?_getD]
  by_cases h : i < k
  · rw [if_pos h, List.getElem?_append_left (by rw [List.length_take]; omega), List.getElem?_take_of_lt h]
  · rw [if_neg h, List.getElem?_append_right (by rw [List.length_take]; omega), List.getElem?_drop, List.length_take, show k + 1 + (i - min k L.length) = i + 1 by omega]
section
variable {w w' : World} {base n : Nat} {S : Nat → Prop} {A : Option Addr} {c : Nat} {l : List LC} {ts : List Let}
theorem LIn.only {T : Nat → Prop} {x : LC} {t : Let} (h : LIn w S n x t) (ho : Only T w w') (hS : ∀ b, S b → ¬ T b) : LIn w' S n x t :=
  h.lt.keep (fun _ hp => only_cell ho hp.2 (hS _ hp.1)) fun _ hb => hb.1
theorem letterMk.only {g : Nat} (h : letterMk w base S n A c l ts) (ho : Only (· = g) w w') (hg : g < base) (hS : ∀ b, S b → base ≤ b) : letterMk w' base S n A c l ts := by
  refine ⟨h.1, h.2.1.only ho fun b hb e => ?_, fun i hi => (h.2.2 i hi).only ho fun b hb e => ?_⟩
  · rcases h.2.1.form with ⟨rfl, _⟩ | ⟨g1, o1, rfl⟩
    · cases hb
    · have h1 := h.2.1.lt.1
      simp at hb
      omega
  · have := hS b hb.1
    omega
theorem letterMk.cut {g1 o1 k : Nat} (h : letterMk w base S n (some ⟨g1, o1, none⟩) c l ts) (hk : k < l.length)
    (ho : OwnAt w' base 37 9 (some ⟨g1, o1, none⟩) (l.take k ++ l.drop (k + 1)).length c (flat letterC (l.take k ++ l.drop (k + 1)))) (hon : Only (· = g1) w w') : letterMk w' base S n (some ⟨g1, o1, none⟩) c (l.take k ++ l.drop (k + 1)) (ts.take k ++ ts.drop (k + 1)) := by
  have hl := h.1
  have hlen : (l.take k ++ l.drop (k + 1)).length = l.length - 1 := by simp only [List.length_append, List.length_take, List.length_drop]; omega
  refine ⟨?_, ho, fun i hi => ?_⟩
  · rw [hlen]
    simp only [List.length_append, List.length_take, List.length_drop]
    omega
  · rw [hlen] at hi
    rw [getD_cut lc0 l k i hk, getD_cut let0 ts k i (by omega)]
    by_cases h1 : i < k
    · rw [if_pos h1, if_pos h1]
      exact (h.2.2 i (by omega)).only hon fun b hb e => hb.2 (by simp [e])
    · rw [if_neg h1, if_neg h1]
      exact (h.2.2 (i + 1) (by omega)).only hon fun b hb e => hb.2 (by simp [e])
end

theorem letter_at {w : World} {base n : Nat} {S : Nat → Prop} {b1 o1 : Nat} {c : Nat} {l : List LC} {ts : List Let} (h : letterMk w base S n (some ⟨b1, o1, none⟩) c l ts) {k : Nat} (hk : k < l.length) {x : LC} (hx : l.getD k lc0 = x) :
    w.cell? ⟨b1, o1 + k * 9, none⟩ = some (.int .i64 x.kind) ∧ w.cell? ⟨b1, o1 + k * 9 + 1, none⟩ = some (.int .i64 x.frm) ∧ w.cell? ⟨b1, o1 + k * 9 + 2, none⟩ = some (.int .i64 x.to) ∧ w.cell? ⟨b1, o1 + k * 9 + 3, none⟩ = some (.int .i64 x.num) ∧ w.cell? ⟨b1, o1 + k * 9 + 4, none⟩ = some (.string x.text) ∧
      w.cell? ⟨b1, o1 + k * 9 + 5, none⟩ = some (.int .i64 x.v.kind) ∧ w.cell? ⟨b1, o1 + k * 9 + 6, none⟩ = some (.int .i64 x.v.num) ∧ w.cell? ⟨b1, o1 + k * 9 + 7, none⟩ = some (.string x.v.text) ∧ w.cell? ⟨b1, o1 + k * 9 + 8, none⟩ = some (.slice x.v.A x.v.len x.v.cap) := by
  subst hx
  obtain ⟨b, o, e, _, hc⟩ := h.2.1.row.letter hk lc0
  injection e with e
  injection e with e1 e2
  subst e1 e2
  exact hc

/-- What Take answers when the mailbox is whole: letters of the call's own, one of them, and what the predicate's cell holds. -/
def TakeRes (w w' : World) (g n : Nat) (A' : Option Addr) (c' : Nat) (l' : List LC) (x : LC) (F : Let → Int) (ts : List Let) (i : Nat) (q : Bool) (a : Int) : Prop :=
  letterRow w' (w.heap.size ≤ ·) n A' c' l' (if i < ts.length then ts.take i ++ ts.drop (i + 1) else ts) ∧ LIn w' (w.heap.size ≤ ·) n x (if i < ts.length then ts.getD i let0 else let0) ∧ q = decide (i < ts.length) ∧ (a = if i < ts.length then 0 else (ts.length : Int)) ∧
    Box w' g 3 #[.int .i64 (if i < ts.length then F (ts.getD i let0) else -1)] ∧ Only (· = g) w w'

theorem hit_step (f : Let → Int) (ts : List Let) (k : Nat) (hk : k < ts.length) : hitF f ts (ts.length - k) k = if 0 ≤ f (ts.getD k let0) then k else hitF f ts (ts.length - (k + 1)) (k + 1) := by
  obtain ⟨m, hm⟩ : ∃ m, ts.length - k = m + 1 := ⟨ts.length - k - 1, by omega⟩
  rw [hm, show ts.length - (k + 1) = m by omega]
  rfl

section
variable {w wr w8 : World} {base g n : Nat} {A1 : Option Addr} {c1 : Nat} {l1 : List LC} {ts : List Let} {F : Let → Int}
theorem take_keep (hbase : w.heap.size + 3 ≤ base) (h8 : Only (fun b => b = w.heap.size + 1 ∨ b = w.heap.size + 2) wr w8) (h : letterMk wr base (base ≤ ·) n A1 c1 l1 ts) (hby : l1.length * 104 ≤ reachBytes) : letterRow w8 (w.heap.size ≤ ·) n A1 c1 l1 ts :=
  (h.row hby).lt.keep (fun q hq => only_cell h8 hq.2 fun e => by have : base ≤ q.block := hq.1.elim id id; omega) fun b hb => by have : base ≤ b := hb.1.elim id id; omega
theorem take_g {j : Int} (hgw : g < w.heap.size) (h8 : Only (fun b => b = w.heap.size + 1 ∨ b = w.heap.size + 2) wr w8) (hgb : Box wr g 3 #[.int .i64 j]) : Box w8 g 3 #[.int .i64 j] :=
  h8.box hgb fun e => by omega
theorem take_only (hon : Only (· = g) w wr) (h8 : Only (fun b => b = w.heap.size + 1 ∨ b = w.heap.size + 2) wr w8) : Only (· = g) w w8 :=
  only_after hon h8 fun b hb => .inr (by omega)
theorem take_none (hn : 1 ≤ n) (hbase : w.heap.size + 3 ≤ base) (hgw : g < w.heap.size) (h : letterMk wr base (base ≤ ·) n A1 c1 l1 ts) (hby : l1.length * 104 ≤ reachBytes) (hgb : Box wr g 3 #[.int .i64 (-1)]) (hon : Only (· = g) w wr)
    (h8 : Only (fun b => b = w.heap.size + 1 ∨ b = w.heap.size + 2) wr w8) : TakeRes w w8 g n A1 c1 l1 lc0 F ts ts.length false l1.length := by
  obtain ⟨n, rfl⟩ : ∃ m, n = m + 1 := ⟨n - 1, by omega⟩
  unfold TakeRes
  have hlt : ¬ ts.length < ts.length := Nat.lt_irrefl _
  rw [if_neg hlt, if_neg hlt, if_neg hlt, if_neg hlt]
  exact ⟨take_keep hbase h8 h hby, ⟨⟨rfl, rfl, rfl, rfl, rfl, Nat.zero_le _, by simp [I64, lc0], by simp [I64, lc0], by simp [I64, lc0], by simp [I64, lc0]⟩, VIn.leaf n 0 0 (by simp [I64]) (by simp [I64])⟩, by simp, by rw [h.1], take_g hgw h8 hgb, take_only hon h8⟩
theorem take_some {k : Nat} {x : LC} (hk : k < ts.length) (hbase : w.heap.size + 3 ≤ base) (hgw : g < w.heap.size) (h : letterMk wr base (base ≤ ·) n A1 c1 l1 (ts.take k ++ ts.drop (k + 1))) (hby : l1.length * 104 ≤ reachBytes) (hx : LIn wr (base ≤ ·) n x (ts.getD k let0)) (hgb : Box wr g 3 #[.int .i64 (F (ts.getD k let0))]) (hon : Only (· = g) w wr)
    (h8 : Only (fun b => b = w.heap.size + 1 ∨ b = w.heap.size + 2) wr w8) : TakeRes w w8 g n A1 c1 l1 x F ts k true 0 := by
  unfold TakeRes
  rw [if_pos hk, if_pos hk, if_pos hk, if_pos hk]
  exact ⟨take_keep hbase h8 h hby, hx.lt.keep (fun q hq => only_cell h8 hq.2 fun e => by have := hq.1; omega) (fun b hb => by have := hb.1; omega), by simp [hk], rfl, take_g hgw h8 hgb, take_only hon h8⟩
end

set_option maxRecDepth 100000 in
set_option maxHeartbeats 1000000 in
theorem take_ok (n : Nat) (F : Val → Int) (fid : FuncId) (caps : Array Value) (B g : Nat) (A : Option Addr) (c : Nat) (l : List LC) (ts : List Let) (p : Int) (w : World) (S : Nat → Prop) (he : Enters fid) (hn : 1 ≤ n) (h : letterRow w S n A c l ts) (_hS : ∀ b, S b → b < B) (hBg : B ≤ g) (hf : boxF l p = 0)
    (HT : ∀ w1 y v S', Below B w w1 → (∃ j : Int, Box w1 g 3 #[.int .i64 j]) → VIn w1 S' (n + 2) y v → Calls Try.prog fid (#[valV y] ++ caps) w1 fun e w2 => e = .returned (.bool (decide (0 ≤ F v))) ∧ Only (· = g) w1 w2 ∧ Box w2 g 3 #[.int .i64 (F v)])
    (hF : ∀ v, F v < 0 → F v = -1) (hg : Box w g 3 #[.int .i64 (-1)]) :
    Calls Try.prog 80 #[boxV A l.length c p, .func (.func fid) #[] caps] w fun e w' => ∃ A' c' l' x q a, e = .returned (.tuple #[boxV A' l'.length c' a, letterV x, .bool q, .int .i64 0]) ∧ TakeRes w w' g n A' c' l' x (fun t => F (msgOf t)) ts (hitF (fun t => F (msgOf t)) ts (ts.length - p.toNat) p.toNat) q a := by
  have hgw := hg.lt
  obtain ⟨p, rfl⟩ : ∃ pn : Nat, p = (pn : Int) := ⟨p.toNat, by
    unfold boxF at hf
    split at hf
    · cases hf
    · split at hf
      · cases hf
      · omega⟩
  have hp : p ≤ l.length ∧ l.length ≤ 60 := by
    unfold boxF at hf
    split at hf
    · cases hf
    · split at hf
      · cases hf
      · omega
  rw [Int.toNat_natCast]
  have HB3 := Lib.hid (show ∀ o1 o2 o3, Below w.heap.size w (((w.alloc o1).alloc o2).alloc o3) from fun _ _ _ => (((Below.refl _ _).alloc (Nat.le_refl _) _).alloc (by simp) _).alloc (by simp; omega) _)
  have HR := Lib.hid h.lt
  have HCK := Lib.hid (fun w1 => check_any A c l p w1)
  have hlc := h.2.2.2.1
  have hm := h.2.2.2.2.1
  have HLEN := Lib.hid h.1
  rw [hf] at HCK
  have HTT := Lib.hid HT
  have HFF := Lib.hid hF
  have HG := Lib.hid hg
  have HCP := Lib.hid (show Copiesletter n from fun x v w S h => copy_letter n x v w S h)
  unfold Enters at he
  clear h hf HT hF hg
  unfold boxV at HCK ⊢
  go_enter Try.func80, Try.ntmps80
  go_upto_region 1 with fail
  have HBL := Lib.hid (HB3.out (.cells #[.slice A l.length c, .int .i64 p] 24) (.cells #[.slice none 0 0, .int .i64 0] 24) (.cells #[.int .i64 0, .int .i64 0, .int .i64 0, .int .i64 0, .string ⟨#[]⟩, .int .i64 0, .int .i64 0, .string ⟨#[]⟩, .slice none 0 0] 37))
  have hbx0 := ((Box.new w 24 #[.slice A l.length c, .int .i64 p]).alloc (.cells #[.slice none 0 0, .int .i64 0] 24)).alloc (.cells #[.int .i64 0, .int .i64 0, .int .i64 0, .int .i64 0, .string ⟨#[]⟩, .int .i64 0, .int .i64 0, .string ⟨#[]⟩, .slice none 0 0] 37)
  have hbx1 := (Box.new (w.alloc (.cells #[.slice A l.length c, .int .i64 p] 24)) 24 #[.slice none 0 0, .int .i64 0]).alloc (.cells #[.int .i64 0, .int .i64 0, .int .i64 0, .int .i64 0, .string ⟨#[]⟩, .int .i64 0, .int .i64 0, .string ⟨#[]⟩, .slice none 0 0] 37)
  have hbx2 := Box.new ((w.alloc (.cells #[.slice A l.length c, .int .i64 p] 24)).alloc (.cells #[.slice none 0 0, .int .i64 0] 24)) 37 #[.int .i64 0, .int .i64 0, .int .i64 0, .int .i64 0, .string ⟨#[]⟩, .int .i64 0, .int .i64 0, .string ⟨#[]⟩, .slice none 0 0]
  have hsz : w.heap.size + 3 ≤ (((w.alloc (.cells #[.slice A l.length c, .int .i64 p] 24)).alloc (.cells #[.slice none 0 0, .int .i64 0] 24)).alloc (.cells #[.int .i64 0, .int .i64 0, .int .i64 0, .int .i64 0, .string ⟨#[]⟩, .int .i64 0, .int .i64 0, .string ⟨#[]⟩, .slice none 0 0] 37)).heap.size := by simp
  rw [show (w.alloc (.cells #[.slice A l.length c, .int .i64 p] 24)).heap.size = w.heap.size + 1 by simp] at hbx1
  rw [show ((w.alloc (.cells #[.slice A l.length c, .int .i64 p] 24)).alloc (.cells #[.slice none 0 0, .int .i64 0] 24)).heap.size = w.heap.size + 2 by simp] at hbx2
  have HG1 := Lib.hid (((HG.out.alloc (.cells #[.slice A l.length c, .int .i64 p] 24)).alloc (.cells #[.slice none 0 0, .int .i64 0] 24)).alloc (.cells #[.int .i64 0, .int .i64 0, .int .i64 0, .int .i64 0, .string ⟨#[]⟩, .int .i64 0, .int .i64 0, .string ⟨#[]⟩, .slice none 0 0] 37))
  generalize (((w.alloc (.cells #[.slice A l.length c, .int .i64 p] 24)).alloc (.cells #[.slice none 0 0, .int .i64 0] 24)).alloc (.cells #[.int .i64 0, .int .i64 0, .int .i64 0, .int .i64 0, .string ⟨#[]⟩, .int .i64 0, .int .i64 0, .string ⟨#[]⟩, .slice none 0 0] 37)) = w1 at *
  have HX0 := Lib.hid hbx0
  have HX1 := Lib.hid hbx1
  have HX2 := Lib.hid hbx2
  obtain ⟨a0, a1, _⟩ := own_cells2 hbx0
  clear hbx0 hbx1 hbx2 HB3
  go_wp2_with fail
  refine (HCK.out w1 ((HR.out.below HBL.out fun _ h => h.2).2.1.all) hlc hm).mono ?_
  rintro e w2 ⟨rfl, hb2⟩
  have HX02 := Lib.hid (HX0.out.below hb2 (by omega))
  have HX12 := Lib.hid (HX1.out.below hb2 (by omega))
  have HX22 := Lib.hid (HX2.out.below hb2 (by omega))
  have HG2 := Lib.hid (HG1.out.below hb2 HG1.out.lt)
  have HBL2 := Lib.hid (HBL.out.trans (hb2.mono HBL.out.size))
  have hsz2 : w.heap.size + 3 ≤ w2.heap.size := by have := hb2.size; omega
  obtain ⟨a0, a1, _⟩ := own_cells2 HX02.out
  clear hb2 HX0 HX1 HX2 HG1 HBL hsz
  go_wp2_with fail
  refine (each_letter n HCP.out A c l ts w2 _ (HR.out.below HBL2.out fun _ h => h.2)).mono ?_
  rintro e w3 ⟨A1, c1, l1, rfl, hmk, hby, hb3⟩
  have HX03 := Lib.hid (HX02.out.below hb3 (by omega))
  have HX13 := Lib.hid (HX12.out.below hb3 (by omega))
  have HX23 := Lib.hid (HX22.out.below hb3 (by omega))
  have HG3 := Lib.hid (HG2.out.below hb3 HG2.out.lt)
  have HBL3 := Lib.hid (HBL2.out.trans (hb3.mono HBL2.out.size))
  have hsz3 : w.heap.size + 3 ≤ w3.heap.size := by have := hb3.size; omega
  have HMK := Lib.hid hmk
  have HL1 := Lib.hid hmk.1
  have hl60 : l1.length ≤ 60 := by have := hmk.1; have := HLEN.out; omega
  have hpl : p ≤ l1.length := by have := hmk.1; have := HLEN.out; omega
  obtain ⟨a0, a1, _⟩ := own_cells2 HX03.out
  clear hmk hb3 HX02 HX12 HX22 HG2 HBL2 HX03 HLEN
  go_wp2_with fail
  go_loopg [10] (l1.length - p) (fun gk iv wr => ∃ k : Nat, gk = l1.length - k ∧ k ≤ l1.length ∧ iv = .int .i64 k ∧ hitF (fun t => F (msgOf t)) ts (ts.length - p) p = hitF (fun t => F (msgOf t)) ts (ts.length - k) k ∧ letterMk wr w2.heap.size (w2.heap.size ≤ ·) n A1 c1 l1 ts ∧ Box wr g 3 #[.int .i64 (-1)] ∧
    Box wr (w.heap.size + 1) 24 #[.slice none 0 0, .int .i64 0] ∧ Box wr (w.heap.size + 2) 37 #[.int .i64 0, .int .i64 0, .int .i64 0, .int .i64 0, .string ⟨#[]⟩, .int .i64 0, .int .i64 0, .string ⟨#[]⟩, .slice none 0 0] ∧ Only (· = g) w wr ∧ w.heap.size + 3 ≤ wr.heap.size)
  case atStart => exact ⟨p, rfl, hpl, rfl, rfl, HMK.out, HG3.out, HX13.out, HX23.out, Only.of_below HBL3.out, hsz3⟩
  case round =>
    clear HMK HG3 HX13 HX23 HBL3
    obtain ⟨k, hgk, hk, rfl, hhit, hmk, hgb, B1, B2, hon, hszr⟩ := hrel
    have HGK := Lib.hid hgk
    have HHIT := Lib.hid hhit
    have HMK := Lib.hid hmk
    have HGB := Lib.hid hgb
    have HON := Lib.hid hon
    have HB1 := Lib.hid B1
    have HB2 := Lib.hid B2
    clear hgk hhit hmk hgb hon B1 B2
    by_cases hlt : k < l1.length
    · have HLX := Lib.hid (HMK.out.2.2 k hlt)
      have HKT := Lib.hid (show k < ts.length by rw [← HL1.out]; exact hlt)
      have HSTEP := Lib.hid (hit_step (fun t => F (msgOf t)) ts k HKT.out)
      obtain ⟨b1, o1, rfl, hb1, hc0, hc1, hc2, hc3, hc4, hc5, hc6, hc7, hc8⟩ := HMK.out.2.1.row.letter hlt lc0
      obtain ⟨t, ht⟩ : ∃ t, ts.getD k let0 = t := ⟨_, rfl⟩
      obtain ⟨x, hx⟩ : ∃ x, l1.getD k lc0 = x := ⟨_, rfl⟩
      rw [ht] at HLX HSTEP
      rw [hx] at HLX hc0 hc1 hc2 hc3 hc4 hc5 hc6 hc7 hc8
      have HT1 := Lib.hid ht
      have HX1 := Lib.hid hx
      clear ht hx
      go_wp2_with fail
      refine (says_any n x t wr _ HLX.out).mono ?_
      rintro e w4 ⟨y, rfl, hy, hb4⟩
      have HBW := Lib.hid ((HON.out.to_below (Below.refl B w) (by omega) (fun i hi => by omega)).trans (hb4.mono (by have := HON.out.size; omega)))
      have HON4 := Lib.hid (HON.out.below hb4)
      have HMK4 := Lib.hid (HMK.out.below hb4)
      have HGB4 := Lib.hid (HGB.out.below hb4 HGB.out.lt)
      have HB14 := Lib.hid (HB1.out.below hb4 (by omega))
      have HB24 := Lib.hid (HB2.out.below hb4 (by omega))
      have hsz4 : w.heap.size + 3 ≤ w4.heap.size := by have := hb4.size; omega
      have HLX4 := Lib.hid (HLX.out.lt.below hb4 fun _ h => h.2)
      have HCALL := Lib.hid (HTT.out w4 y (msgOf t) _ HBW.out ⟨_, HGB4.out⟩ hy)
      unfold valV at HCALL
      unfold valV
      clear hy hb4 HMK HGB HB1 HB2 HON HLX hc0 hc1 hc2 hc3 hc4 hc5 hc6 hc7 hc8
      go_wp2_with fail
      refine HCALL.out.mono ?_
      rintro e w5 ⟨rfl, ho5, hg5⟩
      have hwg : ∀ b, w.heap.size ≤ b → ¬ b = g := fun b hb e => by omega
      have HON5 := Lib.hid (HON4.out.trans ho5)
      have HMK5 := Lib.hid (HMK4.out.only ho5 (by omega) fun b hb => hb)
      have HB15 := Lib.hid (ho5.box HB14.out (hwg _ (by omega)))
      have HB25 := Lib.hid (ho5.box HB24.out (hwg _ (by omega)))
      have hsz5 : w.heap.size + 3 ≤ w5.heap.size := Nat.le_trans hsz4 ho5.size
      have HLX5 := Lib.hid ((HLX4.out.only ho5 fun b hb => hwg _ (by have := hb.1.1; omega)))
      obtain ⟨R, hR⟩ : ∃ R, F (msgOf t) = R := ⟨_, rfl⟩
      rw [hR] at HSTEP
      have HR5 := Lib.hid hR
      rw [hR] at hg5
      have HG5 := Lib.hid hg5
      rw [hR]
      clear hR hg5 ho5 HCALL HMK4 HGB4 HB14 HB24 HON4 HLX4 HBW
      by_cases hRn : 0 ≤ R
      · have hdec : decide (0 ≤ R) = true := decide_eq_true hRn
        rw [if_pos hRn] at HSTEP
        rw [hdec]
        clear hdec
        obtain ⟨c50, c51, c52, c53, c54, c55, c56, c57, c58⟩ := letter_at HMK5.out hlt HX1.out
        have hb5 : b1 < w5.heap.size := HMK5.out.2.1.lt.2
        have hb6 : w2.heap.size ≤ b1 := HMK5.out.2.1.lt.1
        go_upto_region 10 with fail
        have hbx := Box.new w5 37 #[.int .i64 x.kind, .int .i64 x.frm, .int .i64 x.to, .int .i64 x.num, .string x.text, .int .i64 x.v.kind, .int .i64 x.v.num, .string x.v.text, .slice x.v.A x.v.len x.v.cap]
        have HMK6 := Lib.hid (HMK5.out.below ((Below.refl _ _).alloc (Nat.le_refl _) (.cells #[.int .i64 x.kind, .int .i64 x.frm, .int .i64 x.to, .int .i64 x.num, .string x.text, .int .i64 x.v.kind, .int .i64 x.v.num, .string x.v.text, .slice x.v.A x.v.len x.v.cap] 37)))
        have HB16 := Lib.hid (HB15.out.alloc (.cells #[.int .i64 x.kind, .int .i64 x.frm, .int .i64 x.to, .int .i64 x.num, .string x.text, .int .i64 x.v.kind, .int .i64 x.v.num, .string x.v.text, .slice x.v.A x.v.len x.v.cap] 37))
        have HB26 := Lib.hid (HB25.out.alloc (.cells #[.int .i64 x.kind, .int .i64 x.frm, .int .i64 x.to, .int .i64 x.num, .string x.text, .int .i64 x.v.kind, .int .i64 x.v.num, .string x.v.text, .slice x.v.A x.v.len x.v.cap] 37))
        have HG6 := Lib.hid (HG5.out.alloc (.cells #[.int .i64 x.kind, .int .i64 x.frm, .int .i64 x.to, .int .i64 x.num, .string x.text, .int .i64 x.v.kind, .int .i64 x.v.num, .string x.v.text, .slice x.v.A x.v.len x.v.cap] 37))
        have HON6 := Lib.hid (HON5.out.alloc (.cells #[.int .i64 x.kind, .int .i64 x.frm, .int .i64 x.to, .int .i64 x.num, .string x.text, .int .i64 x.v.kind, .int .i64 x.v.num, .string x.v.text, .slice x.v.A x.v.len x.v.cap] 37))
        have HLX6 := Lib.hid (HLX5.out.lt.below ((Below.refl _ _).alloc (Nat.le_refl _) (.cells #[.int .i64 x.kind, .int .i64 x.frm, .int .i64 x.to, .int .i64 x.num, .string x.text, .int .i64 x.v.kind, .int .i64 x.v.num, .string x.v.text, .slice x.v.A x.v.len x.v.cap] 37)) fun _ h => h.2)
        have hsz6 : w5.heap.size < (w5.alloc (.cells #[.int .i64 x.kind, .int .i64 x.frm, .int .i64 x.to, .int .i64 x.num, .string x.text, .int .i64 x.v.kind, .int .i64 x.v.num, .string x.v.text, .slice x.v.A x.v.len x.v.cap] 37)).heap.size := by simp
        generalize w5.alloc (.cells #[.int .i64 x.kind, .int .i64 x.frm, .int .i64 x.to, .int .i64 x.num, .string x.text, .int .i64 x.v.kind, .int .i64 x.v.num, .string x.v.text, .slice x.v.A x.v.len x.v.cap] 37) = w6 at *
        generalize w5.heap.size = gx at *
        have HBX := Lib.hid hbx
        obtain ⟨⟨x0, x1, x2, x3, x4, x5, x6, x7, x8⟩, _⟩ := own_cells9 hbx
        obtain ⟨r0, r1, z0, z1⟩ := own_cells2 HB16.out
        obtain ⟨⟨s0, s1, s2, s3, s4, s5, s6, s7, s8⟩, ⟨y0, y1, y2, y3, y4, y5, y6, y7, y8⟩⟩ := own_cells9 HB26.out
        clear hbx c50 c51 c52 c53 c54 c55 c56 c57 c58 HMK5 HB15 HB25 HG5 HON5 HLX5
        obtain ⟨i0, z0', hi0, hz0, hz1, hz2, hz3⟩ := letter_parts
        have hown := HMK6.out.2.1
        have hcap := hown.cap_le
        obtain ⟨o', hrun, hrow⟩ := hown.tailsD (k := k + 1) (by omega)
        have hfd : (flat letterC l1).drop ((k + 1) * 9) = flat letterC (l1.drop (k + 1)) := (flat_drop letterC_len l1 (k + 1)).symm
        have hft : (flat letterC l1).take (k * 9) = flat letterC (l1.take k) := (flat_take letterC_len l1 k).symm
        rw [hfd] at hrow
        have hsh := hown.shrinkD (k := k) (by omega)
        rw [hft] at hsh
        have HLB : Hid ((flat letterC (l1.drop (k + 1))).length = (l1.length - (k + 1)) * 9) := (flat_len letterC_len _).trans (by rw [List.length_drop])
        have HSH := Lib.hid hsh
        have HRW := Lib.hid hrow.news
        have HCUT := Lib.hid (fun w7 => HMK6.out.cut (w' := w7) hlt)
        have HFA : Hid (flat letterC (l1.take k) ++ flat letterC (l1.drop (k + 1)) = flat letterC (l1.take k ++ l1.drop (k + 1))) := (flat_append (enc := letterC) _ _).symm
        have HLC := Lib.hid (show k + (l1.length - (k + 1)) = (l1.take k ++ l1.drop (k + 1)).length by rw [List.length_append, List.length_take, List.length_drop]; omega)
        unfold maxLen at hcap
        have n1 : ¬ (w.heap.size + 1 = b1) := by omega
        have n2 : ¬ (w.heap.size + 2 = b1) := by omega
        have n3 : ¬ (gx = b1) := by omega
        have n4 : ¬ (g = b1) := by omega
        have q1 : (k : Int) + 1 ≤ (l1.length : Int) := by omega
        have q2 : k + 1 ≤ l1.length := by omega
        have q3 : l1.length ≤ c1 := hcap.1
        have q4 : k ≤ c1 := by omega
        have q5 : (k : Int) ≤ (c1 : Int) := by omega
        have q6 : (0 : Int) ≤ (k : Int) + 1 := by omega
        have q7 : (l1.length : Int) ≤ (c1 : Int) := by omega
        have q8 : k + (l1.length - (k + 1)) ≤ c1 := by omega
        have hwk : IntKind.i64.wrap ((k : Int) + 1) = (k : Int) + 1 := by rw [IntKind.wrap_i64]; omega
        have htn : ((k : Int) + 1).toNat = k + 1 := by omega
        have HN1 := Lib.hid n1
        have HN2 := Lib.hid n2
        have HN3 := Lib.hid n3
        have HN4 := Lib.hid n4
        clear hown hsh hrow hfd hft n1 n2 n3 n4
        go_region_law (refine step_append_in rfl (.tmp 43) (.tmp 47) 22 rfl w2.heap.size 37 i0 9 Try.underlying22 hi0 hz1 b1 o1 k c1 (flat letterC (l1.take k)) (by simp [Act.eval, Act.put]) HSH.out ⟨b1, o', none⟩ (l1.length - (k + 1)) (c1 - (k + 1)) (flat letterC (l1.drop (k + 1))) (by simp [Act.eval, Act.put]) HLB.out HRW.out (letter_one_all _) q8 ?_; intro w7 hw7 ho7; have ho8 := (Only.refl (· = b1) w6).drew.trans ho7; obtain ⟨⟨X0, X1, X2, X3, X4, X5, X6, X7, X8⟩, _⟩ := own_cells9 (ho8.box HBX.out HN3.out); obtain ⟨R0, R1, Z0, Z1⟩ := own_cells2 (ho8.box HB16.out HN1.out); obtain ⟨⟨S0, S1, S2, S3, S4, S5, S6, S7, S8⟩, ⟨Y0, Y1, Y2, Y3, Y4, Y5, Y6, Y7, Y8⟩⟩ := own_cells9 (ho8.box HB26.out HN2.out))
        all_goals (
          rw [HFA.out, HLC.out] at hw7
          have HMK7 := Lib.hid (HCUT.out w7 hw7 ho8)
          have HO8 := Lib.hid ho8
          clear hwk htn hw7 ho7 ho8 x0 x1 x2 x3 x4 x5 x6 x7 x8 r0 r1 z0 z1 s0 s1 s2 s3 s4 s5 s6 s7 s8 y0 y1 y2 y3 y4 y5 y6 y7 y8
          simp only [List.getElem_toArray, List.getElem_cons_succ, List.getElem_cons_zero]
          go_frame
          go_wp2_with fail
          refine bodyPost_ret (v := .tuple #[.agg #[.slice (some ⟨b1, o1, none⟩) (k + (l1.length - (k + 1))) c1, .int .i64 0], letterV x, .bool true, .int .i64 0]) (by unfold letterV; simp [results, Try.results80, go_sem, R0, R1, S0, S1, S2, S3, S4, S5, S6, S7, S8]) rfl ?_
          refine ⟨some ⟨b1, o1, none⟩, c1, l1.take k ++ l1.drop (k + 1), x, true, 0, by rw [HLC.out], ?_⟩
          rw [HHIT.out, HSTEP.out]
          refine take_some HKT.out hsz2 hgw HMK7.out (by rw [← HLC.out]; unfold reachBytes; omega) ?_ ?_ (only_after HON6.out HO8.out fun b hb => .inr (by omega)) ?_
          · rw [HT1.out]
            exact (HLX6.out.only HO8.out fun b hb e => hb.1.1.2 (by simp [e])).keep (fun _ _ => rfl) fun b hb => hb.1.1.1
          · rw [HT1.out, HR5.out]
            exact HO8.out.box HG6.out HN4.out
          · repeat (first | with_reducible exact Only.refl _ _ | (with_reducible refine Only.set ?_ ?_ _; rotate_left; first | exact .inl rfl | exact .inr rfl)))
      · have hdec : decide (0 ≤ R) = false := decide_eq_false hRn
        have hm1 : R = -1 := by rw [← HR5.out]; exact HFF.out _ (by rw [HR5.out]; omega)
        rw [if_neg hRn] at HSTEP
        rw [hdec]
        clear hdec hRn
        go_wp2_with fail
        go_roundg (l1.length - (k + 1))
        case measure => have := HGK.out; omega
        case rel => exact ⟨k + 1, rfl, by omega, by go_num, by rw [HHIT.out, HSTEP.out], HMK5.out, by rw [← hm1]; exact HG5.out, HB15.out, HB25.out, HON5.out, hsz5⟩
    · obtain rfl : k = l1.length := by omega
      have HH := Lib.hid (show hitF (fun t => F (msgOf t)) ts (ts.length - p) p = ts.length by rw [HHIT.out, HL1.out, Nat.sub_self]; rfl)
      obtain ⟨r0, r1, z0, z1⟩ := own_cells2 HB1.out
      obtain ⟨⟨s0, s1, s2, s3, s4, s5, s6, s7, s8⟩, ⟨y0, y1, y2, y3, y4, y5, y6, y7, y8⟩⟩ := own_cells9 HB2.out
      go_wp2_with fail
      refine bodyPost_ret (v := .tuple #[.agg #[.slice A1 l1.length c1, .int .i64 l1.length], letterV lc0, .bool false, .int .i64 0]) (by unfold letterV lc0 vc0; simp [results, Try.results80, go_sem, r0, r1, s0, s1, s2, s3, s4, s5, s6, s7, s8]) rfl ?_
      refine ⟨A1, c1, l1, lc0, false, l1.length, rfl, ?_⟩
      rw [HH.out]
      refine take_none hn hsz2 hgw HMK.out hby HGB.out HON.out ?_
      repeat (first | with_reducible exact Only.refl _ _ | (with_reducible refine Only.set ?_ ?_ _; rotate_left; first | exact .inl rfl | exact .inr rfl))
end Go.Proofs.Ytdjahlkjfpbifaa
