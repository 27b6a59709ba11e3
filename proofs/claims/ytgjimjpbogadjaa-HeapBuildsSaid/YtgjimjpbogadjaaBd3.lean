
/-
  heap.Build.
-/
import Derived.Test.YtgjimjpbogadjaaBd2
namespace Go.Proofs.Ytgjimjpbogadjaa
open Go.RowKit

/-- A heap built, handed back: the error, or the words and the word. -/
def BRes (r : Except Int (List Nat × Nat)) (w : World) (e : Ending) (w' : World) : Prop := Below w.heap.size w w' ∧ match r with
  | .error er => e = .returned (.tuple #[.slice none 0 0, .int .u64 0, .int .i64 er])
  | .ok (h', u) => ∃ A' c', e = .returned (.tuple #[.slice A' h'.length c', .int .u64 (u : Int), .int .i64 0]) ∧ Row w' w'.heap.size A' (flat huC h')

set_option maxRecDepth 100000 in
set_option maxHeartbeats 4000000 in
theorem Build_any (n : Nat) (x : VC) (v : Val) (h : List Nat) (A : Option Addr) (c : Nat) (w : World) (hx : VIn w (· < w.heap.size) n x v) (hr : Row w w.heap.size A (flat huC h)) (hn : A = none → c = 0) (hlen : h.length ≤ 4000) :
    Calls Try.prog 10 #[.slice A h.length c, valV x] w (BRes (buildN n h v) w) := by
  obtain ⟨xk, xm, xt, xA, xl, xc⟩ := x
  have hb1 := (Below.refl w.heap.size w).alloc (Nat.le_refl _) (.cells #[.int .i64 xk, .int .i64 xm, .string xt, .slice xA xl xc] 26)
  have hbx := Box.new w 26 #[.int .i64 xk, .int .i64 xm, .string xt, .slice xA xl xc]
  have HCL : Hid (∀ w', Below w.heap.size w w' → Calls Try.prog 65 #[.slice A h.length c] w' _) := Lib.hid (fun w' hb => clone_hu A c h w.heap.size w' (hr.below hb) hn (by omega))
  have HBU : Hid (∀ (base : Nat) (A' : Option Addr) (c' : Nat) (w' : World), Below w.heap.size w w' → HOwn w' base A' c' h → w.heap.size ≤ base → base ≤ w'.heap.size → Calls Try.prog 64 #[.slice A' h.length c', .agg #[.int .i64 xk, .int .i64 xm, .string xt, .slice xA xl xc]] w' (HRes base A' (buildN n h v) .u64 w')) :=
    Lib.hid (fun base A' c' w' hb ho h1 h2 => build_any n ⟨xk, xm, xt, xA, xl, xc⟩ v h base A' c' w' (· < w.heap.size) (hx.below hb fun _ h => h) (fun b hb => by omega) ho h2 hlen)
  have hsz : (w.alloc (.cells #[.int .i64 xk, .int .i64 xm, .string xt, .slice xA xl xc] 26)).heap.size = w.heap.size + 1 := by simp
  unfold valV
  dsimp only
  clear hr hn hx
  have HRS := Lib.hid (show ∀ (base : Nat) (A' : Option Addr) (w1 w2 : World) (e : Ending), HRes base A' (buildN n h v) .u64 w1 e w2 → HRes base A' (buildN n h v) .u64 w1 e w2 from fun _ _ _ _ _ h => h)
  unfold HRes BRes at *
  generalize buildN n h v = r at *
  rcases r with er | ⟨h', u⟩
  all_goals (
    dsimp only at HBU ⊢
    clear HRS
    go_enter Try.func10, Try.ntmps10
    go_upto_region 1 with fail
    generalize w.alloc (.cells #[.int .i64 xk, .int .i64 xm, .string xt, .slice xA xl xc] 26) = w1 at *
    have HX1 := Lib.hid hbx
    have HB1 := Lib.hid hb1
    have hw1 : w.heap.size ≤ w1.heap.size := by omega
    have HSK : Hid (∀ w', Below w1.heap.size w1 w' → Below w1.heap.size w1 w' ∧ w'.cell? ⟨w.heap.size, 0, none⟩ = some (.int .i64 xk) ∧ w'.cell? ⟨w.heap.size, 1, none⟩ = some (.int .i64 xm) ∧ w'.cell? ⟨w.heap.size, 2, none⟩ = some (.string xt) ∧ w'.cell? ⟨w.heap.size, 3, none⟩ = some (.slice xA xl xc)) := fun w' h => have hh := own_cells4 (HX1.out.below h HX1.out.lt); ⟨h, hh.1, hh.2.1, hh.2.2.1, hh.2.2.2.1⟩
    have hbk0 := Below.refl w1.heap.size w1
    clear hb1 hbx
    go_region_held3 (fun w' => Below w1.heap.size w1 w' ∧ w'.cell? ⟨w.heap.size, 0, none⟩ = some (.int .i64 xk) ∧ w'.cell? ⟨w.heap.size, 1, none⟩ = some (.int .i64 xm) ∧ w'.cell? ⟨w.heap.size, 2, none⟩ = some (.string xt) ∧ w'.cell? ⟨w.heap.size, 3, none⟩ = some (.slice xA xl xc))
      ((first
        | exact HSK.out _ hbk2
        | exact HSK.out _ hbk
        | exact HSK.out _ (below_drewX hbk0)
        | go_keep))
      ((first
        | (go_at_call 65; refine (HCL.out _ (HB1.out.trans ((show Below w1.heap.size w1 _ ∧ _ by assumption).1.mono hw1))).mono ?_; rintro e wk ⟨vc, rfl, hown, hbn⟩; obtain ⟨AC, cC, rfl, hoa⟩ := OwnAt.of_own hown; have hX := (show Below w1.heap.size w1 _ ∧ _ by assumption); have hbk := hX.1.trans (hbn.mono hX.1.size); have hs0 := hX.1.size; have hs1 := Nat.le_trans hw1 hs0; clear hX)
        | (go_at_call 64; refine (HBU.out _ AC cC _ (HB1.out.trans (hbk.mono hw1)) hoa hs1 hbn.size).mono ?_; first | (rintro e wk2 ⟨A', c', rfl, hown2, hg2⟩; have hbk2 := hbk.trans ((hg2.below (Below.refl _ _) hbn.size (fun b hb => (HOwn.blk hoa b hb).1)).mono hs0)) | (rintro e wk2 ⟨ho2, rfl⟩; have hbk2 := hbk.trans ((ho2.to_below (Below.refl _ _) hbn.size (fun b hb => (HOwn.blk hoa b hb).1)).mono hs0)))))
    all_goals (
      go_wp2_with fail
      go_ret3
      first
        | exact ⟨HB1.out.trans (hbk2.mono hw1), rfl⟩
        | exact ⟨HB1.out.trans (hbk2.mono hw1), A', c', rfl, hown2.row⟩))
end Go.Proofs.Ytgjimjpbogadjaa
