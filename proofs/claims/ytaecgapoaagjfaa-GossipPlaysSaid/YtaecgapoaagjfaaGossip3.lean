/-
  Whom a gossip asks next; its rows told.
-/
import Derived.Test.YtaecgapoaagjfaaGossip2
import Derived.Deep.MidRow
namespace Go.Proofs.Ytaecgapoaagjfaa
open Go.RowKit

set_option maxRecDepth 100000 in
set_option maxHeartbeats 1000000 in
theorem next_g (g me : Nat) (ticks : Int) (L : Nat) (G : GS) (V : Nat → Int) (w : World) (h : GossipAt w g me ticks L G V) (hL : L ≤ 8) (hme : me ≤ 8) :
    Calls Try.prog 38 #[.pointer (some ⟨g, 0, none⟩)] w fun e w' => e = .returned (.tuple #[.int .i64 (askF me L G 8 0), .int .i64 (if askF me L G 8 0 = 0 then 4 else 0)]) ∧ Only (· = g) w w' ∧ GossipAt w' g me ticks (if askF me L G 8 0 = 0 then (L : Int) else askF me L G 8 0) G V := by
  have HG := Lib.hid h
  have hc0 := h.c0
  have hc2 := h.c2
  have hf2 := h.frozen 2
  have HT := Lib.hid (fun x => h.turn x)
  clear h
  generalize hA : askF me L G 8 0 = A at *
  have HA := Lib.hid hA
  clear hA
  go_enter Try.func38, Try.ntmps38
  go_wp2_with fail
  go_loopg [6] 8 (fun gk i wr => ∃ k : Nat, gk = 8 - k ∧ k ≤ 8 ∧ i = .int .i64 k ∧ Hid (A = askF me L G (8 - k) k) ∧ wr = w)
  case atStart => exact ⟨0, by omega, by omega, rfl, HA.out.symm, rfl⟩
  case round =>
    obtain ⟨k, hgk, hk, rfl, HE, rfl⟩ := hrel
    have HK := Lib.hid hgk
    clear hgk
    by_cases hlt : k < 8
    · have HS := Lib.hid (show askF me L G (8 - k) k = if askOk me G (askN L k) then askN L k else askF me L G (8 - (k + 1)) (k + 1) by
        rw [show 8 - k = (8 - (k + 1)) + 1 by omega]; rfl)
      have hn : askN L k = (L + k) % 8 + 1 := by unfold askN; simp
      obtain ⟨n, hn'⟩ : ∃ n, askN L k = n := ⟨_, rfl⟩
      have hn8 : 1 ≤ n ∧ n ≤ 8 := by omega
      have hmod : Int.tmod ((L : Int) + (k : Int)) 8 = ((L : Int) + (k : Int)) % 8 := Int.tmod_eq_emod_of_nonneg (by omega)
      have HNN := Lib.hid (show ((L : Int) + (k : Int)) % 8 + 1 = (n : Int) by omega)
      have HKN := Lib.hid (known_any g me ticks L G V n wr HG.out)
      rw [show kn G n = G.K n by unfold kn isN; simp; omega] at HKN
      rw [hn'] at HS
      unfold askOk at HS
      have hs := HG.out.s n (by omega)
      have hn1 : (n : Int) < 9 := by omega
      have hn0 : (0 : Int) ≤ (n : Int) := by omega
      have hnz : n ≠ 0 := by omega
      generalize G.K n = q at *
      generalize G.S n = z at *
      clear hn hn'
      have hL1 : (L : Int) ≤ 8 := by omega
      have hk1 : (k : Int) < 8 := by omega
      clear hL1 hk1 hmod
      have hL1 : (L : Int) ≤ 8 := by omega
      have hk1 : (k : Int) < 8 := by omega
      go_wp2_with fail
      rw [HNN.out]
      refine HKN.out.mono ?_
      rintro e w' ⟨rfl, rfl⟩
      cases q
      · have HEN := Lib.hid (show A = askF me L G (8 - (k + 1)) (k + 1) by rw [HE.out, HS.out]; rfl)
        clear HS HE HKN
        go_wp2_with fail
        go_roundg (8 - (k + 1))
        case measure => have := HK.out; omega
        case rel => exact ⟨k + 1, rfl, by omega, by go_num, HEN.out, rfl⟩
      · by_cases hm : n = me
        · have HEN := Lib.hid (show A = askF me L G (8 - (k + 1)) (k + 1) by rw [HE.out, HS.out]; simp [hm])
          have bm : ((n : Int) != (me : Int)) = false := by simp [hm]
          have bm' : (n != me) = false := by simp [hm]
          clear HS HE HKN hm
          go_wp2_with fail
          go_roundg (8 - (k + 1))
          case measure => have := HK.out; omega
          case rel => exact ⟨k + 1, rfl, by omega, by go_num, HEN.out, rfl⟩
        · have bm : ((n : Int) != (me : Int)) = true := by simp; omega
          have bm' : (n != me) = true := by simp [hm]
          by_cases hz : z = 3
          · have HEN := Lib.hid (show A = askF me L G (8 - (k + 1)) (k + 1) by rw [HE.out, HS.out]; simp [hz])
            have bz : (z != 3) = false := by simp [hz]
            clear HS HE HKN hm hz
            go_wp2_with fail
            go_roundg (8 - (k + 1))
            case measure => have := HK.out; omega
            case rel => exact ⟨k + 1, rfl, by omega, by go_num, HEN.out, rfl⟩
          · have hAn : A = n := by rw [HE.out, HS.out]; simp [hz, hm]
            have bz : (z != 3) = true := by simp [hz]
            subst hAn
            have HTN := Lib.hid (HT.out A)
            clear HS HE HKN hm hz HA
            go_wp2_with fail
            go_ret2
            refine ⟨?_, (Only.refl _ _).set1 _, ?_⟩
            · rfl
            · exact HTN.out
    · have h0 : A = 0 := by rw [HE.out, show 8 - k = 0 by omega]; rfl
      subst h0
      go_wp2_with fail
      go_ret2
      exact ⟨rfl, Only.refl _ _, HG.out⟩

theorem gr_new (w : World) (o1 : Obj) (y : RowT) (j : Nat) (u : Value) (h : (grC y)[j]? = some u) :
    ((w.alloc o1).alloc (.cells #[.int .i64 y.1, .int .i64 y.2.1, .int .i64 y.2.2] 54)).cell? ⟨w.heap.size + 1, j, none⟩ = some u := by
  have hb := (Box.new (w.alloc o1) 54 #[.int .i64 y.1, .int .i64 y.2.1, .int .i64 y.2.2]).cell j
  rw [show (w.alloc o1).heap.size = w.heap.size + 1 by simp] at hb
  rw [hb, ← h]
  simp [grC]

def rows27 (N T S : Nat → Int) : Array Value := #[.int .i64 (N 0), .int .i64 (T 0), .int .i64 (S 0), .int .i64 (N 1), .int .i64 (T 1), .int .i64 (S 1), .int .i64 (N 2), .int .i64 (T 2), .int .i64 (S 2), .int .i64 (N 3), .int .i64 (T 3), .int .i64 (S 3), .int .i64 (N 4), .int .i64 (T 4), .int .i64 (S 4), .int .i64 (N 5), .int .i64 (T 5), .int .i64 (S 5), .int .i64 (N 6), .int .i64 (T 6), .int .i64 (S 6), .int .i64 (N 7), .int .i64 (T 7), .int .i64 (S 7), .int .i64 (N 8), .int .i64 (T 8), .int .i64 (S 8)]
theorem idx_rows (N T S : Nat → Int) (w : World) : ∀ k : Nat, k < 9 → (Instr.index 266 (.agg (rows27 N T S)) (.int .i64 k)).run Try.prog w = .ok (.agg #[.int .i64 (N k), .int .i64 (T k), .int .i64 (S k)]) w
  | 0, _ => by unfold rows27; simp [Instr.index, run_underlying Try.underlying266, asIntOf, go_sem]
  | 1, _ => by unfold rows27; simp [Instr.index, run_underlying Try.underlying266, asIntOf, go_sem]
  | 2, _ => by unfold rows27; simp [Instr.index, run_underlying Try.underlying266, asIntOf, go_sem]
  | 3, _ => by unfold rows27; simp [Instr.index, run_underlying Try.underlying266, asIntOf, go_sem]
  | 4, _ => by unfold rows27; simp [Instr.index, run_underlying Try.underlying266, asIntOf, go_sem]
  | 5, _ => by unfold rows27; simp [Instr.index, run_underlying Try.underlying266, asIntOf, go_sem]
  | 6, _ => by unfold rows27; simp [Instr.index, run_underlying Try.underlying266, asIntOf, go_sem]
  | 7, _ => by unfold rows27; simp [Instr.index, run_underlying Try.underlying266, asIntOf, go_sem]
  | 8, _ => by unfold rows27; simp [Instr.index, run_underlying Try.underlying266, asIntOf, go_sem]
  | k + 9, h => by omega

theorem rows_range {w : World} {g me : Nat} {ticks last : Int} {G : GS} {V : Nat → Int} (h : GossipAt w g me ticks last G V) : w.rangeAt g 3 (rows27 (gN G) G.T G.S).toList := fun j v hv => match j, hv with
  | 0, hv => by simp [rows27] at hv; subst hv; exact h.n 0 (by omega)
  | 1, hv => by simp [rows27] at hv; subst hv; exact h.t 0 (by omega)
  | 2, hv => by simp [rows27] at hv; subst hv; exact h.s 0 (by omega)
  | 3, hv => by simp [rows27] at hv; subst hv; exact h.n 1 (by omega)
  | 4, hv => by simp [rows27] at hv; subst hv; exact h.t 1 (by omega)
  | 5, hv => by simp [rows27] at hv; subst hv; exact h.s 1 (by omega)
  | 6, hv => by simp [rows27] at hv; subst hv; exact h.n 2 (by omega)
  | 7, hv => by simp [rows27] at hv; subst hv; exact h.t 2 (by omega)
  | 8, hv => by simp [rows27] at hv; subst hv; exact h.s 2 (by omega)
  | 9, hv => by simp [rows27] at hv; subst hv; exact h.n 3 (by omega)
  | 10, hv => by simp [rows27] at hv; subst hv; exact h.t 3 (by omega)
  | 11, hv => by simp [rows27] at hv; subst hv; exact h.s 3 (by omega)
  | 12, hv => by simp [rows27] at hv; subst hv; exact h.n 4 (by omega)
  | 13, hv => by simp [rows27] at hv; subst hv; exact h.t 4 (by omega)
  | 14, hv => by simp [rows27] at hv; subst hv; exact h.s 4 (by omega)
  | 15, hv => by simp [rows27] at hv; subst hv; exact h.n 5 (by omega)
  | 16, hv => by simp [rows27] at hv; subst hv; exact h.t 5 (by omega)
  | 17, hv => by simp [rows27] at hv; subst hv; exact h.s 5 (by omega)
  | 18, hv => by simp [rows27] at hv; subst hv; exact h.n 6 (by omega)
  | 19, hv => by simp [rows27] at hv; subst hv; exact h.t 6 (by omega)
  | 20, hv => by simp [rows27] at hv; subst hv; exact h.s 6 (by omega)
  | 21, hv => by simp [rows27] at hv; subst hv; exact h.n 7 (by omega)
  | 22, hv => by simp [rows27] at hv; subst hv; exact h.t 7 (by omega)
  | 23, hv => by simp [rows27] at hv; subst hv; exact h.s 7 (by omega)
  | 24, hv => by simp [rows27] at hv; subst hv; exact h.n 8 (by omega)
  | 25, hv => by simp [rows27] at hv; subst hv; exact h.t 8 (by omega)
  | 26, hv => by simp [rows27] at hv; subst hv; exact h.s 8 (by omega)
  | j + 27, hv => by simp [rows27] at hv

set_option maxRecDepth 100000 in
set_option maxHeartbeats 4000000 in
theorem state_g (g me : Nat) (ticks last : Int) (G : GS) (V : Nat → Int) (w : World) (h : GossipAt w g me ticks last G V) (h0 : G.K 0 = false) :
    Calls Try.prog 31 #[.pointer (some ⟨g, 0, none⟩)] w fun e w' => ∃ v, e = .returned v ∧ w'.ownsRow w.heap.size 54 3 v (rowsOf G 9).length (flat grC (rowsOf G 9)) ∧ Below w.heap.size w w' := by
  have HRNG := Lib.hid (rows_range h)
  have HIDX := Lib.hid (fun k hk w => idx_rows (gN G) G.T G.S w k hk)
  rw [show rows27 (gN G) G.T G.S = (rows27 (gN G) G.T G.S).toList.toArray by simp] at HIDX
  have HSI := Lib.hid (show (Try.prog.info? 266).map (·.size) = some (rows27 (gN G) G.T G.S).toList.length by kernel_rfl)
  generalize (rows27 (gN G) G.T G.S).toList = AL at *
  have H0 := Lib.hid h0
  clear h h0
  go_enter Try.func31, Try.ntmps31
  go_wp2_with (guard_target =~ wpList _ _ _ ({ dst := some 9, op := _, type := _, pos := _, after := _, guard := _ } :: _) _ _; refine wpList_load_mid rfl 266 (.tmp 8) rfl g 3 rfl AL _ HRNG.out Try.underlying266 rfl HSI.out ?_)
  go_loopg [3, 10] 9 (fun gk ov i wr => ∃ (k : Nat), gk = 9 - k ∧ k ≤ 9 ∧ i = .int .i64 k ∧ wr.ownsRow w.heap.size 54 3 ov (rowsOf G k).length (flat grC (rowsOf G k)) ∧ Below w.heap.size w wr)
  case atStart => exact ⟨0, by omega, by omega, rfl, World.ownsRow_nil _ _ _ _, Below.refl _ _⟩
  case round =>
    obtain ⟨k, hgk, hk, rfl, hown, hb⟩ := hrel
    have HK := Lib.hid hgk
    clear hgk
    by_cases hlt : k < 9
    · have HRO := Lib.hid (show rowsOf G (k + 1) = rowsOf G k ++ (if G.K k then [((k : Int), G.T k, G.S k)] else []) from rfl)
      have hlen := rowsOf_len G k
      have hsz := hb.size
      have hidx := HIDX.out k hlt
      have hlt1 : (k : Int) < 9 := by omega
      have hbk : ((rowsOf G k).length + 1) * 24 ≤ 140737488355328 := by omega
      cases hK : G.K k with
      | false =>
        have hz : gN G k = 0 := by unfold gN; rw [hK]; rfl
        rw [hK] at HRO
        simp only [Bool.false_eq_true, if_false, List.append_nil] at HRO
        rw [hz] at hidx
        clear hlen hK hz
        generalize G.T k = tk at *
        generalize G.S k = sk at *
        go_wp2_with fail
        go_roundg (9 - (k + 1))
        case measure => have := HK.out; omega
        case rel =>
          refine ⟨k + 1, rfl, by omega, by go_num, ?_, hb.alloc hsz _⟩
          rw [HRO.out]
          exact hown.alloc _
      | true =>
        have hk1 : 1 ≤ k := by
          rcases Nat.eq_zero_or_pos k with rfl | h
          · rw [H0.out] at hK; cases hK
          · exact h
        have hz : gN G k = k := by unfold gN; rw [hK]; rfl
        rw [hK] at HRO
        simp only [if_true] at HRO
        rw [hz] at hidx
        have bk : ((k : Int) != 0) = true := by simp; omega
        have bk' : (k != 0) = true := by simp; omega
        clear hlen hK hz
        generalize G.T k = tk at *
        generalize G.S k = sk at *
        go_wp2_with (at_builtin; refine wpList_push_gr rfl (.tmp 16) (.tmp 18) rfl w.heap.size u3 (rowsOf G k) rfl ((hown.alloc _).alloc _) (wr.heap.size + 1) ((k : Int), tk, sk) rfl (gr_new wr _ ((k : Int), tk, sk)) hbk (by simp; omega) ?_; intro v' w5 hown' hg')
        have HB5 := Lib.hid (show Below w.heap.size w w5 from ((hb.alloc hsz _).alloc (by simp; omega) _).grown hg' (by simp; omega) (fun k hk => (hown.lt k hk).1))
        have HOW := Lib.hid hown'
        clear hown' hg'
        go_roundg (9 - (k + 1))
        case measure => have := HK.out; omega
        case rel =>
          refine ⟨k + 1, rfl, by omega, by go_num, ?_, HB5.out⟩
          rw [HRO.out]
          exact HOW.out
    · obtain rfl : k = 9 := by omega
      go_wp2_with fail
      go_ret
      exact ⟨_, rfl, hown, hb⟩
end Go.Proofs.Ytaecgapoaagjfaa
