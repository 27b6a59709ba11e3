/-
  Two rows of the reference put anew at once; the array of a new thing.
-/
import Derived.Test.YtcmkkfpcdebfkaaWt12
namespace Go.Proofs.Ytcmkkfpcdebfkaa
open Go.RowKit

theorem RBox.put2 {w w' : World} {B : Nat} {f : Nat → Nat} {g gl : Nat} {t : TypeId} {n : Int} {N lb : Nat} {r : Nat → RowD} (h : RBox w B f g gl t n N lb r) {i j : Nat} (hi : i < N) (hj : j < N) (hij : i ≠ j) (hgl : gl < lb) (ho : Only (fun b => f b = lb + i ∨ f b = lb + j) w w') {d e : RowD}
    (hd : OwnAt w' B d.e d.k d.A d.n d.cap d.xs) (he : OwnAt w' B e.e e.k e.A e.n e.cap e.xs) (hdA : ∀ b, rblk d.A b → f b = lb + i ∨ w.heap.size ≤ b) (heA : ∀ b, rblk e.A b → f b = lb + j ∨ w.heap.size ≤ b) (hne : ∀ b, rblk d.A b → ¬ rblk e.A b) :
    RBox ((w'.setCell ⟨g, 1 + i, none⟩ d.val).setCell ⟨g, 1 + j, none⟩ e.val) B (rlab (rlab f w.heap.size (lb + i) d.A) w'.heap.size (lb + j) e.A) g gl t n N lb (rupd (rupd r i d) j e) ∧
      ∀ b, b < w.heap.size → rlab (rlab f w.heap.size (lb + i) d.A) w'.heap.size (lb + j) e.A b = f b := by
  have hbx : Box w' g t (rbCells n N r).toArray := ho.box h.box (by have := h.fg; omega)
  have hF : ∀ b, b < w.heap.size → rlab (rlab f w.heap.size (lb + i) d.A) w'.heap.size (lb + j) e.A b = f b := fun b hb => by
    by_cases h1 : rblk e.A b
    · rw [rlab_blk h1]
      rcases heA b h1 with h2 | h2
      · exact h2.symm
      · omega
    · unfold rlab
      rw [if_neg (show ¬ e.A.map (·.block) = some b from h1), if_pos (Nat.lt_of_lt_of_le hb ho.size)]
      exact rlab_old hdA hb
  have hFd : ∀ b, rblk d.A b → rlab (rlab f w.heap.size (lb + i) d.A) w'.heap.size (lb + j) e.A b = lb + i := fun b hb => by
    have h1 : rlab f w.heap.size (lb + i) d.A b = lb + i := rlab_blk hb
    generalize rlab f w.heap.size (lb + i) d.A = f1 at *
    unfold rlab
    rw [if_neg (show ¬ e.A.map (·.block) = some b from hne b hb), if_pos (rblk_lt hd hb).2]
    exact h1
  have hFe : ∀ b, rblk e.A b → rlab (rlab f w.heap.size (lb + i) d.A) w'.heap.size (lb + j) e.A b = lb + j := fun b hb => rlab_blk hb
  generalize rlab (rlab f w.heap.size (lb + i) d.A) w'.heap.size (lb + j) e.A = F at *
  have hFg : F g = gl := (hF g h.box.lt).trans h.fg
  have hoE : Only (fun b => b = g) w' ((w'.setCell ⟨g, 1 + i, none⟩ d.val).setCell ⟨g, 1 + j, none⟩ e.val) := ((Only.refl (fun b => b = g) w').set (p := ⟨g, 1 + i, none⟩) rfl _).set (p := ⟨g, 1 + j, none⟩) rfl _
  refine ⟨⟨?_, fun k hk => ?_, fun k hk b hb => ?_, hFg, h.hB⟩, hF⟩
  · have := (hbx.set (1 + i) d.val).set (1 + j) e.val
    rw [List.setIfInBounds_toArray, List.setIfInBounds_toArray, rbCells_set i hi d, rbCells_set j hj e] at this
    exact this
  · by_cases e1 : k = j
    · subst e1
      rw [rupd_same]
      exact he.only hoE fun b hb e2 => by have h1 := hFe b hb; rw [e2, hFg] at h1; omega
    · rw [rupd_ne _ _ e1]
      by_cases e2 : k = i
      · subst e2
        rw [rupd_same]
        exact hd.only hoE fun b hb e3 => by have h1 := hFd b hb; rw [e3, hFg] at h1; omega
      · rw [rupd_ne _ _ e2]
        exact ((h.own k hk).only ho fun b hb hs => by have := h.lab k hk b hb; omega).only hoE fun b hb e3 => by
          have h1 := h.lab k hk b hb
          rw [e3, h.fg] at h1
          omega
  · by_cases e1 : k = j
    · subst e1; rw [rupd_same] at hb; exact hFe b hb
    · rw [rupd_ne _ _ e1] at hb
      by_cases e2 : k = i
      · subst e2; rw [rupd_same] at hb; exact hFd b hb
      · rw [rupd_ne _ _ e2] at hb
        rw [hF b (rblk_lt (h.own k hk) hb).2]
        exact h.lab k hk b hb
theorem MAt.push12 {w w' : World} {B : Nat} {f : Nat → Nat} {m : Nat} {n : Int} {H K H' K' : List Int} {X : List Th} {Y : List Wy} {r : MR} (h : MAt w B f m n H K X Y r) (ho : Only (fun b => f b = 5 ∨ f b = 6) w w') {A1 A2 : Option Addr} {c1 c2 : Nat}
    (h1 : OwnAt w' B 3 1 A1 H'.length c1 (ints H')) (h2 : OwnAt w' B 3 1 A2 K'.length c2 (ints K')) (hA1 : ∀ b, rblk A1 b → f b = 5 ∨ w.heap.size ≤ b) (hA2 : ∀ b, rblk A2 b → f b = 6 ∨ w.heap.size ≤ b) (hne : ∀ b, rblk A1 b → ¬ rblk A2 b) :
    MPost w ((w'.setCell ⟨m, 1, none⟩ (.slice A1 H'.length c1)).setCell ⟨m, 2, none⟩ (.slice A2 K'.length c2)) B f m n H' K' X Y := by
  obtain ⟨hp, hF⟩ := RBox.put2 h (i := 0) (j := 1) (by omega) (by omega) (by omega) (by omega) ho (d := ⟨A1, H'.length, c1, 3, 1, ints H'⟩) (e := ⟨A2, K'.length, c2, 3, 1, ints K'⟩) h1 h2 hA1 hA2 hne
  have hx : mrow H' K' X Y { r with A1 := A1, c1 := c1, A2 := A2, c2 := c2 } = rupd (rupd (mrow H K X Y r) 0 ⟨A1, H'.length, c1, 3, 1, ints H'⟩) 1 ⟨A2, K'.length, c2, 3, 1, ints K'⟩ := by
    funext j
    match j with
    | 0 => rw [rupd_ne _ _ (by omega), rupd_same]; rfl
    | 1 => rw [rupd_same]; rfl
    | 2 => rw [rupd_ne _ _ (by omega), rupd_ne _ _ (by omega)]; rfl
    | 3 => rw [rupd_ne _ _ (by omega), rupd_ne _ _ (by omega)]; rfl
    | j + 4 => rw [rupd_ne _ _ (by omega), rupd_ne _ _ (by omega)]; rfl
  rw [← hx] at hp
  refine ⟨_, { r with A1 := A1, c1 := c1, A2 := A2, c2 := c2 }, hp, ?_, hF⟩
  have hfm : f m = 2 := RBox.fg h
  refine ((ho.more fun i (hi : f i = 5 ∨ f i = 6) => ?_).set (p := ⟨m, 1, none⟩) ?_ _).set (p := ⟨m, 2, none⟩) ?_ _
  · show mlab (f i)
    unfold mlab; omega
  · show mlab (f m)
    unfold mlab; omega
  · show mlab (f m)
    unfold mlab; omega

theorem MAt.fin12 {w1 w4 wb w5 : World} {B : Nat} {f : Nat → Nat} {m : Nat} {n : Int} {H K : List Int} {X : List Th} {Y : List Wy} {r : MR} (h : MAt w1 B f m n H K X Y r) {a : Int} {g' o' c' g2 o2 c2 : Nat}
    (hO5 : Only (fun b => f b = 5) w1 w4) (k1 : OwnAt w4 B 3 1 (some ⟨g', o', none⟩) (H.length + 1) c' (ints H ++ ints [a])) (k3 : r.A1.map (·.block) = some g' ∨ w1.heap.size ≤ g') (hbb : Below w4.heap.size w4 wb)
    (j1 : OwnAt w5 B 3 1 (some ⟨g2, o2, none⟩) (K.length + 1) c2 (ints K ++ ints [0])) (j2 : wb.grownBy w5 (r.A2.map (·.block))) (j3 : r.A2.map (·.block) = some g2 ∨ g2 = wb.heap.size) :
    MPost w1 ((w5.setCell ⟨m, 1, none⟩ (.slice (some ⟨g', o', none⟩) (H.length + 1) c')).setCell ⟨m, 2, none⟩ (.slice (some ⟨g2, o2, none⟩) (K.length + 1) c2)) B f m n (H ++ [a]) (K ++ [0]) X Y ∧ Only (fun b => f b = 5 ∨ f b = 6) w1 w5 := by
  have hO6 : Only (fun b => f b = 6) wb w5 := grown_lab j2 h.l2
  have ho : Only (fun b => f b = 5 ∨ f b = 6) w1 w5 := ((hO5.more fun i hi => .inl hi).below hbb).trans (hO6.more fun i hi => .inr hi)
  have hold2 : ∀ b, rblk r.A2 b → b < w1.heap.size := fun b hb => (rblk_lt h.o2 hb).2
  have hno : ∀ b, rblk r.A2 b → b ≠ g' := fun b hb e => by
    subst e
    have h6 := h.l2 b hb
    rcases k3 with k3 | k3
    · have h5 := h.l1 b k3
      omega
    · have := hold2 b hb
      omega
  have k1' := (k1.below hbb).grown j2 (fun g o e => by
    injection e with e
    injection e with e _
    subst e
    exact fun e2 => hno _ e2.symm rfl)
  have hl1 : (H ++ [a]).length = H.length + 1 := by simp
  have hl2 : (K ++ [0]).length = K.length + 1 := by simp
  have hp := h.push12 ho (H' := H ++ [a]) (K' := K ++ [0]) (by rw [hl1, show ints (H ++ [a]) = ints H ++ ints [a] by simp [ints]]; exact k1') (by rw [hl2, show ints (K ++ [0]) = ints K ++ ints [0] by simp [ints]]; exact j1) (fun b hb => by
      simp [rblk] at hb; subst hb
      rcases k3 with k3 | k3
      · exact .inl (h.l1 _ k3)
      · exact .inr k3) (fun b hb => by
      simp [rblk] at hb; subst hb
      rcases j3 with j3 | j3
      · exact .inl (h.l2 _ j3)
      · exact .inr (by have := hO5.size; have := hbb.size; omega)) (fun b hb hb2 => by
      simp [rblk] at hb hb2
      subst hb
      rcases j3 with j3 | j3
      · exact hno g2 j3 hb2
      · have := k1.lt.2
        have := hbb.size
        omega)
  rw [hl1, hl2] at hp
  exact ⟨hp, ho⟩
def newTh (a : Int) : Th := ⟨a, 0, fun z => if z = a then 65536 else 0⟩
theorem h8_new : ∀ a : Nat, a < 8 → (#[.int .i64 0, .int .i64 0, .int .i64 0, .int .i64 0, .int .i64 0, .int .i64 0, .int .i64 0, .int .i64 0] : Array Value).setIfInBounds a (.int .i64 65536) = (h8C (newTh a)).toArray
  | 0, _ => by simp [h8C, newTh]
  | 1, _ => by simp [h8C, newTh]
  | 2, _ => by simp [h8C, newTh]
  | 3, _ => by simp [h8C, newTh]
  | 4, _ => by simp [h8C, newTh]
  | 5, _ => by simp [h8C, newTh]
  | 6, _ => by simp [h8C, newTh]
  | 7, _ => by simp [h8C, newTh]
  | a + 8, h => by omega
theorem h8_info : (Try.prog.info? 102).map (fun i => (i.size, i.bytes)) = some (8, 64) := by kernel_rfl
theorem h8_zero : ((Try.prog.info? 102).bind (·.zero)).map (fun z => z.cells.size) = some 8 := by kernel_rfl
theorem h8_parts : ∃ i z, Try.prog.info? 102 = some i ∧ i.zero = some z ∧ i.size = 8 ∧ i.bytes = 64 ∧ z.cells.size = 8 := by
  have h1 := h8_info
  have h2 := h8_zero
  cases hi : Try.prog.info? 102 with
  | none => rw [hi] at h1; cases h1
  | some i =>
    rw [hi] at h1 h2
    simp only [Option.map_some, Option.some.injEq, Prod.mk.injEq, Option.bind_some] at h1 h2
    cases hz : i.zero with
    | none => rw [hz] at h2; cases h2
    | some z =>
      rw [hz] at h2
      simp only [Option.map_some, Option.some.injEq] at h2
      exact ⟨i, z, rfl, hz, h1.1, h1.2, h2⟩
theorem h8_one (x : Th) : ∀ u ∈ h8C x, u.oneCell' = true := by
  intro u hu
  simp only [h8C, List.mem_cons, List.not_mem_nil, or_false] at hu
  rcases hu with rfl | rfl | rfl | rfl | rfl | rfl | rfl | rfl <;> rfl
end Go.Proofs.Ytcmkkfpcdebfkaa
