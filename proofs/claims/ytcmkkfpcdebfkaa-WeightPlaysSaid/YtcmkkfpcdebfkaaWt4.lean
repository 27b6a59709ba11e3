/-
  What a call turns, on either side: the world's messages and things, the reference's rows.
-/
import Derived.Test.YtcmkkfpcdebfkaaWt3
namespace Go.Proofs.Ytcmkkfpcdebfkaa
open Go.RowKit

theorem Only.andThen {S S' : Nat → Prop} {w w1 w2 : World} (h : Only S w w1) (k : Only S' w1 w2) (hS : ∀ b, b < w.heap.size → S' b → S b) : Only S w w2 :=
  ⟨k.os.trans h.os, k.tape.trans h.tape, k.output.trans h.output, Nat.le_trans h.size k.size, fun i hi hne => (k.block i (Nat.lt_of_lt_of_le hi h.size) fun hs => hne (hS i hi hs)).trans (h.block i hi hne)⟩
theorem grown_lab {w w' : World} {A : Option Addr} {f : Nat → Nat} {k : Nat} (hg : w.grownBy w' (A.map (·.block))) (hl : ∀ b, rblk A b → f b = k) : Only (fun b => f b = k) w w' :=
  ⟨hg.os, hg.tape, hg.output, hg.size, fun i hi hne => hg.block i hi fun e => hne (hl i e.symm)⟩
theorem new_lab {w : World} {A : Option Addr} {f : Nat → Nat} {k g' o' : Nat} (hl : ∀ b, rblk A b → f b = k) (hd : A.map (·.block) = some g' ∨ g' = w.heap.size) : ∀ b, rblk (some ⟨g', o', none⟩) b → f b = k ∨ w.heap.size ≤ b := fun b hb => by
  simp [rblk] at hb
  subst hb
  rcases hd with hd | hd
  · exact .inl (hl g' hd)
  · exact .inr (by omega)

/-- The world's side turned. -/
def XPost (w w' : World) (B : Nat) (f : Nat → Nat) (x : Nat) (n : Int) (q : Nat) (s : WS) : Prop :=
  ∃ f' r', XAt w' B f' x n q s r' ∧ Only (fun b => xlab (f b)) w w' ∧ ∀ b, b < w.heap.size → f' b = f b
/-- The reference's side turned. -/
def MPost (w w' : World) (B : Nat) (f : Nat → Nat) (m : Nat) (n : Int) (H K : List Int) (X : List Th) (Y : List Wy) : Prop :=
  ∃ f' r', MAt w' B f' m n H K X Y r' ∧ Only (fun b => mlab (f b)) w w' ∧ ∀ b, b < w.heap.size → f' b = f b
abbrev MSPost (w w' : World) (B : Nat) (f : Nat → Nat) (m : Nat) (n : Int) (s : WS) : Prop := MPost w w' B f m n (s.T.map (·.home)) (s.T.map (·.back)) s.T s.Y

section
variable {w w' w1 w2 : World} {B : Nat} {f : Nat → Nat} {x : Nat} {n : Int} {q q' : Nat} {s s1 s2 : WS} {r : XR}
theorem XPost.andThen (h : XPost w w1 B f x n q s1) (k : ∀ f1 r1, XAt w1 B f1 x n q s1 r1 → XPost w1 w2 B f1 x n q' s2) : XPost w w2 B f x n q' s2 := by
  obtain ⟨f1, r1, h1, h2, h3⟩ := h
  obtain ⟨f2, r2, k1, k2, k3⟩ := k f1 r1 h1
  exact ⟨f2, r2, k1, h2.andThen k2 fun b hb hs => by rw [h3 b hb] at hs; exact hs, fun b hb => (k3 b (Nat.lt_of_lt_of_le hb h2.size)).trans (h3 b hb)⟩
theorem XAt.post (h : XAt w B f x n q s r) : XPost w w B f x n q s := ⟨f, r, h, Only.refl _ _, fun _ _ => rfl⟩
theorem XAt.postB (h : XAt w B f x n q s r) (hb : Below w.heap.size w w') : XPost w w' B f x n q s := ⟨f, r, h.below hb, Only.of_below hb, fun _ _ => rfl⟩
theorem XPost.below (h : XPost w w1 B f x n q s1) (hb : Below w1.heap.size w1 w2) : XPost w w2 B f x n q s1 := h.andThen fun _ _ h1 => h1.postB hb
theorem XPost.mono (h : XPost w w1 B f x n q s1) (hq : q ≤ q') : XPost w w1 B f x n q' s1 := by
  obtain ⟨f1, r1, h1, h2⟩ := h
  exact ⟨f1, r1, h1.mono hq, h2⟩
theorem XAt.l4 (h : XAt w B f x n q s r) : ∀ b, rblk r.A2 b → f b = 4 := fun b hb => h.rb.lab 1 (by omega) b hb
theorem XAt.l3 (h : XAt w B f x n q s r) : ∀ b, rblk r.A b → f b = 3 := fun b hb => h.rb.lab 0 (by omega) b hb
theorem XAt.o2 (h : XAt w B f x n q s r) : OwnAt w B 95 4 r.A2 s.Y.length r.c2 (flat wyC s.Y) := h.rb.own 1 (by omega)
theorem XAt.o1 (h : XAt w B f x n q s r) : OwnAt w B 270 1 r.A s.T.length r.c (flat ptC r.L) := h.rb.own 0 (by omega)
/-- The messages put anew. -/
theorem XAt.waysPost (h : XAt w B f x n q s r) (ho : Only (fun b => f b = 4) w w') {A : Option Addr} {c : Nat} {Y : List Wy} (hown : OwnAt w' B 95 4 A Y.length c (flat wyC Y)) (hA : ∀ b, rblk A b → f b = 4 ∨ w.heap.size ≤ b) :
    XPost w (w'.setCell ⟨x, 2, none⟩ (.slice A Y.length c)) B f x n q { s with Y := Y } := by
  refine ⟨_, _, h.putWays ho hown hA, ?_, fun b hb => rlab_old hA hb⟩
  refine (ho.more fun i (hi : f i = 4) => ?_).set (p := ⟨x, 2, none⟩) ?_ _
  · show xlab (f i)
    unfold xlab; omega
  · show xlab (f x)
    have := h.rb.fg
    unfold xlab; omega
theorem XAt.pushWay (h : XAt w B f x n q s r) {g' o' c' : Nat} {y : Wy} (hown : OwnAt w' B 95 4 (some ⟨g', o', none⟩) (s.Y.length + 1) c' (flat wyC s.Y ++ wyC y)) (hg : w.grownBy w' (r.A2.map (·.block))) (hd : r.A2.map (·.block) = some g' ∨ g' = w.heap.size) :
    XPost w (w'.setCell ⟨x, 2, none⟩ (.slice (some ⟨g', o', none⟩) (s.Y.length + 1) c')) B f x n q { s with Y := s.Y ++ [y] } := by
  have hl : (s.Y ++ [y]).length = s.Y.length + 1 := by simp
  have := h.waysPost (grown_lab hg h.l4) (A := some ⟨g', o', none⟩) (c := c') (Y := s.Y ++ [y]) (by rw [hl, flat_append, flat_one]; exact hown) (new_lab h.l4 hd)
  rw [hl] at this
  exact this
theorem XAt.pushThing (h : XAt w B f x n q s r) {tb mb : Nat} {z : Th} (hb : Box w tb 273 (thCells z mb)) (hm : MapH w mb q z.has) (ht : f tb = 20 + 2 * s.T.length ∧ B ≤ tb) (hf : f mb = 21 + 2 * s.T.length ∧ B ≤ mb)
    {g' o' c' : Nat} (hown : OwnAt w' B 270 1 (some ⟨g', o', none⟩) (s.T.length + 1) c' (flat ptC r.L ++ ptC (tb, mb))) (hg : w.grownBy w' (r.A.map (·.block))) (hd : r.A.map (·.block) = some g' ∨ g' = w.heap.size) :
    XPost w (w'.setCell ⟨x, 1, none⟩ (.slice (some ⟨g', o', none⟩) (s.T.length + 1) c')) B f x n q { s with T := s.T ++ [z] } := by
  have ho := grown_lab hg h.l3
  have hA := new_lab (o' := o') h.l3 hd
  refine ⟨_, _, h.push hb hm ht hf ho (by rw [flat_append, flat_one]; exact hown) hA, ?_, fun b hb => rlab_old hA hb⟩
  refine (ho.more fun i (hi : f i = 3) => ?_).set (p := ⟨x, 1, none⟩) ?_ _
  · show xlab (f i)
    unfold xlab; omega
  · show xlab (f x)
    have := h.rb.fg
    unfold xlab; omega
theorem XAt.mapPost (h : XAt w B f x n q s r) {i : Nat} (hi : i < s.T.length) (ho : Only (· = (thp r i).2) w w') (k v : Int) (hm : MapH w' (thp r i).2 (q + 1) ((s.T.getD i th0).put k v).has) :
    XPost w w' B f x n (q + 1) { s with T := s.T.set i ((s.T.getD i th0).put k v) } := by
  refine ⟨f, r, h.putMap hi ho k v (Nat.le_succ q) hm, ho.more fun b hb => ?_, fun _ _ => rfl⟩
  have := (h.fm i hi).1
  show xlab (f b)
  rw [hb]
  unfold xlab; omega
theorem XAt.backPost (h : XAt w B f x n q s r) {i : Nat} (hi : i < s.T.length) (v : Int) :
    XPost w (w.setCell ⟨(thp r i).1, 1, none⟩ (.int .i64 v)) B f x n q { s with T := s.T.set i ((s.T.getD i th0).turn v) } := by
  obtain ⟨h1, ho⟩ := h.putBack hi v
  refine ⟨f, r, h1, ho.more fun b hb => ?_, fun _ _ => rfl⟩
  have := (h.ft i hi).1
  show xlab (f b)
  rw [hb]
  unfold xlab; omega
theorem XPost.chain {f1 : Nat → Nat} (hO : Only (fun b => xlab (f b)) w w1) (hf : ∀ b, b < w.heap.size → f1 b = f b) (hp : XPost w1 w2 B f1 x n q s) : XPost w w2 B f x n q s := by
  obtain ⟨f2, r2, a1, a2, a3⟩ := hp
  exact ⟨f2, r2, a1, hO.andThen a2 fun b hb hs => by rw [hf b hb] at hs; exact hs, fun b hb => (a3 b (Nat.lt_of_lt_of_le hb hO.size)).trans (hf b hb)⟩
theorem XAt.onlyMap (h : XAt w B f x n q s r) {i : Nat} (hi : i < s.T.length) (ho : Only (· = (thp r i).2) w w') : Only (fun b => xlab (f b)) w w' := ho.more fun b hb => by
  have := (h.fm i hi).1
  show xlab (f b)
  rw [hb]
  unfold xlab; omega
theorem XAt.grown3 (h : XAt w B f x n q s r) (hg : w.grownBy w' (r.A.map (·.block))) : Box w' x 268 (rbCells n 2 (xrow s r)).toArray :=
  h.rb.box.grown hg fun e => by have h1 := h.l3 x e.symm; have h2 := h.rb.fg; omega
theorem XAt.grown4 (h : XAt w B f x n q s r) (hg : w.grownBy w' (r.A2.map (·.block))) : Box w' x 268 (rbCells n 2 (xrow s r)).toArray :=
  h.rb.box.grown hg fun e => by have h1 := h.l4 x e.symm; have h2 := h.rb.fg; omega
/-- Two blocks that are new get labels. -/
theorem XAt.label (h : XAt w B f x n q s r) (hb : Below w.heap.size w w') {tb mb : Nat} (ht : w.heap.size ≤ tb) (hm : w.heap.size ≤ mb) (a b : Nat) :
    XAt w' B (fun z => if z = tb then a else if z = mb then b else f z) x n q s r ∧ ∀ z, z < w.heap.size → (fun z => if z = tb then a else if z = mb then b else f z) z = f z := by
  have hf : ∀ z, z < w.heap.size → (fun z => if z = tb then a else if z = mb then b else f z) z = f z := fun z hz => by
    show (if z = tb then a else if z = mb then b else f z) = f z
    rw [if_neg (by omega), if_neg (by omega)]
  exact ⟨h.keep (S := fun _ => False) (Only.of_below hb) (fun _ h => h.elim) hf, hf⟩
end

theorem h8_set (x : Th) (v : Int) : ∀ j : Nat, j < 8 → h8C (x.put j v) = (h8C x).set j (.int .i64 v)
  | 0, _ => by simp [h8C, Th.put]
  | 1, _ => by simp [h8C, Th.put]
  | 2, _ => by simp [h8C, Th.put]
  | 3, _ => by simp [h8C, Th.put]
  | 4, _ => by simp [h8C, Th.put]
  | 5, _ => by simp [h8C, Th.put]
  | 6, _ => by simp [h8C, Th.put]
  | 7, _ => by simp [h8C, Th.put]
  | j + 8, h => by omega
section
variable {w w' w1 w2 : World} {B : Nat} {f : Nat → Nat} {m : Nat} {n : Int} {H K H1 K1 H2 K2 : List Int} {X X1 X2 : List Th} {Y Y1 Y2 : List Wy} {r : MR}
theorem MPost.andThen (h : MPost w w1 B f m n H1 K1 X1 Y1) (k : ∀ f1 r1, MAt w1 B f1 m n H1 K1 X1 Y1 r1 → MPost w1 w2 B f1 m n H2 K2 X2 Y2) : MPost w w2 B f m n H2 K2 X2 Y2 := by
  obtain ⟨f1, r1, h1, h2, h3⟩ := h
  obtain ⟨f2, r2, k1, k2, k3⟩ := k f1 r1 h1
  exact ⟨f2, r2, k1, h2.andThen k2 fun b hb hs => by rw [h3 b hb] at hs; exact hs, fun b hb => (k3 b (Nat.lt_of_lt_of_le hb h2.size)).trans (h3 b hb)⟩
theorem MAt.post (h : MAt w B f m n H K X Y r) : MPost w w B f m n H K X Y := ⟨f, r, h, Only.refl _ _, fun _ _ => rfl⟩
theorem MAt.postB (h : MAt w B f m n H K X Y r) (hb : Below w.heap.size w w') : MPost w w' B f m n H K X Y := ⟨f, r, h.below hb, Only.of_below hb, fun _ _ => rfl⟩
theorem MPost.below (h : MPost w w1 B f m n H K X Y) (hb : Below w1.heap.size w1 w2) : MPost w w2 B f m n H K X Y := h.andThen fun _ _ h1 => h1.postB hb
theorem MAt.l1 (h : MAt w B f m n H K X Y r) : ∀ b, rblk r.A1 b → f b = 5 := fun b hb => RBox.lab h 0 (by omega) b hb
theorem MAt.l2 (h : MAt w B f m n H K X Y r) : ∀ b, rblk r.A2 b → f b = 6 := fun b hb => RBox.lab h 1 (by omega) b hb
theorem MAt.l3 (h : MAt w B f m n H K X Y r) : ∀ b, rblk r.A3 b → f b = 7 := fun b hb => RBox.lab h 2 (by omega) b hb
theorem MAt.l4 (h : MAt w B f m n H K X Y r) : ∀ b, rblk r.A4 b → f b = 8 := fun b hb => RBox.lab h 3 (by omega) b hb
theorem mlab_set {k : Nat} (hk : mlab k) (h : MAt w B f m n H K X Y r) (ho : Only (fun b => f b = k) w w') (i : Nat) (u : Value) : Only (fun b => mlab (f b)) w (w'.setCell ⟨m, i, none⟩ u) := by
  refine (ho.more fun i (hi : f i = k) => ?_).set (p := ⟨m, i, none⟩) ?_ _
  · show mlab (f i)
    rw [hi]; exact hk
  · show mlab (f m)
    have : f m = 2 := h.fg
    unfold mlab; omega
theorem MAt.wayPost (h : MAt w B f m n H K X Y r) (ho : Only (fun b => f b = 8) w w') {A : Option Addr} {c : Nat} {Y' : List Wy} (hown : OwnAt w' B 95 4 A Y'.length c (flat wyC Y')) (hA : ∀ b, rblk A b → f b = 8 ∨ w.heap.size ≤ b) :
    MPost w (w'.setCell ⟨m, 4, none⟩ (.slice A Y'.length c)) B f m n H K X Y' :=
  ⟨_, _, h.put4 ho hown hA, mlab_set (by unfold mlab; omega) h ho 4 _, fun b hb => rlab_old hA hb⟩
theorem MAt.push1 (h : MAt w B f m n H K X Y r) {g' o' c' : Nat} {y : Int} (hown : OwnAt w' B 3 1 (some ⟨g', o', none⟩) (H.length + 1) c' (ints H ++ ints [y])) (hg : w.grownBy w' (r.A1.map (·.block))) (hd : r.A1.map (·.block) = some g' ∨ g' = w.heap.size) :
    MPost w (w'.setCell ⟨m, 1, none⟩ (.slice (some ⟨g', o', none⟩) (H.length + 1) c')) B f m n (H ++ [y]) K X Y := by
  have hl : (H ++ [y]).length = H.length + 1 := by simp
  have hA := new_lab (o' := o') h.l1 hd
  have := h.put1 (grown_lab hg h.l1) (A := some ⟨g', o', none⟩) (c := c') (H' := H ++ [y]) (by rw [hl, show ints (H ++ [y]) = ints H ++ ints [y] by simp [ints]]; exact hown) hA
  rw [hl] at this
  exact ⟨_, _, this, mlab_set (by unfold mlab; omega) h (grown_lab hg h.l1) 1 _, fun b hb => rlab_old hA hb⟩
theorem MAt.push2 (h : MAt w B f m n H K X Y r) {g' o' c' : Nat} {y : Int} (hown : OwnAt w' B 3 1 (some ⟨g', o', none⟩) (K.length + 1) c' (ints K ++ ints [y])) (hg : w.grownBy w' (r.A2.map (·.block))) (hd : r.A2.map (·.block) = some g' ∨ g' = w.heap.size) :
    MPost w (w'.setCell ⟨m, 2, none⟩ (.slice (some ⟨g', o', none⟩) (K.length + 1) c')) B f m n H (K ++ [y]) X Y := by
  have hl : (K ++ [y]).length = K.length + 1 := by simp
  have hA := new_lab (o' := o') h.l2 hd
  have := h.put2 (grown_lab hg h.l2) (A := some ⟨g', o', none⟩) (c := c') (K' := K ++ [y]) (by rw [hl, show ints (K ++ [y]) = ints K ++ ints [y] by simp [ints]]; exact hown) hA
  rw [hl] at this
  exact ⟨_, _, this, mlab_set (by unfold mlab; omega) h (grown_lab hg h.l2) 2 _, fun b hb => rlab_old hA hb⟩
theorem MAt.push3 (h : MAt w B f m n H K X Y r) {g' o' c' : Nat} {y : Th} (hown : OwnAt w' B 102 8 (some ⟨g', o', none⟩) (X.length + 1) c' (flat h8C X ++ h8C y)) (hg : w.grownBy w' (r.A3.map (·.block))) (hd : r.A3.map (·.block) = some g' ∨ g' = w.heap.size) :
    MPost w (w'.setCell ⟨m, 3, none⟩ (.slice (some ⟨g', o', none⟩) (X.length + 1) c')) B f m n H K (X ++ [y]) Y := by
  have hl : (X ++ [y]).length = X.length + 1 := by simp
  have hA := new_lab (o' := o') h.l3 hd
  have := h.put3 (grown_lab hg h.l3) (A := some ⟨g', o', none⟩) (c := c') (X' := X ++ [y]) (by rw [hl, flat_append, flat_one]; exact hown) hA
  rw [hl] at this
  exact ⟨_, _, this, mlab_set (by unfold mlab; omega) h (grown_lab hg h.l3) 3 _, fun b hb => rlab_old hA hb⟩
theorem MAt.push4 (h : MAt w B f m n H K X Y r) {g' o' c' : Nat} {y : Wy} (hown : OwnAt w' B 95 4 (some ⟨g', o', none⟩) (Y.length + 1) c' (flat wyC Y ++ wyC y)) (hg : w.grownBy w' (r.A4.map (·.block))) (hd : r.A4.map (·.block) = some g' ∨ g' = w.heap.size) :
    MPost w (w'.setCell ⟨m, 4, none⟩ (.slice (some ⟨g', o', none⟩) (Y.length + 1) c')) B f m n H K X (Y ++ [y]) := by
  have hl : (Y ++ [y]).length = Y.length + 1 := by simp
  have := h.wayPost (grown_lab hg h.l4) (A := some ⟨g', o', none⟩) (c := c') (Y' := Y ++ [y]) (by rw [hl, flat_append, flat_one]; exact hown) (new_lab h.l4 hd)
  rw [hl] at this
  exact this
/-- What a node has, stored. -/
theorem MAt.setHas (h : MAt w B f m n H K X Y r) {k j g o : Nat} (hk : k < X.length) (hj : j < 8) (hA : r.A3 = some ⟨g, o, none⟩) (v : Int) :
    MPost w (w.setCell ⟨g, o + k * 8 + j, none⟩ (.int .i64 v)) B f m n H K (X.set k ((X.getD k th0).put j v)) Y := by
  have hfg : f g = 7 := h.l3 g (by rw [hA]; rfl)
  have ho : Only (fun b => f b = 7) w (w.setCell ⟨g, o + k * 8 + j, none⟩ (.int .i64 v)) := (Only.refl _ w).set (p := ⟨g, o + k * 8 + j, none⟩) hfg _
  have h3 := h.o3
  rw [hA] at h3
  have h4 := h3.set (j := k * 8 + j) (.int .i64 v)
  rw [← Nat.add_assoc, flat_set h8C_len X (x := X.getD k th0) _ (by rw [List.getD_eq_getElem?_getD, List.getElem?_eq_getElem hk]; rfl) hj ((X.getD k th0).put j v) (h8_set _ v j hj)] at h4
  have hp := RBox.turn h (j := 2) (by omega) (by omega) (show Only (fun b => f b = 5 + 2) w _ from ho) (xs := flat h8C (X.set k ((X.getD k th0).put j v))) (by
    show OwnAt _ B 102 8 r.A3 X.length r.c3 _
    rw [hA]; exact h4)
  have hx : mrow H K (X.set k ((X.getD k th0).put j v)) Y r = rupd (mrow H K X Y r) 2 { mrow H K X Y r 2 with xs := flat h8C (X.set k ((X.getD k th0).put j v)) } := by
    funext i
    match i with
    | 0 => rw [rupd_ne _ _ (by omega)]; rfl
    | 1 => rw [rupd_ne _ _ (by omega)]; rfl
    | 2 => rw [rupd_same]; simp [mrow]
    | 3 => rw [rupd_ne _ _ (by omega)]; rfl
    | i + 4 => rw [rupd_ne _ _ (by omega)]; rfl
  rw [← hx] at hp
  exact ⟨f, r, hp, ho.more fun i (hi : f i = 7) => by show mlab (f i); unfold mlab; omega, fun _ _ => rfl⟩
/-- What came back, stored. -/
theorem MAt.setBack (h : MAt w B f m n H K X Y r) {k g o : Nat} (hA : r.A2 = some ⟨g, o, none⟩) (v : Int) :
    MPost w (w.setCell ⟨g, o + k, none⟩ (.int .i64 v)) B f m n H (K.set k v) X Y := by
  have hfg : f g = 6 := h.l2 g (by rw [hA]; rfl)
  have ho : Only (fun b => f b = 6) w (w.setCell ⟨g, o + k, none⟩ (.int .i64 v)) := (Only.refl _ w).set (p := ⟨g, o + k, none⟩) hfg _
  have h3 := h.o2
  rw [hA] at h3
  have h4 := h3.set (j := k) (.int .i64 v)
  rw [show (ints K).set k (.int .i64 v) = ints (K.set k v) by simp [ints, List.map_set]] at h4
  have hp := RBox.turn h (j := 1) (by omega) (by omega) (show Only (fun b => f b = 5 + 1) w _ from ho) (xs := ints (K.set k v)) (by
    show OwnAt _ B 3 1 r.A2 K.length r.c2 _
    rw [hA]; exact h4)
  have hx : mrow H (K.set k v) X Y r = rupd (mrow H K X Y r) 1 { mrow H K X Y r 1 with xs := ints (K.set k v) } := by
    funext i
    match i with
    | 0 => rw [rupd_ne _ _ (by omega)]; rfl
    | 1 => rw [rupd_same]; simp [mrow]
    | 2 => rw [rupd_ne _ _ (by omega)]; rfl
    | 3 => rw [rupd_ne _ _ (by omega)]; rfl
    | i + 4 => rw [rupd_ne _ _ (by omega)]; rfl
  rw [← hx] at hp
  exact ⟨f, r, hp, ho.more fun i (hi : f i = 6) => by show mlab (f i); unfold mlab; omega, fun _ _ => rfl⟩
end
theorem MPost.chain {w w1 w2 : World} {B : Nat} {f f1 : Nat → Nat} {m : Nat} {n : Int} {H K : List Int} {X : List Th} {Y : List Wy} (hO : Only (fun b => mlab (f b)) w w1) (hf : ∀ b, b < w.heap.size → f1 b = f b) (hp : MPost w1 w2 B f1 m n H K X Y) : MPost w w2 B f m n H K X Y := by
  obtain ⟨f2, r2, a1, a2, a3⟩ := hp
  exact ⟨f2, r2, a1, hO.andThen a2 fun b hb hs => by rw [hf b hb] at hs; exact hs, fun b hb => (a3 b (Nat.lt_of_lt_of_le hb hO.size)).trans (hf b hb)⟩
theorem MAt.grown4 {w w' : World} {B : Nat} {f : Nat → Nat} {m : Nat} {n : Int} {H K : List Int} {X : List Th} {Y : List Wy} {r : MR} (h : MAt w B f m n H K X Y r) (hg : w.grownBy w' (r.A4.map (·.block))) : Box w' m 100 (rbCells n 4 (mrow H K X Y r)).toArray :=
  (RBox.box h).grown hg fun e => by have h1 := h.l4 m e.symm; have h2 := RBox.fg h; omega
theorem map_home_put (T : List Th) (k : Nat) (j v : Int) : (T.set k ((T.getD k th0).put j v)).map (·.home) = T.map (·.home) := by
  apply List.ext_getElem
  · simp
  · intro i h1 h2
    simp only [List.getElem_map, List.getElem_set]
    split
    · rename_i e
      subst e
      simp only [List.length_map] at h2
      rw [List.getD_eq_getElem?_getD, List.getElem?_eq_getElem h2]
      rfl
    · rfl
theorem map_back_put (T : List Th) (k : Nat) (j v : Int) : (T.set k ((T.getD k th0).put j v)).map (·.back) = T.map (·.back) := by
  apply List.ext_getElem
  · simp
  · intro i h1 h2
    simp only [List.getElem_map, List.getElem_set]
    split
    · rename_i e
      subst e
      simp only [List.length_map] at h2
      rw [List.getD_eq_getElem?_getD, List.getElem?_eq_getElem h2]
      rfl
    · rfl
theorem map_home_turn (T : List Th) (k : Nat) (v : Int) : (T.set k ((T.getD k th0).turn v)).map (·.home) = T.map (·.home) := by
  apply List.ext_getElem
  · simp
  · intro i h1 h2
    simp only [List.getElem_map, List.getElem_set]
    split
    · rename_i e
      subst e
      simp only [List.length_map] at h2
      rw [List.getD_eq_getElem?_getD, List.getElem?_eq_getElem h2]
      rfl
    · rfl
theorem map_back_turn (T : List Th) (k : Nat) (v : Int) : (T.set k ((T.getD k th0).turn v)).map (·.back) = (T.map (·.back)).set k v := by
  rw [List.map_set]; rfl
theorem flat_h8_turn (T : List Th) (k : Nat) (v : Int) : flat h8C (T.set k ((T.getD k th0).turn v)) = flat h8C T := by
  unfold flat
  rw [List.flatMap_def, List.flatMap_def]
  congr 1
  apply List.ext_getElem
  · simp
  · intro i h1 h2
    simp only [List.getElem_map, List.getElem_set]
    split
    · rename_i e
      subst e
      simp only [List.length_map] at h2
      rw [List.getD_eq_getElem?_getD, List.getElem?_eq_getElem h2]
      rfl
    · rfl
end Go.Proofs.Ytcmkkfpcdebfkaa
