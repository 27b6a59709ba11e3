/-
  Weighted references: what is held (the same for both sides), and how the two sides lie in memory.
-/
import Derived.Test.YtcmkkfpcdebfkaaRBox
import Derived.Test.YtcmkkfpcdebfkaaWyCat
import Derived.Test.YtcmkkfpcdebfkaaIntSet
namespace Go.Proofs.Ytcmkkfpcdebfkaa
open Go.RowKit Go.Maps

/-- A thing: its home, what came back, and what each node has. -/
structure Th where
  home : Int
  back : Int
  has : Int → Int
def th0 : Th := ⟨0, 0, fun _ => 0⟩
def Th.put (x : Th) (k v : Int) : Th := { x with has := fun z => if z = k then v else x.has z }
def Th.turn (x : Th) (v : Int) : Th := { x with back := v }
abbrev Wy := Int × Int × Int × Bool
def wyd : Wy := (0, 0, 0, false)
abbrev w64 (z : Int) : Int := wrap64 z
/-- All that is held. -/
structure WS where
  T : List Th
  Y : List Wy
def WS.at (s : WS) (t : Int) : Th := s.T.getD t.toNat th0
def WS.new (s : WS) (node : Int) : WS := { s with T := s.T ++ [⟨node, 0, fun z => if z = node then 65536 else 0⟩] }
/-- The weight, or the error. -/
def hasE (n : Int) (s : WS) (node t : Int) : Int := if (node < 0 ∨ n ≤ node) ∨ t < 0 ∨ (s.T.length : Int) ≤ t then 1 else if (s.at t).has node = 0 then 4 else 0
def hasV (n : Int) (s : WS) (node t : Int) : Int := if hasE n s node t = 0 then (s.at t).has node else 0
def makeE (n : Int) (s : WS) (node : Int) : Int := if node < 0 ∨ n ≤ node then 1 else if s.T.length = 20 then 6 else 0
def half (z : Int) : Int := w64 (z.tdiv 2)
def sendE (n : Int) (s : WS) (node t to : Int) : Int :=
  if hasE n s node t ≠ 0 then hasE n s node t else if (to < 0 ∨ n ≤ to) ∨ to = node then 1 else if s.Y.length = 60 then 6 else if (s.at t).has node = 1 then 8 else 0
def WS.sent (s : WS) (node t to : Int) : WS :=
  ⟨s.T.set t.toNat ((s.at t).put node (w64 ((s.at t).has node - half ((s.at t).has node)))), s.Y ++ [(to, t, half ((s.at t).has node), false)]⟩
def dropE (n : Int) (s : WS) (node t : Int) : Int := if hasE n s node t ≠ 0 then hasE n s node t else if s.Y.length = 60 then 6 else 0
def WS.dropped (s : WS) (node t : Int) : WS := ⟨s.T.set t.toNat ((s.at t).put node 0), s.Y ++ [((s.at t).home, t, (s.at t).has node, true)]⟩
def comeE (s : WS) (i : Int) : Int := if i < 0 ∨ (s.Y.length : Int) ≤ i then 4 else 0
/-- A message came. -/
def cameT (T : List Th) (y : Wy) : List Th :=
  if y.2.2.2 = true then T.set y.2.1.toNat ((T.getD y.2.1.toNat th0).turn (w64 ((T.getD y.2.1.toNat th0).back + y.2.2.1)))
  else T.set y.2.1.toNat ((T.getD y.2.1.toNat th0).put y.1 (w64 ((T.getD y.2.1.toNat th0).has y.1 + y.2.2.1)))
def WS.came (s : WS) (i : Nat) : WS := ⟨cameT s.T (s.Y.getD i wyd), s.Y.take i ++ s.Y.drop (i + 1)⟩
/-- What always holds: each message is for a thing and a node that are there. -/
structure WOk (n : Int) (s : WS) : Prop where
  n1 : 1 ≤ n
  n8 : n ≤ 8
  t20 : s.T.length ≤ 20
  y60 : s.Y.length ≤ 60
  home : ∀ i, i < s.T.length → 0 ≤ (s.T.getD i th0).home ∧ (s.T.getD i th0).home < n
  way : ∀ i, i < s.Y.length → 0 ≤ (s.Y.getD i wyd).1 ∧ (s.Y.getD i wyd).1 < n ∧ 0 ≤ (s.Y.getD i wyd).2.1 ∧ (s.Y.getD i wyd).2.1 < s.T.length

/-- A pointer's cell. -/
def ptC (p : Nat × Nat) : List Value := [.pointer (some ⟨p.1, 0, none⟩)]
theorem ptC_len (p : Nat × Nat) : (ptC p).length = 1 := rfl
/-- What the eight nodes have. -/
def h8C (x : Th) : List Value := [.int .i64 (x.has 0), .int .i64 (x.has 1), .int .i64 (x.has 2), .int .i64 (x.has 3), .int .i64 (x.has 4), .int .i64 (x.has 5), .int .i64 (x.has 6), .int .i64 (x.has 7)]
theorem h8C_len (x : Th) : (h8C x).length = 8 := rfl

/-- Where the world's rows lie, and its things. -/
structure XR where
  A : Option Addr
  c : Nat
  A2 : Option Addr
  c2 : Nat
  L : List (Nat × Nat)
def rowd0 : RowD := ⟨none, 0, 0, 3, 1, []⟩
def xrow (s : WS) (r : XR) : Nat → RowD
  | 0 => ⟨r.A, s.T.length, r.c, 270, 1, flat ptC r.L⟩
  | 1 => ⟨r.A2, s.Y.length, r.c2, 95, 4, flat wyC s.Y⟩
  | _ => rowd0
def thCells (x : Th) (m : Nat) : Array Value := #[.int .i64 x.home, .int .i64 x.back, .map (some m)]
def thp (r : XR) (i : Nat) : Nat × Nat := r.L.getD i (0, 0)
/-- A thing's map. -/
def MapH (w : World) (b q : Nat) (H : Int → Int) : Prop := ∃ F, IntMap w b q F ∧ ∀ z, (F z).getD (.int .i64 0) = .int .i64 (H z)
/-- The world of package weight, in block x: labels 1, 3 and 4 its own, 20 and on its things'. -/
structure XAt (w : World) (B : Nat) (f : Nat → Nat) (x : Nat) (n : Int) (q : Nat) (s : WS) (r : XR) : Prop where
  rb : RBox w B f x 1 268 n 2 3 (xrow s r)
  len : r.L.length = s.T.length
  tb : ∀ i, i < s.T.length → Box w (thp r i).1 273 (thCells (s.T.getD i th0) (thp r i).2)
  mp : ∀ i, i < s.T.length → MapH w (thp r i).2 q (s.T.getD i th0).has
  ft : ∀ i, i < s.T.length → f (thp r i).1 = 20 + 2 * i ∧ B ≤ (thp r i).1
  fm : ∀ i, i < s.T.length → f (thp r i).2 = 21 + 2 * i ∧ B ≤ (thp r i).2
def xlab (k : Nat) : Prop := k = 1 ∨ k = 3 ∨ k = 4 ∨ 20 ≤ k
def mlab (k : Nat) : Prop := k = 2 ∨ (5 ≤ k ∧ k ≤ 8)

theorem MapH.only {w w' : World} {b q : Nat} {H : Int → Int} (h : MapH w b q H) {S : Nat → Prop} (ho : Only S w w') (hS : ¬ S b) : MapH w' b q H := by
  obtain ⟨F, h1, h2⟩ := h
  exact ⟨F, h1.only ho hS, h2⟩
theorem MapH.mono {w : World} {b q q' : Nat} {H : Int → Int} (h : MapH w b q H) (hq : q ≤ q') : MapH w b q' H := by
  obtain ⟨F, h1, h2⟩ := h
  exact ⟨F, h1.mono hq, h2⟩
theorem MapH.lt {w : World} {b q : Nat} {H : Int → Int} (h : MapH w b q H) : b < w.heap.size := by
  obtain ⟨F, h1, _⟩ := h
  exact h1.lt
theorem MapH.look {w : World} {b q : Nat} {H : Int → Int} (h : MapH w b q H) {x : Int} (hx : I64 x) :
    (Instr.lookup 271 (.map (some b)) (.int .i64 x) false).run Try.prog w = .ok (.int .i64 (H x)) w := by
  obtain ⟨F, h1, h2⟩ := h
  rw [h1.look ints_keyed Try.underlying271 (zero_intS w) (int_key hx), h2]
theorem MapH.put {w : World} {b q : Nat} {H : Int → Int} (h : MapH w b q H) {x : Int} (hx : I64 x) (hq : q < maxLen) (v : Int) :
    ∃ w', (Instr.mapUpdate 271 (.map (some b)) (.int .i64 x) (.int .i64 v)).run Try.prog w = .ok () w' ∧ MapH w' b (q + 1) (fun z => if z = x then v else H z) ∧ Only (· = b) w w' := by
  obtain ⟨F, h1, h2⟩ := h
  obtain ⟨w', hrun, h3, h4⟩ := h1.put ints_keyed Try.underlying271 hq intL_inj intL_key (int_key hx) (.int .i64 v)
  refine ⟨w', hrun, ⟨_, h3, fun z => ?_⟩, ⟨h4.os, h4.tape, h4.output, h4.size, fun i hi hne => h4.block i hi (fun e => hne (Option.some.inj e))⟩⟩
  by_cases e : z = x
  · subst e; simp
  · simp only [if_neg e]; exact h2 z
theorem MapH.drop {w : World} {b q : Nat} {H : Int → Int} (h : MapH w b q H) {x : Int} (hx : I64 x) :
    ∃ w', (∀ ty, (Builtin.delete_ #[271, 3] ty #[.map (some b), .int .i64 x]).run Try.prog w = .ok (.tuple #[]) w') ∧ MapH w' b q (fun z => if z = x then 0 else H z) ∧ Only (· = b) w w' := by
  obtain ⟨F, h1, h2⟩ := h
  obtain ⟨w', hrun, h3, h4⟩ := h1.drop ints_keyed Try.underlying271 intL_inj (int_key hx) 0
  refine ⟨w', fun ty => hrun, ⟨_, h3, fun z => ?_⟩, ⟨h4.os, h4.tape, h4.output, h4.size, fun i hi hne => h4.block i hi (fun e => hne (Option.some.inj e))⟩⟩
  by_cases e : z = x
  · subst e; simp
  · simp only [if_neg e]; exact h2 z

section
variable {w w' : World} {B : Nat} {f f' : Nat → Nat} {x : Nat} {n : Int} {q q' : Nat} {s : WS} {r : XR}
theorem XAt.keep (h : XAt w B f x n q s r) {S : Nat → Prop} (ho : Only S w w') (hS : ∀ b, S b → ¬ xlab (f b)) (hf : ∀ b, b < w.heap.size → f' b = f b) : XAt w' B f' x n q s r := by
  refine ⟨h.rb.keep ho (fun b hb e => hS b hb (.inl e)) (fun b hb j hj e => hS b hb ?_) hf, h.len, fun i hi => ho.box (h.tb i hi) fun hs => hS _ hs ?_, fun i hi => (h.mp i hi).only ho fun hs => hS _ hs ?_, fun i hi => ⟨(hf _ (h.tb i hi).lt).trans (h.ft i hi).1, (h.ft i hi).2⟩, fun i hi => ⟨(hf _ (h.mp i hi).lt).trans (h.fm i hi).1, (h.fm i hi).2⟩⟩
  · unfold xlab; omega
  · have := (h.ft i hi).1; unfold xlab; omega
  · have := (h.fm i hi).1; unfold xlab; omega
theorem XAt.below (h : XAt w B f x n q s r) (hb : Below w.heap.size w w') : XAt w' B f x n q s r := h.keep (S := fun _ => False) (Only.of_below hb) (fun _ h => h.elim) fun _ _ => rfl
theorem XAt.mono (h : XAt w B f x n q s r) (hq : q ≤ q') : XAt w B f x n q' s r := ⟨h.rb, h.len, h.tb, fun i hi => (h.mp i hi).mono hq, h.ft, h.fm⟩
theorem set_getD {α : Type} (l : List α) (d : α) (k i : Nat) (y : α) (hk : k < l.length) : (l.set k y).getD i d = if i = k then y else l.getD i d := by
  simp only [List.getD_eq_getElem?_getD]
  by_cases h : i = k
  · subst h; simp [hk]
  · rw [if_neg h, List.getElem?_set_ne (Ne.symm h)]
/-- A thing's map turned. -/
theorem XAt.putMap (h : XAt w B f x n q s r) {i : Nat} (hi : i < s.T.length) (ho : Only (· = (thp r i).2) w w') (k v : Int) (hq : q ≤ q') (hm : MapH w' (thp r i).2 q' ((s.T.getD i th0).put k v).has) :
    XAt w' B f x n q' { s with T := s.T.set i ((s.T.getD i th0).put k v) } r := by
  have hfi := (h.fm i hi).1
  have hx : xrow { s with T := s.T.set i ((s.T.getD i th0).put k v) } r = xrow s r := by
    funext j
    match j with
    | 0 => simp [xrow]
    | 1 => rfl
    | j + 2 => rfl
  refine ⟨?_, by simpa using h.len, fun j hj => ?_, fun j hj => ?_, fun j hj => h.ft j (by simpa using hj), fun j hj => h.fm j (by simpa using hj)⟩
  · rw [hx]
    refine h.rb.keep (f' := f) ho (fun b hb e => ?_) (fun b hb j hj e => ?_) fun _ _ => rfl
    · subst hb; omega
    · subst hb; omega
  · replace hj : j < s.T.length := by simpa using hj
    have hb := ho.box (h.tb j hj) (fun e => by have h1 := (h.ft j hj).1; rw [e] at h1; omega)
    rw [set_getD _ _ _ _ _ hi]
    by_cases e : j = i
    · subst e; rw [if_pos rfl]; exact hb
    · rw [if_neg e]; exact hb
  · replace hj : j < s.T.length := by simpa using hj
    rw [set_getD _ _ _ _ _ hi]
    by_cases e : j = i
    · subst e; rw [if_pos rfl]; exact hm
    · rw [if_neg e]
      exact ((h.mp j hj).only ho fun e2 => by have h1 := (h.fm j hj).1; rw [e2] at h1; omega).mono hq
/-- A thing's weight that came back, stored. -/
theorem XAt.putBack (h : XAt w B f x n q s r) {i : Nat} (hi : i < s.T.length) (v : Int) :
    XAt (w.setCell ⟨(thp r i).1, 1, none⟩ (.int .i64 v)) B f x n q { s with T := s.T.set i ((s.T.getD i th0).turn v) } r ∧ Only (· = (thp r i).1) w (w.setCell ⟨(thp r i).1, 1, none⟩ (.int .i64 v)) := by
  have ho : Only (· = (thp r i).1) w (w.setCell ⟨(thp r i).1, 1, none⟩ (.int .i64 v)) := (Only.refl (· = (thp r i).1) w).set (p := ⟨(thp r i).1, 1, none⟩) rfl _
  have hfi := (h.ft i hi).1
  have hx : xrow { s with T := s.T.set i ((s.T.getD i th0).turn v) } r = xrow s r := by
    funext j
    match j with
    | 0 => simp [xrow]
    | 1 => rfl
    | j + 2 => rfl
  refine ⟨⟨?_, by simpa using h.len, fun j hj => ?_, fun j hj => ?_, fun j hj => h.ft j (by simpa using hj), fun j hj => h.fm j (by simpa using hj)⟩, ho⟩
  · rw [hx]
    refine h.rb.keep (f' := f) ho (fun b hb e => ?_) (fun b hb j hj e => ?_) fun _ _ => rfl
    · subst hb; omega
    · subst hb; omega
  · replace hj : j < s.T.length := by simpa using hj
    rw [set_getD _ _ _ _ _ hi]
    by_cases e : j = i
    · subst e
      rw [if_pos rfl]
      have := (h.tb j hj).set 1 (.int .i64 v)
      exact this
    · rw [if_neg e]
      exact ho.box (h.tb j hj) (fun e2 => by have h1 := (h.ft j hj).1; rw [e2] at h1; omega)
  · replace hj : j < s.T.length := by simpa using hj
    have hm := (h.mp j hj).only ho fun e2 => by have h1 := (h.fm j hj).1; rw [e2] at h1; omega
    rw [set_getD _ _ _ _ _ hi]
    by_cases e : j = i
    · subst e; rw [if_pos rfl]; exact hm
    · rw [if_neg e]; exact hm
/-- The messages put anew, and stored. -/
theorem XAt.putWays (h : XAt w B f x n q s r) (ho : Only (fun b => f b = 4) w w') {A : Option Addr} {c : Nat} {Y : List Wy} (hown : OwnAt w' B 95 4 A Y.length c (flat wyC Y)) (hA : ∀ b, rblk A b → f b = 4 ∨ w.heap.size ≤ b) :
    XAt (w'.setCell ⟨x, 2, none⟩ (.slice A Y.length c)) B (rlab f w.heap.size 4 A) x n q { s with Y := Y } { r with A2 := A, c2 := c } := by
  have hfx := h.rb.fg
  have hxl := h.rb.box.lt
  have ho2 : Only (fun b => f b = 4 ∨ b = x) w (w'.setCell ⟨x, 2, none⟩ (.slice A Y.length c)) := (ho.more fun i hi => .inl hi).set (p := ⟨x, 2, none⟩) (.inr rfl) _
  have hne : ∀ k b, f b = 20 + k → ¬ (f b = 4 ∨ b = x) := fun k b hb e => by
    rcases e with e | e
    · omega
    · subst e; omega
  refine ⟨?_, h.len, fun j hj => ho2.box (h.tb j hj) (hne _ _ (h.ft j hj).1), fun j hj => (h.mp j hj).only ho2 (hne (1 + 2 * j) _ (by rw [(h.fm j hj).1]; omega)), fun j hj => ⟨(rlab_old hA (h.tb j hj).lt).trans (h.ft j hj).1, (h.ft j hj).2⟩, fun j hj => ⟨(rlab_old hA (h.mp j hj).lt).trans (h.fm j hj).1, (h.fm j hj).2⟩⟩
  have hp := h.rb.put (j := 1) (by omega) (by omega) ho (d := ⟨A, Y.length, c, 95, 4, flat wyC Y⟩) hown hA
  have hx : xrow { s with Y := Y } { r with A2 := A, c2 := c } = rupd (xrow s r) 1 ⟨A, Y.length, c, 95, 4, flat wyC Y⟩ := by
    funext j
    match j with
    | 0 => rw [rupd_ne _ _ (by omega)]; rfl
    | 1 => rw [rupd_same]; rfl
    | j + 2 => rw [rupd_ne _ _ (by omega)]; rfl
  rw [hx]
  exact hp
/-- A thing more, and the things' row stored. -/
theorem XAt.push (h : XAt w B f x n q s r) {tb mb : Nat} {z : Th} (hb : Box w tb 273 (thCells z mb)) (hm : MapH w mb q z.has) (ht : f tb = 20 + 2 * s.T.length ∧ B ≤ tb) (hf : f mb = 21 + 2 * s.T.length ∧ B ≤ mb)
    (ho : Only (fun b => f b = 3) w w') {A : Option Addr} {c : Nat} (hown : OwnAt w' B 270 1 A (s.T.length + 1) c (flat ptC (r.L ++ [(tb, mb)]))) (hA : ∀ b, rblk A b → f b = 3 ∨ w.heap.size ≤ b) :
    XAt (w'.setCell ⟨x, 1, none⟩ (.slice A (s.T.length + 1) c)) B (rlab f w.heap.size 3 A) x n q { s with T := s.T ++ [z] } { r with A := A, c := c, L := r.L ++ [(tb, mb)] } := by
  have hfx := h.rb.fg
  have hxl := h.rb.box.lt
  have ho2 : Only (fun b => f b = 3 ∨ b = x) w (w'.setCell ⟨x, 1, none⟩ (.slice A (s.T.length + 1) c)) := (ho.more fun i hi => .inl hi).set (p := ⟨x, 1, none⟩) (.inr rfl) _
  have hne : ∀ k b, f b = 20 + k → ¬ (f b = 3 ∨ b = x) := fun k b hb e => by
    rcases e with e | e
    · omega
    · subst e; omega
  have hlast : ∀ j, j < s.T.length + 1 → (j < s.T.length ∧ thp { r with A := A, c := c, L := r.L ++ [(tb, mb)] } j = thp r j ∧ (s.T ++ [z]).getD j th0 = s.T.getD j th0) ∨ (j = s.T.length ∧ thp { r with A := A, c := c, L := r.L ++ [(tb, mb)] } j = (tb, mb) ∧ (s.T ++ [z]).getD j th0 = z) := fun j hj => by
    have hl := h.len
    rcases Nat.lt_or_ge j s.T.length with h1 | h1
    · refine .inl ⟨h1, ?_, ?_⟩
      · unfold thp
        simp only [List.getD_eq_getElem?_getD]
        rw [List.getElem?_append_left (by omega)]
      · simp only [List.getD_eq_getElem?_getD]
        rw [List.getElem?_append_left h1]
    · obtain rfl : j = s.T.length := by omega
      refine .inr ⟨rfl, ?_, ?_⟩
      · unfold thp
        simp only [List.getD_eq_getElem?_getD]
        rw [List.getElem?_append_right (by omega), hl]
        simp
      · simp
  refine ⟨?_, by simp [h.len], fun j hj => ?_, fun j hj => ?_, fun j hj => ?_, fun j hj => ?_⟩
  · have hp := h.rb.put (j := 0) (by omega) (by omega) ho (d := ⟨A, s.T.length + 1, c, 270, 1, flat ptC (r.L ++ [(tb, mb)])⟩) hown hA
    have hx : xrow { s with T := s.T ++ [z] } { r with A := A, c := c, L := r.L ++ [(tb, mb)] } = rupd (xrow s r) 0 ⟨A, s.T.length + 1, c, 270, 1, flat ptC (r.L ++ [(tb, mb)])⟩ := by
      funext j
      match j with
      | 0 => rw [rupd_same]; simp [xrow]
      | 1 => rw [rupd_ne _ _ (by omega)]; rfl
      | j + 2 => rw [rupd_ne _ _ (by omega)]; rfl
    rw [hx]
    exact hp
  · rcases hlast j (by simpa using hj) with ⟨h1, h2, h3⟩ | ⟨h1, h2, h3⟩
    · rw [h2, h3]; exact ho2.box (h.tb j h1) (hne _ _ (h.ft j h1).1)
    · rw [h2, h3]; exact ho2.box hb (hne _ _ ht.1)
  · rcases hlast j (by simpa using hj) with ⟨h1, h2, h3⟩ | ⟨h1, h2, h3⟩
    · rw [h2, h3]; exact (h.mp j h1).only ho2 (hne (1 + 2 * j) _ (by rw [(h.fm j h1).1]; omega))
    · rw [h2, h3]; exact hm.only ho2 (hne (1 + 2 * s.T.length) _ (by rw [hf.1]; omega))
  · rcases hlast j (by simpa using hj) with ⟨h1, h2, h3⟩ | ⟨h1, h2, h3⟩
    · rw [h2, rlab_old hA (h.tb j h1).lt]; exact h.ft j h1
    · rw [h2, rlab_old hA hb.lt, h1]; exact ht
  · rcases hlast j (by simpa using hj) with ⟨h1, h2, h3⟩ | ⟨h1, h2, h3⟩
    · rw [h2, rlab_old hA (h.mp j h1).lt]; exact h.fm j h1
    · rw [h2, rlab_old hA hm.lt, h1]; exact hf
end

/-- Where the reference's rows lie. -/
structure MR where
  A1 : Option Addr
  c1 : Nat
  A2 : Option Addr
  c2 : Nat
  A3 : Option Addr
  c3 : Nat
  A4 : Option Addr
  c4 : Nat
def mrow (H K : List Int) (X : List Th) (Y : List Wy) (r : MR) : Nat → RowD
  | 0 => ⟨r.A1, H.length, r.c1, 3, 1, ints H⟩
  | 1 => ⟨r.A2, K.length, r.c2, 3, 1, ints K⟩
  | 2 => ⟨r.A3, X.length, r.c3, 102, 8, flat h8C X⟩
  | 3 => ⟨r.A4, Y.length, r.c4, 95, 4, flat wyC Y⟩
  | _ => rowd0
/-- The reference, in block m: label 2, its rows 5 to 8. -/
def MAt (w : World) (B : Nat) (f : Nat → Nat) (m : Nat) (n : Int) (H K : List Int) (X : List Th) (Y : List Wy) (r : MR) : Prop := RBox w B f m 2 100 n 4 5 (mrow H K X Y r)
abbrev MS (w : World) (B : Nat) (f : Nat → Nat) (m : Nat) (n : Int) (s : WS) (r : MR) : Prop := MAt w B f m n (s.T.map (·.home)) (s.T.map (·.back)) s.T s.Y r
section
variable {w w' : World} {B : Nat} {f f' : Nat → Nat} {m : Nat} {n : Int} {H K : List Int} {X : List Th} {Y : List Wy} {r : MR}
theorem MAt.keep (h : MAt w B f m n H K X Y r) {S : Nat → Prop} (ho : Only S w w') (hS : ∀ b, S b → ¬ mlab (f b)) (hf : ∀ b, b < w.heap.size → f' b = f b) : MAt w' B f' m n H K X Y r := by
  refine RBox.keep h ho (fun b hb e => hS b hb (.inl e)) (fun b hb j hj e => hS b hb ?_) hf
  unfold mlab; omega
theorem MAt.below (h : MAt w B f m n H K X Y r) (hb : Below w.heap.size w w') : MAt w' B f m n H K X Y r := h.keep (S := fun _ => False) (Only.of_below hb) (fun _ h => h.elim) fun _ _ => rfl
theorem MAt.put1 (h : MAt w B f m n H K X Y r) (ho : Only (fun b => f b = 5) w w') {A : Option Addr} {c : Nat} {H' : List Int} (hown : OwnAt w' B 3 1 A H'.length c (ints H')) (hA : ∀ b, rblk A b → f b = 5 ∨ w.heap.size ≤ b) :
    MAt (w'.setCell ⟨m, 1, none⟩ (.slice A H'.length c)) B (rlab f w.heap.size 5 A) m n H' K X Y { r with A1 := A, c1 := c } := by
  have hp := RBox.put h (j := 0) (by omega) (by omega) ho (d := ⟨A, H'.length, c, 3, 1, ints H'⟩) hown hA
  have hx : mrow H' K X Y { r with A1 := A, c1 := c } = rupd (mrow H K X Y r) 0 ⟨A, H'.length, c, 3, 1, ints H'⟩ := by
    funext j
    match j with
    | 0 => rw [rupd_same]; rfl
    | 1 => rw [rupd_ne _ _ (by omega)]; rfl
    | 2 => rw [rupd_ne _ _ (by omega)]; rfl
    | 3 => rw [rupd_ne _ _ (by omega)]; rfl
    | j + 4 => rw [rupd_ne _ _ (by omega)]; rfl
  unfold MAt
  rw [hx]
  exact hp
theorem MAt.put2 (h : MAt w B f m n H K X Y r) (ho : Only (fun b => f b = 6) w w') {A : Option Addr} {c : Nat} {K' : List Int} (hown : OwnAt w' B 3 1 A K'.length c (ints K')) (hA : ∀ b, rblk A b → f b = 6 ∨ w.heap.size ≤ b) :
    MAt (w'.setCell ⟨m, 2, none⟩ (.slice A K'.length c)) B (rlab f w.heap.size 6 A) m n H K' X Y { r with A2 := A, c2 := c } := by
  have hp := RBox.put h (j := 1) (by omega) (by omega) ho (d := ⟨A, K'.length, c, 3, 1, ints K'⟩) hown hA
  have hx : mrow H K' X Y { r with A2 := A, c2 := c } = rupd (mrow H K X Y r) 1 ⟨A, K'.length, c, 3, 1, ints K'⟩ := by
    funext j
    match j with
    | 0 => rw [rupd_ne _ _ (by omega)]; rfl
    | 1 => rw [rupd_same]; rfl
    | 2 => rw [rupd_ne _ _ (by omega)]; rfl
    | 3 => rw [rupd_ne _ _ (by omega)]; rfl
    | j + 4 => rw [rupd_ne _ _ (by omega)]; rfl
  unfold MAt
  rw [hx]
  exact hp
theorem MAt.put3 (h : MAt w B f m n H K X Y r) (ho : Only (fun b => f b = 7) w w') {A : Option Addr} {c : Nat} {X' : List Th} (hown : OwnAt w' B 102 8 A X'.length c (flat h8C X')) (hA : ∀ b, rblk A b → f b = 7 ∨ w.heap.size ≤ b) :
    MAt (w'.setCell ⟨m, 3, none⟩ (.slice A X'.length c)) B (rlab f w.heap.size 7 A) m n H K X' Y { r with A3 := A, c3 := c } := by
  have hp := RBox.put h (j := 2) (by omega) (by omega) ho (d := ⟨A, X'.length, c, 102, 8, flat h8C X'⟩) hown hA
  have hx : mrow H K X' Y { r with A3 := A, c3 := c } = rupd (mrow H K X Y r) 2 ⟨A, X'.length, c, 102, 8, flat h8C X'⟩ := by
    funext j
    match j with
    | 0 => rw [rupd_ne _ _ (by omega)]; rfl
    | 1 => rw [rupd_ne _ _ (by omega)]; rfl
    | 2 => rw [rupd_same]; rfl
    | 3 => rw [rupd_ne _ _ (by omega)]; rfl
    | j + 4 => rw [rupd_ne _ _ (by omega)]; rfl
  unfold MAt
  rw [hx]
  exact hp
theorem MAt.put4 (h : MAt w B f m n H K X Y r) (ho : Only (fun b => f b = 8) w w') {A : Option Addr} {c : Nat} {Y' : List Wy} (hown : OwnAt w' B 95 4 A Y'.length c (flat wyC Y')) (hA : ∀ b, rblk A b → f b = 8 ∨ w.heap.size ≤ b) :
    MAt (w'.setCell ⟨m, 4, none⟩ (.slice A Y'.length c)) B (rlab f w.heap.size 8 A) m n H K X Y' { r with A4 := A, c4 := c } := by
  have hp := RBox.put h (j := 3) (by omega) (by omega) ho (d := ⟨A, Y'.length, c, 95, 4, flat wyC Y'⟩) hown hA
  have hx : mrow H K X Y' { r with A4 := A, c4 := c } = rupd (mrow H K X Y r) 3 ⟨A, Y'.length, c, 95, 4, flat wyC Y'⟩ := by
    funext j
    match j with
    | 0 => rw [rupd_ne _ _ (by omega)]; rfl
    | 1 => rw [rupd_ne _ _ (by omega)]; rfl
    | 2 => rw [rupd_ne _ _ (by omega)]; rfl
    | 3 => rw [rupd_same]; rfl
    | j + 4 => rw [rupd_ne _ _ (by omega)]; rfl
  unfold MAt
  rw [hx]
  exact hp
end
end Go.Proofs.Ytcmkkfpcdebfkaa
