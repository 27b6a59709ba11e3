
/-
  CacheTells' state: the cache and the reference's table, told apart.
-/
import Derived.Test.YtdjahlkjfpbifaaCa6
namespace Go.Proofs.Ytdjahlkjfpbifaa
open Go.RowKit Go.Maps Go.WideMaps

theorem Rows1.low {w : World} {base base' : Nat} {k : TypeId} {gm n : Nat} {R : K2 → Option (Option Addr × Nat)} {T : K2 → List Wa} (h : Rows1 w base k gm n R T) (hb : base' ≤ base) : Rows1 w base' k gm n R T :=
  ⟨h.map, fun x p hp => (h.own x p hp).lower hb, h.nil, h.apart, Nat.le_trans hb h.ge, h.len⟩
theorem CaSt.low {w : World} {base base' gk gm n : Nat} {AI : Option Addr} {cI : Nat} {ims : List Im} {R : K2 → Option (Option Addr × Nat)} {T : K2 → List Wa} {hits misses : Int} (h : CaSt w base gk gm n AI cI ims R T hits misses) (hb : base' ≤ base) : CaSt w base' gk gm n AI cI ims R T hits misses :=
  ⟨h.box, h.rows.low hb, h.ims.lower hb, Nat.le_trans hb h.ge⟩
structure ClSt (W w : World) (cv : Array Value) (gk gm gw n1 n2 : Nat) (AI : Option Addr) (cI : Nat) (ims : List Im) (R R2 : K2 → Option (Option Addr × Nat)) (T1 T2 : K2 → List Wa) (h m : Int) : Prop where
  bel : Below W.heap.size W w
  ca : CaSt w W.heap.size gk gm n1 AI cI ims R T1 h m
  ra : Rows1 w W.heap.size 70 gw n2 R2 T2
  dis : ∀ b, RBlk R b → ¬ RBlk R2 b
  gne : gm ≠ gw
  bc : Box w W.heap.size 62 cv
section
variable {W w w' w1 : World} {cv : Array Value} {gk gm gw n1 n2 : Nat} {AI : Option Addr} {cI : Nat} {ims : List Im} {R R2 R' : K2 → Option (Option Addr × Nat)} {T1 T2 T1' : K2 → List Wa} {h m h' m' : Int}
theorem box_not_map {α : Type} {f : α → Lit} {P : Program} {k e : TypeId} {w : World} {b n g : Nat} {F : α → Option Value} {cs : Array Value} (hm : MapV f P k w b n F) (hb : Box w g e cs) : g ≠ b := fun e1 => by
  obtain ⟨D, ⟨es, clock, hh, _⟩, _⟩ := hm
  unfold Box at hb
  rw [e1, hh] at hb
  cases hb
theorem box_not_box {e e' : TypeId} {w : World} {g g' : Nat} {cs cs' : Array Value} (hb : Box w g e cs) (hb' : Box w g' e' cs') (hne : e ≠ e') : g ≠ g' := fun e1 => by
  unfold Box at hb hb'
  rw [e1, hb'] at hb
  injection hb with hb
  injection hb with h1 h2 h3
  exact hne h2.symm
theorem ClSt.below (s : ClSt W w cv gk gm gw n1 n2 AI cI ims R R2 T1 T2 h m) (hb : Below w.heap.size w w') : ClSt W w' cv gk gm gw n1 n2 AI cI ims R R2 T1 T2 h m :=
  ⟨s.bel.trans (hb.mono s.bel.size), s.ca.below hb, s.ra.below hb, s.dis, s.gne, s.bc.below hb s.bc.lt⟩
theorem ClSt.c_blk (s : ClSt W w cv gk gm gw n1 n2 AI cI ims R R2 T1 T2 h m) : W.heap.size ≠ gk ∧ W.heap.size ≠ gm ∧ W.heap.size ≠ gw ∧ (∀ b, RBlk R b → b ≠ W.heap.size) ∧ (∀ b, RBlk R2 b → b ≠ W.heap.size) ∧ gk ≠ gm ∧ gk ≠ gw ∧ (∀ b, RBlk R b → b ≠ gk ∧ b ≠ gw) ∧ (∀ b, RBlk R2 b → b ≠ gk ∧ b ≠ gm) := by
  refine ⟨box_not_box s.bc s.ca.box (by decide), box_not_map s.ca.rows.map s.bc, box_not_map s.ra.map s.bc, fun b hb e => ?_, fun b hb e => ?_, s.ca.k_gm, box_not_map s.ra.map s.ca.box, fun b hb => ⟨fun e => ?_, fun e => ?_⟩, fun b hb => ⟨fun e => ?_, fun e => ?_⟩⟩
  all_goals obtain ⟨x, p, hp, e'⟩ := hb
  · exact box_not_own s.bc (s.ca.rows.own x p hp) (by decide) (by rw [e', e])
  · exact box_not_own s.bc (s.ra.own x p hp) (by decide) (by rw [e', e])
  · exact box_not_own s.ca.box (s.ca.rows.own x p hp) (by decide) (by rw [e', e])
  · exact map_not_own s.ra.map (s.ca.rows.own x p hp) (by rw [e', e])
  · exact box_not_own s.ca.box (s.ra.own x p hp) (by decide) (by rw [e', e])
  · exact map_not_own s.ca.rows.map (s.ra.own x p hp) (by rw [e', e])
/-- Behind Look. -/
theorem ClSt.look {n1' gm' : Nat} (s : ClSt W w cv gk gm gw n1 n2 AI cI ims R R2 T1 T2 h m) (hca : CaSt w' W.heap.size gk gm' n1' AI cI ims R' T1' h' m') (ho : Only (fun b => b = gk ∨ b = gm ∨ RBlk R b) w w') (hR : ∀ b, RBlk R' b → RBlk R b ∨ w.heap.size ≤ b) (hg : gm' = gm ∨ w.heap.size ≤ gm') :
    ClSt W w' cv gk gm' gw n1' n2 AI cI ims R' R2 T1' T2 h' m' := by
  obtain ⟨a1, a2, a3, a4, a5, a6, a7, a8, a9⟩ := s.c_blk
  refine ⟨ho.to_below s.bel s.bel.size fun i hi => ?_, hca, s.ra.only ho (fun e => ?_) (fun b hb e => ?_), fun b hb hb2 => ?_, fun e => ?_, ho.box s.bc fun e => ?_⟩
  · rcases hi with e | e | e
    · rw [e]; exact s.ca.ge
    · rw [e]; exact s.ca.rows.ge
    · exact (s.ca.rows.blk_lt e).1
  · rcases e with e | e | e
    · exact a7 e.symm
    · exact s.gne e.symm
    · exact (a8 _ e).2 rfl
  · rcases e with e | e | e
    · exact (a9 b hb).1 e
    · exact (a9 b hb).2 e
    · exact s.dis b e hb
  · rcases hR b hb with e | e
    · exact s.dis b e hb2
    · have := (s.ra.blk_lt hb2).2
      omega
  · rcases hg with e' | e'
    · exact s.gne (by rw [← e', e])
    · have := s.ra.map.lt
      omega
  · rcases e with e | e | e
    · exact a1 e
    · exact a2 e
    · exact a4 _ e rfl
/-- The reference's row of a site is laid anew. -/
theorem ClSt.put (s : ClSt W w cv gk gm gw n1 n2 AI cI ims R R2 T1 T2 h m) (hn : n2 < maxLen) {a b : Int} (ha : I64 a) (hb : I64 b) {A' : Option Addr} {c' : Nat} {L : List Wa} (hL : L.length ≤ 5) (ho : Below w.heap.size w w1) (hown : OwnAt w1 W.heap.size 77 2 A' L.length c' (flat waC L))
    (hA : ∀ q, A'.map (·.block) = some q → (rowA R2 (k2 a b ha hb)).1.map (·.block) = some q ∨ w.heap.size ≤ q) :
    ∃ w2, (Instr.mapUpdate 67 (.map (some gw)) (.agg #[.int .i64 a, .int .i64 b]) (.slice A' L.length c')).run Try.prog w1 = .ok () w2 ∧ ClSt W w2 cv gk gm gw n1 (n2 + 1) AI cI ims R (updR R2 (k2 a b ha hb) (some (A', c'))) T1 (updR T2 (k2 a b ha hb) L) h m ∧ Only (· = gw) w1 w2 := by
  have s1 := s.below ho
  obtain ⟨a1, a2, a3, a4, a5, a6, a7, a8, a9⟩ := s1.c_blk
  obtain ⟨w2, hrun, hr, ho2⟩ := s.ra.put pairs_keyed Try.underlying67 hn (pair_key ha hb) hL (Only.of_below ho) hown hA
  refine ⟨w2, hrun, ⟨ho2.to_below s1.bel s1.bel.size (fun i hi => by rw [hi]; exact s.ra.ge), ⟨ho2.box s1.ca.box a7, s1.ca.rows.only ho2 s.gne (fun q hq e => (a8 q hq).2 e), s1.ca.ims.only ho2 (fun q hq e => map_not_own s1.ra.map s1.ca.ims (by rw [hq, e])), s.ca.ge⟩, hr, fun q hq hq2 => ?_, s.gne, ho2.box s1.bc a3⟩, ho2⟩
  rcases upd_blk hA q hq2 with e | e
  · exact s.dis q hq e
  · have := (s.ca.rows.blk_lt hq).2
    omega
/-- Behind Forget and clear: nothing is remembered. -/
theorem ClSt.forget {gm' n1' : Nat} (s : ClSt W w cv gk gm gw n1 n2 AI cI ims R R2 T1 T2 h m) (hca : CaSt w' W.heap.size gk gm' n1' AI cI ims (fun _ => none) (fun _ => []) h m) (ho : Only (· = gk) w w') (hg : w.heap.size ≤ gm') :
    ∃ w2, (∀ ty : TypeId, (Builtin.clear_ #[67] ty #[.map (some gw)]).run Try.prog w' = .ok (.tuple #[]) w2) ∧ ClSt W w2 cv gk gm' gw n1' 0 AI cI ims (fun _ => none) (fun _ => none) (fun _ => []) (fun _ => []) h m ∧ Only (· = gw) w' w2 := by
  have s1 := s.look hca (ho.more fun i hi => .inl hi) (fun b hb => by obtain ⟨y, p, hp, _⟩ := hb; cases hp) (.inr hg)
  obtain ⟨a1, a2, a3, a4, a5, a6, a7, a8, a9⟩ := s1.c_blk
  obtain ⟨w2, hrun, hr, ho2⟩ := s1.ra.clear Try.underlying67
  exact ⟨w2, hrun, ⟨ho2.to_below s1.bel s1.bel.size (fun i hi => by rw [hi]; exact s1.ra.ge), ⟨ho2.box s1.ca.box a7, s1.ca.rows.only ho2 s1.gne (fun q hq e => (a8 q hq).2 e), s1.ca.ims.only ho2 (fun q hq e => map_not_own s1.ra.map s1.ca.ims (by rw [hq, e])), s1.ca.ge⟩, hr, (fun q hq => by obtain ⟨y, p, hp, _⟩ := hq; cases hp), s1.gne, ho2.box s1.bc a3⟩, ho2⟩
end
end Go.Proofs.Ytdjahlkjfpbifaa
