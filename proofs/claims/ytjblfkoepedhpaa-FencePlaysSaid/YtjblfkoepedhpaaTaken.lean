/-
  The reference's lease (all that was ever taken): Last, Had; a term appended.
-/
import Derived.Test.YtjblfkoepedhpaaLease
import Derived.OwnWalk
import Derived.Deep.RegionLaw
namespace Go.Proofs.Ytjblfkoepedhpaa
open Go.RowKit

/-- The reference's lease: its block (the time, the slice of terms), the terms' row of the call's own, and its last term. -/
def Mod (w : World) (base gm : Nat) (now : Int) (b cap n : Nat) (nd till : Int) : Prop :=
  ∃ cs, Box w gm 45 #[.int .i64 now, .slice (some ⟨b, 0, none⟩) n cap] ∧ w.ownsRow base 47 2 (.slice (some ⟨b, 0, none⟩) n cap) n cs ∧ 0 < n ∧
    cs[(n - 1) * 2]? = some (.int .i64 nd) ∧ cs[(n - 1) * 2 + 1]? = some (.int .i64 till)

section
variable {w : World} {base gm : Nat} {now : Int} {b cap n : Nat} {nd till : Int}
theorem Mod.c0 (h : Mod w base gm now b cap n nd till) : w.cell? ⟨gm, 0, none⟩ = some (.int .i64 now) := by
  obtain ⟨cs, h1, _⟩ := h; simpa using Box.cell h1 0
theorem Mod.c1 (h : Mod w base gm now b cap n nd till) : w.cell? ⟨gm, 1, none⟩ = some (.slice (some ⟨b, 0, none⟩) n cap) := by
  obtain ⟨cs, h1, _⟩ := h; simpa using Box.cell h1 1
theorem Mod.t0 (h : Mod w base gm now b cap n nd till) : w.cell? ⟨b, (n - 1) * 2, none⟩ = some (.int .i64 nd) := by
  obtain ⟨cs, _, h2, h3, h4, _⟩ := h
  rw [h2.cellAt _ (by omega)]; exact h4
theorem Mod.t1 (h : Mod w base gm now b cap n nd till) : w.cell? ⟨b, (n - 1) * 2 + 1, none⟩ = some (.int .i64 till) := by
  obtain ⟨cs, _, h2, h3, h4, h5⟩ := h
  rw [h2.cellAt _ (by omega)]; exact h5
theorem Mod.f (h : Mod w base gm now b cap n nd till) (j : Nat) : w.frozen? ⟨b, j, none⟩ = false := by
  obtain ⟨cs, _, h2, _⟩ := h
  exact h2.frozenAt j
theorem Mod.n1 (h : Mod w base gm now b cap n nd till) : n ≤ maxLen := by
  obtain ⟨cs, _, h2, _⟩ := h
  rcases h2.2 with ⟨h, _⟩ | ⟨_, _, _, h, _, _, h1, h2, _⟩
  · cases h
  · cases h; omega
end

set_option maxHeartbeats 400000 in
theorem last_any (base gm : Nat) (now : Int) (b cap n : Nat) (nd till : Int) (w : World) (h : Mod w base gm now b cap n nd till) (hn : 0 < n) :
    Calls Try.prog 29 #[.pointer (some ⟨gm, 0, none⟩)] w fun e w' => e = .returned (.pointer (some ⟨b, (n - 1) * 2, none⟩)) ∧ ∃ k, w' = w.drewN k := by
  have c1 := h.c1
  have hm := h.n1
  unfold maxLen at hm
  have wr : IntKind.i64.wrap ((n : Int) - 1) = (n : Int) - 1 := IntWalk.i64_in _ (by omega)
  have a1 : 0 ≤ (n : Int) - 1 := by omega
  have a2 : ((n : Int) - 1).toNat = n - 1 := by omega
  have a3 : (n : Int) - 1 < n := by omega
  go_enter Try.func29, Try.ntmps29
  go_wp2_with fail
  go_quiet (fail)
  go_wp2_with fail
  go_ret
  exact ⟨rfl, _, rfl⟩

theorem Mod.drewN {w : World} {base gm : Nat} {now : Int} {b cap n : Nat} {nd till : Int} (h : Mod w base gm now b cap n nd till) (k : Nat) : Mod (w.drewN k) base gm now b cap n nd till := h

set_option maxHeartbeats 800000 in
theorem had_any (base gm : Nat) (now : Int) (b cap n : Nat) (nd till : Int) (w : World) (h : Mod w base gm now b cap n nd till) (hn : 0 < n) :
    Calls Try.prog 31 #[.pointer (some ⟨gm, 0, none⟩)] w fun e w' => e = .returned (.bool (decide (0 < nd) && decide (now < till))) ∧ ∃ k, w' = w.drewN k := by
  have c0 := h.c0
  have c1 := h.c1
  have t0 := h.t0
  have t1 := h.t1
  have d0 : decide ((0 : Int) < (n : Int)) = true := by simp; omega
  have d0' : decide (0 < n) = true := by simp; omega
  have HL := Lib.hid (fun k => last_any base gm now b cap n nd till (w.drewN k) (h.drewN k) hn)
  by_cases h1 : 0 < nd
  · have d1 : decide (0 < nd) = true := by simp; omega
    rw [d1, Bool.true_and]
    go_enter Try.func31, Try.ntmps31
    go_wp2_with fail
    go_quiet ((go_at_call 29; exact Calls.quiet_of (HL.out _)))
    go_wp2_with fail
    go_ret
    exact ⟨rfl, _, rfl⟩
  · have d1 : decide (0 < nd) = false := by simp; omega
    rw [d1, Bool.false_and]
    go_enter Try.func31, Try.ntmps31
    go_wp2_with fail
    go_quiet ((go_at_call 29; exact Calls.quiet_of (HL.out _)))
    go_wp2_with fail
    go_ret
    exact ⟨rfl, _, rfl⟩

set_option maxHeartbeats 400000 in
theorem had_none (gm : Nat) (now : Int) (w : World) (h : Box w gm 45 #[.int .i64 now, .slice none 0 0]) :
    Calls Try.prog 31 #[.pointer (some ⟨gm, 0, none⟩)] w fun e w' => e = .returned (.bool false) ∧ ∃ k, w' = w.drewN k := by
  have c1 : w.cell? ⟨gm, 1, none⟩ = some (.slice none 0 0) := by simpa using h.cell 1
  go_enter Try.func31, Try.ntmps31
  go_wp2_with fail
  go_quiet (fail)
  go_wp2_with fail
  go_ret
  exact ⟨rfl, _, rfl⟩

theorem step_append_own {P : Program} {w : World} {ops : Array Oper} {o : Oper} {a : Act} {K : Act → World → Prop} {Q : Exit → Act → World → Prop} {E : Prop} (hgd : o.guard = none) (s x : Operand) (t : TypeId)
    (ho : o.op = .call { callee := .builtin .append, args := #[s, x], argTypes := #[t, t] })
    (base : Nat) (e : TypeId) (i : TypeInfo) (z : Value) (size bytes : Nat) (ht : P.underlying t = some (.slice e)) (hi : P.info? e = some i) (hz : i.zero = some z)
    (hsize : i.size = size) (hby : i.bytes = bytes) (hzs : z.cells.size = size) (hsz : 0 < size)
    (v : Value) (n : Nat) (xs : List Value) (hs : a.eval s = v) (hown : w.ownsRow base e size v n xs)
    (ad : Addr) (m c : Nat) (news : List Value) (hx : a.eval x = .slice (some ad) m c) (hl : news.length = m * size) (hnews : ∀ j u, news[j]? = some u → w.cell? (ad.add j) = some u) (h1 : ∀ u ∈ news, u.oneCell' = true)
    (h63 : n + m ≤ maxLen) (hbytes : (n + m) * bytes ≤ 140737488355328) (hbase : base ≤ w.heap.size)
    (h : ∀ v' w', w'.ownsRow base e size v' (n + m) (xs ++ news) → w.grownBy w' v.ownBlock → (v' = .slice none 0 0 ↔ v = .slice none 0 0 ∧ m = 0) → K (a.put o.dst v') w') :
    if Region.wanted o (yielded ops a.tmps) = true then Oper.wp P o a w K Q else E := by
  have hw : Region.wanted o (yielded ops a.tmps) = true := by simp [Region.wanted, hgd]
  rw [if_pos hw]
  exact wp_append_own w s x t ho base e i z size bytes ht hi hz hsize hby hzs hsz v n xs hs hown ad m c news hx hl hnews h1 h63 hbytes hbase h

theorem own_form {w : World} {base : Nat} {e : TypeId} {size n : Nat} {v : Value} {xs : List Value} (h : w.ownsRow base e size v n xs) (hn : 0 < n) :
    ∃ g cap, v = .slice (some ⟨g, 0, none⟩) n cap := by
  rcases h.2 with ⟨_, h0⟩ | ⟨g, cap, cur, rfl, _⟩
  · omega
  · exact ⟨g, cap, rfl⟩
theorem own_ne_box {w : World} {base : Nat} {e t : TypeId} {size n g : Nat} {v : Value} {xs : List Value} {cs : Array Value} (h : w.ownsRow base e size v n xs) (hg : Box w g t cs) (hne : e ≠ t) : v.ownBlock ≠ some g := by
  rcases h.2 with ⟨rfl, _⟩ | ⟨g', cap, cur, rfl, _, hh, _⟩
  · simp [Value.ownBlock]
  · intro he
    have e1 : g' = g := by simpa [Value.ownBlock] using he
    subst e1
    unfold Box at hg
    rw [hh] at hg; injection hg with hg; injection hg with _ ht; exact hne ht

theorem cells_new2 (w : World) (t : TypeId) (x y : Value) (j : Nat) (u : Value) (h : [x, y][j]? = some u) : (w.alloc (.cells #[x, y] t)).cell? ((⟨w.heap.size, 0, none⟩ : Addr).add j) = some u := by
  have e : (⟨w.heap.size, 0, none⟩ : Addr).add j = ⟨w.heap.size, j, none⟩ := by unfold Addr.add; split <;> simp_all
  rw [e, (Box.new w t #[x, y]).cell j]
  simpa using h
theorem one_ints (a b : Int) : ∀ u ∈ [Value.int .i64 a, .int .i64 b], u.oneCell' = true := by
  intro u hu
  simp at hu
  rcases hu with rfl | rfl <;> rfl
end Go.Proofs.Ytjblfkoepedhpaa
