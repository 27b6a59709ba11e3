/-
  Lines: what holds between the two ends, in plain lists.
-/
import Derived.Test.YtaecgapoaagjfaaLineX10
namespace Go.Proofs.Ytaecgapoaagjfaa
open Go.RowKit

def toldAt (t : Int) (k : Nat) : Int := if t < k then k else t
/-- The packets of the first k. -/
def outM (s : LS) : Nat → List Pkt
  | 0 => []
  | k + 1 => outM s k ++ (if (k : Int) < s.told then [] else [⟨u32 (s.mbase + k), u32 s.took, true, s.win - s.rd, s.All.getD (s.mbase.toNat + k) []⟩])
theorem outM_len (s : LS) : ∀ k, (outM s k).length ≤ k
  | 0 => Nat.le_refl _
  | k + 1 => by
    have := outM_len s k
    rw [outM, List.length_append]
    split <;> simp <;> omega
def ackM (s : LS) : Pkt := ⟨u32 s.All.length, u32 s.took, false, s.win - s.rd, []⟩
def outN (s : LS) : Nat := min s.mlim.toNat (s.All.length - s.mbase.toNat)
def outMX (s : LS) : List Pkt := if outM s (outN s) = [] ∧ s.owe = true then [ackM s] else outM s (outN s)

/-- What the reference does with a packet's acknowledgement, and with its body. -/
def ackR (s : LS) (p : Pkt) : LS :=
  if 1 ≤ sdiff p.ack (u32 s.mbase) ∧ sdiff p.ack (u32 s.mbase) ≤ (s.All.length : Int) - s.mbase then
    { s with mbase := s.mbase + sdiff p.ack (u32 s.mbase), mlim := p.window, told := if s.told - sdiff p.ack (u32 s.mbase) < 0 then 0 else s.told - sdiff p.ack (u32 s.mbase) }
  else if sdiff p.ack (u32 s.mbase) = 0 then { s with mlim := if s.mlim < p.window then p.window else s.mlim } else s
def bodyR (s : LS) (p : Pkt) : LS :=
  if p.has = true then (if p.seq = u32 s.took ∧ s.rd < s.win then { s with owe := true, took := s.took + 1, rd := s.rd + 1, Got := s.Got ++ [p.body] } else { s with owe := true }) else s

structure LRel (s : LS) (K : Nat) : Prop where
  w1 : 1 ≤ s.win
  w2 : s.win ≤ 16
  lim : s.lim = s.mlim
  l0 : 0 ≤ s.mlim
  l16 : s.mlim ≤ 16
  b0 : 0 ≤ s.mbase
  b1 : s.mbase ≤ s.All.length
  q : s.Q.map Prod.fst = s.All.drop s.mbase.toNat
  qw : (s.Q.length : Int) ≤ s.win
  sent : ∀ i, i < s.Q.length → (s.Q.getD i ([], false)).2 = decide ((i : Int) < s.told)
  t0 : 0 ≤ s.told
  tq : s.told ≤ s.Q.length
  base : s.base = u32 s.mbase
  want : s.want = u32 s.took
  k0 : 0 ≤ s.took
  kK : s.took ≤ K
  I : s.I = s.Got
  rd : s.rd = s.I.length
  rdw : s.rd ≤ s.win
  due : s.due = s.owe
  sz : ∀ x ∈ s.Q, x.1.length ≤ 1048576
  aK : s.All.length ≤ K

section
variable {s : LS} {K : Nat}
theorem LRel.len (h : LRel s K) : (s.Q.length : Int) = s.All.length - s.mbase := by
  have h1 := congrArg List.length h.q
  have h2 := h.b0
  have h3 := h.b1
  rw [List.length_map, List.length_drop] at h1
  omega
theorem LRel.more (h : LRel s K) {K' : Nat} (hk : K ≤ K') : LRel s K' :=
  ⟨h.w1, h.w2, h.lim, h.l0, h.l16, h.b0, h.b1, h.q, h.qw, h.sent, h.t0, h.tq, h.base, h.want, h.k0, by have := h.kK; omega, h.I, h.rd, h.rdw, h.due, h.sz, by have := h.aK; omega⟩
theorem LRel.put (h : LRel s K) (bs : Body) (hb : bs.length ≤ 1048576) (hw : ¬ (s.Q.length : Int) = s.win) :
    LRel { s with All := s.All ++ [bs], Q := s.Q ++ [(bs, false)] } (K + 1) := by
  have hq := h.qw
  have hb0 := h.b0
  have hb1 := h.b1
  have htq := h.tq
  refine ⟨h.w1, h.w2, h.lim, h.l0, h.l16, h.b0, ?_, ?_, ?_, ?_, h.t0, ?_, h.base, h.want, h.k0, by have := h.kK; show s.took ≤ _; omega, h.I, h.rd, h.rdw, h.due, ?_, ?_⟩
  · show s.mbase ≤ ((s.All ++ [bs]).length : Int)
    rw [List.length_append]; simp; omega
  · show (s.Q ++ [(bs, false)]).map Prod.fst = (s.All ++ [bs]).drop s.mbase.toNat
    rw [List.map_append, h.q, List.drop_append_of_le_length (by omega)]
    rfl
  · show ((s.Q ++ [(bs, false)]).length : Int) ≤ s.win
    rw [List.length_append]; simp; omega
  · intro i hi
    show ((s.Q ++ [(bs, false)]).getD i ([], false)).2 = _
    change i < (s.Q ++ [(bs, false)]).length at hi
    rw [List.length_append, List.length_singleton] at hi
    rw [List.getD_eq_getElem?_getD]
    by_cases e : i < s.Q.length
    · rw [List.getElem?_append_left e, ← List.getD_eq_getElem?_getD]
      exact h.sent i e
    · obtain rfl : i = s.Q.length := by omega
      rw [List.getElem?_append_right (Nat.le_refl _), Nat.sub_self]
      show false = _
      simp; omega
  · show s.told ≤ ((s.Q ++ [(bs, false)]).length : Int)
    rw [List.length_append]; simp; omega
  · intro x hx
    rcases List.mem_append.1 hx with h1 | h1
    · exact h.sz x h1
    · rw [List.mem_singleton.1 h1]; exact hb
  · show (s.All ++ [bs]).length ≤ K + 1
    have := h.aK
    rw [List.length_append]; simp; omega

theorem LRel.body (h : LRel s K) (i : Nat) (_hi : i < s.Q.length) : (s.Q.getD i ([], false)).1 = s.All.getD (s.mbase.toNat + i) [] := by
  have h1 : (s.Q.map Prod.fst)[i]? = (s.All.drop s.mbase.toNat)[i]? := by rw [h.q]
  rw [List.getElem?_map, List.getElem?_drop] at h1
  rw [List.getD_eq_getElem?_getD, List.getD_eq_getElem?_getD, ← h1]
  cases s.Q[i]? <;> rfl
theorem LRel.outP (h : LRel s K) : ∀ k, k ≤ s.Q.length → outP s k = outM s k
  | 0, _ => rfl
  | k + 1, hk => by
    rw [Go.Proofs.Ytaecgapoaagjfaa.outP, outM, LRel.outP h k (by omega), h.sent k (by omega), h.body k (by omega), h.base, h.want, h.rd]
    have e : u32 (u32 s.mbase + (k : Int)) = u32 (s.mbase + k) := by unfold u32; omega
    rw [e]
    simp only [decide_eq_true_eq]
theorem LRel.n (h : LRel s K) : min s.lim.toNat s.Q.length = outN s := by
  have := h.len
  have := h.b0
  unfold outN
  rw [h.lim]
  omega
theorem LRel.outs (h : LRel s K) : outX s = outMX s := by
  have e : ackP s = ackM s := by
    unfold ackP ackM
    rw [h.base, h.want, h.rd, show u32 (u32 s.mbase + (s.Q.length : Int)) = u32 s.All.length by rw [h.len]; unfold u32; omega]
  unfold outX outMX
  rw [h.n, h.outP (outN s) (by rw [← h.n]; omega), h.due, e]
theorem sentTo_at (Q : List (Body × Bool)) (n i : Nat) (hi : i < Q.length) : ((sentTo Q n).getD i ([], false)).2 = (decide (i < n) || (Q.getD i ([], false)).2) := by
  unfold sentTo
  rw [List.getD_eq_getElem?_getD, List.getD_eq_getElem?_getD, List.getElem?_append]
  by_cases e : i < n
  · rw [if_pos (by simp; omega), List.getElem?_map, List.getElem?_take, if_pos e, List.getElem?_eq_getElem hi]
    simp [e]
  · rw [if_neg (by simp; omega), List.getElem?_drop]
    simp only [List.length_map, List.length_take]
    by_cases e2 : n ≤ Q.length
    · rw [show n + (i - min n Q.length) = i by omega]; simp [e]
    · omega
theorem sentTo_fst (Q : List (Body × Bool)) (n : Nat) : (sentTo Q n).map Prod.fst = Q.map Prod.fst := by
  unfold sentTo
  rw [List.map_append, List.map_map]
  show (Q.take n).map Prod.fst ++ _ = _
  rw [← List.map_append, List.take_append_drop]
theorem LRel.out (h : LRel s K) : LRel { s with Q := sentTo s.Q (min s.lim.toNat s.Q.length), due := false, told := toldAt s.told (outN s), owe := false } K := by
  have hn := h.n
  have ht := h.t0
  have htq := h.tq
  have hnq : outN s ≤ s.Q.length := by rw [← hn]; omega
  rw [hn]
  refine ⟨h.w1, h.w2, h.lim, h.l0, h.l16, h.b0, h.b1, ?_, ?_, ?_, ?_, ?_, h.base, h.want, h.k0, h.kK, h.I, h.rd, h.rdw, rfl, ?_, h.aK⟩
  · exact (sentTo_fst _ _).trans h.q
  · show ((sentTo s.Q (outN s)).length : Int) ≤ s.win
    rw [sentTo_len]; exact h.qw
  · intro i hi
    change i < (sentTo s.Q (outN s)).length at hi
    rw [sentTo_len] at hi
    show ((sentTo s.Q (outN s)).getD i ([], false)).2 = decide ((i : Int) < toldAt s.told (outN s))
    rw [sentTo_at _ _ _ hi, h.sent i hi]
    unfold toldAt
    split <;> (rw [Bool.eq_iff_iff]; simp; omega)
  · show 0 ≤ toldAt _ _
    unfold toldAt
    split <;> omega
  · show toldAt _ _ ≤ ((sentTo s.Q (outN s)).length : Int)
    rw [sentTo_len]
    unfold toldAt
    split <;> omega
  · intro x hx
    have hx' : x.1 ∈ (sentTo s.Q (outN s)).map Prod.fst := List.mem_map_of_mem hx
    rw [sentTo_fst] at hx'
    obtain ⟨y, hy, e⟩ := List.mem_map.1 hx'
    rw [← e]
    exact h.sz y hy
theorem LRel.got (h : LRel s K) : LRel { s with I := [], due := s.due || decide (0 < s.I.length), rd := 0, Got := [], owe := s.owe || decide (0 < s.Got.length) } K := by
  have hw1 := h.w1
  refine ⟨h.w1, h.w2, h.lim, h.l0, h.l16, h.b0, h.b1, h.q, h.qw, h.sent, h.t0, h.tq, h.base, h.want, h.k0, h.kK, rfl, rfl, ?_, ?_, h.sz, h.aK⟩
  · show (0 : Int) ≤ s.win
    omega
  · show (s.due || decide (0 < s.I.length)) = (s.owe || decide (0 < s.Got.length))
    rw [h.due, h.I]
theorem unsent_fst (Q : List (Body × Bool)) (n : Nat) : (unsent Q n).map Prod.fst = Q.map Prod.fst := by
  unfold unsent
  rw [List.map_append, List.map_map]
  show (Q.take n).map Prod.fst ++ _ = _
  rw [← List.map_append, List.take_append_drop]
theorem LRel.tick (h : LRel s K) : LRel { s with Q := unsent s.Q s.Q.length, lim := if s.Q = [] then s.lim else if s.lim < 1 then 1 else s.lim, told := 0, mlim := if (s.mbase < s.All.length) ∧ s.mlim < 1 then 1 else s.mlim } K := by
  have hl := h.len
  have hl0 := h.l0
  have hl16 := h.l16
  have hlen : (unsent s.Q s.Q.length).length = s.Q.length := by
    have := congrArg List.length (unsent_fst s.Q s.Q.length)
    simpa using this
  refine ⟨h.w1, h.w2, ?_, ?_, ?_, h.b0, h.b1, ?_, ?_, ?_, Int.le_refl _, ?_, h.base, h.want, h.k0, h.kK, h.I, h.rd, h.rdw, h.due, ?_, h.aK⟩
  · show (if s.Q = [] then s.lim else if s.lim < 1 then 1 else s.lim) = (if (s.mbase < s.All.length) ∧ s.mlim < 1 then 1 else s.mlim)
    rw [h.lim]
    by_cases e : s.Q = []
    · rw [if_pos e, if_neg (fun hc => by rw [e] at hl; simp at hl; omega)]
    · have : 0 < s.Q.length := List.length_pos_iff.2 e
      rw [if_neg e]
      by_cases e2 : s.mlim < 1
      · rw [if_pos e2, if_pos ⟨by omega, e2⟩]
      · rw [if_neg e2, if_neg (fun hc => e2 hc.2)]
  · show 0 ≤ (if (s.mbase < s.All.length) ∧ s.mlim < 1 then 1 else s.mlim)
    split <;> omega
  · show (if (s.mbase < s.All.length) ∧ s.mlim < 1 then 1 else s.mlim) ≤ 16
    split <;> omega
  · exact (unsent_fst _ _).trans h.q
  · show ((unsent s.Q s.Q.length).length : Int) ≤ s.win
    rw [hlen]; exact h.qw
  · intro i hi
    change i < (unsent s.Q s.Q.length).length at hi
    rw [hlen] at hi
    show ((unsent s.Q s.Q.length).getD i ([], false)).2 = decide ((i : Int) < 0)
    unfold unsent
    rw [List.take_length, List.drop_length, List.append_nil, List.getD_eq_getElem?_getD, List.getElem?_map, List.getElem?_eq_getElem hi]
    show false = _
    simp
  · show (0 : Int) ≤ ((unsent s.Q s.Q.length).length : Int)
    omega
  · intro x hx
    have hx' : x.1 ∈ (unsent s.Q s.Q.length).map Prod.fst := List.mem_map_of_mem hx
    rw [unsent_fst] at hx'
    obtain ⟨y, hy, e⟩ := List.mem_map.1 hx'
    rw [← e]
    exact h.sz y hy
theorem LRel.ack (h : LRel s K) (p : Pkt) (hw1 : 0 ≤ p.window) (hw2 : p.window ≤ 16) (ha0 : 0 ≤ p.ack) (ha1 : p.ack < 4294967296) : LRel (ackX (ackR s p) p) K := by
  have hlen := h.len
  have hb0 := h.b0
  have hl0 := h.l0
  have hl16 := h.l16
  have hbase := h.base
  unfold ackR
  by_cases hA : 1 ≤ sdiff p.ack (u32 s.mbase) ∧ sdiff p.ack (u32 s.mbase) ≤ (s.All.length : Int) - s.mbase
  · rw [if_pos hA]
    unfold ackX
    dsimp only
    rw [hbase, hlen, if_pos hA]
    have hd : u32 (s.mbase + sdiff p.ack (u32 s.mbase)) = p.ack := by
      unfold sdiff u32
      split <;> omega
    generalize sdiff p.ack (u32 s.mbase) = d at *
    obtain ⟨n, rfl⟩ := Int.eq_ofNat_of_zero_le (show 0 ≤ d by omega)
    have hql := h.qw
    have ht := h.tq
    rw [Int.toNat_natCast]
    refine ⟨h.w1, h.w2, rfl, hw1, hw2, by show 0 ≤ s.mbase + (n : Int); omega, by show s.mbase + (n : Int) ≤ (s.All.length : Int); omega, ?_, ?_, ?_, ?_, ?_, hd.symm, h.want, h.k0, h.kK, h.I, h.rd, h.rdw, h.due, fun x hx => h.sz x (List.mem_of_mem_drop hx), h.aK⟩
    · show (s.Q.drop n).map Prod.fst = s.All.drop (s.mbase + (n : Int)).toNat
      rw [List.map_drop, h.q, List.drop_drop, show (s.mbase + (n : Int)).toNat = s.mbase.toNat + n by omega]
    · show ((s.Q.drop n).length : Int) ≤ s.win
      rw [List.length_drop]; omega
    · intro i hi
      change i < (s.Q.drop n).length at hi
      rw [List.length_drop] at hi
      show ((s.Q.drop n).getD i ([], false)).2 = decide ((i : Int) < if s.told - (n : Int) < 0 then 0 else s.told - (n : Int))
      have := h.sent (n + i) (by omega)
      rw [List.getD_eq_getElem?_getD] at this ⊢
      rw [List.getElem?_drop, this]
      split <;> (rw [Bool.eq_iff_iff]; simp; omega)
    · show 0 ≤ if s.told - (n : Int) < 0 then 0 else s.told - (n : Int)
      split <;> omega
    · show (if s.told - (n : Int) < 0 then 0 else s.told - (n : Int)) ≤ ((s.Q.drop n).length : Int)
      rw [List.length_drop]
      split <;> omega
  · rw [if_neg hA]
    by_cases h0 : sdiff p.ack (u32 s.mbase) = 0
    · rw [if_pos h0]
      unfold ackX
      dsimp only
      rw [hbase, hlen, if_neg hA, if_pos h0]
      refine ⟨h.w1, h.w2, ?_, ?_, ?_, h.b0, h.b1, h.q, h.qw, h.sent, h.t0, h.tq, rfl, h.want, h.k0, h.kK, h.I, h.rd, h.rdw, h.due, h.sz, h.aK⟩
      · show (if s.lim < p.window then p.window else s.lim) = (if s.mlim < p.window then p.window else s.mlim)
        rw [h.lim]
      · show 0 ≤ (if s.mlim < p.window then p.window else s.mlim)
        split <;> omega
      · show (if s.mlim < p.window then p.window else s.mlim) ≤ 16
        split <;> omega
    · rw [if_neg h0]
      unfold ackX
      rw [hbase, hlen, if_neg hA, if_neg h0]
      exact h
theorem LRel.bodyC (h : LRel s K) (p : Pkt) : LRel (bodyX (bodyR s p) p) (K + 1) := by
  unfold bodyR
  have hk := h.kK
  have ha := h.aK
  have hrd := h.rd
  have hrw := h.rdw
  have hk0 := h.k0
  by_cases hh : p.has = true
  · rw [if_pos hh]
    by_cases hc : p.seq = u32 s.took ∧ s.rd < s.win
    · rw [if_pos hc]
      unfold bodyX
      dsimp only
      rw [if_pos hh, h.want, ← hrd, if_pos hc]
      refine ⟨h.w1, h.w2, h.lim, h.l0, h.l16, h.b0, h.b1, h.q, h.qw, h.sent, h.t0, h.tq, h.base, ?_, by show 0 ≤ s.took + 1; omega, by show s.took + 1 ≤ _; omega, ?_, ?_, by show s.rd + 1 ≤ s.win; omega, rfl, h.sz, by show s.All.length ≤ _; omega⟩
      · show u32 (u32 s.took + 1) = u32 (s.took + 1)
        unfold u32; omega
      · show s.I ++ [p.body] = s.Got ++ [p.body]
        rw [h.I]
      · show s.rd + 1 = ((s.I ++ [p.body]).length : Int)
        rw [List.length_append]; simp; omega
    · rw [if_neg hc]
      unfold bodyX
      dsimp only
      rw [if_pos hh, h.want, ← hrd, if_neg hc]
      exact ⟨h.w1, h.w2, h.lim, h.l0, h.l16, h.b0, h.b1, h.q, h.qw, h.sent, h.t0, h.tq, h.base, rfl, h.k0, by show s.took ≤ _; omega, h.I, h.rd, h.rdw, rfl, h.sz, by show s.All.length ≤ _; omega⟩
  · rw [if_neg hh]
    unfold bodyX
    rw [if_neg hh]
    exact h.more (by omega)
theorem ack_body (s : LS) (p : Pkt) : ackX (bodyR s p) p = bodyR (ackX s p) p := by
  unfold ackX bodyR
  by_cases hh : p.has = true
  · by_cases hc : p.seq = u32 s.took ∧ s.rd < s.win
    · by_cases h1 : 1 ≤ sdiff p.ack s.base ∧ sdiff p.ack s.base ≤ s.Q.length
      · simp [hh, hc, h1]
      · by_cases h2 : sdiff p.ack s.base = 0
        · simp [hh, hc, h2]
        · simp [hh, hc, h1, h2]
    · by_cases h1 : 1 ≤ sdiff p.ack s.base ∧ sdiff p.ack s.base ≤ s.Q.length
      · simp [hh, hc, h1]
      · by_cases h2 : sdiff p.ack s.base = 0
        · simp [hh, hc, h2]
        · simp [hh, hc, h1, h2]
  · simp [hh]
theorem LRel.come (h : LRel s K) (p : Pkt) (hw1 : 0 ≤ p.window) (hw2 : p.window ≤ 16) (ha0 : 0 ≤ p.ack) (ha1 : p.ack < 4294967296) : LRel (bodyX (ackX (bodyR (ackR s p) p) p) p) (K + 1) := by
  rw [ack_body]
  exact (h.ack p hw1 hw2 ha0 ha1).bodyC p
end
end Go.Proofs.Ytaecgapoaagjfaa
