/- The plain law of views, bit by bit: what events of nodes make of a view, in either order, mixed, and each one twice; and what the end makes of it. -/
import Derived.Test.YtdpjgnefjickkaaB2
namespace Go.Proofs.Ytdpjgnefjickkaa
open Go.RowKit

def bitsAt (b : B) (i : Nat) : Bool × Bool × Bool := (b.j.getLsbD i, b.l.getLsbD i, b.f.getLsbD i)
def ev1 (s : Bool) (st : Bool × Bool × Bool) (w : Int) : Bool × Bool × Bool :=
  if w = 1 then (st.1 || !s, st.2.1, st.2.2) else if w = 2 then (false, st.2.1 || s, st.2.2) else (false, st.2.1, st.2.2 || s)
/-- An event of a node, no end. -/
def E.plain (x : E) : Prop := 1 ≤ x.what ∧ x.what ≤ 3 ∧ 0 ≤ x.node ∧ x.node ≤ 31
theorem bit_at (node : Int) (h0 : 0 ≤ node) (h1 : node ≤ 31) (i : Nat) (hi : i < 32) : (bitB node).getLsbD i = decide (node.toNat = i) := by
  unfold bitB
  rw [BitVec.getLsbD_shiftLeft]
  have e : (node % 32).toNat = node.toNat := by omega
  rw [e]
  by_cases h : node.toNat = i
  · subst h
    simp [hi]
  · rcases Nat.lt_or_ge i node.toNat with hlt | hge
    · simp [hlt, h]
    · have : ¬ i - node.toNat = 0 := by omega
      simp [h, hi, this]
theorem step_plain (b : B) (x : E) (hx : x.plain) : (stepB b x).1.n = b.n ∧ (stepB b x).1.s = b.s ∧ (stepB b x).2.1 = false ∧ (stepB b x).2.2 = 0 := by
  obtain ⟨h1, h2, h3, h4⟩ := hx
  unfold stepB
  rw [if_neg (by omega)]
  split
  · exact ⟨rfl, rfl, rfl, rfl⟩
  · split
    · exact ⟨rfl, rfl, rfl, rfl⟩
    · split
      · exact ⟨rfl, rfl, rfl, rfl⟩
      · exfalso; omega
theorem step_bits (b : B) (x : E) (hx : x.plain) (i : Nat) (hi : i < 32) : bitsAt (stepB b x).1 i = if x.node.toNat = i then ev1 (b.s.getLsbD i) (bitsAt b i) x.what else bitsAt b i := by
  obtain ⟨h1, h2, h3, h4⟩ := hx
  have hb := bit_at x.node h3 h4 i hi
  unfold stepB bitsAt ev1
  rw [if_neg (by omega)]
  by_cases e1 : x.what = 1
  · rw [if_pos e1, if_pos e1]
    simp only [BitVec.getLsbD_or, BitVec.getLsbD_and, BitVec.getLsbD_not, hb, hi, decide_true, Bool.true_and]
    by_cases e : x.node.toNat = i <;> simp [e]
  · rw [if_neg e1, if_neg e1]
    by_cases e2 : x.what = 2
    · rw [if_pos e2, if_pos e2]
      simp only [BitVec.getLsbD_or, BitVec.getLsbD_and, BitVec.getLsbD_not, hb, hi, decide_true, Bool.true_and]
      by_cases e : x.node.toNat = i <;> simp [e]
    · rw [if_neg e2, if_neg e2, if_pos (by omega)]
      simp only [BitVec.getLsbD_or, BitVec.getLsbD_and, BitVec.getLsbD_not, hb, hi, decide_true, Bool.true_and]
      by_cases e : x.node.toNat = i <;> simp [e]
theorem run_plain (l : List E) : ∀ b : B, (∀ x ∈ l, x.plain) → (runB b l).n = b.n ∧ (runB b l).s = b.s := by
  induction l with
  | nil => intro b _; exact ⟨rfl, rfl⟩
  | cons x r ih =>
    intro b h
    have hx := step_plain b x (h x List.mem_cons_self)
    have := ih (stepB b x).1 (fun y hy => h y (List.mem_cons_of_mem _ hy))
    exact ⟨this.1.trans hx.1, this.2.trans hx.2.1⟩
def runAt (s : Bool) (st : Bool × Bool × Bool) (l : List E) : Bool × Bool × Bool := l.foldl (fun st x => ev1 s st x.what) st
theorem run_bits (l : List E) (i : Nat) (hi : i < 32) : ∀ b : B, (∀ x ∈ l, x.plain) → bitsAt (runB b l) i = runAt (b.s.getLsbD i) (bitsAt b i) (l.filter fun x => decide (x.node.toNat = i)) := by
  induction l with
  | nil => intro b _; rfl
  | cons x r ih =>
    intro b h
    have hx := h x List.mem_cons_self
    show bitsAt (runB (stepB b x).1 r) i = _
    rw [ih _ (fun y hy => h y (List.mem_cons_of_mem _ hy)), (step_plain b x hx).2.1, step_bits b x hx i hi]
    by_cases e : x.node.toNat = i
    · rw [if_pos e, List.filter_cons_of_pos (by simpa using e)]; rfl
    · rw [if_neg e, List.filter_cons_of_neg (by simpa using e)]
theorem B.ext_bits {a b : B} (hn : a.n = b.n) (hs : a.s = b.s) (h : ∀ i, i < 32 → bitsAt a i = bitsAt b i) : a = b := by
  obtain ⟨n, s, j, l, f⟩ := a
  obtain ⟨n', s', j', l', f'⟩ := b
  dsimp only at hn hs
  subst hn hs
  have hj : j = j' := BitVec.eq_of_getLsbD_eq fun i hi => by have := h i hi; simp only [bitsAt, Prod.mk.injEq] at this; exact this.1
  have hl : l = l' := BitVec.eq_of_getLsbD_eq fun i hi => by have := h i hi; simp only [bitsAt, Prod.mk.injEq] at this; exact this.2.1
  have hf : f = f' := BitVec.eq_of_getLsbD_eq fun i hi => by have := h i hi; simp only [bitsAt, Prod.mk.injEq] at this; exact this.2.2
  rw [hj, hl, hf]
/-- Two rows of events that tell each node the same come to the same view. -/
theorem run_same (b : B) (l m : List E) (hl : ∀ x ∈ l, x.plain) (hm : ∀ x ∈ m, x.plain)
    (h : ∀ i, i < 32 → ∀ s st, runAt s st (l.filter fun x => decide (x.node.toNat = i)) = runAt s st (m.filter fun x => decide (x.node.toNat = i))) : runB b l = runB b m := by
  have h1 := run_plain l b hl
  have h2 := run_plain m b hm
  refine B.ext_bits (h1.1.trans h2.1.symm) (h1.2.trans h2.2.symm) fun i hi => ?_
  rw [run_bits l i hi b hl, run_bits m i hi b hm]
  exact h i hi _ _
theorem ev_twice (s : Bool) (st : Bool × Bool × Bool) (w : Int) : ev1 s (ev1 s st w) w = ev1 s st w := by
  obtain ⟨a, b, c⟩ := st
  unfold ev1
  by_cases h1 : w = 1
  · rw [if_pos h1, if_pos h1]; cases a <;> cases s <;> rfl
  · rw [if_neg h1, if_neg h1]
    by_cases h2 : w = 2
    · rw [if_pos h2, if_pos h2]; cases b <;> cases s <;> rfl
    · rw [if_neg h2, if_neg h2]; cases c <;> cases s <;> rfl
def dbl (l : List E) : List E := l.flatMap fun x => [x, x]
theorem run_dbl (l : List E) (p : E → Bool) (s : Bool) : ∀ st, runAt s st ((dbl l).filter p) = runAt s st (l.filter p) := by
  induction l with
  | nil => intro st; rfl
  | cons x r ih =>
    intro st
    have e : dbl (x :: r) = x :: x :: dbl r := rfl
    rw [e]
    cases hp : p x with
    | true =>
      rw [List.filter_cons_of_pos hp, List.filter_cons_of_pos hp, List.filter_cons_of_pos hp]
      show runAt s (ev1 s (ev1 s st x.what) x.what) _ = runAt s (ev1 s st x.what) _
      rw [ev_twice, ih]
    | false =>
      rw [List.filter_cons_of_neg (by simp [hp]), List.filter_cons_of_neg (by simp [hp]), List.filter_cons_of_neg (by simp [hp]), ih]
/-- Two rows, one of each in turn. -/
def mixTo (a b : List E) (n : Nat) : List E := (List.range n).flatMap fun i => (a[i]?).toList ++ (b[i]?).toList
theorem range_opt (a : List E) : ∀ n, (List.range n).flatMap (fun i => (a[i]?).toList) = a.take n := by
  intro n
  induction n with
  | zero => simp
  | succ n ih =>
    rw [List.range_succ, List.flatMap_append, ih, List.take_add_one]
    simp
theorem mix_filter (a b : List E) (p : E → Bool) (n : Nat) (hb : ∀ x ∈ b, p x = false) : (mixTo a b n).filter p = (a.take n).filter p := by
  unfold mixTo
  rw [← range_opt a n, List.filter_flatMap, List.filter_flatMap]
  congr 1
  funext i
  rw [List.filter_append]
  have : (b[i]?.toList).filter p = [] := by
    rw [List.filter_eq_nil_iff]
    intro x hx
    have : x ∈ b := by
      cases h : b[i]? with
      | none => rw [h] at hx; simp at hx
      | some y => rw [h] at hx; simp at hx; subst hx; exact List.mem_of_getElem? h
    simp [hb x this]
  rw [this, List.append_nil]
theorem mix_filter' (a b : List E) (p : E → Bool) (n : Nat) (ha : ∀ x ∈ a, p x = false) : (mixTo a b n).filter p = (b.take n).filter p := by
  unfold mixTo
  rw [← range_opt b n, List.filter_flatMap, List.filter_flatMap]
  congr 1
  funext i
  rw [List.filter_append]
  have : (a[i]?.toList).filter p = [] := by
    rw [List.filter_eq_nil_iff]
    intro x hx
    have : x ∈ a := by
      cases h : a[i]? with
      | none => rw [h] at hx; simp at hx
      | some y => rw [h] at hx; simp at hx; subst hx; exact List.mem_of_getElem? h
    simp [ha x this]
  rw [this, List.nil_append]
theorem mem_mix {a b : List E} {n : Nat} {x : E} (h : x ∈ mixTo a b n) : x ∈ a ∨ x ∈ b := by
  unfold mixTo at h
  rw [List.mem_flatMap] at h
  obtain ⟨i, _, h⟩ := h
  rw [List.mem_append] at h
  rcases h with h | h
  · left
    cases e : a[i]? with
    | none => rw [e] at h; simp at h
    | some y => rw [e] at h; simp at h; subst h; exact List.mem_of_getElem? e
  · right
    cases e : b[i]? with
    | none => rw [e] at h; simp at h
    | some y => rw [e] at h; simp at h; subst h; exact List.mem_of_getElem? e
def low (l : List E) : Prop := ∀ x ∈ l, x.plain ∧ x.node ≤ 15
def high (l : List E) : Prop := ∀ x ∈ l, x.plain ∧ 16 ≤ x.node
theorem low_filter {l : List E} (h : low l) {i : Nat} (hi : 16 ≤ i) : ∀ x ∈ l, decide (x.node.toNat = i) = false := fun x hx => by
  have := h x hx
  obtain ⟨⟨_, _, _, _⟩, _⟩ := this
  simp
  omega
theorem high_filter {l : List E} (h : high l) {i : Nat} (hi : i < 16) : ∀ x ∈ l, decide (x.node.toNat = i) = false := fun x hx => by
  have := h x hx
  obtain ⟨⟨_, _, _, _⟩, _⟩ := this
  simp
  omega
theorem filter_none {l : List E} {p : E → Bool} (h : ∀ x ∈ l, p x = false) : l.filter p = [] := List.filter_eq_nil_iff.2 fun x hx => by simp [h x hx]
theorem merge_swap (v : B) (a b : List E) (ha : low a) (hb : high b) : runB v (a ++ b) = runB v (b ++ a) := by
  refine run_same v _ _ (fun x hx => ?_) (fun x hx => ?_) fun i hi s st => ?_
  · rcases List.mem_append.1 hx with h | h
    · exact (ha x h).1
    · exact (hb x h).1
  · rcases List.mem_append.1 hx with h | h
    · exact (hb x h).1
    · exact (ha x h).1
  · rw [List.filter_append, List.filter_append]
    rcases Nat.lt_or_ge i 16 with h | h
    · rw [filter_none (high_filter hb h)]; simp
    · rw [filter_none (low_filter ha h)]; simp
theorem merge_mix (v : B) (a b : List E) (ha : low a) (hb : high b) (n : Nat) (h1 : a.length ≤ n) (h2 : b.length ≤ n) : runB v (mixTo a b n) = runB v (a ++ b) := by
  refine run_same v _ _ (fun x hx => ?_) (fun x hx => ?_) fun i hi s st => ?_
  · rcases mem_mix hx with h | h
    · exact (ha x h).1
    · exact (hb x h).1
  · rcases List.mem_append.1 hx with h | h
    · exact (ha x h).1
    · exact (hb x h).1
  · rw [List.filter_append]
    rcases Nat.lt_or_ge i 16 with h | h
    · rw [filter_none (high_filter hb h), mix_filter a b _ n (high_filter hb h), List.take_of_length_le h1, List.append_nil]
    · rw [filter_none (low_filter ha h), mix_filter' a b _ n (low_filter ha h), List.take_of_length_le h2, List.nil_append]
theorem merge_dbl (v : B) (l : List E) (h : ∀ x ∈ l, x.plain) : runB v (dbl l) = runB v l := by
  refine run_same v _ _ (fun x hx => ?_) h fun i hi s st => run_dbl l _ s st
  unfold dbl at hx
  rw [List.mem_flatMap] at hx
  obtain ⟨y, hy, hx⟩ := hx
  simp at hx
  subst hx
  exact h _ hy
end Go.Proofs.Ytdpjgnefjickkaa
