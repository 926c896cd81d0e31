/- Bits of sets, arrays of 32 bools in memory, and the plain law of ViewNodes. No conditions beyond a right view. -/
import Derived.Test.YtdpjgnefjickkaaB3
import Derived.Test.YtdpjgnefjickkaaC1
namespace Go.Proofs.Ytdpjgnefjickkaa
open Go.RowKit

theorem div_bi (s : BitVec 32) (k : Nat) : bi s / 2 ^ k = bi (s >>> k) := by
  unfold bi
  rw [BitVec.toNat_ushiftRight, Nat.shiftRight_eq_div_pow]
  simp
/-- 's>>k&1 == 1': the bit. -/
theorem bit_test (s : BitVec 32) (k : Nat) : (Go.bits .and .u32 (bi s / 2 ^ k) 1 == 1) = s.getLsbD k := by
  rw [div_bi, show (1 : Int) = bi 1#32 from rfl, bi_and, bi_beq]
  cases h : s.getLsbD k with
  | true =>
    rw [beq_iff_eq]
    apply BitVec.eq_of_getLsbD_eq
    intro i hi
    rw [BitVec.getLsbD_and, BitVec.getLsbD_ushiftRight]
    by_cases h0 : i = 0
    · subst h0; simp [h]
    · have : (1#32).getLsbD i = false := by simp [h0]
      rw [this]; simp
  | false =>
    rw [beq_eq_false_iff_ne]
    intro e
    have := congrArg (fun x => x.getLsbD 0) e
    simp [h] at this
def cA (f : Nat → Bool) : Array Value := ⟨(List.range 32).map fun i => .bool (f i)⟩
theorem cA_get (f : Nat → Bool) (i : Nat) (h : i < 32) : (cA f)[i]? = some (.bool (f i)) := by
  unfold cA
  simp [h]
theorem cA_set (f : Nat → Bool) (i : Nat) (h : i < 32) (b : Bool) : (cA f).setIfInBounds i (.bool b) = cA (fun j => if j = i then b else f j) := by
  unfold cA
  simp only [List.setIfInBounds_toArray]
  congr 1
  apply List.ext_getElem?
  intro j
  rw [List.getElem?_set]
  by_cases e : i = j
  · subst e
    simp [h]
  · have e' : ¬ j = i := fun h => e h.symm
    simp only [e, if_false, List.getElem?_map]
    rcases Nat.lt_or_ge j 32 with hj | hj
    · simp [hj, e']
    · simp [hj]
theorem cA_ext {f g : Nat → Bool} (h : ∀ i, i < 32 → f i = g i) : cA f = cA g := by
  unfold cA
  congr 1
  apply List.map_congr_left
  intro i hi
  rw [h i (List.mem_range.1 hi)]
/-- Who is in the next view. -/
def inB (b : B) (i : Nat) : Bool := b.s.getLsbD i && !(b.l.getLsbD i || b.f.getLsbD i) || b.j.getLsbD i
def upd (f : Nat → Bool) (x : E) (s : BitVec 32) : Nat → Bool :=
  if x.what = 1 then (if s.getLsbD x.node.toNat = false then fun i => if i = x.node.toNat then true else f i else f) else fun i => if i = x.node.toNat then false else f i
theorem upd_in (b : B) (hR : b.R) (x : E) (hx : x.plain) (i : Nat) (hi : i < 32) : upd (inB b) x b.s i = inB (stepB b x).1 i := by
  have h1 := step_bits b x hx i hi
  have h2 := step_plain b x hx
  obtain ⟨-, r2, r3⟩ := hR
  have g2 := row_zero.1 r2 i hi
  have g3 := row_zero.1 r3 i hi
  unfold bitsAt at h1
  have e : inB (stepB b x).1 i = (b.s.getLsbD i && !((stepB b x).1.l.getLsbD i || (stepB b x).1.f.getLsbD i) || (stepB b x).1.j.getLsbD i) := by
    unfold inB; rw [h2.2.1]
  rw [e]
  simp only [BitVec.getLsbD_and, BitVec.getLsbD_or, BitVec.getLsbD_not, hi, decide_true, Bool.true_and] at g2 g3
  unfold upd ev1 at *
  by_cases en : x.node.toNat = i
  · rw [if_pos en] at h1
    subst en
    have ein : inB b x.node.toNat = (b.s.getLsbD x.node.toNat && !(b.l.getLsbD x.node.toNat || b.f.getLsbD x.node.toNat) || b.j.getLsbD x.node.toNat) := rfl
    revert ein
    generalize inB b = FB
    intro ein
    revert g2 g3 h1 ein
    generalize b.s.getLsbD x.node.toNat = S
    generalize b.j.getLsbD x.node.toNat = J
    generalize b.l.getLsbD x.node.toNat = L
    generalize b.f.getLsbD x.node.toNat = F
    generalize (stepB b x).1.j.getLsbD x.node.toNat = J'
    generalize (stepB b x).1.l.getLsbD x.node.toNat = L'
    generalize (stepB b x).1.f.getLsbD x.node.toNat = F'
    intro h1 g2 g3 ein
    by_cases w1 : x.what = 1
    · rw [if_pos w1] at h1 ⊢
      simp only [Prod.mk.injEq] at h1
      obtain ⟨rfl, rfl, rfl⟩ := h1
      cases S <;> simp [ein] at g2 g3 ⊢ <;> simp [g2, g3]
    · rw [if_neg w1] at h1 ⊢
      by_cases w2 : x.what = 2
      · rw [if_pos w2] at h1
        simp only [Prod.mk.injEq] at h1
        obtain ⟨rfl, rfl, rfl⟩ := h1
        cases S <;> simp
      · rw [if_neg w2] at h1
        simp only [Prod.mk.injEq] at h1
        obtain ⟨rfl, rfl, rfl⟩ := h1
        cases S <;> simp
  · rw [if_neg en] at h1
    have en' : ¬ i = x.node.toNat := fun h => en h.symm
    simp only [Prod.mk.injEq] at h1
    rw [h1.1, h1.2.1, h1.2.2]
    unfold inB
    split
    · split
      · simp [en']
      · rfl
    · simp [en']
/-- Behind the end: just those are in it. -/
theorem end_in (b : B) (hR : b.R) (i : Nat) (hi : i < 32) : (endB b).1.s.getLsbD i = inB b i := by
  obtain ⟨-, r2, r3⟩ := hR
  have g2 := row_zero.1 r2 i hi
  have g3 := row_zero.1 r3 i hi
  simp only [BitVec.getLsbD_and, BitVec.getLsbD_or, BitVec.getLsbD_not, hi, decide_true, Bool.true_and] at g2 g3
  unfold endB inB
  split
  · rename_i h
    have g := row_zero.1 h i hi
    simp only [BitVec.getLsbD_or] at g
    revert g2 g3 g
    generalize b.s.getLsbD i = S
    generalize b.j.getLsbD i = J
    generalize b.l.getLsbD i = L
    generalize b.f.getLsbD i = F
    revert S J L F; decide
  · simp only [BitVec.getLsbD_and, BitVec.getLsbD_or, BitVec.getLsbD_not, hi, decide_true, Bool.true_and]
    revert g2 g3
    generalize b.s.getLsbD i = S
    generalize b.j.getLsbD i = J
    generalize b.l.getLsbD i = L
    generalize b.f.getLsbD i = F
    revert S J L F; decide
/-- A view is installed just if somebody comes or goes. -/
def changed (b : B) (k : Nat) : Bool := (List.range k).any fun i => inB b i != b.s.getLsbD i
theorem changed_end (b : B) (hR : b.R) : changed b 32 = (endB b).2 := by
  obtain ⟨-, r2, r3⟩ := hR
  have g2 := row_zero.1 r2
  have g3 := row_zero.1 r3
  unfold changed
  have key : ∀ i, i < 32 → (inB b i != b.s.getLsbD i) = (b.j.getLsbD i || b.l.getLsbD i || b.f.getLsbD i) := by
    intro i hi
    have g2 := g2 i hi
    have g3 := g3 i hi
    simp only [BitVec.getLsbD_and, BitVec.getLsbD_or, BitVec.getLsbD_not, hi, decide_true, Bool.true_and] at g2 g3
    unfold inB
    revert g2 g3
    generalize b.s.getLsbD i = S
    generalize b.j.getLsbD i = J
    generalize b.l.getLsbD i = L
    generalize b.f.getLsbD i = F
    revert S J L F; decide
  unfold endB
  split
  · rename_i h
    rw [List.any_eq_false]
    intro i hi
    have hi := List.mem_range.1 hi
    rw [key i hi]
    have := row_zero.1 h i hi
    simpa [BitVec.getLsbD_or] using this
  · rename_i h
    rw [List.any_eq_true]
    apply Classical.byContradiction
    intro hne
    apply h
    refine row_zero.2 fun i hi => ?_
    simp only [BitVec.getLsbD_or]
    cases e : (b.j.getLsbD i || b.l.getLsbD i || b.f.getLsbD i) with
    | false => rfl
    | true => exact absurd ⟨i, List.mem_range.2 hi, by rw [key i hi, e]⟩ hne
theorem changed_succ (b : B) (k : Nat) : changed b (k + 1) = (changed b k || (inB b k != b.s.getLsbD k)) := by
  unfold changed
  rw [List.range_succ, List.any_append]
  simp
end Go.Proofs.Ytdpjgnefjickkaa
