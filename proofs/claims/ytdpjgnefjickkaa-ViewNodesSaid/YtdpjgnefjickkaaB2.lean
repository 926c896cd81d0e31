/- The plain law of views over rows of bits: a step keeps a right view right; what is installed; no conditions beyond a right view. -/
import Derived.Test.YtdpjgnefjickkaaB1
namespace Go.Proofs.Ytdpjgnefjickkaa
open Go.RowKit

structure B where
  n : Int
  s : BitVec 32
  j : BitVec 32
  l : BitVec 32
  f : BitVec 32
def B.v (b : B) : V := ⟨b.n, bi b.s, bi b.j, bi b.l, bi b.f⟩
def B.R (b : B) : Prop := 0 ≤ b.n ∧ b.j &&& b.s = 0#32 ∧ (b.l ||| b.f) &&& ~~~b.s = 0#32
theorem right_B (b : B) : rightV b.v = true ↔ b.R := by
  unfold rightV B.v B.R
  simp only [bi_or, bi_and, bi_andNot, Bool.and_eq_true, decide_eq_true_eq, beq_iff_eq, and_assoc]
  constructor
  · rintro ⟨h1, h2, h3⟩; exact ⟨h1, bi_inj h2, bi_inj h3⟩
  · rintro ⟨h1, h2, h3⟩; exact ⟨h1, by rw [h2]; rfl, by rw [h3]; rfl⟩
def bitB (node : Int) : BitVec 32 := 1#32 <<< (node % 32).toNat
theorem shl_B (node : Int) : shlV node = bi (bitB node) := by
  unfold shlV bitB
  exact bi_shl _ (by omega)
def endB (b : B) : B × Bool := if b.j ||| b.l ||| b.f = 0#32 then (b, false) else (⟨incV b.n, (b.s ||| b.j) &&& ~~~(b.l ||| b.f), 0, 0, 0⟩, true)
theorem end_B (b : B) : endV b.v = ((endB b).1.v, (endB b).2) := by
  unfold endV endB anyV B.v
  simp only [bi_or, bi_andNot]
  rw [show (0 : Int) = bi 0#32 from rfl, bi_beq]
  by_cases h : b.j ||| b.l ||| b.f = 0#32
  · simp [h]
  · simp [h]
/-- A step at a right view. -/
def stepB (b : B) (x : E) : B × Bool × Int :=
  if x.what = 0 ∨ 4 < x.what ∨ (¬ x.what = 4 ∧ 31 < x.node) then (b, false, 230)
  else if x.what = 1 then ({ b with j := b.j ||| (bitB x.node &&& ~~~b.s) }, false, 0)
  else if x.what = 2 then ({ b with j := b.j &&& ~~~(bitB x.node), l := b.l ||| (bitB x.node &&& b.s) }, false, 0)
  else if x.what = 3 then ({ b with j := b.j &&& ~~~(bitB x.node), f := b.f ||| (bitB x.node &&& b.s) }, false, 0)
  else ((endB b).1, (endB b).2, 0)
theorem step_B (b : B) (h : b.R) (x : E) : stepV b.v x.what x.node = ((stepB b x).1.v, (stepB b x).2.1, (stepB b x).2.2) := by
  unfold stepV stepB
  have hr := (right_B b).2 h
  rw [shl_B, hr, end_B]
  simp only [Bool.true_eq_false, false_or]
  split
  · rfl
  · split
    · simp only [B.v, bi_or, bi_andNot]
    · split
      · simp only [B.v, bi_or, bi_andNot, bi_and]
      · split
        · simp only [B.v, bi_or, bi_andNot, bi_and]
        · rfl
theorem row_zero {x : BitVec 32} : x = 0#32 ↔ ∀ i, i < 32 → x.getLsbD i = false := by
  constructor
  · rintro rfl i _; simp
  · intro h
    apply BitVec.eq_of_getLsbD_eq
    intro i hi
    simpa using h i hi
theorem inc_nonneg {n : Int} (h : 0 ≤ n) : 0 ≤ incV n := by
  unfold incV
  split
  · unfold wrap64; omega
  · exact h
theorem step_R (b : B) (h : b.R) (x : E) : (stepB b x).1.R := by
  obtain ⟨h1, h2, h3⟩ := h
  have g2 := row_zero.1 h2
  have g3 := row_zero.1 h3
  unfold stepB
  split
  · exact ⟨h1, h2, h3⟩
  · split
    · refine ⟨h1, row_zero.2 fun i hi => ?_, h3⟩
      have := g2 i hi
      simp at this ⊢
      intro h; rcases h with h | h
      · exact this h
      · exact h.2.2
    · split
      · refine ⟨h1, row_zero.2 fun i hi => ?_, row_zero.2 fun i hi => ?_⟩
        · have := g2 i hi
          simp at this ⊢
          intro h; simp [this h]
        · have := g3 i hi
          simp at this ⊢
          revert this
          cases b.l.getLsbD i <;> cases b.f.getLsbD i <;> cases b.s.getLsbD i <;> simp
      · split
        · refine ⟨h1, row_zero.2 fun i hi => ?_, row_zero.2 fun i hi => ?_⟩
          · have := g2 i hi
            simp at this ⊢
            intro h; simp [this h]
          · have := g3 i hi
            simp at this ⊢
            revert this
            cases b.l.getLsbD i <;> cases b.f.getLsbD i <;> cases b.s.getLsbD i <;> simp
        · unfold endB
          split
          · exact ⟨h1, h2, h3⟩
          · exact ⟨inc_nonneg h1, by simp, by simp⟩

/-- An event that is no end of a cycle, or is refused, leaves the number; a refused one leaves all. -/
theorem step_n (b : B) (x : E) (h : (stepB b x).2.1 = false) : (stepB b x).1.n = b.n := by
  revert h
  unfold stepB
  split
  · intro _; rfl
  · split
    · intro _; rfl
    · split
      · intro _; rfl
      · split
        · intro _; rfl
        · unfold endB
          split
          · intro _; rfl
          · intro h; cases h
theorem step_e (b : B) (x : E) (h : (stepB b x).2.2 ≠ 0) : (stepB b x).1 = b ∧ (stepB b x).2.1 = false := by
  revert h
  unfold stepB
  split
  · intro _; exact ⟨rfl, rfl⟩
  · split
    · intro h; exact absurd rfl h
    · split
      · intro h; exact absurd rfl h
      · split
        · intro h; exact absurd rfl h
        · intro h; exact absurd rfl h
/-- What is installed: the number is the next one, nobody is on the way, the set is another one. -/
theorem step_is (b : B) (hR : b.R) (x : E) (h : (stepB b x).2.1 = true) :
    (stepB b x).1.n = incV b.n ∧ (stepB b x).1.j = 0 ∧ (stepB b x).1.l = 0 ∧ (stepB b x).1.f = 0 ∧ (stepB b x).1.s ≠ b.s := by
  obtain ⟨-, h2, h3⟩ := hR
  revert h
  unfold stepB
  split
  · intro h; cases h
  · split
    · intro h; cases h
    · split
      · intro h; cases h
      · split
        · intro h; cases h
        · unfold endB
          split
          · intro h; cases h
          · rename_i hne
            intro _
            refine ⟨rfl, rfl, rfl, rfl, fun hs => hne ?_⟩
            have g2 := row_zero.1 h2
            have g3 := row_zero.1 h3
            refine row_zero.2 fun i hi => ?_
            have g4 := congrArg (fun z => z.getLsbD i) hs
            have g2 := g2 i hi
            have g3 := g3 i hi
            simp [hi] at g2 g3 g4 ⊢
            revert g2 g3 g4
            generalize b.j[i] = J
            generalize b.l[i] = L
            generalize b.f[i] = F
            generalize b.s[i] = S
            revert J L F S
            decide
/-- The views that are installed by events, and the view behind them. -/
def insB (b : B) : List E → List B
  | [] => []
  | x :: r => if (stepB b x).2.1 then (stepB b x).1 :: insB (stepB b x).1 r else insB (stepB b x).1 r
def runB (b : B) : List E → B
  | [] => b
  | x :: r => runB (stepB b x).1 r
theorem runB_append (l m : List E) : ∀ b : B, runB b (l ++ m) = runB (runB b l) m := by
  induction l with
  | nil => intro b; rfl
  | cons x r ih => intro b; exact ih _
theorem insB_cons (b : B) (x : E) (r : List E) : insB b (x :: r) = if (stepB b x).2.1 then (stepB b x).1 :: insB (stepB b x).1 r else insB (stepB b x).1 r := rfl
theorem insB_append (l m : List E) : ∀ b : B, insB b (l ++ m) = insB b l ++ insB (runB b l) m := by
  induction l with
  | nil => intro b; rfl
  | cons x r ih =>
    intro b
    rw [List.cons_append, insB_cons, insB_cons, ih]
    show _ = _ ++ insB (runB (stepB b x).1 r) m
    cases (stepB b x).2.1 <;> simp
theorem runB_R (l : List E) : ∀ b : B, b.R → (runB b l).R := by
  induction l with
  | nil => intro b h; exact h
  | cons x r ih => intro b h; exact ih _ (step_R b h x)
theorem insB_length (l : List E) : ∀ b : B, (insB b l).length ≤ l.length := by
  induction l with
  | nil => intro b; simp [insB]
  | cons x r ih =>
    intro b
    have := ih (stepB b x).1
    rw [insB_cons]
    cases (stepB b x).2.1 <;> simp <;> omega
/-- Each is numbered one more than the one ahead, has nobody on the way, and is another set. -/
def Good (n : Int) (s : BitVec 32) : List B → Prop
  | [] => True
  | y :: r => y.n = n + 1 ∧ y.j = 0 ∧ y.l = 0 ∧ y.f = 0 ∧ y.s ≠ s ∧ Good y.n y.s r
theorem step_s (b : B) (x : E) (hs : (stepB b x).2.1 = false) : (stepB b x).1.s = b.s := by
  revert hs
  unfold stepB
  split
  · intro _; rfl
  · split
    · intro _; rfl
    · split
      · intro _; rfl
      · split
        · intro _; rfl
        · unfold endB
          split
          · intro _; rfl
          · intro h; cases h
theorem insB_good (l : List E) : ∀ b : B, b.R → b.n + l.length < 9223372036854775807 → Good b.n b.s (insB b l) := by
  induction l with
  | nil => intro b _ _; exact trivial
  | cons x r ih =>
    intro b hR hn
    have hn0 := hR.1
    have hn : b.n + (r.length + 1) < 9223372036854775807 := by simpa using hn
    rw [insB_cons]
    cases hs : (stepB b x).2.1 with
    | false =>
      have := ih (stepB b x).1 (step_R b hR x) (by rw [step_n b x hs]; omega)
      rw [step_n b x hs, step_s b x hs] at this
      exact this
    | true =>
      obtain ⟨q1, q2, q3, q4, q5⟩ := step_is b hR x hs
      have hi1 : incV b.n = b.n + 1 := by
        unfold incV
        rw [if_pos (by omega)]
        unfold wrap64
        omega
      rw [hi1] at q1
      exact ⟨q1, q2, q3, q4, q5, ih _ (step_R b hR x) (by rw [q1]; omega)⟩
def B.z : B := ⟨0, 0, 0, 0, 0⟩
def atB (l : List B) (i : Nat) : B := l.getD i B.z
theorem good_at (l : List B) : ∀ (n : Int) (s : BitVec 32), Good n s l → ∀ i, i < l.length →
    (atB l i).n = n + i + 1 ∧ (atB l i).j = 0 ∧ (atB l i).l = 0 ∧ (atB l i).f = 0 ∧ (i = 0 → (atB l i).s ≠ s) ∧ (0 < i → (atB l i).s ≠ (atB l (i - 1)).s) := by
  induction l with
  | nil => intro n s _ i h; simp at h
  | cons y r ih =>
    intro n s hg i hi
    obtain ⟨q1, q2, q3, q4, q5, q6⟩ := hg
    cases i with
    | zero => exact ⟨by show y.n = _; rw [q1]; simp, q2, q3, q4, fun _ => q5, fun h => absurd h (by omega)⟩
    | succ i =>
      obtain ⟨p1, p2, p3, p4, p5, p6⟩ := ih _ _ q6 i (by simpa using hi)
      refine ⟨by show (atB r i).n = _; rw [p1, q1]; omega, p2, p3, p4, fun h => absurd h (by omega), fun _ => ?_⟩
      show (atB r i).s ≠ (atB (y :: r) i).s
      cases i with
      | zero => exact p5 rfl
      | succ i => exact p6 (by omega)
/-- Fewer events install the first views. -/
theorem insB_take (b : B) (l : List E) (k : Nat) : ∃ m, insB b l = insB b (l.take k) ++ m :=
  ⟨insB (runB b (l.take k)) (l.drop k), by rw [← insB_append, List.take_append_drop]⟩
end Go.Proofs.Ytdpjgnefjickkaa
