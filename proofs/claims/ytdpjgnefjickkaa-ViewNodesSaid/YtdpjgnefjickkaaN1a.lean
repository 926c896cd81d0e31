/- ViewNodes: its first loop lays who is in the next view, and who goes, bit by bit. -/
import Derived.Test.YtdpjgnefjickkaaA4
import Derived.Test.YtdpjgnefjickkaaA3
import Derived.Test.YtdpjgnefjickkaaN0
import Derived.WalkLawsBesides
import Derived.WalkSpells
import Derived.Deep.DeepCutAuto
import Derived.Deep.DeepMust
import Derived.WalkSmall
import Derived.Deep.RegionHeld3
import Derived.BigQuiet
namespace Go.Proofs.Ytdpjgnefjickkaa
open Go.RowKit
set_option maxRecDepth 100000
set_option maxHeartbeats 64000000
set_option linter.unusedVariables false
theorem and_64 (x : Int) (h0 : 0 ≤ x) (h1 : x ≤ 9223372036854775807) : Go.bits .and .i64 x 65535 = x % 65536 := by
  have h := bits_mask .i64 63 (by decide) (fun n h0 h1 => by rw [IntKind.wrap_i64]; omega) 16 (by decide) x h0 (by omega)
  simpa using h
def goB (b : B) (i : Nat) : Bool := b.l.getLsbD i || b.f.getLsbD i
def upto (k : Nat) (f : Nat → Bool) (i : Nat) : Bool := decide (i < k) && f i
theorem upto_succ (f : Nat → Bool) (k : Nat) (c : Bool) (h : f k = c) : cA (fun j => if j = k then c else upto k f j) = cA (upto (k + 1) f) := by
  refine cA_ext fun i _ => ?_
  unfold upto
  by_cases e : i = k
  · subst e; simp [h]
  · rw [if_neg e]
    rcases Nat.lt_or_ge i k with hlt | hge
    · rw [decide_eq_true hlt, decide_eq_true (by omega : i < k + 1)]
    · rw [decide_eq_false (by omega : ¬ i < k), decide_eq_false (by omega : ¬ i < k + 1)]
/-- What is known of memory: the view, who is in the next one, who goes. -/
def Three (w wr : World) (b : B) (fi fo : Nat → Bool) : Prop :=
  Blk wr w.heap.size 28 #[.int .i64 b.n, .int .u32 (bi b.s), .int .u32 (bi b.j), .int .u32 (bi b.l), .int .u32 (bi b.f)] ∧ Blk wr (w.heap.size + 1) 40 (cA fi) ∧ Blk wr (w.heap.size + 2) 40 (cA fo) ∧ Below w.heap.size w wr
theorem three_step {w wr : World} {b : B} {fi fo : Nat → Bool} {k : Nat} (h : Three w wr b (upto k fi) (upto k fo)) (hk : k < 32) (o i : Bool) (ho : fo k = o) (hi : fi k = i) :
    Three w ((wr.setCell ⟨w.heap.size + 2, k, none⟩ (.bool o)).setCell ⟨w.heap.size + 1, k, none⟩ (.bool i)) b (upto (k + 1) fi) (upto (k + 1) fo) := by
  obtain ⟨h1, h2, h3, h4⟩ := h
  refine ⟨(h1.far (by dsimp only; omega) _).far (by dsimp only; omega) _, ?_, ?_, (h4.setCell (p := ⟨w.heap.size + 2, k, none⟩) (by dsimp only; omega) _).setCell (p := ⟨w.heap.size + 1, k, none⟩) (by dsimp only; omega) _⟩
  · have := (h2.far (p := ⟨w.heap.size + 2, k, none⟩) (by dsimp only; omega) (.bool o)).set_ k (.bool i)
    rw [cA_set _ _ hk, upto_succ fi k i hi] at this
    exact this
  · have := (h3.set_ k (.bool o))
    rw [cA_set _ _ hk, upto_succ fo k o ho] at this
    exact this.far (by dsimp only; omega) _
def plainB (x : E) : Bool := decide (1 ≤ x.what) && decide (x.what ≤ 3) && decide (0 ≤ x.node) && decide (x.node ≤ 31)
theorem plain_of {x : E} (h : plainB x = true) : x.plain := by
  unfold plainB at h
  simp at h
  exact ⟨h.1.1.1, h.1.1.2, h.1.2, h.2⟩
def curB (b : B) (l : List E) : B := runB b (l.filter plainB)
theorem curB_snoc (b : B) (l : List E) (k : Nat) (h : k < l.length) : curB b (l.take (k + 1)) = if plainB (atE l k) then (stepB (curB b (l.take k)) (atE l k)).1 else curB b (l.take k) := by
  unfold curB
  rw [take_snoc l k h, List.filter_append, runB_append]
  cases hp : plainB (atE l k) with
  | true => rw [List.filter_cons_of_pos hp]; rfl
  | false => rw [List.filter_cons_of_neg (by simp [hp])]; rfl
theorem curB_keep (b : B) (hR : b.R) (l : List E) : (curB b l).R ∧ (curB b l).n = b.n ∧ (curB b l).s = b.s := by
  have h := run_plain (l.filter plainB) b (fun x hx => plain_of (List.mem_filter.1 hx).2)
  exact ⟨runB_R _ b hR, h.1, h.2⟩
/-- What is known of memory between two events: the view, who is in the next one, the view as it was. -/
def Run (w wr : World) (b u : B) (g9 : Nat) : Prop :=
  Blk wr w.heap.size 28 #[.int .i64 u.n, .int .u32 (bi u.s), .int .u32 (bi u.j), .int .u32 (bi u.l), .int .u32 (bi u.f)] ∧ Blk wr (w.heap.size + 1) 40 (cA (inB u)) ∧ Blk wr g9 28 #[.int .i64 b.n, .int .u32 (bi b.s), .int .u32 (bi b.j), .int .u32 (bi b.l), .int .u32 (bi b.f)] ∧ Below w.heap.size w wr ∧ w.heap.size + 2 < g9
theorem Run.below {w wr w1 : World} {b u : B} {g9 K : Nat} (h : Run w wr b u g9) (hb : Below K wr w1) (hK : wr.heap.size ≤ K) : Run w w1 b u g9 :=
  ⟨h.1.below hb (by have := h.1.lt; omega), h.2.1.below hb (by have := h.2.1.lt; omega), h.2.2.1.below hb (by have := h.2.2.1.lt; omega), h.2.2.2.1.trans (hb.mono (by have := h.2.2.2.1.size; omega)), h.2.2.2.2⟩
theorem Run.alloc {w wr : World} {b u : B} {g9 : Nat} (h : Run w wr b u g9) (o : Obj) : Run w (wr.alloc o) b u g9 := h.below ((Below.refl _ _).alloc (Nat.le_refl _) o) (Nat.le_refl _)
theorem run_next {w w1 : World} {b u u' : B} {g9 : Nat} (h : Run w w1 b u g9) (hin : ∀ i, i < 32 → inB u i = inB u' i) :
    Run w (((((w1.setCell ⟨w.heap.size, 0, none⟩ (.int .i64 u'.n)).setCell ⟨w.heap.size, 1, none⟩ (.int .u32 (bi u'.s))).setCell ⟨w.heap.size, 2, none⟩ (.int .u32 (bi u'.j))).setCell ⟨w.heap.size, 3, none⟩ (.int .u32 (bi u'.l))).setCell ⟨w.heap.size, 4, none⟩ (.int .u32 (bi u'.f))) b u' g9 :=
  ⟨h.1.put5 .., by rw [← cA_ext hin]; exact h.2.1.far5 (by omega) .., h.2.2.1.far5 (by have := h.2.2.2.2; omega) .., below_put5 h.2.2.2.1 (Nat.le_refl _) .., h.2.2.2.2⟩
theorem run_set {w w1 : World} {b u u' : B} {g9 : Nat} (h : Run w w1 b u g9) (q : Nat) (hq : q < 32) (c : Bool) (hin : ∀ i, i < 32 → (if i = q then c else inB u i) = inB u' i) :
    Run w ((((((w1.setCell ⟨w.heap.size, 0, none⟩ (.int .i64 u'.n)).setCell ⟨w.heap.size, 1, none⟩ (.int .u32 (bi u'.s))).setCell ⟨w.heap.size, 2, none⟩ (.int .u32 (bi u'.j))).setCell ⟨w.heap.size, 3, none⟩ (.int .u32 (bi u'.l))).setCell ⟨w.heap.size, 4, none⟩ (.int .u32 (bi u'.f))).setCell ⟨w.heap.size + 1, q, none⟩ (.bool c)) b u' g9 := by
  refine ⟨(h.1.put5 ..).far (by dsimp only; omega) _, ?_, (h.2.2.1.far5 (by have := h.2.2.2.2; omega) ..).far (by dsimp only; have := h.2.2.2.2; omega) _, (below_put5 h.2.2.2.1 (Nat.le_refl _) ..).setCell (p := ⟨w.heap.size + 1, q, none⟩) (by dsimp only; omega) _, h.2.2.2.2⟩
  have := (h.2.1.far5 (g' := w.heap.size) (by omega) (.int .i64 u'.n) (.int .u32 (bi u'.s)) (.int .u32 (bi u'.j)) (.int .u32 (bi u'.l)) (.int .u32 (bi u'.f))).set_ q (.bool c)
  rw [cA_set _ _ hq, cA_ext hin] at this
  exact this
theorem after_step {w wr w1 : World} {b u : B} {g9 q : Nat} {xw : Int} (hrun : Run w wr b u g9) (hb : Below (wr.alloc (.cells #[.int .u8 xw, .int .u8 (q : Int)] 33)).heap.size (wr.alloc (.cells #[.int .u8 xw, .int .u8 (q : Int)] 33)) w1) (hq : q < 32) :
    Run w w1 b u g9 ∧ w1.cell? ⟨w.heap.size, 0, none⟩ = some (.int .i64 u.n) ∧ w1.cell? ⟨w.heap.size, 1, none⟩ = some (.int .u32 (bi u.s)) ∧ w1.cell? ⟨w.heap.size, 2, none⟩ = some (.int .u32 (bi u.j)) ∧ w1.cell? ⟨w.heap.size, 3, none⟩ = some (.int .u32 (bi u.l)) ∧ w1.cell? ⟨w.heap.size, 4, none⟩ = some (.int .u32 (bi u.f)) ∧
    w1.frozen? ⟨w.heap.size, 0, none⟩ = false ∧ w1.frozen? ⟨w.heap.size, 1, none⟩ = false ∧ w1.frozen? ⟨w.heap.size, 2, none⟩ = false ∧ w1.frozen? ⟨w.heap.size, 3, none⟩ = false ∧ w1.frozen? ⟨w.heap.size, 4, none⟩ = false ∧
    w1.cell? ⟨g9, 0, none⟩ = some (.int .i64 b.n) ∧ w1.cell? ⟨g9, 1, none⟩ = some (.int .u32 (bi b.s)) ∧ w1.cell? ⟨g9, 2, none⟩ = some (.int .u32 (bi b.j)) ∧ w1.cell? ⟨g9, 3, none⟩ = some (.int .u32 (bi b.l)) ∧ w1.cell? ⟨g9, 4, none⟩ = some (.int .u32 (bi b.f)) ∧
    w1.cell? ⟨w.heap.size + 1, q, none⟩ = some (.bool (inB u q)) ∧ w1.frozen? ⟨w.heap.size + 1, q, none⟩ = false ∧ w.heap.size < w1.heap.size ∧ w.heap.size + 1 < w1.heap.size ∧ g9 < w1.heap.size ∧ wr.heap.size < w1.heap.size ∧
    w1.cell? ⟨wr.heap.size, 0, none⟩ = some (.int .u8 xw) ∧ w1.cell? ⟨wr.heap.size, 1, none⟩ = some (.int .u8 (q : Int)) := by
  have hrun1 := (hrun.alloc (.cells #[.int .u8 xw, .int .u8 (q : Int)] 33)).below hb (Nat.le_refl _)
  obtain ⟨p0, p1, p2, p3, p4, q0, q1, q2, q3, q4⟩ := hrun1.1.five
  obtain ⟨r0, r1, r2, r3, r4, -⟩ := hrun1.2.2.1.five
  exact ⟨hrun1, p0, p1, p2, p3, p4, q0, q1, q2, q3, q4, r0, r1, r2, r3, r4, (hrun1.2.1.cell q).trans (cA_get _ _ hq), hrun1.2.1.frozen q, hrun1.1.lt, hrun1.2.1.lt, hrun1.2.2.1.lt, by have := hb.size; simp at this; omega,
    (hb.cell (p := ⟨wr.heap.size, 0, none⟩) (by simp)).trans (by simp), (hb.cell (p := ⟨wr.heap.size, 1, none⟩) (by simp)).trans (by simp)⟩
theorem RdE.take {w : World} {A : Option Addr} {n : Nat} {l : List E} (h : RdE w A n l) {m : Nat} (hm : m ≤ n) : RdE w A m (l.take m) :=
  ⟨by rw [List.length_take, h.1]; omega, by have := h.2.1; omega, fun x hx => h.2.2.1 x (List.mem_of_mem_take hx), fun h0 => by
    obtain ⟨ad, e, hlt, hc⟩ := h.2.2.2 (by omega)
    refine ⟨ad, e, hlt, fun i hi => ?_⟩
    have ea : atE (l.take m) i = atE l i := by
      unfold atE
      rw [List.getD_eq_getElem?_getD, List.getD_eq_getElem?_getD, List.getElem?_take_of_lt hi]
    rw [ea]
    exact hc i (by omega)⟩
theorem has_calls (b : B) (k : Nat) (hk : k < 32) (c : Bool) (hc : b.s.getLsbD k = c) (w : World) :
    Calls Try.prog 13 #[.agg #[.int .i64 b.n, .int .u32 (bi b.s), .int .u32 (bi b.j), .int .u32 (bi b.l), .int .u32 (bi b.f)], .int .u8 (k : Int)] w fun e w' => e = .returned (.bool c) ∧ w.alloc (.cells #[.int .i64 b.n, .int .u32 (bi b.s), .int .u32 (bi b.j), .int .u32 (bi b.l), .int .u32 (bi b.f)] 28) = w' := by
  have h1 : (Go.bits .and .u32 (bi b.s / 2 ^ k) 1 == 1) = c := by rw [bit_test]; exact hc
  have h2 : decide ((k : Int) ≤ 31) = true := by simp; omega
  have h3 : (k : Int) ≤ 31 := by omega
  clear hc
  go_enter Try.func13, Try.ntmps13
  go_wp2
  go_ret
  exact ⟨rfl, rfl⟩
theorem below_drewN (w : World) (q : Nat) : Below w.heap.size w (w.drewN q) := by
  have h := Below.refl w.heap.size w
  exact ⟨h.os, h.tape, h.output, h.size, h.block⟩

/- Where a piece of a function's code lies. -/
def isReg (n : Nat) : Code → Bool
  | .region k _ _ => k == n
  | _ => false
def headReg : Code → Option Nat
  | .region k _ _ => some k
  | .seq a _ => headReg a
  | .block _ c => headReg c
  | .loop c => headReg c
  | _ => none
def seqAt (n : Nat) : Code → Option Code
  | .seq a b => if isReg n a then some (.seq a b) else match seqAt n a with
    | some c => some c
    | none => seqAt n b
  | .block _ c => seqAt n c
  | .loop c => seqAt n c
  | .scope c => seqAt n c
  | .cond _ a b => match seqAt n a with
    | some c => some c
    | none => seqAt n b
  | _ => none
def loopAt (n : Nat) : Code → Option Code
  | .loop c => if headReg c == some n then some c else loopAt n c
  | .seq a b => match loopAt n a with
    | some c => some c
    | none => loopAt n b
  | .block _ c => loopAt n c
  | .scope c => loopAt n c
  | .cond _ a b => match loopAt n a with
    | some c => some c
    | none => loopAt n b
  | _ => none
def seqL : Code → Code
  | .seq a _ => a
  | c => c
def seqR : Code → Code
  | .seq _ b => b
  | c => c
noncomputable def nBody2 : Code := (Try.f5.body.bind (loopAt 13)).getD .skip
noncomputable def nTail : Code := (Try.f5.body.bind (seqAt 26)).getD .skip
end Go.Proofs.Ytdpjgnefjickkaa
