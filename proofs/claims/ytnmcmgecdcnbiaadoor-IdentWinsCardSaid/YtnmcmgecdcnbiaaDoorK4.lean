/- Keys: what arbitration sees of a frame; the heads of two right frames are as their keys. -/
import Derived.Test.YtnmcmgecdcnbiaaDoorK3
namespace Go.Proofs.YtnmcmgecdcnbiaaDoor
open Go.RowKit
set_option maxRecDepth 100000
set_option maxHeartbeats 6400000
set_option linter.unusedVariables false
def flagI (m : Bool) : Int := if m then 1 else 0
def keyI (id : Int) (x m : Bool) : Int := if x then id / 262144 * 2097152 + 1572864 + id % 262144 * 2 + flagI m else id * 2097152 + flagI m * 1048576
theorem flag_calls (m : Bool) (w : World) : Calls Tryd.prog 32 #[.bool m] w fun e w' => e = .returned (.int .u32 (flagI m)) ∧ w = w' := by
  cases m
  all_goals go_enter Tryd.func32, Tryd.ntmps32
  all_goals go_wp2
  all_goals go_ret
  all_goals exact ⟨rfl, rfl⟩
theorem or_big (i : Nat) (x y : Int) (hx0 : 0 ≤ x) (hx : x % 2 ^ i = 0) (hx1 : x < 4294967296) (hy0 : 0 ≤ y) (hy : y < 2 ^ i) (hy1 : y < 4294967296) : Go.bits .or .u32 x y = x + y :=
  bits_join .u32 32 (by decide) (fun n h0 h1 => by rw [IntKind.wrap_u32]; omega) i x y hx0 hx (by simpa using hx1) hy0 hy (by simpa using hy1)
theorem key_ext (id d : Int) (m : Bool) (A : Option Addr) (n c : Nat) (h0 : 0 ≤ id) (h1 : id ≤ 536870911) (w : World) :
    Calls Tryd.prog 23 #[.agg #[.int .u32 id, .bool true, .bool m, .int .u8 d, .slice A n c]] w fun e w' => e = .returned (.int .u32 (keyI id true m)) ∧ Below w.heap.size w w' := by
  have hm : Go.bits .and .u32 id 262143 = id % 262144 := bits_mask .u32 32 (by decide) (fun n h0 h1 => by rw [IntKind.wrap_u32]; omega) 18 (by decide) id h0 (by omega)
  have g0 : 0 ≤ id % 262144 ∧ id % 262144 ≤ 262143 := by omega
  have g1 : 0 ≤ id / 262144 ∧ id / 262144 ≤ 2047 := by omega
  have o1 : Go.bits .or .u32 (id / 262144 * 2097152) 1572864 = id / 262144 * 2097152 + 1572864 := or_big 21 _ _ (by omega) (by omega) (by omega) (by omega) (by omega) (by omega)
  have o2 : Go.bits .or .u32 (id / 262144 * 2097152 + 1572864) (id % 262144 * 2) = id / 262144 * 2097152 + 1572864 + id % 262144 * 2 := or_big 19 _ _ (by omega) (by omega) (by omega) (by omega) (by omega) (by omega)
  have f0 : 0 ≤ flagI m ∧ flagI m ≤ 1 := by cases m <;> decide
  have o3 : Go.bits .or .u32 (id / 262144 * 2097152 + 1572864 + id % 262144 * 2) (flagI m) = id / 262144 * 2097152 + 1572864 + id % 262144 * 2 + flagI m := or_big 1 _ _ (by omega) (by omega) (by omega) (by omega) (by omega) (by omega)
  have fl := flag_calls m
  have e1 : IntKind.u32.wrap (id / 262144 * 2097152) = id / 262144 * 2097152 := by rw [IntKind.wrap_u32]; omega
  have e2 : IntKind.u32.wrap (id % 262144 * 2) = id % 262144 * 2 := by rw [IntKind.wrap_u32]; omega
  unfold keyI
  rw [if_pos rfl]
  generalize flagI m = q at fl o3 f0 ⊢
  obtain ⟨g00, g01⟩ := g0
  obtain ⟨g10, g11⟩ := g1
  have FL := Lib.hid fl
  clear fl f0
  go_enter Tryd.func23, Tryd.ntmps23
  go_wp2
  go_region_held3 (fun w' => w'.cell? ⟨w.heap.size, 0, none⟩ = some (.int .u32 id) ∧ w'.cell? ⟨w.heap.size, 2, none⟩ = some (.bool m)) (go_keep) (first
    | (go_at_call 32; refine (FL.out _).mono ?_; rintro e w3 ⟨rfl, rfl⟩))
  go_wp2
  go_returns
  exact ⟨rfl, by go_grown⟩
theorem key_base (id d : Int) (m : Bool) (A : Option Addr) (n c : Nat) (h0 : 0 ≤ id) (h1 : id ≤ 2047) (w : World) :
    Calls Tryd.prog 23 #[.agg #[.int .u32 id, .bool false, .bool m, .int .u8 d, .slice A n c]] w fun e w' => e = .returned (.int .u32 (keyI id false m)) ∧ Below w.heap.size w w' := by
  have f0 : 0 ≤ flagI m ∧ flagI m ≤ 1 := by cases m <;> decide
  have e1 : IntKind.u32.wrap (id * 2097152) = id * 2097152 := by rw [IntKind.wrap_u32]; omega
  have e2 : IntKind.u32.wrap (flagI m * 1048576) = flagI m * 1048576 := by rw [IntKind.wrap_u32]; omega
  have o1 : Go.bits .or .u32 (id * 2097152) (flagI m * 1048576) = id * 2097152 + flagI m * 1048576 := or_big 21 _ _ (by omega) (by omega) (by omega) (by omega) (by omega) (by omega)
  have fl := flag_calls m
  unfold keyI
  rw [if_neg (by decide)]
  generalize flagI m = q at fl o1 e2 f0 ⊢
  have FL := Lib.hid fl
  clear fl f0
  go_enter Tryd.func23, Tryd.ntmps23
  go_wp2
  go_region_held3 (fun w' => w'.cell? ⟨w.heap.size, 0, none⟩ = some (.int .u32 id) ∧ w'.cell? ⟨w.heap.size, 2, none⟩ = some (.bool m)) (go_keep) (first
    | (go_at_call 32; refine (FL.out _).mono ?_; rintro e w3 ⟨rfl, rfl⟩))
  go_wp2
  go_returns
  exact ⟨rfl, by go_grown⟩
/-- The value of a row of bits. -/
def val : List Bool → Nat → Nat
  | [], v => v
  | b :: l, v => val l (2 * v + if b then 1 else 0)
theorem val_add (l : List Bool) : ∀ v, val l v = v * 2 ^ l.length + val l 0 := by
  induction l with
  | nil => intro v; simp [val]
  | cons b l ih =>
    intro v
    unfold val
    rw [ih, ih (2 * 0 + _), List.length_cons, Nat.pow_succ]
    rw [Nat.add_mul, Nat.add_mul]
    simp only [Nat.mul_zero, Nat.zero_mul, Nat.zero_add]
    rw [Nat.mul_comm 2 v, Nat.mul_assoc, Nat.mul_comm 2 (2 ^ l.length)]
    omega
theorem val_lt (l : List Bool) : val l 0 < 2 ^ l.length := by
  induction l with
  | nil => simp [val]
  | cons b l ih =>
    unfold val
    rw [val_add, List.length_cons, Nat.pow_succ]
    cases b <;> simp <;> omega
theorem val_append (a b : List Bool) : ∀ v, val (a ++ b) v = val b (val a v) := by
  induction a with
  | nil => intro v; rfl
  | cons x a ih => intro v; exact ih _
theorem bf_val (a : List Bool) : ∀ (b : List Bool), a.length = b.length → bf a b = decide (val a 0 < val b 0) := by
  induction a with
  | nil => intro b h; cases b with
    | nil => rfl
    | cons => simp at h
  | cons x a ih =>
    intro b h
    cases b with
    | nil => simp at h
    | cons y b =>
      have hl : a.length = b.length := by simpa using h
      unfold bf val
      rw [val_add a, val_add b, hl]
      have h1 := val_lt a
      have h2 := val_lt b
      rw [hl] at h1
      cases x <;> cases y
      · simp [ih b hl]
      · simp; omega
      · simp; omega
      · simp [ih b hl]
theorem val_bits (x n : Nat) : ∀ k, k ≤ n → val (bitsN x n k) 0 = x % 2 ^ n / 2 ^ (n - k) := by
  intro k
  induction k with
  | zero => intro _; simp [bitsN, val]
  | succ k ih =>
    intro h
    rw [bitsN_succ, val_append, ih (by omega)]
    unfold val val
    have e : n - k = (n - (k + 1)) + 1 := by omega
    have e2 : n - 1 - k = n - (k + 1) := by omega
    rw [e, e2, Nat.pow_succ, ← Nat.div_div_eq_div_mul]
    have hb : x.testBit (n - (k + 1)) = (x % 2 ^ n).testBit (n - (k + 1)) := by rw [Nat.testBit_mod_two_pow]; simp; omega
    rw [hb, Nat.testBit_eq_decide_div_mod_eq]
    have := Nat.div_add_mod (x % 2 ^ n / 2 ^ (n - (k + 1))) 2
    split <;> first | (simp_all; done) | (simp_all; omega)
theorem val_all (x n : Nat) (h : x < 2 ^ n) : val (bitsN x n n) 0 = x := by
  rw [val_bits x n n (Nat.le_refl _), Nat.sub_self, Nat.pow_zero, Nat.div_one, Nat.mod_eq_of_lt h]
end Go.Proofs.YtnmcmgecdcnbiaaDoor
