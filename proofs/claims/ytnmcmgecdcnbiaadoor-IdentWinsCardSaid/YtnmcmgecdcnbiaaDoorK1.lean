/- Bits of a number, the greatest one first: what the program computes. -/
import Derived.Test.YtnmcmgecdcnbiaaDoorI5
import Derived.Deep.LoopGhost
import Derived.Laws.Bits64b
namespace Go.Proofs.YtnmcmgecdcnbiaaDoor
open Go.RowKit
set_option maxRecDepth 100000
set_option maxHeartbeats 3200000
set_option linter.unusedVariables false
/-- The first k of the n lowest bits of x, the greatest one first. -/
def bitsN (x n k : Nat) : List Bool := (List.range k).map fun t => x.testBit (n - 1 - t)
def bls (l : List Bool) : List Value := l.map Value.bool
theorem bitsN_succ (x n k : Nat) : bitsN x n (k + 1) = bitsN x n k ++ [x.testBit (n - 1 - k)] := by
  unfold bitsN
  rw [List.range_succ, List.map_append]
  rfl
theorem bitsN_len (x n k : Nat) : (bitsN x n k).length = k := by simp [bitsN]
theorem bit64 (x i : Nat) (hx : x < 4294967296) : (Go.bits .and .u64 ((x : Int) / 2 ^ i) 1 == 1) = x.testBit i := by
  have e : ((x : Int) / 2 ^ i) = ((x / 2 ^ i : Nat) : Int) := by simp
  have hd : x / 2 ^ i ≤ x := Nat.div_le_self _ _
  rw [e, show (1 : Int) = ((1 : Nat) : Int) from rfl, bits_and_u64_nat _ _ (by omega) (by omega), Nat.and_one_is_mod, Nat.testBit_eq_decide_div_mod_eq, Bool.eq_iff_iff]
  simp
  omega
theorem Tryd.info4 : (Tryd.prog.info? 4).map (fun i => (i.zero, i.size, i.bytes)) = some (some (.bool false), 1, 1) := by kernel_rfl
theorem bitsOf_calls (x : Nat) (n : Nat) (hx : x < 4294967296) (hn : n ≤ 32) (hn1 : 1 ≤ n) (w : World) :
    Calls Tryd.prog 36 #[.int .u32 (x : Int), .int .i64 (n : Int)] w fun e w' => ∃ v, e = .returned v ∧ w'.ownsRow w.heap.size 4 1 v n (bls (bitsN x n n)) ∧ Below w.heap.size w w' := by
  obtain ⟨i0, hi, hz0, hz1, hz2⟩ := info_parts Tryd.info4
  have hn64 : ¬ (64 : Int) < (n : Int) := by omega
  have hn0 : (0 : Int) < (n : Int) := by omega
  have hx0 : (x : Int) ≤ 4294967295 := by omega
  go_enter Tryd.func36, Tryd.ntmps36
  go_wp2_with fail
  go_loopg [5, 6] (n + 1) (fun g o i wr => ∃ j : Nat, g + j = n + 1 ∧ j ≤ n ∧ i = .int .i64 ((n : Int) - 1 - j) ∧ wr.ownsRow w.heap.size 4 1 o j (bls (bitsN x n j)) ∧ Below w.heap.size w wr)
  case atStart => exact ⟨0, by omega, by omega, by simp, own_nil .., Below.refl _ _⟩
  case round =>
    obtain ⟨j, hg, hj, rfl, hown, hb⟩ := hrel
    by_cases hlt : j < n
    · obtain ⟨m, hm⟩ : ∃ m : Nat, m = n - 1 - j := ⟨_, rfl⟩
      have em : ((n : Int) - 1 - j) = (m : Int) := by omega
      rw [em]
      have hsz := hb.size
      have hm63 : (m : Int) ≤ 63 := by omega
      have hq0 : 0 ≤ (x : Int) / 2 ^ m := Int.ediv_nonneg (by omega) (Int.pow_nonneg (by decide))
      have hbt := bit64 x m hx
      have hsc := bitsN_succ x n j
      rw [← hm] at hsc
      have HSC := Lib.hid hsc
      have EM := Lib.hid em
      have HM := Lib.hid hm
      clear hsc em hm
      go_wp2_with (at_builtin; go_must (refine wpList_append_any _ rfl _ _ 55 rfl w.heap.size 4 i0 _ 1 1 Tryd.underlying55 hi hz0 hz1 hz2 rfl (by decide) _ _ _ rfl (own_alloc hown _) _ _ 1 _ [.bool (x.testBit m)] rfl (Reads.new wr [.bool (x.testBit m)] 4 _ 1 1 rfl rfl) (by intro u hu; simp at hu; subst hu; rfl) ?_ ?_ ?_ ?_))
      any_goals (first | (simp only [maxLen]; omega) | omega | (simp; omega))
      intro v' w1 hown1 hg1 hloc
      have hb1 := ((hb.alloc hb.size (.cells #[.bool (x.testBit m)] 4))).grown hg1 (by simp; omega) (fun k hk => own_base hown k hk)
      clear hbt hown
      go_wp2_with fail
      go_roundg (n - j)
      case measure => omega
      case rel =>
        refine ⟨j + 1, by omega, by omega, ?_, ?_, hb1⟩
        · have := HM.out; congr 1; omega
        · rw [HSC.out, bls, List.map_append]
          exact hown1
    · have ej : j = n := by omega
      subst ej
      have hneg : ((j : Int) - 1 - (j : Int)) = -1 := by omega
      rw [hneg]
      go_wp2_with fail
      go_returns
      exact ⟨_, rfl, hown, hb⟩
end Go.Proofs.YtnmcmgecdcnbiaaDoor
