/- Idents: what is read of an identifier; frames: which are right, and the ident of one. -/
import Derived.Test.YtnmcmgecdcnbiaaDoorI1
import Derived.RegionTactic
import Derived.Deep.RegionHeld3
namespace Go.Proofs.YtnmcmgecdcnbiaaDoor
open Go.RowKit
set_option maxRecDepth 100000
set_option maxHeartbeats 3200000
set_option linter.unusedVariables false
theorem mask_u32 (i : Nat) (hi : i ≤ 32) (x : Int) (h0 : 0 ≤ x) (h1 : x ≤ 4294967295) : Go.bits .and .u32 x (2 ^ i - 1) = x % 2 ^ i :=
  bits_mask .u32 32 (by decide) (fun n h0 h1 => by rw [IntKind.wrap_u32]; omega) i hi x h0 (by omega)
def kI (id : Int) : Int := id / 16 / 65536 / 32 % 16
def fI (id : Int) : Int := id / 16 / 65536 % 32
def sI (id : Int) : Int := id / 16 % 65536
def rI (id : Int) : Int := id % 16
theorem read_any (id : Int) (h0 : 0 ≤ id) (h1 : id ≤ 4294967295) (z c : Bool) (hz : (id / 16 / 65536 / 32 / 16 != 0) = z) (hc : decide (kI id ≤ 9) = c) (w : World) (hw : Wid w) :
    Calls Tryd.prog 7 #[.int .u32 id] w fun e w' => e = .returned (if !z && c then .tuple #[.agg #[.int .u8 (kI id), .int .u8 (fI id), .int .u16 (sI id), .int .u8 (rI id)], .bool true] else .tuple #[.agg #[.int .u8 0, .int .u8 0, .int .u16 0, .int .u8 0], .bool false]) ∧ Below w.heap.size w w' := by
  have m0 : Go.bits .and .u32 id 15 = rI id := mask_u32 4 (by decide) _ (by omega) (by omega)
  have m1 : Go.bits .and .u32 (id / 16) 65535 = sI id := mask_u32 16 (by decide) _ (by omega) (by omega)
  have m2 : Go.bits .and .u32 (id / 16 / 65536) 31 = fI id := mask_u32 5 (by decide) _ (by omega) (by omega)
  have m3 : Go.bits .and .u32 (id / 16 / 65536 / 32) 15 = kI id := mask_u32 4 (by decide) _ (by omega) (by omega)
  have r0 : 0 ≤ rI id ∧ rI id ≤ 15 := by unfold rI; omega
  have r1 : 0 ≤ sI id ∧ sI id ≤ 65535 := by unfold sI; omega
  have r2 : 0 ≤ fI id ∧ fI id ≤ 31 := by unfold fI; omega
  have r3 : 0 ≤ kI id ∧ kI id ≤ 15 := by unfold kI; omega
  have hok : okI (kI id) (fI id) (rI id) = c := by
    unfold okI
    rw [hc, decide_eq_true (by omega : fI id ≤ 31), decide_eq_true (by omega : rI id ≤ 15)]
    simp
  have HOK := Lib.hid hok
  clear hok hc
  obtain ⟨r00, r01⟩ := r0
  obtain ⟨r10, r11⟩ := r1
  obtain ⟨r20, r21⟩ := r2
  obtain ⟨r30, r31⟩ := r3
  obtain ⟨hz0, w0, w1, w2, w3⟩ := hw
  have i0 := idx48_0 (.int .i64 4) (.int .i64 16) (.int .i64 5) (.int .i64 4)
  have i1 := idx48_1 (.int .i64 4) (.int .i64 16) (.int .i64 5) (.int .i64 4)
  have i2 := idx48_2 (.int .i64 4) (.int .i64 16) (.int .i64 5) (.int .i64 4)
  have i3 := idx48_3 (.int .i64 4) (.int .i64 16) (.int .i64 5) (.int .i64 4)
  cases z <;> cases c
  all_goals go_enter Tryd.func7, Tryd.ntmps7
  all_goals go_wp2
  all_goals refine wp_loop_rounds 5 ?_
  all_goals rw [rounds_succ]
  all_goals go_wp2
  all_goals go_region
  all_goals go_wp2
  all_goals rw [rounds_succ]
  all_goals go_wp2
  all_goals go_region
  all_goals go_wp2
  all_goals rw [rounds_succ]
  all_goals go_wp2
  all_goals go_region
  all_goals go_wp2
  all_goals rw [rounds_succ]
  all_goals go_wp2
  all_goals go_region
  all_goals go_wp2
  all_goals rw [rounds_succ]
  all_goals go_wp2_with (go_at_call 9; refine (right_calls _ _ _ _ _ HOK.out _).mono ?_; rintro e w1 ⟨rfl, rfl⟩)
  all_goals go_returns
  all_goals exact ⟨rfl, by go_grown⟩
end Go.Proofs.YtnmcmgecdcnbiaaDoor
