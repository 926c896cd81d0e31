/- The chapter's examples hold: 'awake' returns true, in whatever memory where the widths are as they were laid. -/
import Derived.Test.YtnmcmgecdcnbiaaDoorI4
namespace Go.Proofs.YtnmcmgecdcnbiaaDoor
open Go.RowKit
set_option maxRecDepth 100000
set_option maxHeartbeats 3200000
set_option linter.unusedVariables false
theorem readV_0 : readV 0 = (.agg #[.int .u8 0, .int .u8 0, .int .u16 0, .int .u8 0], true) := by
  unfold readV kI fI sI rI; rfl
theorem readV_all : readV 536870911 = (.agg #[.int .u8 0, .int .u8 0, .int .u16 0, .int .u8 0], false) := by
  unfold readV kI; rw [if_neg (by decide)]
theorem ofV_base (id d : Int) (m : Bool) (n : Nat) : ofV id d false m n = (.agg #[.int .u8 0, .int .u8 0, .int .u16 0, .int .u8 0], false) := rfl
theorem awake_calls (w : World) (hw : Wid w) : Calls Tryd.prog 11 #[] w fun e w' => e = .returned (.bool true) ∧ Below w.heap.size w w' := by
  have r0 := fun w hw => read_calls 0 (by decide) (by decide) w hw
  have r1 := fun w hw => read_calls 536870911 (by decide) (by decide) w hw
  rw [readV_0] at r0
  rw [readV_all] at r1
  have R0 := Lib.hid r0
  have R1 := Lib.hid r1
  clear r0 r1
  go_enter Tryd.func11, Tryd.ntmps11
  go_wp2_with fail
  refine (make_yes 1 2 3 4 rfl (by decide) (by decide) (by decide) (by decide) _ (hw.alloc _)).mono ?_
  rintro e w1 ⟨rfl, hb1⟩
  obtain ⟨hI1, hz1, hbw1⟩ := after1 hb1
  have hW1 := hw.below hbw1 hw.1
  rw [show mkI 1 2 3 4 = 35651636 from rfl]
  go_wp2_with fail
  refine (R0.out _ hW1).mono ?_
  rintro e w2 ⟨rfl, hb2⟩
  have hI2 := hI1.below hb2 hI1.lt
  have hW2 := hW1.below hb2 hW1.1
  go_wp2_with fail
  refine (R1.out _ (hW2.alloc _)).mono ?_
  rintro e w3 ⟨rfl, hb3⟩
  obtain ⟨hZ3, hz3, hbw3⟩ := after1 hb3
  have hI3 := hI2.below hbw3 hI2.lt
  have hW3 := hW2.below hbw3 hW2.1
  obtain ⟨i0, i1, i2, i3, -⟩ := hI3.four
  have hlt3 := hI3.lt
  go_wp2_with fail
  refine (frame_yes 1 2 3 4 _ _ _ [.int .u8 1, .int .u8 2] rfl (by decide) (by decide) (by decide) (by decide) (by decide) _ ((hW3.alloc _).alloc _) (Reads.new _ _ 5 _ 1 2 (by simp) rfl) (by decide)).mono ?_
  rintro e w4 ⟨B, m, rfl, hown, hb4⟩
  obtain ⟨hX4, hY4, hz4, hbw4⟩ := after2 hb4
  have hI4 := hI3.below hbw4 hI3.lt
  have hZ4 := hZ3.below hbw4 hZ3.lt
  have hW4 := hW3.below hbw4 hW3.1
  clear i0 i1 i2 i3
  rw [show mkI 1 2 3 4 = 35651636 from rfl]
  go_wp2_with fail
  refine (of_calls 5 0 false false none 0 0 (by decide) (by decide) (by decide) _ (hW4.alloc _)).mono ?_
  rintro e w5 ⟨rfl, hb5⟩
  rw [ofV_base]
  obtain ⟨hF5, hz5, hbw5⟩ := after1 hb5
  have hZ5 := hZ4.below hbw5 hZ4.lt
  obtain ⟨f0, f1, f2, f3, f4, -⟩ := hF5.five
  obtain ⟨z0, z1, z2, z3, -⟩ := hZ5.four
  have hltz := hZ5.lt
  go_wp2_with fail
  go_returns
  exact ⟨rfl, below_alloc ((((hbw1.trans (hb2.mono hbw1.size)).trans (hbw3.mono (by have := hbw1.size; have := hb2.size; omega))).trans (hbw4.mono (by have := hbw1.size; have := hb2.size; have := hbw3.size; omega))).trans (hbw5.mono (by have := hbw1.size; have := hb2.size; have := hbw3.size; have := hbw4.size; omega))) _⟩
end Go.Proofs.YtnmcmgecdcnbiaaDoor
