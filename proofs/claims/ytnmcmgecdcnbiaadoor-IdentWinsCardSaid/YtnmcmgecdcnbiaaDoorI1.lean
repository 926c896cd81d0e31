/- Idents: right ones, their parts, the identifier made of one: what the program computes. -/
import Derived.Test.YtnmcmgecdcnbiaaDoorC1
import Derived.Test.YtnmcmgecdcnbiaaDoorChecked
import Derived.Laws.BitsAllLaws
import Derived.BigQuiet
import Derived.WalkLawsBesides
import Derived.WalkSpells
import Derived.Deep.DeepMust
import Derived.WalkSmall
import Derived.Handy
namespace Go.Proofs.YtnmcmgecdcnbiaaDoor
open Go.RowKit
set_option maxRecDepth 100000
set_option maxHeartbeats 3200000
set_option linter.unusedVariables false
def okI (k f r : Int) : Bool := decide (k ≤ 9) && decide (f ≤ 31) && decide (r ≤ 15)
theorem right_calls (k f s r : Int) (c : Bool) (hc : okI k f r = c) (w : World) :
    Calls Tryd.prog 9 #[.agg #[.int .u8 k, .int .u8 f, .int .u16 s, .int .u8 r]] w fun e w' => e = .returned (.bool c) ∧ w.alloc (.cells #[.int .u8 k, .int .u8 f, .int .u16 s, .int .u8 r] 24) = w' := by
  subst hc
  unfold okI
  obtain ⟨a, ha⟩ : ∃ a, decide (k ≤ 9) = a := ⟨_, rfl⟩
  obtain ⟨b, hb⟩ : ∃ b, decide (f ≤ 31) = b := ⟨_, rfl⟩
  rw [ha, hb]
  cases a <;> cases b
  all_goals go_enter Tryd.func9, Tryd.ntmps9
  all_goals go_wp2
  all_goals go_ret
  all_goals exact ⟨rfl, rfl⟩
theorem parts_calls (k f s r : Int) (hk : 0 ≤ k ∧ k ≤ 255) (hf : 0 ≤ f ∧ f ≤ 255) (hs : 0 ≤ s ∧ s ≤ 65535) (hr : 0 ≤ r ∧ r ≤ 255) (w : World) :
    Calls Tryd.prog 24 #[.agg #[.int .u8 k, .int .u8 f, .int .u16 s, .int .u8 r]] w fun e w' => e = .returned (.agg #[.int .u32 r, .int .u32 s, .int .u32 f, .int .u32 k]) ∧ Below w.heap.size w w' := by
  obtain ⟨k0, k1⟩ := hk
  obtain ⟨f0, f1⟩ := hf
  obtain ⟨s0, s1⟩ := hs
  obtain ⟨r0, r1⟩ := hr
  go_enter Tryd.func24, Tryd.ntmps24
  go_wp2
  go_returns
  exact ⟨rfl, by go_grown⟩
theorem or_small (i : Nat) (x y : Int) (hx0 : 0 ≤ x) (hx : x < 2 ^ i) (hx1 : x < 4294967296) (hy0 : 0 ≤ y) (hy : y % 2 ^ i = 0) (hy1 : y < 4294967296) : Go.bits .or .u32 x y = x + y := by
  have h := bits_join .u32 32 (by decide) (fun n h0 h1 => by rw [IntKind.wrap_u32]; omega) i y x hy0 hy (by simpa using hy1) hx0 hx (by simpa using hx1)
  obtain ⟨a, rfl⟩ := Int.eq_ofNat_of_zero_le hx0
  obtain ⟨b, rfl⟩ := Int.eq_ofNat_of_zero_le hy0
  rw [u32_or_nat _ _ (by omega) (by omega)] at h ⊢
  rw [Nat.or_comm, h]
  omega
def mkI (k f s r : Int) : Int := r + s * 16 + f * 1048576 + k * 33554432
/-- The table of widths reads as it was laid. -/
def Wid (w : World) : Prop := 0 < w.heap.size ∧ w.cell? ⟨0, 0, none⟩ = some (.int .i64 4) ∧ w.cell? ⟨0, 1, none⟩ = some (.int .i64 16) ∧ w.cell? ⟨0, 2, none⟩ = some (.int .i64 5) ∧ w.cell? ⟨0, 3, none⟩ = some (.int .i64 4)
theorem Wid.below {w w' : World} {B : Nat} (h : Wid w) (hb : Below B w w') (hB : 0 < B) : Wid w' :=
  ⟨by have := hb.size; have := h.1; omega, (hb.cell (p := ⟨0, 0, none⟩) hB).trans h.2.1, (hb.cell (p := ⟨0, 1, none⟩) hB).trans h.2.2.1, (hb.cell (p := ⟨0, 2, none⟩) hB).trans h.2.2.2.1, (hb.cell (p := ⟨0, 3, none⟩) hB).trans h.2.2.2.2⟩
theorem idx47_0 (a b c d : Value) (w : World) : (Instr.index 47 (.agg #[a, b, c, d]) (.int .i64 0)).run Tryd.prog w = .ok a w := by kernel_rfl
theorem idx47_1 (a b c d : Value) (w : World) : (Instr.index 47 (.agg #[a, b, c, d]) (.int .i64 1)).run Tryd.prog w = .ok b w := by kernel_rfl
theorem idx47_2 (a b c d : Value) (w : World) : (Instr.index 47 (.agg #[a, b, c, d]) (.int .i64 2)).run Tryd.prog w = .ok c w := by kernel_rfl
theorem idx47_3 (a b c d : Value) (w : World) : (Instr.index 47 (.agg #[a, b, c, d]) (.int .i64 3)).run Tryd.prog w = .ok d w := by kernel_rfl
theorem idx48_0 (a b c d : Value) (w : World) : (Instr.index 48 (.agg #[a, b, c, d]) (.int .i64 0)).run Tryd.prog w = .ok a w := by kernel_rfl
theorem idx48_1 (a b c d : Value) (w : World) : (Instr.index 48 (.agg #[a, b, c, d]) (.int .i64 1)).run Tryd.prog w = .ok b w := by kernel_rfl
theorem idx48_2 (a b c d : Value) (w : World) : (Instr.index 48 (.agg #[a, b, c, d]) (.int .i64 2)).run Tryd.prog w = .ok c w := by kernel_rfl
theorem idx48_3 (a b c d : Value) (w : World) : (Instr.index 48 (.agg #[a, b, c, d]) (.int .i64 3)).run Tryd.prog w = .ok d w := by kernel_rfl
theorem make_no (k f s r : Int) (h : okI k f r = false) (w : World) :
    Calls Tryd.prog 8 #[.agg #[.int .u8 k, .int .u8 f, .int .u16 s, .int .u8 r]] w fun e w' => e = .returned (.tuple #[.int .u32 0, .int .i64 150]) ∧ Below w.heap.size w w' := by
  have H := Lib.hid h
  clear h
  go_enter Tryd.func8, Tryd.ntmps8
  go_wp2_with (go_at_call 9; refine (right_calls k f s r _ H.out _).mono ?_; rintro e w1 ⟨rfl, rfl⟩)
  go_returns
  exact ⟨rfl, by go_grown⟩
theorem make_yes (k f s r : Int) (h : okI k f r = true) (hk : 0 ≤ k) (hf : 0 ≤ f) (hs : 0 ≤ s ∧ s ≤ 65535) (hr : 0 ≤ r) (w : World) (hw : Wid w) :
    Calls Tryd.prog 8 #[.agg #[.int .u8 k, .int .u8 f, .int .u16 s, .int .u8 r]] w fun e w' => e = .returned (.tuple #[.int .u32 (mkI k f s r), .int .i64 0]) ∧ Below w.heap.size w w' := by
  obtain ⟨k1, f1, r1⟩ : k ≤ 9 ∧ f ≤ 31 ∧ r ≤ 15 := by unfold okI at h; simp at h; exact ⟨h.1.1, h.1.2, h.2⟩
  obtain ⟨s0, s1⟩ := hs
  have H := Lib.hid h
  clear h
  have b0 : Go.bits .or .u32 0 r = r := by rw [or_small 0] <;> omega
  have b1 : Go.bits .or .u32 r (s * 16) = r + s * 16 := by rw [or_small 4] <;> omega
  have b2 : Go.bits .or .u32 (r + s * 16) (f * 1048576) = r + s * 16 + f * 1048576 := by rw [or_small 20] <;> omega
  have b3 : Go.bits .or .u32 (r + s * 16 + f * 1048576) (k * 33554432) = r + s * 16 + f * 1048576 + k * 33554432 := by rw [or_small 25] <;> omega
  obtain ⟨hz, w0, w1, w2, w3⟩ := hw
  go_enter Tryd.func8, Tryd.ntmps8
  go_wp2_with (first
    | (go_at_call 9; refine (right_calls k f s r _ H.out _).mono ?_; rintro e w1 ⟨rfl, rfl⟩)
    | (go_at_call 24; refine (parts_calls k f s r ⟨by omega, by omega⟩ ⟨by omega, by omega⟩ ⟨by omega, by omega⟩ ⟨by omega, by omega⟩ _).mono ?_; rintro e w4 ⟨rfl, hb⟩))
  have hW : Wid w4 := Wid.below ⟨hz, w0, w1, w2, w3⟩ ((blw2 ..).trans (hb.mono (by simp; omega))) (by omega)
  obtain ⟨_, v0, v1, v2, v3⟩ := hW
  clear w0 w1 w2 w3
  have i0 := idx47_0 (.int .u32 r) (.int .u32 s) (.int .u32 f) (.int .u32 k)
  have i1 := idx47_1 (.int .u32 r) (.int .u32 s) (.int .u32 f) (.int .u32 k)
  have i2 := idx47_2 (.int .u32 r) (.int .u32 s) (.int .u32 f) (.int .u32 k)
  have i3 := idx47_3 (.int .u32 r) (.int .u32 s) (.int .u32 f) (.int .u32 k)
  go_rounds 5
  go_returns
  have hb' := (blw2 w (.cells #[.int .u8 k, .int .u8 f, .int .u16 s, .int .u8 r] 24) (.cells #[.int .u8 k, .int .u8 f, .int .u16 s, .int .u8 r] 24)).trans (hb.mono (by simp; omega))
  exact ⟨rfl, hb'⟩
end Go.Proofs.YtnmcmgecdcnbiaaDoor
