/- Frames: how long, which are right. -/
import Derived.Test.YtnmcmgecdcnbiaaDoorI2
namespace Go.Proofs.YtnmcmgecdcnbiaaDoor
open Go.RowKit
set_option maxRecDepth 100000
set_option maxHeartbeats 3200000
set_option linter.unusedVariables false
def longI (m : Bool) (d : Int) : Int := if m then 0 else if 8 < d then 8 else d
theorem long_calls (id d : Int) (x m : Bool) (A : Option Addr) (n c : Nat) (hd : 0 ≤ d ∧ d ≤ 255) (w : World) :
    Calls Tryd.prog 26 #[.agg #[.int .u32 id, .bool x, .bool m, .int .u8 d, .slice A n c]] w fun e w' => e = .returned (.int .i64 (longI m d)) ∧ w.alloc (.cells #[.int .u32 id, .bool x, .bool m, .int .u8 d, .slice A n c] 34) = w' := by
  obtain ⟨d0, d1⟩ := hd
  cases m
  · go_enter Tryd.func26, Tryd.ntmps26
    go_wp2
    all_goals go_returns
    all_goals refine ⟨?_, rfl⟩
    all_goals unfold longI
    all_goals rw [if_neg (by decide)]
    · rw [if_pos (by assumption)]; rfl
    · rw [if_neg (by omega)]; rfl
  · go_enter Tryd.func26, Tryd.ntmps26
    go_wp2
    go_returns
    exact ⟨rfl, rfl⟩

def frightI (id d : Int) (x m : Bool) (n : Nat) : Bool := decide (id ≤ if x then 536870911 else 2047) && decide (d ≤ 15) && ((n : Int) == longI m d)
theorem below_dn {B : Nat} {w W : World} (h : Below B w W) (q : Nat) : Below B w (W.drewN q) := ⟨h.os, h.tape, h.output, h.size, h.block⟩
theorem fright_calls (id d : Int) (x m : Bool) (A : Option Addr) (n c : Nat) (hd : 0 ≤ d ∧ d ≤ 255) (v : Bool) (hv : frightI id d x m n = v) (w : World) :
    Calls Tryd.prog 13 #[.agg #[.int .u32 id, .bool x, .bool m, .int .u8 d, .slice A n c]] w fun e w' => e = .returned (.bool v) ∧ Below w.heap.size w w' := by
  subst hv
  obtain ⟨l, hl⟩ : ∃ l, longI m d = l := ⟨_, rfl⟩
  obtain ⟨b1, h1⟩ : ∃ b, decide (id ≤ if x then 536870911 else 2047) = b := ⟨_, rfl⟩
  obtain ⟨b2, h2⟩ : ∃ b, decide (d ≤ 15) = b := ⟨_, rfl⟩
  obtain ⟨b3, h3⟩ : ∃ b, ((n : Int) == l) = b := ⟨_, rfl⟩
  unfold frightI
  rw [h1, h2, hl, h3]
  have HL := Lib.hid hl
  clear hl
  have cl := long_calls id d x m A n c hd
  rw [HL.out] at cl
  have CL := Lib.hid cl
  clear cl
  cases x
  · simp only [Bool.false_eq_true, if_false] at h1
    cases b1
    · cases b2 <;> (go_enter Tryd.func13, Tryd.ntmps13; go_wp2; go_quiet (fail); go_wp2; go_returns; exact ⟨rfl, below_dn (by go_grown) _⟩)
    · cases b2
      · go_enter Tryd.func13, Tryd.ntmps13; go_wp2; go_quiet (fail); go_wp2; go_returns; exact ⟨rfl, below_dn (by go_grown) _⟩
      · go_enter Tryd.func13, Tryd.ntmps13
        go_wp2
        go_region_held3 (fun w' => w'.cell? ⟨w.heap.size, 0, none⟩ = some (.int .u32 id) ∧ w'.cell? ⟨w.heap.size, 1, none⟩ = some (.bool false) ∧ w'.cell? ⟨w.heap.size, 2, none⟩ = some (.bool m) ∧ w'.cell? ⟨w.heap.size, 3, none⟩ = some (.int .u8 d) ∧ w'.cell? ⟨w.heap.size, 4, none⟩ = some (.slice A n c)) (go_keep) (first | (go_at_call 26; refine (CL.out _).mono ?_; rintro e w2 ⟨rfl, rfl⟩))
        go_wp2
        go_returns
        exact ⟨rfl, by go_grown⟩
  · simp only [if_true] at h1
    cases b1
    · cases b2 <;> (go_enter Tryd.func13, Tryd.ntmps13; go_wp2; go_quiet (fail); go_wp2; go_returns; exact ⟨rfl, below_dn (by go_grown) _⟩)
    · cases b2
      · go_enter Tryd.func13, Tryd.ntmps13; go_wp2; go_quiet (fail); go_wp2; go_returns; exact ⟨rfl, below_dn (by go_grown) _⟩
      · go_enter Tryd.func13, Tryd.ntmps13
        go_wp2
        go_region_held3 (fun w' => w'.cell? ⟨w.heap.size, 0, none⟩ = some (.int .u32 id) ∧ w'.cell? ⟨w.heap.size, 1, none⟩ = some (.bool true) ∧ w'.cell? ⟨w.heap.size, 2, none⟩ = some (.bool m) ∧ w'.cell? ⟨w.heap.size, 3, none⟩ = some (.int .u8 d) ∧ w'.cell? ⟨w.heap.size, 4, none⟩ = some (.slice A n c)) (go_keep) (first | (go_at_call 26; refine (CL.out _).mono ?_; rintro e w2 ⟨rfl, rfl⟩))
        go_wp2
        go_returns
        exact ⟨rfl, by go_grown⟩
end Go.Proofs.YtnmcmgecdcnbiaaDoor
