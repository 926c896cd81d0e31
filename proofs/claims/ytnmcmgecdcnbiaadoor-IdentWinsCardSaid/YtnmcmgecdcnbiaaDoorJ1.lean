/- The document's answer on idents: right ones, identifiers made and read, frames that are right. -/
import Derived.Test.YtnmcmgecdcnbiaaDoorI5
namespace Go.Proofs.YtnmcmgecdcnbiaaDoor
open Go.RowKit
set_option maxRecDepth 100000
set_option maxHeartbeats 3200000
set_option linter.unusedVariables false
theorem jright_calls (k f s r : Int) (c : Bool) (hc : okI k f r = c) (w : World) :
    Calls Tryd.prog 18 #[.agg #[.int .u8 k, .int .u8 f, .int .u16 s, .int .u8 r]] w fun e w' => e = .returned (.bool c) ∧ w.alloc (.cells #[.int .u8 k, .int .u8 f, .int .u16 s, .int .u8 r] 24) = w' := by
  subst hc
  unfold okI
  obtain ⟨a, ha⟩ : ∃ a, decide (k ≤ 9) = a := ⟨_, rfl⟩
  obtain ⟨b, hb⟩ : ∃ b, decide (f ≤ 31) = b := ⟨_, rfl⟩
  rw [ha, hb]
  cases a <;> cases b
  all_goals go_enter Tryd.func18, Tryd.ntmps18
  all_goals go_wp2
  all_goals go_ret
  all_goals exact ⟨rfl, rfl⟩
theorem jmake_no (k f s r : Int) (h : okI k f r = false) (w : World) :
    Calls Tryd.prog 14 #[.agg #[.int .u8 k, .int .u8 f, .int .u16 s, .int .u8 r]] w fun e w' => e = .returned (.tuple #[.int .u32 0, .int .i64 150]) ∧ Below w.heap.size w w' := by
  have H := Lib.hid h
  clear h
  go_enter Tryd.func14, Tryd.ntmps14
  go_wp2_with (go_at_call 18; refine (jright_calls k f s r _ H.out _).mono ?_; rintro e w1 ⟨rfl, rfl⟩)
  go_returns
  exact ⟨rfl, by go_grown⟩
theorem jmake_yes (k f s r : Int) (h : okI k f r = true) (hk : 0 ≤ k) (hf : 0 ≤ f) (hs : 0 ≤ s ∧ s ≤ 65535) (hr : 0 ≤ r) (w : World) :
    Calls Tryd.prog 14 #[.agg #[.int .u8 k, .int .u8 f, .int .u16 s, .int .u8 r]] w fun e w' => e = .returned (.tuple #[.int .u32 (mkI k f s r), .int .i64 0]) ∧ Below w.heap.size w w' := by
  obtain ⟨k1, f1, r1⟩ : k ≤ 9 ∧ f ≤ 31 ∧ r ≤ 15 := by unfold okI at h; simp at h; exact ⟨h.1.1, h.1.2, h.2⟩
  obtain ⟨s0, s1⟩ := hs
  have H := Lib.hid h
  have e : ((k * 32 + f) * 65536 + s) * 16 + r = mkI k f s r := by unfold mkI; omega
  have E := Lib.hid e
  clear h e
  go_enter Tryd.func14, Tryd.ntmps14
  go_wp2_with (go_at_call 18; refine (jright_calls k f s r _ H.out _).mono ?_; rintro e w1 ⟨rfl, rfl⟩)
  go_returns
  refine ⟨?_, by go_grown⟩
  rw [← E.out]
  rfl
theorem jread_calls (id : Int) (h0 : 0 ≤ id) (h1 : id ≤ 4294967295) (w : World) :
    Calls Tryd.prog 15 #[.int .u32 id] w fun e w' => e = .returned (.tuple #[(readV id).1, .bool (readV id).2]) ∧ Below w.heap.size w w' := by
  obtain ⟨c, hc⟩ : ∃ c, decide ((9 : Int) < id / 33554432) = c := ⟨_, rfl⟩
  cases c with
  | true =>
    have e : readV id = (.agg #[.int .u8 0, .int .u8 0, .int .u16 0, .int .u8 0], false) := by
      unfold readV kI; rw [if_neg]; simp at hc ⊢; omega
    rw [e]
    clear e
    go_enter Tryd.func15, Tryd.ntmps15
    go_wp2
    go_returns
    exact ⟨rfl, by go_grown⟩
  | false =>
    have hc2 : id / 33554432 ≤ 9 := by simpa using hc
    have e : readV id = (.agg #[.int .u8 (id / 33554432), .int .u8 (id / 1048576 % 32), .int .u16 (id / 16 % 65536), .int .u8 (id % 16)], true) := by
      unfold readV
      have e1 : kI id = id / 33554432 := by unfold kI; omega
      have e2 : fI id = id / 1048576 % 32 := by unfold fI; omega
      rw [e1, e2, if_pos (by simp; omega)]
      rfl
    rw [e]
    have g1 : 0 ≤ id / 33554432 := by omega
    have g2 : 0 ≤ id / 1048576 % 32 ∧ id / 1048576 % 32 ≤ 31 := by omega
    have g3 : 0 ≤ id / 16 % 65536 ∧ id / 16 % 65536 ≤ 65535 := by omega
    have g4 : 0 ≤ id % 16 ∧ id % 16 ≤ 15 := by omega
    clear e
    go_enter Tryd.func15, Tryd.ntmps15
    go_wp2
    go_returns
    exact ⟨rfl, by go_grown⟩
theorem jlong_calls (id d : Int) (x m : Bool) (A : Option Addr) (n c : Nat) (hd : 0 ≤ d ∧ d ≤ 255) (w : World) :
    Calls Tryd.prog 33 #[.agg #[.int .u32 id, .bool x, .bool m, .int .u8 d, .slice A n c]] w fun e w' => e = .returned (.int .i64 (longI m d)) ∧ w.alloc (.cells #[.int .u32 id, .bool x, .bool m, .int .u8 d, .slice A n c] 34) = w' := by
  obtain ⟨d0, d1⟩ := hd
  cases m
  · go_enter Tryd.func33, Tryd.ntmps33
    go_wp2
    all_goals go_returns
    all_goals refine ⟨?_, rfl⟩
    all_goals unfold longI
    all_goals rw [if_neg (by decide)]
    · rw [if_pos (by assumption)]; rfl
    · rw [if_neg (by omega)]; rfl
  · go_enter Tryd.func33, Tryd.ntmps33
    go_wp2
    go_returns
    exact ⟨rfl, rfl⟩
theorem jfright_calls (id d : Int) (x m : Bool) (A : Option Addr) (n c : Nat) (h0 : 0 ≤ id) (hd : 0 ≤ d ∧ d ≤ 255) (v : Bool) (hv : frightI id d x m n = v) (w : World) :
    Calls Tryd.prog 27 #[.agg #[.int .u32 id, .bool x, .bool m, .int .u8 d, .slice A n c]] w fun e w' => e = .returned (.bool v) ∧ Below w.heap.size w w' := by
  subst hv
  obtain ⟨l, hl⟩ : ∃ l, longI m d = l := ⟨_, rfl⟩
  obtain ⟨b2, h2⟩ : ∃ b, decide ((15 : Int) < d) = b := ⟨_, rfl⟩
  obtain ⟨b3, h3⟩ : ∃ b, ((n : Int) != l) = b := ⟨_, rfl⟩
  obtain ⟨b4, h4⟩ : ∃ b, decide (id < 2048) = b := ⟨_, rfl⟩
  obtain ⟨b5, h5⟩ : ∃ b, decide (id < 536870912) = b := ⟨_, rfl⟩
  have e1 : frightI id d x m n = (!b2 && !b3 && (b4 || x && b5)) := by
    unfold frightI
    rw [hl, ← h2, ← h3, ← h4, ← h5, bne, Bool.not_not]
    rw [show decide (d ≤ 15) = !decide ((15 : Int) < d) by rw [← decide_not]; exact decide_eq_decide.2 (by omega)]
    cases x
    · rw [if_neg (by decide), show decide (id ≤ 2047) = decide (id < 2048) from decide_eq_decide.2 (by omega)]
      cases decide ((15 : Int) < d) <;> cases ((n : Int) == l) <;> cases decide (id < 2048) <;> rfl
    · rw [if_pos rfl, show decide (id ≤ 536870911) = (decide (id < 2048) || decide (id < 536870912)) by rw [Bool.eq_iff_iff]; simp; omega]
      cases decide ((15 : Int) < d) <;> cases ((n : Int) == l) <;> cases decide (id < 2048) <;> cases decide (id < 536870912) <;> rfl
  rw [e1]
  clear e1
  have cl := jlong_calls id d x m A n c hd
  rw [hl] at cl
  have CL := Lib.hid cl
  clear cl hl
  cases b2
  · cases b3
    all_goals cases b4 <;> cases x <;> cases b5
    all_goals go_enter Tryd.func27, Tryd.ntmps27
    all_goals go_wp2
    all_goals (first | (go_region_held3 (fun w' => w'.cell? ⟨w.heap.size, 0, none⟩ = some (.int .u32 id) ∧ w'.cell? ⟨w.heap.size, 1, none⟩ = some (.bool false) ∧ w'.cell? ⟨w.heap.size, 2, none⟩ = some (.bool m) ∧ w'.cell? ⟨w.heap.size, 3, none⟩ = some (.int .u8 d) ∧ w'.cell? ⟨w.heap.size, 4, none⟩ = some (.slice A n c)) (go_keep) (first | (go_at_call 33; refine (CL.out _).mono ?_; rintro e w2 ⟨rfl, rfl⟩))) | (go_region_held3 (fun w' => w'.cell? ⟨w.heap.size, 0, none⟩ = some (.int .u32 id) ∧ w'.cell? ⟨w.heap.size, 1, none⟩ = some (.bool true) ∧ w'.cell? ⟨w.heap.size, 2, none⟩ = some (.bool m) ∧ w'.cell? ⟨w.heap.size, 3, none⟩ = some (.int .u8 d) ∧ w'.cell? ⟨w.heap.size, 4, none⟩ = some (.slice A n c)) (go_keep) (first | (go_at_call 33; refine (CL.out _).mono ?_; rintro e w2 ⟨rfl, rfl⟩))))
    all_goals go_wp2
    all_goals go_returns
    all_goals exact ⟨rfl, by go_grown⟩
  · go_enter Tryd.func27, Tryd.ntmps27
    go_wp2
    go_quiet (fail)
    go_wp2
    go_returns
    exact ⟨rfl, below_dn (by go_grown) _⟩
end Go.Proofs.YtnmcmgecdcnbiaaDoor
