/- What the functions of the view package return, at every input: no conditions. -/
import Derived.Test.YtdpjgnefjickkaaProg
import Derived.Test.YtdpjgnefjickkaaB1
import Derived.Test.YtdpjgnefjickkaaC0
import Derived.Below
import Derived.WalkKit
import Derived.KernelRfl
import Derived.RowKit3
import Derived.Laws.BitsLemmas
import Derived.RowKit
import Derived.BigQuiet
namespace Go.Proofs.Ytdpjgnefjickkaa
open Go.RowKit
set_option maxRecDepth 100000

theorem right_calls (v : V) (w : World) :
    Calls Try.prog 11 #[.agg #[.int .i64 v.n, .int .u32 v.s, .int .u32 v.j, .int .u32 v.l, .int .u32 v.f]] w fun e w' => e = .returned (.bool (rightV v)) ∧ w.alloc (.cells #[.int .i64 v.n, .int .u32 v.s, .int .u32 v.j, .int .u32 v.l, .int .u32 v.f] 28) = w' := by
  unfold rightV
  by_cases h0 : 0 ≤ v.n
  · by_cases h1 : (Go.bits .and .u32 v.j v.s == 0) = true
    · go_enter Try.func11, Try.ntmps11
      go_wp2
      go_ret
      exact ⟨by simp [h0, h1], rfl⟩
    · have h1' : (Go.bits .and .u32 v.j v.s == 0) = false := by simpa using h1
      clear h1
      go_enter Try.func11, Try.ntmps11
      go_wp2
      go_ret
      exact ⟨by simp [h1'], rfl⟩
  · have h0' : decide (0 ≤ v.n) = false := by simpa using h0
    go_enter Try.func11, Try.ntmps11
    go_wp2
    go_ret
    exact ⟨by simp, rfl⟩
theorem first_calls (s : Int) (w : World) :
    Calls Try.prog 7 #[.int .u32 s] w fun e w' => e = .returned (.agg #[.int .i64 0, .int .u32 s, .int .u32 0, .int .u32 0, .int .u32 0]) ∧ w.alloc (.cells #[.int .i64 0, .int .u32 s, .int .u32 0, .int .u32 0, .int .u32 0] 28) = w' := by
  go_enter Try.func7, Try.ntmps7
  go_wp2
  exact bodyPost_ret (v := .agg #[.int .i64 0, .int .u32 s, .int .u32 0, .int .u32 0, .int .u32 0]) (by simp [results, Try.results7, go_sem]) rfl ⟨rfl, rfl⟩
theorem end_no (v : V) (w : World) (h : (Go.bits .or .u32 (Go.bits .or .u32 v.j v.l) v.f == 0) = true) :
    Calls Try.prog 14 #[.agg #[.int .i64 v.n, .int .u32 v.s, .int .u32 v.j, .int .u32 v.l, .int .u32 v.f]] w fun e w' => e = .returned (.tuple #[.agg #[.int .i64 v.n, .int .u32 v.s, .int .u32 v.j, .int .u32 v.l, .int .u32 v.f], .bool false]) ∧ (w.alloc (.cells #[.int .i64 v.n, .int .u32 v.s, .int .u32 v.j, .int .u32 v.l, .int .u32 v.f] 28)).alloc (.cells #[.int .i64 v.n, .int .u32 v.s, .int .u32 v.j, .int .u32 v.l, .int .u32 v.f] 28) = w' := by
  go_enter Try.func14, Try.ntmps14
  go_wp2
  refine bodyPost_ret (v := .tuple #[.agg #[.int .i64 v.n, .int .u32 v.s, .int .u32 v.j, .int .u32 v.l, .int .u32 v.f], .bool false]) (by simp [results, Try.results14, go_sem]) rfl ⟨rfl, rfl⟩
theorem end_yes (v : V) (w : World) (h : (Go.bits .or .u32 (Go.bits .or .u32 v.j v.l) v.f == 0) = false) :
    Calls Try.prog 14 #[.agg #[.int .i64 v.n, .int .u32 v.s, .int .u32 v.j, .int .u32 v.l, .int .u32 v.f]] w fun e w' => e = .returned (.tuple #[.agg #[.int .i64 (incV v.n), .int .u32 (Go.bits .andNot .u32 (Go.bits .or .u32 v.s v.j) (Go.bits .or .u32 v.l v.f)), .int .u32 0, .int .u32 0, .int .u32 0], .bool true]) ∧ (((w.alloc (.cells #[.int .i64 v.n, .int .u32 v.s, .int .u32 v.j, .int .u32 v.l, .int .u32 v.f] 28)).alloc (.cells #[.int .i64 (incV v.n), .int .u32 (Go.bits .andNot .u32 (Go.bits .or .u32 v.s v.j) (Go.bits .or .u32 v.l v.f)), .int .u32 0, .int .u32 0, .int .u32 0] 28)).alloc (.cells #[.int .i64 0, .int .u32 (Go.bits .andNot .u32 (Go.bits .or .u32 v.s v.j) (Go.bits .or .u32 v.l v.f)), .int .u32 0, .int .u32 0, .int .u32 0] 28)).alloc (.cells #[.int .i64 (incV v.n), .int .u32 (Go.bits .andNot .u32 (Go.bits .or .u32 v.s v.j) (Go.bits .or .u32 v.l v.f)), .int .u32 0, .int .u32 0, .int .u32 0] 28) = w' := by
  unfold incV
  by_cases hn : v.n < 9223372036854775807
  · rw [if_pos hn]
    go_enter Try.func14, Try.ntmps14
    go_wp2_with (go_at_call 7; refine (first_calls _ _).mono ?_; rintro e w' ⟨rfl, rfl⟩)
    refine bodyPost_ret (v := .tuple #[.agg #[.int .i64 (wrap64 (v.n + 1)), .int .u32 (Go.bits .andNot .u32 (Go.bits .or .u32 v.s v.j) (Go.bits .or .u32 v.l v.f)), .int .u32 0, .int .u32 0, .int .u32 0], .bool true]) (by simp [results, Try.results14, go_sem]) rfl ⟨rfl, rfl⟩
  · rw [if_neg hn]
    go_enter Try.func14, Try.ntmps14
    go_wp2_with (go_at_call 7; refine (first_calls _ _).mono ?_; rintro e w' ⟨rfl, rfl⟩)
    refine bodyPost_ret (v := .tuple #[.agg #[.int .i64 v.n, .int .u32 (Go.bits .andNot .u32 (Go.bits .or .u32 v.s v.j) (Go.bits .or .u32 v.l v.f)), .int .u32 0, .int .u32 0, .int .u32 0], .bool true]) (by simp [results, Try.results14, go_sem]) rfl ⟨rfl, rfl⟩

theorem right_yes (v : V) (h : rightV v = true) (w : World) :
    Calls Try.prog 11 #[.agg #[.int .i64 v.n, .int .u32 v.s, .int .u32 v.j, .int .u32 v.l, .int .u32 v.f]] w fun e w' => e = .returned (.bool true) ∧ w.alloc (.cells #[.int .i64 v.n, .int .u32 v.s, .int .u32 v.j, .int .u32 v.l, .int .u32 v.f] 28) = w' := h ▸ right_calls v w
theorem right_no (v : V) (h : rightV v = false) (w : World) :
    Calls Try.prog 11 #[.agg #[.int .i64 v.n, .int .u32 v.s, .int .u32 v.j, .int .u32 v.l, .int .u32 v.f]] w fun e w' => e = .returned (.bool false) ∧ w.alloc (.cells #[.int .i64 v.n, .int .u32 v.s, .int .u32 v.j, .int .u32 v.l, .int .u32 v.f] 28) = w' := h ▸ right_calls v w
def outV (r : V × Bool × Int) : Ending := .returned (.tuple #[.agg #[.int .i64 r.1.n, .int .u32 r.1.s, .int .u32 r.1.j, .int .u32 r.1.l, .int .u32 r.1.f], .bool r.2.1, .int .i64 r.2.2])
theorem step_join (v : V) (node : Int) (hn0 : 0 ≤ node) (h : rightV v = true) (hn : node ≤ 31) (w : World) :
    Calls Try.prog 12 #[.agg #[.int .i64 v.n, .int .u32 v.s, .int .u32 v.j, .int .u32 v.l, .int .u32 v.f], .int .u8 1, .int .u8 node] w fun e w' => e = .returned (.tuple #[.agg #[.int .i64 v.n, .int .u32 v.s, .int .u32 (Go.bits .or .u32 v.j (Go.bits .andNot .u32 (shlV node) v.s)), .int .u32 v.l, .int .u32 v.f], .bool false, .int .i64 0]) ∧ Below w.heap.size w w' := by
  have hn' : decide (31 < node) = false := by simp; omega
  unfold shlV
  go_enter Try.func12, Try.ntmps12
  go_wp2_with (go_at_call 11; refine (right_yes _ h _).mono ?_; rintro e w1 ⟨rfl, rfl⟩)
  refine bodyPost_ret (v := .tuple #[.agg #[.int .i64 v.n, .int .u32 v.s, .int .u32 (Go.bits .or .u32 v.j (Go.bits .andNot .u32 (2 ^ (node % 32).toNat % 4294967296) v.s)), .int .u32 v.l, .int .u32 v.f], .bool false, .int .i64 0]) (by simp [results, Try.results12, go_sem]) rfl ⟨rfl, ?_⟩
  exact blw3 ..
theorem step_leave (v : V) (node : Int) (hn0 : 0 ≤ node) (h : rightV v = true) (hn : node ≤ 31) (w : World) :
    Calls Try.prog 12 #[.agg #[.int .i64 v.n, .int .u32 v.s, .int .u32 v.j, .int .u32 v.l, .int .u32 v.f], .int .u8 2, .int .u8 node] w fun e w' => e = .returned (.tuple #[.agg #[.int .i64 v.n, .int .u32 v.s, .int .u32 (Go.bits .andNot .u32 v.j (shlV node)), .int .u32 (Go.bits .or .u32 v.l (Go.bits .and .u32 (shlV node) v.s)), .int .u32 v.f], .bool false, .int .i64 0]) ∧ Below w.heap.size w w' := by
  have hn' : decide (31 < node) = false := by simp; omega
  unfold shlV
  go_enter Try.func12, Try.ntmps12
  go_wp2_with (go_at_call 11; refine (right_yes _ h _).mono ?_; rintro e w1 ⟨rfl, rfl⟩)
  refine bodyPost_ret (v := .tuple #[.agg #[.int .i64 v.n, .int .u32 v.s, .int .u32 (Go.bits .andNot .u32 v.j (2 ^ (node % 32).toNat % 4294967296)), .int .u32 (Go.bits .or .u32 v.l (Go.bits .and .u32 (2 ^ (node % 32).toNat % 4294967296) v.s)), .int .u32 v.f], .bool false, .int .i64 0]) (by simp [results, Try.results12, go_sem]) rfl ⟨rfl, ?_⟩
  exact blw3 ..
theorem step_fail (v : V) (node : Int) (hn0 : 0 ≤ node) (h : rightV v = true) (hn : node ≤ 31) (w : World) :
    Calls Try.prog 12 #[.agg #[.int .i64 v.n, .int .u32 v.s, .int .u32 v.j, .int .u32 v.l, .int .u32 v.f], .int .u8 3, .int .u8 node] w fun e w' => e = .returned (.tuple #[.agg #[.int .i64 v.n, .int .u32 v.s, .int .u32 (Go.bits .andNot .u32 v.j (shlV node)), .int .u32 v.l, .int .u32 (Go.bits .or .u32 v.f (Go.bits .and .u32 (shlV node) v.s))], .bool false, .int .i64 0]) ∧ Below w.heap.size w w' := by
  have hn' : decide (31 < node) = false := by simp; omega
  unfold shlV
  go_enter Try.func12, Try.ntmps12
  go_wp2_with (go_at_call 11; refine (right_yes _ h _).mono ?_; rintro e w1 ⟨rfl, rfl⟩)
  refine bodyPost_ret (v := .tuple #[.agg #[.int .i64 v.n, .int .u32 v.s, .int .u32 (Go.bits .andNot .u32 v.j (2 ^ (node % 32).toNat % 4294967296)), .int .u32 v.l, .int .u32 (Go.bits .or .u32 v.f (Go.bits .and .u32 (2 ^ (node % 32).toNat % 4294967296) v.s))], .bool false, .int .i64 0]) (by simp [results, Try.results12, go_sem]) rfl ⟨rfl, ?_⟩
  exact blw3 ..
theorem step_endno (v : V) (node : Int) (hn0 : 0 ≤ node) (hn1 : node ≤ 255) (h : rightV v = true) (ha : (Go.bits .or .u32 (Go.bits .or .u32 v.j v.l) v.f == 0) = true) (w : World) :
    Calls Try.prog 12 #[.agg #[.int .i64 v.n, .int .u32 v.s, .int .u32 v.j, .int .u32 v.l, .int .u32 v.f], .int .u8 4, .int .u8 node] w fun e w' => e = .returned (.tuple #[.agg #[.int .i64 v.n, .int .u32 v.s, .int .u32 v.j, .int .u32 v.l, .int .u32 v.f], .bool false, .int .i64 0]) ∧ Below w.heap.size w w' := by
  go_enter Try.func12, Try.ntmps12
  go_wp2_with (first | (go_at_call 11; refine (right_yes _ h _).mono ?_; rintro e w1 ⟨rfl, rfl⟩) | (go_at_call 14; refine (end_no v _ ha).mono ?_; rintro e w1 ⟨rfl, rfl⟩))
  refine bodyPost_ret (v := .tuple #[.agg #[.int .i64 v.n, .int .u32 v.s, .int .u32 v.j, .int .u32 v.l, .int .u32 v.f], .bool false, .int .i64 0]) (by simp [results, Try.results12, go_sem]) rfl ⟨rfl, ?_⟩
  exact blw6 ..
theorem step_endyes (v : V) (node : Int) (hn0 : 0 ≤ node) (hn1 : node ≤ 255) (h : rightV v = true) (ha : (Go.bits .or .u32 (Go.bits .or .u32 v.j v.l) v.f == 0) = false) (w : World) :
    Calls Try.prog 12 #[.agg #[.int .i64 v.n, .int .u32 v.s, .int .u32 v.j, .int .u32 v.l, .int .u32 v.f], .int .u8 4, .int .u8 node] w fun e w' => e = .returned (.tuple #[.agg #[.int .i64 (incV v.n), .int .u32 (Go.bits .andNot .u32 (Go.bits .or .u32 v.s v.j) (Go.bits .or .u32 v.l v.f)), .int .u32 0, .int .u32 0, .int .u32 0], .bool true, .int .i64 0]) ∧ Below w.heap.size w w' := by
  go_enter Try.func12, Try.ntmps12
  go_wp2_with (first | (go_at_call 11; refine (right_yes _ h _).mono ?_; rintro e w1 ⟨rfl, rfl⟩) | (go_at_call 14; refine (end_yes v _ ha).mono ?_; rintro e w1 ⟨rfl, rfl⟩))
  refine bodyPost_ret (v := .tuple #[.agg #[.int .i64 (incV v.n), .int .u32 (Go.bits .andNot .u32 (Go.bits .or .u32 v.s v.j) (Go.bits .or .u32 v.l v.f)), .int .u32 0, .int .u32 0, .int .u32 0], .bool true, .int .i64 0]) (by simp [results, Try.results12, go_sem]) rfl ⟨rfl, ?_⟩
  exact blw8 ..
theorem step_wrong (v : V) (what node : Int) (h : rightV v = false) (w : World) :
    Calls Try.prog 12 #[.agg #[.int .i64 v.n, .int .u32 v.s, .int .u32 v.j, .int .u32 v.l, .int .u32 v.f], .int .u8 what, .int .u8 node] w fun e w' => e = .returned (.tuple #[.agg #[.int .i64 v.n, .int .u32 v.s, .int .u32 v.j, .int .u32 v.l, .int .u32 v.f], .bool false, .int .i64 230]) ∧ Below w.heap.size w w' := by
  go_enter Try.func12, Try.ntmps12
  go_wp2_with (go_at_call 11; refine (right_no _ h _).mono ?_; rintro e w1 ⟨rfl, rfl⟩)
  refine bodyPost_ret (v := .tuple #[.agg #[.int .i64 v.n, .int .u32 v.s, .int .u32 v.j, .int .u32 v.l, .int .u32 v.f], .bool false, .int .i64 230]) (by simp [results, Try.results12, go_sem]) rfl ⟨rfl, ?_⟩
  exact blw3 ..
theorem step_zero (v : V) (what node : Int) (h : rightV v = true) (hw : (what == 0) = true) (w : World) :
    Calls Try.prog 12 #[.agg #[.int .i64 v.n, .int .u32 v.s, .int .u32 v.j, .int .u32 v.l, .int .u32 v.f], .int .u8 what, .int .u8 node] w fun e w' => e = .returned (.tuple #[.agg #[.int .i64 v.n, .int .u32 v.s, .int .u32 v.j, .int .u32 v.l, .int .u32 v.f], .bool false, .int .i64 230]) ∧ Below w.heap.size w w' := by
  go_enter Try.func12, Try.ntmps12
  go_wp2_with (go_at_call 11; refine (right_yes _ h _).mono ?_; rintro e w1 ⟨rfl, rfl⟩)
  refine bodyPost_ret (v := .tuple #[.agg #[.int .i64 v.n, .int .u32 v.s, .int .u32 v.j, .int .u32 v.l, .int .u32 v.f], .bool false, .int .i64 230]) (by simp [results, Try.results12, go_sem]) rfl ⟨rfl, ?_⟩
  exact blw3 ..
theorem step_more (v : V) (what node : Int) (h : rightV v = true) (hw : (what == 0) = false) (h4 : decide (4 < what) = true) (w : World) :
    Calls Try.prog 12 #[.agg #[.int .i64 v.n, .int .u32 v.s, .int .u32 v.j, .int .u32 v.l, .int .u32 v.f], .int .u8 what, .int .u8 node] w fun e w' => e = .returned (.tuple #[.agg #[.int .i64 v.n, .int .u32 v.s, .int .u32 v.j, .int .u32 v.l, .int .u32 v.f], .bool false, .int .i64 230]) ∧ Below w.heap.size w w' := by
  go_enter Try.func12, Try.ntmps12
  go_wp2_with (go_at_call 11; refine (right_yes _ h _).mono ?_; rintro e w1 ⟨rfl, rfl⟩)
  refine bodyPost_ret (v := .tuple #[.agg #[.int .i64 v.n, .int .u32 v.s, .int .u32 v.j, .int .u32 v.l, .int .u32 v.f], .bool false, .int .i64 230]) (by simp [results, Try.results12, go_sem]) rfl ⟨rfl, ?_⟩
  exact blw3 ..
theorem step_far (v : V) (what node : Int) (h : rightV v = true) (hw : (what == 0) = false) (h4 : decide (4 < what) = false) (h5 : (what != 4) = true) (h6 : decide (31 < node) = true) (w : World) :
    Calls Try.prog 12 #[.agg #[.int .i64 v.n, .int .u32 v.s, .int .u32 v.j, .int .u32 v.l, .int .u32 v.f], .int .u8 what, .int .u8 node] w fun e w' => e = .returned (.tuple #[.agg #[.int .i64 v.n, .int .u32 v.s, .int .u32 v.j, .int .u32 v.l, .int .u32 v.f], .bool false, .int .i64 230]) ∧ Below w.heap.size w w' := by
  go_enter Try.func12, Try.ntmps12
  go_wp2_with (go_at_call 11; refine (right_yes _ h _).mono ?_; rintro e w1 ⟨rfl, rfl⟩)
  refine bodyPost_ret (v := .tuple #[.agg #[.int .i64 v.n, .int .u32 v.s, .int .u32 v.j, .int .u32 v.l, .int .u32 v.f], .bool false, .int .i64 230]) (by simp [results, Try.results12, go_sem]) rfl ⟨rfl, ?_⟩
  exact blw3 ..
theorem step_calls (v : V) (what node : Int) (h0 : 0 ≤ what) (hn0 : 0 ≤ node) (hn1 : node ≤ 255) (w : World) :
    Calls Try.prog 12 #[.agg #[.int .i64 v.n, .int .u32 v.s, .int .u32 v.j, .int .u32 v.l, .int .u32 v.f], .int .u8 what, .int .u8 node] w fun e w' => e = outV (stepV v what node) ∧ Below w.heap.size w w' := by
  unfold stepV
  by_cases h : rightV v = true
  · by_cases hw : what = 0
    · rw [if_pos (by simp [hw])]
      exact step_zero v what node h (by simp [hw]) w
    · by_cases h4 : 4 < what
      · rw [if_pos (by simp [h4])]
        exact step_more v what node h (by simpa using hw) (by simpa using h4) w
      · by_cases hf : ¬ what = 4 ∧ 31 < node
        · rw [if_pos (by simp [hf])]
          exact step_far v what node h (by simpa using hw) (by simpa using h4) (by simpa using hf.1) (by simpa using hf.2) w
        · rw [if_neg (by simp only [h, hw, h4, hf]; simp)]
          obtain rfl | rfl | rfl | rfl : what = 1 ∨ what = 2 ∨ what = 3 ∨ what = 4 := by omega
          · exact step_join v node hn0 h (by omega) w
          · exact step_leave v node hn0 h (by omega) w
          · exact step_fail v node hn0 h (by omega) w
          · unfold endV anyV
            by_cases ha : (Go.bits .or .u32 (Go.bits .or .u32 v.j v.l) v.f == 0) = true
            · rw [if_pos ha]
              exact step_endno v node hn0 hn1 h ha w
            · rw [if_neg ha]
              exact step_endyes v node hn0 hn1 h (by simpa using ha) w
  · rw [if_pos (.inl (by simpa using h))]
    exact step_wrong v what node (by simpa using h) w
end Go.Proofs.Ytdpjgnefjickkaa
