/- Which ident is less, by the program and by the document; whether two frames are the same. -/
import Derived.Test.YtnmcmgecdcnbiaaDoorJ2
import Derived.Test.YtnmcmgecdcnbiaaDoorI6
import Derived.Deep.LoopGhost
namespace Go.Proofs.YtnmcmgecdcnbiaaDoor
open Go.RowKit
set_option maxRecDepth 100000
set_option maxHeartbeats 3200000
set_option linter.unusedVariables false
def lessI (k f s r k' f' s' r' : Int) : Bool := if (k != k') = true then decide (k < k') else if (f != f') = true then decide (f < f') else if (s != s') = true then decide (s < s') else decide (r < r')
theorem less_eq (k f s r k' f' s' r' : Int) : decide (orI (cmpI k k') (cmpI f f') (cmpI s s') (cmpI r r') < 0) = lessI k f s r k' f' s' r' := by
  unfold orI cmpI lessI
  simp only [bne_iff_ne, ne_eq]
  repeat' split
  all_goals first | omega | (simp; omega) | (simp_all; omega) | simp_all
theorem jless_calls (k f s r k' f' s' r' : Int) (w : World) :
    Calls Tryd.prog 21 #[.agg #[.int .u8 k, .int .u8 f, .int .u16 s, .int .u8 r], .agg #[.int .u8 k', .int .u8 f', .int .u16 s', .int .u8 r']] w fun e w' => e = .returned (.bool (lessI k f s r k' f' s' r')) ∧ Below w.heap.size w w' := by
  unfold lessI
  obtain ⟨t0, e0⟩ : ∃ t, (k != k') = t := ⟨_, rfl⟩
  obtain ⟨t1, e1⟩ : ∃ t, (f != f') = t := ⟨_, rfl⟩
  obtain ⟨t2, e2⟩ : ∃ t, (s != s') = t := ⟨_, rfl⟩
  rw [e0, e1, e2]
  cases t0
  · cases t1
    · cases t2
      all_goals go_enter Tryd.func21, Tryd.ntmps21
      all_goals go_wp2
      all_goals go_ret
      all_goals exact ⟨rfl, by go_grown⟩
    · go_enter Tryd.func21, Tryd.ntmps21
      go_wp2
      go_ret
      exact ⟨rfl, by go_grown⟩
  · go_enter Tryd.func21, Tryd.ntmps21
    go_wp2
    go_ret
    exact ⟨rfl, by go_grown⟩
theorem new3cell (w : World) (a b : Obj) (cs : Array Value) (t : TypeId) (j : Nat) (u : Value) (h : cs[j]? = some u) : (((w.alloc a).alloc b).alloc (.cells cs t)).cell? ⟨w.heap.size + 1 + 1, j, none⟩ = some u := by
  have := (Blk.new ((w.alloc a).alloc b) t cs).cell j
  rw [World.size_alloc, World.size_alloc] at this
  exact this.trans h
theorem less_calls (k f s r k' f' s' r' : Int) (w : World) :
    Calls Tryd.prog 20 #[.agg #[.int .u8 k, .int .u8 f, .int .u16 s, .int .u8 r], .agg #[.int .u8 k', .int .u8 f', .int .u16 s', .int .u8 r']] w fun e w' => e = .returned (.bool (lessI k f s r k' f' s' r')) ∧ Below w.heap.size w w' := by
  rw [← less_eq]
  have c1 := cmp8_calls k k'
  have c2 := cmp8_calls f f'
  have c3 := cmp16_calls s s'
  have c4 := cmp8_calls r r'
  generalize cmpI k k' = m1 at c1 ⊢
  generalize cmpI f f' = m2 at c2 ⊢
  generalize cmpI s s' = m3 at c3 ⊢
  generalize cmpI r r' = m4 at c4 ⊢
  have C1 := Lib.hid c1
  have C2 := Lib.hid c2
  have C3 := Lib.hid c3
  have C4 := Lib.hid c4
  clear c1 c2 c3 c4
  go_enter Tryd.func20, Tryd.ntmps20
  go_wp2
  go_region_held3 (fun w' => w'.cell? ⟨w.heap.size, 0, none⟩ = some (.int .u8 k) ∧ w'.cell? ⟨w.heap.size, 1, none⟩ = some (.int .u8 f) ∧ w'.cell? ⟨w.heap.size, 2, none⟩ = some (.int .u16 s) ∧ w'.cell? ⟨w.heap.size, 3, none⟩ = some (.int .u8 r) ∧ w'.cell? ⟨w.heap.size + 1, 0, none⟩ = some (.int .u8 k') ∧ w'.cell? ⟨w.heap.size + 1, 1, none⟩ = some (.int .u8 f') ∧ w'.cell? ⟨w.heap.size + 1, 2, none⟩ = some (.int .u16 s') ∧ w'.cell? ⟨w.heap.size + 1, 3, none⟩ = some (.int .u8 r')) (go_keep) (first
    | (go_at_call_of 29 (Value.int IntKind.u8 k); refine (C1.out _).mono ?_; rintro e w2 ⟨rfl, rfl⟩)
    | (go_at_call_of 29 (Value.int IntKind.u8 f); refine (C2.out _).mono ?_; rintro e w2 ⟨rfl, rfl⟩)
    | (go_at_call_of 29 (Value.int IntKind.u8 r); refine (C4.out _).mono ?_; rintro e w2 ⟨rfl, rfl⟩)
    | (go_at_call 30; refine (C3.out _).mono ?_; rintro e w2 ⟨rfl, rfl⟩)
    | (go_at_call 28; refine (or_calls m1 m2 m3 m4 (w.heap.size + 1 + 1) _ (by exact new3cell _ _ _ _ _ 0 _ rfl) (by exact new3cell _ _ _ _ _ 1 _ rfl) (by exact new3cell _ _ _ _ _ 2 _ rfl) (by exact new3cell _ _ _ _ _ 3 _ rfl)).mono ?_; rintro e w2 ⟨rfl, rfl⟩))
  go_wp2
  go_ret
  exact ⟨rfl, by go_grown⟩
/-- Two frames that are alike, their data in memory that reads alike. -/
theorem same_calls (id d : Int) (x m : Bool) (A B : Option Addr) (n c c' : Nat) (xs : List Int) (w : World) (hA : Reads w w.heap.size 1 A n (u8s xs)) (hB : Reads w w.heap.size 1 B n (u8s xs)) (hn : n ≤ 1000000) :
    Calls Tryd.prog 19 #[.agg #[.int .u32 id, .bool x, .bool m, .int .u8 d, .slice A n c], .agg #[.int .u32 id, .bool x, .bool m, .int .u8 d, .slice B n c']] w fun e w' => e = .returned (.bool true) ∧ Below w.heap.size w w' := by
  go_enter Tryd.func19, Tryd.ntmps19
  go_wp2_with fail
  have hb0 := blw2 w (.cells #[.int .u32 id, .bool x, .bool m, .int .u8 d, .slice A n c] 34) (.cells #[.int .u32 id, .bool x, .bool m, .int .u8 d, .slice B n c'] 34)
  have hF := (Blk.new w 34 #[.int .u32 id, .bool x, .bool m, .int .u8 d, .slice A n c]).alloc (.cells #[.int .u32 id, .bool x, .bool m, .int .u8 d, .slice B n c'] 34)
  have hG := Blk.new (w.alloc (.cells #[.int .u32 id, .bool x, .bool m, .int .u8 d, .slice A n c] 34)) 34 #[.int .u32 id, .bool x, .bool m, .int .u8 d, .slice B n c']
  rw [World.size_alloc] at hG
  go_loopg [5] (n + 1) (fun g i wr => ∃ j : Nat, g + j = n + 1 ∧ j ≤ n ∧ i = .int .i64 j ∧ Below w.heap.size w wr ∧ Blk wr w.heap.size 34 #[.int .u32 id, .bool x, .bool m, .int .u8 d, .slice A n c] ∧ Blk wr (w.heap.size + 1) 34 #[.int .u32 id, .bool x, .bool m, .int .u8 d, .slice B n c'])
  case atStart => exact ⟨0, by omega, by omega, rfl, hb0, hF, hG⟩
  case round =>
    obtain ⟨j, hg, hj, rfl, hb, hF', hG'⟩ := hrel
    obtain ⟨f0, f1, f2, f3, f4, -⟩ := hF'.five
    obtain ⟨g0, g1, g2, g3, g4, -⟩ := hG'.five
    clear hF hG hb0
    by_cases hlt : j < n
    · obtain ⟨ad, u, rfl, _, hu, hcu⟩ := (hA.below hb).at_ hlt
      obtain ⟨bd, v, rfl, _, hv, hcv⟩ := (hB.below hb).at_ hlt
      have e := hu.symm.trans hv
      injection e with e
      subst e
      obtain ⟨d', _, rfl⟩ := List.mem_map.1 (List.mem_of_getElem? hu)
      clear hu hv hA hB
      go_wp2_with fail
      go_quiet (fail)
      go_wp2_with fail
      go_roundg (n - j)
      case measure => omega
      case rel => exact ⟨j + 1, by omega, by omega, by go_num, below_dn hb _, hF'.drewN _, hG'.drewN _⟩
    · have hge : n ≤ j := by omega
      clear hlt hA hB
      go_wp2_with fail
      go_returns
      exact ⟨rfl, hb⟩
end Go.Proofs.YtnmcmgecdcnbiaaDoor
