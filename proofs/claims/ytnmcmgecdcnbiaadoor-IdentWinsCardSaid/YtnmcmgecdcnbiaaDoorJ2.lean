/- The document's answer on idents: the ident of a frame, and its frame; which ident is less, by the program and by the document. -/
import Derived.Test.YtnmcmgecdcnbiaaDoorJ1
namespace Go.Proofs.YtnmcmgecdcnbiaaDoor
open Go.RowKit
set_option maxRecDepth 100000
set_option maxHeartbeats 3200000
set_option linter.unusedVariables false
theorem jof_calls (id d : Int) (x m : Bool) (A : Option Addr) (n c : Nat) (h0 : 0 ≤ id) (h1 : id ≤ 4294967295) (hd : 0 ≤ d ∧ d ≤ 255) (w : World) :
    Calls Tryd.prog 17 #[.agg #[.int .u32 id, .bool x, .bool m, .int .u8 d, .slice A n c]] w fun e w' => e = .returned (.tuple #[(ofV id d x m n).1, .bool (ofV id d x m n).2]) ∧ Below w.heap.size w w' := by
  obtain ⟨v, hv⟩ : ∃ v, frightI id d x m n = v := ⟨_, rfl⟩
  unfold ofV
  rw [hv]
  obtain ⟨k, f, s, r, o, hq⟩ := readV_form id
  have HV := Lib.hid hv
  have HQ := Lib.hid hq
  clear hv hq
  by_cases hall : (x && !m && v) = true
  · have cr := jread_calls id h0 h1
    rw [HQ.out] at cr
    have CR := Lib.hid cr
    rw [if_pos hall, HQ.out]
    simp only [Bool.and_eq_true, Bool.not_eq_true'] at hall
    obtain ⟨⟨rfl, rfl⟩, rfl⟩ := hall
    clear cr
    go_enter Tryd.func17, Tryd.ntmps17
    go_wp2_with (first
      | (go_at_call 27; refine (jfright_calls id d true false A n c h0 hd _ HV.out _).mono ?_; rintro e w1 ⟨rfl, hb1⟩; obtain ⟨hB1, hB2, hz, hbw⟩ := after2 hb1; obtain ⟨b0, b1, b2, b3, b4, -⟩ := hB1.five; obtain ⟨c0, c1, c2, c3, z0, z1, z2, z3⟩ := hB2.four)
      | (go_at_call 15; refine (CR.out _).mono ?_; rintro e w2 ⟨rfl, hb2⟩; obtain ⟨c0, c1, c2, c3, z0, z1, z2, z3⟩ := (hB2.below hb2 hB2.lt).four))
    exact bodyPost_ret (v := .tuple #[.agg #[.int .u8 k, .int .u8 f, .int .u16 s, .int .u8 r], .bool o]) (by simp [results, Tryd.results17, go_sem, c0, c1, c2, c3]) rfl ⟨rfl, below_put4 (hbw.trans (hb2.mono hbw.size)) (by omega) ..⟩
  · rw [if_neg hall]
    cases x <;> cases m <;> cases v
    all_goals try (exfalso; exact hall rfl)
    all_goals clear hall
    all_goals go_enter Tryd.func17, Tryd.ntmps17
    all_goals go_wp2_with (go_at_call 27; refine (jfright_calls id d _ _ A n c h0 hd _ HV.out _).mono ?_; rintro e w1 ⟨rfl, hb1⟩; obtain ⟨hB1, hB2, hz, hbw⟩ := after2 hb1; obtain ⟨b0, b1, b2, b3, b4, -⟩ := hB1.five; obtain ⟨c0, c1, c2, c3, z0, z1, z2, z3⟩ := hB2.four)
    all_goals exact bodyPost_ret (v := .tuple #[.agg #[.int .u8 0, .int .u8 0, .int .u16 0, .int .u8 0], .bool false]) (by simp [results, Tryd.results17, go_sem, c0, c1, c2, c3]) rfl ⟨rfl, below_put4 hbw (by omega) ..⟩
theorem jframe_no (k f s r : Int) (A : Option Addr) (n c : Nat) (h : okI k f r = false) (w : World) :
    Calls Tryd.prog 16 #[.agg #[.int .u8 k, .int .u8 f, .int .u16 s, .int .u8 r], .slice A n c] w fun e w' => e = .returned (.tuple #[zeroF, .int .i64 150]) ∧ Below w.heap.size w w' := by
  have H := Lib.hid h
  clear h
  go_enter Tryd.func16, Tryd.ntmps16
  go_wp2_with (go_at_call 14; refine (jmake_no k f s r H.out _).mono ?_; rintro e w1 ⟨rfl, hb1⟩; obtain ⟨hB1, hB2, hz, hbw⟩ := after2 hb1; obtain ⟨c0, c1, c2, c3, c4, z0, z1, z2, z3, z4⟩ := hB2.five)
  exact bodyPost_ret (v := .tuple #[zeroF, .int .i64 150]) (by simp [results, Tryd.results16, go_sem, c0, c1, c2, c3, c4, zeroF]) rfl ⟨rfl, below_put5 hbw (by omega) ..⟩
theorem jframe_long (k f s r : Int) (A : Option Addr) (n c : Nat) (h : okI k f r = true) (hk : 0 ≤ k) (hf : 0 ≤ f) (hs : 0 ≤ s ∧ s ≤ 65535) (hr : 0 ≤ r) (hn : 8 < n) (hn2 : n ≤ 1000000) (w : World) :
    Calls Tryd.prog 16 #[.agg #[.int .u8 k, .int .u8 f, .int .u16 s, .int .u8 r], .slice A n c] w fun e w' => e = .returned (.tuple #[zeroF, .int .i64 240]) ∧ Below w.heap.size w w' := by
  have hn1 : decide ((8 : Int) < (n : Int)) = true := by simp; omega
  go_enter Tryd.func16, Tryd.ntmps16
  go_wp2_with (go_at_call 14; refine (jmake_yes k f s r h hk hf hs hr _).mono ?_; rintro e w1 ⟨rfl, hb1⟩; obtain ⟨hB1, hB2, hz, hbw⟩ := after2 hb1; obtain ⟨c0, c1, c2, c3, c4, z0, z1, z2, z3, z4⟩ := hB2.five)
  exact bodyPost_ret (v := .tuple #[zeroF, .int .i64 240]) (by simp [results, Tryd.results16, go_sem, c0, c1, c2, c3, c4, zeroF]) rfl ⟨rfl, below_put5 hbw (by omega) ..⟩
theorem jframe_yes (k f s r : Int) (A : Option Addr) (n c : Nat) (xs : List Value) (h : okI k f r = true) (hk : 0 ≤ k) (hf : 0 ≤ f) (hs : 0 ≤ s ∧ s ≤ 65535) (hr : 0 ≤ r) (hn : n ≤ 8) (w : World)
    (hx : Reads w w.heap.size 1 A n xs) (h1 : ∀ u ∈ xs, u.oneCell' = true) :
    Calls Tryd.prog 16 #[.agg #[.int .u8 k, .int .u8 f, .int .u16 s, .int .u8 r], .slice A n c] w fun e w' => ∃ B m, e = .returned (.tuple #[.agg #[.int .u32 (mkI k f s r), .bool true, .bool false, .int .u8 (n : Int), .slice B n m], .int .i64 0]) ∧ w'.ownsRow w.heap.size 5 1 (.slice B n m) n xs ∧ Below w.heap.size w w' := by
  obtain ⟨i0, hi, hz0, hz1, hz2⟩ := info_parts Tryd.info5
  have hn1 : decide ((8 : Int) < (n : Int)) = false := by simp; omega
  go_enter Tryd.func16, Tryd.ntmps16
  go_wp2_with (first
    | (go_at_call 14; refine (jmake_yes k f s r h hk hf hs hr _).mono ?_; rintro e w1 ⟨rfl, hb1⟩; obtain ⟨hB1, hB2, hz, hbw⟩ := after2 hb1)
    | (at_builtin; go_must (refine wpList_append_any _ rfl _ _ 26 rfl w1.heap.size 5 i0 _ 1 1 Tryd.underlying26 hi hz0 hz1 hz2 rfl (by decide) _ _ _ rfl (own_new w1 [] 5 _ _ 1 0 rfl (Nat.le_refl _) rfl (by decide)) _ _ n _ _ rfl (((hx.below hbw).more hbw.size).alloc (Nat.le_refl _) _) h1 ?_ ?_ ?_ ?_)))
  any_goals (first | (simp only [maxLen]; omega) | omega | (simp; done))
  intro v' w2 hown hg hloc
  have hb2 : Below w1.heap.size w1 w2 := ((Below.refl w1.heap.size w1).alloc (Nat.le_refl _) _).grown hg (by simp) (fun k hk => by simp [Value.ownBlock] at hk; omega)
  obtain ⟨B, m, rfl, -⟩ := own_reads hown
  obtain ⟨c0, c1, c2, c3, c4, z0, z1, z2, z3, z4⟩ := (hB2.below hb2 hB2.lt).five
  go_wp2
  have hb3 := hbw.trans (hb2.mono hbw.size)
  refine bodyPost_ret (v := .tuple #[.agg #[.int .u32 (mkI k f s r), .bool true, .bool false, .int .u8 (n : Int), .slice B n m], .int .i64 0]) (by simp [results, Tryd.results16, go_sem, c0, c1, c2, c3, c4]) rfl ⟨B, m, rfl, ?_, below_put5 hb3 (by omega) ..⟩
  exact own_mono (own_put5 (by simpa using hown) hz ..) (by omega)
def cmpI (a b : Int) : Int := if a < b then -1 else if b < a then 1 else 0
theorem cmp8_calls (a b : Int) (w : World) : Calls Tryd.prog 29 #[.int .u8 a, .int .u8 b] w fun e w' => e = .returned (.int .i64 (cmpI a b)) ∧ w = w' := by
  obtain ⟨x, hx⟩ : ∃ x, decide (a < b) = x := ⟨_, rfl⟩
  obtain ⟨y, hy⟩ : ∃ y, decide (b < a) = y := ⟨_, rfl⟩
  have e : cmpI a b = if x then -1 else if y then 1 else 0 := by unfold cmpI; rw [← hx, ← hy]; simp
  rw [e]
  clear e
  cases x <;> cases y
  all_goals go_enter Tryd.func29, Tryd.ntmps29
  all_goals go_wp2
  all_goals go_ret
  all_goals exact ⟨rfl, rfl⟩
theorem cmp16_calls (a b : Int) (w : World) : Calls Tryd.prog 30 #[.int .u16 a, .int .u16 b] w fun e w' => e = .returned (.int .i64 (cmpI a b)) ∧ w = w' := by
  obtain ⟨x, hx⟩ : ∃ x, decide (a < b) = x := ⟨_, rfl⟩
  obtain ⟨y, hy⟩ : ∃ y, decide (b < a) = y := ⟨_, rfl⟩
  have e : cmpI a b = if x then -1 else if y then 1 else 0 := by unfold cmpI; rw [← hx, ← hy]; simp
  rw [e]
  clear e
  cases x <;> cases y
  all_goals go_enter Tryd.func30, Tryd.ntmps30
  all_goals go_wp2
  all_goals go_ret
  all_goals exact ⟨rfl, rfl⟩
def orI (a b c d : Int) : Int := if (a != 0) = true then a else if (b != 0) = true then b else if (c != 0) = true then c else if (d != 0) = true then d else 0
theorem or_calls (a b c d : Int) (g : Nat) (w : World) (h0 : w.cell? ⟨g, 0, none⟩ = some (.int .i64 a)) (h1 : w.cell? ⟨g, 1, none⟩ = some (.int .i64 b)) (h2 : w.cell? ⟨g, 2, none⟩ = some (.int .i64 c)) (h3 : w.cell? ⟨g, 3, none⟩ = some (.int .i64 d)) :
    Calls Tryd.prog 28 #[.slice (some ⟨g, 0, none⟩) 4 4] w fun e w' => e = .returned (.int .i64 (orI a b c d)) ∧ w = w' := by
  unfold orI
  obtain ⟨t0, e0⟩ : ∃ t, (a != 0) = t := ⟨_, rfl⟩
  obtain ⟨t1, e1⟩ : ∃ t, (b != 0) = t := ⟨_, rfl⟩
  obtain ⟨t2, e2⟩ : ∃ t, (c != 0) = t := ⟨_, rfl⟩
  obtain ⟨t3, e3⟩ : ∃ t, (d != 0) = t := ⟨_, rfl⟩
  rw [e0, e1, e2, e3]
  cases t0
  · cases t1
    · cases t2
      · cases t3
        all_goals go_enter Tryd.func28, Tryd.ntmps28
        all_goals go_wp2
        all_goals go_rounds 5
        all_goals go_ret
        all_goals exact ⟨rfl, rfl⟩
      · go_enter Tryd.func28, Tryd.ntmps28
        go_wp2
        go_rounds 5
        go_ret
        exact ⟨rfl, rfl⟩
    · go_enter Tryd.func28, Tryd.ntmps28
      go_wp2
      go_rounds 5
      go_ret
      exact ⟨rfl, rfl⟩
  · go_enter Tryd.func28, Tryd.ntmps28
    go_wp2
    go_rounds 5
    go_ret
    exact ⟨rfl, rfl⟩
end Go.Proofs.YtnmcmgecdcnbiaaDoor
