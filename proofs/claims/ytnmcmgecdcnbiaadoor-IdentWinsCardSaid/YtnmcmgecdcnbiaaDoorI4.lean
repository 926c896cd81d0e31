/- The ident of a frame; bytes in memory of their own; the frame of an ident. -/
import Derived.Test.YtnmcmgecdcnbiaaDoorI3
import Derived.Test.YtnmcmgecdcnbiaaDoorC2
namespace Go.Proofs.YtnmcmgecdcnbiaaDoor
open Go.RowKit
set_option maxRecDepth 100000
set_option maxHeartbeats 3200000
set_option linter.unusedVariables false
def readV (id : Int) : Value × Bool := if decide (id / 16 / 65536 / 32 / 16 = 0) && decide (kI id ≤ 9) then (.agg #[.int .u8 (kI id), .int .u8 (fI id), .int .u16 (sI id), .int .u8 (rI id)], true) else (.agg #[.int .u8 0, .int .u8 0, .int .u16 0, .int .u8 0], false)
theorem read_calls (id : Int) (h0 : 0 ≤ id) (h1 : id ≤ 4294967295) (w : World) (hw : Wid w) :
    Calls Tryd.prog 7 #[.int .u32 id] w fun e w' => e = .returned (.tuple #[(readV id).1, .bool (readV id).2]) ∧ Below w.heap.size w w' := by
  refine (read_any id h0 h1 _ _ rfl rfl w hw).mono ?_
  rintro e w' ⟨rfl, hb⟩
  refine ⟨?_, hb⟩
  unfold readV
  rw [show (!(id / 16 / 65536 / 32 / 16 != 0)) = decide (id / 16 / 65536 / 32 / 16 = 0) by rw [Bool.eq_iff_iff]; simp]
  split <;> rfl
theorem Wid.alloc {w : World} (h : Wid w) (o : Obj) : Wid (w.alloc o) := h.below ((Below.refl w.heap.size w).alloc (Nat.le_refl _) o) h.1
def ofV (id d : Int) (x m : Bool) (n : Nat) : Value × Bool := if x && !m && frightI id d x m n then readV id else (.agg #[.int .u8 0, .int .u8 0, .int .u16 0, .int .u8 0], false)
theorem readV_form (id : Int) : ∃ k f s r o, readV id = (.agg #[.int .u8 k, .int .u8 f, .int .u16 s, .int .u8 r], o) := by
  unfold readV
  split
  · exact ⟨_, _, _, _, _, rfl⟩
  · exact ⟨_, _, _, _, _, rfl⟩
theorem of_calls (id d : Int) (x m : Bool) (A : Option Addr) (n c : Nat) (h0 : 0 ≤ id) (h1 : id ≤ 4294967295) (hd : 0 ≤ d ∧ d ≤ 255) (w : World) (hw : Wid w) :
    Calls Tryd.prog 12 #[.agg #[.int .u32 id, .bool x, .bool m, .int .u8 d, .slice A n c]] w fun e w' => e = .returned (.tuple #[(ofV id d x m n).1, .bool (ofV id d x m n).2]) ∧ Below w.heap.size w w' := by
  obtain ⟨v, hv⟩ : ∃ v, frightI id d x m n = v := ⟨_, rfl⟩
  unfold ofV
  rw [hv]
  obtain ⟨k, f, s, r, o, hq⟩ := readV_form id
  have HV := Lib.hid hv
  have HQ := Lib.hid hq
  clear hv hq
  cases x
  · go_enter Tryd.func12, Tryd.ntmps12
    go_wp2_with fail
    go_returns
    exact ⟨rfl, by go_grown⟩
  · cases m
    · cases v
      · go_enter Tryd.func12, Tryd.ntmps12
        go_wp2_with (go_at_call 13; refine (fright_calls id d true false A n c hd _ HV.out _).mono ?_; rintro e w1 ⟨rfl, hb1⟩; obtain ⟨hB1, hB2, hz, hbw⟩ := after2 hb1; obtain ⟨b0, b1, b2, b3, b4, -⟩ := hB1.five; obtain ⟨c0, c1, c2, c3, z0, z1, z2, z3⟩ := hB2.four)
        exact bodyPost_ret (v := .tuple #[.agg #[.int .u8 0, .int .u8 0, .int .u16 0, .int .u8 0], .bool false]) (by simp [results, Tryd.results12, go_sem, c0, c1, c2, c3]) rfl ⟨rfl, below_put4 hbw (by omega) ..⟩
      · have cr := fun w hw => read_calls id h0 h1 w hw
        rw [HQ.out] at cr
        have CR := Lib.hid cr
        rw [if_pos (by rfl), HQ.out]
        clear cr
        go_enter Tryd.func12, Tryd.ntmps12
        go_wp2_with (first
          | (go_at_call 13; refine (fright_calls id d true false A n c hd _ HV.out _).mono ?_; rintro e w1 ⟨rfl, hb1⟩; obtain ⟨hB1, hB2, hz, hbw⟩ := after2 hb1; obtain ⟨b0, b1, b2, b3, b4, -⟩ := hB1.five; obtain ⟨c0, c1, c2, c3, z0, z1, z2, z3⟩ := hB2.four)
          | (go_at_call 7; refine (CR.out _ (hw.below hbw hw.1)).mono ?_; rintro e w2 ⟨rfl, hb2⟩; obtain ⟨c0, c1, c2, c3, z0, z1, z2, z3⟩ := (hB2.below hb2 hB2.lt).four))
        exact bodyPost_ret (v := .tuple #[.agg #[.int .u8 k, .int .u8 f, .int .u16 s, .int .u8 r], .bool o]) (by simp [results, Tryd.results12, go_sem, c0, c1, c2, c3]) rfl ⟨rfl, below_put4 (hbw.trans (hb2.mono hbw.size)) (by omega) ..⟩
    · go_enter Tryd.func12, Tryd.ntmps12
      go_wp2_with fail
      go_returns
      exact ⟨rfl, by go_grown⟩
theorem Tryd.info5 : (Tryd.prog.info? 5).map (fun i => (i.zero, i.size, i.bytes)) = some (some (.int .u8 0), 1, 1) := by kernel_rfl
theorem clone_calls (A : Option Addr) (n c : Nat) (xs : List Value) (w : World) (hr : Reads w w.heap.size 1 A n xs) (h1 : ∀ u ∈ xs, u.oneCell' = true) (hn : n ≤ 1000000) :
    Calls Tryd.prog 25 #[.slice A n c] w fun e w' => ∃ v, e = .returned v ∧ w'.ownsRow w.heap.size 5 1 v n xs ∧ Below w.heap.size w w' := by
  obtain ⟨i0, hi, hz0, hz1, hz2⟩ := info_parts Tryd.info5
  have he := fun w => Lib.run_eql_slice_nil (P := Tryd.prog) w 26 5 A n c 0 0 Tryd.underlying26
  cases A with
  | none =>
    have hn0 : n = 0 := by
      rcases Nat.eq_zero_or_pos n with h | h
      · exact h
      · obtain ⟨ad, h, _⟩ := hr.2 h
        cases h
    subst hn0
    have hx : xs = [] := List.eq_nil_of_length_eq_zero (by simpa using hr.1)
    subst hx
    go_enter Tryd.func25, Tryd.ntmps25
    go_wp2
    go_returns
    exact ⟨_, rfl, own_nil .., Below.refl _ _⟩
  | some ad =>
    go_enter Tryd.func25, Tryd.ntmps25
    go_wp2_with (at_builtin; go_must (refine wpList_append_any _ rfl _ _ 26 rfl w.heap.size 5 i0 _ 1 1 Tryd.underlying26 hi hz0 hz1 hz2 rfl (by decide) _ _ _ rfl (own_new w [] 5 _ _ 1 0 rfl (Nat.le_refl _) rfl (by decide)) _ _ n _ _ rfl (hr.alloc (Nat.le_refl _) _) h1 ?_ ?_ ?_ ?_))
    · simp only [maxLen]; omega
    · omega
    · simp
    · intro v' w1 hown hg hloc
      go_wp2
      go_returns
      exact ⟨_, rfl, hown, ((Below.refl w.heap.size w).alloc (Nat.le_refl _) _).grown hg (by simp) (fun k hk => by simp [Value.ownBlock] at hk; omega)⟩
def zeroF : Value := .agg #[.int .u32 0, .bool false, .bool false, .int .u8 0, .slice none 0 0]
theorem frame_no (k f s r : Int) (A : Option Addr) (n c : Nat) (h : okI k f r = false) (w : World) :
    Calls Tryd.prog 10 #[.agg #[.int .u8 k, .int .u8 f, .int .u16 s, .int .u8 r], .slice A n c] w fun e w' => e = .returned (.tuple #[zeroF, .int .i64 150]) ∧ Below w.heap.size w w' := by
  have H := Lib.hid h
  clear h
  go_enter Tryd.func10, Tryd.ntmps10
  go_wp2_with (go_at_call 8; refine (make_no k f s r H.out _).mono ?_; rintro e w1 ⟨rfl, hb1⟩; obtain ⟨hB1, hB2, hz, hbw⟩ := after2 hb1; obtain ⟨c0, c1, c2, c3, c4, z0, z1, z2, z3, z4⟩ := hB2.five)
  exact bodyPost_ret (v := .tuple #[zeroF, .int .i64 150]) (by simp [results, Tryd.results10, go_sem, c0, c1, c2, c3, c4, zeroF]) rfl ⟨rfl, below_put5 hbw (by omega) ..⟩
theorem frame_long (k f s r : Int) (A : Option Addr) (n c : Nat) (h : okI k f r = true) (hk : 0 ≤ k) (hf : 0 ≤ f) (hs : 0 ≤ s ∧ s ≤ 65535) (hr : 0 ≤ r) (hn : 8 < n) (hn2 : n ≤ 1000000) (w : World) (hw : Wid w) :
    Calls Tryd.prog 10 #[.agg #[.int .u8 k, .int .u8 f, .int .u16 s, .int .u8 r], .slice A n c] w fun e w' => e = .returned (.tuple #[zeroF, .int .i64 240]) ∧ Below w.heap.size w w' := by
  have hn1 : decide ((8 : Int) < (n : Int)) = true := by simp; omega
  go_enter Tryd.func10, Tryd.ntmps10
  go_wp2_with (go_at_call 8; refine (make_yes k f s r h hk hf hs hr _ ((hw.alloc _).alloc _)).mono ?_; rintro e w1 ⟨rfl, hb1⟩; obtain ⟨hB1, hB2, hz, hbw⟩ := after2 hb1; obtain ⟨c0, c1, c2, c3, c4, z0, z1, z2, z3, z4⟩ := hB2.five)
  exact bodyPost_ret (v := .tuple #[zeroF, .int .i64 240]) (by simp [results, Tryd.results10, go_sem, c0, c1, c2, c3, c4, zeroF]) rfl ⟨rfl, below_put5 hbw (by omega) ..⟩
theorem frame_yes (k f s r : Int) (A : Option Addr) (n c : Nat) (xs : List Value) (h : okI k f r = true) (hk : 0 ≤ k) (hf : 0 ≤ f) (hs : 0 ≤ s ∧ s ≤ 65535) (hr : 0 ≤ r) (hn : n ≤ 8) (w : World) (hw : Wid w)
    (hx : Reads w w.heap.size 1 A n xs) (h1 : ∀ u ∈ xs, u.oneCell' = true) :
    Calls Tryd.prog 10 #[.agg #[.int .u8 k, .int .u8 f, .int .u16 s, .int .u8 r], .slice A n c] w fun e w' => ∃ B m, e = .returned (.tuple #[.agg #[.int .u32 (mkI k f s r), .bool true, .bool false, .int .u8 (n : Int), .slice B n m], .int .i64 0]) ∧ w'.ownsRow w.heap.size 5 1 (.slice B n m) n xs ∧ Below w.heap.size w w' := by
  have hn1 : decide ((8 : Int) < (n : Int)) = false := by simp; omega
  go_enter Tryd.func10, Tryd.ntmps10
  go_wp2_with (first
    | (go_at_call 8; refine (make_yes k f s r h hk hf hs hr _ ((hw.alloc _).alloc _)).mono ?_; rintro e w1 ⟨rfl, hb1⟩; obtain ⟨hB1, hB2, hz, hbw⟩ := after2 hb1)
    | (go_at_call 25; refine (clone_calls A n c xs _ ((hx.below hbw).more hbw.size) h1 (by omega)).mono ?_; rintro e w2 ⟨v, rfl, hown, hb2⟩; obtain ⟨B, m, rfl, -⟩ := own_reads hown; obtain ⟨c0, c1, c2, c3, c4, z0, z1, z2, z3, z4⟩ := (hB2.below hb2 hB2.lt).five))
  have hb3 := hbw.trans (hb2.mono hbw.size)
  refine bodyPost_ret (v := .tuple #[.agg #[.int .u32 (mkI k f s r), .bool true, .bool false, .int .u8 (n : Int), .slice B n m], .int .i64 0]) (by simp [results, Tryd.results10, go_sem, c0, c1, c2, c3, c4]) rfl ⟨B, m, rfl, ?_, below_put5 hb3 (by omega) ..⟩
  exact own_mono (own_put5 hown hz ..) (by omega)
end Go.Proofs.YtnmcmgecdcnbiaaDoor
