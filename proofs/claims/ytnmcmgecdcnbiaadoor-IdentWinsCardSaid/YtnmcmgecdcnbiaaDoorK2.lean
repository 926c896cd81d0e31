/- The head of a frame, up to the bit that says whether it is remote, or extended. -/
import Derived.Test.YtnmcmgecdcnbiaaDoorK1
import Derived.Test.YtnmcmgecdcnbiaaDoorC2
import Derived.Deep.RegionHeld3
import Derived.Deep.DeepCutAuto
namespace Go.Proofs.YtnmcmgecdcnbiaaDoor
open Go.RowKit
set_option maxRecDepth 100000
set_option maxHeartbeats 6400000
set_option linter.unusedVariables false
def firstL (id : Nat) (x m : Bool) : List Bool := if x then [false] ++ bitsN (id / 262144) 11 11 ++ [true, true] ++ bitsN id 18 18 ++ [m] else [false] ++ bitsN id 11 11 ++ [m, false]
theorem bls_append (a b : List Bool) : bls (a ++ b) = bls a ++ bls b := List.map_append
theorem bls_one (l : List Bool) : ∀ u ∈ bls l, u.oneCell' = true := by
  intro u hu
  obtain ⟨d, _, rfl⟩ := List.mem_map.1 hu
  rfl
theorem Blk.reads {w : World} {g : Nat} {t : TypeId} {l : List Value} (h : Blk w g t ⟨l⟩) : Reads w w.heap.size 1 (some ⟨g, 0, none⟩) l.length l :=
  ⟨by omega, fun _ => ⟨_, rfl, h.lt, fun j u hu => by rw [add_plain, h.cell j]; simpa using hu⟩⟩
/-- A call that answers bits in memory of its own, then both appends, a row of bits made at whatever place among them. -/
theorem own_blk_lt {w : World} {base : Nat} {e : TypeId} {size n : Nat} {v : Value} {xs : List Value} (h : w.ownsRow base e size v n xs) {g : Nat} (hg : w.heap.size ≤ g) : some g ≠ v.ownBlock := fun e => by
  have := own_lt h g e.symm
  omega
theorem first_ext (id : Nat) (hid : id < 536870912) (m : Bool) (d : Int) (A : Option Addr) (n c : Nat) (w : World) :
    Calls Tryd.prog 31 #[.agg #[.int .u32 (id : Int), .bool true, .bool m, .int .u8 d, .slice A n c]] w fun e w' => ∃ v, e = .returned v ∧ w'.ownsRow w.heap.size 4 1 v 33 (bls (firstL id true m)) ∧ Below w.heap.size w w' := by
  obtain ⟨i0, hi, hz0, hz1, hz2⟩ := info_parts Tryd.info4
  have ed : ((id / 262144 : Nat) : Int) = (id : Int) / 262144 := by simp
  have b1 := bitsOf_calls (id / 262144) 11 (by omega) (by decide) (by decide)
  have b2 := bitsOf_calls id 18 (by omega) (by decide) (by decide)
  rw [ed] at b1
  have B1 := Lib.hid b1
  have B2 := Lib.hid b2
  clear ed b1 b2
  have hid0 : (id : Int) ≤ 536870911 := by omega
  go_enter Tryd.func31, Tryd.ntmps31
  go_upto_region 4 with fail
  have hF := (Blk.new w 34 #[.int .u32 (id : Int), .bool true, .bool m, .int .u8 d, .slice A n c]).alloc (.cells #[.bool false] 4)
  have hbw := blw2 w (.cells #[.int .u32 (id : Int), .bool true, .bool m, .int .u8 d, .slice A n c] 34) (.cells #[.bool false] 4)
  have ho := own_new (w.alloc (.cells #[.int .u32 (id : Int), .bool true, .bool m, .int .u8 d, .slice A n c] 34)) [.bool false] 4 (w.heap.size + 1) (w.heap.size + 1) 1 1 (by simp) (Nat.le_refl _) rfl (by decide)
  go_cut [3] (fun s3 wc => ∃ A3 c3, s3 = .slice A3 14 c3 ∧ Blk wc w.heap.size 34 #[.int .u32 (id : Int), .bool true, .bool m, .int .u8 d, .slice A n c] ∧ wc.ownsRow (w.heap.size + 1) 4 1 (.slice A3 14 c3) 14 (bls ([false] ++ bitsN (id / 262144) 11 11 ++ [true, true])) ∧ Below w.heap.size w wc)
  case first =>
    generalize ((w.alloc (.cells #[.int .u32 (id : Int), .bool true, .bool m, .int .u8 d, .slice A n c] 34)).alloc (.cells #[.bool false] 4)) = wa at hF hbw ho ⊢
    obtain ⟨f0, f1, f2, f3, f4, -⟩ := hF.five
    have hlt := hF.lt
    go_wp2_with fail
    refine (B1.out _).mono ?_
    rintro e w1 ⟨v1, rfl, hov, hb1⟩
    obtain ⟨A1, c1, rfl, -, -, hr1⟩ := own_reads hov
    have ho1 := own_below ho hb1 (Nat.le_refl _)
    have hF1 := hF.below hb1 hF.lt
    have hbw1 := hbw.trans (hb1.mono hbw.size)
    go_wp2_with (at_builtin; go_must (refine wpList_append_any _ rfl (.tmp 17) (.tmp 21) 55 rfl (w.heap.size + 1) 4 i0 _ 1 1 Tryd.underlying55 hi hz0 hz1 hz2 rfl (by decide) _ _ _ rfl ho1 _ _ 11 _ _ rfl hr1 (bls_one _) ?_ ?_ ?_ ?_))
    any_goals (first | (simp only [maxLen]; omega) | omega | (have := hbw1.size; have := hF1.lt; omega))
    intro v2 w2 ho2 hg2 hl2
    have hb2 : Below (w.heap.size + 1) w1 w2 := (Below.refl _ _).grown hg2 (by have := hF1.lt; omega) (fun k hk => own_base ho1 k hk)
    have hF2 := hF1.below hb2 (by omega)
    have hbw2 := hbw1.trans (hb2.mono (by omega))
    obtain ⟨A2, c2, rfl, -, -, hr2⟩ := own_reads ho2
    go_wp2_with (at_builtin; go_must (refine wpList_append_any _ rfl (.tmp 22) (.tmp 23) 55 rfl (w.heap.size + 1) 4 i0 _ 1 1 Tryd.underlying55 hi hz0 hz1 hz2 rfl (by decide) _ _ _ rfl (own_alloc ho2 _) _ _ 2 _ [.bool true, .bool true] rfl (Reads.new w2 [.bool true, .bool true] 4 _ 1 2 rfl rfl) (bls_one [true, true]) ?_ ?_ ?_ ?_))
    any_goals (first | (simp only [maxLen]; omega) | omega | (have := hF2.lt; simp; omega))
    intro v3 w3 ho3 hg3 hl3
    have hb3 : Below (w.heap.size + 1) w2 w3 := ((Below.refl _ _).alloc (by have := hF2.lt; omega) _).grown hg3 (by have := hF2.lt; simp; omega) (fun k hk => own_base ho2 k hk)
    obtain ⟨A3, c3, rfl, -, -, -⟩ := own_reads ho3
    go_wp2_with fail
    go_meet
    exact ⟨A3, c3, rfl, hF2.below hb3 (by omega), by simpa [bls_append, bls] using ho3, hbw2.trans (hb3.mono (by omega))⟩
  case rest =>
    obtain ⟨A3, c3, rfl, hF3, ho3, hbw3⟩ := hcut
    clear hF hbw ho
    obtain ⟨f0, f1, f2, f3, f4, -⟩ := hF3.five
    have hlt := hF3.lt
    go_upto_region 5 with fail
    go_cut [2] (fun s2 wd => ∃ v, s2 = v ∧ wd.ownsRow (w.heap.size + 1) 4 1 v 33 (bls (firstL id true m)) ∧ Below w.heap.size w wd)
    case first =>
      go_region_held3 (fun w' => w'.cell? ⟨w.heap.size, 0, none⟩ = some (.int .u32 (id : Int)) ∧ w'.cell? ⟨w.heap.size, 2, none⟩ = some (.bool m)) (first | go_keep | exact hK3 | exact hK2 | exact hK1) (first
        | (refine step_append_any _ (by rfl) (.tmp 25) (.tmp 28) 55 (by rfl) (w.heap.size + 1) 4 i0 _ 1 1 Tryd.underlying55 hi hz0 hz1 hz2 rfl (by decide) (.slice A3 14 c3) 14 _ (by rfl) (by first | exact ho1 | exact own_alloc ho1 _) _ A1 18 c1 _ (by rfl) (by first | exact hr1 | exact hr1.alloc (Nat.le_refl _) _) (bls_one _) (by simp only [maxLen]; omega) (by omega) (by have := hF1.lt; first | omega | (simp; omega)) ?_; intro v2 w2 ho2 hg2 hl2; obtain ⟨A2, c2, rfl, -, -, -⟩ := own_reads ho2; have hbc2 : Below (w.heap.size + 1) w1 w2 := Below.grown (by first | exact Below.refl _ _ | exact (Below.refl _ _).alloc (by have := hF1.lt; omega) _) hg2 (by have := hF1.lt; first | omega | (simp; omega)) (fun k hk => own_base ho1 k hk); have hF2 := hF1.below hbc2 (by omega); have hK2 : w2.cell? ⟨w.heap.size, 0, none⟩ = some (.int .u32 (id : Int)) ∧ w2.cell? ⟨w.heap.size, 2, none⟩ = some (.bool m) := ⟨hF2.cell 0, hF2.cell 2⟩; have hX2 : (Blk w2 wc.heap.size 4 #[.bool m]) ∨ (Blk w2 w1.heap.size 4 #[.bool m]) ∨ True := (by first | exact .inl (hX1.grown hg2 (own_blk_lt ho3 (Nat.le_refl _))) | exact .inr (.inl ((Blk.new w1 4 #[.bool m]).grown hg2 (own_blk_lt ho1 (Nat.le_refl _)))) | exact .inr (.inr trivial)))
        | (refine step_append_any _ (by rfl) (.tmp 29) (.tmp 32) 55 (by rfl) (w.heap.size + 1) 4 i0 _ 1 1 Tryd.underlying55 hi hz0 hz1 hz2 rfl (by decide) (.slice A2 _ c2) _ _ (by rfl) (by first | exact ho2 | exact own_alloc ho2 _) _ _ 1 _ [.bool m] (by rfl) (by first | exact Reads.new w2 [.bool m] 4 _ 1 1 rfl rfl | exact ((hX1.grown hg2 (own_blk_lt ho3 (Nat.le_refl _))) : Blk w2 wc.heap.size 4 #[.bool m]).reads | exact (((Blk.new w1 4 #[.bool m]).grown hg2 (own_blk_lt ho1 (Nat.le_refl _))) : Blk w2 w1.heap.size 4 #[.bool m]).reads) (by intro u hu; simp at hu; first | (subst hu; rfl) | (rcases hu with rfl | rfl <;> rfl)) (by simp only [maxLen]; omega) (by omega) (by have := hF2.lt; first | omega | (simp; omega)) ?_; intro v4 w4 ho4 hg4 hl4; have hbc4 : Below (w.heap.size + 1) w2 w4 := Below.grown (by first | exact Below.refl _ _ | exact (Below.refl _ _).alloc (by have := hF2.lt; omega) _) hg4 (by have := hF2.lt; first | omega | (simp; omega)) (fun k hk => own_base ho2 k hk); have hF4 := hF2.below hbc4 (by omega); have hK3 : w4.cell? ⟨w.heap.size, 0, none⟩ = some (.int .u32 (id : Int)) ∧ w4.cell? ⟨w.heap.size, 2, none⟩ = some (.bool m) := ⟨hF4.cell 0, hF4.cell 2⟩)
        | (go_at_call 36; refine (B2.out _).mono ?_; rintro e w1 ⟨v1, rfl, hov, hb1⟩; obtain ⟨A1, c1, rfl, -, -, hr1⟩ := own_reads hov; have ho1 : w1.ownsRow (w.heap.size + 1) 4 1 (.slice A3 14 c3) 14 _ := own_below (by first | exact ho3 | exact own_alloc ho3 (.cells #[.bool m] 4)) hb1 (Nat.le_refl _); have hbc1 : Below wc.heap.size wc w1 := Below.trans (by first | exact (Below.refl _ _).drew | exact (below_alloc (Below.refl _ _) _).drew) (hb1.mono (by first | exact Nat.le_refl _ | (simp; done) | (simp; omega))); have hF1 := hF3.below hbc1 hF3.lt; have hK1 : w1.cell? ⟨w.heap.size, 0, none⟩ = some (.int .u32 (id : Int)) ∧ w1.cell? ⟨w.heap.size, 2, none⟩ = some (.bool m) := ⟨hF1.cell 0, hF1.cell 2⟩; have hX1 : Blk w1 wc.heap.size 4 #[.bool m] ∨ True := (by first | exact .inl ((Blk.new wc 4 #[.bool m]).drew.below hb1 (by simp)) | exact .inr trivial); try (have hX1 : Blk w1 wc.heap.size 4 #[.bool m] := (Blk.new wc 4 #[.bool m]).drew.below hb1 (by simp))))
      all_goals go_wp2_with fail
      all_goals go_meet
      all_goals exact ⟨v4, rfl, by simpa [bls_append, bls, firstL] using ho4, ((hbw3.trans (hbc1.mono hbw3.size)).trans (hbc2.mono (by omega))).trans (hbc4.mono (by omega))⟩
    case rest =>
      obtain ⟨v, rfl, hov, hb⟩ := hcut
      go_wp2
      go_returns
      exact ⟨_, rfl, own_mono hov (by omega), hb⟩
theorem first_base (id : Nat) (hid : id < 4294967296) (m : Bool) (d : Int) (A : Option Addr) (n c : Nat) (w : World) :
    Calls Tryd.prog 31 #[.agg #[.int .u32 (id : Int), .bool false, .bool m, .int .u8 d, .slice A n c]] w fun e w' => ∃ v, e = .returned v ∧ w'.ownsRow w.heap.size 4 1 v 14 (bls (firstL id false m)) ∧ Below w.heap.size w w' := by
  obtain ⟨i0, hi, hz0, hz1, hz2⟩ := info_parts Tryd.info4
  have B2 := Lib.hid (bitsOf_calls id 11 hid (by decide) (by decide))
  have hid0 : (id : Int) ≤ 4294967295 := by omega
  go_enter Tryd.func31, Tryd.ntmps31
  go_upto_region 1 with fail
  have hF := (Blk.new w 34 #[.int .u32 (id : Int), .bool false, .bool m, .int .u8 d, .slice A n c]).alloc (.cells #[.bool false] 4)
  have hbw := blw2 w (.cells #[.int .u32 (id : Int), .bool false, .bool m, .int .u8 d, .slice A n c] 34) (.cells #[.bool false] 4)
  have ho := own_new (w.alloc (.cells #[.int .u32 (id : Int), .bool false, .bool m, .int .u8 d, .slice A n c] 34)) [.bool false] 4 (w.heap.size + 1) (w.heap.size + 1) 1 1 (by simp) (Nat.le_refl _) rfl (by decide)
  go_cut [3] (fun s3 wc => ∃ A3 c3, s3 = .slice A3 1 c3 ∧ Blk wc w.heap.size 34 #[.int .u32 (id : Int), .bool false, .bool m, .int .u8 d, .slice A n c] ∧ wc.ownsRow (w.heap.size + 1) 4 1 (.slice A3 1 c3) 1 (bls [false]) ∧ Below w.heap.size w wc)
  case first =>
    go_wp2_with fail
    go_meet
    exact ⟨_, _, rfl, hF, ho, hbw⟩
  case rest =>
    obtain ⟨A3, c3, rfl, hF3, ho3, hbw3⟩ := hcut
    clear hF hbw ho
    obtain ⟨f0, f1, f2, f3, f4, -⟩ := hF3.five
    have hlt := hF3.lt
    go_upto_region 3 with fail
    go_cut [2] (fun s2 wd => ∃ v, s2 = v ∧ wd.ownsRow (w.heap.size + 1) 4 1 v 14 (bls (firstL id false m)) ∧ Below w.heap.size w wd)
    case first =>
      go_region_held3 (fun w' => w'.cell? ⟨w.heap.size, 0, none⟩ = some (.int .u32 (id : Int)) ∧ w'.cell? ⟨w.heap.size, 2, none⟩ = some (.bool m)) (first | go_keep | exact hK3 | exact hK2 | exact hK1) (first
        | (refine step_append_any _ (by rfl) (.tmp 8) (.tmp 11) 55 (by rfl) (w.heap.size + 1) 4 i0 _ 1 1 Tryd.underlying55 hi hz0 hz1 hz2 rfl (by decide) (.slice A3 1 c3) 1 _ (by rfl) (by first | exact ho1 | exact own_alloc ho1 _) _ A1 11 c1 _ (by rfl) (by first | exact hr1 | exact hr1.alloc (Nat.le_refl _) _) (bls_one _) (by simp only [maxLen]; omega) (by omega) (by have := hF1.lt; first | omega | (simp; omega)) ?_; intro v2 w2 ho2 hg2 hl2; obtain ⟨A2, c2, rfl, -, -, -⟩ := own_reads ho2; have hbc2 : Below (w.heap.size + 1) w1 w2 := Below.grown (by first | exact Below.refl _ _ | exact (Below.refl _ _).alloc (by have := hF1.lt; omega) _) hg2 (by have := hF1.lt; first | omega | (simp; omega)) (fun k hk => own_base ho1 k hk); have hF2 := hF1.below hbc2 (by omega); have hK2 : w2.cell? ⟨w.heap.size, 0, none⟩ = some (.int .u32 (id : Int)) ∧ w2.cell? ⟨w.heap.size, 2, none⟩ = some (.bool m) := ⟨hF2.cell 0, hF2.cell 2⟩; have hX2 : (Blk w2 wc.heap.size 4 #[.bool m, .bool false]) ∨ (Blk w2 w1.heap.size 4 #[.bool m, .bool false]) ∨ True := (by first | exact .inl (hX1.grown hg2 (own_blk_lt ho3 (Nat.le_refl _))) | exact .inr (.inl ((Blk.new w1 4 #[.bool m, .bool false]).grown hg2 (own_blk_lt ho1 (Nat.le_refl _)))) | exact .inr (.inr trivial)))
        | (refine step_append_any _ (by rfl) (.tmp 12) (.tmp 15) 55 (by rfl) (w.heap.size + 1) 4 i0 _ 1 1 Tryd.underlying55 hi hz0 hz1 hz2 rfl (by decide) (.slice A2 _ c2) _ _ (by rfl) (by first | exact ho2 | exact own_alloc ho2 _) _ _ 2 _ [.bool m, .bool false] (by rfl) (by first | exact Reads.new w2 [.bool m, .bool false] 4 _ 1 2 rfl rfl | exact ((hX1.grown hg2 (own_blk_lt ho3 (Nat.le_refl _))) : Blk w2 wc.heap.size 4 #[.bool m, .bool false]).reads | exact (((Blk.new w1 4 #[.bool m, .bool false]).grown hg2 (own_blk_lt ho1 (Nat.le_refl _))) : Blk w2 w1.heap.size 4 #[.bool m, .bool false]).reads) (by intro u hu; simp at hu; first | (subst hu; rfl) | (rcases hu with rfl | rfl <;> rfl)) (by simp only [maxLen]; omega) (by omega) (by have := hF2.lt; first | omega | (simp; omega)) ?_; intro v4 w4 ho4 hg4 hl4; have hbc4 : Below (w.heap.size + 1) w2 w4 := Below.grown (by first | exact Below.refl _ _ | exact (Below.refl _ _).alloc (by have := hF2.lt; omega) _) hg4 (by have := hF2.lt; first | omega | (simp; omega)) (fun k hk => own_base ho2 k hk); have hF4 := hF2.below hbc4 (by omega); have hK3 : w4.cell? ⟨w.heap.size, 0, none⟩ = some (.int .u32 (id : Int)) ∧ w4.cell? ⟨w.heap.size, 2, none⟩ = some (.bool m) := ⟨hF4.cell 0, hF4.cell 2⟩)
        | (go_at_call 36; refine (B2.out _).mono ?_; rintro e w1 ⟨v1, rfl, hov, hb1⟩; obtain ⟨A1, c1, rfl, -, -, hr1⟩ := own_reads hov; have ho1 : w1.ownsRow (w.heap.size + 1) 4 1 (.slice A3 1 c3) 1 _ := own_below (by first | exact ho3 | exact own_alloc ho3 (.cells #[.bool m, .bool false] 4)) hb1 (Nat.le_refl _); have hbc1 : Below wc.heap.size wc w1 := Below.trans (by first | exact (Below.refl _ _).drew | exact (below_alloc (Below.refl _ _) _).drew) (hb1.mono (by first | exact Nat.le_refl _ | (simp; done) | (simp; omega))); have hF1 := hF3.below hbc1 hF3.lt; have hK1 : w1.cell? ⟨w.heap.size, 0, none⟩ = some (.int .u32 (id : Int)) ∧ w1.cell? ⟨w.heap.size, 2, none⟩ = some (.bool m) := ⟨hF1.cell 0, hF1.cell 2⟩; have hX1 : Blk w1 wc.heap.size 4 #[.bool m, .bool false] ∨ True := (by first | exact .inl ((Blk.new wc 4 #[.bool m, .bool false]).drew.below hb1 (by simp)) | exact .inr trivial); try (have hX1 : Blk w1 wc.heap.size 4 #[.bool m, .bool false] := (Blk.new wc 4 #[.bool m, .bool false]).drew.below hb1 (by simp))))
      all_goals go_wp2_with fail
      all_goals go_meet
      all_goals exact ⟨v4, rfl, by simpa [bls_append, bls, firstL] using ho4, ((hbw3.trans (hbc1.mono hbw3.size)).trans (hbc2.mono (by omega))).trans (hbc4.mono (by omega))⟩
    case rest =>
      obtain ⟨v, rfl, hov, hb⟩ := hcut
      go_wp2
      go_returns
      exact ⟨_, rfl, own_mono hov (by omega), hb⟩
end Go.Proofs.YtnmcmgecdcnbiaaDoor
