/- IdentWins: the frame of the lesser ident wins, whatever the data; of three less is as it should be; unlike idents have unlike identifiers. -/
import Derived.Test.YtnmcmgecdcnbiaaDoorK6
import Derived.Test.YtnmcmgecdcnbiaaDoorK7
namespace Go.Proofs.YtnmcmgecdcnbiaaDoor
open Go.RowKit
set_option maxRecDepth 100000
set_option maxHeartbeats 6400000
set_option linter.unusedVariables false
theorem wins_calls (k f s r k' f' s' r' k2 f2 s2 r2 : Int) (hk_q : 0 ≤ k ∧ k ≤ 255) (hf_q : 0 ≤ f ∧ f ≤ 255) (hs_q : 0 ≤ s ∧ s ≤ 65535) (hr_q : 0 ≤ r ∧ r ≤ 255) (hk_p : 0 ≤ k' ∧ k' ≤ 255) (hf_p : 0 ≤ f' ∧ f' ≤ 255) (hs_p : 0 ≤ s' ∧ s' ≤ 65535) (hr_p : 0 ≤ r' ∧ r' ≤ 255)
    (A : Option Addr) (n c : Nat) (ds : List Int) (A' : Option Addr) (n' c' : Nat) (ds' : List Int) (w : World) (hw : Wid w) (hx : Reads w w.heap.size 1 A n (u8s ds)) (hc : n ≤ c) (hm : c ≤ maxLen) (hx' : Reads w w.heap.size 1 A' n' (u8s ds')) (hc' : n' ≤ c') (hm' : c' ≤ maxLen) :
    Calls Tryd.prog 6 #[.agg #[.int .u8 k, .int .u8 f, .int .u16 s, .int .u8 r], .agg #[.int .u8 k', .int .u8 f', .int .u16 s', .int .u8 r'], .agg #[.int .u8 k2, .int .u8 f2, .int .u16 s2, .int .u8 r2], .slice A n c, .slice A' n' c'] w fun e w' => e = .returned (.bool true) ∧ Below w.heap.size w w' := by
  unfold maxLen at hm hm'
  have hlen : ds.length = n := by have := hx.1; simp [u8s] at this; omega
  have hlen' : ds'.length = n' := by have := hx'.1; simp [u8s] at this; omega
  go_enter Tryd.func6, Tryd.ntmps6
  go_upto_region 1 with fail
  have hA := ((Blk.new w 24 #[.int .u8 k, .int .u8 f, .int .u16 s, .int .u8 r]).alloc (.cells #[.int .u8 k', .int .u8 f', .int .u16 s', .int .u8 r'] 24)).alloc (.cells #[.int .u8 k2, .int .u8 f2, .int .u16 s2, .int .u8 r2] 24)
  have hB := Blk.new (w.alloc (.cells #[.int .u8 k, .int .u8 f, .int .u16 s, .int .u8 r] 24)) 24 #[.int .u8 k', .int .u8 f', .int .u16 s', .int .u8 r']
  have hC := Blk.new ((w.alloc (.cells #[.int .u8 k, .int .u8 f, .int .u16 s, .int .u8 r] 24)).alloc (.cells #[.int .u8 k', .int .u8 f', .int .u16 s', .int .u8 r'] 24)) 24 #[.int .u8 k2, .int .u8 f2, .int .u16 s2, .int .u8 r2]
  have hbw := blw3 w (.cells #[.int .u8 k, .int .u8 f, .int .u16 s, .int .u8 r] 24) (.cells #[.int .u8 k', .int .u8 f', .int .u16 s', .int .u8 r'] 24) (.cells #[.int .u8 k2, .int .u8 f2, .int .u16 s2, .int .u8 r2] 24)
  rw [World.size_alloc] at hB hC
  rw [World.size_alloc] at hC
  replace hB := hB.alloc (.cells #[.int .u8 k2, .int .u8 f2, .int .u16 s2, .int .u8 r2] 24)
  generalize ((w.alloc (.cells #[.int .u8 k, .int .u8 f, .int .u16 s, .int .u8 r] 24)).alloc (.cells #[.int .u8 k', .int .u8 f', .int .u16 s', .int .u8 r'] 24)).alloc (.cells #[.int .u8 k2, .int .u8 f2, .int .u16 s2, .int .u8 r2] 24) = wa at hA hB hC hbw ⊢
  have hW := hw.below hbw hw.1
  have hxa := (hx.below hbw).more hbw.size
  go_upto_region 1 with fail
  have hle_q : ∃ es : List Int, es.length ≤ 8 ∧ Reads wa wa.heap.size 1 A es.length (u8s es) ∧ (es.length : Int) = (if (8 : Int) < (n : Int) then 8 else (n : Int)) := by
    by_cases h8 : (8 : Int) < (n : Int)
    · have hl : (ds.take 8).length = 8 := by simp; omega
      exact ⟨ds.take 8, by omega, by rw [hl]; simpa [u8s, List.map_take] using (hxa).take (m := 8) (by omega), by rw [hl, if_pos h8]; rfl⟩
    · exact ⟨ds, by omega, by rw [hlen]; exact hxa, by rw [if_neg h8, hlen]⟩
  obtain ⟨es_q, hes_q, hrd_q, hei_q⟩ := hle_q
  obtain ⟨q, hq_q⟩ : ∃ q, frI k f s r es_q = q := ⟨_, rfl⟩
  have fa_q := frame_any k f s r hk_q.1 hf_q.1 hs_q hr_q.1 A c es_q (by omega)
  unfold frV at fa_q
  rw [hq_q] at fa_q
  have FA_q := Lib.hid fa_q
  have HQ_q := Lib.hid hq_q
  clear fa_q hq_q
  go_cut [11, 12] (fun sf se wd => ∃ g B1 c1, sf = .pointer (some ⟨g, 0, none⟩) ∧ se = .int .i64 q.e ∧ wa.heap.size ≤ g ∧ Blk wd g 34 #[.int .u32 q.id, .bool q.x, .bool false, .int .u8 q.d, .slice B1 q.ds.length c1] ∧ Below wa.heap.size wa wd)
  case first =>
    obtain ⟨z0, z1, z2, z3, -⟩ := hA.four
    have hltb := hA.lt
    have hne_q : w.heap.size ≠ wa.heap.size := Nat.ne_of_lt hltb
    have hWW := hW
    by_cases h8 : (8 : Int) < (n : Int)
    · have he8 : es_q.length = 8 := by rw [if_pos h8] at hei_q; omega
      rw [he8] at FA_q hrd_q
      have hcb : (8 : Int) ≤ (c : Int) := by omega
      have hcz : (0 : Int) ≤ (8 : Int) := by omega
      go_region_held3 (fun w' => w'.cell? ⟨w.heap.size, 0, none⟩ = some (.int .u8 k) ∧ w'.cell? ⟨w.heap.size, 1, none⟩ = some (.int .u8 f) ∧ w'.cell? ⟨w.heap.size, 2, none⟩ = some (.int .u16 s) ∧ w'.cell? ⟨w.heap.size, 3, none⟩ = some (.int .u8 r)) (first | (with_reducible exact hK1) | (with_reducible exact four_far5 hBx hne_q _ _ _ _ _) | go_keep) (first
        | (go_at_call 10; refine (FA_q.out _ (wid_to hWW (by first | exact bel_d _ | exact bel_ad _ _)) (reads_to hrd_q (by first | exact bel_d _ | exact bel_ad _ _))).mono ?_; rintro e w1 ⟨B1, c1, rfl, ho1, hb1⟩; have hbc := below_tr (W := wa) (by first | exact bel_d _ | exact bel_ad _ _) hb1; have hBx := hA.below hbc hA.lt; have hK1 : w1.cell? ⟨w.heap.size, 0, none⟩ = some (.int .u8 k) ∧ w1.cell? ⟨w.heap.size, 1, none⟩ = some (.int .u8 f) ∧ w1.cell? ⟨w.heap.size, 2, none⟩ = some (.int .u16 s) ∧ w1.cell? ⟨w.heap.size, 3, none⟩ = some (.int .u8 r) := ⟨hBx.cell 0, hBx.cell 1, hBx.cell 2, hBx.cell 3⟩; (first | ((with_reducible have hZq := z_after' hb1); obtain ⟨y0, y1, y2, y3, y4, x0, x1, x2, x3, x4⟩ := hZq.five) | skip)))
      all_goals go_wp2_with fail
      all_goals go_meet
      all_goals first
        | exact ⟨_, B1, c1, rfl, rfl, Nat.le_refl _, hZq.put5 .., below_put5 hbc (Nat.le_refl _) ..⟩
        | exact ⟨_, B1, c1, rfl, rfl, hbc.size, Blk.new w1 34 _, below_alloc hbc _⟩
    · have he8 : es_q.length = n := by rw [if_neg h8] at hei_q; omega
      rw [he8] at FA_q hrd_q
      have hcb : (n : Int) ≤ (c : Int) := by omega
      have hcz : (0 : Int) ≤ (n : Int) := by omega
      go_region_held3 (fun w' => w'.cell? ⟨w.heap.size, 0, none⟩ = some (.int .u8 k) ∧ w'.cell? ⟨w.heap.size, 1, none⟩ = some (.int .u8 f) ∧ w'.cell? ⟨w.heap.size, 2, none⟩ = some (.int .u16 s) ∧ w'.cell? ⟨w.heap.size, 3, none⟩ = some (.int .u8 r)) (first | (with_reducible exact hK1) | (with_reducible exact four_far5 hBx hne_q _ _ _ _ _) | go_keep) (first
        | (go_at_call 10; refine (FA_q.out _ (wid_to hWW (by first | exact bel_d _ | exact bel_ad _ _)) (reads_to hrd_q (by first | exact bel_d _ | exact bel_ad _ _))).mono ?_; rintro e w1 ⟨B1, c1, rfl, ho1, hb1⟩; have hbc := below_tr (W := wa) (by first | exact bel_d _ | exact bel_ad _ _) hb1; have hBx := hA.below hbc hA.lt; have hK1 : w1.cell? ⟨w.heap.size, 0, none⟩ = some (.int .u8 k) ∧ w1.cell? ⟨w.heap.size, 1, none⟩ = some (.int .u8 f) ∧ w1.cell? ⟨w.heap.size, 2, none⟩ = some (.int .u16 s) ∧ w1.cell? ⟨w.heap.size, 3, none⟩ = some (.int .u8 r) := ⟨hBx.cell 0, hBx.cell 1, hBx.cell 2, hBx.cell 3⟩; (first | ((with_reducible have hZq := z_after' hb1); obtain ⟨y0, y1, y2, y3, y4, x0, x1, x2, x3, x4⟩ := hZq.five) | skip)))
      all_goals go_wp2_with fail
      all_goals go_meet
      all_goals first
        | exact ⟨_, B1, c1, rfl, rfl, Nat.le_refl _, hZq.put5 .., below_put5 hbc (Nat.le_refl _) ..⟩
        | exact ⟨_, B1, c1, rfl, rfl, hbc.size, Blk.new w1 34 _, below_alloc hbc _⟩
  case rest =>
  obtain ⟨g_q, B_q, c_q, rfl, rfl, hg_q, hF_q, hb_q⟩ := hcut
  clear hei_q
  have hA2 := hA.below hb_q hA.lt
  have hB2 := hB.below hb_q hB.lt
  have hC2 := hC.below hb_q hC.lt
  have hbw2 := hbw.trans (hb_q.mono hbw.size)
  have hW2 := wid_to hW hb_q
  have hxb := (hx'.below hbw2).more hbw2.size
  clear hA hB hC hbw hW hxa
  go_upto_region 2 with fail
  have hle_p : ∃ es : List Int, es.length ≤ 8 ∧ Reads wc wc.heap.size 1 A' es.length (u8s es) ∧ (es.length : Int) = (if (8 : Int) < (n' : Int) then 8 else (n' : Int)) := by
    by_cases h8 : (8 : Int) < (n' : Int)
    · have hl : (ds'.take 8).length = 8 := by simp; omega
      exact ⟨ds'.take 8, by omega, by rw [hl]; simpa [u8s, List.map_take] using (hxb).take (m := 8) (by omega), by rw [hl, if_pos h8]; rfl⟩
    · exact ⟨ds', by omega, by rw [hlen']; exact hxb, by rw [if_neg h8, hlen']⟩
  obtain ⟨es_p, hes_p, hrd_p, hei_p⟩ := hle_p
  obtain ⟨p, hq_p⟩ : ∃ q, frI k' f' s' r' es_p = q := ⟨_, rfl⟩
  have fa_p := frame_any k' f' s' r' hk_p.1 hf_p.1 hs_p hr_p.1 A' c' es_p (by omega)
  unfold frV at fa_p
  rw [hq_p] at fa_p
  have FA_p := Lib.hid fa_p
  have HQ_p := Lib.hid hq_p
  clear fa_p hq_p
  go_cut [13, 14] (fun sf se wd => ∃ g B1 c1, sf = .pointer (some ⟨g, 0, none⟩) ∧ se = .int .i64 p.e ∧ wc.heap.size ≤ g ∧ Blk wd g 34 #[.int .u32 p.id, .bool p.x, .bool false, .int .u8 p.d, .slice B1 p.ds.length c1] ∧ Below wc.heap.size wc wd)
  case first =>
    obtain ⟨z0, z1, z2, z3, -⟩ := hB2.four
    have hltb := hB2.lt
    have hne_p : w.heap.size + 1 ≠ wc.heap.size := Nat.ne_of_lt hltb
    have hWW := hW2
    by_cases h8 : (8 : Int) < (n' : Int)
    · have he8 : es_p.length = 8 := by rw [if_pos h8] at hei_p; omega
      rw [he8] at FA_p hrd_p
      have hcb : (8 : Int) ≤ (c' : Int) := by omega
      have hcz : (0 : Int) ≤ (8 : Int) := by omega
      go_region_held3 (fun w' => w'.cell? ⟨w.heap.size + 1, 0, none⟩ = some (.int .u8 k') ∧ w'.cell? ⟨w.heap.size + 1, 1, none⟩ = some (.int .u8 f') ∧ w'.cell? ⟨w.heap.size + 1, 2, none⟩ = some (.int .u16 s') ∧ w'.cell? ⟨w.heap.size + 1, 3, none⟩ = some (.int .u8 r')) (first | (with_reducible exact hK1) | (with_reducible exact four_far5 hBx hne_p _ _ _ _ _) | go_keep) (first
        | (go_at_call 10; refine (FA_p.out _ (wid_to hWW (by first | exact bel_d _ | exact bel_ad _ _)) (reads_to hrd_p (by first | exact bel_d _ | exact bel_ad _ _))).mono ?_; rintro e w1 ⟨B1, c1, rfl, ho1, hb1⟩; have hbc := below_tr (W := wc) (by first | exact bel_d _ | exact bel_ad _ _) hb1; have hBx := hB2.below hbc hB2.lt; have hK1 : w1.cell? ⟨w.heap.size + 1, 0, none⟩ = some (.int .u8 k') ∧ w1.cell? ⟨w.heap.size + 1, 1, none⟩ = some (.int .u8 f') ∧ w1.cell? ⟨w.heap.size + 1, 2, none⟩ = some (.int .u16 s') ∧ w1.cell? ⟨w.heap.size + 1, 3, none⟩ = some (.int .u8 r') := ⟨hBx.cell 0, hBx.cell 1, hBx.cell 2, hBx.cell 3⟩; (first | ((with_reducible have hZq := z_after' hb1); obtain ⟨y0, y1, y2, y3, y4, x0, x1, x2, x3, x4⟩ := hZq.five) | skip)))
      all_goals go_wp2_with fail
      all_goals go_meet
      all_goals first
        | exact ⟨_, B1, c1, rfl, rfl, Nat.le_refl _, hZq.put5 .., below_put5 hbc (Nat.le_refl _) ..⟩
        | exact ⟨_, B1, c1, rfl, rfl, hbc.size, Blk.new w1 34 _, below_alloc hbc _⟩
    · have he8 : es_p.length = n' := by rw [if_neg h8] at hei_p; omega
      rw [he8] at FA_p hrd_p
      have hcb : (n' : Int) ≤ (c' : Int) := by omega
      have hcz : (0 : Int) ≤ (n' : Int) := by omega
      go_region_held3 (fun w' => w'.cell? ⟨w.heap.size + 1, 0, none⟩ = some (.int .u8 k') ∧ w'.cell? ⟨w.heap.size + 1, 1, none⟩ = some (.int .u8 f') ∧ w'.cell? ⟨w.heap.size + 1, 2, none⟩ = some (.int .u16 s') ∧ w'.cell? ⟨w.heap.size + 1, 3, none⟩ = some (.int .u8 r')) (first | (with_reducible exact hK1) | (with_reducible exact four_far5 hBx hne_p _ _ _ _ _) | go_keep) (first
        | (go_at_call 10; refine (FA_p.out _ (wid_to hWW (by first | exact bel_d _ | exact bel_ad _ _)) (reads_to hrd_p (by first | exact bel_d _ | exact bel_ad _ _))).mono ?_; rintro e w1 ⟨B1, c1, rfl, ho1, hb1⟩; have hbc := below_tr (W := wc) (by first | exact bel_d _ | exact bel_ad _ _) hb1; have hBx := hB2.below hbc hB2.lt; have hK1 : w1.cell? ⟨w.heap.size + 1, 0, none⟩ = some (.int .u8 k') ∧ w1.cell? ⟨w.heap.size + 1, 1, none⟩ = some (.int .u8 f') ∧ w1.cell? ⟨w.heap.size + 1, 2, none⟩ = some (.int .u16 s') ∧ w1.cell? ⟨w.heap.size + 1, 3, none⟩ = some (.int .u8 r') := ⟨hBx.cell 0, hBx.cell 1, hBx.cell 2, hBx.cell 3⟩; (first | ((with_reducible have hZq := z_after' hb1); obtain ⟨y0, y1, y2, y3, y4, x0, x1, x2, x3, x4⟩ := hZq.five) | skip)))
      all_goals go_wp2_with fail
      all_goals go_meet
      all_goals first
        | exact ⟨_, B1, c1, rfl, rfl, Nat.le_refl _, hZq.put5 .., below_put5 hbc (Nat.le_refl _) ..⟩
        | exact ⟨_, B1, c1, rfl, rfl, hbc.size, Blk.new w1 34 _, below_alloc hbc _⟩
  case rest =>
  obtain ⟨g_p, B_p, c_p, rfl, rfl, hg_p, hF_p, hb_p⟩ := hcut
  clear hei_p
  have hA3 := hA2.below hb_p hA2.lt
  have hB3 := hB2.below hb_p hB2.lt
  have hC3 := hC2.below hb_p hC2.lt
  have hF3 := hF_q.below hb_p hF_q.lt
  have hbw3 := hbw2.trans (hb_p.mono hbw2.size)
  have hW3 := wid_to hW2 hb_p
  clear hA2 hB2 hC2 hF_q hbw2 hW2 hxb hx hx' FA_q FA_p
  obtain ⟨a0, a1, a2, a3, -⟩ := hA3.four
  obtain ⟨b0, b1, b2, b3, -⟩ := hB3.four
  obtain ⟨c0, c1, c2, c3, -⟩ := hC3.four
  have hltc := hC3.lt
  obtain ⟨lab, hab⟩ : ∃ t, lessI k f s r k' f' s' r' = t := ⟨_, rfl⟩
  obtain ⟨lbc, hbc⟩ : ∃ t, lessI k' f' s' r' k2 f2 s2 r2 = t := ⟨_, rfl⟩
  obtain ⟨lac, hac⟩ : ∃ t, lessI k f s r k2 f2 s2 r2 = t := ⟨_, rfl⟩
  obtain ⟨lba, hba⟩ : ∃ t, lessI k' f' s' r' k f s r = t := ⟨_, rfl⟩
  have LAB := less_calls k f s r k' f' s' r'
  have LBC := less_calls k' f' s' r' k2 f2 s2 r2
  have LAC := less_calls k f s r k2 f2 s2 r2
  have LBA := less_calls k' f' s' r' k f s r
  rw [hab] at LAB
  rw [hbc] at LBC
  rw [hac] at LAC
  rw [hba] at LBA
  have LAB := Lib.hid LAB
  have LBC := Lib.hid LBC
  have LAC := Lib.hid LAC
  have LBA := Lib.hid LBA
  have t1 := less_trans k f s r k' f' s' r' k2 f2 s2 r2
  have t2 := less_anti k f s r k' f' s' r'
  have t3 := less_total k f s r k' f' s' r'
  rw [hab, hbc, hac] at t1
  rw [hab, hba] at t2 t3
  have HAB := Lib.hid hab
  have T3 := Lib.hid t3
  clear hab hbc hac hba t3
  go_upto_region 3 with fail
  go_cut [76] (fun s76 wd => s76 = .bool false ∧ Below wc.heap.size wc wd)
  case first =>
    cases lab
    · clear t1 t2
      cases lba
      · obtain ⟨rfl, rfl, rfl, rfl⟩ := T3.out rfl rfl
        go_wp2_with (go_at_call 20; first | ((with_reducible refine (LAB.out _).mono ?_); rintro e w2 ⟨rfl, hb2⟩; have hbx := below_tr (W := wc) (by first | exact Below.refl _ _ | assumption) hb2; obtain ⟨a0, a1, a2, a3, -⟩ := (hA3.below hbx hA3.lt).four; obtain ⟨b0, b1, b2, b3, -⟩ := (hB3.below hbx hB3.lt).four; obtain ⟨c0, c1, c2, c3, -⟩ := (hC3.below hbx hC3.lt).four) | ((with_reducible refine (LBC.out _).mono ?_); rintro e w2 ⟨rfl, hb2⟩; have hbx := below_tr (W := wc) (by first | exact Below.refl _ _ | assumption) hb2; obtain ⟨a0, a1, a2, a3, -⟩ := (hA3.below hbx hA3.lt).four; obtain ⟨b0, b1, b2, b3, -⟩ := (hB3.below hbx hB3.lt).four; obtain ⟨c0, c1, c2, c3, -⟩ := (hC3.below hbx hC3.lt).four) | ((with_reducible refine (LAC.out _).mono ?_); rintro e w2 ⟨rfl, hb2⟩; have hbx := below_tr (W := wc) (by first | exact Below.refl _ _ | assumption) hb2; obtain ⟨a0, a1, a2, a3, -⟩ := (hA3.below hbx hA3.lt).four; obtain ⟨b0, b1, b2, b3, -⟩ := (hB3.below hbx hB3.lt).four; obtain ⟨c0, c1, c2, c3, -⟩ := (hC3.below hbx hC3.lt).four) | ((with_reducible refine (LBA.out _).mono ?_); rintro e w2 ⟨rfl, hb2⟩; have hbx := below_tr (W := wc) (by first | exact Below.refl _ _ | assumption) hb2; obtain ⟨a0, a1, a2, a3, -⟩ := (hA3.below hbx hA3.lt).four; obtain ⟨b0, b1, b2, b3, -⟩ := (hB3.below hbx hB3.lt).four; obtain ⟨c0, c1, c2, c3, -⟩ := (hC3.below hbx hC3.lt).four))
        go_meet
        exact ⟨rfl, hbx⟩
      · go_wp2_with (go_at_call 20; first | ((with_reducible refine (LAB.out _).mono ?_); rintro e w2 ⟨rfl, hb2⟩; have hbx := below_tr (W := wc) (by first | exact Below.refl _ _ | assumption) hb2; obtain ⟨a0, a1, a2, a3, -⟩ := (hA3.below hbx hA3.lt).four; obtain ⟨b0, b1, b2, b3, -⟩ := (hB3.below hbx hB3.lt).four; obtain ⟨c0, c1, c2, c3, -⟩ := (hC3.below hbx hC3.lt).four) | ((with_reducible refine (LBC.out _).mono ?_); rintro e w2 ⟨rfl, hb2⟩; have hbx := below_tr (W := wc) (by first | exact Below.refl _ _ | assumption) hb2; obtain ⟨a0, a1, a2, a3, -⟩ := (hA3.below hbx hA3.lt).four; obtain ⟨b0, b1, b2, b3, -⟩ := (hB3.below hbx hB3.lt).four; obtain ⟨c0, c1, c2, c3, -⟩ := (hC3.below hbx hC3.lt).four) | ((with_reducible refine (LAC.out _).mono ?_); rintro e w2 ⟨rfl, hb2⟩; have hbx := below_tr (W := wc) (by first | exact Below.refl _ _ | assumption) hb2; obtain ⟨a0, a1, a2, a3, -⟩ := (hA3.below hbx hA3.lt).four; obtain ⟨b0, b1, b2, b3, -⟩ := (hB3.below hbx hB3.lt).four; obtain ⟨c0, c1, c2, c3, -⟩ := (hC3.below hbx hC3.lt).four) | ((with_reducible refine (LBA.out _).mono ?_); rintro e w2 ⟨rfl, hb2⟩; have hbx := below_tr (W := wc) (by first | exact Below.refl _ _ | assumption) hb2; obtain ⟨a0, a1, a2, a3, -⟩ := (hA3.below hbx hA3.lt).four; obtain ⟨b0, b1, b2, b3, -⟩ := (hB3.below hbx hB3.lt).four; obtain ⟨c0, c1, c2, c3, -⟩ := (hC3.below hbx hC3.lt).four))
        go_meet
        exact ⟨rfl, hbx⟩
    · have hl : lba = false := by cases lba; rfl; exact absurd ⟨rfl, rfl⟩ t2
      subst hl
      cases lbc
      · clear t1 t2
        go_wp2_with (go_at_call 20; first | ((with_reducible refine (LAB.out _).mono ?_); rintro e w2 ⟨rfl, hb2⟩; have hbx := below_tr (W := wc) (by first | exact Below.refl _ _ | assumption) hb2; obtain ⟨a0, a1, a2, a3, -⟩ := (hA3.below hbx hA3.lt).four; obtain ⟨b0, b1, b2, b3, -⟩ := (hB3.below hbx hB3.lt).four; obtain ⟨c0, c1, c2, c3, -⟩ := (hC3.below hbx hC3.lt).four) | ((with_reducible refine (LBC.out _).mono ?_); rintro e w2 ⟨rfl, hb2⟩; have hbx := below_tr (W := wc) (by first | exact Below.refl _ _ | assumption) hb2; obtain ⟨a0, a1, a2, a3, -⟩ := (hA3.below hbx hA3.lt).four; obtain ⟨b0, b1, b2, b3, -⟩ := (hB3.below hbx hB3.lt).four; obtain ⟨c0, c1, c2, c3, -⟩ := (hC3.below hbx hC3.lt).four) | ((with_reducible refine (LAC.out _).mono ?_); rintro e w2 ⟨rfl, hb2⟩; have hbx := below_tr (W := wc) (by first | exact Below.refl _ _ | assumption) hb2; obtain ⟨a0, a1, a2, a3, -⟩ := (hA3.below hbx hA3.lt).four; obtain ⟨b0, b1, b2, b3, -⟩ := (hB3.below hbx hB3.lt).four; obtain ⟨c0, c1, c2, c3, -⟩ := (hC3.below hbx hC3.lt).four) | ((with_reducible refine (LBA.out _).mono ?_); rintro e w2 ⟨rfl, hb2⟩; have hbx := below_tr (W := wc) (by first | exact Below.refl _ _ | assumption) hb2; obtain ⟨a0, a1, a2, a3, -⟩ := (hA3.below hbx hA3.lt).four; obtain ⟨b0, b1, b2, b3, -⟩ := (hB3.below hbx hB3.lt).four; obtain ⟨c0, c1, c2, c3, -⟩ := (hC3.below hbx hC3.lt).four))
        go_meet
        exact ⟨rfl, hbx⟩
      · have hl2 : lac = true := t1 rfl rfl
        subst hl2
        clear t1 t2
        go_wp2_with (go_at_call 20; first | ((with_reducible refine (LAB.out _).mono ?_); rintro e w2 ⟨rfl, hb2⟩; have hbx := below_tr (W := wc) (by first | exact Below.refl _ _ | assumption) hb2; obtain ⟨a0, a1, a2, a3, -⟩ := (hA3.below hbx hA3.lt).four; obtain ⟨b0, b1, b2, b3, -⟩ := (hB3.below hbx hB3.lt).four; obtain ⟨c0, c1, c2, c3, -⟩ := (hC3.below hbx hC3.lt).four) | ((with_reducible refine (LBC.out _).mono ?_); rintro e w2 ⟨rfl, hb2⟩; have hbx := below_tr (W := wc) (by first | exact Below.refl _ _ | assumption) hb2; obtain ⟨a0, a1, a2, a3, -⟩ := (hA3.below hbx hA3.lt).four; obtain ⟨b0, b1, b2, b3, -⟩ := (hB3.below hbx hB3.lt).four; obtain ⟨c0, c1, c2, c3, -⟩ := (hC3.below hbx hC3.lt).four) | ((with_reducible refine (LAC.out _).mono ?_); rintro e w2 ⟨rfl, hb2⟩; have hbx := below_tr (W := wc) (by first | exact Below.refl _ _ | assumption) hb2; obtain ⟨a0, a1, a2, a3, -⟩ := (hA3.below hbx hA3.lt).four; obtain ⟨b0, b1, b2, b3, -⟩ := (hB3.below hbx hB3.lt).four; obtain ⟨c0, c1, c2, c3, -⟩ := (hC3.below hbx hC3.lt).four) | ((with_reducible refine (LBA.out _).mono ?_); rintro e w2 ⟨rfl, hb2⟩; have hbx := below_tr (W := wc) (by first | exact Below.refl _ _ | assumption) hb2; obtain ⟨a0, a1, a2, a3, -⟩ := (hA3.below hbx hA3.lt).four; obtain ⟨b0, b1, b2, b3, -⟩ := (hB3.below hbx hB3.lt).four; obtain ⟨c0, c1, c2, c3, -⟩ := (hC3.below hbx hC3.lt).four))
        go_meet
        exact ⟨rfl, hbx⟩
  case rest =>
  obtain ⟨rfl, hb4⟩ := hcut
  have hA4 := hA3.below hb4 hA3.lt
  have hB4 := hB3.below hb4 hB3.lt
  have hF4 := hF3.below hb4 hF3.lt
  have hG4 := hF_p.below hb4 hF_p.lt
  have hbw4 := hbw3.trans (hb4.mono hbw3.size)
  have hW4 := wid_to hW3 hb4
  clear hA3 hB3 hC3 hF3 hF_p hbw3 hW3 t1 t2 T3 LBC LAC LBA a0 a1 a2 a3 b0 b1 b2 b3 c0 c1 c2 c3 hltc hb4
  obtain ⟨u, hu⟩ : ∃ u, (q.e != 0) = u := ⟨_, rfl⟩
  obtain ⟨v, hv⟩ : ∃ v, (p.e != 0) = v := ⟨_, rfl⟩
  cases u
  · cases v
    · have hqe : q.e = 0 := by simpa using hu
      have hpe : p.e = 0 := by simpa using hv
      clear hu hv
      have hqv := HQ_q.out
      have hpv := HQ_p.out
      obtain ⟨okq, rfl⟩ : okI k f r = true ∧ q = ⟨mkI k f s r, true, es_q.length, es_q, 0⟩ := by
        unfold frI at hqv
        split at hqv
        · rw [← hqv] at hqe; cases hqe
        · rw [if_neg (by omega)] at hqv
          exact ⟨by simp_all, hqv.symm⟩
      obtain ⟨okp, rfl⟩ : okI k' f' r' = true ∧ p = ⟨mkI k' f' s' r', true, es_p.length, es_p, 0⟩ := by
        unfold frI at hpv
        split at hpv
        · rw [← hpv] at hpe; cases hpe
        · rw [if_neg (by omega)] at hpv
          exact ⟨by simp_all, hpv.symm⟩
      have l1 := mk_lt k f s r k' f' s' r' okq okp hk_q.1 hf_q.1 hs_q hr_q.1 hk_p.1 hf_p.1 hs_p hr_p.1
      have mq := mk_eq k f s r k' f' s' r' okq okp hk_q.1 hf_q.1 hs_q hr_q.1 hk_p.1 hf_p.1 hs_p hr_p.1
      obtain ⟨-, u1, u2⟩ := read_mk k f s r okq hk_q.1 hf_q.1 hs_q hr_q.1
      obtain ⟨-, u3, u4⟩ := read_mk k' f' s' r' okp hk_p.1 hf_p.1 hs_p hr_p.1
      have fr1 := (of_mk k f s r es_q.length okq hk_q.1 hf_q.1 hs_q hr_q.1 hes_q).1
      have fr2 := (of_mk k' f' s' r' es_p.length okp hk_p.1 hf_p.1 hs_p hr_p.1 hes_p).1
      rw [HAB.out] at l1
      obtain ⟨tq, htq⟩ : ∃ t, eqI k f s r k' f' s' r' = t := ⟨_, rfl⟩
      have meq : (mkI k f s r == mkI k' f' s' r') = tq := by rw [← htq, Bool.eq_iff_iff, eqI_iff, beq_iff_eq]; exact mq
      have EQ := equal24 k f s r k' f' s' r'
      rw [htq] at EQ
      have ltt : ¬ (lab = true ∧ tq = true) := by
        rintro ⟨h1, h2⟩
        rw [h2] at meq
        rw [h1] at l1
        simp at meq l1
        omega
      generalize mkI k f s r = M1 at l1 meq u1 u2 fr1 hF4 ⊢
      generalize mkI k' f' s' r' = M2 at l1 meq u3 u4 fr2 hG4 ⊢
      dsimp only at hF4 hG4
      clear hqv hpv HQ_q HQ_p hqe hpe mq htq
      obtain ⟨n1, rfl⟩ : ∃ n1 : Nat, M1 = n1 := ⟨M1.toNat, by omega⟩
      obtain ⟨n2, rfl⟩ : ∃ n2 : Nat, M2 = n2 := ⟨M2.toNat, by omega⟩
      obtain ⟨a0, a1, a2, a3, -⟩ := hA4.four
      obtain ⟨b0, b1, b2, b3, -⟩ := hB4.four
      have L1 := Lib.hid l1
      have MEQ := Lib.hid meq
      have EQ := Lib.hid EQ
      have LTT := Lib.hid ltt
      clear l1 meq ltt
      go_wp2_with fail
      refine (LAB.out _).mono ?_
      rintro e w5 ⟨rfl, hb5⟩
      have hA5 := hA4.below hb5 hA4.lt
      have hB5 := hB4.below hb5 hB4.lt
      have hF5 := hF4.below hb5 hF4.lt
      have hG5 := hG4.below hb5 hG4.lt
      have hbw5 := hbw4.trans (hb5.mono hbw4.size)
      have hW5 := wid_to hW4 hb5
      have l1 := L1.out
      have R1 := fun w => fright_calls (n1 : Int) (es_q.length : Int) true false B_q es_q.length c_q (by omega) true fr1 w
      have R2 := fun w => fright_calls (n2 : Int) (es_p.length : Int) true false B_p es_p.length c_p (by omega) true fr2 w
      have F1 := fun w => first_ext n1 (by omega) false (es_q.length : Int) B_q es_q.length c_q w
      have F2 := fun w => first_ext n2 (by omega) false (es_p.length : Int) B_p es_p.length c_p w
      have d1 := before_ext n1 n2 (by omega) (by omega)
      rw [l1] at d1
      have BF1 := before_calls n1 es_q.length n2 es_p.length true false true false B_q B_p es_q.length c_q es_p.length c_p (firstL n1 true false) (firstL n2 true false) (by omega) (by omega) R1 R2 (by rw [firstL_len]; exact F1) (by rw [firstL_len]; exact F2) (by rw [firstL_len]; omega) (by rw [firstL_len]; omega) _ d1
      have K1 := key_ext n1 es_q.length false B_q es_q.length c_q (by omega) (by omega)
      have K2 := key_ext n2 es_p.length false B_p es_p.length c_p (by omega) (by omega)
      have kl := key_lt n1 n2 (by omega) (by omega)
      rw [l1] at kl
      generalize keyI n1 true false = y1 at K1 kl
      generalize keyI n2 true false = y2 at K2 kl
      have BF1 := Lib.hid BF1
      have K1 := Lib.hid K1
      have K2 := Lib.hid K2
      have keepL : ∀ w' : World, Below w5.heap.size w5 w' → (w'.cell? ⟨w.heap.size, 0, none⟩ = some (.int .u8 k) ∧ w'.cell? ⟨w.heap.size, 1, none⟩ = some (.int .u8 f) ∧ w'.cell? ⟨w.heap.size, 2, none⟩ = some (.int .u16 s) ∧ w'.cell? ⟨w.heap.size, 3, none⟩ = some (.int .u8 r) ∧ w'.cell? ⟨w.heap.size + 1, 0, none⟩ = some (.int .u8 k') ∧ w'.cell? ⟨w.heap.size + 1, 1, none⟩ = some (.int .u8 f') ∧ w'.cell? ⟨w.heap.size + 1, 2, none⟩ = some (.int .u16 s') ∧ w'.cell? ⟨w.heap.size + 1, 3, none⟩ = some (.int .u8 r') ∧ w'.cell? ⟨g_q, 0, none⟩ = some (.int .u32 (n1 : Int)) ∧ w'.cell? ⟨g_q, 1, none⟩ = some (.bool true) ∧ w'.cell? ⟨g_q, 2, none⟩ = some (.bool false) ∧ w'.cell? ⟨g_q, 3, none⟩ = some (.int .u8 (es_q.length : Int)) ∧ w'.cell? ⟨g_q, 4, none⟩ = some (.slice B_q es_q.length c_q) ∧ w'.cell? ⟨g_p, 0, none⟩ = some (.int .u32 (n2 : Int)) ∧ w'.cell? ⟨g_p, 1, none⟩ = some (.bool true) ∧ w'.cell? ⟨g_p, 2, none⟩ = some (.bool false) ∧ w'.cell? ⟨g_p, 3, none⟩ = some (.int .u8 (es_p.length : Int)) ∧ w'.cell? ⟨g_p, 4, none⟩ = some (.slice B_p es_p.length c_p) ∧ Below w5.heap.size w5 w') := fun w' hb => ⟨(hA5.below hb hA5.lt).cell 0, (hA5.below hb hA5.lt).cell 1, (hA5.below hb hA5.lt).cell 2, (hA5.below hb hA5.lt).cell 3, (hB5.below hb hB5.lt).cell 0, (hB5.below hb hB5.lt).cell 1, (hB5.below hb hB5.lt).cell 2, (hB5.below hb hB5.lt).cell 3, (hF5.below hb hF5.lt).cell 0, (hF5.below hb hF5.lt).cell 1, (hF5.below hb hF5.lt).cell 2, (hF5.below hb hF5.lt).cell 3, (hF5.below hb hF5.lt).cell 4, (hG5.below hb hG5.lt).cell 0, (hG5.below hb hG5.lt).cell 1, (hG5.below hb hG5.lt).cell 2, (hG5.below hb hG5.lt).cell 3, (hG5.below hb hG5.lt).cell 4, hb⟩
      have KL := Lib.hid keepL
      have meq := MEQ.out
      have eqr := EQ.out
      have l1b : decide ((n2 : Int) ≤ n1) = !lab := by rw [← l1, ← decide_not]; exact decide_eq_decide.mpr (by omega)
      have klb : decide (y2 ≤ y1) = !lab := by rw [← kl, ← decide_not]; exact decide_eq_decide.mpr (by omega)
      have meqd : decide ((n1 : Int) = n2) = tq := by rw [← meq]; rfl
      generalize (n1 : Int) = m1 at l1 l1b meq meqd BF1 K1 K2 keepL KL ⊢
      generalize (n2 : Int) = m2 at l1 l1b meq meqd BF1 K1 K2 keepL KL ⊢
      clear keepL hA4 hB4 hF4 hG4 hA5 hB5 hF5 hG5 R1 R2 F1 F2 d1 L1 MEQ EQ fr1 fr2 a0 a1 a2 a3 b0 b1 b2 b3 hb5 hbw4 hW4
      cases lab <;> cases tq
      all_goals try (exact absurd ⟨rfl, rfl⟩ LTT.out)
      all_goals go_upto_region 8 with fail
      all_goals go_region_held3 (fun w' => w'.cell? ⟨w.heap.size, 0, none⟩ = some (.int .u8 k) ∧ w'.cell? ⟨w.heap.size, 1, none⟩ = some (.int .u8 f) ∧ w'.cell? ⟨w.heap.size, 2, none⟩ = some (.int .u16 s) ∧ w'.cell? ⟨w.heap.size, 3, none⟩ = some (.int .u8 r) ∧ w'.cell? ⟨w.heap.size + 1, 0, none⟩ = some (.int .u8 k') ∧ w'.cell? ⟨w.heap.size + 1, 1, none⟩ = some (.int .u8 f') ∧ w'.cell? ⟨w.heap.size + 1, 2, none⟩ = some (.int .u16 s') ∧ w'.cell? ⟨w.heap.size + 1, 3, none⟩ = some (.int .u8 r') ∧ w'.cell? ⟨g_q, 0, none⟩ = some (.int .u32 m1) ∧ w'.cell? ⟨g_q, 1, none⟩ = some (.bool true) ∧ w'.cell? ⟨g_q, 2, none⟩ = some (.bool false) ∧ w'.cell? ⟨g_q, 3, none⟩ = some (.int .u8 (es_q.length : Int)) ∧ w'.cell? ⟨g_q, 4, none⟩ = some (.slice B_q es_q.length c_q) ∧ w'.cell? ⟨g_p, 0, none⟩ = some (.int .u32 m2) ∧ w'.cell? ⟨g_p, 1, none⟩ = some (.bool true) ∧ w'.cell? ⟨g_p, 2, none⟩ = some (.bool false) ∧ w'.cell? ⟨g_p, 3, none⟩ = some (.int .u8 (es_p.length : Int)) ∧ w'.cell? ⟨g_p, 4, none⟩ = some (.slice B_p es_p.length c_p) ∧ Below w5.heap.size w5 w') (exact KL.out _ (by first | assumption | exact (Below.refl w5.heap.size w5).drew)) (first
        | (go_at_call 22; (with_reducible refine (BF1.out _).mono ?_); rintro e w2 ⟨rfl, hb2⟩; have hB2 := below_tr (W := w5) (by first | assumption | exact (Below.refl w5.heap.size w5).drew) hb2)
        | (go_at_call 23; (with_reducible refine (K1.out _).mono ?_); rintro e w2 ⟨rfl, hb2⟩; have hB2 := below_tr (W := w5) (by first | assumption | exact (Below.refl w5.heap.size w5).drew) hb2)
        | (go_at_call 23; (with_reducible refine (K2.out _).mono ?_); rintro e w2 ⟨rfl, hb2⟩; have hB2 := below_tr (W := w5) (by first | assumption | exact (Below.refl w5.heap.size w5).drew) hb2)
        | (go_at_call 11; refine (awake_calls _ (wid_to hW5 (by first | assumption | exact (Below.refl w5.heap.size w5).drew))).mono ?_; rintro e w2 ⟨rfl, hb2⟩; have hB2 := below_tr (W := w5) (by first | assumption | exact (Below.refl w5.heap.size w5).drew) hb2))
      all_goals go_wp2
      all_goals go_returns
      all_goals exact ⟨rfl, hbw5.trans (hB2.mono hbw5.size)⟩
    · go_wp2_with fail
      refine (awake_calls _ hW4).mono ?_
      rintro e w9 ⟨rfl, hb9⟩
      go_wp2_with fail
      go_returns
      exact ⟨rfl, hbw4.trans (hb9.mono hbw4.size)⟩
  · go_wp2_with fail
    refine (awake_calls _ hW4).mono ?_
    rintro e w9 ⟨rfl, hb9⟩
    go_wp2_with fail
    go_returns
    exact ⟨rfl, hbw4.trans (hb9.mono hbw4.size)⟩
end Go.Proofs.YtnmcmgecdcnbiaaDoor
