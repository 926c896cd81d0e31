/- IdentKinds: of unlike right idents the frame of the lesser one goes on, whatever both carry. -/
import Derived.Test.YtnmcmgecdcnbiaaDoorJ4
import Derived.Test.YtnmcmgecdcnbiaaDoorK5
import Derived.Deep.DeepCutAuto
namespace Go.Proofs.YtnmcmgecdcnbiaaDoor
open Go.RowKit
set_option maxRecDepth 100000
set_option maxHeartbeats 6400000
set_option linter.unusedVariables false
theorem bel_d (w : World) : Below w.heap.size w w.drew := (Below.refl _ _).drew
theorem bel_ad (w : World) (o : Obj) : Below w.heap.size w (w.alloc o).drew := (below_alloc (Below.refl _ _) _).drew
theorem z_after' {w w1 : World} {cs : Array Value} {t : TypeId} (hb : Below ((w.alloc (.cells cs t)).drew).heap.size ((w.alloc (.cells cs t)).drew) w1) : Blk w1 w.heap.size t cs := (Blk.new w t cs).drew.below hb (by simp)
theorem four_far5 {w : World} {g g' : Nat} {t : TypeId} {a b c d : Value} (h : Blk w g t #[a, b, c, d]) (hne : g ≠ g') (v0 v1 v2 v3 v4 : Value) :
    (((((w.setCell ⟨g', 0, none⟩ v0).setCell ⟨g', 1, none⟩ v1).setCell ⟨g', 2, none⟩ v2).setCell ⟨g', 3, none⟩ v3).setCell ⟨g', 4, none⟩ v4).cell? ⟨g, 0, none⟩ = some a ∧
    (((((w.setCell ⟨g', 0, none⟩ v0).setCell ⟨g', 1, none⟩ v1).setCell ⟨g', 2, none⟩ v2).setCell ⟨g', 3, none⟩ v3).setCell ⟨g', 4, none⟩ v4).cell? ⟨g, 1, none⟩ = some b ∧
    (((((w.setCell ⟨g', 0, none⟩ v0).setCell ⟨g', 1, none⟩ v1).setCell ⟨g', 2, none⟩ v2).setCell ⟨g', 3, none⟩ v3).setCell ⟨g', 4, none⟩ v4).cell? ⟨g, 2, none⟩ = some c ∧
    (((((w.setCell ⟨g', 0, none⟩ v0).setCell ⟨g', 1, none⟩ v1).setCell ⟨g', 2, none⟩ v2).setCell ⟨g', 3, none⟩ v3).setCell ⟨g', 4, none⟩ v4).cell? ⟨g, 3, none⟩ = some d :=
  ⟨(h.far5 hne v0 v1 v2 v3 v4).cell 0, (h.far5 hne v0 v1 v2 v3 v4).cell 1, (h.far5 hne v0 v1 v2 v3 v4).cell 2, (h.far5 hne v0 v1 v2 v3 v4).cell 3⟩
theorem wid_to {w c : World} (h : Wid w) (hb : Below w.heap.size w c) : Wid c := h.below hb h.1
theorem reads_to {w c : World} {A : Option Addr} {n : Nat} {xs : List Value} (h : Reads w w.heap.size 1 A n xs) (hb : Below w.heap.size w c) : Reads c c.heap.size 1 A n xs := (h.below hb).more hb.size
theorem kinds_calls (k f s r k' f' s' r' : Int) (hk_q : 0 ≤ k ∧ k ≤ 255) (hf_q : 0 ≤ f ∧ f ≤ 255) (hs_q : 0 ≤ s ∧ s ≤ 65535) (hr_q : 0 ≤ r ∧ r ≤ 255) (hk_p : 0 ≤ k' ∧ k' ≤ 255) (hf_p : 0 ≤ f' ∧ f' ≤ 255) (hs_p : 0 ≤ s' ∧ s' ≤ 65535) (hr_p : 0 ≤ r' ∧ r' ≤ 255)
    (A : Option Addr) (n c : Nat) (ds : List Int) (A' : Option Addr) (n' c' : Nat) (ds' : List Int) (w : World) (hw : Wid w) (hx : Reads w w.heap.size 1 A n (u8s ds)) (hc : n ≤ c) (hm : c ≤ maxLen) (hx' : Reads w w.heap.size 1 A' n' (u8s ds')) (hc' : n' ≤ c') (hm' : c' ≤ maxLen) :
    Calls Tryd.prog 5 #[.agg #[.int .u8 k, .int .u8 f, .int .u16 s, .int .u8 r], .agg #[.int .u8 k', .int .u8 f', .int .u16 s', .int .u8 r'], .slice A n c, .slice A' n' c'] w fun e w' => e = .returned (.bool true) ∧ Below w.heap.size w w' := by
  unfold maxLen at hm hm'
  have hlen : ds.length = n := by have := hx.1; simp [u8s] at this; omega
  have hlen' : ds'.length = n' := by have := hx'.1; simp [u8s] at this; omega
  go_enter Tryd.func5, Tryd.ntmps5
  go_upto_region 1 with fail
  have hA := (Blk.new w 24 #[.int .u8 k, .int .u8 f, .int .u16 s, .int .u8 r]).alloc (.cells #[.int .u8 k', .int .u8 f', .int .u16 s', .int .u8 r'] 24)
  have hB := Blk.new (w.alloc (.cells #[.int .u8 k, .int .u8 f, .int .u16 s, .int .u8 r] 24)) 24 #[.int .u8 k', .int .u8 f', .int .u16 s', .int .u8 r']
  have hbw := blw2 w (.cells #[.int .u8 k, .int .u8 f, .int .u16 s, .int .u8 r] 24) (.cells #[.int .u8 k', .int .u8 f', .int .u16 s', .int .u8 r'] 24)
  rw [World.size_alloc] at hB
  generalize (w.alloc (.cells #[.int .u8 k, .int .u8 f, .int .u16 s, .int .u8 r] 24)).alloc (.cells #[.int .u8 k', .int .u8 f', .int .u16 s', .int .u8 r'] 24) = wa at hA hB hbw ⊢
  have hW := hw.below hbw hw.1
  have hxa := (hx.below hbw).more hbw.size
  go_upto_region 1 with fail
  have hle_q : ∃ es : List Int, es.length ≤ 8 ∧ Reads wa wa.heap.size 1 A es.length (u8s es) ∧ (es.length : Int) = (if (8 : Int) < (n : Int) then 8 else (n : Int)) := by
    by_cases h8 : (8 : Int) < (n : Int)
    · have hl : (ds.take 8).length = 8 := by simp; omega
      exact ⟨ds.take 8, by omega, by rw [hl]; simpa [u8s, List.map_take] using (hxa).take (m := 8) (by omega), by rw [hl, if_pos h8]; rfl⟩
    · exact ⟨ds, by omega, by rw [hlen]; exact hxa, by rw [if_neg h8, hlen]⟩
  obtain ⟨es_q, hes_q, hrd_q, hei_q⟩ := hle_q
  obtain ⟨q, hq_q⟩ : ∃ q, frI k f s r es_q = q := ⟨_, rfl⟩
  have fa_q := frame_any k f s r hk_q.1 hf_q.1 hs_q hr_q.1 A c es_q (by omega)
  unfold frV at fa_q
  rw [hq_q] at fa_q
  have FA_q := Lib.hid fa_q
  have HQ_q := Lib.hid hq_q
  clear fa_q hq_q
  go_cut [9, 10] (fun sf se wd => ∃ g B1 c1, sf = .pointer (some ⟨g, 0, none⟩) ∧ se = .int .i64 q.e ∧ wa.heap.size ≤ g ∧ Blk wd g 34 #[.int .u32 q.id, .bool q.x, .bool false, .int .u8 q.d, .slice B1 q.ds.length c1] ∧ Below wa.heap.size wa wd)
  case first =>
    obtain ⟨z0, z1, z2, z3, -⟩ := hA.four
    have hltb := hA.lt
    have hne_q : w.heap.size ≠ wa.heap.size := Nat.ne_of_lt hltb
    have hWW := hW
    by_cases h8 : (8 : Int) < (n : Int)
    · have he8 : es_q.length = 8 := by rw [if_pos h8] at hei_q; omega
      rw [he8] at FA_q hrd_q
      have hcb : (8 : Int) ≤ (c : Int) := by omega
      have hcz : (0 : Int) ≤ (8 : Int) := by omega
      go_region_held3 (fun w' => w'.cell? ⟨w.heap.size, 0, none⟩ = some (.int .u8 k) ∧ w'.cell? ⟨w.heap.size, 1, none⟩ = some (.int .u8 f) ∧ w'.cell? ⟨w.heap.size, 2, none⟩ = some (.int .u16 s) ∧ w'.cell? ⟨w.heap.size, 3, none⟩ = some (.int .u8 r)) (first | (with_reducible exact hK1) | (with_reducible exact four_far5 hBx hne_q _ _ _ _ _) | go_keep) (first
        | (go_at_call 10; refine (FA_q.out _ (wid_to hWW (by first | exact bel_d _ | exact bel_ad _ _)) (reads_to hrd_q (by first | exact bel_d _ | exact bel_ad _ _))).mono ?_; rintro e w1 ⟨B1, c1, rfl, ho1, hb1⟩; have hbc := below_tr (W := wa) (by first | exact bel_d _ | exact bel_ad _ _) hb1; have hBx := hA.below hbc hA.lt; have hK1 : w1.cell? ⟨w.heap.size, 0, none⟩ = some (.int .u8 k) ∧ w1.cell? ⟨w.heap.size, 1, none⟩ = some (.int .u8 f) ∧ w1.cell? ⟨w.heap.size, 2, none⟩ = some (.int .u16 s) ∧ w1.cell? ⟨w.heap.size, 3, none⟩ = some (.int .u8 r) := ⟨hBx.cell 0, hBx.cell 1, hBx.cell 2, hBx.cell 3⟩; (first | ((with_reducible have hZq := z_after' hb1); obtain ⟨y0, y1, y2, y3, y4, x0, x1, x2, x3, x4⟩ := hZq.five) | skip)))
      all_goals go_wp2_with fail
      all_goals go_meet
      all_goals first
        | exact ⟨_, B1, c1, rfl, rfl, Nat.le_refl _, hZq.put5 .., below_put5 hbc (Nat.le_refl _) ..⟩
        | exact ⟨_, B1, c1, rfl, rfl, hbc.size, Blk.new w1 34 _, below_alloc hbc _⟩
    · have he8 : es_q.length = n := by rw [if_neg h8] at hei_q; omega
      rw [he8] at FA_q hrd_q
      have hcb : (n : Int) ≤ (c : Int) := by omega
      have hcz : (0 : Int) ≤ (n : Int) := by omega
      go_region_held3 (fun w' => w'.cell? ⟨w.heap.size, 0, none⟩ = some (.int .u8 k) ∧ w'.cell? ⟨w.heap.size, 1, none⟩ = some (.int .u8 f) ∧ w'.cell? ⟨w.heap.size, 2, none⟩ = some (.int .u16 s) ∧ w'.cell? ⟨w.heap.size, 3, none⟩ = some (.int .u8 r)) (first | (with_reducible exact hK1) | (with_reducible exact four_far5 hBx hne_q _ _ _ _ _) | go_keep) (first
        | (go_at_call 10; refine (FA_q.out _ (wid_to hWW (by first | exact bel_d _ | exact bel_ad _ _)) (reads_to hrd_q (by first | exact bel_d _ | exact bel_ad _ _))).mono ?_; rintro e w1 ⟨B1, c1, rfl, ho1, hb1⟩; have hbc := below_tr (W := wa) (by first | exact bel_d _ | exact bel_ad _ _) hb1; have hBx := hA.below hbc hA.lt; have hK1 : w1.cell? ⟨w.heap.size, 0, none⟩ = some (.int .u8 k) ∧ w1.cell? ⟨w.heap.size, 1, none⟩ = some (.int .u8 f) ∧ w1.cell? ⟨w.heap.size, 2, none⟩ = some (.int .u16 s) ∧ w1.cell? ⟨w.heap.size, 3, none⟩ = some (.int .u8 r) := ⟨hBx.cell 0, hBx.cell 1, hBx.cell 2, hBx.cell 3⟩; (first | ((with_reducible have hZq := z_after' hb1); obtain ⟨y0, y1, y2, y3, y4, x0, x1, x2, x3, x4⟩ := hZq.five) | skip)))
      all_goals go_wp2_with fail
      all_goals go_meet
      all_goals first
        | exact ⟨_, B1, c1, rfl, rfl, Nat.le_refl _, hZq.put5 .., below_put5 hbc (Nat.le_refl _) ..⟩
        | exact ⟨_, B1, c1, rfl, rfl, hbc.size, Blk.new w1 34 _, below_alloc hbc _⟩
  case rest =>
  obtain ⟨g_q, B_q, c_q, rfl, rfl, hg_q, hF_q, hb_q⟩ := hcut
  clear hei_q
  have hA2 := hA.below hb_q hA.lt
  have hB2 := hB.below hb_q hB.lt
  have hbw2 := hbw.trans (hb_q.mono hbw.size)
  have hW2 := wid_to hW hb_q
  have hxb := (hx'.below hbw2).more hbw2.size
  clear hA hB hbw hW hxa
  go_upto_region 2 with fail
  have hle_p : ∃ es : List Int, es.length ≤ 8 ∧ Reads wc wc.heap.size 1 A' es.length (u8s es) ∧ (es.length : Int) = (if (8 : Int) < (n' : Int) then 8 else (n' : Int)) := by
    by_cases h8 : (8 : Int) < (n' : Int)
    · have hl : (ds'.take 8).length = 8 := by simp; omega
      exact ⟨ds'.take 8, by omega, by rw [hl]; simpa [u8s, List.map_take] using (hxb).take (m := 8) (by omega), by rw [hl, if_pos h8]; rfl⟩
    · exact ⟨ds', by omega, by rw [hlen']; exact hxb, by rw [if_neg h8, hlen']⟩
  obtain ⟨es_p, hes_p, hrd_p, hei_p⟩ := hle_p
  obtain ⟨p, hq_p⟩ : ∃ q, frI k' f' s' r' es_p = q := ⟨_, rfl⟩
  have fa_p := frame_any k' f' s' r' hk_p.1 hf_p.1 hs_p hr_p.1 A' c' es_p (by omega)
  unfold frV at fa_p
  rw [hq_p] at fa_p
  have FA_p := Lib.hid fa_p
  have HQ_p := Lib.hid hq_p
  clear fa_p hq_p
  go_cut [11, 12] (fun sf se wd => ∃ g B1 c1, sf = .pointer (some ⟨g, 0, none⟩) ∧ se = .int .i64 p.e ∧ wc.heap.size ≤ g ∧ Blk wd g 34 #[.int .u32 p.id, .bool p.x, .bool false, .int .u8 p.d, .slice B1 p.ds.length c1] ∧ Below wc.heap.size wc wd)
  case first =>
    obtain ⟨z0, z1, z2, z3, -⟩ := hB2.four
    have hltb := hB2.lt
    have hne_p : w.heap.size + 1 ≠ wc.heap.size := Nat.ne_of_lt hltb
    have hWW := hW2
    by_cases h8 : (8 : Int) < (n' : Int)
    · have he8 : es_p.length = 8 := by rw [if_pos h8] at hei_p; omega
      rw [he8] at FA_p hrd_p
      have hcb : (8 : Int) ≤ (c' : Int) := by omega
      have hcz : (0 : Int) ≤ (8 : Int) := by omega
      go_region_held3 (fun w' => w'.cell? ⟨w.heap.size + 1, 0, none⟩ = some (.int .u8 k') ∧ w'.cell? ⟨w.heap.size + 1, 1, none⟩ = some (.int .u8 f') ∧ w'.cell? ⟨w.heap.size + 1, 2, none⟩ = some (.int .u16 s') ∧ w'.cell? ⟨w.heap.size + 1, 3, none⟩ = some (.int .u8 r')) (first | (with_reducible exact hK1) | (with_reducible exact four_far5 hBx hne_p _ _ _ _ _) | go_keep) (first
        | (go_at_call 10; refine (FA_p.out _ (wid_to hWW (by first | exact bel_d _ | exact bel_ad _ _)) (reads_to hrd_p (by first | exact bel_d _ | exact bel_ad _ _))).mono ?_; rintro e w1 ⟨B1, c1, rfl, ho1, hb1⟩; have hbc := below_tr (W := wc) (by first | exact bel_d _ | exact bel_ad _ _) hb1; have hBx := hB2.below hbc hB2.lt; have hK1 : w1.cell? ⟨w.heap.size + 1, 0, none⟩ = some (.int .u8 k') ∧ w1.cell? ⟨w.heap.size + 1, 1, none⟩ = some (.int .u8 f') ∧ w1.cell? ⟨w.heap.size + 1, 2, none⟩ = some (.int .u16 s') ∧ w1.cell? ⟨w.heap.size + 1, 3, none⟩ = some (.int .u8 r') := ⟨hBx.cell 0, hBx.cell 1, hBx.cell 2, hBx.cell 3⟩; (first | ((with_reducible have hZq := z_after' hb1); obtain ⟨y0, y1, y2, y3, y4, x0, x1, x2, x3, x4⟩ := hZq.five) | skip)))
      all_goals go_wp2_with fail
      all_goals go_meet
      all_goals first
        | exact ⟨_, B1, c1, rfl, rfl, Nat.le_refl _, hZq.put5 .., below_put5 hbc (Nat.le_refl _) ..⟩
        | exact ⟨_, B1, c1, rfl, rfl, hbc.size, Blk.new w1 34 _, below_alloc hbc _⟩
    · have he8 : es_p.length = n' := by rw [if_neg h8] at hei_p; omega
      rw [he8] at FA_p hrd_p
      have hcb : (n' : Int) ≤ (c' : Int) := by omega
      have hcz : (0 : Int) ≤ (n' : Int) := by omega
      go_region_held3 (fun w' => w'.cell? ⟨w.heap.size + 1, 0, none⟩ = some (.int .u8 k') ∧ w'.cell? ⟨w.heap.size + 1, 1, none⟩ = some (.int .u8 f') ∧ w'.cell? ⟨w.heap.size + 1, 2, none⟩ = some (.int .u16 s') ∧ w'.cell? ⟨w.heap.size + 1, 3, none⟩ = some (.int .u8 r')) (first | (with_reducible exact hK1) | (with_reducible exact four_far5 hBx hne_p _ _ _ _ _) | go_keep) (first
        | (go_at_call 10; refine (FA_p.out _ (wid_to hWW (by first | exact bel_d _ | exact bel_ad _ _)) (reads_to hrd_p (by first | exact bel_d _ | exact bel_ad _ _))).mono ?_; rintro e w1 ⟨B1, c1, rfl, ho1, hb1⟩; have hbc := below_tr (W := wc) (by first | exact bel_d _ | exact bel_ad _ _) hb1; have hBx := hB2.below hbc hB2.lt; have hK1 : w1.cell? ⟨w.heap.size + 1, 0, none⟩ = some (.int .u8 k') ∧ w1.cell? ⟨w.heap.size + 1, 1, none⟩ = some (.int .u8 f') ∧ w1.cell? ⟨w.heap.size + 1, 2, none⟩ = some (.int .u16 s') ∧ w1.cell? ⟨w.heap.size + 1, 3, none⟩ = some (.int .u8 r') := ⟨hBx.cell 0, hBx.cell 1, hBx.cell 2, hBx.cell 3⟩; (first | ((with_reducible have hZq := z_after' hb1); obtain ⟨y0, y1, y2, y3, y4, x0, x1, x2, x3, x4⟩ := hZq.five) | skip)))
      all_goals go_wp2_with fail
      all_goals go_meet
      all_goals first
        | exact ⟨_, B1, c1, rfl, rfl, Nat.le_refl _, hZq.put5 .., below_put5 hbc (Nat.le_refl _) ..⟩
        | exact ⟨_, B1, c1, rfl, rfl, hbc.size, Blk.new w1 34 _, below_alloc hbc _⟩
  case rest =>
  obtain ⟨g_p, B_p, c_p, rfl, rfl, hg_p, hF_p, hb_p⟩ := hcut
  clear hei_p
  have hA3 := hA2.below hb_p hA2.lt
  have hB3 := hB2.below hb_p hB2.lt
  have hF3 := hF_q.below hb_p hF_q.lt
  have hbw3 := hbw2.trans (hb_p.mono hbw2.size)
  have hW3 := wid_to hW2 hb_p
  clear hA2 hB2 hF_q hbw2 hW2 hxb hx hx' FA_q FA_p
  obtain ⟨a0, a1, a2, a3, -⟩ := hA3.four
  obtain ⟨b0, b1, b2, b3, -⟩ := hB3.four
  have hlta := hA3.lt
  have hltb := hB3.lt
  go_upto_region 3 with fail
  go_cut [44] (fun s44 wd => ∃ t, s44 = .bool t ∧ (t = false → q.e = 0 ∧ p.e = 0 ∧ ¬ (k = k' ∧ f = f' ∧ s = s' ∧ r = r')) ∧ wc = wd)
  case first =>
    obtain ⟨u, hu⟩ : ∃ u, (q.e != 0) = u := ⟨_, rfl⟩
    obtain ⟨v, hv⟩ : ∃ v, (p.e != 0) = v := ⟨_, rfl⟩
    cases u
    · cases v
      · have HU : Hid (q.e = 0 ∧ p.e = 0) := ⟨by simpa using hu, by simpa using hv⟩
        by_cases e1 : k = k'
        · subst e1
          by_cases e2 : f = f'
          · subst e2
            by_cases e3 : s = s'
            · subst e3
              by_cases e4 : r = r'
              · subst e4
                go_wp2_with fail
                go_meet
                exact ⟨true, rfl, (fun h => by cases h), rfl⟩
              · have b4 : (r == r') = false := by simpa using e4
                have E := Lib.hid e4
                clear e4
                go_wp2_with fail
                go_meet
                exact ⟨false, rfl, fun _ => ⟨HU.out.1, HU.out.2, fun h => E.out h.2.2.2⟩, rfl⟩
            · have b4 : (s == s') = false := by simpa using e3
              have E := Lib.hid e3
              clear e3
              go_wp2_with fail
              go_meet
              exact ⟨false, rfl, fun _ => ⟨HU.out.1, HU.out.2, fun h => E.out h.2.2.1⟩, rfl⟩
          · have b4 : (f == f') = false := by simpa using e2
            have E := Lib.hid e2
            clear e2
            go_wp2_with fail
            go_meet
            exact ⟨false, rfl, fun _ => ⟨HU.out.1, HU.out.2, fun h => E.out h.2.1⟩, rfl⟩
        · have b4 : (k == k') = false := by simpa using e1
          have E := Lib.hid e1
          clear e1
          go_wp2_with fail
          go_meet
          exact ⟨false, rfl, fun _ => ⟨HU.out.1, HU.out.2, fun h => E.out h.1⟩, rfl⟩
      · go_wp2_with fail
        go_meet
        exact ⟨true, rfl, (fun h => by cases h), rfl⟩
    · go_wp2_with fail
      go_meet
      exact ⟨true, rfl, (fun h => by cases h), rfl⟩
  case rest =>
  obtain ⟨t, rfl, ht, rfl⟩ := hcut
  cases t with
  | true =>
    clear ht
    go_wp2_with fail
    refine (awake_calls _ hW3).mono ?_
    rintro e w9 ⟨rfl, hb9⟩
    go_wp2_with fail
    go_returns
    exact ⟨rfl, hbw3.trans (hb9.mono hbw3.size)⟩
  | false =>
    obtain ⟨hqe, hpe, hne⟩ := ht rfl
    clear ht
    go_upto_region 5 with fail
    obtain ⟨ln, hln⟩ : ∃ ln, lessI k f s r k' f' s' r' = ln := ⟨_, rfl⟩
    go_upto_block 0 with fail
    go_cut [13] (fun s13 wd => s13 = .bool ln ∧ wc = wd)
    case first =>
      unfold lessI at hln
      obtain ⟨t0, e0⟩ : ∃ t, (k != k') = t := ⟨_, rfl⟩
      obtain ⟨t1, e1⟩ : ∃ t, (f != f') = t := ⟨_, rfl⟩
      obtain ⟨t2, e2⟩ : ∃ t, (s != s') = t := ⟨_, rfl⟩
      rw [e0, e1, e2] at hln
      cases t0
      · cases t1
        · cases t2
          all_goals simp only [Bool.false_eq_true, if_false, if_true] at hln
          all_goals subst hln
          all_goals go_wp2_with fail
          all_goals go_meet
          all_goals exact ⟨rfl, rfl⟩
        · simp only [Bool.false_eq_true, if_false, if_true] at hln
          subst hln
          go_wp2_with fail
          go_meet
          exact ⟨rfl, rfl⟩
      · simp only [if_true] at hln
        subst hln
        go_wp2_with fail
        go_meet
        exact ⟨rfl, rfl⟩
    case rest =>
    obtain ⟨rfl, rfl⟩ := hcut
    have hqv := HQ_q.out
    have hpv := HQ_p.out
    obtain ⟨okq, rfl⟩ : okI k f r = true ∧ q = ⟨mkI k f s r, true, es_q.length, es_q, 0⟩ := by
      unfold frI at hqv
      split at hqv
      · rw [← hqv] at hqe; cases hqe
      · rw [if_neg (by omega)] at hqv
        exact ⟨by simp_all, hqv.symm⟩
    obtain ⟨okp, rfl⟩ : okI k' f' r' = true ∧ p = ⟨mkI k' f' s' r', true, es_p.length, es_p, 0⟩ := by
      unfold frI at hpv
      split at hpv
      · rw [← hpv] at hpe; cases hpe
      · rw [if_neg (by omega)] at hpv
        exact ⟨by simp_all, hpv.symm⟩
    have l1 := mk_lt k f s r k' f' s' r' okq okp hk_q.1 hf_q.1 hs_q hr_q.1 hk_p.1 hf_p.1 hs_p hr_p.1
    have ne1 : ¬ mkI k f s r = mkI k' f' s' r' := fun h => hne ((mk_eq k f s r k' f' s' r' okq okp hk_q.1 hf_q.1 hs_q hr_q.1 hk_p.1 hf_p.1 hs_p hr_p.1).1 h)
    obtain ⟨-, u1, u2⟩ := read_mk k f s r okq hk_q.1 hf_q.1 hs_q hr_q.1
    obtain ⟨-, u3, u4⟩ := read_mk k' f' s' r' okp hk_p.1 hf_p.1 hs_p hr_p.1
    have fr1 := (of_mk k f s r es_q.length okq hk_q.1 hf_q.1 hs_q hr_q.1 hes_q).1
    have fr2 := (of_mk k' f' s' r' es_p.length okp hk_p.1 hf_p.1 hs_p hr_p.1 hes_p).1
    rw [hln] at l1
    generalize mkI k f s r = M1 at l1 ne1 u1 u2 fr1 hF3 ⊢
    generalize mkI k' f' s' r' = M2 at l1 ne1 u3 u4 fr2 hF_p ⊢
    dsimp only at hF3 hF_p
    clear hqv hpv HQ_q HQ_p hqe hpe hne hln hA3 hB3 a0 a1 a2 a3 b0 b1 b2 b3 hlta hltb
    obtain ⟨n1, rfl⟩ : ∃ n1 : Nat, M1 = n1 := ⟨M1.toNat, by omega⟩
    obtain ⟨n2, rfl⟩ : ∃ n2 : Nat, M2 = n2 := ⟨M2.toNat, by omega⟩
    have R1 := fun w => fright_calls (n1 : Int) (es_q.length : Int) true false B_q es_q.length c_q (by omega) true fr1 w
    have R2 := fun w => fright_calls (n2 : Int) (es_p.length : Int) true false B_p es_p.length c_p (by omega) true fr2 w
    have F1 := fun w => first_ext n1 (by omega) false (es_q.length : Int) B_q es_q.length c_q w
    have F2 := fun w => first_ext n2 (by omega) false (es_p.length : Int) B_p es_p.length c_p w
    have d1 := before_ext n1 n2 (by omega) (by omega)
    have d2 := before_ext n2 n1 (by omega) (by omega)
    rw [l1] at d1
    have l2 : decide ((n2 : Int) < (n1 : Int)) = !ln := by rw [← l1, ← decide_not]; exact decide_eq_decide.2 (by omega)
    rw [l2] at d2
    have BF1 := before_calls n1 es_q.length n2 es_p.length true false true false B_q B_p es_q.length c_q es_p.length c_p (firstL n1 true false) (firstL n2 true false) (by omega) (by omega) R1 R2 (by rw [firstL_len]; exact F1) (by rw [firstL_len]; exact F2) (by rw [firstL_len]; omega) (by rw [firstL_len]; omega) _ d1
    have BF2 := before_calls n2 es_p.length n1 es_q.length true false true false B_p B_q es_p.length c_p es_q.length c_q (firstL n2 true false) (firstL n1 true false) (by omega) (by omega) R2 R1 (by rw [firstL_len]; exact F2) (by rw [firstL_len]; exact F1) (by rw [firstL_len]; omega) (by rw [firstL_len]; omega) _ d2
    have K1 := key_ext n1 es_q.length false B_q es_q.length c_q (by omega) (by omega)
    have K2 := key_ext n2 es_p.length false B_p es_p.length c_p (by omega) (by omega)
    have kl := key_lt n1 n2 (by omega) (by omega)
    rw [l1] at kl
    generalize keyI n1 true false = y1 at K1 kl
    generalize keyI n2 true false = y2 at K2 kl
    have hnn : ((n1 : Int) != (n2 : Int)) = true := by simpa using ne1
    have BF1 := Lib.hid BF1
    have BF2 := Lib.hid BF2
    have K1 := Lib.hid K1
    have K2 := Lib.hid K2
    have keepL : ∀ w' : World, Below wc.heap.size wc w' → (w'.cell? ⟨g_q, 0, none⟩ = some (.int .u32 (n1 : Int)) ∧ w'.cell? ⟨g_q, 1, none⟩ = some (.bool true) ∧ w'.cell? ⟨g_q, 2, none⟩ = some (.bool false) ∧ w'.cell? ⟨g_q, 3, none⟩ = some (.int .u8 (es_q.length : Int)) ∧ w'.cell? ⟨g_q, 4, none⟩ = some (.slice B_q es_q.length c_q) ∧ w'.cell? ⟨g_p, 0, none⟩ = some (.int .u32 (n2 : Int)) ∧ w'.cell? ⟨g_p, 1, none⟩ = some (.bool true) ∧ w'.cell? ⟨g_p, 2, none⟩ = some (.bool false) ∧ w'.cell? ⟨g_p, 3, none⟩ = some (.int .u8 (es_p.length : Int)) ∧ w'.cell? ⟨g_p, 4, none⟩ = some (.slice B_p es_p.length c_p) ∧ Below wc.heap.size wc w') := fun w' hb => ⟨(hF3.below hb hF3.lt).cell 0, (hF3.below hb hF3.lt).cell 1, (hF3.below hb hF3.lt).cell 2, (hF3.below hb hF3.lt).cell 3, (hF3.below hb hF3.lt).cell 4, (hF_p.below hb hF_p.lt).cell 0, (hF_p.below hb hF_p.lt).cell 1, (hF_p.below hb hF_p.lt).cell 2, (hF_p.below hb hF_p.lt).cell 3, (hF_p.below hb hF_p.lt).cell 4, hb⟩
    have KL := Lib.hid keepL
    clear keepL hF3 hF_p R1 R2 F1 F2 d1 d2 l1 l2 fr1 fr2 ne1
    cases ln
    all_goals go_upto_region 12 with fail
    all_goals go_region_held3 (fun w' => w'.cell? ⟨g_q, 0, none⟩ = some (.int .u32 (n1 : Int)) ∧ w'.cell? ⟨g_q, 1, none⟩ = some (.bool true) ∧ w'.cell? ⟨g_q, 2, none⟩ = some (.bool false) ∧ w'.cell? ⟨g_q, 3, none⟩ = some (.int .u8 (es_q.length : Int)) ∧ w'.cell? ⟨g_q, 4, none⟩ = some (.slice B_q es_q.length c_q) ∧ w'.cell? ⟨g_p, 0, none⟩ = some (.int .u32 (n2 : Int)) ∧ w'.cell? ⟨g_p, 1, none⟩ = some (.bool true) ∧ w'.cell? ⟨g_p, 2, none⟩ = some (.bool false) ∧ w'.cell? ⟨g_p, 3, none⟩ = some (.int .u8 (es_p.length : Int)) ∧ w'.cell? ⟨g_p, 4, none⟩ = some (.slice B_p es_p.length c_p) ∧ Below wc.heap.size wc w') (exact KL.out _ (by first | assumption | exact (Below.refl wc.heap.size wc).drew)) (first
      | ((with_reducible go_at_call 22; with_reducible refine (BF1.out _).mono ?_); rintro e w2 ⟨rfl, hb2⟩; have hB2 := below_tr (W := wc) (by first | assumption | exact (Below.refl wc.heap.size wc).drew) hb2)
      | ((with_reducible go_at_call 22; with_reducible refine (BF2.out _).mono ?_); rintro e w2 ⟨rfl, hb2⟩; have hB2 := below_tr (W := wc) (by first | assumption | exact (Below.refl wc.heap.size wc).drew) hb2)
      | ((with_reducible go_at_call 23; with_reducible refine (K1.out _).mono ?_); rintro e w2 ⟨rfl, hb2⟩; have hB2 := below_tr (W := wc) (by first | assumption | exact (Below.refl wc.heap.size wc).drew) hb2)
      | ((with_reducible go_at_call 23; with_reducible refine (K2.out _).mono ?_); rintro e w2 ⟨rfl, hb2⟩; have hB2 := below_tr (W := wc) (by first | assumption | exact (Below.refl wc.heap.size wc).drew) hb2)
      | (go_at_call 11; refine (awake_calls _ (wid_to hW3 (by first | assumption | exact (Below.refl wc.heap.size wc).drew))).mono ?_; rintro e w2 ⟨rfl, hb2⟩; have hB2 := below_tr (W := wc) (by first | assumption | exact (Below.refl wc.heap.size wc).drew) hb2))
    all_goals go_wp2
    all_goals go_returns
    all_goals exact ⟨rfl, hbw3.trans (hB2.mono hbw3.size)⟩
end Go.Proofs.YtnmcmgecdcnbiaaDoor
