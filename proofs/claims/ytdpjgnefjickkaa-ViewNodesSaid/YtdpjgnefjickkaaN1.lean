/- ViewNodes returns true, whatever came in. -/
import Derived.Test.YtdpjgnefjickkaaN1b
import Derived.Test.YtdpjgnefjickkaaN1c
namespace Go.Proofs.Ytdpjgnefjickkaa
open Go.RowKit
set_option maxRecDepth 100000
set_option maxHeartbeats 64000000
set_option linter.unusedVariables false
theorem nodes_calls (n : Int) (s j l f : BitVec 32) (hn : -9223372036854775808 ≤ n ∧ n ≤ 9223372036854775807) (A : Option Addr) (m c : Nat) (la : List E) (w : World) (hl : RdE w A m la) (hc : m ≤ c) (hm : c ≤ maxLen) :
    Calls Try.prog 5 #[.agg #[.int .i64 n, .int .u32 (bi s), .int .u32 (bi j), .int .u32 (bi l), .int .u32 (bi f)], .slice A m c] w fun e w' => e = .returned (.bool true) ∧ Below w.heap.size w w' := by
  unfold maxLen at hm
  go_enter Try.func5, Try.ntmps5
  go_upto_region 3 with fail
  have hN : ∃ N : Int, Go.bits .and .i64 (if n < 0 then 0 else n) 65535 = N ∧ 0 ≤ N ∧ N ≤ 65535 := by
    refine ⟨_, and_64 _ (by split <;> omega) (by split <;> omega), ?_⟩
    split <;> omega
  obtain ⟨N, hN, hN0, hN1⟩ := hN
  rw [hN]
  clear hN
  generalize (if n < 0 then (0 : Int) else n) = M0
  rw [bi_andNot, bi_and, bi_and]
  obtain ⟨b, hb⟩ : ∃ b : B, b = ⟨N, s, j &&& ~~~s, l &&& s, f &&& s⟩ := ⟨_, rfl⟩
  have hR : b.R := by
    subst hb
    refine ⟨hN0, row_zero.2 fun i hi => ?_, row_zero.2 fun i hi => ?_⟩
    · simp [hi]
    · simp [hi]; intro h; rcases h with h | h <;> exact h.2
  have hbn : b.n ≤ 65535 := by subst hb; exact hN1
  have HB := Lib.hid hb
  clear hb
  go_cut [5, 6] (fun s5 s6 wc => s5 = .pointer (some ⟨w.heap.size + 1, 0, none⟩) ∧ s6 = .pointer (some ⟨w.heap.size + 2, 0, none⟩) ∧ Three w wc b (fun _ => false) (fun _ => false))
  case first => -- DONE
    go_wp2_with fail
    go_meet
    refine ⟨rfl, by first | rfl | (simp; done) , ?_⟩
    unfold Three
    rw [HB.out]
    refine ⟨((Blk.new w 28 _).alloc _).alloc _, ?_, ?_, blw3 ..⟩
    · have := (Blk.new (w.alloc (.cells #[.int .i64 N, .int .u32 (bi s), .int .u32 (bi (j &&& ~~~s)), .int .u32 (bi (l &&& s)), .int .u32 (bi (f &&& s))] 28)) 40 (cA fun _ => false)).alloc (.cells (cA fun _ => false) 40)
      rw [World.size_alloc] at this
      exact this
    · have := Blk.new ((w.alloc (.cells #[.int .i64 N, .int .u32 (bi s), .int .u32 (bi (j &&& ~~~s)), .int .u32 (bi (l &&& s)), .int .u32 (bi (f &&& s))] 28)).alloc (.cells (cA fun _ => false) 40)) 40 (cA fun _ => false)
      rw [World.size_alloc, World.size_alloc] at this
      exact this
  case rest =>
  obtain ⟨rfl, rfl, h3⟩ := hcut
  clear HB
  go_wp2_with fail
  go_loopg [44] 33 (fun g i wr => ∃ k : Nat, g + k = 33 ∧ k ≤ 32 ∧ i = .int .i64 k ∧ Three w wr b (upto k (inB b)) (upto k (goB b)))
  case atStart => exact ⟨0, by omega, by omega, rfl, by
    have e : ∀ f, cA (upto 0 f) = cA (fun _ => false) := fun f => cA_ext fun i _ => by simp [upto]
    unfold Three at h3 ⊢
    rw [e, e]; exact h3⟩
  case round =>
    obtain ⟨k, hg, hk, rfl, hB, hI, hO, hbr⟩ := hrel
    by_cases hlt : k < 32
    · skip -- DONE
      obtain ⟨d0, d1, d2, d3, d4, -⟩ := hB.five
      have o0 := (hO.cell k).trans (cA_get _ _ hlt)
      have o1 := hO.frozen k
      have i0 := (hI.cell k).trans (cA_get _ _ hlt)
      have i1 := hI.frozen k
      obtain ⟨sk, hsk⟩ : ∃ sk, b.s.getLsbD k = sk := ⟨_, rfl⟩
      obtain ⟨jk, hjk⟩ : ∃ jk, b.j.getLsbD k = jk := ⟨_, rfl⟩
      obtain ⟨ok, hok⟩ : ∃ ok, goB b k = ok := ⟨_, rfl⟩
      have t1 : (Go.bits .and .u32 (bi b.s / 2 ^ k) 1 == 1) = sk := by rw [bit_test]; exact hsk
      have t2 : (Go.bits .and .u32 (bi b.j / 2 ^ k) 1 == 1) = jk := by rw [bit_test]; exact hjk
      have t3 : (Go.bits .and .u32 (Go.bits .or .u32 (bi b.l) (bi b.f) / 2 ^ k) 1 == 1) = ok := by rw [bi_or, bit_test, BitVec.getLsbD_or]; exact hok
      have hin : inB b k = (sk && !ok || jk) := by unfold inB; rw [hsk, hjk]; unfold goB at hok; rw [hok]
      have HIN := Lib.hid hin
      have HOK := Lib.hid hok
      clear hsk hjk hok hin
      generalize upto k (goB b) k = ov at o0
      generalize upto k (inB b) k = iv at i0
      cases sk <;> cases jk <;> cases ok
      all_goals go_wp2_with fail
      all_goals go_roundg (32 - k)
      all_goals try case measure => omega
      all_goals exact ⟨k + 1, by omega, by omega, by go_num, three_step ⟨hB, hI, hO, hbr⟩ hlt _ _ HOK.out (by rw [HIN.out]; rfl)⟩
    · have hk32 : decide ((k : Int) < 32) = false := by simp; omega
      have hI' : Blk wr (w.heap.size + 1) 40 (cA (inB b)) := by
        rwa [cA_ext (g := inB b) (fun i hi => by have : i < k := by omega
                                                 unfold upto; simp [this])] at hI
      clear hI h3
      obtain ⟨d0, d1, d2, d3, d4, -⟩ := hB.five
      have hlt1 := hB.lt
      go_upto_region 11 with fail
      go_cut [9] (fun s9 wd => ∃ g : Nat, s9 = .pointer (some ⟨g, 0, none⟩) ∧ w.heap.size + 2 < g ∧ Blk wd g 28 #[.int .i64 b.n, .int .u32 (bi b.s), .int .u32 (bi b.j), .int .u32 (bi b.l), .int .u32 (bi b.f)] ∧ Blk wd w.heap.size 28 #[.int .i64 b.n, .int .u32 (bi b.s), .int .u32 (bi b.j), .int .u32 (bi b.l), .int .u32 (bi b.f)] ∧ Blk wd (w.heap.size + 1) 40 (cA (inB b)) ∧ Below w.heap.size w wd)
      case first => -- DONE
        have hlt2 := hO.lt
        go_wp2_with fail
        go_meet
        exact ⟨wr.heap.size, rfl, hlt2, Blk.new wr 28 _, hB.alloc _, hI'.alloc _, below_alloc hbr _⟩
      case rest =>
      obtain ⟨g9, rfl, hg9, hW, hB1, hI1, hb1⟩ := hcut
      clear hB hI' hbr hO d0 d1 d2 d3 d4 hlt1 hlt
      go_upto_region 12 with fail
      go_cut [87, 88, 89] (fun s1 s2 s3 we => ∃ m' : Nat, s1 = .slice A m' c ∧ s2 = .int .i64 m' ∧ s3 = .int .i64 0 ∧ m' ≤ m ∧ m' ≤ 60 ∧ wc = we)
      case first => -- DONE
        go_wp2_with fail
        all_goals go_meet
        · exact ⟨60, rfl, rfl, rfl, by omega, by omega, rfl⟩
        · exact ⟨m, rfl, rfl, rfl, by omega, by omega, rfl⟩
      case rest =>
      obtain ⟨m', rfl, rfl, rfl, hmm, hm60, rfl⟩ := hcut
      have hlm := hl.take hmm
      generalize la.take m' = ll at hlm
      clear hl hc hm hmm
      have hrun0 : Run w wc b b g9 := ⟨hB1, hI1, hW, hb1, hg9⟩
      clear hB1 hI1 hW hb1
      go_wp2_with fail
      go_loopg [89] (m' + 1) (fun g i wr => ∃ k : Nat, g + k = m' + 1 ∧ k ≤ m' ∧ i = .int .i64 k ∧ Run w wr b (curB b (ll.take k)) g9)
      case atStart => -- DONE
        exact ⟨0, by omega, by omega, rfl, hrun0⟩
      case round =>
      obtain ⟨k, hg, hk, rfl, hrun⟩ := hrel
      obtain ⟨hRu, hnu, hsu⟩ := curB_keep b hR (ll.take k)
      obtain ⟨u, hu⟩ : ∃ u, curB b (ll.take k) = u := ⟨_, rfl⟩
      rw [hu] at hrun hRu hnu hsu
      have HU := Lib.hid hu
      clear hu
      by_cases hlt : k < m'
      · exact nodes_round hR hbn hg9 hm60 hlm (by assumption) (by assumption) hg hk hsu hnu hRu hrun HU hlt
      · have hkm0 : True := trivial
        have hlt' : decide (k < m') = false := by simp; omega
        clear hkm0 HU hlm hlt hrun0
        obtain ⟨d0, d1, d2, d3, d4, -⟩ := hrun.1.five
        have hlt1 := hrun.1.lt
        have hchg := changed_end u hRu
        have hend := fun i hi => end_in u hRu i hi
        obtain ⟨v', is, hst⟩ : ∃ v' is, endB u = (v', is) := ⟨_, _, rfl⟩
        rw [hst] at hchg hend
        dsimp only at hchg hend
        have hst' : stepB u ⟨4, 99⟩ = (v', is, 0) := by
          unfold stepB
          dsimp only
          rw [hst]
          rfl
        have hfin : (is = true → v'.n = b.n + 1) ∧ (is = false → v' = u) := by
          unfold endB at hst
          split at hst
          · simp only [Prod.mk.injEq] at hst
            obtain ⟨rfl, rfl⟩ := hst
            exact ⟨(fun h => by cases h), fun _ => rfl⟩
          · simp only [Prod.mk.injEq] at hst
            obtain ⟨rfl, rfl⟩ := hst
            refine ⟨fun _ => ?_, (fun h => by cases h)⟩
            dsimp only
            rw [hnu]
            unfold incV
            rw [if_pos (by omega)]
            have := hR.1
            unfold wrap64
            omega
        have HST := Lib.hid hst'
        have HC := Lib.hid hchg
        have HE := Lib.hid hend
        have HF := Lib.hid hfin
        have HSU := Lib.hid hsu
        clear hst hst' hchg hend hfin hsu hnu
        go_upto_region 26 with fail
        exact nodes_tail hR hbn hg9 hRu hrun d0 d1 d2 d3 d4 hlt1 HST HC HE HF HSU _ (by assumption)
end Go.Proofs.Ytdpjgnefjickkaa
