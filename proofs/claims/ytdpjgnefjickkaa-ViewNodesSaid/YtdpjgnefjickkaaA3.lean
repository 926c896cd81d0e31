/- What 'installed' returns, at every right view and up to 1000 events: the views that are installed, one behind the other, and true. -/
import Derived.Test.YtdpjgnefjickkaaA2
import Derived.Test.YtdpjgnefjickkaaB2
import Derived.Deep.DeepMust
namespace Go.Proofs.Ytdpjgnefjickkaa
open Go.RowKit
set_option maxRecDepth 100000
set_option maxHeartbeats 800000

theorem step_Bat (b : B) (hR : b.R) (x : E) (h : x.ok) (b' : B) (is : Bool) (e' : Int) (hs : stepB b x = (b', is, e')) (w : World) :
    Calls Try.prog 12 #[.agg #[.int .i64 b.n, .int .u32 (bi b.s), .int .u32 (bi b.j), .int .u32 (bi b.l), .int .u32 (bi b.f)], .int .u8 x.what, .int .u8 x.node] w fun e w' => e = .returned (.tuple #[.agg #[.int .i64 b'.n, .int .u32 (bi b'.s), .int .u32 (bi b'.j), .int .u32 (bi b'.l), .int .u32 (bi b'.f)], .bool is, .int .i64 e']) ∧ Below w.heap.size w w' := by
  refine step_at b.v x.what x.node h b'.v is e' ?_ w
  rw [step_B b hR, hs]
theorem right_Bat (b : B) (hR : b.R) (w : World) :
    Calls Try.prog 11 #[.agg #[.int .i64 b.n, .int .u32 (bi b.s), .int .u32 (bi b.j), .int .u32 (bi b.l), .int .u32 (bi b.f)]] w fun e w' => e = .returned (.bool true) ∧ w.alloc (.cells #[.int .i64 b.n, .int .u32 (bi b.s), .int .u32 (bi b.j), .int .u32 (bi b.l), .int .u32 (bi b.f)] 28) = w' :=
  right_yes b.v ((right_B b).2 hR) w
def cB (b : B) : List Value := [.int .i64 b.n, .int .u32 (bi b.s), .int .u32 (bi b.j), .int .u32 (bi b.l), .int .u32 (bi b.f)]
def csB (l : List B) : List Value := l.flatMap cB
theorem Try.info28 : (Try.prog.info? 28).map (fun i => (i.zero, i.size, i.bytes)) = some (some (.agg #[(.int .i64 0), (.int .u32 0), (.int .u32 0), (.int .u32 0), (.int .u32 0)]), 5, 24) := by kernel_rfl

theorem installed_calls (b : B) (hR : b.R) (A : Option Addr) (n c : Nat) (l : List E) (w : World) (hl : RdE w A n l) (hb1000 : n ≤ 1000) :
    Calls Try.prog 6 #[.agg #[.int .i64 b.n, .int .u32 (bi b.s), .int .u32 (bi b.j), .int .u32 (bi b.l), .int .u32 (bi b.f)], .slice A n c] w fun e w' => ∃ o : Value, e = .returned (.tuple #[o, .bool true]) ∧ w'.ownsRow w.heap.size 28 5 o (insB b l).length (csB (insB b l)) ∧ Below w.heap.size w w' := by
  obtain ⟨i0, hi, hz0, hz1, hz2⟩ := info_parts Try.info28
  go_enter Try.func6, Try.ntmps6
  go_wp2
  go_loopw [6, 14] (fun o i wr => ∃ k : Nat, k ≤ n ∧ i = .int .i64 k ∧ wr.ownsRow (w.heap.size + 1) 28 5 o (insB b (l.take k)).length (csB (insB b (l.take k))) ∧ Blk wr w.heap.size 28 #[.int .i64 (runB b (l.take k)).n, .int .u32 (bi (runB b (l.take k)).s), .int .u32 (bi (runB b (l.take k)).j), .int .u32 (bi (runB b (l.take k)).l), .int .u32 (bi (runB b (l.take k)).f)] ∧ Below w.heap.size w wr) (fun _ i _ => n - (intOf i).toNat)
  case atStart =>
    exact ⟨0, by omega, rfl, own_nil .., Blk.new w 28 _, (Below.refl _ _).alloc (Nat.le_refl _) _⟩
  case round =>
    obtain ⟨k, hk, rfl, hown, hB, hbl⟩ := hrel
    obtain ⟨u, hu⟩ : ∃ u, runB b (l.take k) = u := ⟨_, rfl⟩
    have hRu : u.R := hu ▸ runB_R _ b hR
    obtain ⟨is, his⟩ : ∃ is, insB b (l.take k) = is := ⟨_, rfl⟩
    have hisl : is.length ≤ k := by
      have := insB_length (l.take k) b
      rw [his, List.length_take] at this
      omega
    rw [hu] at hB
    rw [his] at hown
    have HU := Lib.hid hu
    have HIS := Lib.hid his
    clear hu his
    by_cases hlt : k < n
    · obtain ⟨ad, hA, had, hcell⟩ := (hl.below (Nat.le_refl _) hbl).2.2.2 (by omega)
      subst hA
      obtain ⟨x, hx⟩ : ∃ x, atE l k = x := ⟨_, rfl⟩
      have hxo : x.ok := hx ▸ atE_ok hl.2.2.1 (by rw [hl.1]; exact hlt)
      obtain ⟨c0, c1⟩ := hcell k hlt
      rw [hx] at c0 c1
      obtain ⟨u', b', e', hst⟩ : ∃ u' b' e', stepB u x = (u', b', e') := ⟨_, _, _, rfl⟩
      have hRu' : u'.R := by have := step_R u hRu x; rw [hst] at this; exact this
      have e1 : runB b (l.take (k + 1)) = u' := by
        rw [take_snoc l k (by rw [hl.1]; exact hlt), runB_append, HU.out, hx]
        show (stepB u x).1 = u'
        rw [hst]
      have e2 : insB b (l.take (k + 1)) = is ++ (if b' then [u'] else []) := by
        rw [take_snoc l k (by rw [hl.1]; exact hlt), insB_append, HU.out, hx, HIS.out]
        show is ++ (if (stepB u x).2.1 then (stepB u x).1 :: [] else []) = _
        rw [hst]
      have E1 := Lib.hid e1
      have E2 := Lib.hid e2
      have HST := Lib.hid hst
      clear hst hx hcell had e1 e2
      obtain ⟨d0, d1, d2, d3, d4, -⟩ := hB.five
      have hlt1 := hB.lt
      have hse := step_e u x
      have hsn := step_n u x
      rw [HST.out] at hse hsn
      dsimp only at hse hsn
      by_cases he0 : e' = 0
      · subst he0
        clear hse
        cases b' with
        | false =>
          have hn1 : (u'.n != u.n) = false := by rw [hsn rfl]; simp
          clear hsn
          go_wp2_with (first | (go_at_call 12; refine (step_Bat _ hRu x hxo _ _ _ HST.out _).mono ?_; rintro e w1 ⟨rfl, hb⟩; have hB1 := (hB.alloc _).below hb (by simp; omega); have hlt2 := hB1.lt; obtain ⟨p0, p1, p2, p3, p4, q0, q1, q2, q3, q4⟩ := hB1.five) | (go_at_call 11; refine (right_Bat _ hRu' _).mono ?_; rintro e w2 ⟨rfl, rfl⟩))
          go_roundw
          case rel =>
            refine ⟨k + 1, by omega, by go_num, ?_, ?_, ?_⟩
            · rw [E2.out]
              simp only [Bool.false_eq_true, if_false, List.append_nil]
              exact own_alloc (own_alloc (own_put5 (own_below (own_alloc hown _) hb (Nat.le_refl _)) (by omega) ..) _) _
            · rw [E1.out]
              exact ((hB1.put5 ..).alloc _).alloc _
            · exact below_alloc (below_alloc (below_put5 ((hbl.alloc hbl.size _).trans (hb.mono (by have := hbl.size; simp; omega))) (Nat.le_refl _) ..) _) _
          case measure => simp [intOf]; omega
        | true =>
          clear hsn
          go_wp2_with (first | (go_at_call 12; refine (step_Bat _ hRu x hxo _ _ _ HST.out _).mono ?_; rintro e w1 ⟨rfl, hb⟩; have hB1 := (hB.alloc _).below hb (by simp; omega); have hlt2 := hB1.lt; obtain ⟨p0, p1, p2, p3, p4, q0, q1, q2, q3, q4⟩ := hB1.five) | (go_at_call 11; refine (right_Bat _ hRu' _).mono ?_; rintro e w2 ⟨rfl, rfl⟩) | (at_builtin; go_must (refine wpList_append_own _ rfl _ _ 24 rfl (w.heap.size + 1) 28 i0 _ 5 24 Try.underlying24 hi hz0 hz1 hz2 rfl (by decide) _ _ _ rfl (own_alloc (own_alloc (own_alloc (own_put5 (own_below (own_alloc hown _) hb (Nat.le_refl _)) (by omega) _ _ _ _ _) _) _) _) _ _ _ (cB u') rfl rfl ?c1 ?c2 ?c3 ?c4 ?c5 ?_); rotate_left 5; intro v2 w2 hown2 hgrow _))
          case c1 => exact fun j z h => news_cells _ _ _ _ (by simp) j z h
          case c2 => simp [cB, Value.oneCell']
          case c3 => simp only [maxLen]; omega
          case c4 => omega
          case c5 => have := hB1.lt; simp; omega
          go_roundw
          case rel =>
            have hBs := (((hB1.put5 (.int .i64 u'.n) (.int .u32 (bi u'.s)) (.int .u32 (bi u'.j)) (.int .u32 (bi u'.l)) (.int .u32 (bi u'.f))).alloc (.cells #[.int .i64 u'.n, .int .u32 (bi u'.s), .int .u32 (bi u'.j), .int .u32 (bi u'.l), .int .u32 (bi u'.f)] 28)).alloc (.cells #[.int .i64 u'.n, .int .u32 (bi u'.s), .int .u32 (bi u'.j), .int .u32 (bi u'.l), .int .u32 (bi u'.f)] 28)).alloc (.cells #[.int .i64 u'.n, .int .u32 (bi u'.s), .int .u32 (bi u'.j), .int .u32 (bi u'.l), .int .u32 (bi u'.f)] 28)
            refine ⟨k + 1, by omega, by go_num, ?_, ?_, ?_⟩
            · rw [E2.out]
              simp only [if_true, List.length_append, csB, List.flatMap_append]
              exact hown2
            · rw [E1.out]
              exact hBs.grown hgrow (own_ne hown (by omega))
            · exact Below.grown (below_alloc (below_alloc (below_alloc (below_put5 ((hbl.alloc hbl.size _).trans (hb.mono (by have := hbl.size; simp; omega))) (Nat.le_refl _) ..) _) _) _) hgrow (by have := hbl.size; have := hB1.lt; simp; omega) (fun j hj => by have := own_base hown j hj; omega)
          case measure => simp [intOf]; omega
      · have he1 : (e' != 0) = true := by simpa using he0
        obtain ⟨rfl, rfl⟩ := hse he0
        clear hse hsn he0
        go_wp2_with (first | (go_at_call 12; refine (step_Bat _ hRu x hxo _ _ _ HST.out _).mono ?_; rintro e w1 ⟨rfl, hb⟩; have hB1 := (hB.alloc _).below hb (by simp; omega); have hlt2 := hB1.lt; obtain ⟨p0, p1, p2, p3, p4, q0, q1, q2, q3, q4⟩ := hB1.five) | (go_at_call 11; refine (right_Bat _ hRu' _).mono ?_; rintro e w2 ⟨rfl, rfl⟩))
        go_roundw
        case rel =>
          refine ⟨k + 1, by omega, by go_num, ?_, ?_, ?_⟩
          · rw [E2.out]
            simp only [Bool.false_eq_true, if_false, List.append_nil]
            exact own_alloc (own_alloc (own_put5 (own_below (own_alloc hown _) hb (Nat.le_refl _)) (by omega) ..) _) _
          · rw [E1.out]
            exact ((hB1.put5 ..).alloc _).alloc _
          · exact below_alloc (below_alloc (below_put5 ((hbl.alloc hbl.size _).trans (hb.mono (by have := hbl.size; simp; omega))) (Nat.le_refl _) ..) _) _
        case measure => simp [intOf]; omega
    · have hkn : k = n := by omega
      have hfin : insB b l = is := by
        have h := HIS.out
        rw [hkn, ← hl.1, List.take_length] at h
        exact h
      have HF := Lib.hid hfin
      clear hfin hkn
      go_wp2
      go_ret2
      rw [HF.out]
      exact ⟨_, rfl, ⟨hown.1, hown.2.imp id fun ⟨g, cap, cur, h1, h2, h3⟩ => ⟨g, cap, cur, h1, by omega, h3⟩⟩, hbl⟩
end Go.Proofs.Ytdpjgnefjickkaa
