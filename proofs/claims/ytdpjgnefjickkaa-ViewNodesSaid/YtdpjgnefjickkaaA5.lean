/- ViewSame returns true, at every set, every events, every cut. -/
import Derived.Test.YtdpjgnefjickkaaA3
import Derived.Test.YtdpjgnefjickkaaA4
import Derived.WalkLawsBesides
import Derived.WalkSpells
import Derived.Deep.DeepCutAuto
import Derived.Deep.RegionWith
import Derived.Deep.QuietTactic
import Derived.BigQuiet
import Derived.Deep.RegionHeld3
import Derived.WalkSmall
namespace Go.Proofs.Ytdpjgnefjickkaa
open Go.RowKit
set_option linter.unusedVariables false
set_option maxRecDepth 100000
set_option maxHeartbeats 800000

theorem add_plain (g j : Nat) : (⟨g, 0, none⟩ : Addr).add j = ⟨g, j, none⟩ := by unfold Addr.add; split <;> simp_all
/-- A slice of views that reads as the list l. -/
def RdB (w : World) (A : Option Addr) (n : Nat) (l : List B) : Prop :=
  l.length = n ∧ (0 < n → ∃ ad, A = some ad ∧ ad.block < w.heap.size ∧ ∀ i, i < n →
    w.cell? (ad.add (i * 5)) = some (.int .i64 (atB l i).n) ∧ w.cell? ⟨(ad.add (i * 5)).block, (ad.add (i * 5)).off + 1, none⟩ = some (.int .u32 (bi (atB l i).s)) ∧
    w.cell? ⟨(ad.add (i * 5)).block, (ad.add (i * 5)).off + 2, none⟩ = some (.int .u32 (bi (atB l i).j)) ∧ w.cell? ⟨(ad.add (i * 5)).block, (ad.add (i * 5)).off + 3, none⟩ = some (.int .u32 (bi (atB l i).l)) ∧
    w.cell? ⟨(ad.add (i * 5)).block, (ad.add (i * 5)).off + 4, none⟩ = some (.int .u32 (bi (atB l i).f)))
theorem RdB.below {w w1 : World} {A : Option Addr} {n : Nat} {l : List B} (h : RdB w A n l) {K : Nat} (hB : w.heap.size ≤ K) (hb : Below K w w1) : RdB w1 A n l :=
  ⟨h.1, fun hn => by
    obtain ⟨ad, e, hlt, hc⟩ := h.2 hn
    have g : ∀ (i j : Nat), w1.cell? ⟨(ad.add (i * 5)).block, j, none⟩ = w.cell? ⟨(ad.add (i * 5)).block, j, none⟩ := fun i j => hb.cell (by show (ad.add (i * 5)).block < K; rw [block_of_add]; omega)
    have g0 : ∀ (i : Nat), w1.cell? (ad.add (i * 5)) = w.cell? (ad.add (i * 5)) := fun i => hb.cell (by rw [block_of_add]; omega)
    refine ⟨ad, e, by have := hb.size; omega, fun i hi => ?_⟩
    rw [g0, g, g, g, g]
    exact hc i hi⟩
theorem csB_at (l : List B) : ∀ i, i < l.length → (csB l)[i * 5]? = some (.int .i64 (atB l i).n) ∧ (csB l)[i * 5 + 1]? = some (.int .u32 (bi (atB l i).s)) ∧ (csB l)[i * 5 + 2]? = some (.int .u32 (bi (atB l i).j)) ∧ (csB l)[i * 5 + 3]? = some (.int .u32 (bi (atB l i).l)) ∧ (csB l)[i * 5 + 4]? = some (.int .u32 (bi (atB l i).f)) := by
  induction l with
  | nil => intro i h; simp at h
  | cons x r ih =>
    intro i hi
    cases i with
    | zero => exact ⟨rfl, rfl, rfl, rfl, rfl⟩
    | succ i =>
      have e : csB (x :: r) = cB x ++ csB r := rfl
      have hk : ∀ k, (csB (x :: r))[(i + 1) * 5 + k]? = (csB r)[i * 5 + k]? := fun k => by
        rw [e, List.getElem?_append_right (by show 5 ≤ _; omega)]
        congr 1
        show (i + 1) * 5 + k - 5 = _
        omega
      have := ih i (by simpa using hi)
      have h0 := hk 0
      simp only [Nat.add_zero] at h0
      rw [h0, hk, hk, hk, hk]
      exact this
theorem RdB_of_own {w : World} {base n : Nat} {v : Value} {l : List B} (h : w.ownsRow base 28 5 v n (csB l)) (hn : l.length = n) : ∃ A c, v = .slice A n c ∧ RdB w A n l := by
  rcases h.2 with ⟨rfl, rfl⟩ | ⟨g, cap, cur, rfl, hb, hh, h1, h2, h3, h4⟩
  · exact ⟨none, 0, rfl, hn, fun h => absurd h (by omega)⟩
  · refine ⟨_, cap, rfl, hn, fun _ => ⟨_, rfl, (Array.getElem?_eq_some_iff.1 hh).1, fun i hi => ?_⟩⟩
    have hc : ∀ j u, (csB l)[j]? = some u → w.cell? ⟨g, j, none⟩ = some u := fun j u hj => by
      have hj' : (cur.toList.take (n * 5))[j]? = some u := by rw [h4]; exact hj
      have hjl : j < n * 5 := by
        rcases Nat.lt_or_ge j (n * 5) with hlt | hge
        · exact hlt
        · rw [List.getElem?_eq_none (by rw [List.length_take]; omega)] at hj'; cases hj'
      rw [List.getElem?_take_of_lt hjl] at hj'
      simpa [World.cell?, hh] using hj'
    obtain ⟨a0, a1, a2, a3, a4⟩ := csB_at l i (by omega)
    simp only [add_plain]
    exact ⟨hc _ _ a0, hc _ _ a1, hc _ _ a2, hc _ _ a3, hc _ _ a4⟩
theorem installed_at (b : B) (hR : b.R) (A : Option Addr) (n c : Nat) (l : List E) (w : World) (hl : RdE w A n l) (hb1000 : n ≤ 1000) :
    Calls Try.prog 6 #[.agg #[.int .i64 b.n, .int .u32 (bi b.s), .int .u32 (bi b.j), .int .u32 (bi b.l), .int .u32 (bi b.f)], .slice A n c] w fun e w' => ∃ (A1 : Option Addr) (c1 : Nat), e = .returned (.tuple #[.slice A1 (insB b l).length c1, .bool true]) ∧ RdB w' A1 (insB b l).length (insB b l) ∧ Below w.heap.size w w' :=
  (installed_calls b hR A n c l w hl hb1000).mono fun e w' ⟨o, h1, h2, h3⟩ => by
    obtain ⟨A1, c1, rfl, hr⟩ := RdB_of_own h2 rfl
    exact ⟨A1, c1, h1, hr, h3⟩
theorem RdE.take {w : World} {A : Option Addr} {n : Nat} {l : List E} (h : RdE w A n l) {m : Nat} (hm : m ≤ n) : RdE w A m (l.take m) :=
  ⟨by rw [List.length_take, h.1]; omega, by have := h.2.1; omega, fun x hx => h.2.2.1 x (List.mem_of_mem_take hx), fun h0 => by
    obtain ⟨ad, e, hlt, hc⟩ := h.2.2.2 (by omega)
    refine ⟨ad, e, hlt, fun i hi => ?_⟩
    have ea : atE (l.take m) i = atE l i := by
      unfold atE
      rw [List.getD_eq_getElem?_getD, List.getD_eq_getElem?_getD, List.getElem?_take_of_lt hi]
    rw [ea]
    exact hc i (by omega)⟩
def setB (s : BitVec 32) : B := ⟨0, s, 0, 0, 0⟩
theorem setB_R (s : BitVec 32) : (setB s).R := ⟨Int.le_refl 0, by simp [setB], by simp [setB]⟩
theorem first_B (s : BitVec 32) (w : World) :
    Calls Try.prog 7 #[.int .u32 (bi s)] w fun e w' => e = .returned (.agg #[.int .i64 (setB s).n, .int .u32 (bi (setB s).s), .int .u32 (bi (setB s).j), .int .u32 (bi (setB s).l), .int .u32 (bi (setB s).f)]) ∧ w.alloc (.cells #[.int .i64 0, .int .u32 (bi s), .int .u32 0, .int .u32 0, .int .u32 0] 28) = w' := first_calls (bi s) w

theorem same_calls (s : BitVec 32) (A : Option Addr) (n c : Nat) (l : List E) (cut : Int) (h0 : 0 ≤ cut) (h1 : cut ≤ 255) (w : World) (hl : RdE w A n l) (hc : n ≤ c) (hm : c ≤ maxLen) :
    Calls Try.prog 3 #[.int .u32 (bi s), .slice A n c, .int .u8 cut] w fun e w' => e = .returned (.bool true) ∧ Below w.heap.size w w' := by
  unfold maxLen at hm
  go_enter Try.func3, Try.ntmps3
  go_upto_region 1 with fail
  go_cut [1] (fun s1 wc => ∃ m : Nat, s1 = .slice A m c ∧ m ≤ n ∧ m ≤ 200 ∧ w = wc)
  case first =>
    go_wp2_with fail
    all_goals go_meet
    · exact ⟨200, rfl, by omega, by omega, rfl⟩
    · exact ⟨n, rfl, by omega, by omega, rfl⟩
  case rest =>
    obtain ⟨m, rfl, hmn, hm2, rfl⟩ := hcut
    have hlm := hl.take hmn
    generalize l.take m = l' at hlm
    clear hl
    have hcm : m ≤ c := by omega
    clear hc hmn
    go_upto_region 2 with fail
    go_cut [7] (fun s7 wc => ∃ k : Nat, s7 = .int .i64 k ∧ k ≤ m ∧ w = wc)
    case first =>
      have g1 : 0 ≤ cut % ((m : Int) + 1) := Int.emod_nonneg _ (by omega)
      have g2 : cut % ((m : Int) + 1) < (m : Int) + 1 := Int.emod_lt_of_pos _ (by omega)
      go_wp2_with fail
      go_meet
      exact ⟨(cut % ((m : Int) + 1)).toNat, by rw [Int.toNat_of_nonneg g1], by omega, rfl⟩
    case rest =>
      obtain ⟨k, rfl, hk, rfl⟩ := hcut
      go_upto_region 4 with (first | (go_at_call 7; refine (first_B s _).mono ?_; rintro e w1 ⟨rfl, rfl⟩) | (go_at_call 6; refine (installed_at _ (setB_R s) _ _ _ l' _ (hlm.below (Nat.le_refl _) ((Below.refl _ _).alloc (Nat.le_refl _) _)) (by omega)).mono ?_; rintro e w1 ⟨A1, c1, rfl, hr1, hb1⟩))
      have hbl : Below w.heap.size w w1 := ((Below.refl _ _).alloc (Nat.le_refl _) _).trans (hb1.mono (by simp))
      have hlm1 := hlm.below (Nat.le_refl _) hbl
      have hlm1_len := hlm.1
      have hlk := hlm1.take hk
      clear hlm hb1
      have hin : ∀ W, Below w1.heap.size w1 W → Calls Try.prog 6 #[.agg #[.int .i64 (setB s).n, .int .u32 (bi (setB s).s), .int .u32 (bi (setB s).j), .int .u32 (bi (setB s).l), .int .u32 (bi (setB s).f)], .slice A k c] W fun e w' => ∃ (A1 : Option Addr) (c1 : Nat), e = .returned (.tuple #[.slice A1 (insB (setB s) (l'.take k)).length c1, .bool true]) ∧ RdB w' A1 (insB (setB s) (l'.take k)).length (insB (setB s) (l'.take k)) ∧ Below W.heap.size W w' :=
        fun W hW => installed_at _ (setB_R s) _ _ _ _ _ (hlk.below (Nat.le_refl _) hW) (by omega)
      have HIN := Lib.hid hin
      clear hin
      go_cut [10, 11] (fun s10 s11 wc => ∃ (A2 : Option Addr) (c2 : Nat), s10 = .slice A2 (insB (setB s) (l'.take k)).length c2 ∧ s11 = .bool true ∧ RdB wc A2 (insB (setB s) (l'.take k)).length (insB (setB s) (l'.take k)) ∧ Below w1.heap.size w1 wc)
      case first =>
        go_region_with (first | (go_at_call 7; refine (first_B s _).mono ?_; rintro e w2 ⟨rfl, rfl⟩) | (go_at_call 6; refine (HIN.out _ (by exact (Below.refl _ _).drew.alloc (Nat.le_refl _) _)).mono ?_; rintro e w2 ⟨A2, c2, rfl, hr2, hb2⟩))
        all_goals (go_wp2_with fail; go_meet; exact ⟨A2, c2, rfl, rfl, hr2, ((Below.refl _ _).drew.alloc (Nat.le_refl _) _).trans (hb2.mono (by simp))⟩)
      case rest =>
        obtain ⟨A2, c2, rfl, rfl, hr2, hb2⟩ := hcut
        have hr1' := hr1.below (Nat.le_refl _) hb2
        have hbw : Below w.heap.size w wc := hbl.trans (hb2.mono hbl.size)
        clear hr1 hb2 hbl HIN hlk hlm1
        have hgood := good_at (insB (setB s) l') _ _ (insB_good l' (setB s) (setB_R s) (by have := hlm1_len; simp [setB]; omega))
        obtain ⟨rest, hpre⟩ := insB_take (setB s) l' k
        have hlen : (insB (setB s) l').length ≤ 1000 := Nat.le_trans (insB_length l' _) (by omega)
        have hss : (setB s).s = s := rfl
        have hsn : (setB s).n = 0 := rfl
        rw [hss, hsn] at hgood
        clear hss hsn
        generalize insB (setB s) l' = all at *
        generalize insB (setB s) (l'.take k) = some at *
        have hle : some.length ≤ all.length := by rw [hpre, List.length_append]; omega
        have heq : ∀ i, i < some.length → atB some i = atB all i := fun i hi => by
          rw [hpre]
          unfold atB
          rw [List.getD_eq_getElem?_getD, List.getD_eq_getElem?_getD, List.getElem?_append_left hi]
        clear hpre
        have HG := Lib.hid hgood
        have HE := Lib.hid heq
        clear hgood heq
        have hgt : decide ((all.length : Int) < some.length) = false := by simp; omega
        go_wp2_with fail
        go_loopg [57] (all.length + 1) (fun g i wr => ∃ j : Nat, g + j = all.length + 1 ∧ j ≤ all.length ∧ i = .int .i64 j ∧ Below wc.heap.size wc wr)
        case atStart => exact ⟨0, by omega, by omega, rfl, Below.refl _ _⟩
        case round =>
          obtain ⟨j, hg, hj, rfl, hbr⟩ := hrel
          have ha := hr1'.below (Nat.le_refl _) hbr
          have hs := hr2.below (Nat.le_refl _) hbr
          by_cases hlt : j < all.length
          · obtain ⟨ad, hA, had, hca⟩ := ha.2 (by omega)
            subst hA
            obtain ⟨x, hx⟩ : ∃ x, atB all j = x := ⟨_, rfl⟩
            obtain ⟨a0, a1, a2, a3, a4⟩ := hca j hlt
            obtain ⟨q0, q1, q2, q3, q4, q5⟩ := HG.out j hlt
            rw [hx] at a0 a1 a2 a3 a4 q0 q1 q2 q3 q4 q5
            rw [q1] at a2
            rw [q2] at a3
            rw [q3] at a4
            have e0 : bi 0 = 0 := rfl
            rw [e0] at a2 a3 a4
            have hz : (Go.bits .or .u32 (Go.bits .or .u32 0 0) 0 != 0) = false := by kernel_rfl
            have hnn : (x.n != (j : Int) + 1) = false := by rw [q0]; simp
            have hwr : IntKind.i64.wrap ((j : Int) + 1) = (j : Int) + 1 := IntWalk.i64_in _ (by omega)
            have hprev : 0 < j → wr.cell? ⟨(ad.add ((j - 1) * 5)).block, (ad.add ((j - 1) * 5)).off + 1, none⟩ = Option.some (.int .u32 (bi (atB all (j - 1)).s)) := fun h => (hca (j - 1) (by omega)).2.1
            have HP := Lib.hid hprev
            have Q1 := Lib.hid q1
            have Q2 := Lib.hid q2
            have Q3 := Lib.hid q3
            have E0 := Lib.hid e0
            have Q4 := Lib.hid q4
            have Q5 := Lib.hid q5
            have HX := Lib.hid hx
            clear hprev q0 q1 q2 q3 q4 q5 hca e0 hx
            go_upto_region 10 with fail
            go_cut [91] (fun s91 wx => s91 = .bool false ∧ ∃ q, wx = (wr.alloc (.cells #[.int .i64 x.n, .int .u32 (bi x.s), .int .u32 0, .int .u32 0, .int .u32 0] 28)).drewN q)
            case first =>
              by_cases hjs : j < some.length
              · obtain ⟨ad2, hA2, had2, hcs⟩ := hs.2 (by omega)
                subst hA2
                obtain ⟨b0, b1, b2, b3, b4⟩ := hcs j hjs
                rw [HE.out j hjs, HX.out] at b0 b1 b2 b3 b4
                rw [Q1.out] at b2
                rw [Q2.out] at b3
                rw [Q3.out] at b4
                rw [E0.out] at b2 b3 b4
                have hjs1 : decide (j < some.length) = true := by simpa using hjs
                have hjs2 : decide ((j : Int) < some.length) = true := by simp; omega
                have hjs3 : (j : Int) < some.length := by omega
                have hbk : (ad2.add (j * 5)).block < wr.heap.size := by rw [block_of_add]; exact had2
                clear hcs
                go_quiet (fail)
                go_wp2_with fail
                go_meet
                exact ⟨rfl, _, rfl⟩
              · have hjs' : decide ((j : Int) < some.length) = false := by simp; omega
                go_quiet (fail)
                go_wp2_with fail
                go_meet
                exact ⟨rfl, _, rfl⟩
            case rest =>
              obtain ⟨rfl, q, rfl⟩ := hcut
              rcases Nat.lt_or_ge 0 j with h0 | h0
              rotate_left
              · have hne : (bi x.s == bi s) = false := by rw [bi_beq]; simpa using Q4.out (by omega)
                have hnp : decide (0 < j) = false := by simp; omega
                go_wp2_with fail
                go_roundg (all.length - j)
                case measure => omega
                case rel => exact ⟨j + 1, by omega, by omega, by first | rfl | go_num, below_drewN (hbr.trans (((Below.refl _ _).alloc (Nat.le_refl _) _).mono hbr.size)) q⟩
              · obtain ⟨j', rfl⟩ : ∃ j', j = j' + 1 := ⟨j - 1, by omega⟩
                have hp := HP.out h0
                rw [show j' + 1 - 1 = j' from rfl] at hp
                have hne : (bi x.s == bi (atB all j').s) = false := by rw [bi_beq]; simpa using Q5.out h0
                have had' : (ad.add (j' * 5)).block < wr.heap.size := by rw [block_of_add]; exact had
                go_wp2_with fail
                go_roundg (all.length - (j' + 1))
                case measure => omega
                case rel => exact ⟨(j' + 1) + 1, by omega, by omega, by first | rfl | go_num, below_drewN (hbr.trans (((Below.refl _ _).alloc (Nat.le_refl _) _).mono hbr.size)) q⟩
          · have hja : j = all.length := by omega
            have hlt' : decide (j < all.length) = false := by simpa using hlt
            go_wp2_with (go_at_call 8; refine (awake_calls _).mono ?_; rintro e w3 ⟨rfl, hb3⟩)
            go_ret
            exact ⟨rfl, hbw.trans (hbr.mono hbw.size |>.trans (hb3.mono (by have := hbw.size; have := hbr.size; omega)))⟩
end Go.Proofs.Ytdpjgnefjickkaa
