/- What 'stepped' returns, at every view and every events: no conditions. -/
import Derived.Test.YtdpjgnefjickkaaA1
import Derived.Deep.Draws
import Derived.Laws.OwnMore
import Derived.Deep.LoopGhost
import Derived.Lib.Hide
namespace Go.Proofs.Ytdpjgnefjickkaa
open Go.RowKit
set_option maxRecDepth 100000

/-- A slice of events that reads as the list l. -/
def RdE (w : World) (A : Option Addr) (n : Nat) (l : List E) : Prop :=
  l.length = n ∧ n ≤ 9223372036854775807 ∧ (∀ x ∈ l, x.ok) ∧ (0 < n → ∃ ad, A = some ad ∧ ad.block < w.heap.size ∧ ∀ i, i < n → w.cell? (ad.add (i * 2)) = some (.int .u8 (atE l i).what) ∧ w.cell? ⟨(ad.add (i * 2)).block, (ad.add (i * 2)).off + 1, none⟩ = some (.int .u8 (atE l i).node))
theorem RdE.below {w w1 : World} {A : Option Addr} {n : Nat} {l : List E} (h : RdE w A n l) {B : Nat} (hB : w.heap.size ≤ B) (hb : Below B w w1) : RdE w1 A n l :=
  ⟨h.1, h.2.1, h.2.2.1, fun hn => by
    obtain ⟨ad, e, hlt, hc⟩ := h.2.2.2 hn
    refine ⟨ad, e, by have := hb.size; omega, fun i hi => ⟨(hb.cell (by rw [block_of_add]; omega)).trans (hc i hi).1, (hb.cell (by show (ad.add (i * 2)).block < B; rw [block_of_add]; omega)).trans (hc i hi).2⟩⟩⟩

theorem step_at (v : V) (what node : Int) (h : E.ok ⟨what, node⟩) (v' : V) (b : Bool) (e' : Int) (hs : stepV v what node = (v', b, e')) (w : World) :
    Calls Try.prog 12 #[.agg #[.int .i64 v.n, .int .u32 v.s, .int .u32 v.j, .int .u32 v.l, .int .u32 v.f], .int .u8 what, .int .u8 node] w fun e w' => e = .returned (.tuple #[.agg #[.int .i64 v'.n, .int .u32 v'.s, .int .u32 v'.j, .int .u32 v'.l, .int .u32 v'.f], .bool b, .int .i64 e']) ∧ Below w.heap.size w w' := by
  have := step_calls v what node h.1 h.2.2.1 h.2.2.2 w
  rw [hs] at this
  exact this
theorem stepped_calls (v : V) (A : Option Addr) (n c : Nat) (l : List E) (w : World) (hl : RdE w A n l) :
    Calls Try.prog 10 #[.agg #[.int .i64 v.n, .int .u32 v.s, .int .u32 v.j, .int .u32 v.l, .int .u32 v.f], .slice A n c] w fun e w' => e = .returned (.tuple #[.agg #[.int .i64 (runV v false l).1.n, .int .u32 (runV v false l).1.s, .int .u32 (runV v false l).1.j, .int .u32 (runV v false l).1.l, .int .u32 (runV v false l).1.f], .bool (runV v false l).2]) ∧ Below w.heap.size w w' := by
  have hn := hl.2.1
  go_enter Try.func10, Try.ntmps10
  go_wp2
  go_loopw [6, 11] (fun is i wr => ∃ k : Nat, k ≤ n ∧ i = .int .i64 k ∧ is = .bool (runV v false (l.take k)).2 ∧ Blk wr w.heap.size 28 #[.int .i64 (runV v false (l.take k)).1.n, .int .u32 (runV v false (l.take k)).1.s, .int .u32 (runV v false (l.take k)).1.j, .int .u32 (runV v false (l.take k)).1.l, .int .u32 (runV v false (l.take k)).1.f] ∧ Blk wr (w.heap.size + 1) 28 #[.int .i64 0, .int .u32 0, .int .u32 0, .int .u32 0, .int .u32 0] ∧ Below w.heap.size w wr) (fun _ i _ => n - (intOf i).toNat)
  case atStart =>
    exact ⟨0, by omega, rfl, rfl, (Blk.new w 28 _).alloc _, by have := Blk.new (w.alloc (.cells #[.int .i64 v.n, .int .u32 v.s, .int .u32 v.j, .int .u32 v.l, .int .u32 v.f] 28)) 28 #[.int .i64 0, .int .u32 0, .int .u32 0, .int .u32 0, .int .u32 0]; rwa [World.size_alloc] at this, blw2 ..⟩
  case round =>
    obtain ⟨k, hk, rfl, rfl, hB, hR, hbl⟩ := hrel
    obtain ⟨u, b, hub⟩ : ∃ u b, runV v false (l.take k) = (u, b) := ⟨_, _, rfl⟩
    rw [hub] at hB
    rw [hub]
    have HUB := Lib.hid hub
    clear hub
    by_cases hlt : k < n
    · obtain ⟨ad, hA, had, hcell⟩ := (hl.below (Nat.le_refl _) hbl).2.2.2 (by omega)
      subst hA
      obtain ⟨x, hx⟩ : ∃ x, atE l k = x := ⟨_, rfl⟩
      have hxo : x.ok := hx ▸ atE_ok hl.2.2.1 (by rw [hl.1]; exact hlt)
      obtain ⟨c0, c1⟩ := hcell k hlt
      rw [hx] at c0 c1
      obtain ⟨u', b', e', hst⟩ : ∃ u' b' e', stepV u x.what x.node = (u', b', e') := ⟨_, _, _, rfl⟩
      have HST := Lib.hid hst
      have HX := Lib.hid hx
      clear hst hx hcell had
      obtain ⟨d0, d1, d2, d3, d4, -⟩ := hB.five
      have hlt1 := hB.lt
      go_wp2_with (go_at_call 12; refine (step_at u x.what x.node hxo u' b' e' HST.out _).mono ?_; rintro e w1 ⟨rfl, hb⟩; have hB1 := (hB.alloc _).below hb (by simp; omega); obtain ⟨p0, p1, p2, p3, p4, q0, q1, q2, q3, q4⟩ := hB1.five)
      go_roundw
      case rel =>
        have hk1 : runV v false (l.take (k + 1)) = (u', b') := by
          rw [take_snoc l k (by rw [hl.1]; exact hlt), runV_append, HUB.out, HX.out]
          show ((stepV u x.what x.node).1, (stepV u x.what x.node).2.1) = _
          rw [HST.out]
        refine ⟨k + 1, by omega, by go_num, by rw [hk1], ?_, ?_, ?_⟩
        · rw [hk1]; exact hB1.put5 ..
        · exact ((hR.alloc _).below hb (by have := hR.lt; simp; omega)).far5 (by omega) ..
        · exact below_put5 ((hbl.alloc hbl.size _).trans (hb.mono (by have := hbl.size; simp; omega))) (Nat.le_refl _) ..
      case measure => simp [intOf]; omega
    · have hkn : k = n := by omega
      obtain ⟨d0, d1, d2, d3, d4, -⟩ := hB.five
      obtain ⟨p0, p1, p2, p3, p4, q0, q1, q2, q3, q4⟩ := hR.five
      go_wp2
      have hfin : runV v false l = (u, b) := by
        have h := HUB.out
        rw [hkn, ← hl.1, List.take_length] at h
        exact h
      refine bodyPost_ret (v := .tuple #[.agg #[.int .i64 u.n, .int .u32 u.s, .int .u32 u.j, .int .u32 u.l, .int .u32 u.f], .bool b]) (by simp [results, Try.results10, go_sem, p0, p1, p2, p3, p4]) rfl ⟨by rw [hfin], ?_⟩
      exact below_put5 hbl (by omega) ..
end Go.Proofs.Ytdpjgnefjickkaa
