/- The chapter's examples hold: 'awake' returns true, in whatever memory. -/
import Derived.Test.YtdpjgnefjickkaaA2
import Derived.Deep.DeepMust
namespace Go.Proofs.Ytdpjgnefjickkaa
open Go.RowKit
set_option maxRecDepth 100000
set_option maxHeartbeats 800000

def evs (l : List E) : List Value := l.flatMap fun x => [.int .u8 x.what, .int .u8 x.node]
theorem evs_at (l : List E) : ∀ i, i < l.length → (evs l)[i * 2]? = some (.int .u8 (atE l i).what) ∧ (evs l)[i * 2 + 1]? = some (.int .u8 (atE l i).node) := by
  induction l with
  | nil => intro i h; simp at h
  | cons x r ih =>
    intro i hi
    cases i with
    | zero => exact ⟨rfl, rfl⟩
    | succ i =>
      obtain ⟨h1, h2⟩ := ih i (by simpa using hi)
      have e : evs (x :: r) = .int .u8 x.what :: .int .u8 x.node :: evs r := rfl
      rw [e, show (i + 1) * 2 = i * 2 + 1 + 1 by omega, show i * 2 + 1 + 1 + 1 = i * 2 + 1 + 1 + 1 from rfl]
      exact ⟨h1, h2⟩
/-- A row of events that was just made. -/
theorem RdE_new (W : World) (g : Nat) (hg : g = W.heap.size) (l : List E) (cs : Array Value) (hcs : cs = ⟨evs l⟩) (hn : l.length ≤ 1000) (ho : ∀ x ∈ l, x.ok) : RdE (W.alloc (.cells cs 33)) (some ⟨g, 0, none⟩) l.length l := by
  subst hg hcs
  refine ⟨rfl, by omega, ho, fun _ => ⟨_, rfl, by simp, fun i hi => ?_⟩⟩
  obtain ⟨h1, h2⟩ := evs_at l i hi
  have a1 := news_cells W (evs l) 33 _ rfl (i * 2) _ h1
  have a2 := news_cells W (evs l) 33 _ rfl (i * 2 + 1) _ h2
  refine ⟨a1, ?_⟩
  have e : ∀ j, ((⟨W.heap.size, 0, none⟩ : Addr).add j) = ⟨W.heap.size, j, none⟩ := fun j => by unfold Addr.add; split <;> simp_all
  rw [e] at a2
  rw [e]
  exact a2
def l1 : List E := [⟨1, 4⟩, ⟨3, 1⟩, ⟨4, 0⟩]
def l2 : List E := [⟨4, 0⟩]
def l3 : List E := [⟨1, 0⟩]
def l4 : List E := [⟨1, 5⟩, ⟨2, 5⟩, ⟨4, 0⟩]
theorem r1 : runV ⟨0, 3, 0, 0, 0⟩ false l1 = (⟨1, 17, 0, 0, 0⟩, true) := by kernel_rfl
theorem r2 : runV ⟨1, 17, 0, 0, 0⟩ false l2 = (⟨1, 17, 0, 0, 0⟩, false) := by kernel_rfl
theorem r3 : runV ⟨1, 17, 0, 0, 0⟩ false l3 = (⟨1, 17, 0, 0, 0⟩, false) := by kernel_rfl
theorem r4 : runV ⟨1, 17, 0, 0, 0⟩ false l4 = (⟨1, 17, 0, 0, 0⟩, false) := by kernel_rfl
theorem rR : rightV ⟨0, 3, 0, 0, 0⟩ = true := by kernel_rfl
theorem ok_all (l : List E) (h : (l.all fun x => decide (0 ≤ x.what) && decide (x.what ≤ 255) && decide (0 ≤ x.node) && decide (x.node ≤ 255)) = true) : ∀ x ∈ l, x.ok := by
  intro x hx
  have := List.all_eq_true.1 h x hx
  simp at this
  exact ⟨this.1.1.1, this.1.1.2, this.1.2, this.2⟩
theorem stepped_at (v : V) (l : List E) (A : Option Addr) (n c : Nat) (w : World) (hl : RdE w A n l) (v' : V) (b : Bool) (h : runV v false l = (v', b)) :
    Calls Try.prog 10 #[.agg #[.int .i64 v.n, .int .u32 v.s, .int .u32 v.j, .int .u32 v.l, .int .u32 v.f], .slice A n c] w fun e w' => e = .returned (.tuple #[.agg #[.int .i64 v'.n, .int .u32 v'.s, .int .u32 v'.j, .int .u32 v'.l, .int .u32 v'.f], .bool b]) ∧ Below w.heap.size w w' := by
  have := stepped_calls v A n c l w hl
  rw [h] at this
  exact this
theorem awake_calls (w : World) :
    Calls Try.prog 8 #[] w fun e w' => e = .returned (.bool true) ∧ Below w.heap.size w w' := by
  go_enter Try.func8, Try.ntmps8
  go_wp2_with fail
  refine (first_calls _ _).mono ?_
  rintro e w' ⟨rfl, rfl⟩
  go_wp2_with fail
  refine (stepped_at ⟨0, 3, 0, 0, 0⟩ l1 _ _ _ _ (RdE_new _ _ (by simp) l1 _ rfl (by decide) (ok_all _ rfl)) _ _ r1).mono ?_
  rintro e w1 ⟨rfl, hb1⟩
  have hV1 : Blk w1 (w.heap.size + 1) 28 #[.int .i64 0, .int .u32 3, .int .u32 0, .int .u32 0, .int .u32 0] := by
    refine Blk.below (B := w.heap.size + 3) (Blk.alloc ?_ _) (by simpa using hb1) (by omega)
    have := Blk.new (w.alloc (.cells #[.int .i64 0, .int .u32 3, .int .u32 0, .int .u32 0, .int .u32 0] 28)) 28 #[.int .i64 0, .int .u32 3, .int .u32 0, .int .u32 0, .int .u32 0]
    rwa [World.size_alloc] at this
  have hz1 := hV1.lt
  go_wp2_with fail
  refine (stepped_at ⟨1, 17, 0, 0, 0⟩ l2 _ _ _ _ (RdE_new _ _ (by simp) l2 _ rfl (by decide) (ok_all _ rfl)) _ _ r2).mono ?_
  rintro e w2 ⟨rfl, hb2⟩
  have hV2 := Blk.below ((hV1.alloc (.cells #[.int .i64 1, .int .u32 17, .int .u32 0, .int .u32 0, .int .u32 0] 28)).alloc (.cells #[.int .u8 4, .int .u8 0] 33)) hb2 (by simp; omega)
  have hA2 := Blk.below ((Blk.new w1 28 #[.int .i64 1, .int .u32 17, .int .u32 0, .int .u32 0, .int .u32 0]).alloc (.cells #[.int .u8 4, .int .u8 0] 33)) hb2 (by simp; omega)
  have hz2 := hA2.lt
  obtain ⟨a20, a21, a22, a23, a24, -⟩ := hA2.five
  go_wp2_with fail
  refine (stepped_at ⟨1, 17, 0, 0, 0⟩ l3 _ _ _ _ (RdE_new _ _ (by simp) l3 _ rfl (by decide) (ok_all _ rfl)) _ _ r3).mono ?_
  rintro e w3 ⟨rfl, hb3⟩
  clear a20 a21 a22 a23 a24
  have hV3 := Blk.below ((hV2.alloc (.cells #[.int .i64 1, .int .u32 17, .int .u32 0, .int .u32 0, .int .u32 0] 28)).alloc (.cells #[.int .u8 1, .int .u8 0] 33)) hb3 (by simp; omega)
  have hA3 := Blk.below ((hA2.alloc (.cells #[.int .i64 1, .int .u32 17, .int .u32 0, .int .u32 0, .int .u32 0] 28)).alloc (.cells #[.int .u8 1, .int .u8 0] 33)) hb3 (by simp; omega)
  have hB3 := Blk.below ((Blk.new w2 28 #[.int .i64 1, .int .u32 17, .int .u32 0, .int .u32 0, .int .u32 0]).alloc (.cells #[.int .u8 1, .int .u8 0] 33)) hb3 (by simp; omega)
  have hz3 := hB3.lt
  have hz3a := hA3.lt
  obtain ⟨a30, a31, a32, a33, a34, -⟩ := hA3.five
  go_wp2_with fail
  refine (stepped_at ⟨1, 17, 0, 0, 0⟩ l4 _ _ _ _ (RdE_new _ _ (by simp) l4 _ rfl (by decide) (ok_all _ rfl)) _ _ r4).mono ?_
  rintro e w4 ⟨rfl, hb4⟩
  clear a30 a31 a32 a33 a34
  have hV4 := Blk.below ((hV3.alloc (.cells #[.int .i64 1, .int .u32 17, .int .u32 0, .int .u32 0, .int .u32 0] 28)).alloc (.cells #[.int .u8 1, .int .u8 5, .int .u8 2, .int .u8 5, .int .u8 4, .int .u8 0] 33)) hb4 (by simp; omega)
  have hA4 := Blk.below ((hA3.alloc (.cells #[.int .i64 1, .int .u32 17, .int .u32 0, .int .u32 0, .int .u32 0] 28)).alloc (.cells #[.int .u8 1, .int .u8 5, .int .u8 2, .int .u8 5, .int .u8 4, .int .u8 0] 33)) hb4 (by simp; omega)
  have hB4 := Blk.below ((hB3.alloc (.cells #[.int .i64 1, .int .u32 17, .int .u32 0, .int .u32 0, .int .u32 0] 28)).alloc (.cells #[.int .u8 1, .int .u8 5, .int .u8 2, .int .u8 5, .int .u8 4, .int .u8 0] 33)) hb4 (by simp; omega)
  have hC4 := Blk.below ((Blk.new w3 28 #[.int .i64 1, .int .u32 17, .int .u32 0, .int .u32 0, .int .u32 0]).alloc (.cells #[.int .u8 1, .int .u8 5, .int .u8 2, .int .u8 5, .int .u8 4, .int .u8 0] 33)) hb4 (by simp; omega)
  have hz4 := hC4.lt
  have hz4a := hA4.lt
  have hz4b := hB4.lt
  have hz4v := hV4.lt
  obtain ⟨v0, v1, v2, v3, v4, -⟩ := hV4.five
  obtain ⟨a0, a1, a2, a3, a4, -⟩ := hA4.five
  obtain ⟨b0, b1, b2, b3, b4, -⟩ := hB4.five
  obtain ⟨c0, c1, c2, c3, c4, -⟩ := hC4.five
  go_wp2_with fail
  refine (right_yes ⟨0, 3, 0, 0, 0⟩ rR _).mono ?_
  rintro e w5 ⟨rfl, rfl⟩
  go_wp2_with fail
  go_ret
  refine ⟨rfl, ?_⟩
  have e1 : Below w.heap.size w w1 := (blw3 w _ _ _).trans (hb1.mono (by simp; omega))
  have e2 : Below w.heap.size w w2 := (below_alloc (below_alloc e1 _) _).trans (hb2.mono (by have := e1.size; simp; omega))
  have e3 : Below w.heap.size w w3 := (below_alloc (below_alloc e2 _) _).trans (hb3.mono (by have := e2.size; simp; omega))
  have e4 : Below w.heap.size w w4 := (below_alloc (below_alloc e3 _) _).trans (hb4.mono (by have := e3.size; simp; omega))
  exact below_alloc (below_alloc e4 _) _
end Go.Proofs.Ytdpjgnefjickkaa
