/- Words on memory: blocks that the call has just made, behind a callee that leaves what lay before it. Over any world, no conditions. -/
import Derived.Test.YtnmcmgecdcnbiaaDoorC1
namespace Go.Proofs.YtnmcmgecdcnbiaaDoor
open Go.RowKit
theorem Blk.one {w : World} {g : Nat} {t : TypeId} {a : Value} (h : Blk w g t #[a]) : w.cell? ⟨g, 0, none⟩ = some a ∧ w.frozen? ⟨g, 0, none⟩ = false := ⟨h.cell 0, h.frozen 0⟩
theorem Blk.two {w : World} {g : Nat} {t : TypeId} {a b : Value} (h : Blk w g t #[a, b]) : w.cell? ⟨g, 0, none⟩ = some a ∧ w.cell? ⟨g, 1, none⟩ = some b ∧ w.frozen? ⟨g, 0, none⟩ = false ∧ w.frozen? ⟨g, 1, none⟩ = false :=
  ⟨h.cell 0, h.cell 1, h.frozen 0, h.frozen 1⟩
theorem Blk.four {w : World} {g : Nat} {t : TypeId} {a b c d : Value} (h : Blk w g t #[a, b, c, d]) :
    w.cell? ⟨g, 0, none⟩ = some a ∧ w.cell? ⟨g, 1, none⟩ = some b ∧ w.cell? ⟨g, 2, none⟩ = some c ∧ w.cell? ⟨g, 3, none⟩ = some d ∧
    w.frozen? ⟨g, 0, none⟩ = false ∧ w.frozen? ⟨g, 1, none⟩ = false ∧ w.frozen? ⟨g, 2, none⟩ = false ∧ w.frozen? ⟨g, 3, none⟩ = false :=
  ⟨h.cell 0, h.cell 1, h.cell 2, h.cell 3, h.frozen 0, h.frozen 1, h.frozen 2, h.frozen 3⟩
theorem Blk.put4 {w : World} {g : Nat} {t : TypeId} {a b c d : Value} (h : Blk w g t #[a, b, c, d]) (a' b' c' d' : Value) :
    Blk ((((w.setCell ⟨g, 0, none⟩ a').setCell ⟨g, 1, none⟩ b').setCell ⟨g, 2, none⟩ c').setCell ⟨g, 3, none⟩ d') g t #[a', b', c', d'] :=
  (((h.set_ 0 a').set_ 1 b').set_ 2 c').set_ 3 d'
theorem below_put4 {w0 w : World} {B g' : Nat} (h : Below B w0 w) (hB : B ≤ g') (a' b' c' d' : Value) :
    Below B w0 ((((w.setCell ⟨g', 0, none⟩ a').setCell ⟨g', 1, none⟩ b').setCell ⟨g', 2, none⟩ c').setCell ⟨g', 3, none⟩ d') :=
  (((h.setCell (p := ⟨g', 0, none⟩) hB _).setCell (p := ⟨g', 1, none⟩) hB _).setCell (p := ⟨g', 2, none⟩) hB _).setCell (p := ⟨g', 3, none⟩) hB _
theorem own_mono {w : World} {base base' : Nat} {e : TypeId} {size n : Nat} {v : Value} {xs : List Value} (h : w.ownsRow base e size v n xs) (hb : base' ≤ base) : w.ownsRow base' e size v n xs := by
  refine ⟨h.1, ?_⟩
  rcases h.2 with h0 | ⟨g, cap, cur, rfl, hg, r⟩
  · exact .inl h0
  · exact .inr ⟨g, cap, cur, rfl, by omega, r⟩
section
variable {w w1 : World} {a b c : Array Value} {t1 t2 t3 : TypeId}
theorem after1 (hb : Below (w.alloc (.cells a t1)).heap.size (w.alloc (.cells a t1)) w1) : Blk w1 w.heap.size t1 a ∧ w.heap.size < w1.heap.size ∧ Below w.heap.size w w1 := by
  have h1 := (Blk.new w t1 a).below hb (by simp)
  exact ⟨h1, h1.lt, ((Below.refl w.heap.size w).alloc (Nat.le_refl _) _).trans (hb.mono (by simp))⟩
theorem after2 (hb : Below ((w.alloc (.cells a t1)).alloc (.cells b t2)).heap.size ((w.alloc (.cells a t1)).alloc (.cells b t2)) w1) :
    Blk w1 w.heap.size t1 a ∧ Blk w1 (w.heap.size + 1) t2 b ∧ w.heap.size + 1 < w1.heap.size ∧ Below w.heap.size w w1 := by
  have h1 := ((Blk.new w t1 a).alloc (.cells b t2)).below hb (by first | omega | (simp; done) | (simp; omega))
  have h2 := Blk.new (w.alloc (.cells a t1)) t2 b
  rw [World.size_alloc] at h2
  have h3 := h2.below hb (by first | omega | (simp; done) | (simp; omega))
  exact ⟨h1, h3, h3.lt, (blw2 ..).trans (hb.mono (by simp; omega))⟩
theorem after3 (hb : Below (((w.alloc (.cells a t1)).alloc (.cells b t2)).alloc (.cells c t3)).heap.size (((w.alloc (.cells a t1)).alloc (.cells b t2)).alloc (.cells c t3)) w1) :
    Blk w1 w.heap.size t1 a ∧ Blk w1 (w.heap.size + 1) t2 b ∧ Blk w1 (w.heap.size + 2) t3 c ∧ w.heap.size + 2 < w1.heap.size ∧ Below w.heap.size w w1 := by
  have h1 := (((Blk.new w t1 a).alloc (.cells b t2)).alloc (.cells c t3)).below hb (by first | omega | (simp; done) | (simp; omega))
  have h2 := Blk.new (w.alloc (.cells a t1)) t2 b
  rw [World.size_alloc] at h2
  have h2' := (h2.alloc (.cells c t3)).below hb (by first | omega | (simp; done) | (simp; omega))
  have h3 := Blk.new ((w.alloc (.cells a t1)).alloc (.cells b t2)) t3 c
  rw [World.size_alloc, World.size_alloc] at h3
  have h3' := h3.below hb (by first | omega | (simp; done) | (simp; omega))
  exact ⟨h1, h2', h3', h3'.lt, (blw3 ..).trans (hb.mono (by simp; omega))⟩
end
end Go.Proofs.YtnmcmgecdcnbiaaDoor
