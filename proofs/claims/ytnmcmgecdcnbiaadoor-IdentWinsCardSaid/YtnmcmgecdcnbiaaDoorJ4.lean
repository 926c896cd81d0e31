/- IdentTells: the program's answers on idents are the document's. -/
import Derived.Test.YtnmcmgecdcnbiaaDoorJ3
import Derived.Deep.DeepCutAuto
namespace Go.Proofs.YtnmcmgecdcnbiaaDoor
open Go.RowKit
set_option maxRecDepth 100000
set_option maxHeartbeats 6400000
set_option linter.unusedVariables false
/-- What both make of an ident and data: the frame's identifier, whether it is extended, its length code, its data, the error. -/
structure FR where
  id : Int
  x : Bool
  d : Int
  ds : List Int
  e : Int
def frI (k f s r : Int) (ds : List Int) : FR := if okI k f r = false then ⟨0, false, 0, [], 150⟩ else if 8 < ds.length then ⟨0, false, 0, [], 240⟩ else ⟨mkI k f s r, true, ds.length, ds, 0⟩
def frV (q : FR) (B : Option Addr) (c : Nat) : Value := .agg #[.int .u32 q.id, .bool q.x, .bool false, .int .u8 q.d, .slice B q.ds.length c]
theorem frI_len (k f s r : Int) (ds : List Int) : (frI k f s r ds).ds.length ≤ 8 := by
  unfold frI
  split
  · simp
  · split
    · simp
    · simp only; omega
section
variable (k f s r : Int) (hk : 0 ≤ k) (hf : 0 ≤ f) (hs : 0 ≤ s ∧ s ≤ 65535) (hr : 0 ≤ r) (A : Option Addr) (c : Nat) (ds : List Int) (hn : ds.length ≤ 1000000) (w : World)
include hk hf hs hr hn
theorem frame_any (hw : Wid w) (hx : Reads w w.heap.size 1 A ds.length (u8s ds)) :
    Calls Tryd.prog 10 #[.agg #[.int .u8 k, .int .u8 f, .int .u16 s, .int .u8 r], .slice A ds.length c] w fun e w' => ∃ B m, e = .returned (.tuple #[frV (frI k f s r ds) B m, .int .i64 (frI k f s r ds).e]) ∧ w'.ownsRow w.heap.size 5 1 (.slice B (frI k f s r ds).ds.length m) (frI k f s r ds).ds.length (u8s (frI k f s r ds).ds) ∧ Below w.heap.size w w' := by
  cases h : okI k f r with
  | false =>
    have e : frI k f s r ds = ⟨0, false, 0, [], 150⟩ := by unfold frI; rw [if_pos h]
    rw [e]
    exact (frame_no k f s r A ds.length c h w).mono fun e w' ⟨h1, h2⟩ => ⟨none, 0, h1, own_nil .., h2⟩
  | true =>
    by_cases h8 : 8 < ds.length
    · have e : frI k f s r ds = ⟨0, false, 0, [], 240⟩ := by unfold frI; rw [if_neg (by simp [h]), if_pos h8]
      rw [e]
      exact (frame_long k f s r A ds.length c h hk hf hs hr h8 hn w hw).mono fun e w' ⟨h1, h2⟩ => ⟨none, 0, h1, own_nil .., h2⟩
    · have e : frI k f s r ds = ⟨mkI k f s r, true, ds.length, ds, 0⟩ := by unfold frI; rw [if_neg (by simp [h]), if_neg h8]
      rw [e]
      exact (frame_yes k f s r A ds.length c (u8s ds) h hk hf hs hr (by omega) w hw hx (u8s_one ds)).mono fun e w' ⟨B, m, h1, h2, h3⟩ => ⟨B, m, h1, h2, h3⟩
theorem jframe_any (hx : Reads w w.heap.size 1 A ds.length (u8s ds)) :
    Calls Tryd.prog 16 #[.agg #[.int .u8 k, .int .u8 f, .int .u16 s, .int .u8 r], .slice A ds.length c] w fun e w' => ∃ B m, e = .returned (.tuple #[frV (frI k f s r ds) B m, .int .i64 (frI k f s r ds).e]) ∧ w'.ownsRow w.heap.size 5 1 (.slice B (frI k f s r ds).ds.length m) (frI k f s r ds).ds.length (u8s (frI k f s r ds).ds) ∧ Below w.heap.size w w' := by
  cases h : okI k f r with
  | false =>
    have e : frI k f s r ds = ⟨0, false, 0, [], 150⟩ := by unfold frI; rw [if_pos h]
    rw [e]
    exact (jframe_no k f s r A ds.length c h w).mono fun e w' ⟨h1, h2⟩ => ⟨none, 0, h1, own_nil .., h2⟩
  | true =>
    by_cases h8 : 8 < ds.length
    · have e : frI k f s r ds = ⟨0, false, 0, [], 240⟩ := by unfold frI; rw [if_neg (by simp [h]), if_pos h8]
      rw [e]
      exact (jframe_long k f s r A ds.length c h hk hf hs hr h8 hn w).mono fun e w' ⟨h1, h2⟩ => ⟨none, 0, h1, own_nil .., h2⟩
    · have e : frI k f s r ds = ⟨mkI k f s r, true, ds.length, ds, 0⟩ := by unfold frI; rw [if_neg (by simp [h]), if_neg h8]
      rw [e]
      exact (jframe_yes k f s r A ds.length c (u8s ds) h hk hf hs hr (by omega) w hx (u8s_one ds)).mono fun e w' ⟨B, m, h1, h2, h3⟩ => ⟨B, m, h1, h2, h3⟩
end
def mkR (k f s r : Int) : Int × Int := if okI k f r = false then (0, 150) else (mkI k f s r, 0)
theorem make_any (k f s r : Int) (hk : 0 ≤ k) (hf : 0 ≤ f) (hs : 0 ≤ s ∧ s ≤ 65535) (hr : 0 ≤ r) (w : World) (hw : Wid w) :
    Calls Tryd.prog 8 #[.agg #[.int .u8 k, .int .u8 f, .int .u16 s, .int .u8 r]] w fun e w' => e = .returned (.tuple #[.int .u32 (mkR k f s r).1, .int .i64 (mkR k f s r).2]) ∧ Below w.heap.size w w' := by
  unfold mkR
  cases h : okI k f r with
  | false => exact make_no k f s r h w
  | true => exact make_yes k f s r h hk hf hs hr w hw
theorem jmake_any (k f s r : Int) (hk : 0 ≤ k) (hf : 0 ≤ f) (hs : 0 ≤ s ∧ s ≤ 65535) (hr : 0 ≤ r) (w : World) :
    Calls Tryd.prog 14 #[.agg #[.int .u8 k, .int .u8 f, .int .u16 s, .int .u8 r]] w fun e w' => e = .returned (.tuple #[.int .u32 (mkR k f s r).1, .int .i64 (mkR k f s r).2]) ∧ Below w.heap.size w w' := by
  unfold mkR
  cases h : okI k f r with
  | false => exact jmake_no k f s r h w
  | true => exact jmake_yes k f s r h hk hf hs hr w
/-- What is known of memory: both idents, the frame, the widths. -/
def In (w wr : World) (a b : Array Value) (f : Array Value) : Prop := Blk wr w.heap.size 24 a ∧ Blk wr (w.heap.size + 1) 24 b ∧ Blk wr (w.heap.size + 1 + 1) 34 f ∧ Below w.heap.size w wr ∧ Wid wr
theorem In.below {w wr w1 : World} {a b f : Array Value} {K : Nat} (h : In w wr a b f) (hb : Below K wr w1) (hK : wr.heap.size ≤ K) : In w w1 a b f :=
  ⟨h.1.below hb (by have := h.1.lt; omega), h.2.1.below hb (by have := h.2.1.lt; omega), h.2.2.1.below hb (by have := h.2.2.1.lt; omega), h.2.2.2.1.trans (hb.mono (by have := h.2.2.2.1.size; omega)), h.2.2.2.2.below hb (by have := h.2.2.2.2.1; omega)⟩
theorem In.alloc {w wr : World} {a b f : Array Value} (h : In w wr a b f) (o : Obj) : In w (wr.alloc o) a b f := h.below ((Below.refl _ _).alloc (Nat.le_refl _) o) (Nat.le_refl _)
theorem ofV_form (id d : Int) (x m : Bool) (n : Nat) : ∃ k f s r o, ofV id d x m n = (.agg #[.int .u8 k, .int .u8 f, .int .u16 s, .int .u8 r], o) := by
  unfold ofV
  split
  · exact readV_form id
  · exact ⟨_, _, _, _, _, rfl⟩
theorem tr_ {W w w2 : World} (h : Below W.heap.size W w) (hb : Below w.heap.size w w2) : Below W.heap.size W w2 := h.trans (hb.mono h.size)
theorem tells_calls (k f s r k' f' s' r' id : Int) (hk : 0 ≤ k ∧ k ≤ 255) (hf : 0 ≤ f ∧ f ≤ 255) (hs : 0 ≤ s ∧ s ≤ 65535) (hr : 0 ≤ r ∧ r ≤ 255) (hid : 0 ≤ id ∧ id ≤ 4294967295)
    (A : Option Addr) (n c : Nat) (ds : List Int) (i2 d2 : Int) (x2 m2 : Bool) (A2 : Option Addr) (n2 c2 : Nat) (hi2 : 0 ≤ i2 ∧ i2 ≤ 4294967295) (hd2 : 0 ≤ d2 ∧ d2 ≤ 255) (w : World) (hw : Wid w) (hx : Reads w w.heap.size 1 A n (u8s ds)) (hc : n ≤ c) (hm : c ≤ maxLen) :
    Calls Tryd.prog 4 #[.agg #[.int .u8 k, .int .u8 f, .int .u16 s, .int .u8 r], .agg #[.int .u8 k', .int .u8 f', .int .u16 s', .int .u8 r'], .int .u32 id, .slice A n c, .agg #[.int .u32 i2, .bool x2, .bool m2, .int .u8 d2, .slice A2 n2 c2]] w fun e w' => e = .returned (.bool true) ∧ Below w.heap.size w w' := by
  unfold maxLen at hm
  go_enter Tryd.func4, Tryd.ntmps4
  go_upto_region 1 with fail
  have hA := ((Blk.new w 24 #[.int .u8 k, .int .u8 f, .int .u16 s, .int .u8 r]).alloc (.cells #[.int .u8 k', .int .u8 f', .int .u16 s', .int .u8 r'] 24)).alloc (.cells #[.int .u32 i2, .bool x2, .bool m2, .int .u8 d2, .slice A2 n2 c2] 34)
  have hB := Blk.new (w.alloc (.cells #[.int .u8 k, .int .u8 f, .int .u16 s, .int .u8 r] 24)) 24 #[.int .u8 k', .int .u8 f', .int .u16 s', .int .u8 r']
  have hF := Blk.new ((w.alloc (.cells #[.int .u8 k, .int .u8 f, .int .u16 s, .int .u8 r] 24)).alloc (.cells #[.int .u8 k', .int .u8 f', .int .u16 s', .int .u8 r'] 24)) 34 #[.int .u32 i2, .bool x2, .bool m2, .int .u8 d2, .slice A2 n2 c2]
  have hbw := blw3 w (.cells #[.int .u8 k, .int .u8 f, .int .u16 s, .int .u8 r] 24) (.cells #[.int .u8 k', .int .u8 f', .int .u16 s', .int .u8 r'] 24) (.cells #[.int .u32 i2, .bool x2, .bool m2, .int .u8 d2, .slice A2 n2 c2] 34)
  rw [World.size_alloc] at hB hF
  rw [World.size_alloc] at hF
  have hB := hB.alloc (.cells #[.int .u32 i2, .bool x2, .bool m2, .int .u8 d2, .slice A2 n2 c2] 34)
  generalize ((w.alloc (.cells #[.int .u8 k, .int .u8 f, .int .u16 s, .int .u8 r] 24)).alloc (.cells #[.int .u8 k', .int .u8 f', .int .u16 s', .int .u8 r'] 24)).alloc (.cells #[.int .u32 i2, .bool x2, .bool m2, .int .u8 d2, .slice A2 n2 c2] 34) = wa at hA hB hF hbw ⊢
  go_cut [3] (fun s3 wc => ∃ (es : List Int), s3 = .slice A es.length c ∧ es.length ≤ 20 ∧ Reads w w.heap.size 1 A es.length (u8s es) ∧ wa = wc)
  case first =>
    have hlen : ds.length = n := by have := hx.1; simp [u8s] at this; omega
    by_cases h20 : (20 : Int) < (n : Int)
    · have ht := hx.take (m := 20) (by omega)
      have hl : (ds.take 20).length = 20 := by simp; omega
      go_wp2
      go_meet
      exact ⟨ds.take 20, by rw [hl], by omega, by rw [hl]; simpa [u8s, List.map_take] using ht, rfl⟩
    · go_wp2
      go_meet
      exact ⟨ds, by rw [hlen], by omega, by rw [hlen]; exact hx, rfl⟩
  case rest =>
  obtain ⟨es, rfl, h20, hx, rfl⟩ := hcut
  have hI : In w wa #[.int .u8 k, .int .u8 f, .int .u16 s, .int .u8 r] #[.int .u8 k', .int .u8 f', .int .u16 s', .int .u8 r'] #[.int .u32 i2, .bool x2, .bool m2, .int .u8 d2, .slice A2 n2 c2] := ⟨hA, hB, hF, hbw, hw.below hbw hw.1⟩
  clear hA hB hF hw hm hc
  obtain ⟨qk, qf, qs, qr, qo, hq⟩ := readV_form id
  obtain ⟨pk, pf, ps, pr, po, hp⟩ := ofV_form i2 d2 x2 m2 n2
  have rd := read_calls id hid.1 hid.2
  have jd := jread_calls id hid.1 hid.2
  have of := of_calls i2 d2 x2 m2 A2 n2 c2 hi2.1 hi2.2 hd2
  have jf := jof_calls i2 d2 x2 m2 A2 n2 c2 hi2.1 hi2.2 hd2
  rw [hq] at rd jd
  rw [hp] at of jf
  have RD := Lib.hid rd
  have JD := Lib.hid jd
  have OF := Lib.hid of
  have JF := Lib.hid jf
  clear rd jd of jf hq hp
  obtain ⟨mi, me, hmk⟩ : ∃ a b, mkR k f s r = (a, b) := ⟨_, _, rfl⟩
  have ma := make_any k f s r hk.1 hf.1 hs hr.1
  have ja := jmake_any k f s r hk.1 hf.1 hs hr.1
  rw [hmk] at ma ja
  have MA := Lib.hid ma
  have JA := Lib.hid ja
  clear ma ja hmk
  have hfl := frI_len k f s r es
  have fa := frame_any k f s r hk.1 hf.1 hs hr.1 A c es (by omega)
  have fj := jframe_any k f s r hk.1 hf.1 hs hr.1 A c es (by omega)
  unfold frV at fa fj
  obtain ⟨q, hq⟩ : ∃ q, frI k f s r es = q := ⟨_, rfl⟩
  rw [hq] at fa fj hfl
  have FA := Lib.hid fa
  have FJ := Lib.hid fj
  clear fa fj hq
  obtain ⟨z0, z1, z2, z3, -⟩ := hI.1.four
  have hlt := hI.1.lt
  go_wp2_with fail
  refine (MA.out _ hI.2.2.2.2).mono ?_
  rintro e v0 ⟨rfl, hb⟩
  clear z0 z1 z2 z3 hlt
  replace hI := hI.below hb (Nat.le_refl _)
  obtain ⟨z0, z1, z2, z3, -⟩ := hI.1.four
  have hlt := hI.1.lt
  go_wp2_with fail
  refine (JA.out _).mono ?_
  rintro e v1 ⟨rfl, hb⟩
  clear z0 z1 z2 z3 hlt
  replace hI := hI.below hb (Nat.le_refl _)
  go_wp2_with fail
  refine (RD.out _ hI.2.2.2.2).mono ?_
  rintro e v2 ⟨rfl, hb⟩
  replace hI := hI.below hb (Nat.le_refl _)
  replace hI := hI.alloc (.cells #[.int .u8 qk, .int .u8 qf, .int .u16 qs, .int .u8 qr] 24)
  have hX2 := Blk.new v2 24 #[.int .u8 qk, .int .u8 qf, .int .u16 qs, .int .u8 qr]
  go_wp2_with fail
  refine (JD.out _).mono ?_
  rintro e v3 ⟨rfl, hb⟩
  replace hI := hI.below hb (Nat.le_refl _)
  replace hX2 := hX2.below hb hX2.lt
  replace hI := hI.alloc (.cells #[.int .u8 qk, .int .u8 qf, .int .u16 qs, .int .u8 qr] 24)
  replace hX2 := hX2.alloc (.cells #[.int .u8 qk, .int .u8 qf, .int .u16 qs, .int .u8 qr] 24)
  have hX3 := Blk.new v3 24 #[.int .u8 qk, .int .u8 qf, .int .u16 qs, .int .u8 qr]
  obtain ⟨z0, z1, z2, z3, -⟩ := hI.1.four
  have hlt := hI.1.lt
  go_wp2_with fail
  refine (FA.out _ hI.2.2.2.2 ((hx.below hI.2.2.2.1).more hI.2.2.2.1.size)).mono ?_
  rintro e v4 ⟨B1, c1, rfl, ho10, hb⟩
  clear z0 z1 z2 z3 hlt
  replace hI := hI.below hb (Nat.le_refl _)
  replace hX2 := hX2.below hb hX2.lt
  replace hX3 := hX3.below hb hX3.lt
  replace hI := hI.alloc (.cells #[.int .u32 q.id, .bool q.x, .bool false, .int .u8 q.d, .slice B1 q.ds.length c1] 34)
  replace hX2 := hX2.alloc (.cells #[.int .u32 q.id, .bool q.x, .bool false, .int .u8 q.d, .slice B1 q.ds.length c1] 34)
  replace hX3 := hX3.alloc (.cells #[.int .u32 q.id, .bool q.x, .bool false, .int .u8 q.d, .slice B1 q.ds.length c1] 34)
  replace ho10 := own_alloc ho10 (.cells #[.int .u32 q.id, .bool q.x, .bool false, .int .u8 q.d, .slice B1 q.ds.length c1] 34)
  have hX4 := Blk.new v4 34 #[.int .u32 q.id, .bool q.x, .bool false, .int .u8 q.d, .slice B1 q.ds.length c1]
  obtain ⟨z0, z1, z2, z3, -⟩ := hI.1.four
  have hlt := hI.1.lt
  go_wp2_with fail
  refine (FJ.out _ ((hx.below hI.2.2.2.1).more hI.2.2.2.1.size)).mono ?_
  rintro e v5 ⟨B2, c3, rfl, ho16, hb⟩
  clear z0 z1 z2 z3 hlt
  replace hI := hI.below hb (Nat.le_refl _)
  replace hX2 := hX2.below hb hX2.lt
  replace hX3 := hX3.below hb hX3.lt
  replace hX4 := hX4.below hb hX4.lt
  replace ho10 := own_below ho10 hb (Nat.le_refl _)
  replace hI := hI.alloc (.cells #[.int .u32 q.id, .bool q.x, .bool false, .int .u8 q.d, .slice B2 q.ds.length c3] 34)
  replace hX2 := hX2.alloc (.cells #[.int .u32 q.id, .bool q.x, .bool false, .int .u8 q.d, .slice B2 q.ds.length c3] 34)
  replace hX3 := hX3.alloc (.cells #[.int .u32 q.id, .bool q.x, .bool false, .int .u8 q.d, .slice B2 q.ds.length c3] 34)
  replace hX4 := hX4.alloc (.cells #[.int .u32 q.id, .bool q.x, .bool false, .int .u8 q.d, .slice B2 q.ds.length c3] 34)
  replace ho10 := own_alloc ho10 (.cells #[.int .u32 q.id, .bool q.x, .bool false, .int .u8 q.d, .slice B2 q.ds.length c3] 34)
  replace ho16 := own_alloc ho16 (.cells #[.int .u32 q.id, .bool q.x, .bool false, .int .u8 q.d, .slice B2 q.ds.length c3] 34)
  have hX5 := Blk.new v5 34 #[.int .u32 q.id, .bool q.x, .bool false, .int .u8 q.d, .slice B2 q.ds.length c3]
  obtain ⟨z0, z1, z2, z3, z4, -⟩ := hI.2.2.1.five
  have hlt := hI.2.2.1.lt
  go_wp2_with fail
  refine (OF.out _ hI.2.2.2.2).mono ?_
  rintro e v6 ⟨rfl, hb⟩
  clear z0 z1 z2 z3 z4 hlt
  replace hI := hI.below hb (Nat.le_refl _)
  replace hX2 := hX2.below hb hX2.lt
  replace hX3 := hX3.below hb hX3.lt
  replace hX4 := hX4.below hb hX4.lt
  replace hX5 := hX5.below hb hX5.lt
  replace ho10 := own_below ho10 hb (Nat.le_refl _)
  replace ho16 := own_below ho16 hb (Nat.le_refl _)
  replace hI := hI.alloc (.cells #[.int .u8 pk, .int .u8 pf, .int .u16 ps, .int .u8 pr] 24)
  replace hX2 := hX2.alloc (.cells #[.int .u8 pk, .int .u8 pf, .int .u16 ps, .int .u8 pr] 24)
  replace hX3 := hX3.alloc (.cells #[.int .u8 pk, .int .u8 pf, .int .u16 ps, .int .u8 pr] 24)
  replace hX4 := hX4.alloc (.cells #[.int .u8 pk, .int .u8 pf, .int .u16 ps, .int .u8 pr] 24)
  replace hX5 := hX5.alloc (.cells #[.int .u8 pk, .int .u8 pf, .int .u16 ps, .int .u8 pr] 24)
  replace ho10 := own_alloc ho10 (.cells #[.int .u8 pk, .int .u8 pf, .int .u16 ps, .int .u8 pr] 24)
  replace ho16 := own_alloc ho16 (.cells #[.int .u8 pk, .int .u8 pf, .int .u16 ps, .int .u8 pr] 24)
  have hX6 := Blk.new v6 24 #[.int .u8 pk, .int .u8 pf, .int .u16 ps, .int .u8 pr]
  obtain ⟨z0, z1, z2, z3, z4, -⟩ := hI.2.2.1.five
  have hlt := hI.2.2.1.lt
  go_wp2_with fail
  refine (JF.out _).mono ?_
  rintro e v7 ⟨rfl, hb⟩
  clear z0 z1 z2 z3 z4 hlt
  replace hI := hI.below hb (Nat.le_refl _)
  replace hX2 := hX2.below hb hX2.lt
  replace hX3 := hX3.below hb hX3.lt
  replace hX4 := hX4.below hb hX4.lt
  replace hX5 := hX5.below hb hX5.lt
  replace hX6 := hX6.below hb hX6.lt
  replace ho10 := own_below ho10 hb (Nat.le_refl _)
  replace ho16 := own_below ho16 hb (Nat.le_refl _)
  replace hI := hI.alloc (.cells #[.int .u8 pk, .int .u8 pf, .int .u16 ps, .int .u8 pr] 24)
  replace hX2 := hX2.alloc (.cells #[.int .u8 pk, .int .u8 pf, .int .u16 ps, .int .u8 pr] 24)
  replace hX3 := hX3.alloc (.cells #[.int .u8 pk, .int .u8 pf, .int .u16 ps, .int .u8 pr] 24)
  replace hX4 := hX4.alloc (.cells #[.int .u8 pk, .int .u8 pf, .int .u16 ps, .int .u8 pr] 24)
  replace hX5 := hX5.alloc (.cells #[.int .u8 pk, .int .u8 pf, .int .u16 ps, .int .u8 pr] 24)
  replace hX6 := hX6.alloc (.cells #[.int .u8 pk, .int .u8 pf, .int .u16 ps, .int .u8 pr] 24)
  replace ho10 := own_alloc ho10 (.cells #[.int .u8 pk, .int .u8 pf, .int .u16 ps, .int .u8 pr] 24)
  replace ho16 := own_alloc ho16 (.cells #[.int .u8 pk, .int .u8 pf, .int .u16 ps, .int .u8 pr] 24)
  have hX7 := Blk.new v7 24 #[.int .u8 pk, .int .u8 pf, .int .u16 ps, .int .u8 pr]
  clear RD JD OF JF MA JA FA FJ hx
  obtain ⟨tr, htr⟩ : ∃ tr, okI k f r = tr := ⟨_, rfl⟩
  have r1 := fun w => (right_calls k f s r tr htr w).mono (R' := fun e w' => e = .returned (.bool tr) ∧ Below w.heap.size w w') fun e w' ⟨h1, h2⟩ => ⟨h1, by rw [← h2]; exact below_alloc (Below.refl _ _) _⟩
  have r2 := fun w => (jright_calls k f s r tr htr w).mono (R' := fun e w' => e = .returned (.bool tr) ∧ Below w.heap.size w w') fun e w' ⟨h1, h2⟩ => ⟨h1, by rw [← h2]; exact below_alloc (Below.refl _ _) _⟩
  have l1 := less_calls k f s r k' f' s' r'
  have l2 := jless_calls k f s r k' f' s' r'
  generalize lessI k f s r k' f' s' r' = lz at l1 l2
  have G1 := Lib.hid r1
  have G2 := Lib.hid r2
  have L1 := Lib.hid l1
  have L2 := Lib.hid l2
  clear r1 r2 l1 l2 htr
  go_upto_region 10 with fail
  generalize hwz : v7.alloc (.cells #[.int .u8 pk, .int .u8 pf, .int .u16 ps, .int .u8 pr] 24) = wz at hI hX2 hX3 hX4 hX5 hX6 hX7 ho10 ho16 ⊢
  clear hwz hb hbw
  have keepL : ∀ w' : World, Below wz.heap.size wz w' → (w'.cell? ⟨w.heap.size, 0, none⟩ = some (.int .u8 k) ∧ w'.cell? ⟨w.heap.size, 1, none⟩ = some (.int .u8 f) ∧ w'.cell? ⟨w.heap.size, 2, none⟩ = some (.int .u16 s) ∧ w'.cell? ⟨w.heap.size, 3, none⟩ = some (.int .u8 r) ∧ w'.cell? ⟨w.heap.size + 1, 0, none⟩ = some (.int .u8 k') ∧ w'.cell? ⟨w.heap.size + 1, 1, none⟩ = some (.int .u8 f') ∧ w'.cell? ⟨w.heap.size + 1, 2, none⟩ = some (.int .u16 s') ∧ w'.cell? ⟨w.heap.size + 1, 3, none⟩ = some (.int .u8 r') ∧ w'.cell? ⟨v2.heap.size, 0, none⟩ = some (.int .u8 qk) ∧ w'.cell? ⟨v2.heap.size, 1, none⟩ = some (.int .u8 qf) ∧ w'.cell? ⟨v2.heap.size, 2, none⟩ = some (.int .u16 qs) ∧ w'.cell? ⟨v2.heap.size, 3, none⟩ = some (.int .u8 qr) ∧ w'.cell? ⟨v3.heap.size, 0, none⟩ = some (.int .u8 qk) ∧ w'.cell? ⟨v3.heap.size, 1, none⟩ = some (.int .u8 qf) ∧ w'.cell? ⟨v3.heap.size, 2, none⟩ = some (.int .u16 qs) ∧ w'.cell? ⟨v3.heap.size, 3, none⟩ = some (.int .u8 qr) ∧ w'.cell? ⟨v4.heap.size, 0, none⟩ = some (.int .u32 q.id) ∧ w'.cell? ⟨v4.heap.size, 1, none⟩ = some (.bool q.x) ∧ w'.cell? ⟨v4.heap.size, 2, none⟩ = some (.bool false) ∧ w'.cell? ⟨v4.heap.size, 3, none⟩ = some (.int .u8 q.d) ∧ w'.cell? ⟨v4.heap.size, 4, none⟩ = some (.slice B1 q.ds.length c1) ∧ w'.cell? ⟨v5.heap.size, 0, none⟩ = some (.int .u32 q.id) ∧ w'.cell? ⟨v5.heap.size, 1, none⟩ = some (.bool q.x) ∧ w'.cell? ⟨v5.heap.size, 2, none⟩ = some (.bool false) ∧ w'.cell? ⟨v5.heap.size, 3, none⟩ = some (.int .u8 q.d) ∧ w'.cell? ⟨v5.heap.size, 4, none⟩ = some (.slice B2 q.ds.length c3) ∧ w'.cell? ⟨v6.heap.size, 0, none⟩ = some (.int .u8 pk) ∧ w'.cell? ⟨v6.heap.size, 1, none⟩ = some (.int .u8 pf) ∧ w'.cell? ⟨v6.heap.size, 2, none⟩ = some (.int .u16 ps) ∧ w'.cell? ⟨v6.heap.size, 3, none⟩ = some (.int .u8 pr) ∧ w'.cell? ⟨v7.heap.size, 0, none⟩ = some (.int .u8 pk) ∧ w'.cell? ⟨v7.heap.size, 1, none⟩ = some (.int .u8 pf) ∧ w'.cell? ⟨v7.heap.size, 2, none⟩ = some (.int .u16 ps) ∧ w'.cell? ⟨v7.heap.size, 3, none⟩ = some (.int .u8 pr) ∧ Below wz.heap.size wz w') := fun w' hb => ⟨(hI.1.below hb hI.1.lt).cell 0, (hI.1.below hb hI.1.lt).cell 1, (hI.1.below hb hI.1.lt).cell 2, (hI.1.below hb hI.1.lt).cell 3, (hI.2.1.below hb hI.2.1.lt).cell 0, (hI.2.1.below hb hI.2.1.lt).cell 1, (hI.2.1.below hb hI.2.1.lt).cell 2, (hI.2.1.below hb hI.2.1.lt).cell 3, (hX2.below hb hX2.lt).cell 0, (hX2.below hb hX2.lt).cell 1, (hX2.below hb hX2.lt).cell 2, (hX2.below hb hX2.lt).cell 3, (hX3.below hb hX3.lt).cell 0, (hX3.below hb hX3.lt).cell 1, (hX3.below hb hX3.lt).cell 2, (hX3.below hb hX3.lt).cell 3, (hX4.below hb hX4.lt).cell 0, (hX4.below hb hX4.lt).cell 1, (hX4.below hb hX4.lt).cell 2, (hX4.below hb hX4.lt).cell 3, (hX4.below hb hX4.lt).cell 4, (hX5.below hb hX5.lt).cell 0, (hX5.below hb hX5.lt).cell 1, (hX5.below hb hX5.lt).cell 2, (hX5.below hb hX5.lt).cell 3, (hX5.below hb hX5.lt).cell 4, (hX6.below hb hX6.lt).cell 0, (hX6.below hb hX6.lt).cell 1, (hX6.below hb hX6.lt).cell 2, (hX6.below hb hX6.lt).cell 3, (hX7.below hb hX7.lt).cell 0, (hX7.below hb hX7.lt).cell 1, (hX7.below hb hX7.lt).cell 2, (hX7.below hb hX7.lt).cell 3, hb⟩
  have R1 := Lib.hid (Reads.of_own ho10)
  have R2 := Lib.hid (Reads.of_own ho16)
  have hWz := hI.2.2.2.2
  have hbz := hI.2.2.2.1
  have KL := Lib.hid keepL
  clear keepL hI hX2 hX3 hX4 hX5 hX6 hX7 ho10 ho16
  go_region_held3 (fun w' => w'.cell? ⟨w.heap.size, 0, none⟩ = some (.int .u8 k) ∧ w'.cell? ⟨w.heap.size, 1, none⟩ = some (.int .u8 f) ∧ w'.cell? ⟨w.heap.size, 2, none⟩ = some (.int .u16 s) ∧ w'.cell? ⟨w.heap.size, 3, none⟩ = some (.int .u8 r) ∧ w'.cell? ⟨w.heap.size + 1, 0, none⟩ = some (.int .u8 k') ∧ w'.cell? ⟨w.heap.size + 1, 1, none⟩ = some (.int .u8 f') ∧ w'.cell? ⟨w.heap.size + 1, 2, none⟩ = some (.int .u16 s') ∧ w'.cell? ⟨w.heap.size + 1, 3, none⟩ = some (.int .u8 r') ∧ w'.cell? ⟨v2.heap.size, 0, none⟩ = some (.int .u8 qk) ∧ w'.cell? ⟨v2.heap.size, 1, none⟩ = some (.int .u8 qf) ∧ w'.cell? ⟨v2.heap.size, 2, none⟩ = some (.int .u16 qs) ∧ w'.cell? ⟨v2.heap.size, 3, none⟩ = some (.int .u8 qr) ∧ w'.cell? ⟨v3.heap.size, 0, none⟩ = some (.int .u8 qk) ∧ w'.cell? ⟨v3.heap.size, 1, none⟩ = some (.int .u8 qf) ∧ w'.cell? ⟨v3.heap.size, 2, none⟩ = some (.int .u16 qs) ∧ w'.cell? ⟨v3.heap.size, 3, none⟩ = some (.int .u8 qr) ∧ w'.cell? ⟨v4.heap.size, 0, none⟩ = some (.int .u32 q.id) ∧ w'.cell? ⟨v4.heap.size, 1, none⟩ = some (.bool q.x) ∧ w'.cell? ⟨v4.heap.size, 2, none⟩ = some (.bool false) ∧ w'.cell? ⟨v4.heap.size, 3, none⟩ = some (.int .u8 q.d) ∧ w'.cell? ⟨v4.heap.size, 4, none⟩ = some (.slice B1 q.ds.length c1) ∧ w'.cell? ⟨v5.heap.size, 0, none⟩ = some (.int .u32 q.id) ∧ w'.cell? ⟨v5.heap.size, 1, none⟩ = some (.bool q.x) ∧ w'.cell? ⟨v5.heap.size, 2, none⟩ = some (.bool false) ∧ w'.cell? ⟨v5.heap.size, 3, none⟩ = some (.int .u8 q.d) ∧ w'.cell? ⟨v5.heap.size, 4, none⟩ = some (.slice B2 q.ds.length c3) ∧ w'.cell? ⟨v6.heap.size, 0, none⟩ = some (.int .u8 pk) ∧ w'.cell? ⟨v6.heap.size, 1, none⟩ = some (.int .u8 pf) ∧ w'.cell? ⟨v6.heap.size, 2, none⟩ = some (.int .u16 ps) ∧ w'.cell? ⟨v6.heap.size, 3, none⟩ = some (.int .u8 pr) ∧ w'.cell? ⟨v7.heap.size, 0, none⟩ = some (.int .u8 pk) ∧ w'.cell? ⟨v7.heap.size, 1, none⟩ = some (.int .u8 pf) ∧ w'.cell? ⟨v7.heap.size, 2, none⟩ = some (.int .u16 ps) ∧ w'.cell? ⟨v7.heap.size, 3, none⟩ = some (.int .u8 pr) ∧ Below wz.heap.size wz w') (exact KL.out _ (by first | assumption | exact (Below.refl wz.heap.size wz).drew)) (first
    | (go_at_call 9; refine (G1.out _).mono ?_; rintro e w2 ⟨rfl, hb2⟩; have hB2 := tr_ (W := wz) (by first | assumption | exact (Below.refl wz.heap.size wz).drew) hb2)
    | (go_at_call 18; refine (G2.out _).mono ?_; rintro e w2 ⟨rfl, hb2⟩; have hB2 := tr_ (W := wz) (by first | assumption | exact (Below.refl wz.heap.size wz).drew) hb2)
    | (go_at_call 19; refine (same_calls _ _ _ _ _ _ _ _ _ _ _ ((R1.out.below (by first | assumption | exact (Below.refl wz.heap.size wz).drew)).more (below_size (B := wz.heap.size) (w := wz) (by first | assumption | exact (Below.refl wz.heap.size wz).drew))) ((R2.out.below (by first | assumption | exact (Below.refl wz.heap.size wz).drew)).more (below_size (B := wz.heap.size) (w := wz) (by first | assumption | exact (Below.refl wz.heap.size wz).drew))) (by omega)).mono ?_; rintro e w2 ⟨rfl, hb2⟩; have hB2 := tr_ (W := wz) (by first | assumption | exact (Below.refl wz.heap.size wz).drew) hb2)
    | (go_at_call 20; refine (L1.out _).mono ?_; rintro e w2 ⟨rfl, hb2⟩; have hB2 := tr_ (W := wz) (by first | assumption | exact (Below.refl wz.heap.size wz).drew) hb2)
    | (go_at_call 21; refine (L2.out _).mono ?_; rintro e w2 ⟨rfl, hb2⟩; have hB2 := tr_ (W := wz) (by first | assumption | exact (Below.refl wz.heap.size wz).drew) hb2)
    | (go_at_call 11; refine (awake_calls _ (hWz.below (by first | assumption | exact (Below.refl wz.heap.size wz).drew) hWz.1)).mono ?_; rintro e w2 ⟨rfl, hb2⟩; have hB2 := tr_ (W := wz) (by first | assumption | exact (Below.refl wz.heap.size wz).drew) hb2))
  go_wp2
  go_returns
  exact ⟨rfl, hbz.trans (hB2.mono hbz.size)⟩
end Go.Proofs.YtnmcmgecdcnbiaaDoor
