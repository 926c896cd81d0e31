/- IdentBack: what is made is read, and what is read is made; the frame of a right ident says it; data are in memory of their own. -/
import Derived.Test.YtnmcmgecdcnbiaaDoorI5
import Derived.Deep.DeepCutAuto
import Derived.Deep.CutBlock
import Derived.Deep.LoopGhost
namespace Go.Proofs.YtnmcmgecdcnbiaaDoor
open Go.RowKit
set_option maxRecDepth 100000
set_option maxHeartbeats 6400000
set_option linter.unusedVariables false
theorem mk_read (id : Int) (h : id / 16 / 65536 / 32 / 16 = 0) : mkI (kI id) (fI id) (sI id) (rI id) = id := by
  unfold mkI kI fI sI rI; omega
theorem read_mk (k f s r : Int) (h : okI k f r = true) (hk : 0 ≤ k) (hf : 0 ≤ f) (hs : 0 ≤ s ∧ s ≤ 65535) (hr : 0 ≤ r) : readV (mkI k f s r) = (.agg #[.int .u8 k, .int .u8 f, .int .u16 s, .int .u8 r], true) ∧ 0 ≤ mkI k f s r ∧ mkI k f s r ≤ 536870911 := by
  obtain ⟨k1, f1, r1⟩ : k ≤ 9 ∧ f ≤ 31 ∧ r ≤ 15 := by unfold okI at h; simp at h; exact ⟨h.1.1, h.1.2, h.2⟩
  have e0 : mkI k f s r / 16 / 65536 / 32 / 16 = 0 := by unfold mkI; omega
  have e1 : kI (mkI k f s r) = k := by unfold mkI kI; omega
  have e2 : fI (mkI k f s r) = f := by unfold mkI fI; omega
  have e3 : sI (mkI k f s r) = s := by unfold mkI sI; omega
  have e4 : rI (mkI k f s r) = r := by unfold mkI rI; omega
  refine ⟨?_, by unfold mkI; omega, by unfold mkI; omega⟩
  unfold readV
  rw [e0, e1, e2, e3, e4, if_pos (by simp [k1])]
theorem of_mk (k f s r : Int) (n : Nat) (h : okI k f r = true) (hk : 0 ≤ k) (hf : 0 ≤ f) (hs : 0 ≤ s ∧ s ≤ 65535) (hr : 0 ≤ r) (hn : n ≤ 8) :
    frightI (mkI k f s r) (n : Int) true false n = true ∧ ofV (mkI k f s r) (n : Int) true false n = (.agg #[.int .u8 k, .int .u8 f, .int .u16 s, .int .u8 r], true) := by
  obtain ⟨h1, h2, h3⟩ := read_mk k f s r h hk hf hs hr
  have h5 : longI false (n : Int) = n := by unfold longI; rw [if_neg (by decide), if_neg (by omega)]
  have h4 : frightI (mkI k f s r) (n : Int) true false n = true := by
    unfold frightI
    rw [h5]
    simp
    omega
  refine ⟨h4, ?_⟩
  unfold ofV
  rw [h4, if_pos (by rfl), h1]
def u8s (ds : List Int) : List Value := ds.map (Value.int .u8)
theorem readV_spec (id : Int) (h0 : 0 ≤ id) : ∃ k f s r o, readV id = (.agg #[.int .u8 k, .int .u8 f, .int .u16 s, .int .u8 r], o) ∧ (o = true → okI k f r = true ∧ 0 ≤ k ∧ 0 ≤ f ∧ (0 ≤ s ∧ s ≤ 65535) ∧ 0 ≤ r ∧ mkI k f s r = id) := by
  by_cases hc : (decide (id / 16 / 65536 / 32 / 16 = 0) && decide (kI id ≤ 9)) = true
  · refine ⟨kI id, fI id, sI id, rI id, true, by unfold readV; rw [if_pos hc], fun _ => ?_⟩
    simp at hc
    refine ⟨?_, by unfold kI; omega, by unfold fI; omega, by unfold sI; omega, by unfold rI; omega, mk_read id hc.1⟩
    unfold okI fI rI
    simp
    omega
  · exact ⟨0, 0, 0, 0, false, by unfold readV; rw [if_neg hc], fun h => by cases h⟩
/-- What is known of memory: the ident, the data that are the call's own. -/
def St (w wr : World) (k f s r : Int) (A : Option Addr) (m c : Nat) (es : List Int) : Prop :=
  Blk wr w.heap.size 24 #[.int .u8 k, .int .u8 f, .int .u16 s, .int .u8 r] ∧ wr.ownsRow (w.heap.size + 1) 5 1 (.slice A m c) m (u8s es) ∧ Below w.heap.size w wr ∧ Wid wr
theorem St.below {w wr w1 : World} {k f s r : Int} {A : Option Addr} {m c : Nat} {es : List Int} {K : Nat} (h : St w wr k f s r A m c es) (hb : Below K wr w1) (hK : wr.heap.size ≤ K) : St w w1 k f s r A m c es :=
  ⟨h.1.below hb (by have := h.1.lt; omega), own_below h.2.1 hb hK, h.2.2.1.trans (hb.mono (by have := h.2.2.1.size; omega)), h.2.2.2.below hb (by have := h.2.2.2.1; omega)⟩
theorem St.alloc {w wr : World} {k f s r : Int} {A : Option Addr} {m c : Nat} {es : List Int} (h : St w wr k f s r A m c es) (o : Obj) : St w (wr.alloc o) k f s r A m c es := h.below ((Below.refl _ _).alloc (Nat.le_refl _) o) (Nat.le_refl _)
theorem Reads.take {w : World} {B n : Nat} {A : Option Addr} {xs : List Value} (h : Reads w B 1 A n xs) {m : Nat} (hm : m ≤ n) : Reads w B 1 A m (xs.take m) :=
  ⟨by rw [List.length_take, h.1]; omega, fun h0 => by
    obtain ⟨ad, e, hb, hc⟩ := h.2 (by omega)
    refine ⟨ad, e, hb, fun j u hu => hc j u ?_⟩
    rw [List.getElem?_take] at hu
    split at hu
    · exact hu
    · cases hu⟩
theorem u8s_one (ds : List Int) : ∀ u ∈ u8s ds, u.oneCell' = true := by
  intro u hu
  obtain ⟨d, _, rfl⟩ := List.mem_map.1 hu
  rfl
theorem own_drewN {w : World} {base n : Nat} {e : TypeId} {size : Nat} {v : Value} {xs : List Value} (h : w.ownsRow base e size v n xs) (q : Nat) : (w.drewN q).ownsRow base e size v n xs := h
def inc (j : Nat) (es : List Int) : List Int := (es.take j).map (fun d => (d + 1) % 256) ++ es.drop j
theorem inc_at (es : List Int) (j : Nat) (d : Int) (h : es[j]? = some d) : (u8s (inc j es))[j]? = some (.int .u8 d) ∧ (u8s es)[j]? = some (.int .u8 d) ∧ (u8s (inc j es)).set j (.int .u8 ((d + 1) % 256)) = u8s (inc (j + 1) es) := by
  have hj : j < es.length := by
    rcases Nat.lt_or_ge j es.length with h1 | h1
    · exact h1
    · rw [List.getElem?_eq_none h1] at h; cases h
  have e : es[j] = d := by rw [List.getElem?_eq_getElem hj] at h; injection h
  have hl : ((es.take j).map (fun d => (d + 1) % 256)).length = j := by simp; omega
  refine ⟨?_, by simp [u8s, h], ?_⟩
  · unfold u8s inc
    rw [List.getElem?_map, List.getElem?_append_right (by omega), hl]
    simp [h]
  · unfold u8s inc
    rw [← List.map_set, List.set_append_right _ _ (by omega), hl, Nat.sub_self, List.take_succ_eq_append_getElem hj, List.drop_eq_getElem_cons hj, List.map_append]
    simp [e]
def Lp (w wr : World) (gF b2 : Nat) (M : Int) (A : Option Addr) (m c : Nat) (B : Option Addr) (c2 : Nat) (es : List Int) (j : Nat) : Prop :=
  Blk wr gF 34 #[.int .u32 M, .bool true, .bool false, .int .u8 (m : Int), .slice B m c2] ∧ wr.ownsRow (w.heap.size + 1) 5 1 (.slice A m c) m (u8s (inc j es)) ∧ wr.ownsRow b2 5 1 (.slice B m c2) m (u8s es) ∧ Below w.heap.size w wr ∧ Wid wr
theorem back_calls (k f s r id : Int) (hk : 0 ≤ k ∧ k ≤ 255) (hf : 0 ≤ f ∧ f ≤ 255) (hs : 0 ≤ s ∧ s ≤ 65535) (hr : 0 ≤ r ∧ r ≤ 255) (hid : 0 ≤ id ∧ id ≤ 4294967295)
    (A : Option Addr) (n c : Nat) (ds : List Int) (w : World) (hw : Wid w) (hx : Reads w w.heap.size 1 A n (u8s ds)) (hd : ∀ d ∈ ds, 0 ≤ d ∧ d ≤ 255) (hc : n ≤ c) (hm : c ≤ maxLen) :
    Calls Tryd.prog 3 #[.agg #[.int .u8 k, .int .u8 f, .int .u16 s, .int .u8 r], .int .u32 id, .slice A n c] w fun e w' => e = .returned (.bool true) ∧ Below w.heap.size w w' := by
  obtain ⟨i0, hi, hz0, hz1, hz2⟩ := info_parts Tryd.info5
  unfold maxLen at hm
  go_enter Tryd.func3, Tryd.ntmps3
  go_upto_region 1 with fail
  go_cut [2] (fun s2 wc => ∃ (A' : Option Addr) (m c' : Nat) (es : List Int), s2 = .slice A' m c' ∧ m ≤ 8 ∧ (∀ d ∈ es, 0 ≤ d ∧ d ≤ 255) ∧ St w wc k f s r A' m c' es)
  case first =>
    by_cases h8 : (8 : Int) < (n : Int)
    · have hr8 := hx.take (m := 8) (by omega)
      go_wp2_with (at_builtin; go_must (refine wpList_append_any _ rfl _ _ 26 rfl (w.heap.size + 1) 5 i0 _ 1 1 Tryd.underlying26 hi hz0 hz1 hz2 rfl (by decide) _ _ _ rfl (own_new _ [] 5 _ _ 1 0 (by simp) (by simp) rfl (by decide)) _ _ 8 _ _ rfl ((hr8.alloc (Nat.le_refl _) _).alloc (by simp) _) (fun u hu => u8s_one ds u (List.mem_of_mem_take hu)) ?_ ?_ ?_ ?_))
      any_goals (first | (simp only [maxLen]; omega) | omega | (simp; done))
      · intro v' w1 hown hg hloc
        obtain ⟨A', c', rfl, -⟩ := own_reads hown
        go_wp2
        go_meet
        have hb1 : Below w.heap.size w w1 := (blw2 ..).grown hg (by simp; omega) (fun k hk => by simp [Value.ownBlock] at hk; omega)
        exact ⟨A', 8, c', ds.take 8, rfl, by omega, fun d hd' => hd d (List.mem_of_mem_take hd'), ((Blk.new w 24 _).alloc _).grown hg (by simp [Value.ownBlock]), by simpa [u8s, List.map_take] using hown, hb1, hw.below hb1 hw.1⟩
    · go_wp2_with (at_builtin; go_must (refine wpList_append_any _ rfl _ _ 26 rfl (w.heap.size + 1) 5 i0 _ 1 1 Tryd.underlying26 hi hz0 hz1 hz2 rfl (by decide) _ _ _ rfl (own_new _ [] 5 _ _ 1 0 (by simp) (by simp) rfl (by decide)) _ _ n _ _ rfl ((hx.alloc (Nat.le_refl _) _).alloc (by simp) _) (u8s_one ds) ?_ ?_ ?_ ?_))
      any_goals (first | (simp only [maxLen]; omega) | omega | (simp; done))
      · intro v' w1 hown hg hloc
        obtain ⟨A', c', rfl, -⟩ := own_reads hown
        go_wp2
        go_meet
        have hb1 : Below w.heap.size w w1 := (blw2 ..).grown hg (by simp; omega) (fun k hk => by simp [Value.ownBlock] at hk; omega)
        exact ⟨A', n, c', ds, rfl, by omega, hd, ((Blk.new w 24 _).alloc _).grown hg (by simp [Value.ownBlock]), by simpa [u8s, List.map_take] using hown, hb1, hw.below hb1 hw.1⟩
  case rest =>
  obtain ⟨A', m, c', es, rfl, hm8, hes, hst⟩ := hcut
  clear hx hd hc hm hw
  obtain ⟨qk, qf, qs, qr, o, hq, hqo⟩ := readV_spec id hid.1
  have rd := read_calls id hid.1 hid.2
  rw [hq] at rd
  have RD := Lib.hid rd
  have HQO := Lib.hid hqo
  clear rd hqo hq
  obtain ⟨z0, z1, z2, z3, -⟩ := hst.1.four
  go_upto_if 32 with (go_at_call 7; refine (RD.out _ hst.2.2.2).mono ?_; rintro e w1 ⟨rfl, hb1⟩)
  have hst1 := (hst.below hb1 (Nat.le_refl _)).alloc (.cells #[.int .u8 qk, .int .u8 qf, .int .u16 qs, .int .u8 qr] 24)
  have hQ := Blk.new w1 24 #[.int .u8 qk, .int .u8 qf, .int .u16 qs, .int .u8 qr]
  generalize hWx : w1.alloc (.cells #[.int .u8 qk, .int .u8 qf, .int .u16 qs, .int .u8 qr] 24) = wx at hst1 hQ ⊢
  generalize hgx : w1.heap.size = gx at hQ ⊢
  clear hWx hgx hb1 hst z0 z1 z2 z3 RD
  go_cut [2] (fun s2 wd => s2 = .slice A' m c' ∧ St w wd k f s r A' m c' es)
  case first =>
    cases o with
    | false =>
      go_wp2_with fail
      go_meet
      exact ⟨rfl, hst1⟩
    | true =>
      obtain ⟨q1, q2, q3, q4, q5, q6⟩ := HQO.out rfl
      obtain ⟨y0, y1, y2, y3, -⟩ := hQ.four
      have hlt := hQ.lt
      have mk := make_yes qk qf qs qr q1 q2 q3 q4 q5
      rw [q6] at mk
      have MK := Lib.hid mk
      clear mk q6
      go_wp2_with (first
        | (go_at_call 8; refine (MK.out _ hst1.2.2.2).mono ?_; rintro e w2 ⟨rfl, hb2⟩; obtain ⟨y0, y1, y2, y3, -⟩ := (hQ.below hb2 hQ.lt).four)
        | (go_at_call 9; refine (right_calls qk qf qs qr true q1 _).mono ?_; rintro e w3 ⟨rfl, rfl⟩))
      go_meet
      exact ⟨rfl, (hst1.below hb2 (Nat.le_refl _)).alloc _⟩
  case rest =>
  obtain ⟨rfl, hst2⟩ := hcut
  clear hst1 hQ HQO
  obtain ⟨z0, z1, z2, z3, -⟩ := hst2.1.four
  have hlt2 := hst2.1.lt
  cases hok : okI k f r with
  | false =>
    have HOK := Lib.hid hok
    clear hok
    go_wp2_with fail
    refine (make_no k f s r HOK.out _).mono ?_
    rintro e w3 ⟨rfl, hb3⟩
    have hst3 := hst2.below hb3 (Nat.le_refl _)
    clear z0 z1 z2 z3 hlt2
    obtain ⟨z0, z1, z2, z3, -⟩ := hst3.1.four
    have hlt3 := hst3.1.lt
    go_wp2_with fail
    refine (frame_no k f s r _ _ _ HOK.out _).mono ?_
    rintro e w4 ⟨rfl, hb4⟩
    have hst4 := hst3.below hb4 (Nat.le_refl _)
    clear z0 z1 z2 z3 hlt3
    obtain ⟨z0, z1, z2, z3, -⟩ := hst4.1.four
    have hlt4 := hst4.1.lt
    unfold zeroF
    go_wp2_with fail
    refine (right_calls k f s r false HOK.out _).mono ?_
    rintro e w5 ⟨rfl, rfl⟩
    go_wp2_with fail
    refine (awake_calls _ ((hst4.2.2.2.alloc _).alloc _)).mono ?_
    rintro e w6 ⟨rfl, hb6⟩
    go_wp2_with fail
    go_returns
    exact ⟨rfl, hst4.2.2.1.trans ((after2 hb6).2.2.2.mono hst4.2.2.1.size)⟩
  | true =>
    have HOK := Lib.hid hok
    clear hok
    obtain ⟨rm1, rm2, rm3⟩ := read_mk k f s r HOK.out hk.1 hf.1 hs hr.1
    obtain ⟨om1, om2⟩ := of_mk k f s r m HOK.out hk.1 hf.1 hs hr.1 hm8
    have RM1 := Lib.hid rm1
    have OM1 := Lib.hid om1
    have OM2 := Lib.hid om2
    clear rm1 om1 om2
    go_wp2_with fail
    refine (make_yes k f s r HOK.out hk.1 hf.1 hs hr.1 _ hst2.2.2.2).mono ?_
    rintro e w3 ⟨rfl, hb3⟩
    have hst3 := hst2.below hb3 (Nat.le_refl _)
    clear z0 z1 z2 z3 hlt2
    obtain ⟨z0, z1, z2, z3, -⟩ := hst3.1.four
    have hlt3 := hst3.1.lt
    generalize hM : mkI k f s r = M at rm2 rm3 RM1 OM1 OM2 ⊢
    have HM := Lib.hid hM
    clear hM
    go_wp2_with fail
    refine (frame_yes k f s r _ _ _ _ HOK.out hk.1 hf.1 hs hr.1 hm8 _ hst3.2.2.2 (Reads.of_own hst3.2.1) (u8s_one es)).mono ?_
    rintro e w4 ⟨B2, m2, rfl, hown4, hb4⟩
    rw [HM.out]
    have hst4 := hst3.below hb4 (Nat.le_refl _)
    clear z0 z1 z2 z3 hlt3
    obtain ⟨z0, z1, z2, z3, -⟩ := hst4.1.four
    have hlt4 := hst4.1.lt
    go_wp2_with fail
    refine (right_calls k f s r true HOK.out _).mono ?_
    rintro e w5 ⟨rfl, rfl⟩
    have hst5 := (hst4.alloc (.cells #[.int .u32 M, .bool true, .bool false, .int .u8 (m : Int), .slice B2 m m2] 34)).alloc (.cells #[.int .u8 k, .int .u8 f, .int .u16 s, .int .u8 r] 24)
    have hown5 := own_alloc (own_alloc hown4 (.cells #[.int .u32 M, .bool true, .bool false, .int .u8 (m : Int), .slice B2 m m2] 34)) (.cells #[.int .u8 k, .int .u8 f, .int .u16 s, .int .u8 r] 24)
    have hF5 := (Blk.new w4 34 #[.int .u32 M, .bool true, .bool false, .int .u8 (m : Int), .slice B2 m m2]).alloc (.cells #[.int .u8 k, .int .u8 f, .int .u16 s, .int .u8 r] 24)
    have rd := read_calls M rm2 (by omega)
    rw [RM1.out] at rd
    have RD := Lib.hid rd
    clear rd
    go_wp2_with fail
    refine (RD.out _ hst5.2.2.2).mono ?_
    rintro e w6 ⟨rfl, hb6⟩
    have hst6 := (hst5.below hb6 (Nat.le_refl _)).alloc (.cells #[.int .u8 k, .int .u8 f, .int .u16 s, .int .u8 r] 24)
    have hown6 := own_alloc (own_below hown5 hb6 (Nat.le_refl _)) (.cells #[.int .u8 k, .int .u8 f, .int .u16 s, .int .u8 r] 24)
    have hF6' := hF5.below hb6 hF5.lt
    have hF6 := hF6'.alloc (.cells #[.int .u8 k, .int .u8 f, .int .u16 s, .int .u8 r] 24)
    have hX6 := Blk.new w6 24 #[.int .u8 k, .int .u8 f, .int .u16 s, .int .u8 r]
    obtain ⟨f0, f1, f2, f3, f4, -⟩ := hF6'.five
    have hltf := hF6'.lt
    clear z0 z1 z2 z3 hlt4
    have of := of_calls M m true false B2 m m2 rm2 (by omega) (by omega)
    rw [OM2.out] at of
    have OF := Lib.hid of
    clear of
    go_wp2_with fail
    refine (OF.out _ hst6.2.2.2).mono ?_
    rintro e w7 ⟨rfl, hb7⟩
    have hst7 := (hst6.below hb7 (Nat.le_refl _))
    have hown7 := own_below hown6 hb7 (Nat.le_refl _)
    have hF7 := hF6.below hb7 hF6.lt
    have hX7 := hX6.below hb7 hX6.lt
    clear f0 f1 f2 f3 f4 hltf
    obtain ⟨f0, f1, f2, f3, f4, -⟩ := hF7.five
    have hltf := hF7.lt
    obtain ⟨x0, x1, x2, x3, -⟩ := hX7.four
    have hltx := hX7.lt
    obtain ⟨z0, z1, z2, z3, -⟩ := hst7.1.four
    have hltz := hst7.1.lt
    go_wp2_with fail
    refine (fright_calls M m true false B2 m m2 (by omega) _ OM1.out _).mono ?_
    rintro e w8 ⟨rfl, hb8⟩
    have hst8 := (hst7.alloc (.cells #[.int .u8 k, .int .u8 f, .int .u16 s, .int .u8 r] 24)).below hb8 (Nat.le_refl _)
    have hown8 := own_below (own_alloc hown7 (.cells #[.int .u8 k, .int .u8 f, .int .u16 s, .int .u8 r] 24)) hb8 (Nat.le_refl _)
    have hF8 := (hF7.alloc (.cells #[.int .u8 k, .int .u8 f, .int .u16 s, .int .u8 r] 24)).below hb8 (hF7.alloc _).lt
    clear f0 f1 f2 f3 f4 hltf x0 x1 x2 x3 hltx z0 z1 z2 z3 hltz
    have hms : (m : Int) ≤ 8 := by omega
    have hldd := own_lt hst3.2.1
    have hlt3' : w.heap.size + 1 ≤ w3.heap.size := by have := hst3.1.lt; omega
    have hg4 : w3.heap.size ≤ w4.heap.size := hb4.size
    clear hst2 hst3 hst4 hst5 hst6 hst7 hown4 hown5 hown6 hown7 hF5 hF6 hF6' hF7 hX6 hX7 hb3 hb4 hb6 hb7 hb8 RD OF OM1 OM2 RM1
    go_wp2_with fail
    go_loopg [122] (m + 1) (fun g i wr => ∃ j : Nat, g + j = m + 1 ∧ j ≤ m ∧ i = .int .i64 j ∧ Lp w wr w4.heap.size w3.heap.size M A' m c' B2 m2 es j)
    case atStart => exact ⟨0, by omega, by omega, rfl, hF8, by simpa [inc] using hst8.2.1, hown8, hst8.2.2.1, hst8.2.2.2⟩
    case round =>
      obtain ⟨j, hg, hj, rfl, hF, hA, hB, hbw, hWd⟩ := hrel
      clear hst8 hown8 hF8
      by_cases hlt : j < m
      · obtain ⟨g, cap, hv, hgb, hgl⟩ := hA.form (by omega)
        obtain ⟨g2, cap2, hv2, hgb2, hgl2⟩ := hB.form (by omega)
        injection hv with e1 e2 e3
        injection hv2 with e4 e5 e6
        subst e1 e4
        clear e2 e3 e5 e6
        have hgd := hldd g rfl
        have n1 : ¬ g = g2 := by omega
        have n2 : ¬ g = w4.heap.size := by omega
        have n3 : ¬ g2 = g := by omega
        have n4 : ¬ w4.heap.size = g := by omega
        obtain ⟨d, hdv⟩ : ∃ d, es[j]? = some d := ⟨_, List.getElem?_eq_getElem (by have := hB.1; simp [u8s] at this; omega)⟩
        obtain ⟨hi1, hi2, hi3⟩ := inc_at es j d hdv
        have dd := hes d (List.mem_of_getElem? hdv)
        have d0 := dd.1
        have d1 := dd.2
        have a0 : wr.cell? ⟨g, j, none⟩ = some (.int .u8 d) := (hA.cellAt j (by omega)).trans hi1
        have a1 := hA.frozenAt j
        have b0 : wr.cell? ⟨g2, j, none⟩ = some (.int .u8 d) := (hB.cellAt j (by omega)).trans hi2
        obtain ⟨f0, f1, f2, f3, f4, -⟩ := hF.five
        have hst := hA.stored j (.int .u8 ((d + 1) % 256))
        have hne : (d == (d + 1) % 256) = false := by simp; omega
        have HST := Lib.hid hst
        have HI3 := Lib.hid hi3
        clear hst hldd hdv hi1 hi2 hi3 hes dd
        go_wp2_with fail
        go_quiet (fail)
        go_wp2_with fail
        go_roundg (m - j)
        case measure => omega
        case rel =>
          refine ⟨j + 1, by omega, by omega, by go_num, (hF.far n4 _).drewN nq, ?_, own_drewN (own_set hB (p := ⟨g, j, none⟩) hgd _) nq, below_dn (hbw.setCell (p := ⟨g, j, none⟩) (by dsimp only; omega) _) nq, hWd.below (below_dn ((Below.refl g wr).setCell (p := ⟨g, j, none⟩) (Nat.le_refl _) _) nq) (by omega)⟩
          rw [← HI3.out]
          exact own_drewN HST.out.1 nq
      · have hge : m ≤ j := by omega
        obtain ⟨f0, f1, f2, f3, f4, -⟩ := hF.five
        clear hldd hA hB hg hlt hes
        go_wp2_with (go_at_call 11; refine (awake_calls _ hWd).mono ?_; rintro e w9 ⟨rfl, hb9⟩)
        go_returns
        exact ⟨rfl, hbw.trans (hb9.mono hbw.size)⟩
end Go.Proofs.YtnmcmgecdcnbiaaDoor
