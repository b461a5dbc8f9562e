/- Walks: the marks of the exact laws at an argument's copy (units, clusters, requests): only what may be written is written. -/
import Derived.Test.YtlegpecjoaklnaaGreatDoorLawRq
import Derived.Test.YtlegpecjoaklnaaGreatDoorClMark
namespace Go.Proofs.YtlegpecjoaklnaaGreatDoor
set_option linter.unusedSimpArgs false
set_option linter.unusedVariables false
open Go Go.RowKit
attribute [local go_sem ↓] Go.wp_at_zero Go.wp_at_succ

/-- Units that may be written. -/
def SwN (w : World) (lo hi g n : Nat) : Prop := lo ≤ g ∧ g < hi ∧ ∃ vs : List Value, Blk w g 52 vs.toArray ∧ vs.length = n * 2 ∧ ∀ j, j < n → ∃ (o : Bool) (g' m : Nat), vs[j * 2]? = some (.bool o) ∧ vs[j * 2 + 1]? = some (.slice (some ⟨g', 0, none⟩) m m) ∧ m ≤ 1048576 ∧ SwT w lo hi g' m
/-- Requests that may be written. -/
def SwQ (w : World) (lo hi g n : Nat) : Prop := lo ≤ g ∧ g < hi ∧ ∃ vs : List Value, Blk w g 35 vs.toArray ∧ vs.length = n * 5 ∧ ∀ j, j < n → ∃ (kd id : Int) (g' m : Nat) (gr : Bool) (nm : Int), vs[j * 5]? = some (.int .i64 kd) ∧ vs[j * 5 + 1]? = some (.int .i64 id) ∧ vs[j * 5 + 2]? = some (.slice (some ⟨g', 0, none⟩) m m) ∧ vs[j * 5 + 3]? = some (.bool gr) ∧ vs[j * 5 + 4]? = some (.int .i64 nm) ∧ m ≤ 1048576 ∧ SwI w lo hi g' m
section
variable {w w' : World} {lo hi lo' hi' g n : Nat}
theorem SwI.ti (h : SwI w lo hi g n) (k : KeepTI w w') : SwI w' lo hi g n := by
  obtain ⟨h1, h2, xs, h3, h4⟩ := h
  exact ⟨h1, h2, xs, h3, (k g ⟨_, _, .inl rfl, h4⟩).trans h4⟩
theorem SwT.ti (h : SwT w lo hi g n) (k : KeepTI w w') : SwT w' lo hi g n := by
  obtain ⟨h1, h2, vs, h3, h4, h5⟩ := h
  refine ⟨h1, h2, vs, (k g ⟨_, _, .inr rfl, h3⟩).trans h3, h4, fun j hj => ?_⟩
  obtain ⟨a, g', m, e1, e2, e3, e4⟩ := h5 j hj
  exact ⟨a, g', m, e1, e2, e3, e4.ti k⟩
theorem SwN.shp (h : SwN w lo hi g n) (k : Shp w w') : SwN w' lo hi g n := by
  obtain ⟨h1, h2, vs, h3, h4, h5⟩ := h
  refine ⟨h1, h2, vs, k.rest g _ _ (by decide) (by decide) h3, h4, fun j hj => ?_⟩
  obtain ⟨o, g', m, e0, e1, e2, e3⟩ := h5 j hj
  exact ⟨o, g', m, e0, e1, e2, e3.shp k⟩
theorem SwN.flag (h : SwN w lo hi g n) {j : Nat} (hj : j < n) (b : Bool) : SwN (w.setCell ⟨g, j * 2, none⟩ (.bool b)) lo hi g n := by
  obtain ⟨h1, h2, vs, h3, h4, h5⟩ := h
  have hs := h3.set_ (j * 2) (.bool b)
  simp only [pS] at hs
  refine ⟨h1, h2, _, hs, by rw [List.length_set]; exact h4, fun i hi' => ?_⟩
  obtain ⟨o, g', m, e0, e1, e2, e3⟩ := h5 i hi'
  have e3' := e3.ti (KeepTI.set_ h3 (by decide) (by decide) (j * 2) (.bool b))
  by_cases e : i = j
  · subst e
    exact ⟨b, g', m, by rw [List.getElem?_set_self (by omega)], by rw [List.getElem?_set_ne (by omega)]; exact e1, e2, e3'⟩
  · exact ⟨o, g', m, by rw [List.getElem?_set_ne (by omega)]; exact e0, by rw [List.getElem?_set_ne (by omega)]; exact e1, e2, e3'⟩
theorem SwQ.shp (h : SwQ w lo hi g n) (k : Shp w w') : SwQ w' lo hi g n := by
  obtain ⟨h1, h2, vs, h3, h4, h5⟩ := h
  refine ⟨h1, h2, vs, k.rest g _ _ (by decide) (by decide) h3, h4, fun j hj => ?_⟩
  obtain ⟨kd, id, g', m, gr, nm, e0, e1, e2, e3, e4, e5, e6⟩ := h5 j hj
  exact ⟨kd, id, g', m, gr, nm, e0, e1, e2, e3, e4, e5, e6.shp k⟩
/-- The kinds of a request's numbers: which cells hold integers. -/
theorem SwQ.num (h : SwQ w lo hi g n) {j i : Nat} (hj : j < n) (hi5 : i = 0 ∨ i = 1 ∨ i = 4) (x : Int) : SwQ (w.setCell ⟨g, j * 5 + i, none⟩ (.int .i64 x)) lo hi g n := by
  obtain ⟨h1, h2, vs, h3, h4, h5⟩ := h
  have hs := h3.set_ (j * 5 + i) (.int .i64 x)
  simp only [pS] at hs
  refine ⟨h1, h2, _, hs, by rw [List.length_set]; exact h4, fun k hk => ?_⟩
  obtain ⟨kd, id, g', m, gr, nm, e0, e1, e2, e3, e4, e5, e6⟩ := h5 k hk
  have e6' := e6.ti (KeepTI.set_ h3 (by decide) (by decide) (j * 5 + i) (.int .i64 x))
  have q : ∀ d, d < 5 → (vs.set (j * 5 + i) (.int .i64 x))[k * 5 + d]? = if k = j ∧ d = i then some (.int .i64 x) else vs[k * 5 + d]? := fun d hd => by
    by_cases e : k = j ∧ d = i
    · rw [if_pos e, e.1, e.2, List.getElem?_set_self (by omega)]
    · rw [if_neg e, List.getElem?_set_ne (by omega)]
  have q0 := q 0 (by omega)
  have q1 := q 1 (by omega)
  have q2 := q 2 (by omega)
  have q3 := q 3 (by omega)
  have q4 := q 4 (by omega)
  rw [Nat.add_zero] at q0
  rw [e0] at q0
  rw [e1] at q1
  rw [e2, if_neg (by omega)] at q2
  rw [e3, if_neg (by omega)] at q3
  rw [e4] at q4
  refine ⟨if k = j ∧ 0 = i then x else kd, if k = j ∧ 1 = i then x else id, g', m, gr, if k = j ∧ 4 = i then x else nm, ?_, ?_, q2, q3, ?_, e5, e6'⟩
  · rw [q0]; split <;> rfl
  · rw [q1]; split <;> rfl
  · rw [q4]; split <;> rfl
theorem SwQ.flag (h : SwQ w lo hi g n) {j : Nat} (hj : j < n) (b : Bool) : SwQ (w.setCell ⟨g, j * 5 + 3, none⟩ (.bool b)) lo hi g n := by
  obtain ⟨h1, h2, vs, h3, h4, h5⟩ := h
  have hs := h3.set_ (j * 5 + 3) (.bool b)
  simp only [pS] at hs
  refine ⟨h1, h2, _, hs, by rw [List.length_set]; exact h4, fun k hk => ?_⟩
  obtain ⟨kd, id, g', m, gr, nm, e0, e1, e2, e3, e4, e5, e6⟩ := h5 k hk
  have e6' := e6.ti (KeepTI.set_ h3 (by decide) (by decide) (j * 5 + 3) (.bool b))
  refine ⟨kd, id, g', m, if k = j then b else gr, nm, by rw [List.getElem?_set_ne (by omega)]; exact e0, by rw [List.getElem?_set_ne (by omega)]; exact e1, by rw [List.getElem?_set_ne (by omega)]; exact e2, ?_, by rw [List.getElem?_set_ne (by omega)]; exact e4, e5, e6'⟩
  by_cases e : k = j
  · rw [if_pos e, e, List.getElem?_set_self (by omega)]
  · rw [if_neg e, List.getElem?_set_ne (by omega)]; exact e3
/-- What lies there. -/
theorem SwN.at_ (h : SwN w lo hi g n) {j : Nat} (hj : j < n) : ∃ (o : Bool) (g' m : Nat), w.cell? ⟨g, j * 2, none⟩ = some (.bool o) ∧ w.cell? ⟨g, j * 2 + 1, none⟩ = some (.slice (some ⟨g', 0, none⟩) m m) ∧ (∀ i, w.frozen? ⟨g, i, none⟩ = false) ∧ m ≤ 1048576 ∧ SwT w lo hi g' m := by
  obtain ⟨h1, h2, vs, h3, h4, h5⟩ := h
  obtain ⟨o, g', m, e0, e1, e2, e3⟩ := h5 j hj
  exact ⟨o, g', m, by rw [h3.cell]; simpa using e0, by rw [h3.cell]; simpa using e1, fun i => h3.frozen i, e2, e3⟩
theorem SwQ.at_ (h : SwQ w lo hi g n) {j : Nat} (hj : j < n) : ∃ (kd id : Int) (g' m : Nat) (gr : Bool) (nm : Int), w.cell? ⟨g, j * 5, none⟩ = some (.int .i64 kd) ∧ w.cell? ⟨g, j * 5 + 1, none⟩ = some (.int .i64 id) ∧ w.cell? ⟨g, j * 5 + 2, none⟩ = some (.slice (some ⟨g', 0, none⟩) m m) ∧
    w.cell? ⟨g, j * 5 + 3, none⟩ = some (.bool gr) ∧ w.cell? ⟨g, j * 5 + 4, none⟩ = some (.int .i64 nm) ∧ (∀ i, w.frozen? ⟨g, i, none⟩ = false) ∧ m ≤ 1048576 ∧ SwI w lo hi g' m := by
  obtain ⟨h1, h2, vs, h3, h4, h5⟩ := h
  obtain ⟨kd, id, g', m, gr, nm, e0, e1, e2, e3, e4, e5, e6⟩ := h5 j hj
  exact ⟨kd, id, g', m, gr, nm, by rw [h3.cell]; simpa using e0, by rw [h3.cell]; simpa using e1, by rw [h3.cell]; simpa using e2, by rw [h3.cell]; simpa using e3, by rw [h3.cell]; simpa using e4, fun i => h3.frozen i, e5, e6⟩
theorem OwN.sw {us : List Un} (h : OwN w lo g us) (hm : totB (us.map (·.2)) ≤ 1048576) : SwN w lo w.heap.size g us.length := by
  obtain ⟨h1, vs, h2, h3, h4⟩ := h
  refine ⟨h1, h2.lt, vs, h2, h3, fun j hj => ?_⟩
  obtain ⟨g', e0, e1, e2, e3⟩ := h4 j hj
  have hb := totB_bin (bs := us.map (·.2)) (k := j) (by rw [List.length_map]; exact hj)
  rw [snd_at] at hb
  have hg := totT_ge (us[j]?.getD (false, [])).2
  exact ⟨_, g', _, e0, e1, by omega, (e3.sw (fun i hi => by have := totT_need hi; omega)).more (by omega) (Nat.le_refl _)⟩
theorem OwQ.sw {rs : List Rq} (h : OwQ w lo g rs) (hm : totQ rs ≤ 1048576) : SwQ w lo w.heap.size g rs.length := by
  obtain ⟨h1, vs, h2, h3, h4⟩ := h
  refine ⟨h1, h2.lt, vs, h2, h3, fun j hj => ?_⟩
  obtain ⟨g', e0, e1, e2, e3, e4, e5, e6⟩ := h4 j hj
  exact ⟨_, _, g', _, _, _, e0, e1, e2, e3, e4, by have := totQ_need hj; omega, (e6.sw).more (by omega) (Nat.le_refl _)⟩
theorem SwN.more (h : SwN w lo hi g n) (h1 : lo' ≤ lo) (h2 : hi ≤ hi') : SwN w lo' hi' g n := by
  obtain ⟨a, b, vs, c, d, e⟩ := h
  exact ⟨by omega, by omega, vs, c, d, fun j hj => by obtain ⟨x, g', m, e1, e2, e3, e4⟩ := e j hj; exact ⟨x, g', m, e1, e2, e3, e4.more h1 h2⟩⟩
end
theorem mod3 {k : Int} (h0 : 0 ≤ k) (h1 : k ≤ 4611686018427387904) : k.tmod 3 = k % 3 := IntWalk.rem_in _ _ (by omega)

set_option maxRecDepth 100000 in
set_option maxHeartbeats 1600000 in
theorem argUnitS_any (lo hi g n c : Nat) (k : Int) (w : World) (h : SwN w lo hi g n) (hn : n ≤ 1048576) (h0 : 0 ≤ k) (h1 : k ≤ 1048577) :
    Calls Tryz.prog 108 #[.slice (some ⟨g, 0, none⟩) n c, .int .i64 k] w fun e w' => ∃ r, e = .returned (.int .i64 r) ∧ k ≤ r ∧ r ≤ k + n * 1099512676353 ∧ KeptOut w w' lo hi := by
  have H := qh h
  clear h
  go_enter Tryz.func108, Tryz.ntmps108
  go_wp2_with fail
  go_loopw [1, 5] (fun q i wr => ∃ (j : Nat) (r : Int), i = .int .i64 j ∧ j ≤ n ∧ q = .int .i64 r ∧ k ≤ r ∧ r ≤ k + j * 1099512676353 ∧ SwN wr lo hi g n ∧ KeptOut w wr lo hi) (fun _ i _ => n - (intOf i).toNat)
  case atStart => exact ⟨0, k, rfl, Nat.zero_le _, rfl, by omega, by omega, H.out, KeptOut.refl _ _ _⟩
  case round =>
    obtain ⟨j, r, rfl, hj, rfl, hr0, hr1, hsw, hko⟩ := hrel
    by_cases hlt : j < n
    · obtain ⟨o, g', m, c1, c2, fz, hm, ht⟩ := hsw.at_ hlt
      have hb : (r.tmod 3 == 0) = (r % 3 == 0) := by rw [mod3 (by omega) (by omega)]
      have hrem := mod3 (k := r) (by omega) (by omega)
      have f1 := fz (j * 2)
      have hsw' := (show SwN wr lo hi g n from hsw)
      have hs0 := hsw
      obtain ⟨s1, s2, vs, s3, _⟩ := hs0
      have N1 := qh (hsw'.flag hlt (r % 3 == 0))
      have T1 := qh (ht.ti (KeepTI.set_ s3 (by decide) (by decide) (j * 2) (.bool (r % 3 == 0))))
      have c2' : (wr.setCell ⟨g, j * 2, none⟩ (.bool (r % 3 == 0))).cell? ⟨g, j * 2 + 1, none⟩ = some (.slice (some ⟨g', 0, none⟩) m m) := by
        have hs := s3.set_ (j * 2) (.bool (r % 3 == 0))
        rw [hs.cell, Array.getElem?_setIfInBounds_ne (by omega), ← s3.cell]; exact c2
      have K1 := qh (hko.setCell (p := ⟨g, j * 2, none⟩) s1 s2 (.bool (r % 3 == 0)))
      have kk1 : (0 : Int) ≤ (j : Int) := by omega
      have kk2 : (j : Int) < (n : Int) := by omega
      have kk3 : 0 ≤ (j : Int) * 2 := by omega
      have q1 : r ≤ 1048577 + 1048576 * 1099512676353 := by omega
      clear hsw hsw' hko ht s3 fz hb
      go_wp2_with fail
      generalize wr.setCell ⟨g, j * 2, none⟩ (.bool (r % 3 == 0)) = w1 at *
      refine (markTaskS_any lo hi g' m m (r + 1) _ T1.out hm (by omega) (by omega)).mono ?_; rintro e w2 ⟨r2, rfl, hr2, hr3, hs2, hk2⟩
      have N2 := qh (N1.out.shp hs2)
      have K2 := qh (K1.out.trans hk2)
      clear hs2 hk2
      go_wp2_with fail
      go_roundw
      case rel => exact ⟨j + 1, r2, by go_num, by omega, rfl, by omega, by omega, N2.out, K2.out⟩
      case measure => simp [intOf]; omega
    · have ej : j = n := by omega
      subst ej
      have K2 := qh hko
      clear hko hsw
      go_wp2_with fail
      go_ret
      exact ⟨r, rfl, hr0, hr1, K2.out⟩

set_option maxHeartbeats 800000 in
theorem argCluster_any (lo hi g1 g2 n1 n2 c1 c2 : Nat) (k : Int) (xs : List Int) (w : World) (h1 : Blk w g1 3 (xs.map (Value.int .i64)).toArray) (hl1 : lo ≤ g1) (hh1 : g1 < hi) (hx : xs.length = n1) (h2 : SwN w lo hi g2 n2) (hn1 : n1 ≤ 1048576) (hn2 : n2 ≤ 1048576) (h0 : 0 ≤ k) (hk1 : k ≤ 1) :
    Calls Tryz.prog 43 #[.agg #[.slice (some ⟨g1, 0, none⟩) n1 c1, .slice (some ⟨g2, 0, none⟩) n2 c2], .int .i64 k] w fun e w' => ∃ r, e = .returned (.int .i64 r) ∧ k ≤ r ∧ r ≤ k + 1048576 + n2 * 1099512676353 ∧ KeptOut w w' lo hi := by
  have al := alloc_up w (.cells #[.slice (some ⟨g1, 0, none⟩) n1 c1, .slice (some ⟨g2, 0, none⟩) n2 c2] 26)
  have K1 := qh (KeptOut.of_below al lo hi)
  have P1 := qh (Blk.new w 26 #[.slice (some ⟨g1, 0, none⟩) n1 c1, .slice (some ⟨g2, 0, none⟩) n2 c2])
  have H1 := qh (h1.below al h1.lt)
  have H2 := qh (h2.shp (Shp.of_keep (fun b hb => al.block b hb)))
  clear h1 h2 al
  have x0 := P1.out.cell 0
  simp only [gT, gZ] at x0
  go_enter Tryz.func43, Tryz.ntmps43
  go_wp2_with fail
  generalize w.heap.size = gz at P1 x0 ⊢
  generalize w.alloc (.cells #[.slice (some ⟨g1, 0, none⟩) n1 c1, .slice (some ⟨g2, 0, none⟩) n2 c2] 26) = w1 at K1 P1 H1 H2 x0 ⊢
  refine (markIntS_any g1 n1 c1 3 k xs w1 H1.out hx h0 (by omega)).mono ?_; rintro e w2 ⟨rfl, hb2, hk2⟩
  have S2 := Shp.of_ints H1.out hb2 (by rw [seqI_len, hx]) (fun b hb hne => hk2.block b hb (by omega))
  have K2 := qh (K1.out.trans (hk2.mono hl1 (by omega)))
  have P2 := qh (S2.rest _ _ _ (by decide) (by decide) P1.out)
  have N2 := qh (H2.out.shp S2)
  clear S2 hb2 hk2 K1 P1 H1 H2 x0
  have x1 := P2.out.cell 1
  simp only [gT, gZ, gS] at x1
  go_wp2_with fail
  refine (argUnitS_any lo hi g2 n2 c2 (k + n1) w2 N2.out hn2 (by omega) (by omega)).mono ?_; rintro e w3 ⟨r, rfl, hr0, hr1, hk3⟩
  have K3 := qh (K2.out.trans hk3)
  clear hk3 x1
  go_wp2_with fail
  go_ret
  exact ⟨r, rfl, by omega, by omega, K3.out⟩

set_option maxHeartbeats 800000 in
theorem argTask_any (lo hi g n c : Nat) (id k : Int) (xs : List Int) (w : World) (h1 : Blk w g 3 (xs.map (Value.int .i64)).toArray) (hl1 : lo ≤ g) (hh1 : g < hi) (hx : xs.length = n) (hn : n ≤ 1048576) (h0 : 0 ≤ k) (hk1 : k ≤ 2305843009213693952) :
    Calls Tryz.prog 109 #[.agg #[.int .i64 id, .slice (some ⟨g, 0, none⟩) n c], .int .i64 k] w fun e w' => e = .returned (.int .i64 (k + n)) ∧ KeptOut w w' lo hi := by
  have al := alloc_up w (.cells #[.int .i64 id, .slice (some ⟨g, 0, none⟩) n c] 33)
  have K1 := qh (KeptOut.of_below al lo hi)
  have P1 := qh (Blk.new w 33 #[.int .i64 id, .slice (some ⟨g, 0, none⟩) n c])
  have H1 := qh (h1.below al h1.lt)
  clear h1 al
  have x1 := P1.out.cell 1
  simp only [gT, gZ, gS] at x1
  go_enter Tryz.func109, Tryz.ntmps109
  go_wp2_with fail
  generalize w.alloc (.cells #[.int .i64 id, .slice (some ⟨g, 0, none⟩) n c] 33) = w1 at K1 H1 x1 ⊢
  refine (markIntS_any g n c 3 k xs w1 H1.out hx h0 (by omega)).mono ?_; rintro e w2 ⟨rfl, hb2, hk2⟩
  have K2 := qh (K1.out.trans (hk2.mono hl1 (by omega)))
  clear hb2 hk2 x1
  go_wp2_with fail
  go_ret
  exact ⟨rfl, K2.out⟩

set_option maxHeartbeats 800000 in
theorem argRequest_any (lo hi g n c : Nat) (kd id : Int) (gr : Bool) (nm k : Int) (xs : List Int) (w : World) (h1 : Blk w g 3 (xs.map (Value.int .i64)).toArray) (hl1 : lo ≤ g) (hh1 : g < hi) (hx : xs.length = n) (hn : n ≤ 1048576) (h0 : 0 ≤ k) (hk1 : k ≤ 2305843009213693952) :
    Calls Tryz.prog 44 #[.agg #[.int .i64 kd, .int .i64 id, .slice (some ⟨g, 0, none⟩) n c, .bool gr, .int .i64 nm], .int .i64 k] w fun e w' => e = .returned (.int .i64 (k + n)) ∧ KeptOut w w' lo hi := by
  have al := alloc_up w (.cells #[.int .i64 kd, .int .i64 id, .slice (some ⟨g, 0, none⟩) n c, .bool gr, .int .i64 nm] 35)
  have K1 := qh (KeptOut.of_below al lo hi)
  have P1 := qh (Blk.new w 35 #[.int .i64 kd, .int .i64 id, .slice (some ⟨g, 0, none⟩) n c, .bool gr, .int .i64 nm])
  have H1 := qh (h1.below al h1.lt)
  clear h1 al
  have x1 := P1.out.cell 1
  have x2 := P1.out.cell 2
  simp only [gT, gZ, gS] at x1 x2
  go_enter Tryz.func44, Tryz.ntmps44
  go_wp2_with fail
  generalize w.alloc (.cells #[.int .i64 kd, .int .i64 id, .slice (some ⟨g, 0, none⟩) n c, .bool gr, .int .i64 nm] 35) = w1 at K1 H1 x1 x2 ⊢
  refine (argTask_any lo hi g n c id k xs w1 H1.out hl1 hh1 hx hn h0 hk1).mono ?_; rintro e w2 ⟨rfl, hk2⟩
  have K2 := qh (K1.out.trans hk2)
  clear hk2 x1 x2
  go_wp2_with fail
  go_ret
  exact ⟨rfl, K2.out⟩

set_option maxRecDepth 100000 in
set_option maxHeartbeats 3200000 in
theorem argRequestS_any (lo hi g n c : Nat) (k : Int) (w : World) (h : SwQ w lo hi g n) (hn : n ≤ 1048576) (h0 : 0 ≤ k) (h1 : k ≤ 2305843009213693952) :
    Calls Tryz.prog 50 #[.slice (some ⟨g, 0, none⟩) n c, .int .i64 k] w fun e w' => ∃ r, e = .returned (.int .i64 r) ∧ k ≤ r ∧ r ≤ k + n * 1048580 ∧ KeptOut w w' lo hi := by
  have H := qh h
  have hgl : lo ≤ g := h.1
  have hgh : g < hi := h.2.1
  clear h
  go_enter Tryz.func50, Tryz.ntmps50
  go_wp2_with fail
  go_loopw [1, 5] (fun q i wr => ∃ (j : Nat) (r : Int), i = .int .i64 j ∧ j ≤ n ∧ q = .int .i64 r ∧ k ≤ r ∧ r ≤ k + j * 1048580 ∧ SwQ wr lo hi g n ∧ KeptOut w wr lo hi) (fun _ i _ => n - (intOf i).toNat)
  case atStart => exact ⟨0, k, rfl, Nat.zero_le _, rfl, by omega, by omega, H.out, KeptOut.refl _ _ _⟩
  case round =>
    obtain ⟨j, r, rfl, hj, rfl, hr0, hr1, hsw, hko⟩ := hrel
    by_cases hlt : j < n
    · have q1 : r ≤ 2305843009213693952 + 1048576 * 1048580 := by omega
      have q0 : 0 ≤ r := by omega
      have kk1 : (0 : Int) ≤ (j : Int) := by omega
      have kk2 : (j : Int) < (n : Int) := by omega
      have kk3 : 0 ≤ (j : Int) * 5 := by omega
      have N1 := qh (hsw.num (i := 0) hlt (.inl rfl) r)
      have N2 := qh (N1.out.num (i := 1) hlt (.inr (.inl rfl)) (r + 1))
      have K2 := qh ((hko.setCell (p := ⟨g, j * 5 + 0, none⟩) hgl hgh (.int .i64 r)).setCell (p := ⟨g, j * 5 + 1, none⟩) hgl hgh (.int .i64 (r + 1)))
      simp only [Nat.add_zero] at N1 N2 K2
      obtain ⟨kd, id, g', m, gr, nm, c0, c1, c2, c3, c4, fz, hm, ht⟩ := hsw.at_ hlt
      obtain ⟨kd1, id1, g1, m1, gr1, nm1, d0, d1, d2, d3, d4, fz1, hm1, ht1⟩ := N1.out.at_ hlt
      obtain ⟨kd2, id2, g2, m2, gr2, nm2, e0, e1, e2, e3, e4, fz2, hm2, ht2⟩ := N2.out.at_ hlt
      have f0 := fz (j * 5)
      have f1 := fz1 (j * 5 + 1)
      have Ht2 := qh ht2
      clear hsw hko c1 c2 c3 c4 ht d0 d2 d3 d4 ht1 ht2 e0 e1 e3 e4 fz fz1 fz2 N1
      go_wp2_with fail
      generalize (wr.setCell ⟨g, j * 5, none⟩ (.int .i64 r)).setCell ⟨g, j * 5 + 1, none⟩ (.int .i64 (r + 1)) = w1 at *
      obtain ⟨t1, t2, xs, t3, t4⟩ := Ht2.out
      refine (markIntS_any g2 m2 m2 3 (r + 1 + 1) xs _ t4 t3 (by omega) (by omega)).mono ?_; rintro e w2 ⟨rfl, hb2, hk2⟩
      have N3 := qh (N2.out.shp (Shp.of_ints t4 hb2 (by rw [seqI_len, t3]) (fun b hb hne => hk2.block b hb (by omega))))
      have K3 := qh (K2.out.trans (hk2.mono t1 (by omega)))
      clear hb2 hk2 t3 t4 e2 K2 N2 Ht2
      obtain ⟨rr, hrr⟩ : ∃ rr : Int, rr = r + 1 + 1 + m2 := ⟨_, rfl⟩
      have Hrr := qh hrr
      rw [← hrr]
      have p0 : 0 ≤ rr := by omega
      have p1 : rr ≤ 2305843009213693952 + 1048577 * 1048580 := by omega
      clear hrr
      have hrem := mod3 (k := rr) p0 (by omega)
      have N4 := qh (N3.out.flag hlt (rr % 3 == 0))
      have N5 := qh (N4.out.num (i := 4) hlt (.inr (.inr rfl)) (rr + 1))
      have K5 := qh ((K3.out.setCell (p := ⟨g, j * 5 + 3, none⟩) hgl hgh (.bool (rr % 3 == 0))).setCell (p := ⟨g, j * 5 + 4, none⟩) hgl hgh (.int .i64 (rr + 1)))
      obtain ⟨kd3, id3, g3, m3, gr3, nm3, a0, a1, a2, a3, a4, fz3, hm3, ht3⟩ := N3.out.at_ hlt
      obtain ⟨kd4, id4, g4, m4, gr4, nm4, b0, b1, b2, b3, b4, fz4, hm4, ht4⟩ := N4.out.at_ hlt
      have f3 := fz3 (j * 5 + 3)
      have f4 := fz4 (j * 5 + 4)
      clear a0 a1 a2 a4 b0 b1 b2 b3 ht3 ht4 fz3 fz4 N3 N4 K3
      go_wp2_with fail
      go_roundw
      case rel => exact ⟨j + 1, rr + 1 + 1, by go_num, by omega, by go_num, by have := Hrr.out; omega, by have := Hrr.out; omega, N5.out, K5.out⟩
      case measure => simp [intOf]; omega
    · have ej : j = n := by omega
      subst ej
      have K2 := qh hko
      clear hko hsw
      go_wp2_with fail
      go_ret
      exact ⟨r, rfl, hr0, hr1, K2.out⟩
end Go.Proofs.YtlegpecjoaklnaaGreatDoor
