/- Walks: the marks of the exact laws at an argument's copy (units, clusters, tasks): only what may be written is written. (Printed by noreq.py.) -/
import Derived.Test.YtjjnbbkdjimcoaaGreatLawCl
import Derived.Test.YtjjnbbkdjimcoaaGreatClMark
namespace Go.Proofs.YtjjnbbkdjimcoaaGreat
set_option linter.unusedSimpArgs false
set_option linter.unusedVariables false
open Go Go.RowKit
attribute [local go_sem ↓] Go.wp_at_zero Go.wp_at_succ

/-- Units that may be written. -/
def SwN (w : World) (lo hi g n : Nat) : Prop := lo ≤ g ∧ g < hi ∧ ∃ vs : List Value, Blk w g 72 vs.toArray ∧ vs.length = n * 2 ∧ ∀ j, j < n → ∃ (o : Bool) (g' m : Nat), vs[j * 2]? = some (.bool o) ∧ vs[j * 2 + 1]? = some (.slice (some ⟨g', 0, none⟩) m m) ∧ m ≤ 1048576 ∧ SwT w lo hi g' m
section
variable {w w' : World} {lo hi lo' hi' g n : Nat}
theorem SwI.ti (h : SwI w lo hi g n) (k : KeepTI w w') : SwI w' lo hi g n := by
  obtain ⟨h1, h2, xs, h3, h4⟩ := h
  exact ⟨h1, h2, xs, h3, (k g ⟨_, _, .inl rfl, h4⟩).trans h4⟩
theorem SwT.ti (h : SwT w lo hi g n) (k : KeepTI w w') : SwT w' lo hi g n := by
  obtain ⟨h1, h2, vs, h3, h4, h5⟩ := h
  refine ⟨h1, h2, vs, (k g ⟨_, _, .inr rfl, h3⟩).trans h3, h4, fun j hj => ?_⟩
  obtain ⟨a, g', m, e1, e2, e3, e4⟩ := h5 j hj
  exact ⟨a, g', m, e1, e2, e3, e4.ti k⟩
theorem SwN.shp (h : SwN w lo hi g n) (k : Shp w w') : SwN w' lo hi g n := by
  obtain ⟨h1, h2, vs, h3, h4, h5⟩ := h
  refine ⟨h1, h2, vs, k.rest g _ _ (by decide) (by decide) h3, h4, fun j hj => ?_⟩
  obtain ⟨o, g', m, e0, e1, e2, e3⟩ := h5 j hj
  exact ⟨o, g', m, e0, e1, e2, e3.shp k⟩
theorem SwN.flag (h : SwN w lo hi g n) {j : Nat} (hj : j < n) (b : Bool) : SwN (w.setCell ⟨g, j * 2, none⟩ (.bool b)) lo hi g n := by
  obtain ⟨h1, h2, vs, h3, h4, h5⟩ := h
  have hs := h3.set_ (j * 2) (.bool b)
  simp only [pS] at hs
  refine ⟨h1, h2, _, hs, by rw [List.length_set]; exact h4, fun i hi' => ?_⟩
  obtain ⟨o, g', m, e0, e1, e2, e3⟩ := h5 i hi'
  have e3' := e3.ti (KeepTI.set_ h3 (by decide) (by decide) (j * 2) (.bool b))
  by_cases e : i = j
  · subst e
    exact ⟨b, g', m, by rw [List.getElem?_set_self (by omega)], by rw [List.getElem?_set_ne (by omega)]; exact e1, e2, e3'⟩
  · exact ⟨o, g', m, by rw [List.getElem?_set_ne (by omega)]; exact e0, by rw [List.getElem?_set_ne (by omega)]; exact e1, e2, e3'⟩
/-- What lies there. -/
theorem SwN.at_ (h : SwN w lo hi g n) {j : Nat} (hj : j < n) : ∃ (o : Bool) (g' m : Nat), w.cell? ⟨g, j * 2, none⟩ = some (.bool o) ∧ w.cell? ⟨g, j * 2 + 1, none⟩ = some (.slice (some ⟨g', 0, none⟩) m m) ∧ (∀ i, w.frozen? ⟨g, i, none⟩ = false) ∧ m ≤ 1048576 ∧ SwT w lo hi g' m := by
  obtain ⟨h1, h2, vs, h3, h4, h5⟩ := h
  obtain ⟨o, g', m, e0, e1, e2, e3⟩ := h5 j hj
  exact ⟨o, g', m, by rw [h3.cell]; simpa using e0, by rw [h3.cell]; simpa using e1, fun i => h3.frozen i, e2, e3⟩
theorem OwN.sw {us : List Un} (h : OwN w lo g us) (hm : totB (us.map (·.2)) ≤ 1048576) : SwN w lo w.heap.size g us.length := by
  obtain ⟨h1, vs, h2, h3, h4⟩ := h
  refine ⟨h1, h2.lt, vs, h2, h3, fun j hj => ?_⟩
  obtain ⟨g', e0, e1, e2, e3⟩ := h4 j hj
  have hb := totB_bin (bs := us.map (·.2)) (k := j) (by rw [List.length_map]; exact hj)
  rw [snd_at] at hb
  have hg := totT_ge (us[j]?.getD (false, [])).2
  exact ⟨_, g', _, e0, e1, by omega, (e3.sw (fun i hi => by have := totT_need hi; omega)).more (by omega) (Nat.le_refl _)⟩
theorem SwN.more (h : SwN w lo hi g n) (h1 : lo' ≤ lo) (h2 : hi ≤ hi') : SwN w lo' hi' g n := by
  obtain ⟨a, b, vs, c, d, e⟩ := h
  exact ⟨by omega, by omega, vs, c, d, fun j hj => by obtain ⟨x, g', m, e1, e2, e3, e4⟩ := e j hj; exact ⟨x, g', m, e1, e2, e3, e4.more h1 h2⟩⟩
end
theorem mod3 {k : Int} (h0 : 0 ≤ k) (h1 : k ≤ 4611686018427387904) : k.tmod 3 = k % 3 := IntWalk.rem_in _ _ (by omega)

set_option maxRecDepth 100000 in
set_option maxHeartbeats 1600000 in
theorem argUnitS_any (lo hi g n c : Nat) (k : Int) (w : World) (h : SwN w lo hi g n) (hn : n ≤ 1048576) (h0 : 0 ≤ k) (h1 : k ≤ 1048577) :
    Calls Tryz.prog 80 #[.slice (some ⟨g, 0, none⟩) n c, .int .i64 k] w fun e w' => ∃ r, e = .returned (.int .i64 r) ∧ k ≤ r ∧ r ≤ k + n * 1099512676353 ∧ KeptOut w w' lo hi := by
  have H := qh h
  clear h
  go_enter Tryz.func80, Tryz.ntmps80
  go_wp2_with fail
  go_loopw [1, 5] (fun q i wr => ∃ (j : Nat) (r : Int), i = .int .i64 j ∧ j ≤ n ∧ q = .int .i64 r ∧ k ≤ r ∧ r ≤ k + j * 1099512676353 ∧ SwN wr lo hi g n ∧ KeptOut w wr lo hi) (fun _ i _ => n - (intOf i).toNat)
  case atStart => exact ⟨0, k, rfl, Nat.zero_le _, rfl, by omega, by omega, H.out, KeptOut.refl _ _ _⟩
  case round =>
    obtain ⟨j, r, rfl, hj, rfl, hr0, hr1, hsw, hko⟩ := hrel
    by_cases hlt : j < n
    · obtain ⟨o, g', m, c1, c2, fz, hm, ht⟩ := hsw.at_ hlt
      have hb : (r.tmod 3 == 0) = (r % 3 == 0) := by rw [mod3 (by omega) (by omega)]
      have hrem := mod3 (k := r) (by omega) (by omega)
      have f1 := fz (j * 2)
      have hsw' := (show SwN wr lo hi g n from hsw)
      have hs0 := hsw
      obtain ⟨s1, s2, vs, s3, _⟩ := hs0
      have N1 := qh (hsw'.flag hlt (r % 3 == 0))
      have T1 := qh (ht.ti (KeepTI.set_ s3 (by decide) (by decide) (j * 2) (.bool (r % 3 == 0))))
      have c2' : (wr.setCell ⟨g, j * 2, none⟩ (.bool (r % 3 == 0))).cell? ⟨g, j * 2 + 1, none⟩ = some (.slice (some ⟨g', 0, none⟩) m m) := by
        have hs := s3.set_ (j * 2) (.bool (r % 3 == 0))
        rw [hs.cell, Array.getElem?_setIfInBounds_ne (by omega), ← s3.cell]; exact c2
      have K1 := qh (hko.setCell (p := ⟨g, j * 2, none⟩) s1 s2 (.bool (r % 3 == 0)))
      have kk1 : (0 : Int) ≤ (j : Int) := by omega
      have kk2 : (j : Int) < (n : Int) := by omega
      have kk3 : 0 ≤ (j : Int) * 2 := by omega
      have q1 : r ≤ 1048577 + 1048576 * 1099512676353 := by omega
      clear hsw hsw' hko ht s3 fz hb
      go_wp2_with fail
      generalize wr.setCell ⟨g, j * 2, none⟩ (.bool (r % 3 == 0)) = w1 at *
      refine (markTaskS_any lo hi g' m m (r + 1) _ T1.out hm (by omega) (by omega)).mono ?_; rintro e w2 ⟨r2, rfl, hr2, hr3, hs2, hk2⟩
      have N2 := qh (N1.out.shp hs2)
      have K2 := qh (K1.out.trans hk2)
      clear hs2 hk2
      go_wp2_with fail
      go_roundw
      case rel => exact ⟨j + 1, r2, by go_num, by omega, rfl, by omega, by omega, N2.out, K2.out⟩
      case measure => simp [intOf]; omega
    · have ej : j = n := by omega
      subst ej
      have K2 := qh hko
      clear hko hsw
      go_wp2_with fail
      go_ret
      exact ⟨r, rfl, hr0, hr1, K2.out⟩

set_option maxHeartbeats 800000 in
theorem argCluster_any (lo hi g1 g2 n1 n2 c1 c2 : Nat) (k : Int) (xs : List Int) (w : World) (h1 : Blk w g1 3 (xs.map (Value.int .i64)).toArray) (hl1 : lo ≤ g1) (hh1 : g1 < hi) (hx : xs.length = n1) (h2 : SwN w lo hi g2 n2) (hn1 : n1 ≤ 1048576) (hn2 : n2 ≤ 1048576) (h0 : 0 ≤ k) (hk1 : k ≤ 1) :
    Calls Tryz.prog 38 #[.agg #[.slice (some ⟨g1, 0, none⟩) n1 c1, .slice (some ⟨g2, 0, none⟩) n2 c2], .int .i64 k] w fun e w' => ∃ r, e = .returned (.int .i64 r) ∧ k ≤ r ∧ r ≤ k + 1048576 + n2 * 1099512676353 ∧ KeptOut w w' lo hi := by
  have al := alloc_up w (.cells #[.slice (some ⟨g1, 0, none⟩) n1 c1, .slice (some ⟨g2, 0, none⟩) n2 c2] 26)
  have K1 := qh (KeptOut.of_below al lo hi)
  have P1 := qh (Blk.new w 26 #[.slice (some ⟨g1, 0, none⟩) n1 c1, .slice (some ⟨g2, 0, none⟩) n2 c2])
  have H1 := qh (h1.below al h1.lt)
  have H2 := qh (h2.shp (Shp.of_keep (fun b hb => al.block b hb)))
  clear h1 h2 al
  have x0 := P1.out.cell 0
  simp only [gT, gZ] at x0
  go_enter Tryz.func38, Tryz.ntmps38
  go_wp2_with fail
  generalize w.heap.size = gz at P1 x0 ⊢
  generalize w.alloc (.cells #[.slice (some ⟨g1, 0, none⟩) n1 c1, .slice (some ⟨g2, 0, none⟩) n2 c2] 26) = w1 at K1 P1 H1 H2 x0 ⊢
  refine (markIntS_any g1 n1 c1 3 k xs w1 H1.out hx h0 (by omega)).mono ?_; rintro e w2 ⟨rfl, hb2, hk2⟩
  have S2 := Shp.of_ints H1.out hb2 (by rw [seqI_len, hx]) (fun b hb hne => hk2.block b hb (by omega))
  have K2 := qh (K1.out.trans (hk2.mono hl1 (by omega)))
  have P2 := qh (S2.rest _ _ _ (by decide) (by decide) P1.out)
  have N2 := qh (H2.out.shp S2)
  clear S2 hb2 hk2 K1 P1 H1 H2 x0
  have x1 := P2.out.cell 1
  simp only [gT, gZ, gS] at x1
  go_wp2_with fail
  refine (argUnitS_any lo hi g2 n2 c2 (k + n1) w2 N2.out hn2 (by omega) (by omega)).mono ?_; rintro e w3 ⟨r, rfl, hr0, hr1, hk3⟩
  have K3 := qh (K2.out.trans hk3)
  clear hk3 x1
  go_wp2_with fail
  go_ret
  exact ⟨r, rfl, by omega, by omega, K3.out⟩

end Go.Proofs.YtjjnbbkdjimcoaaGreat
