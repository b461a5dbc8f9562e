/- Walks: the helpers of the exact laws at clusters and requests: sizes and copies. -/
import Derived.Test.YtjjnbbkdjimcoaaGreatLawMark
import Derived.Test.YtjjnbbkdjimcoaaGreatClEq
import Derived.Test.YtjjnbbkdjimcoaaGreatJ5
namespace Go.Proofs.YtjjnbbkdjimcoaaGreat
set_option linter.unusedVariables false
open Go Go.RowKit
attribute [local go_sem ↓] Go.wp_at_zero Go.wp_at_succ

/-! ### Sizes -/
set_option maxHeartbeats 800000 in
theorem szUnit_any (A : Option Addr) (n c : Nat) (op : Bool) (ts : List Tk) (left : Int) (w : World) (h : RdT w w.heap.size A n ts) (h0 : 0 ≤ left) (h1 : left ≤ 1048576) :
    Calls Tryz.prog 108 #[.agg #[.bool op, .slice A n c], .int .i64 left] w fun e w' => ∃ r, e = .returned (.int .i64 r) ∧ SzOk left (totT ts) r ∧ Below w.heap.size w w' := by
  have hal := qh (alloc_up w (.cells #[.bool op, .slice A n c] 129))
  have H := qh (h.up hal.out)
  have P := Blk.new w 129 #[.bool op, .slice A n c]
  have x1 := P.cell 1
  simp only [gT, gZ, gS] at x1
  clear h P
  go_enter Tryz.func108, Tryz.ntmps108
  go_wp2_with fail
  generalize w.alloc (.cells #[.bool op, .slice A n c] 129) = w1 at hal H x1 ⊢
  refine (szTaskS_any A n c ts left w1 H.out h0 h1).mono ?_; rintro e w2 ⟨r, rfl, hr, hb⟩
  have hb2 := qh (below_to hal.out hb)
  clear hb x1
  rcases hr with rfl | ⟨hr, he⟩
  · go_wp2
    go_ret
    exact ⟨-1, rfl, .inl rfl, hb2.out⟩
  · have He := qh he
    have hr' : ¬ r < 0 := by omega
    clear he
    go_wp2
    go_ret
    exact ⟨r, rfl, .inr ⟨hr, He.out⟩, hb2.out⟩

set_option maxRecDepth 100000 in
set_option maxHeartbeats 800000 in
theorem szUnitS_any (A : Option Addr) (n c : Nat) (us : List Un) (left : Int) (w : World) (h : RdN w w.heap.size A n us) (h0 : 0 ≤ left) (h1 : left ≤ 1048576) :
    Calls Tryz.prog 67 #[.slice A n c, .int .i64 left] w fun e w' => ∃ r, e = .returned (.int .i64 r) ∧ SzOk left (totB (us.map (·.2))) r ∧ Below w.heap.size w w' := by
  have hl := qh h.len
  have hn := h.le
  have H := qh h
  clear h
  by_cases hlt : left < n
  · have h' : left - n < 0 := by omega
    go_enter Tryz.func67, Tryz.ntmps67
    go_wp2
    go_ret
    exact ⟨-1, rfl, .inl rfl, Below.refl _ _⟩
  · have h' : ¬ left - n < 0 := by omega
    go_enter Tryz.func67, Tryz.ntmps67
    go_wp2
    go_loopw [1, 5] (fun l i wr => ∃ (k : Nat) (r : Int), i = .int .i64 k ∧ k ≤ n ∧ l = .int .i64 r ∧ 0 ≤ r ∧ r ≤ 1048576 ∧ Hid (r + n + needB ((us.map (·.2)).take k) = left) ∧ Below w.heap.size w wr) (fun _ i _ => n - (intOf i).toNat)
    case atStart => exact ⟨0, left - n, rfl, Nat.zero_le _, rfl, by omega, by omega, qh (by simp [needB, totB]), Below.refl _ _⟩
    case round =>
      obtain ⟨k, r, rfl, hk, rfl, hr0, hr1, hr, hbel⟩ := hrel
      by_cases hkn : k < n
      · obtain ⟨b, o, A', m', c', rfl, hb, hc1, hc2, hmc, hrd⟩ := (H.out.below hbel).at_ hkn
        have lz := hbel.size
        have hkl : Hid (k < us.length) := by have := hl.out; show _ < _; omega
        have Hrd := qh (hrd.more lz)
        have Hnd := qh (show needB ((us.map (·.2)).take (k + 1)) = needB ((us.map (·.2)).take k) + totT (us[k]?.getD (false, [])).2 by rw [needB_succ (by rw [List.length_map]; exact hkl.out), snd_at])
        have k1 : (0 : Int) ≤ (k : Int) := by omega
        have k2 : (k : Int) < (n : Int) := by omega
        have k3 : 0 ≤ (k : Int) * 2 := by omega
        clear hrd
        generalize (us[k]?.getD (false, [])).2 = ts at *
        generalize (us[k]?.getD (false, [])).1 = op at *
        go_wp2_with fail
        refine (szUnit_any A' m' c' op ts r _ Hrd.out hr0 hr1).mono ?_; rintro e w1 ⟨q, rfl, hq, hb1⟩
        have hb2 := hbel.trans (hb1.mono lz)
        clear hc1 hc2
        rcases hq with rfl | ⟨hq, he⟩
        · go_wp2
          go_ret
          exact ⟨-1, rfl, .inl rfl, hb2⟩
        · have He := qh he
          have hq' : ¬ q < 0 := by omega
          have hq1 : q ≤ 1048576 := by omega
          clear he
          go_wp2
          go_roundw
          case rel => exact ⟨k + 1, q, by go_num, by omega, rfl, hq, hq1, qh (by rw [Hnd.out]; have := hr.out; have := He.out; omega), hb2⟩
          case measure => simp [intOf]; omega
      · have ek : k = n := by omega
        have Ek := qh ek
        clear ek
        go_wp2
        go_ret
        refine ⟨r, rfl, .inr ⟨hr0, ?_⟩, hbel⟩
        have := hr.out
        have hml : (us.map (·.2)).length = us.length := List.length_map _
        rw [Ek.out, List.take_of_length_le (by have := hl.out; omega)] at this
        have := totB_flat (us.map (·.2))
        have := hl.out
        unfold needB at *
        omega

set_option maxHeartbeats 800000 in
theorem szCluster_any (A1 A2 : Option Addr) (n1 c1 n2 c2 : Nat) (room : List Int) (us : List Un) (left : Int) (w : World) (h : RdC w A1 A2 n1 n2 room us) (h0 : 0 ≤ left) (h1 : left ≤ 1048576) :
    Calls Tryz.prog 26 #[.agg #[.slice A1 n1 c1, .slice A2 n2 c2], .int .i64 left] w fun e w' => ∃ r, e = .returned (.int .i64 r) ∧ SzOk left (n1 + totB (us.map (·.2))) r ∧ Below w.heap.size w w' := by
  have hal := qh (alloc_up w (.cells #[.slice A1 n1 c1, .slice A2 n2 c2] 49))
  have H := qh (h.up hal.out)
  have P := Blk.new w 49 #[.slice A1 n1 c1, .slice A2 n2 c2]
  have x0 := P.cell 0
  have x1 := P.cell 1
  simp only [gT, gZ, gS] at x0 x1
  have hn1 := h.a.le
  clear h P
  go_enter Tryz.func26, Tryz.ntmps26
  go_wp2_with fail
  generalize w.alloc (.cells #[.slice A1 n1 c1, .slice A2 n2 c2] 49) = w1 at hal H x0 x1 ⊢
  refine (szIntS_any A1 n1 c1 left w1 h0 h1 hn1).mono ?_; rintro e w2 ⟨r, rfl, hr, rfl⟩
  rcases hr with rfl | ⟨hr, he⟩
  · go_wp2
    go_ret
    exact ⟨-1, rfl, .inl rfl, hal.out⟩
  · have He := qh he
    have hr' : ¬ r < 0 := by omega
    have hr1 : r ≤ 1048576 := by omega
    clear he
    go_wp2_with fail
    refine (szUnitS_any A2 n2 c2 us r w1 H.out.b hr hr1).mono ?_; rintro e w2 ⟨q, rfl, hq, hb⟩
    have hb2 := qh (below_to hal.out hb)
    clear hb x0 x1
    rcases hq with rfl | ⟨hq, he⟩
    · go_wp2
      go_ret
      exact ⟨-1, rfl, .inl rfl, hb2.out⟩
    · have He2 := qh he
      have hq' : ¬ q < 0 := by omega
      clear he
      go_wp2
      go_ret
      exact ⟨q, rfl, .inr ⟨hq, by have := He.out; have := He2.out; omega⟩, hb2.out⟩

/-! ### Copies -/
/-- The first k units of us lie in vs, each with tasks of its own behind g. -/
def OwUn (w : World) (g k : Nat) (us : List Un) (vs : List Value) : Prop :=
  ∀ j, j < k → ∃ g', vs[j * 2]? = some (.bool (us[j]?.getD (false, [])).1) ∧ vs[j * 2 + 1]? = some (.slice (some ⟨g', 0, none⟩) (us[j]?.getD (false, [])).2.length (us[j]?.getD (false, [])).2.length) ∧
    (us[j]?.getD (false, [])).2.length ≤ 9223372036854775807 ∧ OwT w (g + 1) g' (us[j]?.getD (false, [])).2
/-- The block g, at or above lo, holds the units us. -/
def OwN (w : World) (lo g : Nat) (us : List Un) : Prop := lo ≤ g ∧ ∃ vs : List Value, Blk w g 72 vs.toArray ∧ vs.length = us.length * 2 ∧ OwUn w g us.length us vs
section
variable {w w' : World} {lo lo' g k g' : Nat} {us : List Un} {vs : List Value}
theorem OwUn.keep (h : OwUn w g k us vs) (hk : ∀ b, g + 1 ≤ b → b < w.heap.size → w'.heap[b]? = w.heap[b]?) : OwUn w' g k us vs := fun j hj => by
  obtain ⟨g', h1, h2, h3, h4⟩ := h j hj
  exact ⟨g', h1, h2, h3, h4.keep hk (Nat.le_refl _)⟩
theorem OwN.keep (h : OwN w lo g us) (hk : ∀ b, lo ≤ b → b < w.heap.size → w'.heap[b]? = w.heap[b]?) (hl : lo' ≤ lo) : OwN w' lo' g us := by
  obtain ⟨h1, vs, h2, h3, h4⟩ := h
  exact ⟨by omega, vs, (hk g h1 h2.lt).trans h2, h3, h4.keep (fun b hb => hk b (by omega))⟩
theorem OwN.rd {n : Nat} (h : OwN w lo g us) (hl : us.length = n) (hn : n ≤ 9223372036854775807) : RdN w w.heap.size (some ⟨g, 0, none⟩) n us := by
  obtain ⟨_, vs, h2, h3, h4⟩ := h
  refine ⟨hl, hn, fun _ => ⟨g, 0, rfl, h2.lt, fun j hj => ?_⟩⟩
  obtain ⟨g', e1, e2, e3, e4⟩ := h4 j (by omega)
  exact ⟨_, _, _, by rw [h2.cell, Nat.zero_add]; simpa using e1, by rw [h2.cell, Nat.zero_add]; simpa using e2, Nat.le_refl _, e4.rd e3⟩
theorem OwUn.put (h : OwUn w g k us vs) (hl : k * 2 + 1 < vs.length) (hn : (us[k]?.getD (false, [])).2.length ≤ 9223372036854775807) (ho : OwT w (g + 1) g' (us[k]?.getD (false, [])).2) :
    OwUn w g (k + 1) us ((vs.set (k * 2) (.bool (us[k]?.getD (false, [])).1)).set (k * 2 + 1) (.slice (some ⟨g', 0, none⟩) (us[k]?.getD (false, [])).2.length (us[k]?.getD (false, [])).2.length)) := fun j hj => by
  by_cases e : j = k
  · subst e
    refine ⟨g', ?_, ?_, hn, ho⟩
    · rw [List.getElem?_set_ne (by omega), List.getElem?_set_self (by omega)]
    · rw [List.getElem?_set_self (by rw [List.length_set]; omega)]
  · obtain ⟨g'', h1, h2, h3, h4⟩ := h j (by omega)
    exact ⟨g'', by rw [List.getElem?_set_ne (by omega), List.getElem?_set_ne (by omega)]; exact h1, by rw [List.getElem?_set_ne (by omega), List.getElem?_set_ne (by omega)]; exact h2, h3, h4⟩
theorem OwT.far {ts : List Tk} (h : OwT w lo g ts) (p : Addr) (hp : p.block < lo) (u : Value) : OwT (w.setCell p u) lo g ts := h.keep (keep_far w hp u) (Nat.le_refl _)
theorem OwI.far {xs : List Int} (h : OwI w lo g xs) (p : Addr) (hp : p.block < lo) (u : Value) : OwI (w.setCell p u) lo g xs := h.keep (keep_far w hp u) (Nat.le_refl _)
theorem OwN.far (h : OwN w lo g us) (p : Addr) (hp : p.block < lo) (u : Value) : OwN (w.setCell p u) lo g us := h.keep (keep_far w hp u) (Nat.le_refl _)
end

set_option maxRecDepth 100000 in
set_option maxHeartbeats 800000 in
theorem toUnit_any (A : Option Addr) (m c : Nat) (op : Bool) (ts : List Tk) (w : World) (h : RdT w w.heap.size A m ts) (ht : totT ts ≤ 1048576) :
    Calls Tryz.prog 109 #[.agg #[.bool op, .slice A m c]] w fun e w' => ∃ g, e = .returned (.agg #[.bool op, .slice (some ⟨g, 0, none⟩) m m]) ∧ OwT w' w.heap.size g ts ∧ Below w.heap.size w w' := by
  have H := qh h
  clear h
  go_enter Tryz.func109, Tryz.ntmps109
  go_wp2_with fail
  have hal : Below w.heap.size w (((w.alloc (.cells #[.bool op, .slice A m c] 129)).alloc (.cells #[.bool false, .slice none 0 0] 72)).alloc (.cells #[.bool op, .slice none 0 0] 72)) :=
    (((Below.refl _ _).alloc (Nat.le_refl _) _).alloc (by simp) _).alloc (by simp; omega) _
  refine (toTaskS_any A m c ts _ (H.out.up hal) ht).mono ?_; rintro e w1 ⟨rfl, ho, hb1⟩
  have hbc := bcell hb1
  have Ho := qh ho
  clear ho
  go_wp2
  have c0 : w1.cell? ⟨w.heap.size + 1, 0, none⟩ = some (.bool false) := by rw [hbc.1 _ _ (by simp)]; simp [go_sem]
  have c1 : w1.cell? ⟨w.heap.size + 1, 1, none⟩ = some (.slice none 0 0) := by rw [hbc.1 _ _ (by simp)]; simp [go_sem]
  refine bodyPost_ret (v := .agg #[.bool op, .slice (some ⟨w.heap.size + 1 + 1 + 1, 0, none⟩) m m]) (by simp [results, Tryz.results109, go_sem, c0, c1]) rfl ⟨_, rfl, ?_, ?_⟩
  · have h1 := Ho.out
    simp only [World.size_alloc] at h1
    exact (((h1.far ⟨w.heap.size + 1 + 1, 1, none⟩ (by simp) _).far ⟨w.heap.size + 1, 0, none⟩ (by simp <;> omega) _).far ⟨w.heap.size + 1, 1, none⟩ (by simp <;> omega) _).keep (fun b _ _ => rfl) (by omega)
  · exact (((hal.trans (hb1.mono (by simp <;> omega))).setCell (p := ⟨w.heap.size + 1 + 1, 1, none⟩) (by simp <;> omega) _).setCell (p := ⟨w.heap.size + 1, 0, none⟩) (by simp) _).setCell (p := ⟨w.heap.size + 1, 1, none⟩) (by simp) _

set_option maxRecDepth 100000 in
set_option maxHeartbeats 1600000 in
theorem toUnitS_any (A : Option Addr) (n c : Nat) (us : List Un) (w : World) (h : RdN w w.heap.size A n us) (ht : totB (us.map (·.2)) ≤ 1048576) :
    Calls Tryz.prog 70 #[.slice A n c] w fun e w' => e = .returned (.slice (some ⟨w.heap.size, 0, none⟩) n n) ∧ OwN w' w.heap.size w.heap.size us ∧ Below w.heap.size w w' := by
  obtain ⟨i0, hi0, hz0, hz1, hz2⟩ := info_parts unit_info
  have hl := qh h.len
  have H := qh h
  have hn : n ≤ 1048576 := by have := totB_flat (us.map (·.2)); have hml : (us.map (·.2)).length = us.length := List.length_map _; have := h.len; omega
  have Ht := qh ht
  clear h ht
  have hmk := run_make_n (P := Tryz.prog) 24 72 i0 _ Tryz.underlying24 hi0 hz0 n (by rw [hz2]; omega) (by omega)
  have Hz1 := qh hz1
  clear hi0 hz0 hz2 hz1
  go_enter Tryz.func70, Tryz.ntmps70
  go_wp2
  clear hmk
  go_loopw [4] (fun i wr => ∃ k : Nat, i = .int .i64 k ∧ k ≤ n ∧ Below w.heap.size w wr ∧ ∃ vs : List Value, Blk wr w.heap.size 72 vs.toArray ∧ vs.length = n * 2 ∧ OwUn wr w.heap.size k us vs) (fun i _ => n - (intOf i).toNat)
  case atStart =>
    refine ⟨0, rfl, Nat.zero_le _, (Below.refl _ _).alloc (Nat.le_refl _) _, (madeCells #[.bool false, .slice none 0 0] (n * i0.size)).toList, ?_, ?_, fun j hj => absurd hj (by omega)⟩
    · rw [Array.toArray_toList]; exact Blk.new w _ _
    · rw [Array.length_toList, size_madeCells, Hz1.out]
  case round =>
    obtain ⟨k, rfl, hk, hbel, vs, hblk, hvl, hown⟩ := hrel
    have Hblk := qh hblk
    have Hvl := qh hvl
    have Hown := qh hown
    clear hblk hown hvl
    have lz := hbel.size
    by_cases hlt : k < n
    · obtain ⟨b, o, A', m', c', rfl, hb, hc1, hc2, hmc, hrd⟩ := (H.out.below hbel).at_ hlt
      have hkl : Hid (k < us.length) := by have := hl.out; show _ < _; omega
      have Hrd := qh (hrd.more lz)
      have hm8 : totT (us[k]?.getD (false, [])).2 ≤ 1048576 := by have := totB_bin (bs := us.map (·.2)) (k := k) (by rw [List.length_map]; exact hkl.out); rw [snd_at] at this; have := Ht.out; omega
      have k1 : (0 : Int) ≤ (k : Int) := by omega
      have k2 : (k : Int) < (n : Int) := by omega
      have k3 : 0 ≤ (k : Int) * 2 := by omega
      clear hrd
      go_wp2_with fail
      refine (toUnit_any _ _ _ _ _ _ Hrd.out hm8).mono ?_; rintro e w1 ⟨g1, rfl, ho1, hb1⟩
      have Ho1 := qh ho1
      clear ho1 hc1 hc2 hm8
      have hbel1 : Below w.heap.size w w1 := hbel.trans (hb1.mono lz)
      have Hblk1 := qh (Hblk.out.below hb1 Hblk.out.lt)
      have Hown1 := qh (Hown.out.keep (keep_up hb1 _))
      have hk1 : k * 2 < vs.length := by have := Hvl.out; omega
      have hk2 : k * 2 + 1 < vs.length := by have := Hvl.out; omega
      obtain ⟨v1, e1⟩ : ∃ v1, w1.cell? ⟨w.heap.size, k * 2, none⟩ = some v1 := ⟨vs[k * 2], by rw [Hblk1.out.cell, gT, List.getElem?_eq_getElem hk1]⟩
      obtain ⟨v2, e2⟩ : ∃ v2, w1.cell? ⟨w.heap.size, k * 2 + 1, none⟩ = some v2 := ⟨vs[k * 2 + 1], by rw [Hblk1.out.cell, gT, List.getElem?_eq_getElem hk2]⟩
      have f1 : w1.frozen? ⟨w.heap.size, k * 2, none⟩ = false := Hblk1.out.frozen _
      have f2 : w1.frozen? ⟨w.heap.size, k * 2 + 1, none⟩ = false := Hblk1.out.frozen _
      have hg1 : w.heap.size + 1 ≤ g1 := by have := Ho1.out.1; have := Hblk.out.lt; omega
      have Hk2 := qh hk2
      clear hk1 hk2
      go_wp2
      go_roundw
      case rel =>
        refine ⟨k + 1, by go_num, by omega, (hbel1.setCell (p := ⟨w.heap.size, k * 2, none⟩) (Nat.le_refl _) _).setCell (p := ⟨w.heap.size, k * 2 + 1, none⟩) (Nat.le_refl _) _, (vs.set (k * 2) (.bool (us[k]?.getD (false, [])).1)).set (k * 2 + 1) (.slice (some ⟨g1, 0, none⟩) m' m'), ?_, ?_, ?_⟩
        · have := (Hblk1.out.set_ (k * 2) (.bool (us[k]?.getD (false, [])).1)).set_ (k * 2 + 1) (.slice (some ⟨g1, 0, none⟩) m' m')
          simp only [pS] at this
          exact this
        · simp [Hvl.out]
        · have hm : m' = (us[k]?.getD (false, [])).2.length := Hrd.out.len.symm
          have ho : OwT w1 (w.heap.size + 1) g1 (us[k]?.getD (false, [])).2 := ⟨hg1, Ho1.out.2⟩
          have := (Hown1.out.put Hk2.out (by have := Hrd.out.le; omega) ho)
          rw [← hm] at this
          exact (this.keep (keep_set _ _ _ _)).keep (keep_set _ _ _ _)
      case measure => simp [intOf]; omega
    · have ek : k = n := by omega
      have Ek := qh ek
      clear ek
      go_wp2
      go_ret
      refine ⟨rfl, ⟨Nat.le_refl _, vs, Hblk.out, by rw [Hvl.out, hl.out], ?_⟩, hbel⟩
      have := Hown.out
      rw [Ek.out, ← hl.out] at this
      exact this

set_option maxRecDepth 100000 in
set_option maxHeartbeats 800000 in
theorem toCluster_any (A1 A2 : Option Addr) (n1 c1 n2 c2 : Nat) (room : List Int) (us : List Un) (w : World) (h : RdC w A1 A2 n1 n2 room us) (ht : n1 + totB (us.map (·.2)) ≤ 1048576) :
    Calls Tryz.prog 28 #[.agg #[.slice A1 n1 c1, .slice A2 n2 c2]] w fun e w' => ∃ g1 g2, e = .returned (.agg #[.slice (some ⟨g1, 0, none⟩) n1 n1, .slice (some ⟨g2, 0, none⟩) n2 n2]) ∧ OwI w' w.heap.size g1 room ∧ OwN w' w.heap.size g2 us ∧ Below w.heap.size w w' := by
  have H := qh h
  clear h
  have sz1 : (w.alloc (.cells #[.slice A1 n1 c1, .slice A2 n2 c2] 49)).heap.size = w.heap.size + 1 := World.size_alloc _ _
  have sz2 : ((w.alloc (.cells #[.slice A1 n1 c1, .slice A2 n2 c2] 49)).alloc (.cells #[.slice none 0 0, .slice none 0 0] 26)).heap.size = w.heap.size + 2 := by rw [World.size_alloc, sz1]
  have sz3 : (((w.alloc (.cells #[.slice A1 n1 c1, .slice A2 n2 c2] 49)).alloc (.cells #[.slice none 0 0, .slice none 0 0] 26)).alloc (.cells #[.slice none 0 0, .slice none 0 0] 26)).heap.size = w.heap.size + 3 := by rw [World.size_alloc, sz2]
  have B1 := qh (((alloc_up w (.cells #[.slice A1 n1 c1, .slice A2 n2 c2] 49)).alloc (by rw [sz1]; omega) (.cells #[.slice none 0 0, .slice none 0 0] 26)).alloc (by rw [sz2]; omega) (.cells #[.slice none 0 0, .slice none 0 0] 26))
  have P1 := qh (((Blk.new w 49 #[.slice A1 n1 c1, .slice A2 n2 c2]).alloc (.cells #[.slice none 0 0, .slice none 0 0] 26)).alloc (.cells #[.slice none 0 0, .slice none 0 0] 26))
  have hZ := (Blk.new (w.alloc (.cells #[.slice A1 n1 c1, .slice A2 n2 c2] 49)) 26 #[.slice none 0 0, .slice none 0 0]).alloc (.cells #[.slice none 0 0, .slice none 0 0] 26)
  rw [sz1] at hZ
  have hO := Blk.new ((w.alloc (.cells #[.slice A1 n1 c1, .slice A2 n2 c2] 49)).alloc (.cells #[.slice none 0 0, .slice none 0 0] 26)) 26 #[.slice none 0 0, .slice none 0 0]
  rw [sz2] at hO
  have Z1 := qh hZ
  have O1 := qh hO
  have H1 := qh (H.out.up B1.out)
  have x0 := P1.out.cell 0
  have x1 := P1.out.cell 1
  simp only [gT, gZ, gS] at x0 x1
  clear hZ hO sz1 sz2
  go_enter Tryz.func28, Tryz.ntmps28
  go_wp2_with fail
  generalize ((w.alloc (.cells #[.slice A1 n1 c1, .slice A2 n2 c2] 49)).alloc (.cells #[.slice none 0 0, .slice none 0 0] 26)).alloc (.cells #[.slice none 0 0, .slice none 0 0] 26) = w1 at B1 P1 Z1 O1 H1 x0 x1 sz3 ⊢
  refine (toIntS_any A1 n1 c1 room w1 H1.out.a (by omega)).mono ?_; rintro e w2 ⟨rfl, ho, hb⟩
  have B2 := qh (below_to B1.out hb)
  have P2 := qh (P1.out.below hb P1.out.lt)
  have Z2 := qh (Z1.out.below hb Z1.out.lt)
  have O2 := qh (O1.out.below hb O1.out.lt)
  have I2 := qh ho
  have lo2 : w.heap.size + 3 ≤ w1.heap.size := by omega
  clear ho hb x0 x1 B1 P1 Z1 O1 H1 sz3
  generalize w1.heap.size = gi at I2 lo2 ⊢
  have y0 := O2.out.cell 0
  have y1 := O2.out.cell 1
  simp only [gT, gZ, gS] at y0 y1
  have f0 := O2.out.frozen 0
  have f1 := O2.out.frozen 1
  have p1 := P2.out.cell 1
  simp only [gT, gZ, gS] at p1
  go_wp2_with fail
  have O3 := qh (O2.out.set_ 0 (.slice (some ⟨gi, 0, none⟩) n1 n1))
  have Z3 := qh (Z2.out.far (p := ⟨w.heap.size + 2, 0, none⟩) (by show w.heap.size + 1 ≠ w.heap.size + 2; omega) (.slice (some ⟨gi, 0, none⟩) n1 n1))
  have I3 := qh (I2.out.far ⟨w.heap.size + 2, 0, none⟩ (by show w.heap.size + 2 < gi; omega) (.slice (some ⟨gi, 0, none⟩) n1 n1))
  have B3 := qh (B2.out.setCell (p := ⟨w.heap.size + 2, 0, none⟩) (by show w.heap.size ≤ w.heap.size + 2; omega) (.slice (some ⟨gi, 0, none⟩) n1 n1))
  clear y0 y1 f0 f1 B2 P2 Z2 O2 I2 p1
  generalize w2.setCell ⟨w.heap.size + 2, 0, none⟩ (.slice (some ⟨gi, 0, none⟩) n1 n1) = w3 at B3 Z3 O3 I3 ⊢
  refine (toUnitS_any A2 n2 c2 us w3 (H.out.up B3.out).b (by omega)).mono ?_; rintro e w4 ⟨rfl, ho, hb⟩
  have B4 := qh (below_to B3.out hb)
  have Z4 := qh (Z3.out.below hb Z3.out.lt)
  have O4 := qh (O3.out.below hb O3.out.lt)
  have I4 := qh (I3.out.keep (keep_up hb _) (Nat.le_refl _))
  have U4 := qh (ho.keep (fun b _ _ => rfl) (by have := O3.out.lt; omega : w.heap.size + 3 ≤ w3.heap.size))
  clear ho hb B3 Z3 O3 I3
  generalize w3.heap.size = gu at U4 ⊢
  have y0 := O4.out.cell 0
  have y1 := O4.out.cell 1
  have z0 := Z4.out.cell 0
  have z1 := Z4.out.cell 1
  simp only [pS, pZ, gT, gZ, gS] at y0 y1 z0 z1
  have f0 := O4.out.frozen 0
  have f1 := O4.out.frozen 1
  have f2 := Z4.out.frozen 0
  have f3 := Z4.out.frozen 1
  go_wp2_with fail
  have S1 : ∀ (W : World) (p : Addr) (v : Value), w.heap.size ≤ p.block → p.block < w.heap.size + 3 → Below w.heap.size w W → OwI W gi gi room → OwN W (w.heap.size + 3) gu us → Below w.heap.size w (W.setCell p v) ∧ OwI (W.setCell p v) gi gi room ∧ OwN (W.setCell p v) (w.heap.size + 3) gu us :=
    fun W p v h1 h2 hb hi hu => ⟨hb.setCell h1 v, hi.far p (by omega) v, hu.far p h2 v⟩
  obtain ⟨b5, i5, u5⟩ := S1 w4 ⟨w.heap.size + 2, 1, none⟩ (.slice (some ⟨gu, 0, none⟩) n2 n2) (by show w.heap.size ≤ w.heap.size + 2; omega) (by show w.heap.size + 2 < w.heap.size + 3; omega) B4.out I4.out U4.out
  have z5 := Z4.out.far (p := ⟨w.heap.size + 2, 1, none⟩) (by show w.heap.size + 1 ≠ w.heap.size + 2; omega) (.slice (some ⟨gu, 0, none⟩) n2 n2)
  obtain ⟨b6, i6, u6⟩ := S1 _ ⟨w.heap.size + 1, 0, none⟩ (.slice (some ⟨gi, 0, none⟩) n1 n1) (by show w.heap.size ≤ w.heap.size + 1; omega) (by show w.heap.size + 1 < w.heap.size + 3; omega) b5 i5 u5
  obtain ⟨b7, i7, u7⟩ := S1 _ ⟨w.heap.size + 1, 1, none⟩ (.slice (some ⟨gu, 0, none⟩) n2 n2) (by show w.heap.size ≤ w.heap.size + 1; omega) (by show w.heap.size + 1 < w.heap.size + 3; omega) b6 i6 u6
  have z7 := qh ((z5.set_ 0 (.slice (some ⟨gi, 0, none⟩) n1 n1)).set_ 1 (.slice (some ⟨gu, 0, none⟩) n2 n2))
  have B7 := qh b7
  have I7 := qh i7
  have U7 := qh u7
  clear S1 b5 i5 u5 z5 b6 i6 u6 b7 i7 u7 y0 y1 z0 z1 f0 f1 f2 f3 B4 Z4 O4 I4 U4
  generalize ((w4.setCell ⟨w.heap.size + 2, 1, none⟩ (.slice (some ⟨gu, 0, none⟩) n2 n2)).setCell ⟨w.heap.size + 1, 0, none⟩ (.slice (some ⟨gi, 0, none⟩) n1 n1)).setCell ⟨w.heap.size + 1, 1, none⟩ (.slice (some ⟨gu, 0, none⟩) n2 n2) = w7 at z7 B7 I7 U7 ⊢
  have u0 : w7.cell? ⟨w.heap.size + 1, 0, none⟩ = some (.slice (some ⟨gi, 0, none⟩) n1 n1) := z7.out.cell 0
  have u1 : w7.cell? ⟨w.heap.size + 1, 1, none⟩ = some (.slice (some ⟨gu, 0, none⟩) n2 n2) := z7.out.cell 1
  refine bodyPost_ret (v := .agg #[.slice (some ⟨gi, 0, none⟩) n1 n1, .slice (some ⟨gu, 0, none⟩) n2 n2]) (by simp [results, Tryz.results28, go_sem, u0, u1]) rfl ⟨gi, gu, rfl, I7.out.keep (fun _ _ _ => rfl) (by omega), U7.out.keep (fun _ _ _ => rfl) (by omega), B7.out⟩
end Go.Proofs.YtjjnbbkdjimcoaaGreat
