/- Walks: toIntS, toTask, toTaskS, toTaskSS: copies in new memory. -/
import Derived.Test.YtkcflajhmekcaaaGreatLawKit
namespace Go.Proofs.YtkcflajhmekcaaaGreat
open Go.RowKit

theorem fillI_set (xs : List Int) {k : Nat} (h : k < xs.length) : (xs.take k ++ List.replicate (xs.length - k) 0).set k (xs[k]?.getD 0) = xs.take (k + 1) ++ List.replicate (xs.length - (k + 1)) 0 := by
  rw [List.getElem?_eq_getElem h]; exact fill_set xs 0 h
theorem keep_far (w : World) {lo : Nat} {p : Addr} (hp : p.block < lo) (u : Value) : ∀ b, lo ≤ b → b < w.heap.size → (w.setCell p u).heap[b]? = w.heap[b]? := fun b h _ => Below.heap_setCell w p u b (by omega)

set_option maxRecDepth 100000 in
set_option maxHeartbeats 800000 in
theorem toIntS_any (A : Option Addr) (n c : Nat) (xs : List Int) (w : World) (h : RdI w w.heap.size A n xs) (hm : n ≤ 1048576) :
    Calls Tryz.prog 9 #[.slice A n c] w fun e w' => e = .returned (.slice (some ⟨w.heap.size, 0, none⟩) n n) ∧ OwI w' w.heap.size w.heap.size xs ∧ Below w.heap.size w w' := by
  obtain ⟨i0, hi0, hz0, hz1, hz2⟩ := info_parts int_info
  have hl := Lib.hid h.len
  have hn := h.le
  have H := Lib.hid h
  clear h
  have hmk := run_make_n (P := Tryz.prog) 22 3 i0 _ Tryz.underlying22 hi0 hz0 n (by rw [hz2]; omega) (by omega)
  clear hi0 hz0 hz2
  go_enter Tryz.func9, Tryz.ntmps9
  go_wp2
  clear hmk
  go_loopw [4] (fun i wr => ∃ k : Nat, i = .int .i64 k ∧ k ≤ n ∧ Below w.heap.size w wr ∧ Blk wr w.heap.size 3 ((xs.take k ++ List.replicate (xs.length - k) 0).map (Value.int .i64)).toArray) (fun i _ => n - (intOf i).toNat)
  case atStart =>
    refine ⟨0, rfl, Nat.zero_le _, (Below.refl _ _).alloc (Nat.le_refl _) _, ?_⟩
    have e : madeCells #[.int .i64 0] n = ((xs.take 0 ++ List.replicate (xs.length - 0) 0).map (Value.int .i64)).toArray := by
      apply Array.toList_inj.1
      rw [hl.out, toList_madeCells_one]
      simp
    rw [← e]
    exact Blk.new w _ _
  case round =>
    obtain ⟨k, rfl, hk, hbel, hblk⟩ := hrel
    have Hblk := Lib.hid hblk
    clear hblk
    have lz := hbel.size
    by_cases hlt : k < n
    · obtain ⟨b, o, rfl, hb, hc⟩ := (H.out.below hbel).at_ hlt
      have hkl : Hid (k < xs.length) := by have := hl.out; show _ < _; omega
      obtain ⟨old, hcz⟩ : ∃ old, wr.cell? ⟨w.heap.size, k, none⟩ = some (.int .i64 old) := by
        rw [Hblk.out.cell]
        have hlen : (xs.take k ++ List.replicate (xs.length - k) (0 : Int)).length = xs.length := by simp; have := hkl.out; omega
        exact ⟨_, by rw [List.getElem?_toArray, List.getElem?_map, List.getElem?_eq_getElem (by rw [hlen]; exact hkl.out)]; rfl⟩
      have hfz : wr.frozen? ⟨w.heap.size, k, none⟩ = false := Hblk.out.frozen _
      go_wp2
      go_roundw
      case rel =>
        refine ⟨k + 1, by go_num, by omega, hbel.setCell (p := ⟨w.heap.size, k, none⟩) (Nat.le_refl _) _, ?_⟩
        have := Hblk.out.set_ k (.int .i64 (xs[k]?.getD 0))
        rw [ints_set, fillI_set _ hkl.out] at this
        exact this
      case measure => simp [intOf]; omega
    · have ek : k = n := by omega
      have Ek := Lib.hid ek
      clear ek
      go_wp2
      go_ret
      refine ⟨rfl, ⟨Nat.le_refl _, ?_⟩, hbel⟩
      have := Hblk.out
      rw [Ek.out, List.take_of_length_le (by have := hl.out; omega), show xs.length - n = 0 from by have := hl.out; omega] at this
      simpa using this

set_option maxRecDepth 100000 in
set_option maxHeartbeats 800000 in
theorem toTask_any (A : Option Addr) (m c : Nat) (id : Int) (xs : List Int) (w : World) (h : RdI w w.heap.size A m xs) (hm : m ≤ 1048576) :
    Calls Tryz.prog 11 #[.agg #[.int .i64 id, .slice A m c]] w fun e w' => ∃ g, e = .returned (.agg #[.int .i64 id, .slice (some ⟨g, 0, none⟩) m m]) ∧ OwI w' w.heap.size g xs ∧ Below w.heap.size w w' := by
  have H := Lib.hid h
  clear h
  go_enter Tryz.func11, Tryz.ntmps11
  go_wp2_with fail
  have hal : Below w.heap.size w (((w.alloc (.cells #[.int .i64 id, .slice A m c] 25)).alloc (.cells #[.int .i64 0, .slice none 0 0] 33)).alloc (.cells #[.int .i64 id, .slice none 0 0] 33)) :=
    (((Below.refl _ _).alloc (Nat.le_refl _) _).alloc (by simp) _).alloc (by simp; omega) _
  refine (toIntS_any A m c xs _ (H.out.up hal) hm).mono ?_; rintro e w1 ⟨rfl, ho, hb1⟩
  have hbc := bcell hb1
  have Ho := Lib.hid ho
  clear ho
  go_wp2
  have c0 : w1.cell? ⟨w.heap.size + 1, 0, none⟩ = some (.int .i64 0) := by rw [hbc.1 _ _ (by simp)]; simp [go_sem]
  have c1 : w1.cell? ⟨w.heap.size + 1, 1, none⟩ = some (.slice none 0 0) := by rw [hbc.1 _ _ (by simp)]; simp [go_sem]
  refine bodyPost_ret (v := .agg #[.int .i64 id, .slice (some ⟨w.heap.size + 1 + 1 + 1, 0, none⟩) m m]) (by simp [results, Tryz.results11, go_sem, c0, c1]) rfl ⟨_, rfl, ?_, ?_⟩
  · have h1 := Ho.out
    simp only [World.size_alloc] at h1
    exact ((h1.keep (keep_far _ (p := ⟨w.heap.size + 1 + 1, 1, none⟩) (by simp) _) (Nat.le_refl _)).keep (keep_far _ (p := ⟨w.heap.size + 1, 0, none⟩) (by simp <;> omega) _) (Nat.le_refl _)).keep (keep_far _ (p := ⟨w.heap.size + 1, 1, none⟩) (by simp <;> omega) _) (by omega)
  · exact (((hal.trans (hb1.mono (by simp <;> omega))).setCell (p := ⟨w.heap.size + 1 + 1, 1, none⟩) (by simp <;> omega) _).setCell (p := ⟨w.heap.size + 1, 0, none⟩) (by simp) _).setCell (p := ⟨w.heap.size + 1, 1, none⟩) (by simp) _

set_option maxRecDepth 100000 in
set_option maxHeartbeats 1600000 in
theorem toTaskS_any (A : Option Addr) (n c : Nat) (ts : List Tk) (w : World) (h : RdT w w.heap.size A n ts) (ht : totT ts ≤ 1048576) :
    Calls Tryz.prog 10 #[.slice A n c] w fun e w' => e = .returned (.slice (some ⟨w.heap.size, 0, none⟩) n n) ∧ OwT w' w.heap.size w.heap.size ts ∧ Below w.heap.size w w' := by
  obtain ⟨i0, hi0, hz0, hz1, hz2⟩ := info_parts task_info
  have hl := Lib.hid h.len
  have H := Lib.hid h
  have hn : n ≤ 1048576 := by have := totT_ge ts; have := h.len; omega
  have Ht := Lib.hid ht
  clear h ht
  have hmk := run_make_n (P := Tryz.prog) 31 33 i0 _ Tryz.underlying31 hi0 hz0 n (by rw [hz2]; omega) (by omega)
  have Hz1 := Lib.hid hz1
  clear hi0 hz0 hz2 hz1
  go_enter Tryz.func10, Tryz.ntmps10
  go_wp2
  clear hmk
  go_loopw [4] (fun i wr => ∃ k : Nat, i = .int .i64 k ∧ k ≤ n ∧ Below w.heap.size w wr ∧ ∃ vs : List Value, Blk wr w.heap.size 33 vs.toArray ∧ vs.length = n * 2 ∧ OwTk wr w.heap.size k ts vs) (fun i _ => n - (intOf i).toNat)
  case atStart =>
    refine ⟨0, rfl, Nat.zero_le _, (Below.refl _ _).alloc (Nat.le_refl _) _, (madeCells #[.int .i64 0, .slice none 0 0] (n * i0.size)).toList, ?_, ?_, fun j hj => absurd hj (by omega)⟩
    · rw [Array.toArray_toList]; exact Blk.new w _ _
    · rw [Array.length_toList, size_madeCells, Hz1.out]
  case round =>
    obtain ⟨k, rfl, hk, hbel, vs, hblk, hvl, hown⟩ := hrel
    have Hblk := Lib.hid hblk
    have Hvl := Lib.hid hvl
    have Hown := Lib.hid hown
    clear hblk hown hvl
    have lz := hbel.size
    by_cases hlt : k < n
    · obtain ⟨b, o, A', m', c', rfl, hb, hc1, hc2, hmc, hrd⟩ := (H.out.below hbel).at_ hlt
      have hkl : Hid (k < ts.length) := by have := hl.out; show _ < _; omega
      have Hrd := Lib.hid (hrd.more lz)
      have hm8 : m' ≤ 1048576 := by have := hrd.len; have := totT_need hkl.out; have := Ht.out; omega
      clear hrd
      go_wp2_with fail
      refine (toTask_any _ _ _ _ _ _ Hrd.out hm8).mono ?_; rintro e w1 ⟨g1, rfl, ho1, hb1⟩
      have Ho1 := Lib.hid ho1
      clear ho1 hc1 hc2
      have hbel1 : Below w.heap.size w w1 := hbel.trans (hb1.mono lz)
      have Hblk1 := Lib.hid (Hblk.out.below hb1 Hblk.out.lt)
      have Hown1 := Lib.hid (Hown.out.keep (keep_up hb1 _))
      have hk1 : k * 2 < vs.length := by have := Hvl.out; omega
      have hk2 : k * 2 + 1 < vs.length := by have := Hvl.out; omega
      obtain ⟨v1, e1⟩ : ∃ v1, w1.cell? ⟨w.heap.size, k * 2, none⟩ = some v1 := ⟨vs[k * 2], by rw [Hblk1.out.cell, List.getElem?_toArray, List.getElem?_eq_getElem hk1]⟩
      obtain ⟨v2, e2⟩ : ∃ v2, w1.cell? ⟨w.heap.size, k * 2 + 1, none⟩ = some v2 := ⟨vs[k * 2 + 1], by rw [Hblk1.out.cell, List.getElem?_toArray, List.getElem?_eq_getElem hk2]⟩
      have f1 : w1.frozen? ⟨w.heap.size, k * 2, none⟩ = false := Hblk1.out.frozen _
      have f2 : w1.frozen? ⟨w.heap.size, k * 2 + 1, none⟩ = false := Hblk1.out.frozen _
      have hg1 : w.heap.size + 1 ≤ g1 := by have := Ho1.out.1; have := Hblk.out.lt; omega
      have Hk2 := Lib.hid hk2
      clear hk1 hk2
      go_wp2
      go_roundw
      case rel =>
        refine ⟨k + 1, by go_num, by omega, (hbel1.setCell (p := ⟨w.heap.size, k * 2, none⟩) (Nat.le_refl _) _).setCell (p := ⟨w.heap.size, k * 2 + 1, none⟩) (Nat.le_refl _) _, (vs.set (k * 2) (.int .i64 (ts[k]?.getD (0, [])).1)).set (k * 2 + 1) (.slice (some ⟨g1, 0, none⟩) m' m'), ?_, ?_, ?_⟩
        · have := (Hblk1.out.set_ (k * 2) (.int .i64 (ts[k]?.getD (0, [])).1)).set_ (k * 2 + 1) (.slice (some ⟨g1, 0, none⟩) m' m')
          simp only [List.setIfInBounds_toArray] at this
          exact this
        · simp [Hvl.out]
        · have hm : m' = (ts[k]?.getD (0, [])).2.length := Hrd.out.len.symm
          have ho : OwI w1 (w.heap.size + 1) g1 (ts[k]?.getD (0, [])).2 := ⟨hg1, Ho1.out.2⟩
          have := (Hown1.out.put Hk2.out (by have := Hrd.out.le; omega) ho)
          rw [← hm] at this
          exact (this.keep (keep_set _ _ _ _)).keep (keep_set _ _ _ _)
      case measure => simp [intOf]; omega
    · have ek : k = n := by omega
      have Ek := Lib.hid ek
      clear ek
      go_wp2
      go_ret
      refine ⟨rfl, ⟨Nat.le_refl _, vs, Hblk.out, by rw [Hvl.out, hl.out], ?_⟩, hbel⟩
      have := Hown.out
      rw [Ek.out, ← hl.out] at this
      exact this

end Go.Proofs.YtkcflajhmekcaaaGreat
