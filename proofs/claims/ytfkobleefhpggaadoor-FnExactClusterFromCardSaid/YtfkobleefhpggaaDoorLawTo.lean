/- Walks: toIntS, toTask, toTaskS, toTaskSS: copies in new memory. -/
import Derived.Test.YtfkobleefhpggaaDoorLawKit
namespace Go.Proofs.YtfkobleefhpggaaDoor
open Go.RowKit

theorem fillI_set (xs : List Int) {k : Nat} (h : k < xs.length) : (xs.take k ++ List.replicate (xs.length - k) 0).set k (xs[k]?.getD 0) = xs.take (k + 1) ++ List.replicate (xs.length - (k + 1)) 0 := by
  rw [List.getElem?_eq_getElem h]; exact fill_set xs 0 h
theorem keep_far (w : World) {lo : Nat} {p : Addr} (hp : p.block < lo) (u : Value) : ∀ b, lo ≤ b → b < w.heap.size → (w.setCell p u).heap[b]? = w.heap[b]? := fun b h _ => Below.heap_setCell w p u b (by omega)

set_option maxRecDepth 100000 in
set_option maxHeartbeats 800000 in
theorem toIntS_any (A : Option Addr) (n c : Nat) (xs : List Int) (w : World) (h : RdI w w.heap.size A n xs) (hm : n ≤ 1048576) :
    Calls Tryd.prog 7 #[.slice A n c] w fun e w' => e = .returned (.slice (some ⟨w.heap.size, 0, none⟩) n n) ∧ OwI w' w.heap.size w.heap.size xs ∧ Below w.heap.size w w' := by
  obtain ⟨i0, hi0, hz0, hz1, hz2⟩ := info_parts int_info
  have hl := Lib.hid h.len
  have hn := h.le
  have H := Lib.hid h
  clear h
  have hmk := run_make_n (P := Tryd.prog) 22 3 i0 _ Tryd.underlying22 hi0 hz0 n (by rw [hz2]; omega) (by omega)
  clear hi0 hz0 hz2
  go_enter Tryd.func7, Tryd.ntmps7
  go_wp2
  clear hmk
  go_loopw [4] (fun i wr => ∃ k : Nat, i = .int .i64 k ∧ k ≤ n ∧ Below w.heap.size w wr ∧ Blk wr w.heap.size 3 ((xs.take k ++ List.replicate (xs.length - k) 0).map (Value.int .i64)).toArray) (fun i _ => n - (intOf i).toNat)
  case atStart =>
    refine ⟨0, rfl, Nat.zero_le _, (Below.refl _ _).alloc (Nat.le_refl _) _, ?_⟩
    have e : madeCells #[.int .i64 0] n = ((xs.take 0 ++ List.replicate (xs.length - 0) 0).map (Value.int .i64)).toArray := by
      apply Array.toList_inj.1
      rw [hl.out, toList_madeCells_one]
      simp
    rw [← e]
    exact Blk.new w _ _
  case round =>
    obtain ⟨k, rfl, hk, hbel, hblk⟩ := hrel
    have Hblk := Lib.hid hblk
    clear hblk
    have lz := hbel.size
    by_cases hlt : k < n
    · obtain ⟨b, o, rfl, hb, hc⟩ := (H.out.below hbel).at_ hlt
      have hkl : Hid (k < xs.length) := by have := hl.out; show _ < _; omega
      obtain ⟨old, hcz⟩ : ∃ old, wr.cell? ⟨w.heap.size, k, none⟩ = some (.int .i64 old) := by
        rw [Hblk.out.cell]
        have hlen : (xs.take k ++ List.replicate (xs.length - k) (0 : Int)).length = xs.length := by simp; have := hkl.out; omega
        exact ⟨_, by rw [List.getElem?_toArray, List.getElem?_map, List.getElem?_eq_getElem (by rw [hlen]; exact hkl.out)]; rfl⟩
      have hfz : wr.frozen? ⟨w.heap.size, k, none⟩ = false := Hblk.out.frozen _
      go_wp2
      go_roundw
      case rel =>
        refine ⟨k + 1, by go_num, by omega, hbel.setCell (p := ⟨w.heap.size, k, none⟩) (Nat.le_refl _) _, ?_⟩
        have := Hblk.out.set_ k (.int .i64 (xs[k]?.getD 0))
        rw [ints_set, fillI_set _ hkl.out] at this
        exact this
      case measure => simp [intOf]; omega
    · have ek : k = n := by omega
      have Ek := Lib.hid ek
      clear ek
      go_wp2
      go_ret
      refine ⟨rfl, ⟨Nat.le_refl _, ?_⟩, hbel⟩
      have := Hblk.out
      rw [Ek.out, List.take_of_length_le (by have := hl.out; omega), show xs.length - n = 0 from by have := hl.out; omega] at this
      simpa using this



end Go.Proofs.YtfkobleefhpggaaDoor
