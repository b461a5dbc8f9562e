/- Walks: the program's evictions: EvictList$1, slices.ContainsFunc over it, slices.Repeat. -/
import Derived.Test.YtkcflajhmekcaaaGreatEvictImpl
import Derived.Test.YtkcflajhmekcaaaGreatEvictGone
import Derived.Test.YtkcflajhmekcaaaGreatMix
import Derived.Laws.CopyOwn
import Derived.Test.YtkcflajhmekcaaaGreatShelf
namespace Go.Proofs.YtkcflajhmekcaaaGreat
open Go.RowKit
attribute [local go_sem ↓] Go.wp_at_zero Go.wp_at_succ

set_option maxHeartbeats 400000 in
theorem badRank_any (n : Int) (w : World) :
    Calls Tryz.prog 32 #[.int .i64 n] w fun e w' => e = .returned (.bool (!inR 0 9 n)) ∧ w = w' := by
  go_enter Tryz.func32, Tryz.ntmps32
  go_wp2_with (go_at_call 30; refine (within_any _ _ _ _).mono ?_; rintro e w' ⟨rfl, rfl⟩)
  go_ret
  exact ⟨rfl, rfl⟩

set_option maxHeartbeats 400000 in
theorem indexRank_any (A : Option Addr) (n c B : Nat) (xs : List Int) (w : World) (h : RdI w B A n xs) :
    Calls Tryz.prog 51 #[.slice A n c, .func (.func 32) #[] #[]] w fun e w' => e = .returned (.int .i64 (idxP (fun x => !inR 0 9 x) xs)) ∧ w = w' := by
  have hn := h.le
  have hl := Lib.hid h.len
  have H := Lib.hid h
  clear h
  go_enter Tryz.func51, Tryz.ntmps51
  go_wp2
  go_loop [8] (fun i => ∃ k : Nat, i = .int .i64 k ∧ k ≤ n ∧ (∀ j, j < k → inR 0 9 (xs[j]?.getD 0) = true)) (fun i => n - (intOf i).toNat)
  case atStart => exact ⟨0, rfl, Nat.zero_le _, by intro j hj; omega⟩
  case round =>
    obtain ⟨k, rfl, hk, hall⟩ := hrel
    have Hall := Lib.hid hall
    clear hall
    by_cases hlt : k < n
    · obtain ⟨b, o, rfl, hb, hc⟩ := H.out.at_ hlt
      by_cases hin : inR 0 9 (xs[k]?.getD 0) = true
      · have Hin := Lib.hid hin
        go_wp2_with (go_at_call 32; refine (badRank_any _ _).mono ?_; rintro e w' ⟨rfl, rfl⟩)
        go_round
        case rel => exact ⟨k + 1, by go_num, by omega, fun j hj => by
          by_cases e : j = k
          · rw [e]; exact Hin.out
          · exact Hall.out j (by omega)⟩
        case measure => simp [intOf]; omega
      · have hin : inR 0 9 (xs[k]?.getD 0) = false := by simpa using hin
        have Hin := Lib.hid hin
        go_wp2_with (go_at_call 32; refine (badRank_any _ _).mono ?_; rintro e w' ⟨rfl, rfl⟩)
        go_ret
        exact ⟨ret_int (idxP_some (d := 0) (by rw [hl.out]; exact hlt) (by simp [Hin.out]) (fun j hj => by simp [Hall.out j hj])).symm, rfl⟩
    · go_wp2
      go_ret
      exact ⟨ret_int (idxP_none (d := 0) (fun j hj => by simp [Hall.out j (by have := hl.out; omega)])).symm, rfl⟩

set_option maxHeartbeats 400000 in
theorem containsRank_any (A : Option Addr) (n c B : Nat) (xs : List Int) (w : World) (h : RdI w B A n xs) :
    Calls Tryz.prog 31 #[.slice A n c, .func (.func 32) #[] #[]] w fun e w' => e = .returned (.bool (!ranksOk xs)) ∧ w = w' := by
  have H := Lib.hid h
  clear h
  go_enter Tryz.func31, Tryz.ntmps31
  go_wp2_with (go_at_call 51; refine (indexRank_any _ _ _ _ _ _ H.out).mono ?_; rintro e w' ⟨rfl, rfl⟩)
  go_ret
  exact ⟨ret_bool ((idxP_ge _ _).trans (by rw [ranksOk]; simp [List.any_eq_not_all_not])), rfl⟩

/-- The first k of n flags are set. -/
def upTo (k : Nat) : Nat → Bool := fun j => decide (j < k)
theorem splice_flags {n k m : Nat} (h : k + m ≤ n) : splice (flA (upTo k) n).toList k (List.replicate m (Value.bool true)) = (flA (upTo (k + m)) n).toList := by
  apply List.ext_getElem?
  intro i
  unfold splice
  have hl : (flA (upTo k) n).toList.length = n := by simp [flA]
  have e : ∀ (q : Nat) (i : Nat), (flA (upTo q) n).toList[i]? = if i < n then some (.bool (decide (i < q))) else none := fun q i => by
    rw [Array.getElem?_toList]
    by_cases hi : i < n
    · rw [if_pos hi, flA_at _ hi]; rfl
    · rw [if_neg hi, Array.getElem?_eq_none (by rw [flA_size]; omega)]
  rw [e (k + m) i]
  by_cases h1 : i < k
  · rw [List.getElem?_append_left (by simp [hl]; omega), List.getElem?_take_of_lt h1, e k i]
    simp [h1, show i < k + m by omega]
  · by_cases h2 : i < k + m
    · rw [List.getElem?_append_right (by simp [hl]; omega), List.getElem?_append_left (by simp [hl]; omega)]
      have hmin : min k n = k := by omega
      simp [hl, hmin, show i < n by omega, h2, show i - k < m by omega]
    · rw [List.getElem?_append_right (by simp [hl]; omega), List.getElem?_append_right (by simp [hl]; omega), List.getElem?_drop]
      have hmin : min k n = k := by omega
      simp only [List.length_take, List.length_replicate, hl, hmin]
      rw [e k]
      rw [show k + m + (i - k - m) = i from by omega]
      simp [h1, h2]
theorem flA_upTo (n : Nat) : flA (upTo n) n = flA (fun _ => true) n := flA_congr fun j hj => by simp [upTo, hj]
theorem flA_zero (n : Nat) : flA (fun _ => false) n = flA (upTo 0) n := flA_congr fun j hj => by simp [upTo]

theorem mul_one_any (n : Nat) (hn : n ≤ 1000000) (w : World) :
    Calls Tryz.prog 52 #[.int .u64 1, .int .u64 n] w fun e w' => e = .returned (.tuple #[.int .u64 0, .int .u64 n]) ∧ w = w' := by
  refine (Tryz.bits_Mul 1 n (by omega) (by omega) w).mono ?_
  rintro e w' ⟨rfl, rfl⟩
  have h1 : 1 * n / 18446744073709551616 = 0 := by omega
  have h2 : 1 * n % 18446744073709551616 = n := by omega
  exact ⟨by rw [h1, h2]; rfl, rfl⟩

set_option maxRecDepth 100000 in
set_option maxHeartbeats 1600000 in
theorem repeat_any (b n : Nat) (w : World) (hb : Blk w b 4 #[.bool true]) (hn : n ≤ 1000000) :
    Calls Tryz.prog 33 #[.slice (some ⟨b, 0, none⟩) 1 1, .int .i64 n] w fun e w' => ∃ g, e = .returned (.slice (some ⟨g, 0, none⟩) n n) ∧ w.heap.size ≤ g ∧ Blk w' g 4 (flA (fun _ => true) n) ∧ Below w.heap.size w w' := by
  obtain ⟨i0, hi0, hz0, hz1, hz2⟩ := info_parts bool_info
  have hmk := run_make_n (P := Tryz.prog) 51 4 i0 _ Tryz.underlying51 hi0 hz0 n (by rw [hz2]; omega) (by omega)
  simp only [Value.cells, hz1, Nat.mul_one, made_flags] at hmk
  have hsz1 : (Tryz.prog.info? 4).map (·.size) = some 1 := by rw [hi0]; simp [hz1]
  clear hi0 hz0 hz2
  have HB := Lib.hid hb
  clear hb
  have e1 : ((n : Int) < 0) = False := by simp
  have e2 : IntKind.u64.wrap (n : Int) = (n : Int) := IntWalk.u64_in _ (by omega)
  have e3 : decide ((9223372036854775807 : Int) < (n : Int)) = false := by simp; omega
  have e4 : IntKind.i64.wrap (n : Int) = (n : Int) := wr64 (by omega) (by omega)
  have G0 := Lib.hid (show (w.alloc (.cells (flA (fun _ => false) n) 4)).heap[w.heap.size]? = some (.cells ((flA (upTo 0) n).toList).toArray 4 (0, 0)) from by
    have := Blk.new w 4 (flA (fun _ => false) n)
    rw [flA_zero] at this ⊢
    exact this)
  have P0 := Lib.hid (show Src (w.alloc (.cells (flA (fun _ => false) n) 4)) 1 (some ⟨b, 0, none⟩) (Nat.min 1 n) (List.replicate (Nat.min 1 n) (Value.bool true)) from ⟨by simp, fun _ => ⟨_, rfl, fun j v hv => by
    rw [List.getElem?_replicate] at hv
    split at hv
    · rename_i hj
      have hj0 : j = 0 := by have : Nat.min 1 n ≤ 1 := Nat.min_le_left 1 n; omega
      subst hj0
      injection hv with hv
      rw [addr_add, (HB.out.alloc _).cell, ← hv]
      rfl
    · cases hv⟩⟩)
  have B0 := Lib.hid (new_up w (.cells (flA (fun _ => false) n) 4))
  have hl0 : (List.replicate (Nat.min 1 n) (Value.bool true)).length = Nat.min 1 n := List.length_replicate
  have L0 := Lib.hid hl0
  clear hl0
  have hf0 : 0 + (List.replicate (Nat.min 1 n) (Value.bool true)).length ≤ (flA (upTo 0) n).toList.length := by rw [List.length_replicate]; simp [flA]; exact Nat.min_le_right 1 n
  have F0 := Lib.hid hf0
  clear hf0
  have h10 : ∀ v ∈ List.replicate (Nat.min 1 n) (Value.bool true), v.oneCell' = true := fun v hv => by rw [List.eq_of_mem_replicate hv]; rfl
  have O0 := Lib.hid h10
  clear h10
  go_enter Tryz.func33, Tryz.ntmps33
  go_wp2_with fail
  refine (mul_one_any n hn _).mono ?_; rintro e w1 ⟨rfl, rfl⟩
  go_wp2_with (refine wpList_copy_splice rfl (.tmp 31) (.tmp 32) 51 51 rfl 4 Tryz.underlying51 hsz1 (some ⟨w.heap.size, 0, none⟩) (some ⟨b, 0, none⟩) n n 1 1 rfl rfl w.heap.size 0 (flA (upTo 0) n).toList 4 G0.out (List.replicate (Nat.min 1 n) (Value.bool true)) L0.out (fun h => ⟨rfl, P0.out.2 (by rwa [List.length_replicate] at h)⟩) F0.out O0.out w.heap.size w B0.out (Nat.le_refl _) ?_; intro w2 hg2 hb2)
  have G2 := Lib.hid (show Blk w2 w.heap.size 4 (flA (upTo (Nat.min 1 n)) n) from by
    have := hg2.out
    rw [splice_flags (by rw [Nat.zero_add]; exact Nat.min_le_right 1 n), Nat.zero_add] at this
    exact this)
  have B2 := Lib.hid hb2
  clear hg2 hb2 G0 P0 B0 L0 F0 O0 hmk
  have hk1 : Nat.min 1 n ≤ n := Nat.min_le_right 1 n
  have hk2 : 0 < n → 0 < Nat.min 1 n := fun h => by show 0 < min 1 n; omega
  have Hk2 := Lib.hid hk2
  clear hk2
  generalize Nat.min 1 n = k0 at hk1 Hk2 G2 ⊢
  go_loopw [8] (fun i wr => ∃ k : Nat, i = .int .i64 k ∧ k ≤ n ∧ Hid (0 < n → 0 < k) ∧ Below w.heap.size w wr ∧ Blk wr w.heap.size 4 (flA (upTo k) n)) (fun i _ => n - (intOf i).toNat)
  case atStart => exact ⟨k0, rfl, hk1, Hk2, B2.out, G2.out⟩
  case round =>
    clear G2 B2 Hk2 hk1
    obtain ⟨k, rfl, hk, hk0, hbel, hblk⟩ := hrel
    have Hblk := Lib.hid hblk
    have Hbel := Lib.hid hbel
    clear hblk hbel
    by_cases hlt : k < n
    · have k1 : (0 : Int) ≤ (k : Int) := by omega
      have k2 : (k : Int) < (n : Int) := by omega
      have k3 : (k : Int) ≤ (n : Int) := by omega
      have knk : (n = k) = False := by simp; omega
      go_wp2_with fail
      refine wp_region_mix (.take 0 (.take 1 (.take 2 (.take 3 (.take 4 (.take 5 (.take 6 (.bar 7 (.take 8 (.take 9 .nil)))))))))) (fun _ => True) (by kernel_rfl) (by kernel_rfl) trivial (fun _ => ?_)
      repeat (first | (refine wpMix_skip (by rfl) (by rfl) ?_; (try simp only [Act.put, List.setIfInBounds_toArray, List.set_cons_zero, List.set_cons_succ])) | (refine wpMix_take (v := ?_) (by rfl) (by rfl) (fun wS hSt => ?_) ?_; rotate_left; (focus ((try dsimp only at hSt); (go_simp <;> with_reducible rfl); done)); (try simp only [Act.put, List.setIfInBounds_toArray, List.set_cons_zero, List.set_cons_succ])))
      refine wpMix_bar (by rfl) (fun K hK => ?_)
      have hm : Nat.min k (n - k) ≤ n - k := Nat.min_le_right _ _
      have hm1 : 0 < k → 0 < Nat.min k (n - k) := fun h => by show 0 < min k (n - k); omega
      have Hm1 := Lib.hid hm1
      clear hm1
      have hml : Nat.min k (n - k) ≤ k := Nat.min_le_left _ _
      have hcs : (List.replicate (Nat.min k (n - k)) (Value.bool true)).length = Nat.min k (n - k) := List.length_replicate
      have hsrc : Src wr.drew 1 (some ⟨w.heap.size, 0, none⟩) (Nat.min k (n - k)) (List.replicate (Nat.min k (n - k)) (Value.bool true)) := ⟨by simp, fun _ => ⟨_, rfl, fun j v hv => by
        rw [List.getElem?_replicate] at hv
        split at hv
        · rename_i hj
          injection hv with hv
          rw [addr_add, Nat.zero_add, Hblk.out.drew.cell, flA_at _ (show j < n by omega), ← hv]
          simp [upTo]; omega
        · cases hv⟩⟩
      refine step_copy_splice (by rfl) (.tmp 41) (.tmp 44) 51 51 (by rfl) 4 Tryz.underlying51 hsz1 (some ⟨w.heap.size, k, none⟩) (some ⟨w.heap.size, 0, none⟩) (n - k) (n - k) k n (by rfl) (by rfl) w.heap.size k (flA (upTo k) n).toList 4
        Hblk.out.drew (List.replicate (Nat.min k (n - k)) (Value.bool true)) hcs (fun h => ⟨rfl, hsrc.2 (by rwa [List.length_replicate] at h)⟩) (by rw [List.length_replicate]; simp [flA]; omega) (fun v hv => by rw [List.eq_of_mem_replicate hv]; rfl) w.heap.size w Hbel.out.drew (Nat.le_refl _) ?_
      intro w3 hg3 hb3
      rw [hcs]
      have G3 := Lib.hid (show Blk w3 w.heap.size 4 (flA (upTo (k + Nat.min k (n - k))) n) from by
        have := hg3.out
        rw [splice_flags (by omega)] at this
        exact this)
      have B3 := Lib.hid hb3
      clear hg3 hb3 hsrc hcs
      ((try dsimp only); refine hK.out _ _ (trivial) (fun hSw => ?_); (try clear hSw); clear hK K; (try simp only [Act.put, List.setIfInBounds_toArray, List.set_cons_zero, List.set_cons_succ]))
      have hle : k + Nat.min k (n - k) ≤ n := by omega
      have hpos : 0 < Nat.min k (n - k) := Hm1.out (hk0.out (by omega))
      generalize Nat.min k (n - k) = m at G3 hle hpos ⊢
      have hw : IntKind.i64.wrap ((k : Int) + (m : Int)) = (k : Int) + (m : Int) := wr64 (by omega) (by omega)
      repeat (first | (refine wpMix_skip (by rfl) (by rfl) ?_; (try simp only [Act.put, List.setIfInBounds_toArray, List.set_cons_zero, List.set_cons_succ])) | (refine wpMix_take (v := ?_) (by rfl) (by rfl) (fun wS hSt => ?_) ?_; rotate_left; (focus ((try dsimp only at hSt); (go_simp <;> with_reducible rfl); done)); (try simp only [Act.put, List.setIfInBounds_toArray, List.set_cons_zero, List.set_cons_succ])))
      refine wpMix_nil ?_
      clear hw
      go_roundw
      case rel => (repeat apply Exists.intro); exact ⟨⟨k + m, by go_num, hle, Lib.hid (fun h => by omega), B3.out, G3.out⟩, rfl⟩
      case measure => simp [intOf]; omega
    · obtain rfl : k = n := by omega
      go_wp2_with fail
      go_ret
      exact ⟨w.heap.size, rfl, Nat.le_refl _, by have := Hblk.out; rwa [flA_upTo] at this, Hbel.out⟩
end Go.Proofs.YtkcflajhmekcaaaGreat
