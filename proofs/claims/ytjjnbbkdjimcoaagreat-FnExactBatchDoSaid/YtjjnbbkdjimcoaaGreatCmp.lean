/- Walks: the program's order of tasks: vector.total, cmp.Compare, cmp.Or, compare. -/
import Derived.Test.YtjjnbbkdjimcoaaGreatJ18
import Derived.Test.YtjjnbbkdjimcoaaGreatJ2
namespace Go.Proofs.YtjjnbbkdjimcoaaGreat
set_option linter.unusedSimpArgs false
set_option linter.unusedVariables false
open Go Go.RowKit
attribute [local go_sem ↓] Go.wp_at_zero Go.wp_at_succ

theorem sum_succ {xs : List Int} {k : Nat} (h : k < xs.length) : (xs.take (k + 1)).sum = (xs.take k).sum + xs[k]?.getD 0 := by
  rw [List.take_succ_eq_append_getElem h, List.sum_append, List.getElem?_eq_getElem h]; simp
theorem sum_bd {xs : List Int} (hb : ∀ x ∈ xs, -1000000 ≤ x ∧ x ≤ 1000000) : ∀ k : Nat, -1000000 * (k : Int) ≤ (xs.take k).sum ∧ (xs.take k).sum ≤ 1000000 * (k : Int) := by
  intro k
  induction k with
  | zero => simp
  | succ k ih =>
    by_cases h : k < xs.length
    · rw [sum_succ h, List.getElem?_eq_getElem h]
      have := hb _ (List.getElem_mem h)
      simp only [Option.getD_some]
      omega
    · rw [List.take_of_length_le (by omega)] at ih ⊢
      omega

set_option maxHeartbeats 800000 in
theorem total_any (A : Option Addr) (n c B : Nat) (xs : List Int) (w : World) (h : RdI w B A n xs) (hn : n ≤ 1000) (hb : ∀ x ∈ xs, -1000000 ≤ x ∧ x ≤ 1000000) :
    Calls Tryz.prog 185 #[.slice A n c] w fun e w' => e = .returned (.int .i64 xs.sum) ∧ w = w' := by
  have hl := qh h.len
  have H := qh h
  have Hb := qh (sum_bd hb)
  have Hx := qh hb
  clear h hb
  go_enter Tryz.func185, Tryz.ntmps185
  go_wp2
  go_loop [3, 8] (fun s i => ∃ k : Nat, i = .int .i64 k ∧ k ≤ n ∧ s = .int .i64 (xs.take k).sum) (fun _ i => n - (intOf i).toNat)
  case atStart => exact ⟨0, rfl, Nat.zero_le _, rfl⟩
  case round =>
    obtain ⟨k, rfl, hk, rfl⟩ := hrel
    by_cases hlt : k < n
    · obtain ⟨b, o, rfl, hb, hc⟩ := H.out.at_ hlt
      have Hs := qh (sum_succ (xs := xs) (k := k) (by have := hl.out; omega))
      have hk1 := Hb.out k
      have hk2 := Hb.out (k + 1)
      rw [Hs.out] at hk2
      have v1 : IntKind.i64.wrap ((k : Int) + 1) = (k : Int) + 1 := wr64 (by omega) (by omega)
      have v2 : IntKind.i64.wrap ((xs.take k).sum + xs[k]?.getD 0) = (xs.take k).sum + xs[k]?.getD 0 := wr64 (by omega) (by omega)
      go_wp2
      go_round
      case rel => exact ⟨k + 1, by go_num, by omega, by rw [Hs.out]⟩
      case measure => simp [intOf]; omega
    · go_wp2
      go_ret
      refine ⟨ret_int ?_, rfl⟩
      rw [List.take_of_length_le (by have := hl.out; omega)]

theorem isNaN_any (x : Int) (w : World) : Calls Tryz.prog 186 #[.int .i64 x] w fun e w' => e = .returned (.bool false) ∧ w = w' := by
  have h : ((x : Int) != x) = false := by simp
  go_enter Tryz.func186, Tryz.ntmps186
  go_wp2
  go_ret
  exact ⟨rfl, rfl⟩
/-- cmp.Compare. -/
def cmpP (x y : Int) : Int := if x < y then -1 else if y < x then 1 else 0
theorem cmpInt_any (x y : Int) (w : World) : Calls Tryz.prog 184 #[.int .i64 x, .int .i64 y] w fun e w' => e = .returned (.int .i64 (cmpP x y)) ∧ w = w' := by
  by_cases h1 : x < y
  · go_enter Tryz.func184, Tryz.ntmps184
    go_wp2_with (go_at_call 186; refine (isNaN_any _ _).mono ?_; rintro e w' ⟨rfl, rfl⟩)
    go_ret
    exact ⟨ret_int (by rw [cmpP, if_pos h1]), rfl⟩
  · by_cases h2 : y < x
    · go_enter Tryz.func184, Tryz.ntmps184
      go_wp2_with (go_at_call 186; refine (isNaN_any _ _).mono ?_; rintro e w' ⟨rfl, rfl⟩)
      go_ret
      exact ⟨ret_int (by rw [cmpP, if_neg (by omega), if_pos (by omega)]), rfl⟩
    · go_enter Tryz.func184, Tryz.ntmps184
      go_wp2_with (go_at_call 186; refine (isNaN_any _ _).mono ?_; rintro e w' ⟨rfl, rfl⟩)
      go_ret
      exact ⟨ret_int (by rw [cmpP, if_neg (by omega), if_neg (by omega)]), rfl⟩
/-- cmp.Or of two. -/
def orP (x y : Int) : Int := if x = 0 then y else x
theorem orTwo_any (b c : Nat) (x y : Int) (w : World) (h0 : w.cell? ⟨b, 0, none⟩ = some (.int .i64 x)) (h1 : w.cell? ⟨b, 1, none⟩ = some (.int .i64 y)) :
    Calls Tryz.prog 183 #[.slice (some ⟨b, 0, none⟩) 2 c] w fun e w' => e = .returned (.int .i64 (orP x y)) ∧ w = w' := by
  go_enter Tryz.func183, Tryz.ntmps183
  go_wp2
  go_loop [8] (fun i => ∃ k : Nat, i = .int .i64 k ∧ k ≤ 2 ∧ (0 < k → x = 0) ∧ (1 < k → y = 0)) (fun i => 2 - (intOf i).toNat)
  case atStart => exact ⟨0, rfl, Nat.zero_le _, fun h => by omega, fun h => by omega⟩
  case round =>
    obtain ⟨k, rfl, hk, hx, hy⟩ := hrel
    have Hx := qh hx
    have Hy := qh hy
    clear hx hy
    have hk3 : k = 0 ∨ k = 1 ∨ k = 2 := by omega
    clear hk
    rcases hk3 with rfl | rfl | rfl
    · by_cases hx : x = 0
      · have hb : ((x : Int) != 0) = false := by simp [hx]
        have HX := qh hx
        clear hx
        go_wp2
        go_round
        case rel => exact ⟨1, by go_num, by omega, fun _ => HX.out, fun h => by omega⟩
        case measure => simp [intOf]
      · have hb : ((x : Int) != 0) = true := by simp [hx]
        have HX := qh hx
        clear hx
        go_wp2
        go_ret
        exact ⟨ret_int (by have := HX.out; simp [orP, this]), rfl⟩
    · by_cases hy : y = 0
      · have hb : ((y : Int) != 0) = false := by simp [hy]
        have HY := qh hy
        clear hy
        go_wp2
        go_round
        case rel => exact ⟨2, by go_num, by omega, fun _ => Hx.out (by omega), fun _ => HY.out⟩
        case measure => simp [intOf]
      · have hb : ((y : Int) != 0) = true := by simp [hy]
        have HY := qh hy
        clear hy
        go_wp2
        go_ret
        exact ⟨ret_int (by have := Hx.out (by omega); simp [orP, this]), rfl⟩
    · go_wp2
      go_ret
      exact ⟨ret_int (by have h1 := Hx.out (by omega); have h2 := Hy.out (by omega); simp [orP, h1, h2]), rfl⟩
/-- compare. -/
def compP (a b : Tk) : Int := orP (cmpP b.2.sum a.2.sum) (cmpP a.1 b.1)
theorem comp_bef (a b : Tk) : decide (compP a b < 0) = befP a b := by
  rw [Bool.eq_iff_iff, bef_iff, decide_eq_true_eq]
  unfold compP orP cmpP
  by_cases h1 : b.2.sum < a.2.sum
  · simp [h1]
  · by_cases h2 : a.2.sum < b.2.sum
    · simp [h1, h2]; omega
    · by_cases h3 : a.1 < b.1
      · simp [h1, h2, h3]; omega
      · by_cases h4 : b.1 < a.1
        · simp [h1, h2, h3, h4]
        · simp [h1, h2, h3, h4]
end Go.Proofs.YtjjnbbkdjimcoaaGreat
