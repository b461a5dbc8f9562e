/- The walk of the law FnEvictEach. -/
import Derived.Test.YtkcflajhmekcaaaGreatEvictLawPure
import Derived.Test.YtkcflajhmekcaaaGreatEvictRankLaw
import Derived.Test.YtkcflajhmekcaaaGreatEvictFitLaw
namespace Go.Proofs.YtkcflajhmekcaaaGreat
open Go Go.RowKit
attribute [local go_sem ↓] Go.wp_at_zero Go.wp_at_succ

theorem listG_any {g : Nat → Bool} {n i : Nat} (hi : i < n) : (listG g n).any (fun x => x == (i : Int)) = g i := by
  rw [Bool.eq_iff_iff, List.any_eq_true]
  constructor
  · rintro ⟨x, hx, hxi⟩
    rw [listG, List.mem_map] at hx
    obtain ⟨j, hj, rfl⟩ := hx
    rw [List.mem_filter] at hj
    have : j = i := by have h' : (j : Int) = (i : Int) := by simpa using hxi
                       omega
    rw [← this]; exact hj.2
  · intro h
    exact ⟨(i : Int), by rw [listG, List.mem_map]; exact ⟨i, by rw [List.mem_filter, List.mem_range]; exact ⟨hi, h⟩, rfl⟩, by simp⟩



end Go.Proofs.YtkcflajhmekcaaaGreat
