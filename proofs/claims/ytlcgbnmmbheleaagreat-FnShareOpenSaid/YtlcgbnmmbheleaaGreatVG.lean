/- Several texts in one. -/
import Derived.Test.YtlcgbnmmbheleaaGreatVE
import Derived.Test.YtlcgbnmmbheleaaGreatVD
import Derived.Test.YtlcgbnmmbheleaaGreatV23
namespace Go.Proofs.YtlcgbnmmbheleaaGreat
set_option linter.unusedSimpArgs false
set_option linter.unusedVariables false
open Go Go.RowKit
attribute [local go_sem ↓] Go.wp_at_zero Go.wp_at_succ

def cutTwo (vt : List Value) (k : Nat) : List Value := vt.take (k * 2) ++ vt.drop (k * 2 + 2)
theorem NdR.cut {w : World} {base n k : Nat} {vt : List Value} {ts : List Tk} (h : NdR w base n vt ts) (hk : k < n) : NdR w base (n - 1) (cutTwo vt k) (ts.eraseIdx k) := by
  have h1 := h.1
  have h2 := h.2.1
  have hc : ∀ i, (cutTwo vt k)[i]? = if i < k * 2 then vt[i]? else vt[i + 2]? := fun i => by
    unfold cutTwo
    split
    · rename_i hi
      rw [List.getElem?_append_left (by rw [List.length_take]; omega), List.getElem?_take, if_pos hi]
    · rename_i hi
      rw [List.getElem?_append_right (by rw [List.length_take]; omega), List.length_take, List.getElem?_drop]
      congr 1
      omega
  refine ⟨by rw [List.length_eraseIdx, if_pos (by omega)]; omega, by unfold cutTwo; rw [List.length_append, List.length_take, List.length_drop]; omega, fun j hj => ?_⟩
  rw [hc, hc, List.getElem?_eraseIdx]
  by_cases hjk : j < k
  · obtain ⟨A, m, c, e1, e2, e3⟩ := h.2.2 j (by omega)
    rw [if_pos (show j * 2 < k * 2 by omega), if_pos hjk, if_pos (show j * 2 + 1 < k * 2 by omega)]
    exact ⟨A, m, c, e1, e2, e3⟩
  · obtain ⟨A, m, c, e1, e2, e3⟩ := h.2.2 (j + 1) (by omega)
    rw [if_neg (show ¬ j * 2 < k * 2 by omega), if_neg hjk, if_neg (show ¬ j * 2 + 1 < k * 2 by omega)]
    exact ⟨A, m, c, by rw [show j * 2 + 2 = (j + 1) * 2 by omega]; exact e1, by rw [show j * 2 + 1 + 2 = (j + 1) * 2 + 1 by omega]; exact e2, e3⟩

theorem NdR.ones {w : World} {base n : Nat} {vs : List Value} {ts : List Tk} (h : NdR w base n vs ts) : ∀ u ∈ vs, u.oneCell' = true := by
  intro u hu
  obtain ⟨i, hi, rfl⟩ := List.getElem_of_mem hu
  have hl := h.2.1
  obtain ⟨A, m, c, h1, h2, _⟩ := h.2.2 (i / 2) (by omega)
  rcases Nat.mod_two_eq_zero_or_one i with e | e
  · rw [show i / 2 * 2 = i from by omega, List.getElem?_eq_getElem hi] at h1
    injection h1 with h1; rw [h1]; rfl
  · rw [show i / 2 * 2 + 1 = i from by omega, List.getElem?_eq_getElem hi] at h2
    injection h2 with h2; rw [h2]; rfl

end Go.Proofs.YtlcgbnmmbheleaaGreat

namespace Go.Proofs.YtlcgbnmmbheleaaGreat
set_option linter.unusedSimpArgs false
set_option linter.unusedVariables false

section
variable {room : List Int} {us : List Un} {bs : List (List Tk)} {r : Rq} {id : Int} {xs : List Int} {g op : Bool} {k i : Nat}

theorem clOk_iff : clOk room us = true ↔ (1 ≤ us.length ∧ us.length ≤ 10) ∧ binsOk room (us.map (·.2)) = true ∧ ∀ u ∈ us, u.1 = true ∨ u.2 = [] := by
  simp only [clOk, Bool.and_eq_true, decide_eq_true_eq, List.all_eq_true, Bool.or_eq_true, List.isEmpty_iff, and_assoc]
/-! ### Opening -/
theorem opn_facts (h : clOk room us = true) {node : Int} : (opnP room us node op).1 = room ∧ clOk room (opnP room us node op).2.1 = true ∧ ((opnP room us node op).2.2 ≠ 0 → (opnP room us node op).2.1 = us) ∧ totalP (opnP room us node op).2.1 = totalP us := by
  by_cases hn : inR 0 ((us.length : Int) - 1) node = true
  · obtain ⟨n0, n1⟩ := inR_iff.1 hn
    obtain ⟨k, rfl⟩ := Int.eq_ofNat_of_zero_le n0
    have hk : k < us.length := by omega
    by_cases ho : (us[k]?.getD (false, [])).1 = op
    · rw [opnP_twice h hn ho]; exact ⟨rfl, h, fun _ => rfl, rfl⟩
    · by_cases hb : 0 < (us[k]?.getD (false, [])).2.length
      · rw [opnP_busy h hn ho hb]; exact ⟨rfl, h, fun _ => rfl, rfl⟩
      · rw [opnP_yes h hn ho hb]
        have he : (us[k]?.getD (false, [])).2 = [] := List.eq_nil_of_length_eq_zero (by omega)
        have hm : (us.set k (op, (us[k]?.getD (false, [])).2)).map (·.2) = us.map (·.2) := by
          rw [List.map_set]
          have : (us.map (·.2))[k]? = some (us[k]?.getD (false, [])).2 := by rw [List.getElem?_map, List.getElem?_eq_getElem hk]; rfl
          obtain ⟨hk', e⟩ := List.getElem?_eq_some_iff.1 this
          rw [← e]
          exact List.set_getElem_self hk'
        obtain ⟨h1, h2, h3⟩ := clOk_iff.1 h
        refine ⟨rfl, clOk_iff.2 ⟨by rw [List.length_set]; exact h1, by rw [hm]; exact h2, fun u hu => ?_⟩, fun hh => absurd rfl hh, by unfold totalP; rw [hm]⟩
        rcases List.mem_or_eq_of_mem_set hu with hu | hu
        · exact h3 u hu
        · rw [hu]; exact .inr he
  · have hn : inR 0 ((us.length : Int) - 1) node = false := by simpa using hn
    rw [opnP_none h hn]; exact ⟨rfl, h, fun _ => rfl, rfl⟩

/-! ### Departing -/
/-! ### Arriving -/
/-! ### Gathering -/
end
section
variable {room : List Int} {us : List Un} {most : Int}
end

/-! ### Requests -/
section
variable {room : List Int} {us : List Un} {r : Rq}
end

/-! ### Plays -/
section
variable {room : List Int}
end
end Go.Proofs.YtlcgbnmmbheleaaGreat
