/- Several texts in one. -/
import Derived.Test.YtlcgbnmmbheleaaGreatVF
import Derived.Test.YtlcgbnmmbheleaaGreatVG
import Derived.Shelf.Abstract
namespace Go.Proofs.YtlcgbnmmbheleaaGreat
set_option linter.unusedSimpArgs false
set_option linter.unusedVariables false
open Go Go.RowKit Go.MuLone
attribute [local go_sem ↓] Go.wp_at_zero Go.wp_at_succ

theorem idxP_congr {α : Type} {p q : α → Bool} {l : List α} (h : ∀ x ∈ l, p x = q x) : idxP p l = idxP q l := by
  unfold idxP
  have : l.findIdx? p = l.findIdx? q := by
    induction l with
    | nil => rfl
    | cons x l ih =>
      rw [List.findIdx?_cons, List.findIdx?_cons, h x (by simp), ih (fun y hy => h y (by simp [hy]))]
  rw [this]
theorem place_arv {room : List Int} {us : List Un} {id : Int} {xs : List Int} {g : Bool} (h : clOk room us = true) (ht : tasksOk room [(id, xs)] = true) : placeP room us xs g = arvAt room us xs g := by
  have e1 : idxP (openB1 room xs) us = cAtP room us xs true := idxP_congr fun u _ => by unfold openB1 atB; cases u.1 <;> rfl
  have hfx : fits3 xs room = true ∧ xs.length = 3 := by
    simp only [tasksOk, Bool.and_eq_true, List.all_eq_true] at ht
    have := ht.1.2 (id, xs) (by simp)
    simp only [taskOk, vecFits, Bool.and_eq_true] at this
    exact ⟨this.2.2, vecOk_len this.2.1.1⟩
  have e2 : idxP (fun u : Un => !u.1) us = cAtP room us xs false := idxP_congr fun u hu => by
    unfold atB
    cases ho : u.1 with
    | true => rfl
    | false =>
      have he : u.2 = [] := ((clOk_iff.1 h).2.2 u hu).resolve_left (by rw [ho]; simp)
      have hf : fits3 (add3 (loadP u.2) xs) room = true := by
        rw [he, fits3_iff]
        intro j hj
        rw [add3_at hj]
        have h0 : (loadP [])[j]?.getD 0 = 0 := by
          match j, hj with
          | 0, _ => rfl
          | 1, _ => rfl
          | 2, _ => rfl
        rw [h0, Int.zero_add]
        exact fits3_iff.1 hfx.1 j hj
      rw [hf]; rfl
  unfold placeP arvAt
  rw [e1, e2]
  have hr : cAtP room us xs true = -1 ∨ ∃ k : Nat, cAtP room us xs true = (k : Int) := by
    rcases idxP_or (atB room xs true) us with e | ⟨k, e, _⟩
    · exact .inl e
    · exact .inr ⟨k, e⟩
  rcases hr with e | ⟨k, e⟩
  · rw [e, if_neg (by omega)]
    cases g with
    | true => rw [if_pos rfl, if_pos ⟨by omega, rfl⟩]
    | false => rw [if_neg (by simp), if_neg (by simp)]
  · rw [e, if_pos (by omega), if_neg (by omega)]

end Go.Proofs.YtlcgbnmmbheleaaGreat

namespace Go.Proofs.YtlcgbnmmbheleaaGreat
set_option linter.unusedSimpArgs false
set_option linter.unusedVariables false
open Go Go.RowKit
attribute [local go_sem ↓] Go.wp_at_zero Go.wp_at_succ

theorem clOk_sh {room : List Int} {us : List Un} (h : clOk room us = true) : ShU us := by
  obtain ⟨_, _, f3, f4⟩ := clOk_facts h
  exact ⟨by omega, fun u hu => ⟨by have := (f4 u hu).1; omega, fun t ht => by have := (f4 u hu).2 t ht; omega⟩⟩

/-! ### by program -/

end Go.Proofs.YtlcgbnmmbheleaaGreat
