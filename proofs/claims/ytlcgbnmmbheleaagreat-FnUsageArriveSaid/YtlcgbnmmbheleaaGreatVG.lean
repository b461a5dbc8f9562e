/- Several texts in one. -/
import Derived.Test.YtlcgbnmmbheleaaGreatVE
import Derived.Test.YtlcgbnmmbheleaaGreatVD
import Derived.Test.YtlcgbnmmbheleaaGreatV23
namespace Go.Proofs.YtlcgbnmmbheleaaGreat
set_option linter.unusedSimpArgs false
set_option linter.unusedVariables false
open Go Go.RowKit
attribute [local go_sem ↓] Go.wp_at_zero Go.wp_at_succ

def cutTwo (vt : List Value) (k : Nat) : List Value := vt.take (k * 2) ++ vt.drop (k * 2 + 2)
theorem NdR.cut {w : World} {base n k : Nat} {vt : List Value} {ts : List Tk} (h : NdR w base n vt ts) (hk : k < n) : NdR w base (n - 1) (cutTwo vt k) (ts.eraseIdx k) := by
  have h1 := h.1
  have h2 := h.2.1
  have hc : ∀ i, (cutTwo vt k)[i]? = if i < k * 2 then vt[i]? else vt[i + 2]? := fun i => by
    unfold cutTwo
    split
    · rename_i hi
      rw [List.getElem?_append_left (by rw [List.length_take]; omega), List.getElem?_take, if_pos hi]
    · rename_i hi
      rw [List.getElem?_append_right (by rw [List.length_take]; omega), List.length_take, List.getElem?_drop]
      congr 1
      omega
  refine ⟨by rw [List.length_eraseIdx, if_pos (by omega)]; omega, by unfold cutTwo; rw [List.length_append, List.length_take, List.length_drop]; omega, fun j hj => ?_⟩
  rw [hc, hc, List.getElem?_eraseIdx]
  by_cases hjk : j < k
  · obtain ⟨A, m, c, e1, e2, e3⟩ := h.2.2 j (by omega)
    rw [if_pos (show j * 2 < k * 2 by omega), if_pos hjk, if_pos (show j * 2 + 1 < k * 2 by omega)]
    exact ⟨A, m, c, e1, e2, e3⟩
  · obtain ⟨A, m, c, e1, e2, e3⟩ := h.2.2 (j + 1) (by omega)
    rw [if_neg (show ¬ j * 2 < k * 2 by omega), if_neg hjk, if_neg (show ¬ j * 2 + 1 < k * 2 by omega)]
    exact ⟨A, m, c, by rw [show j * 2 + 2 = (j + 1) * 2 by omega]; exact e1, by rw [show j * 2 + 1 + 2 = (j + 1) * 2 + 1 by omega]; exact e2, e3⟩

theorem NdR.ones {w : World} {base n : Nat} {vs : List Value} {ts : List Tk} (h : NdR w base n vs ts) : ∀ u ∈ vs, u.oneCell' = true := by
  intro u hu
  obtain ⟨i, hi, rfl⟩ := List.getElem_of_mem hu
  have hl := h.2.1
  obtain ⟨A, m, c, h1, h2, _⟩ := h.2.2 (i / 2) (by omega)
  rcases Nat.mod_two_eq_zero_or_one i with e | e
  · rw [show i / 2 * 2 = i from by omega, List.getElem?_eq_getElem hi] at h1
    injection h1 with h1; rw [h1]; rfl
  · rw [show i / 2 * 2 + 1 = i from by omega, List.getElem?_eq_getElem hi] at h2
    injection h2 with h2; rw [h2]; rfl

end Go.Proofs.YtlcgbnmmbheleaaGreat

namespace Go.Proofs.YtlcgbnmmbheleaaGreat
set_option linter.unusedSimpArgs false
set_option linter.unusedVariables false

section
variable {room : List Int} {us : List Un} {bs : List (List Tk)} {r : Rq} {id : Int} {xs : List Int} {g op : Bool} {k i : Nat}

theorem clOk_iff : clOk room us = true ↔ (1 ≤ us.length ∧ us.length ≤ 10) ∧ binsOk room (us.map (·.2)) = true ∧ ∀ u ∈ us, u.1 = true ∨ u.2 = [] := by
  simp only [clOk, Bool.and_eq_true, decide_eq_true_eq, List.all_eq_true, Bool.or_eq_true, List.isEmpty_iff, and_assoc]
theorem map_snd_at (h : i < us.length) : (us.map (·.2))[i]?.getD [] = (us[i]?.getD (false, [])).2 := by
  rw [List.getElem?_map, List.getElem?_eq_getElem h]; rfl
theorem binsOk_set (hb : binsOk room bs = true) (hi : i < bs.length) {c : List Tk} (ht : tasksOk room (c ++ (bs.eraseIdx i).flatten) = true) (hl : fits3 (loadP c) room = true) : binsOk room (bs.set i c) = true := by
  obtain ⟨h1, _, h3⟩ := binsOk_iff.1 hb
  refine binsOk_iff.2 ⟨by rw [List.length_set]; exact h1, tasksOk_perm (flat_set hi) ht, fun a ha => ?_⟩
  rw [List.length_set] at ha
  rw [List.getElem?_set]
  by_cases e : i = a
  · subst e; rw [if_pos rfl, if_pos hi]; exact hl
  · rw [if_neg e]; exact h3 a ha
theorem where_has {n : Nat} (h : whereP bs id = (n : Int)) : n < bs.length ∧ hasP (bs[n]?.getD []) id = true := by
  unfold whereP at h
  cases hf : bs.findIdx? (fun b => hasP b id) with
  | none => rw [hf] at h; simp at h
  | some a =>
    rw [hf] at h
    have e : a = n := Int.ofNat.inj h
    subst e
    rw [List.findIdx?_eq_some_iff_getElem] at hf
    obtain ⟨ha, h1, _⟩ := hf
    exact ⟨ha, by rw [List.getElem?_eq_getElem ha]; exact h1⟩
theorem where_none (h : whereP bs id = -1) : ∀ t ∈ bs.flatten, t.1 ≠ id := by
  intro t ht he
  obtain ⟨b, hb, htb⟩ := List.mem_flatten.1 ht
  unfold whereP at h
  cases hf : bs.findIdx? (fun b => hasP b id) with
  | some a => rw [hf] at h; simp at h
  | none =>
    rw [List.findIdx?_eq_none_iff] at hf
    have := hf b hb
    unfold hasP at this
    rw [List.any_eq_false] at this
    exact this t htb (by simpa using he)
/-! ### Opening -/
/-! ### Departing -/
/-! ### Arriving -/
theorem idx_at {α : Type} {p : α → Bool} {l : List α} {d : α} {n : Nat} (h : idxP p l = (n : Int)) : n < l.length ∧ p (l[n]?.getD d) = true := by
  unfold idxP at h
  cases hf : l.findIdx? p with
  | none => rw [hf] at h; simp at h
  | some a =>
    rw [hf] at h
    have e : a = n := Int.ofNat.inj h
    subst e
    rw [List.findIdx?_eq_some_iff_getElem] at hf
    obtain ⟨ha, h1, _⟩ := hf
    exact ⟨ha, by rw [List.getElem?_eq_getElem ha]; exact h1⟩
theorem arv_fits {n : Nat} (h : arvAt room us xs g = (n : Int)) : n < us.length ∧ fits3 (add3 (loadP (us[n]?.getD (false, [])).2) xs) room = true := by
  have key : ∀ op, cAtP room us xs op = (n : Int) → n < us.length ∧ fits3 (add3 (loadP (us[n]?.getD (false, [])).2) xs) room = true := fun op hc => by
    obtain ⟨h1, h2⟩ := idx_at (d := (false, [])) hc
    simp only [atB, Bool.and_eq_true] at h2
    exact ⟨h1, h2.2⟩
  unfold arvAt at h
  split at h
  · exact key _ h
  · exact key _ h
theorem arvAt_or : arvAt room us xs g = -1 ∨ ∃ n : Nat, arvAt room us xs g = (n : Int) := by
  have key : ∀ op, cAtP room us xs op = -1 ∨ ∃ n : Nat, cAtP room us xs op = (n : Int) := fun op => by
    rcases idxP_or (atB room xs op) us with h | ⟨n, h, _⟩
    · exact .inl h
    · exact .inr ⟨n, h⟩
  unfold arvAt
  split
  · exact key _
  · exact key _
theorem cav_facts (h : clOk room us = true) : (cavP room us id xs g).1 = room ∧ clOk room (cavP room us id xs g).2.1 = true ∧ ((cavP room us id xs g).2.2 ≠ 0 → (cavP room us id xs g).2.1 = us) ∧ ((cavP room us id xs g).2.2 = 0 → totalP (cavP room us id xs g).2.1 = totalP us + 1) := by
  cases ht : tasksOk room [(id, xs)] with
  | false => rw [cavP_task h ht]; exact ⟨rfl, h, fun _ => rfl, fun hh => by simp at hh⟩
  | true =>
    rcases whereP_or' (us.map (·.2)) id with hw | ⟨k, hw⟩
    · rw [cavP_new h ht hw]
      rcases arvAt_or (room := room) (us := us) (xs := xs) (g := g) with ha | ⟨n, ha⟩
      · rw [arvP_none ha]; exact ⟨rfl, h, fun _ => rfl, fun hh => by simp at hh⟩
      · by_cases hf : (us.map (·.2)).flatten.length = 14
        · rw [arvP_full hf]; exact ⟨rfl, h, fun _ => rfl, fun hh => by simp at hh⟩
        · rw [arvP_yes ha hf]
          obtain ⟨hn, hfit⟩ := arv_fits ha
          obtain ⟨h1, h2, h3⟩ := clOk_iff.1 h
          obtain ⟨b1, b2, b3⟩ := binsOk_iff.1 h2
          have hnm : n < (us.map (·.2)).length := by rw [List.length_map]; exact hn
          have hm : (us.set n (true, (us[n]?.getD (false, [])).2 ++ [(id, xs)])).map (·.2) = (us.map (·.2)).set n ((us.map (·.2))[n]?.getD [] ++ [(id, xs)]) := by rw [List.map_set, map_snd_at hn]
          have hp : ((us.map (·.2))[n]?.getD [] ++ [(id, xs)] ++ ((us.map (·.2)).eraseIdx n).flatten).Perm ((id, xs) :: (us.map (·.2)).flatten) := by
            refine List.Perm.trans ?_ (List.Perm.cons _ (flat_at hnm).symm)
            rw [List.append_assoc]
            exact List.perm_middle
          refine ⟨rfl, clOk_iff.2 ⟨by rw [List.length_set]; exact h1, ?_, fun u hu => ?_⟩, fun hh => absurd rfl hh, fun _ => ?_⟩
          · rw [hm]
            refine binsOk_set h2 hnm (tasksOk_perm hp ?_) ?_
            · have hno := where_none hw
              simp only [tasksOk, Bool.and_eq_true, decide_eq_true_eq, List.all_eq_true] at ht b2 ⊢
              refine ⟨⟨⟨b2.1.1.1, ?_⟩, fun t hh => ?_⟩, ?_⟩
              · have := b2.1.1.2
                simp only [List.length_cons]; omega
              · rcases List.mem_cons.1 hh with rfl | hh
                · exact ht.1.2 _ (by simp)
                · exact b2.1.2 t hh
              · rw [List.map_cons, List.nodup_cons]
                refine ⟨fun hmem => ?_, b2.2⟩
                obtain ⟨t, ht1, ht2⟩ := List.mem_map.1 hmem
                exact hno t ht1 ht2
            · rw [load_snoc, map_snd_at hn]; exact hfit
          · rcases List.mem_or_eq_of_mem_set hu with hu | hu
            · exact h3 u hu
            · rw [hu]; exact .inl rfl
          · unfold totalP
            rw [hm, (flat_set hnm).length_eq, hp.length_eq, List.length_cons]
    · rw [cavP_twice h ht hw]; exact ⟨rfl, h, fun _ => rfl, fun hh => by simp at hh⟩

/-! ### Gathering -/
end
section
variable {room : List Int} {us : List Un} {most : Int}
end

/-! ### Requests -/
section
variable {room : List Int} {us : List Un} {r : Rq}
end

/-! ### Plays -/
section
variable {room : List Int}
end
end Go.Proofs.YtlcgbnmmbheleaaGreat
