/- Plain facts for the laws of batches. -/
import Derived.Test.YtjjnbbkdjimcoaaGreatJ18
import Derived.Test.YtjjnbbkdjimcoaaGreatWhereI
namespace Go.Proofs.YtjjnbbkdjimcoaaGreat
set_option linter.unusedSimpArgs false
set_option linter.unusedVariables false
open Go Go.RowKit
section
variable {room : List Int} {us : List Un} {ts : List Tk} {g : Int}
theorem counts_len {room : List Int} {us : List Un} (h : clOk room us = true) : (countsP room us).length = 3 := by unfold countsP; rw [if_pos h]; rfl
theorem counts0 (h : clOk room us = true) : (countsP room us)[0]?.getD 0 = (openN us : Int) := by
  unfold countsP
  rw [if_pos h]
  show (rankU us us.length : Int) = _
  rw [openN_rank]
theorem counts2 (h : clOk room us = true) : (countsP room us)[2]?.getD 0 = (totalP us : Int) := by
  unfold countsP
  rw [if_pos h]
  show (cntN us us.length : Int) = _
  unfold cntN totalP
  rw [List.take_length, List.length_flatten, List.map_map]
  rfl
theorem bok_yes (hc : clOk room us = true) (ht : tasksOk room ts = true) (h0 : 0 ≤ g) (h1 : g ≤ 10) : bokP room us ts g = true := bok_iff.2 ⟨hc, ht, h0, h1⟩
theorem bat_yes (hc : clOk room us = true) (ht : tasksOk room ts = true) (h0 : 0 ≤ g) (h1 : g ≤ 10) : batP room us ts g = (room, (batR room us ts g).1, toldP ts (sortP ts) (batR room us ts g).2) := by
  unfold batP; rw [if_pos (bok_yes hc ht h0 h1)]
theorem ball_yes (hc : clOk room us = true) (ht : tasksOk room ts = true) (h0 : 0 ≤ g) (h1 : g ≤ 10) : ballP room us ts g = (if zeroP (batR room us ts g).2 = true then (room, (batR room us ts g).1, true) else (room, us, false)) := by
  unfold ballP; rw [if_pos (bok_yes hc ht h0 h1)]
theorem bat_sh : ShU (batP room us ts g).2.1 ∧ (batP room us ts g).1.length ≤ 3 ∧ (batP room us ts g).2.2.length ≤ ts.length := by
  by_cases h : bokP room us ts g = true
  · obtain ⟨hc, ht, h0, h1⟩ := bok_iff.1 h
    rw [bat_yes hc ht h0 h1]
    exact ⟨clOk_sh (bat_ok hc), Nat.le_of_eq (clOk_facts hc).1, Nat.le_of_eq (told_len ..)⟩
  · unfold batP
    rw [if_neg h]
    exact ⟨⟨by simp, fun u hu => by simp at hu⟩, by simp, by simp⟩
theorem ball_sh (hs : ShU us) : ShU (ballP room us ts g).2.1 ∧ (ballP room us ts g).1.length ≤ 3 := by
  by_cases h : bokP room us ts g = true
  · obtain ⟨hc, ht, h0, h1⟩ := bok_iff.1 h
    rw [ball_yes hc ht h0 h1]
    split
    · exact ⟨clOk_sh (bat_ok hc), Nat.le_of_eq (clOk_facts hc).1⟩
    · exact ⟨hs, Nat.le_of_eq (clOk_facts hc).1⟩
  · unfold ballP
    rw [if_neg h]
    exact ⟨⟨by simp, fun u hu => by simp at hu⟩, by simp⟩
/-- What does not go with all grants does not go. -/
theorem need_none (hc : clOk room us = true) (ht : tasksOk room ts = true) : (decide (0 ≤ needP room us ts) == (ballP room us ts 10).2.2) = true := by
  rw [ball_yes hc ht (by omega) (by omega)]
  unfold needP
  rw [if_pos (bok_yes hc ht (by omega) (by omega))]
  have h := need_all (ts := ts) hc
  cases hz : zeroP (batR room us ts 10).2 with
  | true => rw [if_pos rfl]; have := h.2 hz; simp; exact this
  | false =>
    rw [if_neg (by simp)]
    have : ¬ 0 ≤ needF room us ts 11 0 := fun h0 => by have := h.1 h0; rw [hz] at this; cases this
    simp
    omega
/-- The fewest grants. -/
theorem need_law (h : ¬ needP room us ts < 0) : ∃ k : Nat, k ≤ 10 ∧ needP room us ts = (k : Int) ∧ clOk room us = true ∧ clOk room (batR room us ts (k : Int)).1 = true ∧ ballP room us ts (k : Int) = (room, (batR room us ts (k : Int)).1, true) ∧
    (ballP room us ts ((k : Int) - 1)).2.2 = false ∧ openN (batR room us ts (k : Int)).1 = openN us + k := by
  by_cases hb : bokP room us ts 0 = true
  · obtain ⟨hc, ht, h0, h1⟩ := bok_iff.1 hb
    unfold needP at h ⊢
    rw [if_pos hb] at h ⊢
    rcases need_facts (ts := ts) hc with ⟨h1, _⟩ | ⟨k, hk, h2, h3, h4, h5⟩
    · omega
    · refine ⟨k, hk, h2, hc, bat_ok hc, ?_, ?_, h5⟩
      · rw [ball_yes hc ht (by omega) (by omega), if_pos h3]
      · by_cases k0 : k = 0
        · subst k0
          unfold ballP
          rw [if_neg (fun hb => by have := (bok_iff.1 hb).2.2; omega)]
        · rw [ball_yes hc ht (by omega) (by omega)]
          have := h4 (k - 1) (by omega)
          rw [show ((k - 1 : Nat) : Int) = (k : Int) - 1 by omega] at this
          rw [if_neg (by rw [this]; simp)]
  · unfold needP at h
    rw [if_neg hb] at h
    omega
/-- A batch of one. -/
theorem bat_single {t : Tk} (hc : clOk room us = true) (ht : tasksOk room ts = true) (hm : t ∈ ts) (h0 : 0 ≤ g) (h1 : g ≤ 10) :
    batP room us [t] g = ((cavP room us t.1 t.2 (decide (0 < g))).1, (cavP room us t.1 t.2 (decide (0 < g))).2.1, [(cavP room us t.1 t.2 (decide (0 < g))).2.2]) := by
  have h1t : tasksOk room [t] = true := by
    have := ht
    unfold tasksOk at this ⊢
    simp only [Bool.and_eq_true, decide_eq_true_eq, List.all_eq_true] at this ⊢
    exact ⟨⟨⟨this.1.1.1, by simp⟩, fun x hx => this.1.2 x (by simp at hx; rw [hx]; exact hm)⟩, by simp⟩
  rw [bat_yes hc h1t h0 h1, bat_one, (cav_facts hc).1]
  rw [show sortP [t] = [t] from rfl, lk_self _ _ (by simp) (by simp)]
theorem bat_turn (ht : tasksOk room ts = true) : (batP room us ts.reverse g).1 = (batP room us ts g).1 ∧ (batP room us ts.reverse g).2.1 = (batP room us ts g).2.1 := by
  have e : bokP room us ts.reverse g = bokP room us ts g := by
    unfold bokP
    rw [tasksOk_perm (List.reverse_perm ts) ht, ht]
  unfold batP
  rw [e, bat_rev ht]
  split <;> exact ⟨rfl, rfl⟩
theorem ball_law (hc : clOk room us = true) (ht : tasksOk room ts = true) (h0 : 0 ≤ g) (h1 : g ≤ 10) :
    ((ballP room us ts g).2.2 = true ∧ zeroP (batP room us ts g).2.2 = true ∧ (ballP room us ts g).1 = (batP room us ts g).1 ∧ (ballP room us ts g).2.1 = (batP room us ts g).2.1) ∨
    ((ballP room us ts g).2.2 = false ∧ zeroP (batP room us ts g).2.2 = false ∧ (ballP room us ts g).1 = room ∧ (ballP room us ts g).2.1 = us) := by
  rw [ball_yes hc ht h0 h1, bat_yes hc ht h0 h1]
  have hz := bat_zero (us := us) (g := g) ht
  cases h : zeroP (batR room us ts g).2 with
  | true => left; rw [if_pos rfl]; exact ⟨rfl, by rw [← h]; exact hz, rfl, rfl⟩
  | false => right; rw [if_neg (by simp)]; exact ⟨rfl, by rw [← h]; exact hz, rfl, rfl⟩
theorem ball_more (h : (ballP room us ts g).2.2 = true) (hg : g ≠ 10) : g ≤ 9 ∧ 0 ≤ g ∧ ballP room us ts (g + 1) = ballP room us ts g := by
  by_cases hb : bokP room us ts g = true
  · obtain ⟨hc, ht, h0, h1⟩ := bok_iff.1 hb
    rw [ball_yes hc ht h0 h1] at h
    cases hz : zeroP (batR room us ts g).2 with
    | true =>
      refine ⟨by omega, h0, ?_⟩
      rw [ball_yes hc ht (by omega) (by omega), ball_yes hc ht h0 h1, bat_more (g' := g + 1) hc h0 hz (by omega)]
    | false => rw [hz, if_neg (by simp)] at h; cases h
  · unfold ballP at h
    rw [if_neg hb] at h
    cases h
theorem zero_take {cs : List Int} {k : Nat} (hk : k < cs.length) : zeroP (cs.take (k + 1)) = (zeroP (cs.take k) && (cs[k]?.getD 0 == 0)) := by
  unfold zeroP
  rw [List.take_succ_eq_append_getElem hk, List.all_append, List.getElem?_eq_getElem hk, Option.getD_some]
  simp only [List.all_cons, List.all_nil, Bool.and_true]
theorem rev_drop {ts : List Tk} {j : Nat} (hj : j < ts.length) : (ts.drop (j + 1)).reverse ++ [ts[j]?.getD (0, [])] = (ts.drop j).reverse := by
  rw [List.drop_eq_getElem_cons hj, List.reverse_cons, List.getElem?_eq_getElem hj, Option.getD_some]
theorem total_le {room : List Int} {us : List Un} (h : clOk room us = true) : totalP us ≤ 14 := by
  simp only [clOk, binsOk, tasksOk, Bool.and_eq_true, decide_eq_true_eq, List.all_eq_true] at h
  obtain ⟨⟨⟨h1, h2⟩, ⟨_, ⟨⟨⟨h3, h4⟩, h5⟩, h6⟩⟩, _⟩, _⟩ := h
  exact h4
theorem opn_le (us : List Un) : openN us ≤ us.length := List.length_filter_le ..
def cntZ (cs : List Int) : Nat := (cs.filter (· == 0)).length
theorem cntZ_take {cs : List Int} {k : Nat} (hk : k < cs.length) : cntZ (cs.take (k + 1)) = cntZ (cs.take k) + (if cs[k]?.getD 0 = 0 then 1 else 0) := by
  unfold cntZ
  rw [List.take_succ_eq_append_getElem hk, List.filter_append, List.length_append, List.getElem?_eq_getElem hk, Option.getD_some]
  congr 1
  by_cases h : cs[k] = 0 <;> simp [List.filter_cons, h]
theorem cntZ_le (cs : List Int) : cntZ cs ≤ cs.length := List.length_filter_le ..
theorem bat_law (hc : clOk room us = true) (ht : tasksOk room ts = true) (h0 : 0 ≤ g) (h1 : g ≤ 10) :
    (batP room us ts g).1 = room ∧ clOk room (batP room us ts g).2.1 = true ∧ (batP room us ts g).2.2.length = ts.length ∧ totalP (batP room us ts g).2.1 = totalP us + cntZ (batP room us ts g).2.2 ∧
    (∀ k, k < ts.length → (batP room us ts g).2.2[k]?.getD 0 = 0 → 0 ≤ cwhereP room (batP room us ts g).2.1 (gTk ts k).1) ∧
    (openN us : Int) ≤ openN (batP room us ts g).2.1 ∧ (openN (batP room us ts g).2.1 : Int) ≤ openN us + g := by
  rw [bat_yes hc ht h0 h1]
  refine ⟨rfl, bat_ok hc, told_len .., bat_total hc ht, fun k hk hz => ?_, (bat_grants hc h0).1, (bat_grants hc h0).2⟩
  have := bat_where hc ht hk hz
  unfold cwhereP
  rw [if_pos (bat_ok hc)]
  exact this
end
end Go.Proofs.YtjjnbbkdjimcoaaGreat
