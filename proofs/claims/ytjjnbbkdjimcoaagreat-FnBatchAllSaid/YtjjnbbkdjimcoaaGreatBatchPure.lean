/- Plain words for batches: tasks arrive one after the other, a node is opened for a grant. No program in sight. -/
import Derived.Test.YtjjnbbkdjimcoaaGreatJ11
import Derived.Test.YtjjnbbkdjimcoaaGreatSortPure
namespace Go.Proofs.YtjjnbbkdjimcoaaGreat
set_option linter.unusedVariables false

/-- How many nodes are open. -/
def openN (us : List Un) : Nat := (us.filter (·.1)).length
theorem openN_set : ∀ {us : List Un} {n : Nat} {ts : List Tk}, n < us.length → openN (us.set n (true, ts)) = openN us + (if (us[n]?.getD (false, [])).1 = true then 0 else 1)
  | [], n, _, h => by simp at h
  | u :: us, 0, ts, _ => by
    unfold openN
    cases hu : u.1 <;> simp [hu]
  | u :: us, n + 1, ts, h => by
    have ih := openN_set (us := us) (n := n) (ts := ts) (by simpa using h)
    unfold openN at ih ⊢
    simp only [pC, List.filter_cons, gS]
    split
    · simp only [List.length_cons, ih]; omega
    · exact ih
theorem openN_rank (us : List Un) : rankU us us.length = openN us := by unfold rankU openN; rw [List.take_length]
section
variable {room : List Int} {us : List Un} {id : Int} {xs : List Int} {g : Bool}
/-- A task that arrives comes to a node; an open one whatever is granted, a closed one for a grant. -/
theorem cav_zero (h : clOk room us = true) (h0 : (cavP room us id xs g).2.2 = 0) : ∃ n, n < us.length ∧ cavP room us id xs g = (room, us.set n (true, (us[n]?.getD (false, [])).2 ++ [(id, xs)]), 0) ∧
    (((us[n]?.getD (false, [])).1 = true ∧ ∀ g', cavP room us id xs g' = cavP room us id xs g) ∨ ((us[n]?.getD (false, [])).1 = false ∧ g = true)) := by
  cases ht : tasksOk room [(id, xs)] with
  | false => rw [cavP_task h ht] at h0; simp at h0
  | true =>
    rcases whereP_or' (us.map (·.2)) id with hw | ⟨k, hw⟩
    · rw [cavP_new h ht hw] at h0 ⊢
      rcases arvAt_or (room := room) (us := us) (xs := xs) (g := g) with ha | ⟨n, ha⟩
      · rw [arvP_none ha] at h0; simp at h0
      · by_cases hf : (us.map (·.2)).flatten.length = 14
        · rw [arvP_full hf] at h0; simp at h0
        · rw [arvP_yes ha hf]
          refine ⟨n, (arv_fits ha).1, rfl, ?_⟩
          have or2 : cAtP room us xs true = -1 ∨ ∃ n : Nat, cAtP room us xs true = (n : Int) := by
            rcases idxP_or (atB room xs true) us with h | ⟨n, h, _⟩
            · exact .inl h
            · exact .inr ⟨n, h⟩
          rcases or2 with ho | ⟨k, ho⟩
          · right
            cases g with
            | false => rw [arvAt_none ho] at ha; omega
            | true =>
              have hc : cAtP room us xs false = (n : Int) := by
                have := ha
                unfold arvAt at this
                rwa [if_pos ⟨by omega, rfl⟩] at this
              have := (idx_at (d := (false, [])) hc).2
              simp only [atB, Bool.and_eq_true, beq_iff_eq] at this
              exact ⟨this.1, rfl⟩
          · left
            rw [arvAt_open ho] at ha
            have hkn : k = n := by omega
            subst hkn
            have := (idx_at (d := (false, [])) ho).2
            simp only [atB, Bool.and_eq_true, beq_iff_eq] at this
            refine ⟨this.1, fun g' => ?_⟩
            rw [cavP_new h ht hw, arvP_yes (arvAt_open ho) hf]
    · rw [cavP_twice h ht hw] at h0; simp at h0
/-- What an arrival does to the number of open nodes. -/
theorem cav_open (h : clOk room us = true) : openN (cavP room us id xs g).2.1 = openN us ∨ (g = true ∧ (cavP room us id xs g).2.2 = 0 ∧ openN (cavP room us id xs g).2.1 = openN us + 1) := by
  by_cases h0 : (cavP room us id xs g).2.2 = 0
  · obtain ⟨n, hn, he, hc⟩ := cav_zero h h0
    rw [he]
    rcases hc with ⟨hc, _⟩ | ⟨hc, hg⟩
    · left; rw [openN_set hn, hc]; simp
    · right; exact ⟨hg, rfl, by rw [openN_set hn, hc]; simp⟩
  · left; rw [(cav_facts h).2.2.1 h0]
end
/-- Tasks arrive in the order given. -/
def runB (room : List Int) : List Tk → List Un → Int → List Un × List Int
  | [], us, _ => (us, [])
  | x :: ts, us, g =>
    ((runB room ts (cavP room us x.1 x.2 (decide (0 < g))).2.1 (g - ((openN (cavP room us x.1 x.2 (decide (0 < g))).2.1 : Int) - openN us))).1,
     (cavP room us x.1 x.2 (decide (0 < g))).2.2 :: (runB room ts (cavP room us x.1 x.2 (decide (0 < g))).2.1 (g - ((openN (cavP room us x.1 x.2 (decide (0 < g))).2.1 : Int) - openN us))).2)
section
variable {room : List Int}
theorem run_len : ∀ (ts : List Tk) (us : List Un) (g : Int), (runB room ts us g).2.length = ts.length
  | [], _, _ => rfl
  | x :: ts, us, g => by rw [runB, List.length_cons, List.length_cons, run_len ts]
theorem run_ok : ∀ (ts : List Tk) (us : List Un) (g : Int), clOk room us = true → clOk room (runB room ts us g).1 = true
  | [], _, _, h => h
  | x :: ts, us, g, h => run_ok ts _ _ (cav_facts h).2.1
/-- Not more nodes are opened than are granted. -/
theorem run_grants : ∀ (ts : List Tk) (us : List Un) (g : Int), clOk room us = true → 0 ≤ g → (openN us : Int) ≤ openN (runB room ts us g).1 ∧ (openN (runB room ts us g).1 : Int) ≤ openN us + g
  | [], us, g, _, hg => by simp only [runB]; omega
  | x :: ts, us, g, h, hg => by
    have hc := (cav_facts (id := x.1) (xs := x.2) (g := decide (0 < g)) h).2.1
    rw [runB]
    rcases cav_open (id := x.1) (xs := x.2) (g := decide (0 < g)) h with ho | ⟨hg', _, ho⟩
    · have ih := run_grants ts _ (g - ((openN (cavP room us x.1 x.2 (decide (0 < g))).2.1 : Int) - openN us)) hc (by omega)
      dsimp only
      omega
    · have hg0 : 0 < g := by simpa using hg'
      have ih := run_grants ts _ (g - ((openN (cavP room us x.1 x.2 (decide (0 < g))).2.1 : Int) - openN us)) hc (by omega)
      dsimp only
      omega
/-- Where all tasks arrive, other grants do as well, if they suffice for the nodes that were opened. -/
theorem run_any : ∀ (ts : List Tk) (us : List Un) (g g' : Int), clOk room us = true → 0 ≤ g → (∀ c ∈ (runB room ts us g).2, c = 0) → (openN (runB room ts us g).1 : Int) ≤ openN us + g' → 0 ≤ g' → runB room ts us g' = runB room ts us g
  | [], us, g, g', _, _, _, _, _ => rfl
  | x :: ts, us, g, g', h, hg, hz, hn, hg' => by
    have hc := (cav_facts (id := x.1) (xs := x.2) (g := decide (0 < g)) h).2.1
    rw [runB] at hz hn
    dsimp only at hz hn
    have h0 := hz _ (List.mem_cons_self ..)
    obtain ⟨n, hn', he, hcase⟩ := cav_zero h h0
    have hsame : cavP room us x.1 x.2 (decide (0 < g')) = cavP room us x.1 x.2 (decide (0 < g)) ∧ (0 : Int) ≤ g - ((openN (cavP room us x.1 x.2 (decide (0 < g))).2.1 : Int) - openN us) ∧ (0 : Int) ≤ g' - ((openN (cavP room us x.1 x.2 (decide (0 < g))).2.1 : Int) - openN us) := by
      rcases hcase with ⟨hc1, hc2⟩ | ⟨hc1, hg1⟩
      · refine ⟨hc2 _, ?_⟩
        rw [he, openN_set hn', hc1]
        simp
        omega
      · have hg0 : 0 < g := by simpa using hg1
        have ho : openN (cavP room us x.1 x.2 (decide (0 < g))).2.1 = openN us + 1 := by rw [he, openN_set hn', hc1]; simp
        have hm := (run_grants ts (cavP room us x.1 x.2 (decide (0 < g))).2.1 (g - ((openN (cavP room us x.1 x.2 (decide (0 < g))).2.1 : Int) - openN us)) hc (by omega)).1
        have hg2 : 0 < g' := by omega
        refine ⟨by rw [hg1, decide_eq_true hg2], by omega, by omega⟩
    obtain ⟨hs, hp, hp'⟩ := hsame
    rw [runB, runB, hs]
    have ih := run_any ts (cavP room us x.1 x.2 (decide (0 < g))).2.1 (g - ((openN (cavP room us x.1 x.2 (decide (0 < g))).2.1 : Int) - openN us)) (g' - ((openN (cavP room us x.1 x.2 (decide (0 < g))).2.1 : Int) - openN us)) hc hp (fun c hcm => hz c (List.mem_cons_of_mem _ hcm)) (by omega) hp'
    rw [ih]
/-- Each code that says done is a task more. -/
theorem run_total : ∀ (ts : List Tk) (us : List Un) (g : Int), clOk room us = true → totalP (runB room ts us g).1 = totalP us + ((runB room ts us g).2.filter (· == 0)).length
  | [], us, g, _ => rfl
  | x :: ts, us, g, h => by
    have hf := cav_facts (id := x.1) (xs := x.2) (g := decide (0 < g)) h
    have ih := run_total ts _ (g - ((openN (cavP room us x.1 x.2 (decide (0 < g))).2.1 : Int) - openN us)) hf.2.1
    rw [runB]
    dsimp only
    rw [ih, List.filter_cons]
    by_cases h0 : (cavP room us x.1 x.2 (decide (0 < g))).2.2 = 0
    · rw [if_pos (by rw [h0]; rfl), hf.2.2.2 h0, List.length_cons]; omega
    · rw [if_neg (by simpa using h0), hf.2.2.1 h0]
end
end Go.Proofs.YtjjnbbkdjimcoaaGreat
