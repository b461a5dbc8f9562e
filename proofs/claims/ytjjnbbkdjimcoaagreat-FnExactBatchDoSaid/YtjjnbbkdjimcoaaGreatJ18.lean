/- Several texts in one. -/
import Derived.Test.YtjjnbbkdjimcoaaGreatJ1
import Derived.Test.YtjjnbbkdjimcoaaGreatJ11
namespace Go.Proofs.YtjjnbbkdjimcoaaGreat
set_option linter.unusedVariables false

/-- l4Before. -/
def befP (a b : Tk) : Bool := decide (b.2.sum < a.2.sum) || (decide (a.2.sum = b.2.sum) && decide (a.1 < b.1))
theorem bef_iff {a b : Tk} : befP a b = true ↔ b.2.sum < a.2.sum ∨ (a.2.sum = b.2.sum ∧ a.1 < b.1) := by
  simp [befP, Bool.or_eq_true, Bool.and_eq_true]
theorem bef_asymm {a b : Tk} (h : befP a b = true) : befP b a = false := by
  rw [Bool.eq_false_iff]
  intro h'
  rw [bef_iff] at h h'
  omega
theorem bef_trans {a b c : Tk} (h : befP a b = true) (h' : befP b c = true) : befP a c = true := by
  rw [bef_iff] at h h' ⊢
  omega
theorem bef_irr (a : Tk) : befP a a = false := by
  rw [Bool.eq_false_iff]
  intro h
  rw [bef_iff] at h
  omega
theorem bef_total {a b : Tk} (h : a.1 ≠ b.1) : befP a b = true ∨ befP b a = true := by
  rw [bef_iff, bef_iff]
  omega
/-- In their order. -/
def InOrder (ts : List Tk) : Prop := ts.Pairwise (fun a b => befP a b = true)
/-- l4Put. -/
def putP : List Tk → Tk → List Tk
  | [], x => [x]
  | y :: ts, x => if befP x y = true then x :: y :: ts else y :: putP ts x
/-- TasksSort. -/
def sortP (ts : List Tk) : List Tk := ts.foldl putP []
theorem put_perm : ∀ (ts : List Tk) (x : Tk), (putP ts x).Perm (x :: ts)
  | [], x => List.Perm.refl _
  | y :: ts, x => by
    unfold putP
    split
    · exact List.Perm.refl _
    · exact ((put_perm ts x).cons y).trans (List.Perm.swap x y ts)
theorem put_len (ts : List Tk) (x : Tk) : (putP ts x).length = ts.length + 1 := by rw [(put_perm ts x).length_eq, List.length_cons]
theorem put_order : ∀ {ts : List Tk} {x : Tk}, InOrder ts → (∀ y ∈ ts, y.1 ≠ x.1) → InOrder (putP ts x)
  | [], x, _, _ => List.pairwise_singleton _ _
  | y :: ts, x, h, hd => by
    have h' := List.pairwise_cons.1 h
    unfold putP
    split
    · rename_i hb
      refine List.pairwise_cons.2 ⟨fun z hz => ?_, h⟩
      rcases List.mem_cons.1 hz with rfl | hz
      · exact hb
      · exact bef_trans hb (h'.1 z hz)
    · rename_i hb
      refine List.pairwise_cons.2 ⟨fun z hz => ?_, put_order h'.2 (fun z hz => hd z (List.mem_cons_of_mem _ hz))⟩
      rcases List.mem_cons.1 ((put_perm ts x).subset hz) with rfl | hz
      · exact (bef_total (hd y (List.mem_cons_self ..))).resolve_right hb
      · exact h'.1 z hz
theorem fold_perm : ∀ (ts acc : List Tk), (ts.foldl putP acc).Perm (acc ++ ts)
  | [], acc => by simp
  | x :: ts, acc => by
    rw [List.foldl_cons]
    refine (fold_perm ts (putP acc x)).trans ?_
    refine ((put_perm acc x).append_right ts).trans ?_
    exact (List.perm_middle (l₁ := acc) (l₂ := ts) (a := x)).symm
theorem sort_perm (ts : List Tk) : (sortP ts).Perm ts := by simpa [sortP] using fold_perm ts []
theorem fold_order : ∀ {ts acc : List Tk}, InOrder acc → ((acc ++ ts).map (·.1)).Nodup → InOrder (ts.foldl putP acc)
  | [], acc, h, _ => h
  | x :: ts, acc, h, hd => by
    rw [List.foldl_cons]
    refine fold_order (put_order h (fun y hy he => ?_)) ?_
    · rw [List.map_append, List.nodup_append] at hd
      exact hd.2.2 y.1 (List.mem_map_of_mem hy) x.1 (by simp) he
    · refine (List.Perm.nodup_iff (List.Perm.map _ ?_)).2 hd
      exact ((put_perm acc x).append_right ts).trans (List.perm_middle (l₁ := acc) (l₂ := ts) (a := x)).symm
theorem sort_order {ts : List Tk} (hd : (ts.map (·.1)).Nodup) : InOrder (sortP ts) := fold_order List.Pairwise.nil (by simpa using hd)
/-- There is one list in order only. -/
theorem order_unique : ∀ {a b : List Tk}, a.Perm b → InOrder a → InOrder b → a = b
  | [], b, h, _, _ => by rw [List.Perm.eq_nil (h.symm)]
  | x :: a, [], h, _, _ => by have := h.length_eq; simp at this
  | x :: a, y :: b, h, ha, hb => by
    have ha' := List.pairwise_cons.1 ha
    have hb' := List.pairwise_cons.1 hb
    have hxy : x = y := by
      rcases List.mem_cons.1 (h.subset (List.mem_cons_self ..)) with e | hx
      · exact e
      · rcases List.mem_cons.1 (h.symm.subset (List.mem_cons_self ..)) with e | hy
        · exact e.symm
        · have h1 := hb'.1 x hx
          have h2 := ha'.1 y hy
          rw [bef_asymm h1] at h2
          cases h2
    subst hxy
    rw [order_unique (List.Perm.cons_inv h) ha'.2 hb'.2]
theorem sort_same {a b : List Tk} (h : a.Perm b) (hd : (a.map (·.1)).Nodup) : sortP a = sortP b :=
  order_unique ((sort_perm a).trans (h.trans (sort_perm b).symm)) (sort_order hd) (sort_order ((List.Perm.nodup_iff (h.map _)).1 hd))
theorem sort_len (ts : List Tk) : (sortP ts).length = ts.length := (sort_perm ts).length_eq
end Go.Proofs.YtjjnbbkdjimcoaaGreat

namespace Go.Proofs.YtjjnbbkdjimcoaaGreat
set_option linter.unusedVariables false

/-- How many nodes are open. -/
def openN (us : List Un) : Nat := (us.filter (·.1)).length
theorem openN_set : ∀ {us : List Un} {n : Nat} {ts : List Tk}, n < us.length → openN (us.set n (true, ts)) = openN us + (if (us[n]?.getD (false, [])).1 = true then 0 else 1)
  | [], n, _, h => by simp at h
  | u :: us, 0, ts, _ => by
    unfold openN
    cases hu : u.1 <;> simp [hu]
  | u :: us, n + 1, ts, h => by
    have ih := openN_set (us := us) (n := n) (ts := ts) (by simpa using h)
    unfold openN at ih ⊢
    simp only [pC, List.filter_cons, gS]
    split
    · simp only [List.length_cons, ih]; omega
    · exact ih
theorem openN_rank (us : List Un) : rankU us us.length = openN us := by unfold rankU openN; rw [List.take_length]
section
variable {room : List Int} {us : List Un} {id : Int} {xs : List Int} {g : Bool}
/-- A task that arrives comes to a node; an open one whatever is granted, a closed one for a grant. -/
theorem cav_zero (h : clOk room us = true) (h0 : (cavP room us id xs g).2.2 = 0) : ∃ n, n < us.length ∧ cavP room us id xs g = (room, us.set n (true, (us[n]?.getD (false, [])).2 ++ [(id, xs)]), 0) ∧
    (((us[n]?.getD (false, [])).1 = true ∧ ∀ g', cavP room us id xs g' = cavP room us id xs g) ∨ ((us[n]?.getD (false, [])).1 = false ∧ g = true)) := by
  cases ht : tasksOk room [(id, xs)] with
  | false => rw [cavP_task h ht] at h0; simp at h0
  | true =>
    rcases whereP_or' (us.map (·.2)) id with hw | ⟨k, hw⟩
    · rw [cavP_new h ht hw] at h0 ⊢
      rcases arvAt_or (room := room) (us := us) (xs := xs) (g := g) with ha | ⟨n, ha⟩
      · rw [arvP_none ha] at h0; simp at h0
      · by_cases hf : (us.map (·.2)).flatten.length = 14
        · rw [arvP_full hf] at h0; simp at h0
        · rw [arvP_yes ha hf]
          refine ⟨n, (arv_fits ha).1, rfl, ?_⟩
          have or2 : cAtP room us xs true = -1 ∨ ∃ n : Nat, cAtP room us xs true = (n : Int) := by
            rcases idxP_or (atB room xs true) us with h | ⟨n, h, _⟩
            · exact .inl h
            · exact .inr ⟨n, h⟩
          rcases or2 with ho | ⟨k, ho⟩
          · right
            cases g with
            | false => rw [arvAt_none ho] at ha; omega
            | true =>
              have hc : cAtP room us xs false = (n : Int) := by
                have := ha
                unfold arvAt at this
                rwa [if_pos ⟨by omega, rfl⟩] at this
              have := (idx_at (d := (false, [])) hc).2
              simp only [atB, Bool.and_eq_true, beq_iff_eq] at this
              exact ⟨this.1, rfl⟩
          · left
            rw [arvAt_open ho] at ha
            have hkn : k = n := by omega
            subst hkn
            have := (idx_at (d := (false, [])) ho).2
            simp only [atB, Bool.and_eq_true, beq_iff_eq] at this
            refine ⟨this.1, fun g' => ?_⟩
            rw [cavP_new h ht hw, arvP_yes (arvAt_open ho) hf]
    · rw [cavP_twice h ht hw] at h0; simp at h0
/-- What an arrival does to the number of open nodes. -/
theorem cav_open (h : clOk room us = true) : openN (cavP room us id xs g).2.1 = openN us ∨ (g = true ∧ (cavP room us id xs g).2.2 = 0 ∧ openN (cavP room us id xs g).2.1 = openN us + 1) := by
  by_cases h0 : (cavP room us id xs g).2.2 = 0
  · obtain ⟨n, hn, he, hc⟩ := cav_zero h h0
    rw [he]
    rcases hc with ⟨hc, _⟩ | ⟨hc, hg⟩
    · left; rw [openN_set hn, hc]; simp
    · right; exact ⟨hg, rfl, by rw [openN_set hn, hc]; simp⟩
  · left; rw [(cav_facts h).2.2.1 h0]
end
/-- Tasks arrive in the order given. -/
def runB (room : List Int) : List Tk → List Un → Int → List Un × List Int
  | [], us, _ => (us, [])
  | x :: ts, us, g =>
    ((runB room ts (cavP room us x.1 x.2 (decide (0 < g))).2.1 (g - ((openN (cavP room us x.1 x.2 (decide (0 < g))).2.1 : Int) - openN us))).1,
     (cavP room us x.1 x.2 (decide (0 < g))).2.2 :: (runB room ts (cavP room us x.1 x.2 (decide (0 < g))).2.1 (g - ((openN (cavP room us x.1 x.2 (decide (0 < g))).2.1 : Int) - openN us))).2)
section
variable {room : List Int}
theorem run_len : ∀ (ts : List Tk) (us : List Un) (g : Int), (runB room ts us g).2.length = ts.length
  | [], _, _ => rfl
  | x :: ts, us, g => by rw [runB, List.length_cons, List.length_cons, run_len ts]
theorem run_ok : ∀ (ts : List Tk) (us : List Un) (g : Int), clOk room us = true → clOk room (runB room ts us g).1 = true
  | [], _, _, h => h
  | x :: ts, us, g, h => run_ok ts _ _ (cav_facts h).2.1
/-- Not more nodes are opened than are granted. -/
theorem run_grants : ∀ (ts : List Tk) (us : List Un) (g : Int), clOk room us = true → 0 ≤ g → (openN us : Int) ≤ openN (runB room ts us g).1 ∧ (openN (runB room ts us g).1 : Int) ≤ openN us + g
  | [], us, g, _, hg => by simp only [runB]; omega
  | x :: ts, us, g, h, hg => by
    have hc := (cav_facts (id := x.1) (xs := x.2) (g := decide (0 < g)) h).2.1
    rw [runB]
    rcases cav_open (id := x.1) (xs := x.2) (g := decide (0 < g)) h with ho | ⟨hg', _, ho⟩
    · have ih := run_grants ts _ (g - ((openN (cavP room us x.1 x.2 (decide (0 < g))).2.1 : Int) - openN us)) hc (by omega)
      dsimp only
      omega
    · have hg0 : 0 < g := by simpa using hg'
      have ih := run_grants ts _ (g - ((openN (cavP room us x.1 x.2 (decide (0 < g))).2.1 : Int) - openN us)) hc (by omega)
      dsimp only
      omega
/-- Where all tasks arrive, other grants do as well, if they suffice for the nodes that were opened. -/
theorem run_any : ∀ (ts : List Tk) (us : List Un) (g g' : Int), clOk room us = true → 0 ≤ g → (∀ c ∈ (runB room ts us g).2, c = 0) → (openN (runB room ts us g).1 : Int) ≤ openN us + g' → 0 ≤ g' → runB room ts us g' = runB room ts us g
  | [], us, g, g', _, _, _, _, _ => rfl
  | x :: ts, us, g, g', h, hg, hz, hn, hg' => by
    have hc := (cav_facts (id := x.1) (xs := x.2) (g := decide (0 < g)) h).2.1
    rw [runB] at hz hn
    dsimp only at hz hn
    have h0 := hz _ (List.mem_cons_self ..)
    obtain ⟨n, hn', he, hcase⟩ := cav_zero h h0
    have hsame : cavP room us x.1 x.2 (decide (0 < g')) = cavP room us x.1 x.2 (decide (0 < g)) ∧ (0 : Int) ≤ g - ((openN (cavP room us x.1 x.2 (decide (0 < g))).2.1 : Int) - openN us) ∧ (0 : Int) ≤ g' - ((openN (cavP room us x.1 x.2 (decide (0 < g))).2.1 : Int) - openN us) := by
      rcases hcase with ⟨hc1, hc2⟩ | ⟨hc1, hg1⟩
      · refine ⟨hc2 _, ?_⟩
        rw [he, openN_set hn', hc1]
        simp
        omega
      · have hg0 : 0 < g := by simpa using hg1
        have ho : openN (cavP room us x.1 x.2 (decide (0 < g))).2.1 = openN us + 1 := by rw [he, openN_set hn', hc1]; simp
        have hm := (run_grants ts (cavP room us x.1 x.2 (decide (0 < g))).2.1 (g - ((openN (cavP room us x.1 x.2 (decide (0 < g))).2.1 : Int) - openN us)) hc (by omega)).1
        have hg2 : 0 < g' := by omega
        refine ⟨by rw [hg1, decide_eq_true hg2], by omega, by omega⟩
    obtain ⟨hs, hp, hp'⟩ := hsame
    rw [runB, runB, hs]
    have ih := run_any ts (cavP room us x.1 x.2 (decide (0 < g))).2.1 (g - ((openN (cavP room us x.1 x.2 (decide (0 < g))).2.1 : Int) - openN us)) (g' - ((openN (cavP room us x.1 x.2 (decide (0 < g))).2.1 : Int) - openN us)) hc hp (fun c hcm => hz c (List.mem_cons_of_mem _ hcm)) (by omega) hp'
    rw [ih]
/-- Each code that says done is a task more. -/
theorem run_total : ∀ (ts : List Tk) (us : List Un) (g : Int), clOk room us = true → totalP (runB room ts us g).1 = totalP us + ((runB room ts us g).2.filter (· == 0)).length
  | [], us, g, _ => rfl
  | x :: ts, us, g, h => by
    have hf := cav_facts (id := x.1) (xs := x.2) (g := decide (0 < g)) h
    have ih := run_total ts _ (g - ((openN (cavP room us x.1 x.2 (decide (0 < g))).2.1 : Int) - openN us)) hf.2.1
    rw [runB]
    dsimp only
    rw [ih, List.filter_cons]
    by_cases h0 : (cavP room us x.1 x.2 (decide (0 < g))).2.2 = 0
    · rw [if_pos (by rw [h0]; rfl), hf.2.2.2 h0, List.length_cons]; omega
    · rw [if_neg (by simpa using h0), hf.2.2.1 h0]
end
end Go.Proofs.YtjjnbbkdjimcoaaGreat

namespace Go.Proofs.YtjjnbbkdjimcoaaGreat
set_option linter.unusedVariables false
set_option linter.unusedSimpArgs false

def gTk (l : List Tk) (i : Nat) : Tk := l[i]?.getD (0, [])
def swapP (l : List Tk) (i j : Nat) : List Tk := (l.set i (gTk l j)).set j (gTk l i)
/-- The child that comes first. -/
def childP (l : List Tk) (i n : Nat) : Nat := if 2 * i + 2 < n ∧ befP (gTk l (2 * i + 2)) (gTk l (2 * i + 1)) = true then 2 * i + 2 else 2 * i + 1
/-- heap.down. -/
def downP : Nat → List Tk → Nat → Nat → List Tk
  | 0, l, _, _ => l
  | f + 1, l, i, n => if n ≤ 2 * i + 1 then l else if befP (gTk l (childP l i n)) (gTk l i) = true then downP f (swapP l i (childP l i n)) (childP l i n) n else l
/-- heap.Init's loop, with i nodes before it. -/
def initP : Nat → List Tk → List Tk
  | 0, l => l
  | i + 1, l => initP i (downP l.length l i l.length)
/-- What heap.Pop leaves in the row. -/
def popP (l : List Tk) (m : Nat) : List Tk := downP m (swapP l 0 m) 0 m
/-- The loop of sorted. -/
def drainP : Nat → List Tk → List Tk
  | 0, _ => []
  | m + 1, l => gTk (popP l m) m :: drainP m ((popP l m).take m)
def heapP (ts : List Tk) : List Tk := drainP ts.length (initP (ts.length / 2) ts)

theorem bef_ntrans {a b c : Tk} (h : befP a b = false) (h' : befP b c = false) : befP a c = false := by
  rw [Bool.eq_false_iff] at h h' ⊢
  rw [Ne, bef_iff] at h h' ⊢
  omega
theorem swap_len (l : List Tk) (i j : Nat) : (swapP l i j).length = l.length := by simp [swapP]
theorem gTk_set_self {l : List Tk} {i : Nat} {x : Tk} (h : i < l.length) : gTk (l.set i x) i = x := by unfold gTk; rw [List.getElem?_set_self h]; rfl
theorem gTk_set_ne {l : List Tk} {i j : Nat} {x : Tk} (h : i ≠ j) : gTk (l.set i x) j = gTk l j := by unfold gTk; rw [List.getElem?_set_ne h]
theorem swap_left {l : List Tk} {i j : Nat} (hi : i < l.length) (hj : j < l.length) : gTk (swapP l i j) i = gTk l j := by
  unfold swapP
  by_cases e : j = i
  · subst e; rw [gTk_set_self (by simpa using hj)]
  · rw [gTk_set_ne e, gTk_set_self hi]
theorem swap_right {l : List Tk} {i j : Nat} (hj : j < l.length) : gTk (swapP l i j) j = gTk l i := by
  unfold swapP; rw [gTk_set_self (by simpa using hj)]
theorem swap_far {l : List Tk} {i j k : Nat} (hi : k ≠ i) (hj : k ≠ j) : gTk (swapP l i j) k = gTk l k := by
  unfold swapP; rw [gTk_set_ne hj.symm, gTk_set_ne hi.symm]
theorem set_perm : ∀ {l : List Tk} {i : Nat} (x : Tk), i < l.length → (gTk l i :: l.set i x).Perm (x :: l)
  | [], _, _, h => by simp at h
  | a :: l, 0, x, _ => by unfold gTk; simpa using List.Perm.swap x a l
  | a :: l, i + 1, x, h => by
    have ih := set_perm (l := l) (i := i) x (by simpa using h)
    have e : gTk (a :: l) (i + 1) = gTk l i := by unfold gTk; simp
    rw [e, pC]
    exact (List.Perm.swap a _ _).trans ((ih.cons a).trans (List.Perm.swap x a l))
theorem swap_perm {l : List Tk} {i j : Nat} (hi : i < l.length) (hj : j < l.length) : (swapP l i j).Perm l := by
  by_cases e : i = j
  · subst e
    unfold swapP
    rw [List.set_set]
    have : l.set i (gTk l i) = l := by
      unfold gTk; rw [List.getElem?_eq_getElem hi]; simp
    rw [this]
  · have h1 := set_perm (l := l) (i := i) (gTk l j) hi
    have h2 := set_perm (l := l.set i (gTk l j)) (i := j) (gTk l i) (by simpa using hj)
    rw [gTk_set_ne e] at h2
    exact ((h2.trans h1)).cons_inv
theorem child_or {l : List Tk} {i n : Nat} (h : ¬ n ≤ 2 * i + 1) : (childP l i n = 2 * i + 1 ∨ childP l i n = 2 * i + 2) ∧ childP l i n < n := by
  unfold childP
  split
  · rename_i hc; exact ⟨.inr rfl, hc.1⟩
  · exact ⟨.inl rfl, by omega⟩
/-- The other child does not come before it. -/
theorem child_first {l : List Tk} {i n k : Nat} (hk : k < n) (hp : k = 2 * i + 1 ∨ k = 2 * i + 2) : befP (gTk l k) (gTk l (childP l i n)) = false := by
  unfold childP
  split
  · rename_i hc
    rcases hp with rfl | rfl
    · exact bef_asymm hc.2
    · exact bef_irr _
  · rename_i hc
    rcases hp with rfl | rfl
    · exact bef_irr _
    · exact Bool.eq_false_iff.2 fun h => hc ⟨hk, h⟩
theorem down_len : ∀ (f : Nat) (l : List Tk) (i n : Nat), (downP f l i n).length = l.length
  | 0, _, _, _ => rfl
  | f + 1, l, i, n => by
    unfold downP
    split
    · rfl
    · split
      · rw [down_len f, swap_len]
      · rfl
theorem down_perm : ∀ (f : Nat) (l : List Tk) (i n : Nat), n ≤ l.length → (downP f l i n).Perm l
  | 0, _, _, _, _ => List.Perm.refl _
  | f + 1, l, i, n, hn => by
    unfold downP
    split
    · exact List.Perm.refl _
    · rename_i hle
      have hc := child_or (l := l) hle
      split
      · exact (down_perm f _ _ n (by rw [swap_len]; exact hn)).trans (swap_perm (by omega) (by omega))
      · exact List.Perm.refl _
theorem down_far : ∀ (f : Nat) (l : List Tk) (i n k : Nat), n ≤ k → gTk (downP f l i n) k = gTk l k
  | 0, _, _, _, _, _ => rfl
  | f + 1, l, i, n, k, hk => by
    unfold downP
    split
    · rfl
    · rename_i hle
      have hc := child_or (l := l) hle
      split
      · rw [down_far f _ _ n k hk, swap_far (by omega) (by omega)]
      · rfl
/-- A heap, from the node s on. -/
def Hp (l : List Tk) (n s : Nat) : Prop := ∀ k p, k < n → s ≤ p → (k = 2 * p + 1 ∨ k = 2 * p + 2) → befP (gTk l k) (gTk l p) = false
/-- A heap but for the node i. -/
def Hole (l : List Tk) (n s i : Nat) : Prop := s ≤ i ∧ (∀ k p, k < n → s ≤ p → p ≠ i → (k = 2 * p + 1 ∨ k = 2 * p + 2) → befP (gTk l k) (gTk l p) = false) ∧
  ∀ k q, k < n → (k = 2 * i + 1 ∨ k = 2 * i + 2) → s ≤ q → (i = 2 * q + 1 ∨ i = 2 * q + 2) → befP (gTk l k) (gTk l q) = false
theorem down_heap : ∀ (f : Nat) (l : List Tk) (i n s : Nat), n ≤ l.length → n ≤ i + f → Hole l n s i → Hp (downP f l i n) n s
  | 0, l, i, n, s, hn, hf, h => by
    intro k p hk hp hkp
    exact h.2.1 k p hk hp (by omega) hkp
  | f + 1, l, i, n, s, hn, hf, h => by
    unfold downP
    split
    · intro k p hk hp hkp
      exact h.2.1 k p hk hp (by omega) hkp
    · rename_i hle
      have hc := child_or (l := l) hle
      have hfirst : ∀ k, k < n → (k = 2 * i + 1 ∨ k = 2 * i + 2) → befP (gTk l k) (gTk l (childP l i n)) = false := fun k hk hp => child_first hk hp
      generalize childP l i n = j at *
      split
      · rename_i hb
        refine down_heap f _ j n s (by rw [swap_len]; exact hn) (by omega) ⟨by have := h.1; omega, fun k p hk hp hpj hkp => ?_, fun k q hk hkj hq hqj => ?_⟩
        · by_cases e1 : k = i
          · subst e1
            rw [swap_left (by omega) (by omega), swap_far (by omega) (by omega)]
            exact h.2.2 j p hc.2 hc.1 hp hkp
          · by_cases e2 : p = i
            · subst e2
              rw [swap_left (by omega) (by omega)]
              by_cases e3 : k = j
              · subst e3
                rw [swap_right (by omega)]
                exact bef_asymm hb
              · rw [swap_far (by omega) e3]
                exact hfirst k hk hkp
            · rw [swap_far e1 (by omega), swap_far e2 hpj]
              exact h.2.1 k p hk hp e2 hkp
        · have hqi : q = i := by omega
          subst hqi
          rw [swap_left (by omega) (by omega), swap_far (by omega) (by omega)]
          exact h.2.1 k j hk (by have := h.1; omega) (by omega) hkj
      · rename_i hb
        intro k p hk hp hkp
        by_cases e : p = i
        · subst e
          exact bef_ntrans (hfirst k hk hkp) (Bool.eq_false_iff.2 hb)
        · exact h.2.1 k p hk hp e hkp
theorem root_first {l : List Tk} {n : Nat} (h : Hp l n 0) : ∀ k, k < n → befP (gTk l k) (gTk l 0) = false := by
  intro k
  induction k using Nat.strongRecOn with
  | ind k ih =>
    intro hk
    by_cases h0 : k = 0
    · subst h0; exact bef_irr _
    · exact bef_ntrans (h k ((k - 1) / 2) hk (Nat.zero_le _) (by omega)) (ih _ (by omega) (by omega))
theorem init_len : ∀ (i : Nat) (l : List Tk), (initP i l).length = l.length
  | 0, _ => rfl
  | i + 1, l => by rw [initP, init_len i, down_len]
theorem init_perm : ∀ (i : Nat) (l : List Tk), (initP i l).Perm l
  | 0, _ => List.Perm.refl _
  | i + 1, l => by rw [initP]; exact (init_perm i _).trans (down_perm _ _ _ _ (Nat.le_refl _))
theorem init_heap : ∀ (i : Nat) (l : List Tk), Hp l l.length i → Hp (initP i l) l.length 0
  | 0, _, h => h
  | i + 1, l, h => by
    rw [initP]
    have := init_heap i (downP l.length l i l.length) (by
      rw [down_len]
      exact down_heap _ l i _ i (Nat.le_refl _) (by omega) ⟨Nat.le_refl _, fun k p hk hp hpi hkp => h k p hk (by omega) hkp, fun k q hk hki hq hqi => by omega⟩)
    rwa [down_len] at this
theorem init_all (l : List Tk) : Hp (initP (l.length / 2) l) l.length 0 := init_heap _ l (fun k p hk hp hkp => by omega)
theorem pop_len (l : List Tk) (m : Nat) : (popP l m).length = l.length := by rw [popP, down_len, swap_len]
theorem pop_perm {l : List Tk} {m : Nat} (h : l.length = m + 1) : (popP l m).Perm l := (down_perm _ _ _ _ (by rw [swap_len]; omega)).trans (swap_perm (by omega) (by omega))
theorem pop_last {l : List Tk} {m : Nat} (h : l.length = m + 1) : gTk (popP l m) m = gTk l 0 := by
  rw [popP, down_far _ _ _ _ _ (Nat.le_refl _), swap_right (by omega)]
theorem pop_split {l : List Tk} {m : Nat} (h : l.length = m + 1) : popP l m = (popP l m).take m ++ [gTk l 0] := by
  have hl : (popP l m).length = m + 1 := by rw [pop_len, h]
  have e := pop_last h
  unfold gTk at e
  rw [List.getElem?_eq_getElem (by omega)] at e
  conv => lhs; rw [← List.take_append_drop m (popP l m)]
  congr 1
  rw [List.drop_eq_getElem_cons (by omega), List.drop_eq_nil_of_le (by omega)]
  exact congrArg (fun x => [x]) e
theorem gTk_take {l : List Tk} {m k : Nat} (h : k < m) : gTk (l.take m) k = gTk l k := by unfold gTk; rw [List.getElem?_take, if_pos h]
theorem pop_heap {l : List Tk} {m : Nat} (h : l.length = m + 1) (hp : Hp l (m + 1) 0) : Hp ((popP l m).take m) m 0 := by
  have hd : Hp (popP l m) m 0 := by
    refine down_heap m (swapP l 0 m) 0 m 0 (by rw [swap_len]; omega) (by omega) ⟨Nat.le_refl _, fun k p hk _ hp0 hkp => ?_, fun k q hk _ _ hq => by omega⟩
    rw [swap_far (by omega) (by omega), swap_far hp0 (by omega)]
    exact hp k p (by omega) (Nat.zero_le _) hkp
  intro k p hk hp' hkp
  rw [gTk_take hk, gTk_take (by omega)]
  exact hd k p hk hp' hkp
theorem drain_perm : ∀ (m : Nat) (l : List Tk), l.length = m → (drainP m l).Perm l
  | 0, l, h => by rw [List.eq_nil_of_length_eq_zero h]; exact List.Perm.refl _
  | m + 1, l, h => by
    rw [drainP, pop_last h]
    refine ((drain_perm m _ (by rw [List.length_take, pop_len, h]; omega)).cons _).trans ?_
    have := pop_perm h
    rw [pop_split h] at this
    exact (List.perm_append_comm (l₁ := [gTk l 0])).trans this
theorem drain_order : ∀ (m : Nat) (l : List Tk), l.length = m → Hp l m 0 → (l.map (·.1)).Nodup → InOrder (drainP m l)
  | 0, _, _, _, _ => List.Pairwise.nil
  | m + 1, l, h, hp, hd => by
    have hpp := pop_perm h
    have hlen : ((popP l m).take m).length = m := by rw [List.length_take, pop_len, h]; omega
    have hsp := pop_split h
    have hd2 : (((popP l m).take m ++ [gTk l 0]).map (·.1)).Nodup := by rw [← hsp]; exact (List.Perm.nodup_iff (hpp.map _)).2 hd
    have hd3 := hd2
    rw [List.map_append, List.nodup_append] at hd2
    rw [drainP, pop_last h]
    refine List.pairwise_cons.2 ⟨fun z hz => ?_, drain_order m _ hlen (pop_heap h hp) hd2.1⟩
    have hz' : z ∈ (popP l m).take m := (drain_perm m _ hlen).subset hz
    have hne := hd2.2.2 z.1 (List.mem_map_of_mem hz') (gTk l 0).1 (by simp)
    refine (bef_total (a := gTk l 0) (b := z) (fun e => hne e.symm)).resolve_right ?_
    have hz2 : z ∈ l := hpp.subset (by rw [hsp]; exact List.mem_append_left _ hz')
    obtain ⟨k, hk, he⟩ := List.getElem_of_mem hz2
    have := root_first hp k (by omega)
    unfold gTk at this ⊢
    rw [List.getElem?_eq_getElem hk, he] at this
    intro hb
    rw [show (some z).getD (0, []) = z from rfl] at this
    rw [this] at hb
    cases hb
/-- What the heap yields. -/
theorem heap_sort {ts : List Tk} (hd : (ts.map (·.1)).Nodup) : heapP ts = sortP ts := by
  have hl := init_len (ts.length / 2) ts
  have hp := init_perm (ts.length / 2) ts
  refine order_unique (((drain_perm _ _ hl).trans hp).trans (sort_perm ts).symm) (drain_order _ _ hl (init_all ts) ?_) (sort_order hd)
  exact (List.Perm.nodup_iff (hp.map _)).2 hd
theorem heap_len (ts : List Tk) : (heapP ts).length = ts.length := by
  rw [heapP, (drain_perm _ _ (init_len _ _)).length_eq, init_len]
end Go.Proofs.YtjjnbbkdjimcoaaGreat

namespace Go.Proofs.YtjjnbbkdjimcoaaGreat
set_option linter.unusedVariables false
set_option linter.unusedSimpArgs false

/-- The code of the task with a number. -/
def lkP : List Tk → List Int → Int → Int
  | s :: ss, c :: cs, id => if s.1 = id then c else lkP ss cs id
  | _, _, _ => 0
def toldP (ts ss : List Tk) (cs : List Int) : List Int := ts.map (fun t => lkP ss cs t.1)
theorem told_len (ts ss : List Tk) (cs : List Int) : (toldP ts ss cs).length = ts.length := by simp [toldP]
theorem lk_self : ∀ (ss : List Tk) (cs : List Int), (ss.map (·.1)).Nodup → cs.length = ss.length → toldP ss ss cs = cs
  | [], cs, _, h => by rw [List.eq_nil_of_length_eq_zero h]; rfl
  | s :: ss, [], _, h => by simp at h
  | s :: ss, c :: cs, hd, h => by
    have hd' := List.nodup_cons.1 (by simpa using hd : (s.1 :: ss.map (·.1)).Nodup)
    have ih := lk_self ss cs hd'.2 (by simpa using h)
    unfold toldP at ih ⊢
    rw [List.map_cons]
    congr 1
    · simp [lkP]
    · conv => rhs; rw [← ih]
      refine List.map_congr_left fun t ht => ?_
      have hne : s.1 ≠ t.1 := fun e => hd'.1 (e ▸ List.mem_map_of_mem ht)
      simp [lkP, hne]
theorem told_perm {ts ss : List Tk} {cs : List Int} (h : ss.Perm ts) (hd : (ts.map (·.1)).Nodup) (hl : cs.length = ss.length) : (toldP ts ss cs).Perm cs := by
  have h1 : (toldP ts ss cs).Perm (toldP ss ss cs) := h.symm.map _
  rwa [lk_self ss cs ((List.Perm.nodup_iff (h.map _)).2 hd) hl] at h1
theorem lk_at {ss : List Tk} {cs : List Int} (hd : (ss.map (·.1)).Nodup) (hl : cs.length = ss.length) {k : Nat} (hk : k < ss.length) : lkP ss cs (gTk ss k).1 = cs[k]?.getD 0 := by
  have h := lk_self ss cs hd hl
  have h2 := congrArg (fun l => l[k]?.getD 0) h

  rw [← h2]
  unfold toldP gTk
  rw [List.getElem?_map, List.getElem?_eq_getElem hk]
  rfl
/-- What all comes to. -/
def batR (room : List Int) (us : List Un) (ts : List Tk) (g : Int) : List Un × List Int := runB room (sortP ts) us g
def bokP (room : List Int) (us : List Un) (ts : List Tk) (g : Int) : Bool := clOk room us && tasksOk room ts && inR 0 10 g
def batP (room : List Int) (us : List Un) (ts : List Tk) (g : Int) : List Int × List Un × List Int :=
  if bokP room us ts g = true then (room, (batR room us ts g).1, toldP ts (sortP ts) (batR room us ts g).2) else ([], [], [])
def zeroP (cs : List Int) : Bool := cs.all (· == 0)
def ballP (room : List Int) (us : List Un) (ts : List Tk) (g : Int) : List Int × List Un × Bool :=
  if bokP room us ts g = true then (if zeroP (batR room us ts g).2 = true then (room, (batR room us ts g).1, true) else (room, us, false)) else ([], [], false)
/-- The first number of grants that does, from n on. -/
def needF (room : List Int) (us : List Un) (ts : List Tk) : Nat → Nat → Int
  | 0, _ => -1
  | f + 1, n => if zeroP (batR room us ts (n : Int)).2 = true then (n : Int) else needF room us ts f (n + 1)
def needP (room : List Int) (us : List Un) (ts : List Tk) : Int := if bokP room us ts 0 = true then needF room us ts 11 0 else -1

theorem zero_iff {cs : List Int} : zeroP cs = true ↔ ∀ c ∈ cs, c = 0 := by simp [zeroP]
theorem zero_perm {a b : List Int} (h : a.Perm b) : zeroP a = zeroP b := by
  rw [Bool.eq_iff_iff, zero_iff, zero_iff]
  exact ⟨fun x c hc => x c (h.symm.subset hc), fun x c hc => x c (h.subset hc)⟩
theorem bok_iff {room : List Int} {us : List Un} {ts : List Tk} {g : Int} : bokP room us ts g = true ↔ clOk room us = true ∧ tasksOk room ts = true ∧ 0 ≤ g ∧ g ≤ 10 := by
  simp [bokP, inR, Bool.and_eq_true, and_assoc]
section
variable {room : List Int} {us : List Un} {ts : List Tk} {g : Int}
theorem tasks_nodup (h : tasksOk room ts = true) : (ts.map (·.1)).Nodup := by
  unfold tasksOk at h
  simp only [Bool.and_eq_true, decide_eq_true_eq] at h
  exact h.2
theorem bat_len : (batR room us ts g).2.length = ts.length := by rw [batR, run_len, sort_len]
theorem bat_told (h : tasksOk room ts = true) : (toldP ts (sortP ts) (batR room us ts g).2).Perm (batR room us ts g).2 :=
  told_perm (sort_perm ts) (tasks_nodup h) (by rw [bat_len, sort_len])
theorem bat_zero (h : tasksOk room ts = true) : zeroP (toldP ts (sortP ts) (batR room us ts g).2) = zeroP (batR room us ts g).2 := zero_perm (bat_told h)
theorem cav_len (h : clOk room us = true) {id : Int} {xs : List Int} {b : Bool} : (cavP room us id xs b).2.1.length = us.length := by
  by_cases h0 : (cavP room us id xs b).2.2 = 0
  · obtain ⟨n, hn, he, _⟩ := cav_zero h h0
    rw [he, List.length_set]
  · rw [(cav_facts h).2.2.1 h0]
theorem run_lenU : ∀ (ts : List Tk) (us : List Un) (g : Int), clOk room us = true → (runB room ts us g).1.length = us.length
  | [], _, _, _ => rfl
  | x :: ts, us, g, h => by rw [runB]; dsimp only; rw [run_lenU ts _ _ (cav_facts h).2.1, cav_len h]
theorem mem_cav (h : clOk room us = true) {id : Int} {xs : List Int} {b : Bool} {t : Tk} (ht : t ∈ (us.map (·.2)).flatten) : t ∈ ((cavP room us id xs b).2.1.map (·.2)).flatten := by
  by_cases h0 : (cavP room us id xs b).2.2 = 0
  · obtain ⟨n, hn, he, _⟩ := cav_zero h h0
    rw [he, List.map_set]
    dsimp only
    refine (flat_set (by rw [List.length_map]; exact hn)).symm.subset ?_
    have := (flat_at (bs := us.map (·.2)) (i := n) (by rw [List.length_map]; exact hn)).subset ht
    rw [map_snd_at hn] at this
    rcases List.mem_append.1 this with h1 | h1
    · exact List.mem_append_left _ (List.mem_append_left _ h1)
    · exact List.mem_append_right _ h1
  · rw [(cav_facts h).2.2.1 h0]; exact ht
theorem cav_in (h : clOk room us = true) {id : Int} {xs : List Int} {b : Bool} (h0 : (cavP room us id xs b).2.2 = 0) : (id, xs) ∈ ((cavP room us id xs b).2.1.map (·.2)).flatten := by
  obtain ⟨n, hn, he, _⟩ := cav_zero h h0
  rw [he, List.map_set]
  dsimp only
  refine (flat_set (by rw [List.length_map]; exact hn)).symm.subset ?_
  exact List.mem_append_left _ (List.mem_append_right _ (by simp))
theorem mem_run : ∀ (ts : List Tk) (us : List Un) (g : Int) (t : Tk), clOk room us = true → t ∈ (us.map (·.2)).flatten → t ∈ ((runB room ts us g).1.map (·.2)).flatten
  | [], _, _, _, _, ht => ht
  | x :: ts, us, g, t, h, ht => by rw [runB]; exact mem_run ts _ _ t (cav_facts h).2.1 (mem_cav h ht)
theorem runB_mem : ∀ (ts : List Tk) (us : List Un) (g : Int) (k : Nat), clOk room us = true → k < ts.length → (runB room ts us g).2[k]?.getD 0 = 0 → gTk ts k ∈ ((runB room ts us g).1.map (·.2)).flatten
  | [], _, _, _, _, hk, _ => by simp at hk
  | x :: ts, us, g, 0, h, hk, h0 => by
    rw [runB] at h0 ⊢
    exact mem_run ts _ _ _ (cav_facts h).2.1 (cav_in h (by simpa using h0))
  | x :: ts, us, g, k + 1, h, hk, h0 => by
    rw [runB] at h0 ⊢
    have := runB_mem ts _ _ k (cav_facts (id := x.1) (xs := x.2) (g := decide (0 < g)) h).2.1 (by simpa using hk) (by simpa using h0)
    unfold gTk at this ⊢
    simpa using this
/-- A task whose code says done is somewhere. -/
theorem bat_where (hc : clOk room us = true) (ht : tasksOk room ts = true) {k : Nat} (hk : k < ts.length) (h0 : (toldP ts (sortP ts) (batR room us ts g).2)[k]?.getD 0 = 0) : 0 ≤ whereP ((batR room us ts g).1.map (·.2)) (gTk ts k).1 := by
  have hm : gTk ts k ∈ sortP ts := by
    refine (sort_perm ts).symm.subset ?_
    unfold gTk
    rw [List.getElem?_eq_getElem hk]
    exact List.getElem_mem hk
  obtain ⟨j, hj, he⟩ := List.getElem_of_mem hm
  have hg : gTk (sortP ts) j = gTk ts k := by unfold gTk at he ⊢; rw [List.getElem?_eq_getElem hj]; exact he
  have hd : ((sortP ts).map (·.1)).Nodup := (List.Perm.nodup_iff ((sort_perm ts).map _)).2 (tasks_nodup ht)
  have e1 : (toldP ts (sortP ts) (batR room us ts g).2)[k]?.getD 0 = lkP (sortP ts) (batR room us ts g).2 (gTk ts k).1 := by
    unfold toldP gTk
    rw [List.getElem?_map, List.getElem?_eq_getElem hk]
    rfl
  rw [e1, ← hg, lk_at hd (by rw [bat_len, sort_len]) hj] at h0
  have hin := runB_mem (sortP ts) us g j hc hj h0
  rw [hg] at hin
  rcases whereP_or' ((batR room us ts g).1.map (·.2)) (gTk ts k).1 with hw | ⟨n, hw⟩
  · exact absurd rfl (where_none hw _ hin)
  · omega
theorem bat_ok (hc : clOk room us = true) : clOk room (batR room us ts g).1 = true := run_ok _ _ _ hc
theorem bat_total (hc : clOk room us = true) (ht : tasksOk room ts = true) : totalP (batR room us ts g).1 = totalP us + ((toldP ts (sortP ts) (batR room us ts g).2).filter (· == 0)).length := by
  rw [batR, run_total _ _ _ hc]
  congr 1
  exact (((bat_told (us := us) (g := g) ht).symm).filter _).length_eq
theorem bat_grants (hc : clOk room us = true) (hg : 0 ≤ g) : (openN us : Int) ≤ openN (batR room us ts g).1 ∧ (openN (batR room us ts g).1 : Int) ≤ openN us + g := run_grants _ _ _ hc hg
theorem bat_rev (ht : tasksOk room ts = true) : batR room us ts.reverse g = batR room us ts g := by
  unfold batR
  rw [sort_same (List.reverse_perm ts) ((List.Perm.nodup_iff ((List.reverse_perm ts).map _)).2 (tasks_nodup ht))]
theorem bat_one {t : Tk} : batR room us [t] g = ((cavP room us t.1 t.2 (decide (0 < g))).2.1, [(cavP room us t.1 t.2 (decide (0 < g))).2.2]) := rfl
/-- Where all tasks arrive, they do with any grants that suffice for the nodes that were opened. -/
theorem bat_any {g' : Int} (hc : clOk room us = true) (hg : 0 ≤ g) (hz : zeroP (batR room us ts g).2 = true) (hn : (openN (batR room us ts g).1 : Int) ≤ openN us + g') (hg' : 0 ≤ g') : batR room us ts g' = batR room us ts g :=
  run_any _ _ _ _ hc hg (zero_iff.1 hz) hn hg'
theorem bat_more {g' : Int} (hc : clOk room us = true) (hg : 0 ≤ g) (hz : zeroP (batR room us ts g).2 = true) (hg' : g ≤ g') : batR room us ts g' = batR room us ts g :=
  bat_any hc hg hz (by have := (bat_grants (ts := ts) hc hg).2; omega) (by omega)
theorem needF_facts : ∀ (f n : Nat), (needF room us ts f n = -1 ∧ ∀ m, n ≤ m → m < n + f → zeroP (batR room us ts (m : Int)).2 = false) ∨
    (∃ k, n ≤ k ∧ k < n + f ∧ needF room us ts f n = (k : Int) ∧ zeroP (batR room us ts (k : Int)).2 = true ∧ ∀ m, n ≤ m → m < k → zeroP (batR room us ts (m : Int)).2 = false)
  | 0, n => .inl ⟨rfl, fun m h1 h2 => by omega⟩
  | f + 1, n => by
    rw [needF]
    cases hz : zeroP (batR room us ts (n : Int)).2 with
    | true => exact .inr ⟨n, Nat.le_refl _, by omega, by rw [if_pos rfl], hz, fun m h1 h2 => by omega⟩
    | false =>
      rw [if_neg (by simp)]
      rcases needF_facts f (n + 1) with ⟨h1, h2⟩ | ⟨k, h1, h2, h3, h4, h5⟩
      · refine .inl ⟨h1, fun m hm1 hm2 => ?_⟩
        by_cases e : m = n
        · rw [e]; exact hz
        · exact h2 m (by omega) (by omega)
      · refine .inr ⟨k, by omega, by omega, h3, h4, fun m hm1 hm2 => ?_⟩
        by_cases e : m = n
        · rw [e]; exact hz
        · exact h5 m (by omega) hm2
/-- The fewest grants: with them all tasks arrive, with one less they do not; each grant opens a node. -/
theorem need_facts (hc : clOk room us = true) : (needF room us ts 11 0 = -1 ∧ ∀ m : Nat, m ≤ 10 → zeroP (batR room us ts (m : Int)).2 = false) ∨
    (∃ k : Nat, k ≤ 10 ∧ needF room us ts 11 0 = (k : Int) ∧ zeroP (batR room us ts (k : Int)).2 = true ∧ (∀ m : Nat, m < k → zeroP (batR room us ts (m : Int)).2 = false) ∧ openN (batR room us ts (k : Int)).1 = openN us + k) := by
  rcases needF_facts (room := room) (us := us) (ts := ts) 11 0 with ⟨h1, h2⟩ | ⟨k, h1, h2, h3, h4, h5⟩
  · exact .inl ⟨h1, fun m hm => h2 m (Nat.zero_le _) (by omega)⟩
  · refine .inr ⟨k, by omega, h3, h4, fun m hm => h5 m (Nat.zero_le _) hm, ?_⟩
    have hgr := bat_grants (ts := ts) (g := (k : Int)) hc (by omega)
    by_cases e : openN (batR room us ts (k : Int)).1 = openN us + k
    · exact e
    · exfalso
      have hlt : openN (batR room us ts (k : Int)).1 - openN us < k := by omega
      have h6 := h5 _ (Nat.zero_le _) hlt
      have h7 := bat_any (ts := ts) (g' := ((openN (batR room us ts (k : Int)).1 - openN us : Nat) : Int)) hc (by omega) h4 (by omega) (by omega)
      rw [h7, h4] at h6
      cases h6
theorem need_all (hc : clOk room us = true) : (0 ≤ needF room us ts 11 0) ↔ zeroP (batR room us ts 10).2 = true := by
  rcases need_facts (ts := ts) hc with ⟨h1, h2⟩ | ⟨k, h1, h2, h3, _⟩
  · rw [h1]
    have := h2 10 (by omega)
    have e : ((10 : Nat) : Int) = 10 := rfl
    rw [e] at this
    rw [this]
    simp
  · rw [h2]
    have := bat_more (g' := 10) hc (by omega) h3 (by omega)
    rw [this, h3]
    simp
end
end Go.Proofs.YtjjnbbkdjimcoaaGreat
