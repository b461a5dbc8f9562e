/- Plain words for the program's heap of tasks (container/heap): what it yields is the sorted list. No program in sight. -/
import Derived.Test.YtjjnbbkdjimcoaaGreatSortPure
namespace Go.Proofs.YtjjnbbkdjimcoaaGreat
set_option linter.unusedVariables false
set_option linter.unusedSimpArgs false

def gTk (l : List Tk) (i : Nat) : Tk := l[i]?.getD (0, [])
def swapP (l : List Tk) (i j : Nat) : List Tk := (l.set i (gTk l j)).set j (gTk l i)
/-- The child that comes first. -/
def childP (l : List Tk) (i n : Nat) : Nat := if 2 * i + 2 < n ∧ befP (gTk l (2 * i + 2)) (gTk l (2 * i + 1)) = true then 2 * i + 2 else 2 * i + 1
/-- heap.down. -/
def downP : Nat → List Tk → Nat → Nat → List Tk
  | 0, l, _, _ => l
  | f + 1, l, i, n => if n ≤ 2 * i + 1 then l else if befP (gTk l (childP l i n)) (gTk l i) = true then downP f (swapP l i (childP l i n)) (childP l i n) n else l
/-- heap.Init's loop, with i nodes before it. -/
def initP : Nat → List Tk → List Tk
  | 0, l => l
  | i + 1, l => initP i (downP l.length l i l.length)
/-- What heap.Pop leaves in the row. -/
def popP (l : List Tk) (m : Nat) : List Tk := downP m (swapP l 0 m) 0 m
/-- The loop of sorted. -/
def drainP : Nat → List Tk → List Tk
  | 0, _ => []
  | m + 1, l => gTk (popP l m) m :: drainP m ((popP l m).take m)
def heapP (ts : List Tk) : List Tk := drainP ts.length (initP (ts.length / 2) ts)

theorem bef_ntrans {a b c : Tk} (h : befP a b = false) (h' : befP b c = false) : befP a c = false := by
  rw [Bool.eq_false_iff] at h h' ⊢
  rw [Ne, bef_iff] at h h' ⊢
  omega
theorem swap_len (l : List Tk) (i j : Nat) : (swapP l i j).length = l.length := by simp [swapP]
theorem gTk_set_self {l : List Tk} {i : Nat} {x : Tk} (h : i < l.length) : gTk (l.set i x) i = x := by unfold gTk; rw [List.getElem?_set_self h]; rfl
theorem gTk_set_ne {l : List Tk} {i j : Nat} {x : Tk} (h : i ≠ j) : gTk (l.set i x) j = gTk l j := by unfold gTk; rw [List.getElem?_set_ne h]
theorem swap_left {l : List Tk} {i j : Nat} (hi : i < l.length) (hj : j < l.length) : gTk (swapP l i j) i = gTk l j := by
  unfold swapP
  by_cases e : j = i
  · subst e; rw [gTk_set_self (by simpa using hj)]
  · rw [gTk_set_ne e, gTk_set_self hi]
theorem swap_right {l : List Tk} {i j : Nat} (hj : j < l.length) : gTk (swapP l i j) j = gTk l i := by
  unfold swapP; rw [gTk_set_self (by simpa using hj)]
theorem swap_far {l : List Tk} {i j k : Nat} (hi : k ≠ i) (hj : k ≠ j) : gTk (swapP l i j) k = gTk l k := by
  unfold swapP; rw [gTk_set_ne hj.symm, gTk_set_ne hi.symm]
theorem set_perm : ∀ {l : List Tk} {i : Nat} (x : Tk), i < l.length → (gTk l i :: l.set i x).Perm (x :: l)
  | [], _, _, h => by simp at h
  | a :: l, 0, x, _ => by unfold gTk; simpa using List.Perm.swap x a l
  | a :: l, i + 1, x, h => by
    have ih := set_perm (l := l) (i := i) x (by simpa using h)
    have e : gTk (a :: l) (i + 1) = gTk l i := by unfold gTk; simp
    rw [e, pC]
    exact (List.Perm.swap a _ _).trans ((ih.cons a).trans (List.Perm.swap x a l))
theorem swap_perm {l : List Tk} {i j : Nat} (hi : i < l.length) (hj : j < l.length) : (swapP l i j).Perm l := by
  by_cases e : i = j
  · subst e
    unfold swapP
    rw [List.set_set]
    have : l.set i (gTk l i) = l := by
      unfold gTk; rw [List.getElem?_eq_getElem hi]; simp
    rw [this]
  · have h1 := set_perm (l := l) (i := i) (gTk l j) hi
    have h2 := set_perm (l := l.set i (gTk l j)) (i := j) (gTk l i) (by simpa using hj)
    rw [gTk_set_ne e] at h2
    exact ((h2.trans h1)).cons_inv
theorem child_or {l : List Tk} {i n : Nat} (h : ¬ n ≤ 2 * i + 1) : (childP l i n = 2 * i + 1 ∨ childP l i n = 2 * i + 2) ∧ childP l i n < n := by
  unfold childP
  split
  · rename_i hc; exact ⟨.inr rfl, hc.1⟩
  · exact ⟨.inl rfl, by omega⟩
/-- The other child does not come before it. -/
theorem child_first {l : List Tk} {i n k : Nat} (hk : k < n) (hp : k = 2 * i + 1 ∨ k = 2 * i + 2) : befP (gTk l k) (gTk l (childP l i n)) = false := by
  unfold childP
  split
  · rename_i hc
    rcases hp with rfl | rfl
    · exact bef_asymm hc.2
    · exact bef_irr _
  · rename_i hc
    rcases hp with rfl | rfl
    · exact bef_irr _
    · exact Bool.eq_false_iff.2 fun h => hc ⟨hk, h⟩
theorem down_len : ∀ (f : Nat) (l : List Tk) (i n : Nat), (downP f l i n).length = l.length
  | 0, _, _, _ => rfl
  | f + 1, l, i, n => by
    unfold downP
    split
    · rfl
    · split
      · rw [down_len f, swap_len]
      · rfl
theorem down_perm : ∀ (f : Nat) (l : List Tk) (i n : Nat), n ≤ l.length → (downP f l i n).Perm l
  | 0, _, _, _, _ => List.Perm.refl _
  | f + 1, l, i, n, hn => by
    unfold downP
    split
    · exact List.Perm.refl _
    · rename_i hle
      have hc := child_or (l := l) hle
      split
      · exact (down_perm f _ _ n (by rw [swap_len]; exact hn)).trans (swap_perm (by omega) (by omega))
      · exact List.Perm.refl _
theorem down_far : ∀ (f : Nat) (l : List Tk) (i n k : Nat), n ≤ k → gTk (downP f l i n) k = gTk l k
  | 0, _, _, _, _, _ => rfl
  | f + 1, l, i, n, k, hk => by
    unfold downP
    split
    · rfl
    · rename_i hle
      have hc := child_or (l := l) hle
      split
      · rw [down_far f _ _ n k hk, swap_far (by omega) (by omega)]
      · rfl
/-- A heap, from the node s on. -/
def Hp (l : List Tk) (n s : Nat) : Prop := ∀ k p, k < n → s ≤ p → (k = 2 * p + 1 ∨ k = 2 * p + 2) → befP (gTk l k) (gTk l p) = false
/-- A heap but for the node i. -/
def Hole (l : List Tk) (n s i : Nat) : Prop := s ≤ i ∧ (∀ k p, k < n → s ≤ p → p ≠ i → (k = 2 * p + 1 ∨ k = 2 * p + 2) → befP (gTk l k) (gTk l p) = false) ∧
  ∀ k q, k < n → (k = 2 * i + 1 ∨ k = 2 * i + 2) → s ≤ q → (i = 2 * q + 1 ∨ i = 2 * q + 2) → befP (gTk l k) (gTk l q) = false
theorem down_heap : ∀ (f : Nat) (l : List Tk) (i n s : Nat), n ≤ l.length → n ≤ i + f → Hole l n s i → Hp (downP f l i n) n s
  | 0, l, i, n, s, hn, hf, h => by
    intro k p hk hp hkp
    exact h.2.1 k p hk hp (by omega) hkp
  | f + 1, l, i, n, s, hn, hf, h => by
    unfold downP
    split
    · intro k p hk hp hkp
      exact h.2.1 k p hk hp (by omega) hkp
    · rename_i hle
      have hc := child_or (l := l) hle
      have hfirst : ∀ k, k < n → (k = 2 * i + 1 ∨ k = 2 * i + 2) → befP (gTk l k) (gTk l (childP l i n)) = false := fun k hk hp => child_first hk hp
      generalize childP l i n = j at *
      split
      · rename_i hb
        refine down_heap f _ j n s (by rw [swap_len]; exact hn) (by omega) ⟨by have := h.1; omega, fun k p hk hp hpj hkp => ?_, fun k q hk hkj hq hqj => ?_⟩
        · by_cases e1 : k = i
          · subst e1
            rw [swap_left (by omega) (by omega), swap_far (by omega) (by omega)]
            exact h.2.2 j p hc.2 hc.1 hp hkp
          · by_cases e2 : p = i
            · subst e2
              rw [swap_left (by omega) (by omega)]
              by_cases e3 : k = j
              · subst e3
                rw [swap_right (by omega)]
                exact bef_asymm hb
              · rw [swap_far (by omega) e3]
                exact hfirst k hk hkp
            · rw [swap_far e1 (by omega), swap_far e2 hpj]
              exact h.2.1 k p hk hp e2 hkp
        · have hqi : q = i := by omega
          subst hqi
          rw [swap_left (by omega) (by omega), swap_far (by omega) (by omega)]
          exact h.2.1 k j hk (by have := h.1; omega) (by omega) hkj
      · rename_i hb
        intro k p hk hp hkp
        by_cases e : p = i
        · subst e
          exact bef_ntrans (hfirst k hk hkp) (Bool.eq_false_iff.2 hb)
        · exact h.2.1 k p hk hp e hkp
theorem root_first {l : List Tk} {n : Nat} (h : Hp l n 0) : ∀ k, k < n → befP (gTk l k) (gTk l 0) = false := by
  intro k
  induction k using Nat.strongRecOn with
  | ind k ih =>
    intro hk
    by_cases h0 : k = 0
    · subst h0; exact bef_irr _
    · exact bef_ntrans (h k ((k - 1) / 2) hk (Nat.zero_le _) (by omega)) (ih _ (by omega) (by omega))
theorem init_len : ∀ (i : Nat) (l : List Tk), (initP i l).length = l.length
  | 0, _ => rfl
  | i + 1, l => by rw [initP, init_len i, down_len]
theorem init_perm : ∀ (i : Nat) (l : List Tk), (initP i l).Perm l
  | 0, _ => List.Perm.refl _
  | i + 1, l => by rw [initP]; exact (init_perm i _).trans (down_perm _ _ _ _ (Nat.le_refl _))
theorem init_heap : ∀ (i : Nat) (l : List Tk), Hp l l.length i → Hp (initP i l) l.length 0
  | 0, _, h => h
  | i + 1, l, h => by
    rw [initP]
    have := init_heap i (downP l.length l i l.length) (by
      rw [down_len]
      exact down_heap _ l i _ i (Nat.le_refl _) (by omega) ⟨Nat.le_refl _, fun k p hk hp hpi hkp => h k p hk (by omega) hkp, fun k q hk hki hq hqi => by omega⟩)
    rwa [down_len] at this
theorem init_all (l : List Tk) : Hp (initP (l.length / 2) l) l.length 0 := init_heap _ l (fun k p hk hp hkp => by omega)
theorem pop_len (l : List Tk) (m : Nat) : (popP l m).length = l.length := by rw [popP, down_len, swap_len]
theorem pop_perm {l : List Tk} {m : Nat} (h : l.length = m + 1) : (popP l m).Perm l := (down_perm _ _ _ _ (by rw [swap_len]; omega)).trans (swap_perm (by omega) (by omega))
theorem pop_last {l : List Tk} {m : Nat} (h : l.length = m + 1) : gTk (popP l m) m = gTk l 0 := by
  rw [popP, down_far _ _ _ _ _ (Nat.le_refl _), swap_right (by omega)]
theorem pop_split {l : List Tk} {m : Nat} (h : l.length = m + 1) : popP l m = (popP l m).take m ++ [gTk l 0] := by
  have hl : (popP l m).length = m + 1 := by rw [pop_len, h]
  have e := pop_last h
  unfold gTk at e
  rw [List.getElem?_eq_getElem (by omega)] at e
  conv => lhs; rw [← List.take_append_drop m (popP l m)]
  congr 1
  rw [List.drop_eq_getElem_cons (by omega), List.drop_eq_nil_of_le (by omega)]
  exact congrArg (fun x => [x]) e
theorem gTk_take {l : List Tk} {m k : Nat} (h : k < m) : gTk (l.take m) k = gTk l k := by unfold gTk; rw [List.getElem?_take, if_pos h]
theorem pop_heap {l : List Tk} {m : Nat} (h : l.length = m + 1) (hp : Hp l (m + 1) 0) : Hp ((popP l m).take m) m 0 := by
  have hd : Hp (popP l m) m 0 := by
    refine down_heap m (swapP l 0 m) 0 m 0 (by rw [swap_len]; omega) (by omega) ⟨Nat.le_refl _, fun k p hk _ hp0 hkp => ?_, fun k q hk _ _ hq => by omega⟩
    rw [swap_far (by omega) (by omega), swap_far hp0 (by omega)]
    exact hp k p (by omega) (Nat.zero_le _) hkp
  intro k p hk hp' hkp
  rw [gTk_take hk, gTk_take (by omega)]
  exact hd k p hk hp' hkp
theorem drain_perm : ∀ (m : Nat) (l : List Tk), l.length = m → (drainP m l).Perm l
  | 0, l, h => by rw [List.eq_nil_of_length_eq_zero h]; exact List.Perm.refl _
  | m + 1, l, h => by
    rw [drainP, pop_last h]
    refine ((drain_perm m _ (by rw [List.length_take, pop_len, h]; omega)).cons _).trans ?_
    have := pop_perm h
    rw [pop_split h] at this
    exact (List.perm_append_comm (l₁ := [gTk l 0])).trans this
theorem drain_order : ∀ (m : Nat) (l : List Tk), l.length = m → Hp l m 0 → (l.map (·.1)).Nodup → InOrder (drainP m l)
  | 0, _, _, _, _ => List.Pairwise.nil
  | m + 1, l, h, hp, hd => by
    have hpp := pop_perm h
    have hlen : ((popP l m).take m).length = m := by rw [List.length_take, pop_len, h]; omega
    have hsp := pop_split h
    have hd2 : (((popP l m).take m ++ [gTk l 0]).map (·.1)).Nodup := by rw [← hsp]; exact (List.Perm.nodup_iff (hpp.map _)).2 hd
    have hd3 := hd2
    rw [List.map_append, List.nodup_append] at hd2
    rw [drainP, pop_last h]
    refine List.pairwise_cons.2 ⟨fun z hz => ?_, drain_order m _ hlen (pop_heap h hp) hd2.1⟩
    have hz' : z ∈ (popP l m).take m := (drain_perm m _ hlen).subset hz
    have hne := hd2.2.2 z.1 (List.mem_map_of_mem hz') (gTk l 0).1 (by simp)
    refine (bef_total (a := gTk l 0) (b := z) (fun e => hne e.symm)).resolve_right ?_
    have hz2 : z ∈ l := hpp.subset (by rw [hsp]; exact List.mem_append_left _ hz')
    obtain ⟨k, hk, he⟩ := List.getElem_of_mem hz2
    have := root_first hp k (by omega)
    unfold gTk at this ⊢
    rw [List.getElem?_eq_getElem hk, he] at this
    intro hb
    rw [show (some z).getD (0, []) = z from rfl] at this
    rw [this] at hb
    cases hb
/-- What the heap yields. -/
theorem heap_sort {ts : List Tk} (hd : (ts.map (·.1)).Nodup) : heapP ts = sortP ts := by
  have hl := init_len (ts.length / 2) ts
  have hp := init_perm (ts.length / 2) ts
  refine order_unique (((drain_perm _ _ hl).trans hp).trans (sort_perm ts).symm) (drain_order _ _ hl (init_all ts) ?_) (sort_order hd)
  exact (List.Perm.nodup_iff (hp.map _)).2 hd
theorem heap_len (ts : List Tk) : (heapP ts).length = ts.length := by
  rw [heapP, (drain_perm _ _ (init_len _ _)).length_eq, init_len]
end Go.Proofs.YtjjnbbkdjimcoaaGreat
