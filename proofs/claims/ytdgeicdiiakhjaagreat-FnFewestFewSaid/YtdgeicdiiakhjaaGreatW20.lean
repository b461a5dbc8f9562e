/- Several texts in one. -/
import Derived.Test.YtdgeicdiiakhjaaGreatW13
import Derived.Test.YtdgeicdiiakhjaaGreatW19
import Derived.Test.YtdgeicdiiakhjaaGreatW8
namespace Go.Proofs.YtdgeicdiiakhjaaGreat
set_option linter.unusedVariables false
set_option linter.unusedSimpArgs false

/-- A task is put into a node, or alone into a further one. -/
def putB (bs : List (List Tk)) (at_ : Int) (t : Tk) : List (List Tk) := if at_ < 0 then bs ++ [[t]] else bs.set at_.toNat (bs[at_.toNat]?.getD [] ++ [t])
/-- All tasks, each where c tells. -/
def allB (c : List (List Tk) → Tk → Int) (ts : List Tk) : List (List Tk) := ts.foldl (fun bs t => putB bs (c bs t) t) []
/-- It tells a node that has room, or -1. -/
def Tells (room : List Int) (c : List (List Tk) → Tk → Int) : Prop := ∀ bs t, c bs t = -1 ∨ ∃ i : Nat, i < bs.length ∧ c bs t = (i : Int) ∧ roomB room bs t.2 i = true
def firstB (room : List Int) (bs : List (List Tk)) (t : Tk) : Int := firstP room bs t.2
/-- What is needed, times what is left. -/
def scoreP (room : List Int) (b : List Tk) (xs : List Int) : Int := xs[0]?.getD 0 * (room[0]?.getD 0 - (loadP b)[0]?.getD 0) + xs[1]?.getD 0 * (room[1]?.getD 0 - (loadP b)[1]?.getD 0) + xs[2]?.getD 0 * (room[2]?.getD 0 - (loadP b)[2]?.getD 0)
/-- The first node with the greatest score, and that score, among the first n. -/
def bestTo (room : List Int) (bs : List (List Tk)) (xs : List Int) : Nat → Int × Int
  | 0 => (-1, -1)
  | n + 1 => if (bestTo room bs xs n).2 < (if roomB room bs xs n = true then scoreP room (bs[n]?.getD []) xs else -1) then ((n : Int), (if roomB room bs xs n = true then scoreP room (bs[n]?.getD []) xs else -1)) else bestTo room bs xs n
def bestB (room : List Int) (bs : List (List Tk)) (t : Tk) : Int := (bestTo room bs t.2 bs.length).1
theorem first_tells (room : List Int) : Tells room (firstB room) := fun bs t => by
  unfold firstB firstP
  cases h : roomsTo room bs t.2 bs.length with
  | nil => exact .inl rfl
  | cons i l =>
    have hm : i ∈ roomsTo room bs t.2 bs.length := by rw [h]; exact List.mem_cons_self ..
    obtain ⟨h1, h2⟩ := mem_rooms.1 hm
    exact .inr ⟨i, h1, rfl, h2⟩
theorem bestTo_facts (room : List Int) (bs : List (List Tk)) (xs : List Int) : ∀ n, -1 ≤ (bestTo room bs xs n).2 ∧ ((bestTo room bs xs n).1 = -1 ∨ ∃ i : Nat, i < n ∧ (bestTo room bs xs n).1 = (i : Int) ∧ roomB room bs xs i = true)
  | 0 => ⟨by simp [bestTo], .inl rfl⟩
  | n + 1 => by
    have ih := bestTo_facts room bs xs n
    rw [bestTo]
    by_cases hr : roomB room bs xs n = true
    · simp only [hr, if_true]
      split
      · exact ⟨by show -1 ≤ scoreP _ _ _; omega, .inr ⟨n, by omega, rfl, hr⟩⟩
      · exact ⟨ih.1, ih.2.imp id (fun ⟨i, h1, h2⟩ => ⟨i, by omega, h2⟩)⟩
    · simp only [hr, if_false]
      rw [if_neg (by have := ih.1; simp; omega)]
      exact ⟨ih.1, ih.2.imp id (fun ⟨i, h1, h2⟩ => ⟨i, by omega, h2⟩)⟩
theorem best_tells (room : List Int) : Tells room (bestB room) := fun bs t => (bestTo_facts room bs t.2 bs.length).2

section
variable {room : List Int} {c : List (List Tk) → Tk → Int} {ts : List Tk} {bs : List (List Tk)}
theorem fold_put (hT : Tells room c) : ∀ (ts : List Tk) (acc : List (List Tk)), (∀ t ∈ ts, fits3 (add3 [0, 0, 0] t.2) room = true) → (∀ b ∈ acc, b ≠ [] ∧ fits3 (loadP b) room = true) →
    (∀ b ∈ ts.foldl (fun bs t => putB bs (c bs t) t) acc, b ≠ [] ∧ fits3 (loadP b) room = true) ∧ (ts.foldl (fun bs t => putB bs (c bs t) t) acc).flatten.Perm (acc.flatten ++ ts)
  | [], acc, _, h => ⟨h, by simp⟩
  | t :: ts, acc, hf, h => by
    rw [List.foldl_cons]
    have key : (∀ b ∈ putB acc (c acc t) t, b ≠ [] ∧ fits3 (loadP b) room = true) ∧ (putB acc (c acc t) t).flatten.Perm (acc.flatten ++ [t]) := by
      unfold putB
      rcases hT acc t with e | ⟨i, hi, e, hr⟩
      · rw [e, if_pos (by omega)]
        refine ⟨fun b hb => ?_, by simp⟩
        rcases List.mem_append.1 hb with hb | hb
        · exact h b hb
        · rw [List.mem_singleton] at hb
          subst hb
          exact ⟨by simp, hf t (List.mem_cons_self ..)⟩
      · rw [e, if_neg (by omega), Int.toNat_natCast]
        refine ⟨fun b hb => ?_, ?_⟩
        · rcases List.mem_or_eq_of_mem_set hb with hb | hb
          · exact h b hb
          · subst hb
            exact ⟨by simp, by rw [load_snoc]; exact hr⟩
        · refine (flat_set hi).trans (List.Perm.trans ?_ (((flat_at hi).symm).append_right [t]))
          rw [List.append_assoc, List.append_assoc]
          exact List.Perm.append_left _ List.perm_append_comm
    have ih := fold_put hT ts _ (fun t' ht' => hf t' (List.mem_cons_of_mem _ ht')) key.1
    refine ⟨ih.1, ih.2.trans ?_⟩
    refine (key.2.append_right ts).trans ?_
    rw [List.append_assoc]
    rfl
theorem room_task (h : tasksOk room ts = true) {t : Tk} (ht : t ∈ ts) : fits3 (add3 [0, 0, 0] t.2) room = true := by
  simp only [tasksOk, Bool.and_eq_true, List.all_eq_true] at h
  have := h.1.2 t ht
  simp only [taskOk, vecFits, Bool.and_eq_true] at this
  rw [fits3_iff]
  intro j hj
  rw [add3_at hj]
  have h3 := fits3_iff.1 this.2.2 j hj
  match j, hj with
  | 0, _ => simpa using h3
  | 1, _ => simpa using h3
  | 2, _ => simpa using h3
theorem flatB_len : ∀ {bs : List (List Tk)}, (∀ b ∈ bs, b ≠ []) → bs.length ≤ bs.flatten.length
  | [], _ => by simp
  | b :: bs, h => by
    have ih := flatB_len (bs := bs) (fun x hx => h x (List.mem_cons_of_mem _ hx))
    have hb : 0 < b.length := List.length_pos_iff.2 (h b (List.mem_cons_self ..))
    simp only [List.flatten_cons, List.length_append, List.length_cons]
    omega
/-- All tasks lie in valid nodes, none of which is empty. -/
theorem all_facts (hT : Tells room c) (h : tasksOk room ts = true) : binsOk room (allB c ts) = true ∧ (allB c ts).flatten.Perm ts ∧ (∀ b ∈ allB c ts, b ≠ [] ∧ fits3 (loadP b) room = true) ∧ (allB c ts).length ≤ ts.length := by
  have hh := fold_put hT ts [] (fun t ht => room_task h ht) (fun b hb => by simp at hb)
  have hp : (allB c ts).flatten.Perm ts := by simpa [allB] using hh.2
  have hl : (allB c ts).length ≤ ts.length := by rw [← hp.length_eq]; exact flatB_len (fun b hb => (hh.1 b hb).1)
  have h14 : ts.length ≤ 14 := by simp only [tasksOk, Bool.and_eq_true, decide_eq_true_eq] at h; exact h.1.1.2
  refine ⟨binsOk_iff.2 ⟨by omega, tasksOk_perm hp h, fun i hi => ?_⟩, hp, hh.1, hl⟩
  rw [List.getElem?_eq_getElem hi]
  exact (hh.1 _ (List.getElem_mem hi)).2

/-! ### Bounds from below -/
theorem load_flat {x : Nat} (hx : x < 3) : ∀ {bs : List (List Tk)}, (∀ b ∈ bs, fits3 (loadP b) room = true) → (loadP bs.flatten)[x]?.getD 0 ≤ bs.length * room[x]?.getD 0
  | [], _ => by
    rw [load_sum _ hx]; simp
  | b :: bs, h => by
    have ih := load_flat hx (bs := bs) (fun y hy => h y (List.mem_cons_of_mem _ hy))
    have hb := fits3_iff.1 (h b (List.mem_cons_self ..)) x hx
    rw [load_sum _ hx] at ih hb ⊢
    rw [List.flatten_cons, List.map_append, List.sum_append, List.length_cons]
    have : ((bs.length + 1 : Nat) : Int) * room[x]?.getD 0 = bs.length * room[x]?.getD 0 + room[x]?.getD 0 := by rw [Int.natCast_add, Int.add_mul]; simp
    rw [this]
    omega
/-- The greatest load divided by the room. -/
def sumD (room : List Int) (ts : List Tk) (x : Nat) : Int := ((loadP ts)[x]?.getD 0 + room[x]?.getD 0 - 1).tdiv (room[x]?.getD 0)
def sumB (room : List Int) (ts : List Tk) : Int := max (max (max 0 (sumD room ts 0)) (sumD room ts 1)) (sumD room ts 2)
theorem room_pos (h : tasksOk room ts = true) {x : Nat} (hx : x < 3) : 1 ≤ room[x]?.getD 0 := by
  simp only [tasksOk, roomOk, Bool.and_eq_true] at h
  have h1 := h.1.1.1
  have := all_iff_getD.1 h1.2 x (by rw [vecOk_len h1.1]; exact hx)
  simpa using this
theorem need_pos (h : tasksOk room ts = true) {t : Tk} (ht : t ∈ ts) (x : Nat) : 0 ≤ t.2[x]?.getD 0 := (vecOk_bd (tasksOk_vec h ht) x).1
theorem sum_pos : ∀ {l : List Int}, (∀ x ∈ l, 0 ≤ x) → 0 ≤ l.sum
  | [], _ => by simp
  | a :: l, h => by
    have := sum_pos (l := l) (fun x hx => h x (List.mem_cons_of_mem _ hx))
    have := h a (List.mem_cons_self ..)
    simp; omega
theorem load_pos (h : tasksOk room ts = true) {x : Nat} (hx : x < 3) : 0 ≤ (loadP ts)[x]?.getD 0 := by
  rw [load_sum _ hx]
  refine sum_pos (fun y hy => ?_)
  obtain ⟨t, ht, rfl⟩ := List.mem_map.1 hy
  exact need_pos h ht x
theorem sumD_le (h : tasksOk room ts = true) (hp : bs.flatten.Perm ts) (hf : ∀ b ∈ bs, fits3 (loadP b) room = true) {x : Nat} (hx : x < 3) : sumD room ts x ≤ bs.length := by
  have hr := room_pos h hx
  have hl := load_pos h hx
  have hb := load_flat hx hf
  rw [load_perm hp hx] at hb
  unfold sumD
  rw [Int.tdiv_eq_ediv_of_nonneg (by omega)]
  have : ((loadP ts)[x]?.getD 0 + room[x]?.getD 0 - 1) / room[x]?.getD 0 < bs.length + 1 := by
    apply Int.ediv_lt_of_lt_mul (by omega)
    rw [Int.add_mul]; omega
  omega
theorem sumB_le (h : tasksOk room ts = true) (hp : bs.flatten.Perm ts) (hf : ∀ b ∈ bs, fits3 (loadP b) room = true) : sumB room ts ≤ bs.length := by
  have h0 := sumD_le h hp hf (x := 0) (by omega)
  have h1 := sumD_le h hp hf (x := 1) (by omega)
  have h2 := sumD_le h hp hf (x := 2) (by omega)
  unfold sumB
  omega
end
end Go.Proofs.YtdgeicdiiakhjaaGreat

namespace Go.Proofs.YtdgeicdiiakhjaaGreat
set_option linter.unusedVariables false
set_option linter.unusedSimpArgs false

/-- Two tasks can not share a node. -/
def clashP (room : List Int) (x y : Tk) : Bool := !fits3 (add3 x.2 y.2) room
theorem clash_comm {room : List Int} {x y : Tk} : clashP room x y = clashP room y x := by
  unfold clashP fits3 add3
  simp [Int.add_comm]
/-- Each task that is in conflict with all that were taken is taken. -/
def apartStep (room : List Int) (tk : List Tk) (x : Tk) : List Tk := if tk.all (fun y => clashP room x y) = true then tk ++ [x] else tk
def apartP (room : List Int) (ts : List Tk) : List Tk := ts.foldl (apartStep room) []
section
variable {room : List Int} {ts : List Tk} {bs : List (List Tk)}
theorem apart_fold (room : List Int) : ∀ (ts acc : List Tk), acc.Pairwise (fun x y => clashP room x y = true) → (ts.foldl (apartStep room) acc).Pairwise (fun x y => clashP room x y = true) ∧ ∃ l, l.Sublist ts ∧ ts.foldl (apartStep room) acc = acc ++ l
  | [], acc, h => ⟨h, [], List.Sublist.refl _, by simp⟩
  | t :: ts, acc, h => by
    rw [List.foldl_cons]
    by_cases hc : acc.all (fun y => clashP room t y) = true
    · have e : apartStep room acc t = acc ++ [t] := by unfold apartStep; rw [if_pos hc]
      rw [e]
      have hp : (acc ++ [t]).Pairwise (fun x y => clashP room x y = true) := by
        rw [List.pairwise_append]
        refine ⟨h, List.pairwise_singleton _ _, fun x hx y hy => ?_⟩
        rw [List.mem_singleton] at hy
        subst hy
        rw [clash_comm]
        exact List.all_eq_true.1 hc x hx
      obtain ⟨h1, l, h2, h3⟩ := apart_fold room ts (acc ++ [t]) hp
      exact ⟨h1, t :: l, h2.cons_cons t, by rw [h3]; simp⟩
    · have e : apartStep room acc t = acc := by unfold apartStep; rw [if_neg hc]
      rw [e]
      obtain ⟨h1, l, h2, h3⟩ := apart_fold room ts acc h
      exact ⟨h1, l, h2.cons t, h3⟩
theorem apart_facts (room : List Int) (ts : List Tk) : (apartP room ts).Pairwise (fun x y => clashP room x y = true) ∧ (apartP room ts).Sublist ts := by
  obtain ⟨h1, l, h2, h3⟩ := apart_fold room ts [] List.Pairwise.nil
  exact ⟨h1, by unfold apartP; rw [h3]; simpa using h2⟩
/-- Two different tasks of a node need no more than its load. -/
theorem two_sum {x y : Int} : ∀ {l : List Int} {i j : Nat}, (∀ v ∈ l, 0 ≤ v) → i < j → l[i]? = some x → l[j]? = some y → x + y ≤ l.sum
  | [], i, j, _, _, h, _ => by simp at h
  | a :: l, 0, j + 1, hp, _, hx, hy => by
    simp at hx hy
    subst hx
    have h1 : y ≤ l.sum := by
      obtain ⟨hj, rfl⟩ := List.getElem?_eq_some_iff.1 hy
      have hm := List.getElem_mem hj
      have := sum_pos (l := l.eraseIdx j) (fun v hv => hp v (List.mem_cons_of_mem _ (List.mem_of_mem_eraseIdx hv)))
      have hps := perm_sum (erase_perm hj)
      simp only [List.sum_cons] at hps
      omega
    simp only [List.sum_cons]
    omega
  | a :: l, i + 1, j + 1, hp, hij, hx, hy => by
    have := two_sum (l := l) (i := i) (j := j) (fun v hv => hp v (List.mem_cons_of_mem _ hv)) (by omega) (by simpa using hx) (by simpa using hy)
    have := hp a (List.mem_cons_self ..)
    simp only [List.sum_cons]
    omega
theorem share_fits {b : List Tk} (hn : ∀ t ∈ b, ∀ x : Nat, 0 ≤ t.2[x]?.getD 0) (hf : fits3 (loadP b) room = true) {s t : Tk} (hs : s ∈ b) (ht : t ∈ b) (hne : s ≠ t) : clashP room s t = false := by
  unfold clashP
  rw [Bool.not_eq_false']
  rw [fits3_iff]
  intro j hj
  rw [add3_at hj]
  have hb := fits3_iff.1 hf j hj
  rw [load_sum _ hj] at hb
  obtain ⟨i, hi, rfl⟩ := List.getElem_of_mem hs
  obtain ⟨k, hk, rfl⟩ := List.getElem_of_mem ht
  have hp : ∀ v ∈ b.map (fun t => t.2[j]?.getD 0), 0 ≤ v := fun v hv => by
    obtain ⟨u, hu, rfl⟩ := List.mem_map.1 hv
    exact hn u hu j
  have gi : (b.map (fun t => t.2[j]?.getD 0))[i]? = some ((b[i]).2[j]?.getD 0) := by rw [List.getElem?_map, List.getElem?_eq_getElem hi]; rfl
  have gk : (b.map (fun t => t.2[j]?.getD 0))[k]? = some ((b[k]).2[j]?.getD 0) := by rw [List.getElem?_map, List.getElem?_eq_getElem hk]; rfl
  rcases Nat.lt_trichotomy i k with h | h | h
  · have := two_sum hp h gi gk; omega
  · subst h; exact absurd rfl hne
  · have := two_sum hp h gk gi; omega
/-- Tasks in conflict with each other lie in different nodes. -/
theorem apart_bins : ∀ (bs : List (List Tk)) (l : List Tk), (∀ b ∈ bs, fits3 (loadP b) room = true ∧ ∀ t ∈ b, ∀ x : Nat, 0 ≤ t.2[x]?.getD 0) → l.Pairwise (fun x y => clashP room x y = true) → l.Nodup → (∀ x ∈ l, x ∈ bs.flatten) → l.length ≤ bs.length
  | [], l, _, _, _, hm => by
    cases l with
    | nil => simp
    | cons a l => have := hm a (List.mem_cons_self ..); simp at this
  | b :: bs, l, hf, hp, hd, hm => by
    have ih := apart_bins bs (l.filter (fun x => !decide (x ∈ b))) (fun y hy => hf y (List.mem_cons_of_mem _ hy)) (hp.filter _) (hd.filter _) (fun x hx => by
      rw [List.mem_filter] at hx
      have := hm x hx.1
      rw [List.flatten_cons, List.mem_append] at this
      rcases this with h | h
      · simp [h] at hx
      · exact h)
    have h1 : (l.filter (fun x => decide (x ∈ b))).length ≤ 1 := by
      have hp' := hp.filter (fun x => decide (x ∈ b))
      have hd' := hd.filter (fun x => decide (x ∈ b))
      cases hl : l.filter (fun x => decide (x ∈ b)) with
      | nil => simp
      | cons x r =>
        cases r with
        | nil => simp
        | cons y r =>
          exfalso
          have hx : x ∈ l.filter (fun x => decide (x ∈ b)) := by rw [hl]; exact List.mem_cons_self ..
          have hy : y ∈ l.filter (fun x => decide (x ∈ b)) := by rw [hl]; exact List.mem_cons_of_mem _ (List.mem_cons_self ..)
          rw [List.mem_filter, decide_eq_true_eq] at hx hy
          rw [hl] at hp' hd'
          have hc := (List.pairwise_cons.1 hp').1 y (List.mem_cons_self ..)
          have hne : x ≠ y := fun e => by
            have := (List.nodup_cons.1 hd').1
            rw [e] at this
            exact this (List.mem_cons_self ..)
          have := share_fits (hf b (List.mem_cons_self ..)).2 (hf b (List.mem_cons_self ..)).1 hx.2 hy.2 hne
          rw [this] at hc
          cases hc
    have h2 : l.length = (l.filter (fun x => decide (x ∈ b))).length + (l.filter (fun x => !decide (x ∈ b))).length := by
      rw [← List.countP_eq_length_filter, ← List.countP_eq_length_filter]
      have := List.length_eq_countP_add_countP (fun x => decide (x ∈ b)) (l := l)
      simpa using this
    rw [List.length_cons]
    omega
theorem apart_le (h : tasksOk room ts = true) (hp : bs.flatten.Perm ts) (hf : ∀ b ∈ bs, fits3 (loadP b) room = true) : (apartP room ts).length ≤ bs.length := by
  obtain ⟨h1, h2⟩ := apart_facts room ts
  have hd : (ts.map (·.1)).Nodup := by simp only [tasksOk, Bool.and_eq_true, decide_eq_true_eq] at h; exact h.2
  have hn : ts.Nodup := (List.pairwise_map.1 hd).imp (fun h e => h (by rw [e]))
  refine apart_bins bs _ (fun b hb => ⟨hf b hb, fun t ht x => ?_⟩) h1 (h2.nodup hn) (fun x hx => ?_)
  · exact need_pos h (hp.subset (List.mem_flatten.2 ⟨b, hb, ht⟩)) x
  · exact hp.symm.subset (h2.subset hx)
theorem apart_pos (hne : ts ≠ []) : 1 ≤ (apartP room ts).length := by
  cases ts with
  | nil => exact absurd rfl hne
  | cons t ts =>
    unfold apartP
    rw [List.foldl_cons]
    have e : apartStep room [] t = [t] := rfl
    rw [e]
    obtain ⟨_, l, _, h3⟩ := apart_fold room ts [t] (List.pairwise_singleton _ _)
    rw [h3]
    simp
end
end Go.Proofs.YtdgeicdiiakhjaaGreat

namespace Go.Proofs.YtdgeicdiiakhjaaGreat
set_option linter.unusedVariables false
set_option linter.unusedSimpArgs false

def lessB (a b : List (List Tk)) : List (List Tk) := if b.length < a.length then b else a
/-- The first way with the fewest nodes. -/
def fewP (room : List Int) (ts : List Tk) : List (List Tk) :=
  lessB (lessB (lessB (allB (firstB room) ts) (allB (bestB room) ts)) (allB (firstB room) (sortP ts))) (allB (bestB room) (sortP ts))
theorem less_le (a b : List (List Tk)) : (lessB a b).length ≤ a.length ∧ (lessB a b).length ≤ b.length := by unfold lessB; split <;> omega
theorem less_or (a b : List (List Tk)) : lessB a b = a ∨ lessB a b = b := by unfold lessB; split <;> simp
section
variable {room : List Int} {ts : List Tk}
theorem few_le : (fewP room ts).length ≤ (allB (firstB room) ts).length ∧ (fewP room ts).length ≤ (allB (bestB room) ts).length ∧ (fewP room ts).length ≤ (allB (firstB room) (sortP ts)).length ∧ (fewP room ts).length ≤ (allB (bestB room) (sortP ts)).length := by
  unfold fewP
  have h1 := less_le (allB (firstB room) ts) (allB (bestB room) ts)
  have h2 := less_le (lessB (allB (firstB room) ts) (allB (bestB room) ts)) (allB (firstB room) (sortP ts))
  have h3 := less_le (lessB (lessB (allB (firstB room) ts) (allB (bestB room) ts)) (allB (firstB room) (sortP ts))) (allB (bestB room) (sortP ts))
  omega
/-- Valid nodes with all the tasks, none empty. -/
structure Packs (room : List Int) (ts : List Tk) (bs : List (List Tk)) : Prop where
  ok : binsOk room bs = true
  perm : bs.flatten.Perm ts
  each : ∀ b ∈ bs, b ≠ [] ∧ fits3 (loadP b) room = true
  le : bs.length ≤ ts.length
theorem all_packs {c : List (List Tk) → Tk → Int} (hT : Tells room c) (h : tasksOk room ts = true) : Packs room ts (allB c ts) := by
  obtain ⟨h1, h2, h3, h4⟩ := all_facts hT h
  exact ⟨h1, h2, h3, h4⟩
theorem all_packs_sort {c : List (List Tk) → Tk → Int} (hT : Tells room c) (h : tasksOk room ts = true) : Packs room ts (allB c (sortP ts)) := by
  have hs := tasksOk_perm (sort_perm ts) h
  obtain ⟨h1, h2, h3, h4⟩ := all_facts hT hs
  exact ⟨h1, h2.trans (sort_perm ts), h3, by rw [← sort_len ts]; exact h4⟩
theorem Packs.less {a b : List (List Tk)} (ha : Packs room ts a) (hb : Packs room ts b) : Packs room ts (lessB a b) := by
  rcases less_or a b with e | e <;> rw [e]
  · exact ha
  · exact hb
theorem few_packs (h : tasksOk room ts = true) : Packs room ts (fewP room ts) :=
  (((all_packs (first_tells room) h).less (all_packs (best_tells room) h)).less (all_packs_sort (first_tells room) h)).less (all_packs_sort (best_tells room) h)
theorem Packs.bound {bs : List (List Tk)} (h : tasksOk room ts = true) (p : Packs room ts bs) : sumB room ts ≤ bs.length ∧ (apartP room ts).length ≤ bs.length :=
  ⟨sumB_le h p.perm (fun b hb => (p.each b hb).2), apart_le h p.perm (fun b hb => (p.each b hb).2)⟩
/-- All go into the first node where they fit together. -/
theorem first_one : ∀ (ts acc : List Tk), (∀ t ∈ acc ++ ts, ∀ x : Nat, 0 ≤ t.2[x]?.getD 0) → fits3 (loadP (acc ++ ts)) room = true → ts.foldl (fun bs t => putB bs (firstB room bs t) t) [acc] = [acc ++ ts]
  | [], acc, _, _ => by simp
  | t :: ts, acc, hn, hf => by
    rw [List.foldl_cons]
    have hr : roomB room [acc] t.2 0 = true := by
      unfold roomB
      show fits3 (add3 (loadP acc) t.2) room = true
      rw [← load_snoc, fits3_iff]
      intro j hj
      have := fits3_iff.1 hf j hj
      rw [load_sum _ hj] at this ⊢
      have e : acc ++ t :: ts = (acc ++ [t]) ++ ts := by simp
      rw [e, List.map_append, List.sum_append] at this
      have hp := sum_pos (l := ts.map (fun t => t.2[j]?.getD 0)) (fun v hv => by
        obtain ⟨u, hu, rfl⟩ := List.mem_map.1 hv
        exact hn u (List.mem_append_right _ (List.mem_cons_of_mem _ hu)) j)
      omega
    have hfst : firstB room [acc] t = 0 := by
      unfold firstB firstP roomsTo
      show (match ((List.range 1).filter (roomB room [acc] t.2)).head? with | some i => (i : Int) | none => -1) = 0
      simp [List.range_succ, hr]
    have hput : putB [acc] (firstB room [acc] t) t = [acc ++ [t]] := by rw [hfst]; rfl
    rw [hput, first_one ts (acc ++ [t]) (by simpa using hn) (by simpa using hf)]
    simp
theorem one_iff (h : tasksOk room ts = true) (hne : ts ≠ []) : (fewP room ts).length = 1 ↔ binsOk room [ts] = true := by
  have p := few_packs h
  have hlen : 1 ≤ (fewP room ts).length := by
    rcases Nat.eq_zero_or_pos (fewP room ts).length with h0 | h0
    · have e := List.length_eq_zero_iff.1 h0
      have := p.perm.length_eq
      rw [e] at this
      simp at this
      exact absurd this.symm (by simpa using hne)
    · exact h0
  constructor
  · intro h1
    obtain ⟨b, hb⟩ := List.length_eq_one_iff.1 h1
    have hp : b.Perm ts := by have := p.perm; rw [hb] at this; simpa using this
    have hf := (p.each b (by rw [hb]; exact List.mem_cons_self ..)).2
    refine binsOk_iff.2 ⟨by simp, by simpa using h, fun i hi => ?_⟩
    have : i = 0 := by simpa using hi
    subst this
    show fits3 (loadP ts) room = true
    rw [fits3_iff] at hf ⊢
    intro j hj
    rw [← load_perm hp hj]
    exact hf j hj
  · intro hb
    have hf : fits3 (loadP ts) room = true := (binsOk_iff.1 hb).2.2 0 (by simp)
    have h1 : (allB (firstB room) ts).length = 1 := by
      cases ts with
      | nil => exact absurd rfl hne
      | cons t ts =>
        unfold allB
        rw [List.foldl_cons]
        have e : putB [] (firstB room [] t) t = [[t]] := rfl
        rw [e, first_one ts [t] (fun u hu x => need_pos h (by simpa using hu) x) (by simpa using hf)]
        rfl
    have := (few_le (room := room) (ts := ts)).1
    omega
/-- The better bound is one where one node does. -/
theorem best_one (h : tasksOk room ts = true) (hne : ts ≠ []) (hb : binsOk room [ts] = true) : max (sumB room ts) ((apartP room ts).length : Int) = 1 := by
  have h1 := (one_iff h hne).2 hb
  obtain ⟨h2, h3⟩ := (few_packs h).bound h
  have h4 := apart_pos (room := room) hne
  rw [h1] at h2 h3
  omega
end
end Go.Proofs.YtdgeicdiiakhjaaGreat

namespace Go.Proofs.YtdgeicdiiakhjaaGreat
set_option linter.unusedSimpArgs false
set_option linter.unusedVariables false
open Go Go.RowKit
attribute [local go_sem ↓] Go.wp_at_zero Go.wp_at_succ

theorem getD_mem {l : List Tk} {a : Nat} (ha : a < l.length) : l[a]?.getD (0, []) ∈ l := by rw [List.getElem?_eq_getElem ha]; exact List.getElem_mem ha
theorem obr_low {w : World} {base base' n : Nat} {v : Value} {bs : List (List Tk)} (h : OwnBR w base v n bs) (hb : base' ≤ base) : OwnBR w base' v n bs := by
  obtain ⟨vs, h1, h2⟩ := h
  exact ⟨vs, own_lo h1 hb, h2.low hb⟩
theorem obr_len {w : World} {base n : Nat} {v : Value} {bs : List (List Tk)} (h : OwnBR w base v n bs) : bs.length = n := by
  obtain ⟨vs, h1, h2⟩ := h
  exact h2.1
theorem all_take {c : List (List Tk) → Tk → Int} {ts : List Tk} {k : Nat} (h : k < ts.length) : allB c (ts.take (k + 1)) = putB (allB c (ts.take k)) (c (allB c (ts.take k)) (ts[k]?.getD (0, []))) (ts[k]?.getD (0, [])) := by
  unfold allB
  rw [List.take_succ_eq_append_getElem h, List.foldl_append, List.getElem?_eq_getElem h]
  rfl
theorem all_small {c : List (List Tk) → Tk → Int} {room : List Int} {ts : List Tk} (hT : Tells room c) (h : tasksOk room ts = true) (k : Nat) :
    (allB c (ts.take k)).length ≤ 14 ∧ ∀ j, j < (allB c (ts.take k)).length → ((allB c (ts.take k))[j]?.getD []).length ≤ 14 ∧ ∀ t ∈ (allB c (ts.take k))[j]?.getD [], vecOk t.2 = true := by
  have hk := tasksOk_sub h (List.take_sublist k ts)
  obtain ⟨h1, h2, h3, h4⟩ := all_facts hT hk
  have hb := binsOk_iff.1 h1
  have hl : ((allB c (ts.take k)).flatten).length ≤ 14 := by have := hb.2.1; simp only [tasksOk, Bool.and_eq_true, decide_eq_true_eq] at this; exact this.1.1.2
  refine ⟨hb.1, fun j hj => ⟨?_, fun t ht => ?_⟩⟩
  · have := (bin_sub hj).length_le; omega
  · exact tasksOk_vec hb.2.1 ((bin_sub hj).subset ht)
theorem need3 {room : List Int} {ts : List Tk} (h : tasksOk room ts = true) {k : Nat} (hk : k < ts.length) : (ts[k]?.getD (0, [])).2.length = 3 ∧ ∀ j : Nat, 0 ≤ (ts[k]?.getD (0, [])).2[j]?.getD 0 ∧ (ts[k]?.getD (0, [])).2[j]?.getD 0 ≤ 20 := by
  rw [List.getElem?_eq_getElem hk]
  have := tasksOk_vec h (List.getElem_mem hk)
  exact ⟨vecOk_len this, fun j => vecOk_bd this j⟩

set_option maxRecDepth 100000 in
set_option maxHeartbeats 3200000 in
theorem l11All_any (A1 A : Option Addr) (n1 c1 n c : Nat) (room : List Int) (ts : List Tk) (w : World) (h1 : RdI w w.heap.size A1 n1 room) (h : RdT w w.heap.size A n ts) (hok : tasksOk room ts = true) (hn1 : 3 ≤ n1) :
    Calls Tryz.prog 47 #[.slice A1 n1 c1, .slice A n c] w fun e w' => ∃ A' m c', e = .returned (.slice A' m c') ∧ OwnBR w' w.heap.size (.slice A' m c') m (allB (firstB room) ts) ∧ Below w.heap.size w w' := by
  have H1 := qh h1
  have H := qh h
  have Hl := qh h.len
  have Hok := qh hok
  have hn14 : n ≤ 14 := by rw [← h.len]; simp only [tasksOk, Bool.and_eq_true, decide_eq_true_eq] at hok; exact hok.1.1.2
  clear h1 h hok
  have O0 := qh (show (w.alloc (.cells #[] 24)).ownsRow w.heap.size 24 1 (.slice (some ⟨w.heap.size, 0, none⟩) 0 0) 0 [] from World.ownsRow_made w #[] 0 (Nat.le_refl _) (by unfold maxLen; omega) rfl)
  have B0 := qh (alloc_up w (.cells #[] 24))
  go_enter Tryz.func47, Tryz.ntmps47
  go_wp2_with fail
  go_loopw [5, 6] (fun v i wr => ∃ (k m cc : Nat) (Ab : Option Addr), i = .int .i64 (k : Int) ∧ k ≤ n ∧ v = .slice Ab m cc ∧ OwnBR wr w.heap.size (.slice Ab m cc) m (allB (firstB room) (ts.take k)) ∧ Below w.heap.size w wr) (fun _ i _ => n - (intOf i).toNat)
  case atStart => exact ⟨0, 0, 0, _, rfl, Nat.zero_le _, rfl, ⟨[], O0.out, NdBR.nil⟩, B0.out⟩
  case round =>
    clear O0 B0
    obtain ⟨k, m, cc, Ab, rfl, hk, rfl, hO, hB⟩ := hrel
    have hS := all_small (first_tells room) Hok.out k
    have hml : (allB (firstB room) (ts.take k)).length = m := by obtain ⟨_, _, hN⟩ := hO; exact hN.1
    rw [hml] at hS
    have HS := qh hS
    have HO := qh hO
    have HB := qh hB
    have lz := hB.size
    have hm14 : m ≤ 14 := hS.1
    clear hS hO hB
    by_cases hlt : k < n
    · obtain ⟨bt, ot, Ax, mx, cx, rfl, lt, ht0, ht1, hcx, hrx⟩ := (H.out.up HB.out).at_ hlt
      have hn3 := need3 Hok.out (k := k) (by have := Hl.out; omega)
      have HT := qh (all_take (c := firstB room) (ts := ts) (k := k) (by have := Hl.out; omega))
      have HTL := qh (first_tells room (allB (firstB room) (ts.take k)) (ts[k]?.getD (0, [])))
      generalize ts[k]?.getD (0, []) = tj at *
      obtain ⟨tid, txs⟩ := tj
      dsimp only at ht0 hrx hn3
      obtain rfl : mx = 3 := by have := hrx.len; omega
      have HX := qh hrx
      have H3 := qh hn3
      clear hrx hn3
      have k1 : (0 : Int) ≤ (k : Int) := by omega
      have k2 : (k : Int) < (n : Int) := by omega
      have k3 : 0 ≤ (k : Int) * 2 := by omega
      generalize allB (firstB room) (ts.take k) = bs at *
      go_wp2_with fail
      refine wp_region_mix (.take 0 (.take 1 (.take 2 (.take 3 (.take 4 (.take 5 (.take 6 (.take 8 (.take 9 (.take 10 (.take 11 (.bar 7 (.bar 12 (.take 13 .nil)))))))))))))) (fun w' => w'.cell? ⟨bt, ot + k * 2, none⟩ = some (.int .i64 tid) ∧ w'.cell? ⟨bt, ot + k * 2 + 1, none⟩ = some (.slice Ax 3 cx)) (by kernel_rfl) (by kernel_rfl) ⟨ht0, ht1⟩ (fun _ => ?_)
      have D0 := qh ((Below.refl wr.heap.size wr).drew)
      have HKS := qh (fun w' (hb : Below wr.heap.size wr w') => (⟨(hb.cell (p := ⟨bt, ot + k * 2, none⟩) lt).trans ht0, (hb.cell (p := ⟨bt, ot + k * 2 + 1, none⟩) lt).trans ht1⟩ : w'.cell? ⟨bt, ot + k * 2, none⟩ = some (.int .i64 tid) ∧ w'.cell? ⟨bt, ot + k * 2 + 1, none⟩ = some (.slice Ax 3 cx)))
      clear ht0 ht1
      generalize wr.drew = u0 at D0 ⊢
      repeat ((first | refine wpMix_skip (by rfl) (by rfl) ?_ | (refine wpMix_take (v := ?_) (by rfl) (by rfl) (fun wS hSt => ?_) ?_; rotate_left; (focus ((try dsimp only at hSt); (go_simp <;> with_reducible rfl); done)))); (try simp only [Act.put, pS, pZ, pC]))
      (refine wpMix_bar (by rfl) (fun K hK => ?_); go_simp)
      refine (l11At_any A1 Ab Ax n1 c1 m cc cx room bs tid txs u0 ((H1.out.up HB.out).up D0.out) (HO.out.rd.up D0.out) (HX.out.up D0.out) hn1 (fun j hj => ⟨by have := (HS.out.2 j hj).1; omega, (HS.out.2 j hj).2⟩) (fun j hj => by have := H3.out.2 j; omega)).mono ?_; rintro e u1 ⟨rfl, hb⟩
      have D1 := qh (D0.out.trans (hb.mono D0.out.size))
      ((try dsimp only); refine nxK hK _ _ (HKS.out _ D1.out) ?_; clear hK K; (try simp only [Act.put, pS, pZ, pC]))
      clear hb
      refine wpMix_bar (by rfl) (fun K hK => ?_)
      rw [if_pos (by rfl)]
      rcases HTL.out with hf | ⟨i, hi, hf, _⟩
      · have hf2 : firstP room bs txs = -1 := hf
        have e1 : putB bs (firstB room bs (tid, txs)) (tid, txs) = bs ++ [[(tid, txs)]] := by rw [hf]; rfl
        rw [e1] at HT
        rw [hf2]
        go_simp
        refine (l11PutN_any Ab Ax m cc 3 cx bs tid txs u1 (HO.out.rd.up D1.out) (by omega) (fun j hj => ⟨by have := (HS.out.2 j hj).1; omega, fun a ha => by have := vecOk_len ((HS.out.2 j hj).2 _ (getD_mem ha)); omega⟩) (HX.out.up D1.out) (by omega)).mono ?_; rintro e u2 ⟨A9, c9, rfl, hO9, hb⟩
        have D2 := qh (D1.out.trans (hb.mono D1.out.size))
        have HO9 := qh hO9
        ((try dsimp only); refine nxK hK _ _ (HKS.out _ D2.out) ?_; clear hK K; (try simp only [Act.put, pS, pZ, pC]))
        clear hb hO9
        repeat ((first | refine wpMix_skip (by rfl) (by rfl) ?_ | (refine wpMix_take (v := ?_) (by rfl) (by rfl) (fun wS hSt => ?_) ?_; rotate_left; (focus ((try dsimp only at hSt); (go_simp <;> with_reducible rfl); done)))); (try simp only [Act.put, pS, pZ, pC]))
        refine wpMix_nil ?_
        go_wp2_with fail
        go_roundw
        case measure => simp [intOf]; omega
        case rel => exact ⟨k + 1, m + 1, c9, A9, by go_num, by omega, rfl, by rw [HT.out]; exact obr_low HO9.out (by have := D1.out.size; omega), HB.out.trans (D2.out.mono lz)⟩
      · have hf2 : firstP room bs txs = (i : Int) := hf
        have e1 : putB bs (firstB room bs (tid, txs)) (tid, txs) = putAt bs i (tid, txs) := by rw [hf]; unfold putB putAt; rw [if_neg (by omega), Int.toNat_natCast]
        rw [e1] at HT
        rw [hf2]
        go_simp
        refine (l11Put_any Ab Ax m cc 3 cx i bs tid txs u1 (HO.out.rd.up D1.out) (by omega) (fun j hj => ⟨by have := (HS.out.2 j hj).1; omega, fun a ha => by have := vecOk_len ((HS.out.2 j hj).2 _ (getD_mem ha)); omega⟩) (by have := obr_len HO.out; omega) (HX.out.up D1.out) (by omega)).mono ?_; rintro e u2 ⟨A9, c9, rfl, hO9, hb⟩
        have D2 := qh (D1.out.trans (hb.mono D1.out.size))
        have HO9 := qh hO9
        ((try dsimp only); refine nxK hK _ _ (HKS.out _ D2.out) ?_; clear hK K; (try simp only [Act.put, pS, pZ, pC]))
        clear hb hO9
        repeat ((first | refine wpMix_skip (by rfl) (by rfl) ?_ | (refine wpMix_take (v := ?_) (by rfl) (by rfl) (fun wS hSt => ?_) ?_; rotate_left; (focus ((try dsimp only at hSt); (go_simp <;> with_reducible rfl); done)))); (try simp only [Act.put, pS, pZ, pC]))
        refine wpMix_nil ?_
        go_wp2_with fail
        go_roundw
        case measure => simp [intOf]; omega
        case rel => exact ⟨k + 1, m, c9, A9, by go_num, by omega, rfl, by rw [HT.out]; exact obr_low HO9.out (by have := D1.out.size; omega), HB.out.trans (D2.out.mono lz)⟩
    · obtain rfl : k = n := by omega
      rw [List.take_of_length_le (by have := Hl.out; omega)] at HO
      go_wp2_with fail
      go_ret
      exact ⟨_, _, _, rfl, HO.out, HB.out⟩
end Go.Proofs.YtdgeicdiiakhjaaGreat
