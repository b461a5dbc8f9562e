/- Several texts in one. -/
import Derived.Test.YtdgeicdiiakhjaaGreatW11
import Derived.Test.YtdgeicdiiakhjaaGreatW12
import Derived.Test.YtdgeicdiiakhjaaGreatW8
import Derived.Test.YtdgeicdiiakhjaaGreatW9
namespace Go.Proofs.YtdgeicdiiakhjaaGreat
open Go Go.RowKit
attribute [local go_sem ↓] Go.wp_at_zero Go.wp_at_succ

theorem whereP_or (bs : List (List Tk)) (id : Int) : whereP bs id = -1 ∨ ∃ k : Nat, whereP bs id = (k : Int) ∧ k < bs.length := by
  unfold whereP
  cases h : bs.findIdx? (fun b => hasP b id) with
  | none => exact .inl rfl
  | some i =>
    rw [List.findIdx?_eq_some_iff_getElem] at h
    obtain ⟨hi, _⟩ := h
    exact .inr ⟨i, rfl, hi⟩
/-- ClusterDepart: room, units, code. -/
def depP (room : List Int) (us : List Un) (id : Int) : List Int × List Un × Int :=
  if clOk room us = true then (if whereP (us.map (·.2)) id < 0 then (room, us, 4) else (room, us.set (whereP (us.map (·.2)) id).toNat ((us[(whereP (us.map (·.2)) id).toNat]?.getD (false, [])).1, takeP (us[(whereP (us.map (·.2)) id).toNat]?.getD (false, [])).2 id), 0)) else ([], [], 1)
theorem depP_bad {room : List Int} {us : List Un} {id : Int} (h : clOk room us = false) : depP room us id = ([], [], 1) := by unfold depP; rw [if_neg (by rw [h]; simp)]
theorem depP_none {room : List Int} {us : List Un} {id : Int} (h : clOk room us = true) (hw : whereP (us.map (·.2)) id = -1) : depP room us id = (room, us, 4) := by unfold depP; rw [if_pos h, hw, if_pos (by omega)]
theorem depP_yes {room : List Int} {us : List Un} {id : Int} {k : Nat} (h : clOk room us = true) (hw : whereP (us.map (·.2)) id = (k : Int)) : depP room us id = (room, us.set k ((us[k]?.getD (false, [])).1, takeP (us[k]?.getD (false, [])).2 id), 0) := by
  unfold depP; rw [if_pos h, hw, if_neg (by omega), Int.toNat_natCast]

end Go.Proofs.YtdgeicdiiakhjaaGreat

namespace Go.Proofs.YtdgeicdiiakhjaaGreat
open Go Go.RowKit
attribute [local go_sem ↓] Go.wp_at_zero Go.wp_at_succ

/-- ClusterOpen: room, units, code. -/
def opnP (room : List Int) (us : List Un) (node : Int) (op : Bool) : List Int × List Un × Int :=
  if clOk room us = true then (if inR 0 ((us.length : Int) - 1) node = true then (if (us[node.toNat]?.getD (false, [])).1 = op then (room, us, 2) else if 0 < (us[node.toNat]?.getD (false, [])).2.length then (room, us, 5) else (room, us.set node.toNat (op, (us[node.toNat]?.getD (false, [])).2), 0)) else (room, us, 4)) else ([], [], 1)
theorem opnP_bad {room : List Int} {us : List Un} {node : Int} {op : Bool} (h : clOk room us = false) : opnP room us node op = ([], [], 1) := by unfold opnP; rw [if_neg (by rw [h]; simp)]
theorem opnP_none {room : List Int} {us : List Un} {node : Int} {op : Bool} (h : clOk room us = true) (hn : inR 0 ((us.length : Int) - 1) node = false) : opnP room us node op = (room, us, 4) := by unfold opnP; rw [if_pos h, if_neg (by rw [hn]; simp)]
theorem opnP_twice {room : List Int} {us : List Un} {k : Nat} {op : Bool} (h : clOk room us = true) (hn : inR 0 ((us.length : Int) - 1) (k : Int) = true) (ho : (us[k]?.getD (false, [])).1 = op) : opnP room us k op = (room, us, 2) := by unfold opnP; rw [if_pos h, if_pos hn, Int.toNat_natCast, if_pos ho]
theorem opnP_busy {room : List Int} {us : List Un} {k : Nat} {op : Bool} (h : clOk room us = true) (hn : inR 0 ((us.length : Int) - 1) (k : Int) = true) (ho : (us[k]?.getD (false, [])).1 ≠ op) (hb : 0 < (us[k]?.getD (false, [])).2.length) : opnP room us k op = (room, us, 5) := by unfold opnP; rw [if_pos h, if_pos hn, Int.toNat_natCast, if_neg ho, if_pos hb]
theorem opnP_yes {room : List Int} {us : List Un} {k : Nat} {op : Bool} (h : clOk room us = true) (hn : inR 0 ((us.length : Int) - 1) (k : Int) = true) (ho : (us[k]?.getD (false, [])).1 ≠ op) (hb : ¬ 0 < (us[k]?.getD (false, [])).2.length) : opnP room us k op = (room, us.set k (op, (us[k]?.getD (false, [])).2), 0) := by unfold opnP; rw [if_pos h, if_pos hn, Int.toNat_natCast, if_neg ho, if_neg hb]

end Go.Proofs.YtdgeicdiiakhjaaGreat

namespace Go.Proofs.YtdgeicdiiakhjaaGreat
set_option linter.unusedSimpArgs false
set_option linter.unusedVariables false

/-! ### Lists of lists -/
theorem flat_set {α : Type} : ∀ {bs : List (List α)} {i : Nat} {c : List α}, i < bs.length → (bs.set i c).flatten.Perm (c ++ (bs.eraseIdx i).flatten)
  | [], i, c, h => by simp at h
  | b :: bs, 0, c, _ => by simp
  | b :: bs, i + 1, c, h => by
    simp only [pC, List.flatten_cons, List.eraseIdx_cons_succ]
    have ih := flat_set (bs := bs) (i := i) (c := c) (by simpa using h)
    refine (List.Perm.append_left b ih).trans ?_
    rw [← List.append_assoc, ← List.append_assoc]
    exact List.Perm.append_right _ List.perm_append_comm
theorem flat_at {α : Type} {bs : List (List α)} {i : Nat} (h : i < bs.length) : bs.flatten.Perm (bs[i]?.getD [] ++ (bs.eraseIdx i).flatten) := by
  have := flat_set (c := bs[i]?.getD []) h
  have e : bs.set i (bs[i]?.getD []) = bs := by
    rw [List.getElem?_eq_getElem h]; exact List.set_getElem_self h
  rwa [e] at this
theorem erase_perm {α : Type} {xs : List α} {k : Nat} (h : k < xs.length) : xs.Perm (xs[k] :: xs.eraseIdx k) := by
  have e : xs = xs.take k ++ xs[k] :: xs.drop (k + 1) := by simp
  have e2 : xs.eraseIdx k = xs.take k ++ xs.drop (k + 1) := List.eraseIdx_eq_take_drop_succ ..
  rw [e2]
  exact (List.Perm.of_eq e).trans List.perm_middle

/-! ### Numbers differ -/
theorem ids_pair {bs : List (List Tk)} (h : (bs.flatten.map (·.1)).Nodup) : (∀ b ∈ bs, b.Pairwise (fun x y => x.1 ≠ y.1)) ∧ bs.Pairwise (fun b c => ∀ x ∈ b, ∀ y ∈ c, x.1 ≠ y.1) := by
  unfold List.Nodup at h
  rw [List.pairwise_map, List.pairwise_flatten] at h
  exact h
theorem ids_bin {bs : List (List Tk)} (h : (bs.flatten.map (·.1)).Nodup) {i j : Nat} (hi : i < bs.length) (hj : j < bs.length) {x y : Tk} (hx : x ∈ bs[i]) (hy : y ∈ bs[j]) (he : x.1 = y.1) : i = j := by
  have hp := (List.pairwise_iff_getElem.1 (ids_pair h).2)
  rcases Nat.lt_trichotomy i j with hlt | he' | hlt
  · exact absurd he (hp i j hi hj hlt x hx y hy)
  · exact he'
  · exact absurd he.symm (hp j i hj hi hlt y hy x hx)
theorem ids_at {b : List Tk} (h : b.Pairwise (fun x y => x.1 ≠ y.1)) {i j : Nat} (hi : i < b.length) (hj : j < b.length) (he : b[i].1 = b[j].1) : i = j := by
  have hp := (List.pairwise_iff_getElem.1 h)
  rcases Nat.lt_trichotomy i j with hlt | he' | hlt
  · exact absurd he (hp i j hi hj hlt)
  · exact he'
  · exact absurd he.symm (hp j i hj hi hlt)
theorem take_erase {b : List Tk} (h : b.Pairwise (fun x y => x.1 ≠ y.1)) {k : Nat} (hk : k < b.length) : takeP b b[k].1 = b.eraseIdx k := by
  have e : b = b.take k ++ b[k] :: b.drop (k + 1) := by simp
  have e3 : takeP b b[k].1 = (b.take k ++ b[k] :: b.drop (k + 1)).filter (fun t => !(t.1 == b[k].1)) := congrArg (fun l => List.filter (fun t : Tk => !(t.1 == b[k].1)) l) e
  rw [e3, List.eraseIdx_eq_take_drop_succ, List.filter_append, List.filter_cons]
  have h1 : (b.take k).filter (fun t => !(t.1 == b[k].1)) = b.take k := by
    rw [List.filter_eq_self]
    intro t ht
    obtain ⟨i, hi, rfl⟩ := List.getElem_of_mem ht
    rw [List.length_take] at hi
    rw [List.getElem_take]
    have : ¬ b[i].1 = b[k].1 := fun he => by have := ids_at h (by omega) hk he; omega
    simpa using this
  have h2 : (b.drop (k + 1)).filter (fun t => !(t.1 == b[k].1)) = b.drop (k + 1) := by
    rw [List.filter_eq_self]
    intro t ht
    obtain ⟨i, hi, rfl⟩ := List.getElem_of_mem ht
    rw [List.length_drop] at hi
    rw [List.getElem_drop]
    have : ¬ b[k + 1 + i].1 = b[k].1 := fun he => by have := ids_at h (by omega) hk he; omega
    simpa using this
  rw [h1, h2]
  simp
theorem take_none {b : List Tk} {id : Int} (h : ∀ t ∈ b, t.1 ≠ id) : takeP b id = b := by
  unfold takeP
  rw [List.filter_eq_self]
  intro t ht
  simpa using h t ht

/-! ### Requests -/
/-- A request: its kind, the task's number and need, the grant, the number. -/
structure Rq where
  kind : Int
  id : Int
  xs : List Int
  grant : Bool
  num : Int
def bareOk (r : Rq) (lo hi : Int) : Bool := (r.id == 0) && decide (r.xs.length = 0) && !r.grant && inR lo hi r.num
/-- RequestValid. -/
def rqOk (r : Rq) : Bool :=
  if r.kind = 1 then inR 1 40 r.id && vecOk r.xs && (r.num == 0)
  else if r.kind = 2 then bareOk r 1 40
  else if r.kind = 3 ∨ r.kind = 4 then bareOk r 0 9
  else if r.kind = 5 then bareOk r 0 20
  else false

/-! ### Gathering -/
/-- A candidate's move: the task's number, and the first earlier node with room. -/
def candM (room : List Int) (bs : List (List Tk)) (i : Nat) (t : Tk) : Option (Int × Int) := if 0 ≤ firstP room (bs.take i) t.2 then some (t.1, firstP room (bs.take i) t.2) else none
/-- The next move of the nodes below i, the last one first. -/
def nextTo (room : List Int) (bs : List (List Tk)) : Nat → Option (Int × Int)
  | 0 => none
  | i + 1 => ((bs[i]?.getD []).findSome? (candM room bs i)).or (nextTo room bs i)
def nextP (room : List Int) (bs : List (List Tk)) : Option (Int × Int) := nextTo room bs bs.length
/-- The candidates of the nodes below i, with their nodes. -/
def candsTo (bs : List (List Tk)) : Nat → List (Tk × Nat)
  | 0 => []
  | i + 1 => (bs[i]?.getD []).map (fun t => (t, i)) ++ candsTo bs i
theorem next_cands (room : List Int) (bs : List (List Tk)) : ∀ n, (candsTo bs n).findSome? (fun c => candM room bs c.2 c.1) = nextTo room bs n
  | 0 => rfl
  | n + 1 => by
    rw [candsTo, nextTo, List.findSome?_append, next_cands room bs n, List.findSome?_map]
    rfl
theorem first_empty (room xs : List Int) : firstP room [] xs = -1 := rfl
theorem next_one (room : List Int) (bs : List (List Tk)) : nextTo room bs 1 = none := by
  rw [nextTo, nextTo]
  have : (bs[0]?.getD []).findSome? (candM room bs 0) = none := by
    rw [List.findSome?_eq_none_iff]
    intro t _
    unfold candM
    rw [List.take_zero, first_empty, if_neg (by omega)]
  rw [this]; rfl

/-- The last task with a number. -/
def takenP (bs : List (List Tk)) (id : Int) : Tk := ((bs.flatten.filter (fun t => t.1 == id)).getLast?).getD (0, [])
/-- Nodes with a task at the end of one. -/
def putAt (bs : List (List Tk)) (to : Nat) (x : Tk) : List (List Tk) := bs.set to (bs[to]?.getD [] ++ [x])
/-- l15Do. -/
def doP (bs : List (List Tk)) (m : Int × Int) : List (List Tk) := putAt (bs.map (takeP · m.1)) m.2.toNat (takenP bs m.1)
/-- Some moves of gathering, done. -/
def gathP (room : List Int) : Nat → List (List Tk) → List (List Tk)
  | 0, bs => bs
  | k + 1, bs => match nextP room bs with | none => bs | some m => gathP room k (doP bs m)
def planP (room : List Int) : Nat → List (List Tk) → List (Int × Int)
  | 0, _ => []
  | k + 1, bs => match nextP room bs with | none => [] | some m => m :: planP room k (doP bs m)
/-- l15Can. -/
def canP (room : List Int) (bs : List (List Tk)) (m : Int × Int) : Bool := decide (0 ≤ whereP bs m.1) && inR 0 ((bs.length : Int) - 1) m.2 && !(m.2 == whereP bs m.1) && fits3 (add3 (loadP (bs[m.2.toNat]?.getD [])) (takenP bs m.1).2) room
/-- Moves, one after the other. -/
def mvsP (room : List Int) : List (Int × Int) → List (List Tk) → List (List Tk)
  | [], bs => bs
  | m :: ms, bs => if canP room bs m = true then mvsP room ms (doP bs m) else bs
/-- MovesDo's nodes. -/
def movesP (room : List Int) (bs : List (List Tk)) (ms : List (Int × Int)) : List (List Tk) := if binsOk room bs = true ∧ ms.length ≤ 20 then mvsP room ms bs else []
/-- GatherPlan. -/
def gplanP (room : List Int) (bs : List (List Tk)) (most : Int) : List (Int × Int) := if binsOk room bs = true ∧ inR 0 20 most = true then planP room most.toNat bs else []

/-- What the next move is. -/
theorem next_facts {room : List Int} {bs : List (List Tk)} : ∀ {n : Nat} {m : Int × Int}, n ≤ bs.length → nextTo room bs n = some m → ∃ i, ∃ hi : i < bs.length, ∃ k, ∃ hk : k < bs[i].length, ∃ j : Nat, m = (bs[i][k].1, (j : Int)) ∧ j < i ∧ fits3 (add3 (loadP (bs[j]?.getD [])) bs[i][k].2) room = true
  | 0, m, _, h => by simp [nextTo] at h
  | n + 1, m, hn, h => by
    rw [nextTo, Option.or_eq_some_iff] at h
    rcases h with h | ⟨_, h⟩
    · obtain ⟨t, ht, hc⟩ := List.exists_of_findSome?_eq_some h
      have hi : n < bs.length := by omega
      rw [List.getElem?_eq_getElem hi, Option.getD_some] at ht
      obtain ⟨k, hk, rfl⟩ := List.getElem_of_mem ht
      unfold candM at hc
      split at hc
      · rename_i h0
        injection hc with hc
        unfold firstP at h0 hc
        cases hr : (roomsTo room (bs.take n) bs[n][k].2 (bs.take n).length).head? with
        | none => rw [hr] at h0; simp at h0
        | some j =>
          rw [hr] at hc
          have hm := List.mem_of_head? hr
          rw [mem_rooms, List.length_take] at hm
          refine ⟨n, hi, k, hk, j, hc.symm, by omega, ?_⟩
          have h2 := hm.2
          unfold roomB at h2
          rwa [List.getElem?_take, if_pos (by omega)] at h2
      · cases hc
    · exact next_facts (by omega) h

/-- One move of gathering. -/
structure Step (room : List Int) (bs : List (List Tk)) (m : Int × Int) (i k j : Nat) (t : Tk) : Prop where
  hi : i < bs.length
  hj : j < i
  hk : (bs[i]?.getD [])[k]? = some t
  fits : fits3 (add3 (loadP (bs[j]?.getD [])) t.2) room = true
  mv : m = (t.1, (j : Int))
  where_ : whereP bs t.1 = (i : Int)
  at_ : atP (bs[i]?.getD []) t.1 = (k : Int)
  taken : takenP bs t.1 = t
  out : doP bs m = (bs.set i ((bs[i]?.getD []).eraseIdx k)).set j (bs[j]?.getD [] ++ [t])

theorem binsOk_nodup {room : List Int} {bs : List (List Tk)} (h : binsOk room bs = true) : (bs.flatten.map (·.1)).Nodup := by
  simp only [binsOk, tasksOk, Bool.and_eq_true, decide_eq_true_eq] at h
  exact h.1.2.2
theorem next_step {room : List Int} {bs : List (List Tk)} {m : Int × Int} (hb : binsOk room bs = true) (h : nextP room bs = some m) : ∃ i k j t, Step room bs m i k j t := by
  have hn := binsOk_nodup hb
  obtain ⟨i, hi, k, hk, j, hm, hj, hf⟩ := next_facts (Nat.le_refl _) h
  have hmem : bs[i][k] ∈ bs[i] := List.getElem_mem hk
  have hp := ids_pair hn
  have hpi := hp.1 _ (List.getElem_mem hi)
  have e0 : bs[i]?.getD [] = bs[i] := by rw [List.getElem?_eq_getElem hi]; rfl
  have hw : whereP bs bs[i][k].1 = (i : Int) := by
    refine whereP_some (k := i) hi ?_ ?_
    · rw [e0]; unfold hasP; rw [List.any_eq_true]; exact ⟨_, hmem, by simp⟩
    · intro a ha
      rw [← Bool.not_eq_true]
      intro hh
      unfold hasP at hh
      rw [List.any_eq_true] at hh
      obtain ⟨y, hy, hye⟩ := hh
      rw [List.getElem?_eq_getElem (by omega), Option.getD_some] at hy
      have := ids_bin hn (by omega) hi hy hmem (by simpa using hye)
      omega
  have hat : atP bs[i] bs[i][k].1 = (k : Int) := by
    refine idxP_some (d := (0, [])) hk ?_ ?_
    · rw [List.getElem?_eq_getElem hk]; simp
    · intro a ha
      rw [List.getElem?_eq_getElem (by omega), Option.getD_some]
      have : ¬ bs[i][a].1 = bs[i][k].1 := fun he => by have := ids_at hpi (by omega) hk he; omega
      simpa using this
  have htk : takenP bs bs[i][k].1 = bs[i][k] := by
    unfold takenP
    have hin : bs[i][k] ∈ bs.flatten := List.mem_flatten.2 ⟨_, List.getElem_mem hi, hmem⟩
    have hall : ∀ t ∈ bs.flatten.filter (fun t => t.1 == bs[i][k].1), t = bs[i][k] := by
      intro t ht
      obtain ⟨ht1, ht2⟩ := List.mem_filter.1 ht
      obtain ⟨b, hb1, hb2⟩ := List.mem_flatten.1 ht1
      obtain ⟨a, ha, rfl⟩ := List.getElem_of_mem hb1
      have ea := ids_bin hn ha hi hb2 hmem (by simpa using ht2)
      subst ea
      obtain ⟨c, hc, rfl⟩ := List.getElem_of_mem hb2
      have ec := ids_at hpi hc hk (by simpa using ht2)
      subst ec
      rfl
    cases hl : (bs.flatten.filter (fun t => t.1 == bs[i][k].1)).getLast? with
    | none =>
      rw [List.getLast?_eq_none_iff] at hl
      have : bs[i][k] ∈ bs.flatten.filter (fun t => t.1 == bs[i][k].1) := List.mem_filter.2 ⟨hin, by simp⟩
      rw [hl] at this; simp at this
    | some t => exact hall t (List.mem_of_getLast? hl)
  refine ⟨i, k, j, bs[i][k], hi, hj, by rw [e0]; exact List.getElem?_eq_getElem hk, hf, hm, hw, by rw [e0]; exact hat, htk, ?_⟩
  have hother : ∀ a, a < bs.length → a ≠ i → takeP (bs[a]?.getD []) bs[i][k].1 = bs[a]?.getD [] := by
    intro a ha hne
    refine take_none fun y hy he => hne ?_
    rw [List.getElem?_eq_getElem ha, Option.getD_some] at hy
    exact ids_bin hn ha hi hy hmem he
  have hm1 : m.1 = bs[i][k].1 := by rw [hm]
  have hm2 : m.2.toNat = j := by rw [hm]; rfl
  unfold doP putAt
  rw [hm1, hm2, htk, e0]
  have hmap : bs.map (takeP · bs[i][k].1) = bs.set i (bs[i].eraseIdx k) := by
    refine List.ext_getElem? fun a => ?_
    rw [List.getElem?_map, List.getElem?_set]
    by_cases ea : i = a
    · subst ea
      rw [if_pos rfl, if_pos hi, List.getElem?_eq_getElem hi, Option.map_some, take_erase hpi hk]
    · rw [if_neg ea]
      rcases Nat.lt_or_ge a bs.length with h1 | h1
      · have := hother a h1 (fun h => ea h.symm)
        rw [List.getElem?_eq_getElem h1, Option.getD_some] at this
        rw [List.getElem?_eq_getElem h1, Option.map_some, this]
      · rw [List.getElem?_eq_none h1]; rfl
  rw [hmap]
  have : (bs.set i (bs[i].eraseIdx k))[j]? = bs[j]? := List.getElem?_set_ne (by omega)
  rw [this]

section
variable {room : List Int} {bs : List (List Tk)} {m : Int × Int} {i k j : Nat} {t : Tk}
theorem Step.perm (h : Step room bs m i k j t) : (doP bs m).flatten.Perm bs.flatten := by
  have hi := h.hi
  have hj : j < bs.length := Nat.lt_trans h.hj hi
  rw [h.out]
  obtain ⟨hk, hkt⟩ := List.getElem?_eq_some_iff.1 h.hk
  have p1 := flat_set (bs := bs.set i ((bs[i]?.getD []).eraseIdx k)) (i := j) (c := bs[j]?.getD [] ++ [t]) (by rw [List.length_set]; exact hj)
  have p2 := flat_at (bs := bs.set i ((bs[i]?.getD []).eraseIdx k)) (i := j) (by rw [List.length_set]; exact hj)
  rw [List.getElem?_set_ne (by have := h.hj; omega)] at p2
  have p3 := flat_set (bs := bs) (i := i) (c := (bs[i]?.getD []).eraseIdx k) hi
  have p4 := flat_at (bs := bs) (i := i) hi
  have p5 := erase_perm hk
  rw [hkt] at p5
  refine p1.trans ?_
  refine List.Perm.trans ?_ p4.symm
  refine List.Perm.trans ?_ ((p5.append_right _).symm)
  rw [List.cons_append]
  refine List.Perm.trans ?_ (List.Perm.cons t p3)
  refine List.Perm.trans ?_ (List.Perm.cons t p2.symm)
  rw [List.append_assoc]
  exact List.perm_middle
theorem Step.len (h : Step room bs m i k j t) : (doP bs m).length = bs.length := by rw [h.out]; simp
end
theorem add3_mono {a b c : List Int} (h : ∀ x, x < 3 → 0 ≤ c[x]?.getD 0) (hf : fits3 (add3 a c) b = true) : fits3 a b = true := by
  rw [fits3_iff] at hf ⊢
  intro x hx
  have := hf x hx
  rw [add3_at hx] at this
  have := h x hx
  omega
theorem fold_add (ts : List Tk) : ∀ (s : List Int) (x : Nat), x < 3 → (ts.foldl (fun s t => add3 s t.2) s)[x]?.getD 0 = s[x]?.getD 0 + ((ts.map (fun t => t.2[x]?.getD 0)).sum) := by
  induction ts with
  | nil => intro s x _; simp
  | cons t ts ih =>
    intro s x hx
    rw [List.foldl_cons, ih _ x hx, add3_at hx, List.map_cons, List.sum_cons]
    omega
theorem load_sum (ts : List Tk) {x : Nat} (hx : x < 3) : (loadP ts)[x]?.getD 0 = (ts.map (fun t => t.2[x]?.getD 0)).sum := by
  unfold loadP
  rw [fold_add ts _ x hx]
  match x, hx with
  | 0, _ => simp
  | 1, _ => simp
  | 2, _ => simp
theorem perm_sum {a b : List Int} (h : a.Perm b) : a.sum = b.sum := by
  induction h with
  | nil => rfl
  | cons x _ ih => simp [ih]
  | swap x y l => simp; omega
  | trans _ _ h1 h2 => exact h1.trans h2
theorem load_perm {a b : List Tk} (h : a.Perm b) {x : Nat} (hx : x < 3) : (loadP a)[x]?.getD 0 = (loadP b)[x]?.getD 0 := by
  rw [load_sum a hx, load_sum b hx]
  exact perm_sum (h.map _)
theorem load_snoc (ts : List Tk) (t : Tk) : loadP (ts ++ [t]) = add3 (loadP ts) t.2 := by simp [loadP, List.foldl_append]
theorem load_erase {b : List Tk} {k : Nat} {t : Tk} (hk : b[k]? = some t) (ht : ∀ x, x < 3 → 0 ≤ t.2[x]?.getD 0) {room : List Int} (hf : fits3 (loadP b) room = true) : fits3 (loadP (b.eraseIdx k)) room = true := by
  obtain ⟨hk', rfl⟩ := List.getElem?_eq_some_iff.1 hk
  rw [fits3_iff] at hf ⊢
  intro x hx
  have h1 := hf x hx
  have h2 := load_perm (erase_perm hk') hx
  rw [load_sum (b[k] :: b.eraseIdx k) hx, List.map_cons, List.sum_cons, ← load_sum (b.eraseIdx k) hx] at h2
  have := ht x hx
  omega
theorem tasksOk_perm {room : List Int} {a b : List Tk} (h : a.Perm b) (hb : tasksOk room b = true) : tasksOk room a = true := by
  simp only [tasksOk, Bool.and_eq_true, decide_eq_true_eq] at hb ⊢
  refine ⟨⟨⟨hb.1.1.1, by rw [h.length_eq]; exact hb.1.1.2⟩, ?_⟩, ((h.map _).nodup_iff).2 hb.2⟩
  rw [List.all_eq_true] at *
  exact fun x hx => hb.1.2 x (h.subset hx)
theorem tasksOk_vec {room : List Int} {ts : List Tk} (h : tasksOk room ts = true) {t : Tk} (ht : t ∈ ts) : vecOk t.2 = true := by
  simp only [tasksOk, Bool.and_eq_true, decide_eq_true_eq, List.all_eq_true] at h
  have := h.1.2 t ht
  simp only [taskOk, vecFits, Bool.and_eq_true] at this
  exact this.2.1.1
theorem bins_load {room : List Int} {bs : List (List Tk)} (h : binsOk room bs = true) {i : Nat} (hi : i < bs.length) : fits3 (loadP (bs[i]?.getD [])) room = true := by
  simp only [binsOk, Bool.and_eq_true, List.all_eq_true] at h
  rw [List.getElem?_eq_getElem hi]
  exact h.2 _ (List.getElem_mem hi)
/-- Valid nodes, by their parts. -/
theorem binsOk_iff {room : List Int} {bs : List (List Tk)} : binsOk room bs = true ↔ bs.length ≤ 14 ∧ tasksOk room bs.flatten = true ∧ ∀ i, i < bs.length → fits3 (loadP (bs[i]?.getD [])) room = true := by
  constructor
  · intro h
    refine ⟨?_, ?_, fun i hi => bins_load h hi⟩
    · simp only [binsOk, Bool.and_eq_true, decide_eq_true_eq] at h; exact h.1.1
    · simp only [binsOk, Bool.and_eq_true, decide_eq_true_eq] at h; exact h.1.2
  · rintro ⟨h1, h2, h3⟩
    simp only [binsOk, Bool.and_eq_true, decide_eq_true_eq, List.all_eq_true]
    refine ⟨⟨h1, h2⟩, fun b hb => ?_⟩
    obtain ⟨i, hi, rfl⟩ := List.getElem_of_mem hb
    have := h3 i hi
    rwa [List.getElem?_eq_getElem hi] at this
section
variable {room : List Int} {bs : List (List Tk)} {m : Int × Int} {i k j : Nat} {t : Tk}
theorem Step.mem (h : Step room bs m i k j t) : t ∈ bs.flatten := by
  obtain ⟨hk, e⟩ := List.getElem?_eq_some_iff.1 h.hk
  have hi := h.hi
  refine List.mem_flatten.2 ⟨bs[i]?.getD [], ?_, by rw [← e]; exact List.getElem_mem hk⟩
  rw [List.getElem?_eq_getElem hi]
  exact List.getElem_mem hi
theorem Step.ok (h : Step room bs m i k j t) (hb : binsOk room bs = true) : binsOk room (doP bs m) = true := by
  obtain ⟨h1, h2, h3⟩ := binsOk_iff.1 hb
  refine binsOk_iff.2 ⟨by rw [h.len]; exact h1, tasksOk_perm h.perm h2, fun a ha => ?_⟩
  rw [h.len] at ha
  rw [h.out, List.getElem?_set]
  by_cases ej : j = a
  · subst ej
    rw [if_pos rfl, if_pos (by simpa using ha), Option.getD_some, load_snoc]
    exact h.fits
  · rw [if_neg ej, List.getElem?_set]
    by_cases ei : i = a
    · subst ei
      rw [if_pos rfl, if_pos ha, Option.getD_some]
      exact load_erase h.hk (fun x _ => (vecOk_bd (tasksOk_vec h2 h.mem) x).1) (h3 _ ha)
    · rw [if_neg ei]
      exact h3 a ha
theorem Step.can (h : Step room bs m i k j t) : canP room bs m = true := by
  have hm1 : m.1 = t.1 := by rw [h.mv]
  have hm2 : m.2 = (j : Int) := by rw [h.mv]
  have hi := h.hi
  have hj := h.hj
  unfold canP
  rw [hm1, hm2, h.where_, h.taken, Int.toNat_natCast, h.fits]
  have e1 : inR 0 ((bs.length : Int) - 1) (j : Int) = true := inR_iff.2 ⟨by omega, by omega⟩
  have e2 : ((j : Int) == (i : Int)) = false := by simpa using (show ¬ (j : Int) = (i : Int) by omega)
  rw [e1, e2]
  simp
/-- Each task stays in its node, or goes to an earlier one. -/
theorem Step.early (h : Step room bs m i k j t) (a : Nat) (y : Tk) (hy : y ∈ bs[a]?.getD []) : ∃ b, b ≤ a ∧ y ∈ (doP bs m)[b]?.getD [] := by
  have hi := h.hi
  have hj := h.hj
  rw [h.out]
  have ha : a < bs.length := by
    rcases Nat.lt_or_ge a bs.length with h1 | h1
    · exact h1
    · rw [List.getElem?_eq_none h1] at hy; simp at hy
  by_cases ei : i = a
  · subst ei
    obtain ⟨hk, e⟩ := List.getElem?_eq_some_iff.1 h.hk
    rcases List.mem_cons.1 ((erase_perm hk).subset hy) with hyt | hye
    · refine ⟨j, by omega, ?_⟩
      rw [List.getElem?_set_self (by rw [List.length_set]; omega), Option.getD_some, hyt, e]
      simp
    · refine ⟨i, Nat.le_refl _, ?_⟩
      rw [List.getElem?_set_ne (by omega), List.getElem?_set_self hi, Option.getD_some]
      exact hye
  · refine ⟨a, Nat.le_refl _, ?_⟩
    rw [List.getElem?_set]
    by_cases ej : j = a
    · subst ej
      rw [if_pos rfl, if_pos (by rw [List.length_set]; exact ha), Option.getD_some]
      exact List.mem_append_left _ hy
    · rw [if_neg ej, List.getElem?_set_ne ei]
      exact hy
end
/-- Gathering, all of it. -/
theorem gath_facts {room : List Int} : ∀ (q : Nat) (bs : List (List Tk)), binsOk room bs = true → binsOk room (gathP room q bs) = true ∧ (gathP room q bs).length = bs.length ∧ (gathP room q bs).flatten.Perm bs.flatten ∧ (∀ (a : Nat) (y : Tk), y ∈ bs[a]?.getD [] → ∃ b : Nat, b ≤ a ∧ y ∈ (gathP room q bs)[b]?.getD []) ∧ mvsP room (planP room q bs) bs = gathP room q bs ∧ (planP room q bs).length ≤ q
  | 0, bs, hb => ⟨hb, rfl, List.Perm.refl _, fun a y hy => ⟨a, Nat.le_refl _, hy⟩, rfl, Nat.le_refl _⟩
  | q + 1, bs, hb => by
    unfold gathP planP
    cases h : nextP room bs with
    | none => exact ⟨hb, rfl, List.Perm.refl _, fun a y hy => ⟨a, Nat.le_refl _, hy⟩, rfl, by simp⟩
    | some m =>
      obtain ⟨i, k, j, t, hs⟩ := next_step hb h
      obtain ⟨f1, f2, f3, f4, f5, f6⟩ := gath_facts q (doP bs m) (hs.ok hb)
      refine ⟨f1, f2.trans hs.len, f3.trans hs.perm, fun a y hy => ?_, ?_, by simp only [List.length_cons]; omega⟩
      · obtain ⟨b, hb1, hb2⟩ := hs.early a y hy
        obtain ⟨c, hc1, hc2⟩ := f4 b y hb2
        exact ⟨c, by omega, hc2⟩
      · dsimp only
        rw [mvsP, if_pos hs.can, f5]
/-- The reference's two ways through: the plan, done, is the gathering. -/
theorem moves_plan {room : List Int} {bs : List (List Tk)} {most : Int} (hb : binsOk room bs = true) (hm : inR 0 20 most = true) : movesP room bs (gplanP room bs most) = gathP room most.toNat bs := by
  obtain ⟨_, _, _, _, f5, f6⟩ := gath_facts (room := room) most.toNat bs hb
  have := inR_iff.1 hm
  have e : gplanP room bs most = planP room most.toNat bs := if_pos ⟨hb, hm⟩
  rw [e]
  unfold movesP
  rw [if_pos ⟨hb, by omega⟩, f5]

/-! ### A request, done -/
/-- The tasks of the open nodes. -/
def openB (us : List Un) : List (List Tk) := (us.filter (·.1)).map (·.2)
/-- The open nodes get other tasks, one after the other. -/
def backU : List Un → List (List Tk) → List Un
  | [], _ => []
  | u :: us, bs => if u.1 = true then (true, bs.head?.getD []) :: backU us bs.tail else u :: backU us bs
/-- l32Gather. -/
def gatherU (room : List Int) (us : List Un) (most : Int) : List Un := backU us (gathP room most.toNat (openB us))
/-- RequestDo. -/
def reqP (room : List Int) (us : List Un) (r : Rq) : List Int × List Un × Int :=
  if clOk room us = true then
    (if rqOk r = true then
      (if r.kind = 1 then cavP room us r.id r.xs r.grant
       else if r.kind = 2 then depP room us r.num
       else if r.kind = 3 then opnP room us r.num true
       else if r.kind = 4 then opnP room us r.num false
       else (room, gatherU room us r.num, 0))
     else (room, us, 1))
  else ([], [], 1)
end Go.Proofs.YtdgeicdiiakhjaaGreat
