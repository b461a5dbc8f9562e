/- Several texts in one. -/
import Derived.Test.YtdgeicdiiakhjaaGreatW11
import Derived.Test.YtdgeicdiiakhjaaGreatW6
import Derived.Test.YtdgeicdiiakhjaaGreatW7
namespace Go.Proofs.YtdgeicdiiakhjaaGreat
open Go Go.RowKit
attribute [local go_sem ↓] Go.wp_at_zero Go.wp_at_succ

/-- A node that is open, or closed, and has room. -/
def atB (room xs : List Int) (op : Bool) (u : Un) : Bool := (u.1 == op) && fits3 (add3 (loadP u.2) xs) room
/-- l21At. -/
def cAtP (room : List Int) (us : List Un) (xs : List Int) (op : Bool) : Int := idxP (atB room xs op) us
theorem clOk_vecs {room : List Int} {us : List Un} (h : clOk room us = true) : vecOk room = true ∧ ∀ u ∈ us, u.2.length ≤ 14 ∧ ∀ t ∈ u.2, vecOk t.2 = true := by
  obtain ⟨_, _, _, f4⟩ := clOk_facts h
  simp only [clOk, binsOk, tasksOk, Bool.and_eq_true, decide_eq_true_eq, List.all_eq_true] at h
  obtain ⟨⟨_, ⟨_, ⟨⟨⟨h3, _⟩, h5⟩, _⟩⟩, _⟩, _⟩ := h
  simp only [roomOk, Bool.and_eq_true] at h3
  refine ⟨h3.1, fun u hu => ⟨(f4 u hu).1, fun t ht => ?_⟩⟩
  have := h5 t (List.mem_flatten.2 ⟨u.2, List.mem_map.2 ⟨u, hu, rfl⟩, ht⟩)
  simp only [taskOk, vecFits, Bool.and_eq_true] at this
  exact this.2.1.1

end Go.Proofs.YtdgeicdiiakhjaaGreat

namespace Go.Proofs.YtdgeicdiiakhjaaGreat
open Go Go.RowKit
attribute [local go_sem ↓] Go.wp_at_zero Go.wp_at_succ

theorem clOk_total {room : List Int} {us : List Un} (h : clOk room us = true) : (us.map (·.2)).flatten.length ≤ 14 := by
  simp only [clOk, binsOk, Bool.and_eq_true] at h
  exact tasksOk_len h.1.2.1.2
theorem idxP_or {α : Type} (p : α → Bool) (xs : List α) : idxP p xs = -1 ∨ ∃ k : Nat, idxP p xs = (k : Int) ∧ k < xs.length := by
  unfold idxP
  cases h : xs.findIdx? p with
  | none => exact .inl rfl
  | some i =>
    rw [List.findIdx?_eq_some_iff_getElem] at h
    obtain ⟨hi, _⟩ := h
    exact .inr ⟨i, rfl, hi⟩
/-- One unit's row of tasks has grown. -/
theorem NdUR.grow {w w' : World} {base n j m c : Nat} {vs : List Value} {tk : Nat → Value} {us : List Un} {A : Option Addr} {vt : List Value} {ts : List Tk} (h : NdUR w base n vs tk us) (hj : j < n) (hg : w.grownBy w' (tk j).ownBlock)
    (ho : w'.ownsRow base 43 2 (.slice A m c) m vt) (hn : NdR w' base m vt ts) (hd : (Value.slice A m c).ownBlock = (tk j).ownBlock ∨ (Value.slice A m c).ownBlock = some w.heap.size) :
    NdUR w' base n (vs.set (j * 2 + 1) (.slice A m c)) (fun i => if i = j then .slice A m c else tk i) (us.set j ((us[j]?.getD (false, [])).1, ts)) := by
  have hl := h.2.1
  obtain ⟨_, _, Aj, mj, cj, vj, ej, oj, _⟩ := h.2.2.1 j hj
  refine ⟨by rw [List.length_set]; exact h.1, by rw [List.length_set]; exact hl, fun i hi => ?_, fun i i' hi hi' hii b hb1 hb2 => ?_⟩
  · obtain ⟨h1, h2, A', m', c', vt', h3, h4, h5⟩ := h.2.2.1 i hi
    by_cases e : i = j
    · subst e
      have g1 : (vs.set (i * 2 + 1) (.slice A m c))[i * 2]? = vs[i * 2]? := List.getElem?_set_ne (by omega)
      have g2 : (vs.set (i * 2 + 1) (.slice A m c))[i * 2 + 1]? = some (.slice A m c) := List.getElem?_set_self (by omega)
      have g3 : (us.set i ((us[i]?.getD (false, [])).1, ts))[i]? = some ((us[i]?.getD (false, [])).1, ts) := List.getElem?_set_self (by rw [h.1]; exact hi)
      dsimp only
      rw [g1, g2, g3, if_pos rfl]
      exact ⟨h1, rfl, A, m, c, vt, rfl, ho, hn⟩
    · have g1 : (vs.set (j * 2 + 1) (.slice A m c))[i * 2]? = vs[i * 2]? := List.getElem?_set_ne (by omega)
      have g2 : (vs.set (j * 2 + 1) (.slice A m c))[i * 2 + 1]? = vs[i * 2 + 1]? := List.getElem?_set_ne (by omega)
      have g3 : (us.set j ((us[j]?.getD (false, [])).1, ts))[i]? = us[i]? := List.getElem?_set_ne (fun x => e x.symm)
      dsimp only
      rw [g1, g2, g3, if_neg e]
      refine ⟨h1, h2, A', m', c', vt', h3, own_keep h4 (fun b hb => hg.block b (h4.lt b hb).2 (fun e' => h.2.2.2 i j hi hj e b (by rw [h3]; exact hb) e'.symm)), ?_⟩
      rw [ej] at hg
      exact h5.grown oj (by decide) hg
  · dsimp only at hb1 hb2
    have old : ∀ i, i < n → ∀ b, (tk i).ownBlock = some b → b < w.heap.size := fun i hi b hb => by
      obtain ⟨_, _, A', m', c', vt', h3, h4, _⟩ := h.2.2.1 i hi
      rw [h3] at hb
      exact (h4.lt b hb).2
    by_cases ei : i = j
    · have ej' : i' ≠ j := fun x => hii (by omega)
      rw [if_pos ei] at hb1
      rw [if_neg ej'] at hb2
      rcases hd with hd | hd
      · rw [hd] at hb1
        exact h.2.2.2 j i' hj hi' (fun x => ej' x.symm) b hb1 hb2
      · rw [hd] at hb1
        injection hb1 with hb1
        have := old i' hi' b hb2
        omega
    · rw [if_neg ei] at hb1
      by_cases ej' : i' = j
      · rw [if_pos ej'] at hb2
        rcases hd with hd | hd
        · rw [hd] at hb2
          exact h.2.2.2 i j hi hj ei b hb1 hb2
        · rw [hd] at hb2
          injection hb2 with hb2
          have := old i hi b hb1
          omega
      · rw [if_neg ej'] at hb2
        exact h.2.2.2 i i' hi hi' hii b hb1 hb2

theorem NdUR.old {w : World} {base n : Nat} {vs : List Value} {tk : Nat → Value} {us : List Un} (h : NdUR w base n vs tk us) : ∀ i, i < n → ∀ b, (tk i).ownBlock = some b → b < w.heap.size := fun i hi b hb => by
  obtain ⟨_, _, A', m', c', vt', h3, h4, _⟩ := h.2.2.1 i hi
  rw [h3] at hb
  exact (h4.lt b hb).2
section
variable {w w' w'' : World}
end

/-- The node of l21Arrive. -/
def arvAt (room : List Int) (us : List Un) (xs : List Int) (g : Bool) : Int := if cAtP room us xs true < 0 ∧ g = true then cAtP room us xs false else cAtP room us xs true
/-- l21Arrive: units, code. -/
def arvP (room : List Int) (us : List Un) (id : Int) (xs : List Int) (g : Bool) : List Un × Int :=
  if arvAt room us xs g < 0 ∨ (us.map (·.2)).flatten.length = 14 then (us, 3) else (us.set (arvAt room us xs g).toNat (true, (us[(arvAt room us xs g).toNat]?.getD (false, [])).2 ++ [(id, xs)]), 0)
section
variable {room : List Int} {us : List Un} {id : Int} {xs : List Int} {g : Bool} {k : Nat}
theorem arvAt_open (h : cAtP room us xs true = (k : Int)) : arvAt room us xs g = k := by unfold arvAt; rw [if_neg (by omega), h]
theorem arvAt_closed (h : cAtP room us xs true = -1) (h' : cAtP room us xs false = (k : Int)) : arvAt room us xs true = k := by unfold arvAt; rw [if_pos ⟨by omega, rfl⟩, h']
theorem arvAt_none (h : cAtP room us xs true = -1) : arvAt room us xs false = -1 := by unfold arvAt; rw [if_neg (by simp), h]
theorem arvAt_none' (h : cAtP room us xs true = -1) (h' : cAtP room us xs false = -1) : arvAt room us xs true = -1 := by unfold arvAt; rw [if_pos ⟨by omega, rfl⟩, h']
theorem arvP_none (h : arvAt room us xs g = -1) : arvP room us id xs g = (us, 3) := by unfold arvP; rw [if_pos (.inl (by omega))]
theorem arvP_full (h : (us.map (·.2)).flatten.length = 14) : arvP room us id xs g = (us, 3) := by unfold arvP; rw [if_pos (.inr h)]
theorem arvP_yes (h : arvAt room us xs g = (k : Int)) (h' : ¬ (us.map (·.2)).flatten.length = 14) : arvP room us id xs g = (us.set k (true, (us[k]?.getD (false, [])).2 ++ [(id, xs)]), 0) := by
  unfold arvP; rw [if_neg (by rw [h]; omega), h, Int.toNat_natCast]
end

end Go.Proofs.YtdgeicdiiakhjaaGreat

namespace Go.Proofs.YtdgeicdiiakhjaaGreat
open Go Go.RowKit
attribute [local go_sem ↓] Go.wp_at_zero Go.wp_at_succ

/-- ClusterArrive: room, units, code. -/
def cavP (room : List Int) (us : List Un) (id : Int) (xs : List Int) (g : Bool) : List Int × List Un × Int :=
  if clOk room us = true then (if tasksOk room [(id, xs)] = true then (if 0 ≤ whereP (us.map (·.2)) id then (room, us, 2) else (room, (arvP room us id xs g).1, (arvP room us id xs g).2)) else (room, us, 1)) else ([], [], 1)
section
variable {room : List Int} {us : List Un} {id : Int} {xs : List Int} {g : Bool} {k : Nat}
theorem cavP_bad (h : clOk room us = false) : cavP room us id xs g = ([], [], 1) := by unfold cavP; rw [if_neg (by rw [h]; simp)]
theorem cavP_task (h : clOk room us = true) (h' : tasksOk room [(id, xs)] = false) : cavP room us id xs g = (room, us, 1) := by unfold cavP; rw [if_pos h, if_neg (by rw [h']; simp)]
theorem cavP_twice (h : clOk room us = true) (h' : tasksOk room [(id, xs)] = true) (hw : whereP (us.map (·.2)) id = (k : Int)) : cavP room us id xs g = (room, us, 2) := by unfold cavP; rw [if_pos h, if_pos h', if_pos (by omega)]
theorem cavP_new (h : clOk room us = true) (h' : tasksOk room [(id, xs)] = true) (hw : whereP (us.map (·.2)) id = -1) : cavP room us id xs g = (room, (arvP room us id xs g).1, (arvP room us id xs g).2) := by unfold cavP; rw [if_pos h, if_pos h', if_neg (by omega)]
theorem tkOne {w : World} {B m c : Nat} {A : Option Addr} (h : RdI w B A m xs) (hc : m ≤ c) : TkCells w B [.int .i64 id, .slice A m c] [(id, xs)] := ⟨rfl, fun j hj => by
  have e : j = 0 := by simp at hj; exact hj
  subst e
  exact ⟨A, m, c, rfl, rfl, hc, h⟩⟩
theorem whereP_or' (bs : List (List Tk)) (id : Int) : whereP bs id = -1 ∨ ∃ k : Nat, whereP bs id = (k : Int) := by
  unfold whereP
  cases h : bs.findIdx? (fun b => hasP b id) with
  | none => exact .inl rfl
  | some i => exact .inr ⟨i, rfl⟩
end

end Go.Proofs.YtdgeicdiiakhjaaGreat

namespace Go.Proofs.YtdgeicdiiakhjaaGreat
open Go Go.RowKit
attribute [local go_sem ↓] Go.wp_at_zero Go.wp_at_succ

/-- The tasks but those with a number. -/
def takeP (ts : List Tk) (id : Int) : List Tk := ts.filter (fun t => !(t.1 == id))
theorem takeP_yes {ts : List Tk} {id : Int} {k : Nat} (h : k < ts.length) (he : (ts[k]?.getD (0, [])).1 = id) : takeP (ts.take (k + 1)) id = takeP (ts.take k) id := by
  rw [List.getElem?_eq_getElem h] at he
  rw [takeP, List.take_succ_eq_append_getElem h, List.filter_append]
  simp only [Option.getD_some] at he
  simp [takeP, he]
theorem takeP_no {ts : List Tk} {id : Int} {k : Nat} (h : k < ts.length) (he : (ts[k]?.getD (0, [])).1 ≠ id) : takeP (ts.take (k + 1)) id = takeP (ts.take k) id ++ [((ts[k]?.getD (0, [])).1, (ts[k]?.getD (0, [])).2)] := by
  rw [List.getElem?_eq_getElem h] at he ⊢
  rw [takeP, List.take_succ_eq_append_getElem h, List.filter_append]
  simp only [Option.getD_some] at he ⊢
  simp [takeP, he]
theorem takeP_len (ts : List Tk) (id : Int) : (takeP ts id).length ≤ ts.length := List.length_filter_le _ _
theorem takeP_mem {ts : List Tk} {id : Int} {t : Tk} (h : t ∈ takeP ts id) : t ∈ ts := (List.mem_filter.1 h).1

end Go.Proofs.YtdgeicdiiakhjaaGreat
