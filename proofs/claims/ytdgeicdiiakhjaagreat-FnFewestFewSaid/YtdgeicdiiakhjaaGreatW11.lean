/- Several texts in one. -/
import Derived.Test.YtdgeicdiiakhjaaGreatW10
import Derived.Test.YtdgeicdiiakhjaaGreatW9
namespace Go.Proofs.YtdgeicdiiakhjaaGreat
open Go Go.RowKit
attribute [local go_sem ↓] Go.wp_at_zero Go.wp_at_succ

theorem snd_at {us : List Un} (k : Nat) : (us.map (·.2))[k]?.getD [] = (us[k]?.getD (false, [])).2 := by
  rw [List.getElem?_map]
  cases us[k]? <;> rfl
theorem snd_succ {us : List Un} {k : Nat} (h : k < us.length) : (us.take (k + 1)).map (·.2) = (us.take k).map (·.2) ++ [(us[k]?.getD (false, [])).2] := by
  rw [List.take_succ_eq_append_getElem h, List.map_append, List.getElem?_eq_getElem h]
  rfl

theorem all_un {us : List Un} {p : Un → Bool} : us.all p = true ↔ ∀ j, j < us.length → p (us[j]?.getD (false, [])) = true := by
  rw [List.all_eq_true]
  constructor
  · intro h j hj; exact h _ (un_mem hj)
  · intro h x hx
    obtain ⟨j, hj, rfl⟩ := List.getElem_of_mem hx
    have := h j hj
    rwa [List.getElem?_eq_getElem hj] at this
def unOk (u : Un) : Bool := u.1 || u.2.isEmpty
theorem clOk_unfold (room : List Int) (us : List Un) : clOk room us = (decide (1 ≤ us.length ∧ us.length ≤ 10) && binsOk room (us.map (·.2)) && us.all unOk) := rfl
theorem inR_len (n : Nat) : inR 1 10 (n : Int) = decide (1 ≤ n ∧ n ≤ 10) := by
  rw [Bool.eq_iff_iff, inR_iff, decide_eq_true_iff]; omega
theorem flat_len {us : List Un} (h : ShU us) : ((us.map (·.2)).flatten).length ≤ 1048576 := by
  have key : ∀ (l : List Un), (∀ u ∈ l, u.2.length ≤ 1000) → ((l.map (·.2)).flatten).length ≤ 1000 * l.length := by
    intro l
    induction l with
    | nil => simp
    | cons u l ih =>
      intro hh
      have := ih (fun u hu => hh u (by simp [hu]))
      have := hh u (by simp)
      simp only [List.map_cons, List.flatten_cons, List.length_append, List.length_cons]
      omega
  have := key us (fun u hu => (h.2 u hu).1)
  have := h.1
  omega

theorem ShU.v {us : List Un} (h : ShU us) : ShV us := ⟨by have := h.1; omega, flat_len h⟩

end Go.Proofs.YtdgeicdiiakhjaaGreat

namespace Go.Proofs.YtdgeicdiiakhjaaGreat
open Go Go.RowKit
attribute [local go_sem ↓] Go.wp_at_zero Go.wp_at_succ

section
variable {w w' a b c : World}
end
end Go.Proofs.YtdgeicdiiakhjaaGreat

namespace Go.Proofs.YtdgeicdiiakhjaaGreat
open Go Go.RowKit
attribute [local go_sem ↓] Go.wp_at_zero Go.wp_at_succ

theorem un_succ {us : List Un} {k : Nat} (h : k < us.length) : us.take (k + 1) = us.take k ++ [((us[k]?.getD (false, [])).1, (us[k]?.getD (false, [])).2)] := by
  rw [List.take_succ_eq_append_getElem h, List.getElem?_eq_getElem h]
  rfl

end Go.Proofs.YtdgeicdiiakhjaaGreat

namespace Go.Proofs.YtdgeicdiiakhjaaGreat
open Go Go.RowKit

/-- The cells of tasks; each need is a row of the call's own. -/
def NdR (w : World) (base n : Nat) (vs : List Value) (ts : List Tk) : Prop :=
  ts.length = n ∧ vs.length = n * 2 ∧ ∀ j, j < n → ∃ A m c, vs[j * 2]? = some (.int .i64 (ts[j]?.getD (0, [])).1) ∧ vs[j * 2 + 1]? = some (.slice A m c) ∧ w.ownsRow base 3 1 (.slice A m c) m ((ts[j]?.getD (0, [])).2.map (Value.int .i64))
/-- The cells of units; each row of tasks is the call's own; the rows lie in blocks that differ. -/
def NdUR (w : World) (base n : Nat) (vs : List Value) (tk : Nat → Value) (us : List Un) : Prop :=
  us.length = n ∧ vs.length = n * 2 ∧ (∀ j, j < n → vs[j * 2]? = some (.bool (us[j]?.getD (false, [])).1) ∧ vs[j * 2 + 1]? = some (tk j) ∧
    ∃ A m c vt, tk j = .slice A m c ∧ w.ownsRow base 43 2 (.slice A m c) m vt ∧ NdR w base m vt (us[j]?.getD (false, [])).2) ∧
  (∀ i j, i < n → j < n → i ≠ j → ∀ b, (tk i).ownBlock = some b → (tk j).ownBlock ≠ some b)
section
variable {w w' : World} {base base' n m1 m2 : Nat} {v v1 v2 : Value} {vs : List Value} {tk : Nat → Value} {ts : List Tk} {us : List Un} {room : List Int}
theorem NdR.keepTI (h : NdR w base n vs ts) (hk : KeepTI w w') : NdR w' base n vs ts := ⟨h.1, h.2.1, fun j hj => by
  obtain ⟨A, m, c, h1, h2, h3⟩ := h.2.2 j hj
  exact ⟨A, m, c, h1, h2, own_keepTI h3 (.inl rfl) hk⟩⟩
theorem NdR.low (h : NdR w base n vs ts) (hb : base' ≤ base) : NdR w base' n vs ts := ⟨h.1, h.2.1, fun j hj => by
  obtain ⟨A, m, c, h1, h2, h3⟩ := h.2.2 j hj
  exact ⟨A, m, c, h1, h2, own_lo h3 hb⟩⟩
theorem NdR.nil : NdR w base 0 [] [] := ⟨rfl, rfl, fun j hj => by omega⟩
theorem NdR.of {nd : Nat → Value} (h : NdTs w base n vs nd ts) (hl : vs.length = n * 2) : NdR w base n vs ts := ⟨h.1, hl, fun j hj => by
  obtain ⟨h1, h2, A, m, c, h3, h4⟩ := h.2.1 j hj
  exact ⟨A, m, c, h1, by rw [h2, h3], h4⟩⟩
theorem NdR.grown {row : Value} {k : Nat} {xs : List Value} {t : TypeId} {s : Nat} (h : NdR w base n vs ts) (ho : w.ownsRow base' t s row k xs) (ht : t ≠ 3) (hg : w.grownBy w' row.ownBlock) : NdR w' base n vs ts := ⟨h.1, h.2.1, fun j hj => by
  obtain ⟨A, m, c, h1, h2, h3⟩ := h.2.2 j hj
  exact ⟨A, m, c, h1, h2, own_keep h3 (fun b hb => hg.block b (h3.lt b hb).2 (fun e => own_types ho h3 ht e.symm hb))⟩⟩
theorem NdR.snoc {A : Option Addr} {m c : Nat} {id : Int} {xs : List Int} (h : NdR w base n vs ts) (hx : w.ownsRow base 3 1 (.slice A m c) m (xs.map (Value.int .i64))) : NdR w base (n + 1) (vs ++ [.int .i64 id, .slice A m c]) (ts ++ [(id, xs)]) := by
  have h1 := h.1
  have h2 := h.2.1
  refine ⟨by simp [h1], by simp [h2]; omega, fun j hj => ?_⟩
  by_cases e : j = n
  · subst e
    refine ⟨A, m, c, ?_, ?_, ?_⟩
    · rw [List.getElem?_append_right (by omega), List.getElem?_append_right (by omega), h1, h2, Nat.sub_self, Nat.sub_self]; rfl
    · rw [List.getElem?_append_right (by omega), h2, show j * 2 + 1 - j * 2 = 1 by omega]; rfl
    · rw [List.getElem?_append_right (by omega), h1, Nat.sub_self]; exact hx
  · obtain ⟨A', m', c', e1, e2, e3⟩ := h.2.2 j (by omega)
    exact ⟨A', m', c', by rw [List.getElem?_append_left (by omega), List.getElem?_append_left (by omega)]; exact e1, by rw [List.getElem?_append_left (by omega)]; exact e2, by rw [List.getElem?_append_left (by omega)]; exact e3⟩
theorem NdR.rd {A : Option Addr} {c : Nat} (h : NdR w base n vs ts) (ho : w.ownsRow base 43 2 (.slice A n c) n vs) : RdT w w.heap.size A n ts := by
  refine RdT.of_own ho (B := w.heap.size) ⟨by rw [h.2.1, h.1], fun j hj => ?_⟩ (Nat.le_refl _) (own_le ho)
  obtain ⟨A', m', c', e1, e2, e3⟩ := h.2.2 j (by rw [← h.1]; exact hj)
  exact ⟨A', m', c', e1, e2, own_cap' e3, own_rdI e3 (own_le e3)⟩

theorem NdUR.keepTI (h : NdUR w base n vs tk us) (hk : KeepTI w w') : NdUR w' base n vs tk us := ⟨h.1, h.2.1, fun j hj => by
  obtain ⟨h1, h2, A, m, c, vt, h3, h4, h5⟩ := h.2.2.1 j hj
  exact ⟨h1, h2, A, m, c, vt, h3, own_keepTI h4 (.inr rfl) hk, h5.keepTI hk⟩, h.2.2.2⟩
theorem NdUR.nil : NdUR w base 0 [] (fun _ => .slice none 0 0) [] := ⟨rfl, rfl, fun j hj => by omega, fun i j hi => by omega⟩
/-- One unit gets another row of tasks, in a block that no other unit's row has. -/
theorem NdUR.put {j m c : Nat} {A : Option Addr} {vt : List Value} (h : NdUR w base n vs tk us) (hj : j < n) (ho : w.ownsRow base 43 2 (.slice A m c) m vt) (hn : NdR w base m vt ts) (hd : ∀ i, i < n → i ≠ j → ∀ b, (tk i).ownBlock = some b → (Value.slice A m c).ownBlock ≠ some b) :
    NdUR w base n (vs.set (j * 2 + 1) (.slice A m c)) (fun i => if i = j then .slice A m c else tk i) (us.set j ((us[j]?.getD (false, [])).1, ts)) := by
  have hl := h.2.1
  refine ⟨by rw [List.length_set]; exact h.1, by rw [List.length_set]; exact hl, fun i hi => ?_, fun i i' hi hi' hii b hb1 hb2 => ?_⟩
  · obtain ⟨h1, h2, A', m', c', vt', h3, h4, h5⟩ := h.2.2.1 i hi
    by_cases e : i = j
    · subst e
      have g1 : (vs.set (i * 2 + 1) (.slice A m c))[i * 2]? = vs[i * 2]? := List.getElem?_set_ne (by omega)
      have g2 : (vs.set (i * 2 + 1) (.slice A m c))[i * 2 + 1]? = some (.slice A m c) := List.getElem?_set_self (by omega)
      have g3 : (us.set i ((us[i]?.getD (false, [])).1, ts))[i]? = some ((us[i]?.getD (false, [])).1, ts) := List.getElem?_set_self (by rw [h.1]; exact hi)
      dsimp only
      rw [g1, g2, g3, if_pos rfl]
      exact ⟨h1, rfl, A, m, c, vt, rfl, ho, hn⟩
    · have g1 : (vs.set (j * 2 + 1) (.slice A m c))[i * 2]? = vs[i * 2]? := List.getElem?_set_ne (by omega)
      have g2 : (vs.set (j * 2 + 1) (.slice A m c))[i * 2 + 1]? = vs[i * 2 + 1]? := List.getElem?_set_ne (by omega)
      have g3 : (us.set j ((us[j]?.getD (false, [])).1, ts))[i]? = us[i]? := List.getElem?_set_ne (fun x => e x.symm)
      dsimp only
      rw [g1, g2, g3, if_neg e]
      exact ⟨h1, h2, A', m', c', vt', h3, h4, h5⟩
  · dsimp only at hb1 hb2
    by_cases ei : i = j
    · have ej : i' ≠ j := fun x => hii (by omega)
      rw [if_pos ei] at hb1
      rw [if_neg ej] at hb2
      exact hd i' hi' ej b hb2 hb1
    · rw [if_neg ei] at hb1
      by_cases ej : i' = j
      · rw [if_pos ej] at hb2
        exact hd i hi ei b hb1 hb2
      · rw [if_neg ej] at hb2
        exact h.2.2.2 i i' hi hi' hii b hb1 hb2
/-- One unit is opened or closed. -/
theorem NdUR.open_ {j : Nat} {op : Bool} (h : NdUR w base n vs tk us) (hj : j < n) : NdUR w base n (vs.set (j * 2) (.bool op)) tk (us.set j (op, (us[j]?.getD (false, [])).2)) := by
  have hl := h.2.1
  refine ⟨by rw [List.length_set]; exact h.1, by rw [List.length_set]; exact hl, fun i hi => ?_, h.2.2.2⟩
  obtain ⟨h1, h2, A', m', c', vt', h3, h4, h5⟩ := h.2.2.1 i hi
  by_cases e : i = j
  · subst e
    have g1 : (vs.set (i * 2) (.bool op))[i * 2]? = some (.bool op) := List.getElem?_set_self (by omega)
    have g2 : (vs.set (i * 2) (.bool op))[i * 2 + 1]? = vs[i * 2 + 1]? := List.getElem?_set_ne (by omega)
    have g3 : (us.set i (op, (us[i]?.getD (false, [])).2))[i]? = some (op, (us[i]?.getD (false, [])).2) := List.getElem?_set_self (by rw [h.1]; exact hi)
    rw [g1, g2, g3]
    exact ⟨rfl, h2, A', m', c', vt', h3, h4, h5⟩
  · have g1 : (vs.set (j * 2) (.bool op))[i * 2]? = vs[i * 2]? := List.getElem?_set_ne (by omega)
    have g2 : (vs.set (j * 2) (.bool op))[i * 2 + 1]? = vs[i * 2 + 1]? := List.getElem?_set_ne (by omega)
    have g3 : (us.set j (op, (us[j]?.getD (false, [])).2))[i]? = us[i]? := List.getElem?_set_ne (fun x => e x.symm)
    rw [g1, g2, g3]
    exact ⟨h1, h2, A', m', c', vt', h3, h4, h5⟩
end
end Go.Proofs.YtdgeicdiiakhjaaGreat
