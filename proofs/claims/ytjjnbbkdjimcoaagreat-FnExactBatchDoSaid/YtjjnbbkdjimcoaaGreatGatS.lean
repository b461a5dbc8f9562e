/- Words: a cluster of the call's own, whose units' rows may be shared. Walk: l32Gather of the reference. -/
import Derived.Test.YtjjnbbkdjimcoaaGreatJ17
import Derived.Test.YtjjnbbkdjimcoaaGreatDone
namespace Go.Proofs.YtjjnbbkdjimcoaaGreat
set_option linter.unusedSimpArgs false
set_option linter.unusedVariables false
open Go Go.RowKit
attribute [local go_sem ↓] Go.wp_at_zero Go.wp_at_succ

/-- The cells of units; each row of tasks is the call's own. -/
def UnT (w : World) (base n : Nat) (vs : List Value) (us : List Un) : Prop :=
  us.length = n ∧ vs.length = n * 2 ∧ ∀ j, j < n → ∃ A m c vt, vs[j * 2]? = some (.bool (us[j]?.getD (false, [])).1) ∧ vs[j * 2 + 1]? = some (.slice A m c) ∧ w.ownsRow base 43 2 (.slice A m c) m vt ∧ NdR w base m vt (us[j]?.getD (false, [])).2
/-- A cluster of the call's own. -/
def OwnCW (w : World) (base : Nat) (v1 v2 : Value) (m1 m2 : Nat) (room : List Int) (us : List Un) : Prop := w.ownsRow base 3 1 v1 m1 (room.map (Value.int .i64)) ∧ ∃ vs, w.ownsRow base 72 2 v2 m2 vs ∧ UnT w base m2 vs us
section
variable {w w' : World} {base base' n m1 m2 : Nat} {v1 v2 : Value} {vs : List Value} {tk : Nat → Value} {us : List Un} {room : List Int}
theorem UnT.of (h : NdUR w base n vs tk us) : UnT w base n vs us := ⟨h.1, h.2.1, fun j hj => by
  obtain ⟨h1, h2, A, m, c, vt, h3, h4, h5⟩ := h.2.2.1 j hj
  exact ⟨A, m, c, vt, h1, by rw [h2, h3], h4, h5⟩⟩
theorem UnT.keepTI (h : UnT w base n vs us) (hk : KeepTI w w') : UnT w' base n vs us := ⟨h.1, h.2.1, fun j hj => by
  obtain ⟨A, m, c, vt, h1, h2, h3, h4⟩ := h.2.2 j hj
  exact ⟨A, m, c, vt, h1, h2, own_keepTI h3 (.inr rfl) hk, h4.keepTI hk⟩⟩
theorem UnT.low (h : UnT w base n vs us) (hb : base' ≤ base) : UnT w base' n vs us := ⟨h.1, h.2.1, fun j hj => by
  obtain ⟨A, m, c, vt, h1, h2, h3, h4⟩ := h.2.2 j hj
  exact ⟨A, m, c, vt, h1, h2, own_lo h3 hb, h4.low hb⟩⟩
theorem NdR.keepR {ts : List Tk} (h : NdR w base n vs ts) (hk : ∀ b, base ≤ b → b < w.heap.size → w'.heap[b]? = w.heap[b]?) : NdR w' base n vs ts := ⟨h.1, h.2.1, fun j hj => by
  obtain ⟨A, m, c, h1, h2, h3⟩ := h.2.2 j hj
  exact ⟨A, m, c, h1, h2, own_keep h3 (fun b hb => hk b (h3.lt b hb).1 (h3.lt b hb).2)⟩⟩
theorem UnT.keepR (h : UnT w base n vs us) (hk : ∀ b, base ≤ b → b < w.heap.size → w'.heap[b]? = w.heap[b]?) : UnT w' base n vs us := ⟨h.1, h.2.1, fun j hj => by
  obtain ⟨A, m, c, vt, h1, h2, h3, h4⟩ := h.2.2 j hj
  exact ⟨A, m, c, vt, h1, h2, own_keep h3 (fun b hb => hk b (h3.lt b hb).1 (h3.lt b hb).2), h4.keepR hk⟩⟩
theorem UnT.put {j m c : Nat} {A : Option Addr} {vt : List Value} {ts : List Tk} (h : UnT w base n vs us) (hj : j < n) (ho : w.ownsRow base 43 2 (.slice A m c) m vt) (hn : NdR w base m vt ts) :
    UnT w base n (vs.set (j * 2 + 1) (.slice A m c)) (us.set j ((us[j]?.getD (false, [])).1, ts)) := by
  have hl := h.1
  have hv := h.2.1
  refine ⟨by rw [List.length_set]; exact hl, by rw [List.length_set]; exact hv, fun i hi => ?_⟩
  obtain ⟨A', m', c', vt', e1, e2, e3, e4⟩ := h.2.2 i hi
  by_cases e : i = j
  · subst e
    have g3 : (us.set i ((us[i]?.getD (false, [])).1, ts))[i]? = some ((us[i]?.getD (false, [])).1, ts) := List.getElem?_set_self (by omega)
    exact ⟨A, m, c, vt, by rw [List.getElem?_set_ne (by omega), g3]; exact e1, List.getElem?_set_self (by omega), ho, by rw [g3]; exact hn⟩
  · have g3 : (us.set j ((us[j]?.getD (false, [])).1, ts))[i]? = us[i]? := List.getElem?_set_ne (fun x => e x.symm)
    exact ⟨A', m', c', vt', by rw [List.getElem?_set_ne (by omega), g3]; exact e1, by rw [List.getElem?_set_ne (by omega)]; exact e2, e3, by rw [g3]; exact e4⟩
theorem UnT.cells (h : UnT w base n vs us) : UnCells w w.heap.size vs us := ⟨by rw [h.2.1, h.1], fun j hj => by
  obtain ⟨A, m, c, vt, h1, h2, h3, h4⟩ := h.2.2 j (by rw [← h.1]; exact hj)
  exact ⟨A, m, c, h1, h2, own_cap' h3, h4.rd h3⟩⟩
theorem OwnCW.of (h : OwnCR w base v1 v2 m1 m2 room us) : OwnCW w base v1 v2 m1 m2 room us := by
  obtain ⟨h1, vs, tk, h2, h3⟩ := h
  exact ⟨h1, vs, h2, UnT.of h3⟩
theorem OwnCW.low (h : OwnCW w base v1 v2 m1 m2 room us) (hb : base' ≤ base) : OwnCW w base' v1 v2 m1 m2 room us := by
  obtain ⟨h1, vs, h2, h3⟩ := h
  exact ⟨own_lo h1 hb, vs, own_lo h2 hb, h3.low hb⟩
theorem OwnCW.keepTU (h : OwnCW w base v1 v2 m1 m2 room us) (hk : KeepTU w w') : OwnCW w' base v1 v2 m1 m2 room us := by
  obtain ⟨h1, vs, h2, h3⟩ := h
  exact ⟨own_keepTI h1 (.inl rfl) hk.ti, vs, own_keepB h2 (fun b cs _ hc => hk b ⟨_, cs, .inr (.inr rfl), hc⟩), h3.keepTI hk.ti⟩
theorem OwnCW.keepR (h : OwnCW w base v1 v2 m1 m2 room us) (hk : ∀ b, base ≤ b → b < w.heap.size → w'.heap[b]? = w.heap[b]?) : OwnCW w' base v1 v2 m1 m2 room us := by
  obtain ⟨h1, vs, h2, h3⟩ := h
  exact ⟨own_keep h1 (fun b hb => hk b (h1.lt b hb).1 (h1.lt b hb).2), vs, own_keep h2 (fun b hb => hk b (h2.lt b hb).1 (h2.lt b hb).2), h3.keepR hk⟩
theorem OwnCW.up (h : OwnCW w base v1 v2 m1 m2 room us) (hb : Below w.heap.size w w') : OwnCW w' base v1 v2 m1 m2 room us := h.keepR (fun b _ hlt => hb.block b hlt)
theorem OwnCW.rd {c1 c2 : Nat} {A1 A2 : Option Addr} (h : OwnCW w base (.slice A1 m1 c1) (.slice A2 m2 c2) m1 m2 room us) : RdC w A1 A2 m1 m2 room us := by
  obtain ⟨h1, vs, h2, h3⟩ := h
  exact ⟨own_rdI h1 (own_le h1), RdN.of_own h2 h3.cells (Nat.le_refl _) (own_le h2)⟩
theorem OwnCW.len {c1 c2 : Nat} {A1 A2 : Option Addr} (h : OwnCW w base (.slice A1 m1 c1) (.slice A2 m2 c2) m1 m2 room us) : room.length = m1 ∧ us.length = m2 ∧ m1 ≤ c1 ∧ m2 ≤ c2 := by
  obtain ⟨h1, vs, h2, h3⟩ := h
  exact ⟨own_len h1, h3.1, own_cap' h1, own_cap' h2⟩
end
theorem openB_take {us : List Un} {k : Nat} (h : k < us.length) : openB (us.take (k + 1)) = openB (us.take k) ++ (if (us[k]?.getD (false, [])).1 = true then [(us[k]?.getD (false, [])).2] else []) := by
  unfold openB
  rw [List.take_succ_eq_append_getElem h, List.filter_append, List.map_append, List.getElem?_eq_getElem h, Option.getD_some]
  congr 1
  by_cases e : us[k].1 = true
  · rw [if_pos e]; simp [e]
  · rw [if_neg e]; simp [e]
theorem openB_le (us : List Un) : (openB us).length ≤ us.length := by unfold openB; rw [List.length_map]; exact List.length_filter_le _ _

end Go.Proofs.YtjjnbbkdjimcoaaGreat
