/- Plain law: each task counts in its zone. No program in sight. -/
import Derived.Test.YtgngmjlbeofjkaaSumOf
namespace Go.Proofs.Ytgngmjlbeofjkaa

theorem bump_at (c : List Int) (z : Int) (i : Nat) : (bump c z)[i]?.getD 0 = c[i]?.getD 0 + (if z.toNat = i ∧ i < c.length then 1 else 0) := by
  unfold bump
  rw [List.getElem?_set]
  by_cases e : z.toNat = i
  · subst e
    by_cases hl : z.toNat < c.length
    · simp [hl]
    · simp [hl]
  · simp [e]
theorem list_ext_getD {a b : List Int} (hl : a.length = b.length) (h : ∀ i : Nat, a[i]?.getD 0 = b[i]?.getD 0) : a = b := by
  apply List.ext_getElem? ; intro i
  have hi := h i
  by_cases h1 : i < a.length
  · have h2 : i < b.length := by omega
    rw [List.getElem?_eq_getElem h1, List.getElem?_eq_getElem h2] at hi ⊢
    simpa using hi
  · rw [List.getElem?_eq_none (by omega), List.getElem?_eq_none (by omega)]
theorem bump_comm (c : List Int) (y z : Int) : bump (bump c y) z = bump (bump c z) y := by
  refine list_ext_getD (by simp [bump_len]) (fun i => ?_)
  simp only [bump_at, bump_len]
  omega
theorem step_comm (bs : List (List Tk)) (zones c : List Int) (a b : Int) : stepC bs zones (stepC bs zones c a) b = stepC bs zones (stepC bs zones c b) a := by
  unfold stepC
  split <;> split <;> first | rfl | exact bump_comm _ _ _
theorem fold_step (bs : List (List Tk)) (zones : List Int) (x : Int) : ∀ (l c : List Int), l.foldl (stepC bs zones) (stepC bs zones c x) = stepC bs zones (l.foldl (stepC bs zones) c) x
  | [], _ => rfl
  | a :: l, c => by
    rw [List.foldl_cons, List.foldl_cons, step_comm, fold_step bs zones x l]
/-- A task's count comes last. -/
theorem counts_without {bs : List (List Tk)} {zones ids : List Int} {k : Nat} (h : k < ids.length) : countsP bs zones ids = stepC bs zones (countsP bs zones (ids.take k ++ ids.drop (k + 1))) (ids[k]?.getD 0) := by
  unfold countsP
  rw [List.foldl_append, ← fold_step, List.getElem?_eq_getElem h]
  conv => lhs; rw [← List.take_append_drop k ids, List.foldl_append, List.drop_eq_getElem_cons h, List.foldl_cons]
  rfl
theorem zonesOk_without {room : List Int} {bs : List (List Tk)} {zones ids : List Int} (k : Nat) (h : zonesOk room bs zones ids = true) : zonesOk room bs zones (ids.take k ++ ids.drop (k + 1)) = true := by
  have hs : (ids.take k ++ ids.drop (k + 1)).Sublist ids := by
    conv => rhs; rw [← List.take_append_drop k ids]
    exact List.Sublist.append (List.Sublist.refl _) (by rw [← List.drop_drop]; exact List.drop_sublist _ _)
  simp only [zonesOk, Bool.and_eq_true, decide_eq_true_eq] at h ⊢
  refine ⟨⟨h.1.1, ?_⟩, h.2.sublist hs⟩
  rw [List.all_eq_true] at *
  exact fun x hx => (List.all_eq_true.1 h.1.2) x (hs.subset hx)
end Go.Proofs.Ytgngmjlbeofjkaa
