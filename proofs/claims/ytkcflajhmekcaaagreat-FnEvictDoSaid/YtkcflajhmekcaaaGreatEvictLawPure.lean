/- Plain laws of evictions. No program in sight. -/
import Derived.Test.YtkcflajhmekcaaaGreatEvictCost
namespace Go.Proofs.YtkcflajhmekcaaaGreat

theorem tasksOk_part {room : List Int} {a b : List Tk} (h : tasksOk room b = true) (hs : a.Sublist b) : tasksOk room a = true := by
  simp only [tasksOk, Bool.and_eq_true, decide_eq_true_eq] at h ⊢
  refine ⟨⟨⟨h.1.1.1, by have := hs.length_le; omega⟩, ?_⟩, h.2.sublist (hs.map _)⟩
  rw [List.all_eq_true] at *
  exact fun x hx => h.1.2 x (hs.subset hx)
theorem evOk_tasks {room : List Int} {ts : List Tk} {rk : List Int} {t : Tk} {r : Int} (h : evOk room ts rk t r = true) : tasksOk room (ts ++ [t]) = true := by
  simp only [evOk, comeOk, Bool.and_eq_true] at h
  simpa using h.1.1.2.2
theorem binsOk_put {room : List Int} {ts : List Tk} {t : Tk} (h : tasksOk room (ts ++ [t]) = true) : binsOk room [ts ++ [t]] = fits3 (add3 (loadP ts) t.2) room := by
  simp [binsOk, h, loadP_snoc]
theorem binsOk_put_no {room : List Int} {ts : List Tk} {t : Tk} (h : fits3 (add3 (loadP ts) t.2) room = false) : binsOk room [ts ++ [t]] = false := by
  simp [binsOk, h, loadP_snoc]
theorem keptP_sub (ts : List Tk) (g : Nat → Bool) : ∀ n, n ≤ ts.length → (keptP ts g n).Sublist (ts.take n)
  | 0, _ => List.nil_sublist _
  | n + 1, h => by
    rw [keptP, List.take_add_one, List.getElem?_eq_getElem (by omega)]
    split
    · exact (keptP_sub ts g n (by omega)).trans (List.sublist_append_left _ _)
    · exact (keptP_sub ts g n (by omega)).append (List.Sublist.refl _)
theorem fitE_all (room : List Int) (ts : List Tk) (xs : List Int) : fitE room ts xs (fun _ => false) = fits3 (add3 (loadP ts) xs) room := by
  rw [fitE, keptP_all (fun _ _ => rfl) (Nat.le_refl _), List.take_length]
theorem listG_none {g : Nat → Bool} {n : Nat} : (listG g n).length = 0 ↔ ∀ j, j < n → g j = false := by
  rw [listG, List.length_map, List.length_eq_zero_iff, List.filter_eq_nil_iff]
  simp

/-- Who has room makes nobody leave. -/
theorem evNone {room : List Int} {ts : List Tk} {rk : List Int} {t : Tk} {r : Int} {g : Nat → Bool} (h : evP room ts rk t r = some g) : binsOk room [ts ++ [t]] = decide ((listG g ts.length).length = 0) := by
  obtain ⟨h1, h2⟩ := evP_facts h
  rw [binsOk_put (evOk_tasks h1), ← fitE_all]
  cases hf : fitE room ts t.2 (fun _ => false) with
  | true =>
    have := goneP_none_iff (rk := rk) (r := r) hf
    rw [h2] at this
    injection this with this
    subst this
    rw [eq_comm, decide_eq_true_iff, listG_none]
    exact fun _ _ => rfl
  | false =>
    rw [eq_comm, decide_eq_false_iff_not, listG_none]
    intro hh
    have := (goneP_spec h2).1
    rw [fitE_congr hh, hf] at this
    cases this
/-- A task of the rank 0 makes nobody leave. -/
theorem evLow {room : List Int} {ts : List Tk} {rk : List Int} {t : Tk} {r : Int} {g : Nat → Bool} (h : evP room ts rk t r = some g) : evP room ts rk t 0 = if binsOk room [ts ++ [t]] = true then some (fun _ => false) else none := by
  obtain ⟨h1, h2⟩ := evP_facts h
  obtain ⟨_, _, _, _, _, f6, _, _⟩ := evOk_facts h1
  have h3 : evOk room ts rk t 0 = true := by
    simp only [evOk, Bool.and_eq_true] at h1 ⊢
    exact ⟨h1.1, by decide⟩
  rw [evP, if_pos h3, goneP_low (fun j => (f6 j).1), binsOk_put (evOk_tasks h1), ← fitE_all]
/-- Nobody leaves in vain. -/
theorem evEach {room : List Int} {ts : List Tk} {rk : List Int} {t : Tk} {r : Int} {g : Nat → Bool} (h : evP room ts rk t r = some g) {k : Nat} (hk : g k = true) : binsOk room [keptP ts (upd g k false) ts.length ++ [t]] = false := by
  obtain ⟨h1, h2⟩ := evP_facts h
  obtain ⟨_, _, f3, _, _, _, _, _⟩ := evOk_facts h1
  exact binsOk_put_no (goneP_each (fun j i => ((load_ok f3).2 j i).1) h2 hk)
/-- Those who leave make room. -/
theorem evRoom {room : List Int} {ts : List Tk} {rk : List Int} {t : Tk} {r : Int} {g : Nat → Bool} (h : evP room ts rk t r = some g) : binsOk room [keptP ts g ts.length ++ [t]] = true := by
  obtain ⟨h1, h2⟩ := evP_facts h
  have hs := keptP_sub ts g ts.length (Nat.le_refl _)
  rw [List.take_length] at hs
  rw [binsOk_put (tasksOk_part (evOk_tasks h1) (hs.append (List.Sublist.refl _)))]
  exact (goneP_spec h2).1
end Go.Proofs.YtkcflajhmekcaaaGreat
