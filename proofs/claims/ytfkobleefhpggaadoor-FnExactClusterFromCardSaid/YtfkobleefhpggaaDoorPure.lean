/- The plain functions of chapters 1, 2 and 43 (vectors, nodes, zones), on lists. No program in sight. -/
import Derived.Test.YtfkobleefhpggaaDoorBase
namespace Go.Proofs.YtfkobleefhpggaaDoor

theorem getD_nil (k : Nat) : ([] : List Int)[k]?.getD 0 = 0 := by simp

theorem all_iff_getD {xs : List Int} {p : Int → Bool} : xs.all p = true ↔ ∀ j, j < xs.length → p (xs[j]?.getD 0) = true := by
  rw [List.all_eq_true]
  constructor
  · intro h j hj
    rw [List.getElem?_eq_getElem hj]
    exact h _ (List.getElem_mem _)
  · intro h x hx
    obtain ⟨j, hj, rfl⟩ := List.getElem_of_mem hx
    have := h j hj
    rwa [List.getElem?_eq_getElem hj] at this

/-- VecValid. -/
def vecOk (xs : List Int) : Bool := xs.length == 3 && xs.all (inR 0 20)
theorem vecOk_len {xs : List Int} (h : vecOk xs = true) : xs.length = 3 := by simp [vecOk] at h; exact h.1
theorem vecOk_bd {xs : List Int} (h : vecOk xs = true) (j : Nat) : 0 ≤ xs[j]?.getD 0 ∧ xs[j]?.getD 0 ≤ 20 := by
  simp only [vecOk, Bool.and_eq_true] at h
  by_cases hj : j < xs.length
  · exact inR_iff.1 (all_iff_getD.1 h.2 j hj)
  · rw [List.getElem?_eq_none (by omega)]; simp
theorem vecOk_of_all {xs : List Int} (h : ∀ j, j < xs.length → inR 0 20 (xs[j]?.getD 0) = true) : vecOk xs = (xs.length == 3) := by
  rw [vecOk, all_iff_getD.2 h, Bool.and_true]
theorem vecOk_no {xs : List Int} {k : Nat} (hk : k < xs.length) (h : inR 0 20 (xs[k]?.getD 0) = false) : vecOk xs = false := by
  rw [vecOk, Bool.and_eq_false_iff]; right
  rw [← Bool.not_eq_true, all_iff_getD]
  intro hh; rw [hh k hk] at h; cases h

/-- No number of the first three is greater. -/
def fits3 (a b : List Int) : Bool := decide (a[0]?.getD 0 ≤ b[0]?.getD 0) && decide (a[1]?.getD 0 ≤ b[1]?.getD 0) && decide (a[2]?.getD 0 ≤ b[2]?.getD 0)
theorem fits3_iff {a b : List Int} : fits3 a b = true ↔ ∀ j, j < 3 → a[j]?.getD 0 ≤ b[j]?.getD 0 := by
  simp only [fits3, Bool.and_eq_true, decide_eq_true_eq]
  constructor
  · intro h j hj
    match j, hj with
    | 0, _ => exact h.1.1
    | 1, _ => exact h.1.2
    | 2, _ => exact h.2
  · intro h; exact ⟨⟨h 0 (by omega), h 1 (by omega)⟩, h 2 (by omega)⟩
theorem fits3_no {a b : List Int} {k : Nat} (hk : k < 3) (h : b[k]?.getD 0 < a[k]?.getD 0) : fits3 a b = false := by
  rw [← Bool.not_eq_true, fits3_iff]; intro hh; have := hh k hk; omega

/-- VecFits. -/
def vecFits (a b : List Int) : Bool := vecOk a && vecOk b && fits3 a b

/-- A vector plus another one. -/
def add3 (a b : List Int) : List Int := [a[0]?.getD 0 + b[0]?.getD 0, a[1]?.getD 0 + b[1]?.getD 0, a[2]?.getD 0 + b[2]?.getD 0]
theorem add3_at {a b : List Int} {j : Nat} (h : j < 3) : (add3 a b)[j]?.getD 0 = a[j]?.getD 0 + b[j]?.getD 0 := by
  match j, h with
  | 0, _ => rfl
  | 1, _ => rfl
  | 2, _ => rfl
@[simp] theorem add3_len (a b : List Int) : (add3 a b).length = 3 := rfl

/-- A room. -/
def roomOk (r : List Int) : Bool := vecOk r && r.all (fun x => decide (1 ≤ x))

/-- The load of tasks. -/
def loadP (ts : List Tk) : List Int := ts.foldl (fun s t => add3 s t.2) [0, 0, 0]

/-- One of the first tasks has a number. -/
def hasP (ts : List Tk) (id : Int) : Bool := ts.any (fun t => t.1 == id)

/-- Each task by itself. -/
def taskOk (room : List Int) (t : Tk) : Bool := inR 1 40 t.1 && vecFits t.2 room

/-- Tasks whose numbers differ, each valid by itself. -/
def distinctP : List Tk → Bool
  | [] => true
  | t :: ts => !hasP ts t.1 && distinctP ts

/-- TasksValid. -/
def tasksOk (room : List Int) (ts : List Tk) : Bool := roomOk room && decide (ts.length ≤ 14) && ts.all (taskOk room) && decide ((ts.map (·.1)).Nodup)

/-- BinsValid. -/
def binsOk (room : List Int) (bs : List (List Tk)) : Bool := decide (bs.length ≤ 14) && tasksOk room bs.flatten && bs.all (fun b => fits3 (loadP b) room)

/-- The node of the task with a number, or -1. -/
def whereP (bs : List (List Tk)) (id : Int) : Int := match bs.findIdx? (fun b => hasP b id) with | some i => i | none => -1

end Go.Proofs.YtfkobleefhpggaaDoor
