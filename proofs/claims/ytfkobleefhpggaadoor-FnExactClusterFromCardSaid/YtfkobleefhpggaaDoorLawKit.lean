/- Walks: the helpers of the exact laws: szIntS .. szTaskSS, toIntS .. toTaskSS, eqIntS .. eqTaskSS. -/
import Derived.Test.YtfkobleefhpggaaDoorOwn
namespace Go.Proofs.YtfkobleefhpggaaDoor
open Go.RowKit

theorem slice_info : (Tryd.prog.info? 60).map (fun i => (i.zero, i.size, i.bytes)) = some (some (.slice none 0 0), 1, 24) := by kernel_rfl

/-- What is left of a number of places, or -1. -/
def SzOk (left : Int) (tot : Nat) (r : Int) : Prop := r = -1 ∨ (0 ≤ r ∧ r + tot = left)
/-- The values in tasks, in nodes. -/
def totT : List Tk → Nat
  | [] => 0
  | t :: ts => 1 + t.2.length + totT ts
def totB : List (List Tk) → Nat
  | [] => 0
  | b :: bs => 1 + totT b + totB bs
theorem totT_append (a b : List Tk) : totT (a ++ b) = totT a + totT b := by
  induction a with
  | nil => simp [totT]
  | cons t a ih => simp only [List.cons_append, totT, ih]; omega
theorem totT_ge (ts : List Tk) : ts.length ≤ totT ts := by
  induction ts with
  | nil => simp [totT]
  | cons t ts ih => simp only [List.length_cons, totT]; omega
theorem totB_append (a b : List (List Tk)) : totB (a ++ b) = totB a + totB b := by
  induction a with
  | nil => simp [totB]
  | cons t a ih => simp only [List.cons_append, totB, ih]; omega
theorem totB_flat (bs : List (List Tk)) : bs.flatten.length + bs.length ≤ totB bs := by
  induction bs with
  | nil => simp [totB]
  | cons b bs ih =>
    have := totT_ge b
    simp only [List.flatten_cons, List.length_append, List.length_cons, totB]
    omega
theorem totT_need {ts : List Tk} {k : Nat} (h : k < ts.length) : (ts[k]?.getD (0, [])).2.length ≤ totT ts := by
  have h1 := totT_append (ts.take k) (ts.drop k)
  rw [List.take_append_drop, List.drop_eq_getElem_cons h] at h1
  rw [List.getElem?_eq_getElem h]
  simp only [totT, Option.getD_some] at h1 ⊢
  omega
theorem totB_bin {bs : List (List Tk)} {k : Nat} (h : k < bs.length) : totT (bs[k]?.getD []) ≤ totB bs := by
  have h1 := totB_append (bs.take k) (bs.drop k)
  rw [List.take_append_drop, List.drop_eq_getElem_cons h] at h1
  rw [List.getElem?_eq_getElem h]
  simp only [totB, Option.getD_some] at h1 ⊢
  omega
/-- The needs of the first k tasks, and of k nodes. -/
def needT (ts : List Tk) : Nat := totT ts - ts.length
def needB (bs : List (List Tk)) : Nat := totB bs - bs.length
theorem needT_succ {ts : List Tk} {k : Nat} (h : k < ts.length) : needT (ts.take (k + 1)) = needT (ts.take k) + (ts[k]?.getD (0, [])).2.length := by
  have h1 := totT_ge (ts.take k)
  rw [needT, needT, List.take_succ_eq_append_getElem h, totT_append, List.getElem?_eq_getElem h]
  simp only [totT, List.length_append, List.length_cons, List.length_nil, Option.getD_some]
  omega
theorem needB_succ {bs : List (List Tk)} {k : Nat} (h : k < bs.length) : needB (bs.take (k + 1)) = needB (bs.take k) + totT (bs[k]?.getD []) := by
  have h1 := totB_flat (bs.take k)
  rw [needB, needB, List.take_succ_eq_append_getElem h, totB_append, List.getElem?_eq_getElem h]
  simp only [totB, List.length_append, List.length_cons, List.length_nil, Option.getD_some]
  omega




end Go.Proofs.YtfkobleefhpggaaDoor
