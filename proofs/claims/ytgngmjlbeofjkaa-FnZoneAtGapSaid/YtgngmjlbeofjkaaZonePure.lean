/- The plain functions of chapter 43 (zones), on lists. No program in sight. -/
import Derived.Test.YtgngmjlbeofjkaaBins
namespace Go.Proofs.Ytgngmjlbeofjkaa
open Go.RowKit

/-- The arguments are valid. -/
def zonesOk (room : List Int) (bs : List (List Tk)) (zones ids : List Int) : Bool :=
  binsOk room bs && decide (zones.length = bs.length) && zones.all (inR 0 3) && ids.all (inR 1 40) && decide ids.Nodup

theorem nodupI_iff {ids : List Int} : ids.Nodup ↔ ∀ j, j < ids.length → ∀ i, i < j → ids[i]?.getD 0 ≠ ids[j]?.getD 0 := by
  unfold List.Nodup
  rw [List.pairwise_iff_getElem]
  constructor
  · intro h j hj i hi
    rw [List.getElem?_eq_getElem (by omega), List.getElem?_eq_getElem hj]
    exact h i j (by omega) hj hi
  · intro h i j hi hj hij
    have := h j hj i hij
    rwa [List.getElem?_eq_getElem hi, List.getElem?_eq_getElem hj] at this

theorem zonesOk_bad_zone {room : List Int} {bs : List (List Tk)} {zones ids : List Int} {k : Nat} (hk : k < zones.length) (h : inR 0 3 (zones[k]?.getD 0) = false) : zonesOk room bs zones ids = false := by
  rw [← Bool.not_eq_true]; intro hh
  simp only [zonesOk, Bool.and_eq_true] at hh
  have := all_iff_getD.1 hh.1.1.2 k hk
  rw [h] at this; cases this
theorem zonesOk_bad_id {room : List Int} {bs : List (List Tk)} {zones ids : List Int} {k : Nat} (hk : k < ids.length) (h : inR 1 40 (ids[k]?.getD 0) = false) : zonesOk room bs zones ids = false := by
  rw [← Bool.not_eq_true]; intro hh
  simp only [zonesOk, Bool.and_eq_true] at hh
  have := all_iff_getD.1 hh.1.2 k hk
  rw [h] at this; cases this
theorem zonesOk_twice {room : List Int} {bs : List (List Tk)} {zones ids : List Int} {k i : Nat} (hk : k < ids.length) (hi : i < k) (h : ids[i]?.getD 0 = ids[k]?.getD 0) : zonesOk room bs zones ids = false := by
  rw [← Bool.not_eq_true]; intro hh
  simp only [zonesOk, Bool.and_eq_true, decide_eq_true_eq] at hh
  exact nodupI_iff.1 hh.2 k hk i hi h
theorem zonesOk_rest {room : List Int} {bs : List (List Tk)} {zones ids : List Int} (h1 : ∀ j, j < zones.length → inR 0 3 (zones[j]?.getD 0) = true)
    (h2 : ∀ j, j < ids.length → inR 1 40 (ids[j]?.getD 0) = true ∧ ∀ i, i < j → ids[i]?.getD 0 ≠ ids[j]?.getD 0) : zonesOk room bs zones ids = (binsOk room bs && decide (zones.length = bs.length)) := by
  unfold zonesOk
  rw [all_iff_getD.2 h1, all_iff_getD.2 (fun j hj => (h2 j hj).1), decide_eq_true (nodupI_iff.2 (fun j hj => (h2 j hj).2))]
  simp
theorem zonesOk_bins {room : List Int} {bs : List (List Tk)} {zones ids : List Int} (h : zonesOk room bs zones ids = true) : binsOk room bs = true := by
  simp only [zonesOk, Bool.and_eq_true] at h; exact h.1.1.1.1
theorem zonesOk_len {room : List Int} {bs : List (List Tk)} {zones ids : List Int} (h : zonesOk room bs zones ids = true) : zones.length = bs.length := by
  simp only [zonesOk, Bool.and_eq_true, decide_eq_true_eq] at h; exact h.1.1.1.2
theorem zonesOk_zone {room : List Int} {bs : List (List Tk)} {zones ids : List Int} (h : zonesOk room bs zones ids = true) (k : Nat) : 0 ≤ zones[k]?.getD 0 ∧ zones[k]?.getD 0 ≤ 3 := by
  simp only [zonesOk, Bool.and_eq_true] at h
  by_cases hk : k < zones.length
  · exact inR_iff.1 (all_iff_getD.1 h.1.1.2 k hk)
  · rw [List.getElem?_eq_none (by omega)]; simp
theorem zonesOk_nodup {room : List Int} {bs : List (List Tk)} {zones ids : List Int} (h : zonesOk room bs zones ids = true) : ids.Nodup := by
  simp only [zonesOk, Bool.and_eq_true, decide_eq_true_eq] at h; exact h.2
theorem zonesOk_ids {room : List Int} {bs : List (List Tk)} {zones ids : List Int} (h : zonesOk room bs zones ids = true) : ids.all (inR 1 40) = true := by
  simp only [zonesOk, Bool.and_eq_true] at h; exact h.1.2

/-- One more in a zone. -/
def bump (c : List Int) (z : Int) : List Int := c.set z.toNat (c[z.toNat]?.getD 0 + 1)
/-- One more, if the task with the number is somewhere. -/
def stepC (bs : List (List Tk)) (zones : List Int) (c : List Int) (id : Int) : List Int :=
  if 0 ≤ whereP bs id then bump c (zones[(whereP bs id).toNat]?.getD 0) else c
/-- ZoneCounts. -/
def countsP (bs : List (List Tk)) (zones ids : List Int) : List Int := ids.foldl (stepC bs zones) [0, 0, 0, 0]

theorem bump_len (c : List Int) (z : Int) : (bump c z).length = c.length := by simp [bump]
theorem stepC_len (bs : List (List Tk)) (zones c : List Int) (id : Int) : (stepC bs zones c id).length = c.length := by
  unfold stepC; split <;> simp [bump_len]
theorem foldC_len (bs : List (List Tk)) (zones : List Int) (ids : List Int) : ∀ c : List Int, (ids.foldl (stepC bs zones) c).length = c.length := by
  induction ids with
  | nil => intro c; rfl
  | cons id ids ih => intro c; rw [List.foldl_cons, ih, stepC_len]
theorem countsP_len (bs : List (List Tk)) (zones ids : List Int) : (countsP bs zones ids).length = 4 := foldC_len bs zones ids _
theorem countsP_succ {bs : List (List Tk)} {zones ids : List Int} {k : Nat} (h : k < ids.length) : countsP bs zones (ids.take (k + 1)) = stepC bs zones (countsP bs zones (ids.take k)) (ids[k]?.getD 0) := by
  unfold countsP
  rw [List.take_succ_eq_append_getElem h, List.foldl_append, List.getElem?_eq_getElem h]
  rfl
theorem bump_bd {c : List Int} {N : Int} (h : ∀ i : Nat, 0 ≤ c[i]?.getD 0 ∧ c[i]?.getD 0 ≤ N) (z : Int) : ∀ i : Nat, 0 ≤ (bump c z)[i]?.getD 0 ∧ (bump c z)[i]?.getD 0 ≤ N + 1 := by
  intro i
  unfold bump
  rw [List.getElem?_set]
  have h1 := h z.toNat
  have h2 := h i
  split
  · split
    · simp; omega
    · simp; omega
  · omega
theorem countsP_bd (bs : List (List Tk)) (zones : List Int) (ids : List Int) : ∀ i : Nat, 0 ≤ (countsP bs zones ids)[i]?.getD 0 ∧ (countsP bs zones ids)[i]?.getD 0 ≤ ids.length := by
  have : ∀ (l : List Int) (c : List Int) (N : Nat), (∀ i : Nat, 0 ≤ c[i]?.getD 0 ∧ c[i]?.getD 0 ≤ (N : Int)) → ∀ i : Nat, 0 ≤ (l.foldl (stepC bs zones) c)[i]?.getD 0 ∧ (l.foldl (stepC bs zones) c)[i]?.getD 0 ≤ ((N + l.length : Nat) : Int) := by
    intro l
    induction l with
    | nil => intro c N h; simpa using h
    | cons id l ih =>
      intro c N h
      have := ih (stepC bs zones c id) (N + 1) (by
        intro i
        unfold stepC
        split
        · have := bump_bd h (zones[(whereP bs id).toNat]?.getD 0) i; omega
        · have := h i; omega)
      intro i
      have := this i
      simp only [List.foldl_cons, List.length_cons]
      omega
  intro i
  have := this ids [0, 0, 0, 0] 0 (by
    intro i
    match i with
    | 0 => simp
    | 1 => simp
    | 2 => simp
    | 3 => simp
    | i + 4 => simp) i
  unfold countsP
  simpa using this
end Go.Proofs.Ytgngmjlbeofjkaa
