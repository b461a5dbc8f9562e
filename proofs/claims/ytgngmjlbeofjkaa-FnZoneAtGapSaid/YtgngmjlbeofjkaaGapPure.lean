/- Plain laws on zone counts: at most fourteen; the gap of the program is the gap of the reference. No program in sight. -/
import Derived.Test.YtgngmjlbeofjkaaZoneSpec
namespace Go.Proofs.Ytgngmjlbeofjkaa

theorem nodup_len {α : Type} [BEq α] [LawfulBEq α] : ∀ (l m : List α), l.Nodup → (∀ x ∈ l, x ∈ m) → l.length ≤ m.length
  | [], _, _, _ => Nat.zero_le _
  | x :: l, m, hn, hs => by
    rw [List.nodup_cons] at hn
    have hx : x ∈ m := hs x (by simp)
    have := nodup_len l (m.erase x) hn.2 (fun y hy => by
      have hne : y ≠ x := fun e => hn.1 (e ▸ hy)
      exact (List.mem_erase_of_ne hne).2 (hs y (by simp [hy])))
    rw [List.length_erase_of_mem hx] at this
    have : 0 < m.length := List.length_pos_of_mem hx
    simp only [List.length_cons]
    omega

/-- The tasks that are somewhere. -/
def foundP (bs : List (List Tk)) (ids : List Int) : List Int := ids.filter (fun id => decide (0 ≤ whereP bs id))

theorem found_mem {bs : List (List Tk)} {id : Int} (h : 0 ≤ whereP bs id) : id ∈ bs.flatten.map (·.1) := by
  rcases whereP_cases bs id with ⟨hw, _⟩ | ⟨k, hk, _, hh, _⟩
  · omega
  · rw [hasP] at hh
    rw [List.any_eq_true] at hh
    obtain ⟨t, ht, he⟩ := hh
    exact List.mem_map.2 ⟨t, bin_mem hk ht, by simpa using he⟩

theorem found_len {bs : List (List Tk)} {ids : List Int} (hn : ids.Nodup) : (foundP bs ids).length ≤ bs.flatten.length := by
  have := nodup_len (foundP bs ids) (bs.flatten.map (·.1)) (hn.sublist List.filter_sublist) (fun x hx => by
    have := (List.mem_filter.1 hx).2
    exact found_mem (by simpa using this))
  rwa [List.length_map] at this

theorem fold_found (bs : List (List Tk)) (zones : List Int) : ∀ (l : List Int) (c : List Int) (N : Nat), (∀ i : Nat, 0 ≤ c[i]?.getD 0 ∧ c[i]?.getD 0 ≤ (N : Int)) →
    ∀ i : Nat, 0 ≤ (l.foldl (stepC bs zones) c)[i]?.getD 0 ∧ (l.foldl (stepC bs zones) c)[i]?.getD 0 ≤ ((N + (foundP bs l).length : Nat) : Int)
  | [], c, N, h => by intro i; have := h i; simpa [foundP] using this
  | id :: l, c, N, h => by
    intro i
    by_cases hw : 0 ≤ whereP bs id
    · have := fold_found bs zones l (stepC bs zones c id) (N + 1) (by
        intro i
        rw [stepC, if_pos hw]
        have := bump_bd h (zones[(whereP bs id).toNat]?.getD 0) i
        omega) i
      have e : (foundP bs (id :: l)).length = (foundP bs l).length + 1 := by simp [foundP, hw]
      simp only [List.foldl_cons]
      rw [e]
      omega
    · have := fold_found bs zones l (stepC bs zones c id) N (by
        intro i
        rw [stepC, if_neg hw]
        exact h i) i
      have e : (foundP bs (id :: l)).length = (foundP bs l).length := by simp [foundP, hw]
      simp only [List.foldl_cons]
      rw [e]
      omega

theorem countsP_le {room : List Int} {bs : List (List Tk)} {zones ids : List Int} (h : zonesOk room bs zones ids = true) (i : Nat) : 0 ≤ (countsP bs zones ids)[i]?.getD 0 ∧ (countsP bs zones ids)[i]?.getD 0 ≤ 14 := by
  have h0 : ∀ i : Nat, 0 ≤ ([0, 0, 0, 0] : List Int)[i]?.getD 0 ∧ ([0, 0, 0, 0] : List Int)[i]?.getD 0 ≤ ((0 : Nat) : Int) := by
    intro i
    match i with
    | 0 => simp
    | 1 => simp
    | 2 => simp
    | 3 => simp
    | i + 4 => simp
  have h1 := fold_found bs zones ids [0, 0, 0, 0] 0 h0 i
  have h2 := found_len (bs := bs) (zonesOk_nodup h)
  have h3 := tasksOk_len (binsOk_tasks (zonesOk_bins h))
  unfold countsP
  omega

theorem most_ge (c zones : List Int) : ∀ s : Int, s ≤ mostP c zones s := by
  induction zones with
  | nil => intro s; exact Int.le_refl _
  | cons z zones ih => intro s; have := ih (max s (c[z.toNat]?.getD 0)); simp only [mostP, List.foldl_cons] at this ⊢; omega
theorem least_le (c zones : List Int) : ∀ s : Int, leastP c zones s ≤ s := by
  induction zones with
  | nil => intro s; exact Int.le_refl _
  | cons z zones ih => intro s; have := ih (min s (c[z.toNat]?.getD 0)); simp only [leastP, List.foldl_cons] at this ⊢; omega

/-- The gap of the program: from the first zone's count on. -/
theorem gapP_eq {room : List Int} {bs : List (List Tk)} {zones ids : List Int} (h : zonesOk room bs zones ids = true) (hz : 0 < zones.length) :
    gapP room bs zones ids = mostP (countsP bs zones ids) zones ((countsP bs zones ids)[(zones[0]?.getD 0).toNat]?.getD 0) - leastP (countsP bs zones ids) zones ((countsP bs zones ids)[(zones[0]?.getD 0).toNat]?.getD 0) := by
  rw [gapP, if_pos h]
  have hc := countsP_le h
  generalize countsP bs zones ids = C at hc ⊢
  cases zones with
  | nil => simp at hz
  | cons z zs =>
    have h0 := hc z.toNat
    have e1 : mostP C (z :: zs) 0 = mostP C zs (C[z.toNat]?.getD 0) := by simp only [mostP, List.foldl_cons]; rw [show max (0 : Int) (C[z.toNat]?.getD 0) = C[z.toNat]?.getD 0 by omega]
    have e2 : leastP C (z :: zs) 14 = leastP C zs (C[z.toNat]?.getD 0) := by simp only [leastP, List.foldl_cons]; rw [show min (14 : Int) (C[z.toNat]?.getD 0) = C[z.toNat]?.getD 0 by omega]
    have e3 : mostP C (z :: zs) (C[z.toNat]?.getD 0) = mostP C zs (C[z.toNat]?.getD 0) := by simp only [mostP, List.foldl_cons]; rw [show max (C[z.toNat]?.getD 0) (C[z.toNat]?.getD 0) = C[z.toNat]?.getD 0 by omega]
    have e4 : leastP C (z :: zs) (C[z.toNat]?.getD 0) = leastP C zs (C[z.toNat]?.getD 0) := by simp only [leastP, List.foldl_cons]; rw [show min (C[z.toNat]?.getD 0) (C[z.toNat]?.getD 0) = C[z.toNat]?.getD 0 by omega]
    have e5 : ((z :: zs)[0]?.getD 0) = z := rfl
    rw [e5, e1, e2, e3, e4]
    have m1 := most_ge C zs (C[z.toNat]?.getD 0)
    have m2 := least_le C zs (C[z.toNat]?.getD 0)
    omega
theorem gapP_nil {room : List Int} {bs : List (List Tk)} {ids : List Int} (h : zonesOk room bs [] ids = true) : gapP room bs [] ids = 0 := by
  rw [gapP, if_pos h]; rfl
end Go.Proofs.Ytgngmjlbeofjkaa
