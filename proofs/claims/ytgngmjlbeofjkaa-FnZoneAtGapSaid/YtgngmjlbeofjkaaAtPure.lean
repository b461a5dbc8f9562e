/- Plain laws of ZoneAt: the best node has room, and no node with room has a zone with fewer. No program in sight. -/
import Derived.Test.YtgngmjlbeofjkaaZoneAtImpl
namespace Go.Proofs.Ytgngmjlbeofjkaa

theorem tasksOk_sub {room : List Int} {a b : List Tk} (h : tasksOk room b = true) (hs : a.Sublist b) : tasksOk room a = true := by
  simp only [tasksOk, Bool.and_eq_true, decide_eq_true_eq] at h ⊢
  refine ⟨⟨⟨h.1.1.1, by have := hs.length_le; omega⟩, ?_⟩, h.2.sublist (hs.map _)⟩
  rw [List.all_eq_true] at *
  exact fun x hx => h.1.2 x (hs.subset hx)
theorem bin_sub {bs : List (List Tk)} {i : Nat} (hi : i < bs.length) : (bs[i]?.getD []).Sublist bs.flatten := by
  rw [List.getElem?_eq_getElem hi]
  exact List.sublist_flatten_of_mem (List.getElem_mem hi)
/-- A node with a further task, alone: valid if there is room. -/
theorem binsOk_one {room : List Int} {bs : List (List Tk)} {t : Tk} (h : comeOk room bs t = true) {i : Nat} (hi : i < bs.length) : binsOk room [bs[i]?.getD [] ++ [t]] = roomB room bs t.2 i := by
  have h1 : tasksOk room (bs[i]?.getD [] ++ [t]) = true := by
    simp only [comeOk, Bool.and_eq_true] at h
    exact tasksOk_sub h.2 ((bin_sub hi).append (List.Sublist.refl _))
  have h2 : loadP (bs[i]?.getD [] ++ [t]) = add3 (loadP (bs[i]?.getD [])) t.2 := by simp [loadP, List.foldl_append]
  simp [binsOk, h1, roomB, h2]

theorem fold_best (C zones : List Int) : ∀ (l : List Nat) (b : Int), (-1 ≤ b) → (b < 0 → b = -1) →
    let r := l.foldl (bestStep C zones) b
    (r = b ∨ ∃ i ∈ l, r = (i : Int)) ∧ (∀ i ∈ l, 0 ≤ r ∧ zcount C zones r.toNat ≤ zcount C zones i) ∧ (0 ≤ b → 0 ≤ r ∧ zcount C zones r.toNat ≤ zcount C zones b.toNat)
  | [], b, _, _ => ⟨.inl rfl, by simp, fun h => ⟨h, Int.le_refl _⟩⟩
  | i :: l, b, h1, h2 => by
    have hs : (bestStep C zones b i = (i : Int) ∧ (0 ≤ b → zcount C zones i ≤ zcount C zones b.toNat)) ∨ (bestStep C zones b i = b ∧ 0 ≤ b ∧ zcount C zones b.toNat ≤ zcount C zones i) := by
      unfold bestStep
      by_cases h : b < 0 ∨ zcount C zones i < zcount C zones b.toNat
      · rw [if_pos h]; exact .inl ⟨rfl, fun h0 => by omega⟩
      · rw [if_neg h]; exact .inr ⟨rfl, by omega, by omega⟩
    rcases hs with ⟨e, hle⟩ | ⟨e, h0, hle⟩
    · obtain ⟨r1, r2, r3⟩ := fold_best C zones l (i : Int) (by omega) (by omega)
      have r3 := r3 (by omega)
      rw [Int.toNat_natCast] at r3
      simp only [List.foldl_cons, e]
      refine ⟨?_, ?_, fun hb => ⟨r3.1, by have := hle hb; omega⟩⟩
      · rcases r1 with r1 | ⟨j, hj, r1⟩
        · exact .inr ⟨i, by simp, r1⟩
        · exact .inr ⟨j, by simp [hj], r1⟩
      · intro j hj
        rcases List.mem_cons.1 hj with rfl | hj
        · exact r3
        · exact r2 j hj
    · obtain ⟨r1, r2, r3⟩ := fold_best C zones l b h1 h2
      have r3 := r3 h0
      simp only [List.foldl_cons, e]
      refine ⟨?_, ?_, fun hb => r3⟩
      · rcases r1 with r1 | ⟨j, hj, r1⟩
        · exact .inl r1
        · exact .inr ⟨j, by simp [hj], r1⟩
      · intro j hj
        rcases List.mem_cons.1 hj with rfl | hj
        · exact ⟨r3.1, by omega⟩
        · exact r2 j hj
theorem bestP_spec (C zones : List Int) (l : List Nat) : (bestP C zones l = -1 ∧ l = []) ∨ ∃ i ∈ l, bestP C zones l = (i : Int) ∧ ∀ j ∈ l, zcount C zones i ≤ zcount C zones j := by
  obtain ⟨r1, r2, _⟩ := fold_best C zones l (-1) (by omega) (by omega)
  rcases r1 with r1 | ⟨i, hi, r1⟩
  · refine .inl ⟨r1, ?_⟩
    cases l with
    | nil => rfl
    | cons j l => have := (r2 j (by simp)).1; rw [r1] at this; omega
  · refine .inr ⟨i, hi, r1, fun j hj => ?_⟩
    have := (r2 j hj).2
    rwa [r1, Int.toNat_natCast] at this
theorem mem_rooms {room : List Int} {bs : List (List Tk)} {xs : List Int} {k i : Nat} : i ∈ roomsTo room bs xs k ↔ i < k ∧ roomB room bs xs i = true := by
  simp [roomsTo, List.mem_filter]
/-- What ZoneAt says. -/
theorem zoneAt_spec {room : List Int} {bs : List (List Tk)} {zones ids : List Int} {t : Tk} : (zoneAtP room bs zones ids t = -1) ∨ (zonesOk room bs zones ids = true ∧ comeOk room bs t = true ∧
    ∃ i : Nat, zoneAtP room bs zones ids t = i ∧ i < bs.length ∧ roomB room bs t.2 i = true ∧ ∀ j, j < bs.length → roomB room bs t.2 j = true → zcount (countsP bs zones ids) zones i ≤ zcount (countsP bs zones ids) zones j) := by
  unfold zoneAtP
  by_cases h : zonesOk room bs zones ids = true ∧ comeOk room bs t = true
  · rw [if_pos h]
    rcases bestP_spec (countsP bs zones ids) zones (roomsTo room bs t.2 bs.length) with ⟨e, _⟩ | ⟨i, hi, e, hj⟩
    · exact .inl e
    · obtain ⟨h1, h2⟩ := mem_rooms.1 hi
      exact .inr ⟨h.1, h.2, i, e, h1, h2, fun j hj1 hj2 => hj j (mem_rooms.2 ⟨hj1, hj2⟩)⟩
  · rw [if_neg h]; exact .inl rfl
end Go.Proofs.Ytgngmjlbeofjkaa
