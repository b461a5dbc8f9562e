/- Plain law: a task in the emptiest zone makes no great gap. No program in sight. -/
import Derived.Test.YtgngmjlbeofjkaaAtPure
import Derived.Test.YtgngmjlbeofjkaaZoneGapLaw
import Derived.Test.YtgngmjlbeofjkaaCountsOnePure
namespace Go.Proofs.Ytgngmjlbeofjkaa

/-- The nodes with a further task on one of them. -/
def addAt (bs : List (List Tk)) (i : Nat) (t : Tk) : List (List Tk) := bs.set i (bs[i]?.getD [] ++ [t])
theorem addAt_at (bs : List (List Tk)) (i : Nat) (t : Tk) {j : Nat} (hi : i < bs.length) : (addAt bs i t)[j]?.getD [] = if i = j then bs[i]?.getD [] ++ [t] else bs[j]?.getD [] := by
  unfold addAt
  rw [List.getElem?_set]
  by_cases e : i = j
  · subst e; simp [hi]
  · simp [e]
theorem addAt_perm : ∀ (bs : List (List Tk)) (i : Nat) (t : Tk), i < bs.length → (addAt bs i t).flatten.Perm (bs.flatten ++ [t])
  | [], _, _, h => absurd h (by simp)
  | b :: bs, 0, t, _ => by
    show ((b ++ [t]) ++ bs.flatten).Perm ((b ++ bs.flatten) ++ [t])
    rw [List.append_assoc, List.append_assoc]
    exact List.Perm.append_left b List.perm_append_comm
  | b :: bs, i + 1, t, h => by
    have := addAt_perm bs i t (by simpa using h)
    show (b ++ (addAt bs i t).flatten).Perm ((b ++ bs.flatten) ++ [t])
    rw [List.append_assoc]
    exact List.Perm.append_left b this
theorem tasksOk_perm {room : List Int} {a b : List Tk} (h : tasksOk room b = true) (hp : a.Perm b) : tasksOk room a = true := by
  simp only [tasksOk, Bool.and_eq_true, decide_eq_true_eq] at h ⊢
  refine ⟨⟨⟨h.1.1.1, by rw [hp.length_eq]; exact h.1.1.2⟩, ?_⟩, ((hp.map _).nodup_iff).2 h.2⟩
  rw [List.all_eq_true] at *
  exact fun x hx => h.1.2 x (hp.subset hx)
theorem addAt_ok {room : List Int} {bs : List (List Tk)} {t : Tk} {i : Nat} (hc : comeOk room bs t = true) (hi : i < bs.length) (hr : roomB room bs t.2 i = true) : binsOk room (addAt bs i t) = true := by
  have hb := comeOk_bins hc
  have ht : tasksOk room (bs.flatten ++ [t]) = true := by simp only [comeOk, Bool.and_eq_true] at hc; exact hc.2
  have h1 := tasksOk_perm ht (addAt_perm bs i t hi)
  simp only [binsOk, Bool.and_eq_true, decide_eq_true_eq] at hb ⊢
  refine ⟨⟨by unfold addAt; rw [List.length_set]; exact hb.1.1, h1⟩, ?_⟩
  rw [allB_iff]
  intro j hj
  rw [addAt_at bs i t hi]
  by_cases e : i = j
  · rw [if_pos e]
    have h2 : loadP (bs[i]?.getD [] ++ [t]) = add3 (loadP (bs[i]?.getD [])) t.2 := by simp [loadP, List.foldl_append]
    rw [h2]
    exact hr
  · rw [if_neg e]
    exact (allB_iff.1 hb.2) j (by unfold addAt at hj; rwa [List.length_set] at hj)

theorem fresh_id {room : List Int} {bs : List (List Tk)} {t : Tk} (hc : comeOk room bs t = true) : ∀ j, j < bs.length → hasP (bs[j]?.getD []) t.1 = false := by
  intro j hj
  have ht : tasksOk room (bs.flatten ++ [t]) = true := by simp only [comeOk, Bool.and_eq_true] at hc; exact hc.2
  simp only [tasksOk, Bool.and_eq_true, decide_eq_true_eq, List.map_append, List.map_cons, List.map_nil] at ht
  have hn := ht.2
  rw [List.nodup_append] at hn
  rw [← Bool.not_eq_true]
  intro hh
  simp only [hasP, List.any_eq_true, beq_iff_eq] at hh
  obtain ⟨x, hx, he⟩ := hh
  exact hn.2.2 x.1 (List.mem_map.2 ⟨x, bin_mem hj hx, rfl⟩) t.1 (by simp) he
theorem hasP_add {b : List Tk} {t : Tk} {id : Int} : hasP (b ++ [t]) id = (hasP b id || (t.1 == id)) := by simp [hasP]
theorem where_ext {cs bs : List (List Tk)} {id : Int} (hl : cs.length = bs.length) (h : ∀ j, j < bs.length → hasP (cs[j]?.getD []) id = hasP (bs[j]?.getD []) id) : whereP cs id = whereP bs id := by
  rcases whereP_cases bs id with ⟨e, hn⟩ | ⟨k, hk, e, h1, h2⟩
  · rw [e]
    exact whereP_none (fun j hj => by rw [h j (by omega)]; exact hn j (by omega))
  · rw [e]
    exact whereP_some (by omega) (by rw [h k hk]; exact h1) (fun j hj => by rw [h j (by omega)]; exact h2 j hj)
theorem addAt_len (bs : List (List Tk)) (i : Nat) (t : Tk) : (addAt bs i t).length = bs.length := by simp [addAt]
theorem where_other {bs : List (List Tk)} {t : Tk} {i : Nat} {id : Int} (hi : i < bs.length) (hne : id ≠ t.1) : whereP (addAt bs i t) id = whereP bs id := by
  refine where_ext (addAt_len _ _ _) (fun j hj => ?_)
  rw [addAt_at bs i t hi]
  by_cases e : i = j
  · subst e
    rw [if_pos rfl, hasP_add, show (t.1 == id) = false by simpa using fun h => hne h.symm, Bool.or_false]
  · rw [if_neg e]
theorem where_new {room : List Int} {bs : List (List Tk)} {t : Tk} {i : Nat} (hc : comeOk room bs t = true) (hi : i < bs.length) : whereP (addAt bs i t) t.1 = (i : Int) := by
  refine whereP_some (by rw [addAt_len]; exact hi) ?_ (fun j hj => ?_)
  · rw [addAt_at bs i t hi, if_pos rfl, hasP_add]; simp
  · rw [addAt_at bs i t hi, if_neg (by omega)]
    exact fresh_id hc j (by omega)
theorem counts_add {room : List Int} {bs : List (List Tk)} {zones ids : List Int} {t : Tk} {i : Nat} (hc : comeOk room bs t = true) (hi : i < bs.length) (hid : t.1 ∉ ids) :
    countsP (addAt bs i t) zones (ids ++ [t.1]) = bump (countsP bs zones ids) (zones[i]?.getD 0) := by
  have h1 : ∀ (l : List Int) (c : List Int), (∀ x ∈ l, x ≠ t.1) → l.foldl (stepC (addAt bs i t) zones) c = l.foldl (stepC bs zones) c := by
    intro l
    induction l with
    | nil => intro c _; rfl
    | cons x l ih =>
      intro c hx
      rw [List.foldl_cons, List.foldl_cons, ih _ (fun y hy => hx y (by simp [hy]))]
      congr 1
      unfold stepC
      rw [where_other hi (hx x (by simp))]
  unfold countsP
  rw [List.foldl_append, h1 ids _ (fun x hx e => hid (e ▸ hx)), List.foldl_cons, List.foldl_nil]
  exact (show ∀ c, stepC (addAt bs i t) zones c t.1 = bump c (zones[i]?.getD 0) from fun c => by unfold stepC; rw [where_new hc hi, if_pos (by omega), Int.toNat_natCast]) _
theorem zonesOk_add {room : List Int} {bs : List (List Tk)} {zones ids : List Int} {t : Tk} {i : Nat} (hz : zonesOk room bs zones ids = true) (hc : comeOk room bs t = true) (hi : i < bs.length) (hr : roomB room bs t.2 i = true) (hid : t.1 ∉ ids) :
    zonesOk room (addAt bs i t) zones (ids ++ [t.1]) = true := by
  have ht : inR 1 40 t.1 = true := by
    have : tasksOk room (bs.flatten ++ [t]) = true := by simp only [comeOk, Bool.and_eq_true] at hc; exact hc.2
    have := tasksOk_mem this (t := t) (by simp)
    simp only [taskOk, Bool.and_eq_true] at this
    exact this.1
  simp only [zonesOk, Bool.and_eq_true, decide_eq_true_eq] at hz ⊢
  refine ⟨⟨⟨⟨addAt_ok hc hi hr, by rw [addAt_len]; exact hz.1.1.1.2⟩, hz.1.1.2⟩, ?_⟩, ?_⟩
  · rw [List.all_append, hz.1.2]; simp [ht]
  · rw [List.nodup_append]
    exact ⟨hz.2, by simp, fun a ha b hb e => by simp at hb; rw [e, hb] at ha; exact hid ha⟩
/-- The gap stays small. -/
theorem gap_add {room : List Int} {bs : List (List Tk)} {zones ids : List Int} {t : Tk} {i : Nat} (hz : zonesOk room bs zones ids = true) (hc : comeOk room bs t = true) (hi : i < bs.length) (hr : roomB room bs t.2 i = true) (hid : t.1 ∉ ids)
    (hbest : ∀ j, j < bs.length → zcount (countsP bs zones ids) zones i ≤ zcount (countsP bs zones ids) zones j) :
    gapP room (addAt bs i t) zones (ids ++ [t.1]) ≤ max (gapP room bs zones ids) 1 := by
  have hz' := zonesOk_add hz hc hi hr hid
  have hl := zonesOk_len hz
  rcases gap_hit hz' with e | ⟨a, b, ha, hb, e⟩
  · rw [e]; have := gap_ge hz; omega
  · rw [← e, counts_add hc hi hid]
    have key : ∀ j, j < zones.length → cz (bump (countsP bs zones ids) (zones[i]?.getD 0)) zones j = cz (countsP bs zones ids) zones j + (if zones[i]?.getD 0 = zones[j]?.getD 0 then 1 else 0) := by
      intro j hj
      unfold cz
      rw [bump_at, countsP_len]
      have h1 := zonesOk_zone hz i
      have h2 := zonesOk_zone hz j
      congr 1
      by_cases e : zones[i]?.getD 0 = zones[j]?.getD 0
      · rw [if_pos e, if_pos ⟨by rw [e], by omega⟩]
      · rw [if_neg e, if_neg (fun h => e (by omega))]
    rw [key a ha, key b hb]
    have hg := gap_le hz ha hb
    have hb1 := hbest b (by omega)
    have hsame : zones[i]?.getD 0 = zones[a]?.getD 0 → cz (countsP bs zones ids) zones a = zcount (countsP bs zones ids) zones i := fun e => by unfold cz zcount; rw [e]
    have hcz : zcount (countsP bs zones ids) zones b = cz (countsP bs zones ids) zones b := rfl
    by_cases ea : zones[i]?.getD 0 = zones[a]?.getD 0
    · rw [if_pos ea]
      have := hsame ea
      split <;> omega
    · rw [if_neg ea]
      split <;> omega
end Go.Proofs.Ytgngmjlbeofjkaa
