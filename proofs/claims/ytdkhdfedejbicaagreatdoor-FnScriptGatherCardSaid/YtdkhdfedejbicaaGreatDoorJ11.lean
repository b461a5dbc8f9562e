/- Several texts in one. -/
import Derived.Test.YtdkhdfedejbicaaGreatDoorJ10
namespace Go.Proofs.YtdkhdfedejbicaaGreatDoor
set_option linter.unusedSimpArgs false
set_option linter.unusedVariables false

section
variable {room : List Int} {us : List Un} {bs : List (List Tk)} {r : Rq} {id : Int} {xs : List Int} {g op : Bool} {k i : Nat}

theorem clOk_iff : clOk room us = true ↔ (1 ≤ us.length ∧ us.length ≤ 10) ∧ binsOk room (us.map (·.2)) = true ∧ ∀ u ∈ us, u.1 = true ∨ u.2 = [] := by
  simp only [clOk, Bool.and_eq_true, decide_eq_true_eq, List.all_eq_true, Bool.or_eq_true, List.isEmpty_iff, and_assoc]
theorem un_at (h : i < us.length) : us[i]?.getD (false, []) = us[i] := by rw [List.getElem?_eq_getElem h]; rfl
theorem map_snd_at (h : i < us.length) : (us.map (·.2))[i]?.getD [] = (us[i]?.getD (false, [])).2 := by
  rw [List.getElem?_map, List.getElem?_eq_getElem h]; rfl
theorem binsOk_set (hb : binsOk room bs = true) (hi : i < bs.length) {c : List Tk} (ht : tasksOk room (c ++ (bs.eraseIdx i).flatten) = true) (hl : fits3 (loadP c) room = true) : binsOk room (bs.set i c) = true := by
  obtain ⟨h1, _, h3⟩ := binsOk_iff.1 hb
  refine binsOk_iff.2 ⟨by rw [List.length_set]; exact h1, tasksOk_perm (flat_set hi) ht, fun a ha => ?_⟩
  rw [List.length_set] at ha
  rw [List.getElem?_set]
  by_cases e : i = a
  · subst e; rw [if_pos rfl, if_pos hi]; exact hl
  · rw [if_neg e]; exact h3 a ha
theorem sum_filter_le {p : Tk → Bool} {f : Tk → Int} : ∀ {ts : List Tk}, (∀ t ∈ ts, 0 ≤ f t) → ((ts.filter p).map f).sum ≤ (ts.map f).sum
  | [], _ => by simp
  | t :: ts, h => by
    have ih := sum_filter_le (p := p) (f := f) (ts := ts) (fun t ht => h t (by simp [ht]))
    have h0 := h t (by simp)
    rw [List.filter_cons, List.map_cons, List.sum_cons]
    split
    · rw [List.map_cons, List.sum_cons]; omega
    · omega
theorem load_take {b : List Tk} (ht : ∀ t ∈ b, vecOk t.2 = true) (hf : fits3 (loadP b) room = true) : fits3 (loadP (takeP b id)) room = true := by
  rw [fits3_iff] at hf ⊢
  intro x hx
  have h1 := hf x hx
  rw [load_sum _ hx] at h1 ⊢
  have := sum_filter_le (p := fun t => !(t.1 == id)) (f := fun t : Tk => t.2[x]?.getD 0) (ts := b) (fun t h => (vecOk_bd (ht t h) x).1)
  unfold takeP
  omega
theorem where_has {n : Nat} (h : whereP bs id = (n : Int)) : n < bs.length ∧ hasP (bs[n]?.getD []) id = true := by
  unfold whereP at h
  cases hf : bs.findIdx? (fun b => hasP b id) with
  | none => rw [hf] at h; simp at h
  | some a =>
    rw [hf] at h
    have e : a = n := Int.ofNat.inj h
    subst e
    rw [List.findIdx?_eq_some_iff_getElem] at hf
    obtain ⟨ha, h1, _⟩ := hf
    exact ⟨ha, by rw [List.getElem?_eq_getElem ha]; exact h1⟩
theorem where_none (h : whereP bs id = -1) : ∀ t ∈ bs.flatten, t.1 ≠ id := by
  intro t ht he
  obtain ⟨b, hb, htb⟩ := List.mem_flatten.1 ht
  unfold whereP at h
  cases hf : bs.findIdx? (fun b => hasP b id) with
  | some a => rw [hf] at h; simp at h
  | none =>
    rw [List.findIdx?_eq_none_iff] at hf
    have := hf b hb
    unfold hasP at this
    rw [List.any_eq_false] at this
    exact this t htb (by simpa using he)
def totalP (us : List Un) : Nat := (us.map (·.2)).flatten.length

/-! ### Opening -/
theorem opn_facts (h : clOk room us = true) {node : Int} : (opnP room us node op).1 = room ∧ clOk room (opnP room us node op).2.1 = true ∧ ((opnP room us node op).2.2 ≠ 0 → (opnP room us node op).2.1 = us) ∧ totalP (opnP room us node op).2.1 = totalP us := by
  by_cases hn : inR 0 ((us.length : Int) - 1) node = true
  · obtain ⟨n0, n1⟩ := inR_iff.1 hn
    obtain ⟨k, rfl⟩ := Int.eq_ofNat_of_zero_le n0
    have hk : k < us.length := by omega
    by_cases ho : (us[k]?.getD (false, [])).1 = op
    · rw [opnP_twice h hn ho]; exact ⟨rfl, h, fun _ => rfl, rfl⟩
    · by_cases hb : 0 < (us[k]?.getD (false, [])).2.length
      · rw [opnP_busy h hn ho hb]; exact ⟨rfl, h, fun _ => rfl, rfl⟩
      · rw [opnP_yes h hn ho hb]
        have he : (us[k]?.getD (false, [])).2 = [] := List.eq_nil_of_length_eq_zero (by omega)
        have hm : (us.set k (op, (us[k]?.getD (false, [])).2)).map (·.2) = us.map (·.2) := by
          rw [List.map_set]
          have : (us.map (·.2))[k]? = some (us[k]?.getD (false, [])).2 := by rw [List.getElem?_map, List.getElem?_eq_getElem hk]; rfl
          obtain ⟨hk', e⟩ := List.getElem?_eq_some_iff.1 this
          rw [← e]
          exact List.set_getElem_self hk'
        obtain ⟨h1, h2, h3⟩ := clOk_iff.1 h
        refine ⟨rfl, clOk_iff.2 ⟨by rw [List.length_set]; exact h1, by rw [hm]; exact h2, fun u hu => ?_⟩, fun hh => absurd rfl hh, by unfold totalP; rw [hm]⟩
        rcases List.mem_or_eq_of_mem_set hu with hu | hu
        · exact h3 u hu
        · rw [hu]; exact .inr he
  · have hn : inR 0 ((us.length : Int) - 1) node = false := by simpa using hn
    rw [opnP_none h hn]; exact ⟨rfl, h, fun _ => rfl, rfl⟩

/-! ### Departing -/
theorem dep_facts (h : clOk room us = true) : (depP room us id).1 = room ∧ clOk room (depP room us id).2.1 = true ∧ ((depP room us id).2.2 ≠ 0 → (depP room us id).2.1 = us) ∧ ((depP room us id).2.2 = 0 → totalP (depP room us id).2.1 + 1 = totalP us) := by
  rcases whereP_or (us.map (·.2)) id with hw | ⟨k, hw, hk⟩
  · rw [depP_none h hw]; exact ⟨rfl, h, fun _ => rfl, fun hh => by simp at hh⟩
  · rw [depP_yes h hw]
    rw [List.length_map] at hk
    obtain ⟨h1, h2, h3⟩ := clOk_iff.1 h
    obtain ⟨_, hhas⟩ := where_has hw
    have hkm : k < (us.map (·.2)).length := by rw [List.length_map]; exact hk
    obtain ⟨b1, b2, b3⟩ := binsOk_iff.1 h2
    have hm : (us.set k ((us[k]?.getD (false, [])).1, takeP (us[k]?.getD (false, [])).2 id)).map (·.2) = (us.map (·.2)).set k (takeP ((us.map (·.2))[k]?.getD []) id) := by rw [List.map_set, map_snd_at hk]
    have hp := flat_at hkm
    have hvec : ∀ t ∈ (us.map (·.2))[k]?.getD [], vecOk t.2 = true := fun t ht => tasksOk_vec b2 (hp.symm.subset (List.mem_append_left _ ht))
    have hlen : (takeP ((us.map (·.2))[k]?.getD []) id).length + 1 = ((us.map (·.2))[k]?.getD []).length := by
      unfold hasP at hhas
      rw [List.any_eq_true] at hhas
      obtain ⟨t, ht, hte⟩ := hhas
      obtain ⟨a, ha, rfl⟩ := List.getElem_of_mem ht
      have hid : (((us.map (fun u : Un => u.2))[k]?.getD [])[a]'ha).1 = id := by simpa using hte
      have hpw : ((us.map (·.2))[k]?.getD []).Pairwise (fun x y => x.1 ≠ y.1) := by
        refine (ids_pair (binsOk_nodup h2)).1 _ ?_
        rw [List.getElem?_eq_getElem hkm]; exact List.getElem_mem hkm
      rw [← hid, take_erase hpw ha, List.length_eraseIdx, if_pos ha]
      omega
    refine ⟨rfl, clOk_iff.2 ⟨by rw [List.length_set]; exact h1, ?_, fun u hu => ?_⟩, fun hh => absurd rfl hh, fun _ => ?_⟩
    · rw [hm]
      refine binsOk_set h2 hkm (tasksOk_sub (tasksOk_perm hp.symm b2) ?_) (load_take hvec (b3 k hkm))
      exact List.Sublist.append_right List.filter_sublist _
    · rcases List.mem_or_eq_of_mem_set hu with hu | hu
      · exact h3 u hu
      · rw [hu]
        rcases h3 _ (un_mem hk) with hx | hx
        · exact .inl hx
        · right
          show takeP _ _ = []
          rw [hx]; rfl
    · unfold totalP
      rw [hm, (flat_set hkm).length_eq, hp.length_eq, List.length_append, List.length_append]
      omega

/-! ### Arriving -/
theorem idx_at {α : Type} {p : α → Bool} {l : List α} {d : α} {n : Nat} (h : idxP p l = (n : Int)) : n < l.length ∧ p (l[n]?.getD d) = true := by
  unfold idxP at h
  cases hf : l.findIdx? p with
  | none => rw [hf] at h; simp at h
  | some a =>
    rw [hf] at h
    have e : a = n := Int.ofNat.inj h
    subst e
    rw [List.findIdx?_eq_some_iff_getElem] at hf
    obtain ⟨ha, h1, _⟩ := hf
    exact ⟨ha, by rw [List.getElem?_eq_getElem ha]; exact h1⟩
theorem arv_fits {n : Nat} (h : arvAt room us xs g = (n : Int)) : n < us.length ∧ fits3 (add3 (loadP (us[n]?.getD (false, [])).2) xs) room = true := by
  have key : ∀ op, cAtP room us xs op = (n : Int) → n < us.length ∧ fits3 (add3 (loadP (us[n]?.getD (false, [])).2) xs) room = true := fun op hc => by
    obtain ⟨h1, h2⟩ := idx_at (d := (false, [])) hc
    simp only [atB, Bool.and_eq_true] at h2
    exact ⟨h1, h2.2⟩
  unfold arvAt at h
  split at h
  · exact key _ h
  · exact key _ h
theorem arvAt_or : arvAt room us xs g = -1 ∨ ∃ n : Nat, arvAt room us xs g = (n : Int) := by
  have key : ∀ op, cAtP room us xs op = -1 ∨ ∃ n : Nat, cAtP room us xs op = (n : Int) := fun op => by
    rcases idxP_or (atB room xs op) us with h | ⟨n, h, _⟩
    · exact .inl h
    · exact .inr ⟨n, h⟩
  unfold arvAt
  split
  · exact key _
  · exact key _
theorem cav_facts (h : clOk room us = true) : (cavP room us id xs g).1 = room ∧ clOk room (cavP room us id xs g).2.1 = true ∧ ((cavP room us id xs g).2.2 ≠ 0 → (cavP room us id xs g).2.1 = us) ∧ ((cavP room us id xs g).2.2 = 0 → totalP (cavP room us id xs g).2.1 = totalP us + 1) := by
  cases ht : tasksOk room [(id, xs)] with
  | false => rw [cavP_task h ht]; exact ⟨rfl, h, fun _ => rfl, fun hh => by simp at hh⟩
  | true =>
    rcases whereP_or' (us.map (·.2)) id with hw | ⟨k, hw⟩
    · rw [cavP_new h ht hw]
      rcases arvAt_or (room := room) (us := us) (xs := xs) (g := g) with ha | ⟨n, ha⟩
      · rw [arvP_none ha]; exact ⟨rfl, h, fun _ => rfl, fun hh => by simp at hh⟩
      · by_cases hf : (us.map (·.2)).flatten.length = 14
        · rw [arvP_full hf]; exact ⟨rfl, h, fun _ => rfl, fun hh => by simp at hh⟩
        · rw [arvP_yes ha hf]
          obtain ⟨hn, hfit⟩ := arv_fits ha
          obtain ⟨h1, h2, h3⟩ := clOk_iff.1 h
          obtain ⟨b1, b2, b3⟩ := binsOk_iff.1 h2
          have hnm : n < (us.map (·.2)).length := by rw [List.length_map]; exact hn
          have hm : (us.set n (true, (us[n]?.getD (false, [])).2 ++ [(id, xs)])).map (·.2) = (us.map (·.2)).set n ((us.map (·.2))[n]?.getD [] ++ [(id, xs)]) := by rw [List.map_set, map_snd_at hn]
          have hp : ((us.map (·.2))[n]?.getD [] ++ [(id, xs)] ++ ((us.map (·.2)).eraseIdx n).flatten).Perm ((id, xs) :: (us.map (·.2)).flatten) := by
            refine List.Perm.trans ?_ (List.Perm.cons _ (flat_at hnm).symm)
            rw [List.append_assoc]
            exact List.perm_middle
          refine ⟨rfl, clOk_iff.2 ⟨by rw [List.length_set]; exact h1, ?_, fun u hu => ?_⟩, fun hh => absurd rfl hh, fun _ => ?_⟩
          · rw [hm]
            refine binsOk_set h2 hnm (tasksOk_perm hp ?_) ?_
            · have hno := where_none hw
              simp only [tasksOk, Bool.and_eq_true, decide_eq_true_eq, List.all_eq_true] at ht b2 ⊢
              refine ⟨⟨⟨b2.1.1.1, ?_⟩, fun t hh => ?_⟩, ?_⟩
              · have := b2.1.1.2
                simp only [List.length_cons]; omega
              · rcases List.mem_cons.1 hh with rfl | hh
                · exact ht.1.2 _ (by simp)
                · exact b2.1.2 t hh
              · rw [List.map_cons, List.nodup_cons]
                refine ⟨fun hmem => ?_, b2.2⟩
                obtain ⟨t, ht1, ht2⟩ := List.mem_map.1 hmem
                exact hno t ht1 ht2
            · rw [load_snoc, map_snd_at hn]; exact hfit
          · rcases List.mem_or_eq_of_mem_set hu with hu | hu
            · exact h3 u hu
            · rw [hu]; exact .inl rfl
          · unfold totalP
            rw [hm, (flat_set hnm).length_eq, hp.length_eq, List.length_cons]
    · rw [cavP_twice h ht hw]; exact ⟨rfl, h, fun _ => rfl, fun hh => by simp at hh⟩

/-! ### Gathering -/
def rankU (us : List Un) (i : Nat) : Nat := ((us.take i).filter (·.1)).length
end
theorem rank_zero (us : List Un) : rankU us 0 = 0 := by simp [rankU]
theorem rank_succ {us : List Un} {i : Nat} (h : i < us.length) : rankU us (i + 1) = rankU us i + (if (us[i]?.getD (false, [])).1 = true then 1 else 0) := by
  unfold rankU
  rw [List.take_succ_eq_append_getElem h, List.filter_append, List.length_append, un_at h, List.filter_cons]
  split
  · rfl
  · rfl
theorem rank_cons (u : Un) (us : List Un) (i : Nat) : rankU (u :: us) (i + 1) = (if u.1 = true then 1 else 0) + rankU us i := by
  unfold rankU
  rw [List.take_succ_cons, List.filter_cons]
  split
  · rw [List.length_cons]; omega
  · omega
theorem rank_mono {us : List Un} {i j : Nat} (h : i ≤ j) : rankU us i ≤ rankU us j := by
  unfold rankU
  exact ((List.take_sublist_take_left h).filter _).length_le
theorem openB_cons (u : Un) (us : List Un) : openB (u :: us) = if u.1 = true then u.2 :: openB us else openB us := by
  unfold openB
  rw [List.filter_cons]
  split <;> rfl
theorem open_len (us : List Un) : (openB us).length = rankU us us.length := by simp [openB, rankU]
theorem open_at : ∀ {us : List Un} {i : Nat}, i < us.length → (us[i]?.getD (false, [])).1 = true → (openB us)[rankU us i]? = some (us[i]?.getD (false, [])).2
  | [], i, h, _ => by simp at h
  | u :: us, 0, _, ho => by
    have ho : u.1 = true := ho
    rw [rank_zero, openB_cons, if_pos ho]; rfl
  | u :: us, i + 1, h, ho => by
    have ih := open_at (us := us) (i := i) (by simpa using h) (by simpa using ho)
    rw [rank_cons, openB_cons]
    by_cases hu : u.1 = true
    · rw [if_pos hu, if_pos hu, Nat.add_comm, gS, ih]; rfl
    · rw [if_neg hu, if_neg hu, Nat.zero_add, ih]; rfl
theorem open_surj : ∀ {us : List Un} {a : Nat}, a < (openB us).length → ∃ i, i < us.length ∧ (us[i]?.getD (false, [])).1 = true ∧ rankU us i = a
  | [], a, h => by simp [openB] at h
  | u :: us, a, h => by
    rw [openB_cons] at h
    by_cases hu : u.1 = true
    · rw [if_pos hu] at h
      cases a with
      | zero => exact ⟨0, by simp, hu, rank_zero _⟩
      | succ a =>
        obtain ⟨i, h1, h2, h3⟩ := open_surj (us := us) (a := a) (by simpa using h)
        exact ⟨i + 1, by simpa using h1, by simpa using h2, by rw [rank_cons, if_pos hu, h3]; omega⟩
    · rw [if_neg hu] at h
      obtain ⟨i, h1, h2, h3⟩ := open_surj (us := us) (a := a) h
      exact ⟨i + 1, by simpa using h1, by simpa using h2, by rw [rank_cons, if_neg hu, h3]; omega⟩
theorem back_len : ∀ (us : List Un) (bs : List (List Tk)), (backU us bs).length = us.length
  | [], _ => rfl
  | u :: us, bs => by
    unfold backU
    split
    · rw [List.length_cons, back_len us, List.length_cons]
    · rw [List.length_cons, back_len us, List.length_cons]
theorem back_at : ∀ {us : List Un} {bs : List (List Tk)} {i : Nat}, i < us.length → (backU us bs)[i]?.getD (false, []) = if (us[i]?.getD (false, [])).1 = true then (true, bs[rankU us i]?.getD []) else us[i]?.getD (false, [])
  | [], bs, i, h => by simp at h
  | u :: us, bs, 0, _ => by
    unfold backU
    rw [rank_zero]
    by_cases hu : u.1 = true
    · rw [if_pos hu]
      simp only [gZ, Option.getD_some]
      rw [if_pos hu]
      cases bs <;> rfl
    · rw [if_neg hu]
      simp only [gZ, Option.getD_some]
      rw [if_neg hu]
  | u :: us, bs, i + 1, h => by
    unfold backU
    rw [rank_cons]
    by_cases hu : u.1 = true
    · rw [if_pos hu, if_pos hu]
      simp only [gS]
      rw [back_at (by simpa using h)]
      rw [show 1 + rankU us i = rankU us i + 1 by omega]
      cases bs with
      | nil => simp
      | cons b bs => rfl
    · rw [if_neg hu, if_neg hu]
      simp only [gS, Nat.zero_add]
      rw [back_at (by simpa using h)]
theorem back_flat : ∀ {us : List Un} {bs : List (List Tk)}, bs.length = (openB us).length → (∀ u ∈ us, u.1 = true ∨ u.2 = []) → ((backU us bs).map (·.2)).flatten = bs.flatten
  | [], bs, h, _ => by
    have : bs = [] := List.eq_nil_of_length_eq_zero (by rw [h]; rfl)
    rw [this]; rfl
  | u :: us, bs, h, hc => by
    rw [openB_cons] at h
    unfold backU
    by_cases hu : u.1 = true
    · rw [if_pos hu] at h ⊢
      cases bs with
      | nil => simp at h
      | cons b bs =>
        rw [List.map_cons, List.flatten_cons, List.flatten_cons]
        show b ++ _ = _
        rw [List.tail_cons, back_flat (by simpa using h) (fun u hu => hc u (by simp [hu]))]
    · rw [if_neg hu] at h ⊢
      have he : u.2 = [] := (hc u (by simp)).resolve_left hu
      rw [List.map_cons, List.flatten_cons, he, List.nil_append, back_flat h (fun u hu => hc u (by simp [hu]))]
theorem open_flat {us : List Un} (hc : ∀ u ∈ us, u.1 = true ∨ u.2 = []) : (openB us).flatten = (us.map (·.2)).flatten := by
  induction us with
  | nil => rfl
  | cons u us ih =>
    have ih := ih (fun u hu => hc u (by simp [hu]))
    rw [openB_cons, List.map_cons, List.flatten_cons]
    by_cases hu : u.1 = true
    · rw [if_pos hu, List.flatten_cons, ih]
    · rw [if_neg hu, ih, (hc u (by simp)).resolve_left hu, List.nil_append]
theorem open_ok {room : List Int} {us : List Un} (h : clOk room us = true) : binsOk room (openB us) = true := by
  obtain ⟨h1, h2, h3⟩ := clOk_iff.1 h
  obtain ⟨b1, b2, b3⟩ := binsOk_iff.1 h2
  have hl : (openB us).length ≤ us.length := by rw [open_len]; unfold rankU; rw [List.take_length]; exact List.length_filter_le _ _
  refine binsOk_iff.2 ⟨by omega, by rw [open_flat h3]; exact b2, fun a ha => ?_⟩
  obtain ⟨i, hi, ho, rfl⟩ := open_surj ha
  rw [open_at hi ho, Option.getD_some, ← map_snd_at hi]
  exact b3 i (by rw [List.length_map]; exact hi)
section
variable {room : List Int} {us : List Un} {most : Int}
theorem gather_facts (h : clOk room us = true) : clOk room (gatherU room us most) = true ∧ totalP (gatherU room us most) = totalP us ∧ (gatherU room us most).length = us.length ∧
    ∀ i, i < us.length → ((gatherU room us most)[i]?.getD (false, [])).1 = (us[i]?.getD (false, [])).1 ∧ ∀ t ∈ (us[i]?.getD (false, [])).2, ∃ b, b ≤ i ∧ t ∈ ((gatherU room us most)[b]?.getD (false, [])).2 := by
  obtain ⟨h1, h2, h3⟩ := clOk_iff.1 h
  have hob := open_ok h
  obtain ⟨f1, f2, f3, f4, _, _⟩ := gath_facts (room := room) most.toNat (openB us) hob
  have hlen : (gatherU room us most).length = us.length := back_len _ _
  have hfl : ((gatherU room us most).map (·.2)).flatten = (gathP room most.toNat (openB us)).flatten := back_flat f2 h3
  obtain ⟨g1, g2, g3⟩ := binsOk_iff.1 f1
  obtain ⟨b1, b2, b3⟩ := binsOk_iff.1 h2
  refine ⟨clOk_iff.2 ⟨by rw [hlen]; exact h1, binsOk_iff.2 ⟨by rw [List.length_map, hlen]; omega, by rw [hfl]; exact g2, fun i hi => ?_⟩, fun u hu => ?_⟩, ?_, hlen, fun i hi => ?_⟩
  · rw [List.length_map, hlen] at hi
    rw [map_snd_at (by rw [hlen]; exact hi)]
    unfold gatherU
    rw [back_at hi]
    by_cases ho : (us[i]?.getD (false, [])).1 = true
    · rw [if_pos ho]
      refine g3 _ ?_
      rw [f2]
      exact (List.getElem?_eq_some_iff.1 (open_at hi ho)).1
    · rw [if_neg ho, ← map_snd_at hi]
      exact b3 i (by rw [List.length_map]; exact hi)
  · obtain ⟨i, hi, rfl⟩ := List.getElem_of_mem hu
    rw [hlen] at hi
    rw [← un_at (by rw [hlen]; exact hi)]
    unfold gatherU
    rw [back_at hi]
    by_cases ho : (us[i]?.getD (false, [])).1 = true
    · rw [if_pos ho]; exact .inl rfl
    · rw [if_neg ho]; exact h3 _ (un_mem hi)
  · unfold totalP
    rw [hfl, f3.length_eq, open_flat h3]
  · constructor
    · unfold gatherU
      rw [back_at hi]
      split
      · rename_i ho; exact ho.symm
      · rfl
    · intro t ht
      have ho : (us[i]?.getD (false, [])).1 = true := by
        rcases h3 _ (un_mem hi) with ho | he
        · exact ho
        · rw [he] at ht; simp at ht
      obtain ⟨c, hc1, hc2⟩ := f4 (rankU us i) t (by rw [open_at hi ho]; exact ht)
      have hcl : c < (openB us).length := by have := (List.getElem?_eq_some_iff.1 (open_at hi ho)).1; omega
      obtain ⟨j, hj, hjo, rfl⟩ := open_surj hcl
      refine ⟨j, ?_, ?_⟩
      · rcases Nat.lt_or_ge i j with hlt | hge
        · have r1 := rank_mono (us := us) (i := i + 1) (j := j) hlt
          rw [rank_succ hi, if_pos ho] at r1
          omega
        · exact hge
      · unfold gatherU
        rw [back_at hj, if_pos hjo]
        exact hc2
end

/-! ### Requests -/
section
variable {room : List Int} {us : List Un} {r : Rq}
theorem req_bad (h : clOk room us = false) : reqP room us r = ([], [], 1) := by unfold reqP; rw [if_neg (by rw [h]; simp)]
theorem req_refuse (h : clOk room us = true) (hr : rqOk r = false) : reqP room us r = (room, us, 1) := by unfold reqP; rw [if_pos h, if_neg (by rw [hr]; simp)]
theorem rq_kind (hr : rqOk r = true) : r.kind = 1 ∨ r.kind = 2 ∨ r.kind = 3 ∨ r.kind = 4 ∨ r.kind = 5 := by
  unfold rqOk at hr
  split at hr
  · omega
  · split at hr
    · omega
    · split at hr
      · omega
      · split at hr
        · omega
        · cases hr
theorem req_arrive (h : clOk room us = true) (hr : rqOk r = true) (hk : r.kind = 1) : reqP room us r = cavP room us r.id r.xs r.grant := by unfold reqP; rw [if_pos h, if_pos hr, if_pos hk]
theorem req_depart (h : clOk room us = true) (hr : rqOk r = true) (hk : r.kind = 2) : reqP room us r = depP room us r.num := by unfold reqP; rw [if_pos h, if_pos hr, if_neg (by omega), if_pos hk]
theorem req_open (h : clOk room us = true) (hr : rqOk r = true) (hk : r.kind = 3) : reqP room us r = opnP room us r.num true := by unfold reqP; rw [if_pos h, if_pos hr, if_neg (by omega), if_neg (by omega), if_pos hk]
theorem req_close (h : clOk room us = true) (hr : rqOk r = true) (hk : r.kind = 4) : reqP room us r = opnP room us r.num false := by unfold reqP; rw [if_pos h, if_pos hr, if_neg (by omega), if_neg (by omega), if_neg (by omega), if_pos hk]
theorem req_gather (h : clOk room us = true) (hr : rqOk r = true) (hk : r.kind = 5) : reqP room us r = (room, gatherU room us r.num, 0) := by unfold reqP; rw [if_pos h, if_pos hr, if_neg (by omega), if_neg (by omega), if_neg (by omega), if_neg (by omega)]
def addP (r : Rq) (code : Int) : Int := (if code = 0 ∧ r.kind = 1 then 1 else 0) - (if code = 0 ∧ r.kind = 2 then 1 else 0)
theorem req_facts (h : clOk room us = true) : (reqP room us r).1 = room ∧ clOk room (reqP room us r).2.1 = true ∧ ((reqP room us r).2.2 ≠ 0 → (reqP room us r).2.1 = us) ∧ (totalP (reqP room us r).2.1 : Int) = totalP us + addP r (reqP room us r).2.2 := by
  cases hr : rqOk r with
  | false => rw [req_refuse h hr]; exact ⟨rfl, h, fun _ => rfl, by simp [addP]⟩
  | true =>
    rcases rq_kind hr with hk | hk | hk | hk | hk
    · rw [req_arrive h hr hk]
      obtain ⟨f1, f2, f3, f4⟩ := cav_facts (id := r.id) (xs := r.xs) (g := r.grant) h
      refine ⟨f1, f2, f3, ?_⟩
      unfold addP
      by_cases hc : (cavP room us r.id r.xs r.grant).2.2 = 0
      · have := f4 hc
        rw [if_pos ⟨hc, hk⟩, if_neg (by omega)]; omega
      · rw [f3 hc, if_neg (by omega), if_neg (by omega)]; omega
    · rw [req_depart h hr hk]
      obtain ⟨f1, f2, f3, f4⟩ := dep_facts (id := r.num) h
      refine ⟨f1, f2, f3, ?_⟩
      unfold addP
      by_cases hc : (depP room us r.num).2.2 = 0
      · have := f4 hc
        rw [if_neg (by omega), if_pos ⟨hc, hk⟩]; omega
      · rw [f3 hc, if_neg (by omega), if_neg (by omega)]; omega
    · rw [req_open h hr hk]
      obtain ⟨f1, f2, f3, f4⟩ := opn_facts (node := r.num) (op := true) h
      refine ⟨f1, f2, f3, ?_⟩
      unfold addP
      rw [f4, if_neg (by omega), if_neg (by omega)]; omega
    · rw [req_close h hr hk]
      obtain ⟨f1, f2, f3, f4⟩ := opn_facts (node := r.num) (op := false) h
      refine ⟨f1, f2, f3, ?_⟩
      unfold addP
      rw [f4, if_neg (by omega), if_neg (by omega)]; omega
    · rw [req_gather h hr hk]
      obtain ⟨f1, f2, f3, f4⟩ := gather_facts (most := r.num) h
      refine ⟨rfl, f1, fun hh => absurd rfl hh, ?_⟩
      unfold addP
      rw [if_neg (by omega), if_neg (by omega)]
      show (totalP (gatherU room us r.num) : Int) = _
      rw [f2]; omega
end

/-! ### Plays -/
section
variable {room : List Int}
end
end Go.Proofs.YtdkhdfedejbicaaGreatDoor

namespace Go.Proofs.YtdkhdfedejbicaaGreatDoor
set_option linter.unusedSimpArgs false
set_option linter.unusedVariables false
open Go Go.RowKit
attribute [local go_sem ↓] Go.wp_at_zero Go.wp_at_succ

theorem own_set1 {w : World} {base g n c i : Nat} {t : TypeId} {vs : List Value} (h : w.ownsRow base t 1 (.slice (some ⟨g, 0, none⟩) n c) n vs) (hi : i < n) (u : Value) :
    (w.setCell ⟨g, i, none⟩ u).ownsRow base t 1 (.slice (some ⟨g, 0, none⟩) n c) n (vs.set i u) := by
  have hl := h.1
  refine ⟨by rw [List.length_set]; exact hl, ?_⟩
  rcases h.2 with ⟨e, _⟩ | ⟨g', cap, cur, e, h1, h2, h3, h4, h5, h6⟩
  · cases e
  · injection e with e1 e2 e3
    injection e1 with e1
    injection e1 with e1
    subst e1 e3
    have hb := Blk.set_ (show Blk w g t cur from h2) i u
    refine .inr ⟨g, c, _, rfl, h1, hb, h3, h4, by rw [Array.size_setIfInBounds]; exact h5, ?_⟩
    rw [Array.toList_setIfInBounds, List.take_set, h6]
theorem own_blk {w : World} {base s g n c : Nat} {t : TypeId} {vs : List Value} (h : w.ownsRow base t s (.slice (some ⟨g, 0, none⟩) n c) n vs) : ∃ cur, Blk w g t cur ∧ base ≤ g := by
  rcases h.2 with ⟨e, _⟩ | ⟨g', cap, cur, e, h1, h2, h3, h4, h5, h6⟩
  · cases e
  · injection e with e1 e2 e3
    injection e1 with e1
    injection e1 with e1
    subst e1
    exact ⟨cur, h2, h1⟩

structure NodeX (w : World) (base : Nat) (A1 : Option Addr) (n1 c1 : Nat) (room : List Int) (A : Option Addr) (n c : Nat) (vs : List Value) (bs : List (List Tk)) : Prop where
  rm : w.ownsRow base 3 1 (.slice A1 n1 c1) n1 (room.map (Value.int .i64))
  own : w.ownsRow base 81 1 (.slice A n c) n vs
  nd : NdBR w base n vs bs
section
variable {w w' : World} {base n1 c1 n c : Nat} {A1 A : Option Addr} {room : List Int} {vs : List Value} {bs : List (List Tk)}
theorem NodeX.up (h : NodeX w base A1 n1 c1 room A n c vs bs) (hb : Below w.heap.size w w') : NodeX w' base A1 n1 c1 room A n c vs bs := ⟨own_up' h.rm hb, own_up' h.own hb, h.nd.keepTI (KeepTI.up hb)⟩
theorem NodeX.drew (h : NodeX w base A1 n1 c1 room A n c vs bs) : NodeX w.drew base A1 n1 c1 room A n c vs bs := h.up (Below.refl _ _).drew
theorem NodeX.rdR (h : NodeX w base A1 n1 c1 room A n c vs bs) : RdI w w.heap.size A1 n1 room := own_rdI h.rm (own_le h.rm)
theorem NodeX.rd (h : NodeX w base A1 n1 c1 room A n c vs bs) : RdB w w.heap.size A n bs := OwnBR.rd ⟨vs, h.own, h.nd⟩
end

def FarX (w w' : World) (vs vs' : List Value) : Prop :=
  (∀ b cs, Blk w b 75 cs → (∀ (a : Nat) (u : Value), vs[a]? = some u → u.ownBlock ≠ some b) → w'.heap[b]? = w.heap[b]?) ∧
  (∀ (a : Nat) (u : Value) (b : Nat), vs'[a]? = some u → u.ownBlock = some b → w.heap.size ≤ b ∨ ∃ (a' : Nat) (u' : Value), vs[a']? = some u' ∧ u'.ownBlock = some b)
section
variable {w w' : World} {vs : List Value}
theorem FarX.refl (w : World) (vs : List Value) : FarX w w vs vs := ⟨fun _ _ _ _ => rfl, fun a u b h1 h2 => .inr ⟨a, u, h1, h2⟩⟩
theorem FarX.trans {a b c : World} {v1 v2 v3 : List Value} (h : FarX a b v1 v2) (k : FarX b c v2 v3) (hs : a.heap.size ≤ b.heap.size) : FarX a c v1 v3 := by
  constructor
  · intro g cs hg hn
    have e := h.1 g cs hg hn
    refine (k.1 g cs (e.trans hg) (fun i u hu hb => ?_)).trans e
    rcases h.2 i u g hu hb with h1 | ⟨i', u', h1, h2⟩
    · have := hg.lt; omega
    · exact hn i' u' h1 h2
  · intro i u g hu hb
    rcases k.2 i u g hu hb with h1 | ⟨i', u', h1, h2⟩
    · exact .inl (by omega)
    · exact h.2 i' u' g h1 h2
theorem FarX.up (h : Below w.heap.size w w') : FarX w w' vs vs := ⟨fun _ _ hb _ => h.block _ hb.lt, fun a u b h1 h2 => .inr ⟨a, u, h1, h2⟩⟩
theorem FarX.step {a b c : World} {v1 v2 : List Value} (h : FarX a b v1 v2) (k : Below b.heap.size b c) (hs : a.heap.size ≤ b.heap.size) : FarX a c v1 v2 := h.trans (FarX.up k) hs
theorem FarX.drew {a b : World} {v1 v2 : List Value} (h : FarX a b v1 v2) : FarX a b.drew v1 v2 := h
theorem FarX.del {i gi m c : Nat} (hv : vs[i]? = some (.slice (some ⟨gi, 0, none⟩) m c)) (hoth : ∀ b, b ≠ gi → w'.heap[b]? = w.heap[b]?) : FarX w w' vs vs :=
  ⟨fun b cs _ hn => hoth b (fun e => hn i _ hv (by rw [e]; rfl)), fun a u b h1 h2 => .inr ⟨a, u, h1, h2⟩⟩
theorem FarX.cell {g x : Nat} {t : TypeId} {cs : Array Value} {y : Value} (hb : Blk w g t cs) (ht : t ≠ 75) : FarX w (w.setCell ⟨g, x, none⟩ y) vs vs :=
  ⟨fun b cs' hb' _ => Below.heap_setCell _ _ _ _ (by
    show b ≠ g
    rintro rfl
    unfold Blk at hb hb'
    rw [hb] at hb'
    injection hb' with e
    injection e with _ e
    exact ht e), fun a u b h1 h2 => .inr ⟨a, u, h1, h2⟩⟩
theorem FarX.list {a b : World} {v1 v2 : List Value} (h : FarX a b v1 v2) {i : Nat} {u0 u : Value} (hv : v2[i]? = some u0) (he : u.ownBlock = u0.ownBlock) : FarX a b v1 (v2.set i u) := ⟨h.1, fun k x g hx hg => by
  by_cases e : k = i
  · subst e
    have hlt := (List.getElem?_eq_some_iff.1 hv).1
    rw [List.getElem?_set_self hlt] at hx
    injection hx with hx
    subst hx
    exact h.2 k u0 g hv (he ▸ hg)
  · rw [List.getElem?_set_ne (fun y => e y.symm)] at hx
    exact h.2 k x g hx hg⟩
theorem FarX.app {j : Nat} {u0 u : Value} (hv : vs[j]? = some u0) (hg : w.grownBy w' u0.ownBlock) (hd : u.ownBlock = u0.ownBlock ∨ u.ownBlock = some w.heap.size) : FarX w w' vs (vs.set j u) :=
  ⟨fun b cs hb hn => hg.block b hb.lt (fun e => hn j u0 hv e.symm), fun k x g hx hgx => by
    by_cases e : k = j
    · subst e
      have hlt := (List.getElem?_eq_some_iff.1 hv).1
      rw [List.getElem?_set_self hlt] at hx
      injection hx with hx
      subst hx
      rcases hd with hd | hd
      · exact .inr ⟨k, u0, hv, hd ▸ hgx⟩
      · rw [hd] at hgx
        injection hgx with hgx
        exact .inl (by omega)
    · rw [List.getElem?_set_ne (fun y => e y.symm)] at hx
      exact .inr ⟨k, x, hx, hgx⟩⟩
end

set_option maxRecDepth 100000 in
set_option maxHeartbeats 1600000 in
theorem move_any (base i k j : Nat) (A1 A : Option Addr) (n1 c1 n c : Nat) (room : List Int) (bs : List (List Tk)) (vs : List Value) (t : Tk) (w : World) (h : NodeX w base A1 n1 c1 room A n c vs bs) (hbz : base ≤ w.heap.size) (hok : binsOk room bs = true) (hs : Step room bs (t.1, (j : Int)) i k j t) :
    Calls Tryz.prog 140 #[.slice A1 n1 c1, .slice A n c, .agg #[.int .i64 t.1, .int .i64 (j : Int)]] w fun e w' => e = .returned .nilIface ∧ ∃ vs', NodeX w' base A1 n1 c1 room A n c vs' (doP bs (t.1, (j : Int))) ∧ KeepX w w' ∧ FarX w w' vs vs' ∧ Below base w w' := by
  obtain ⟨i0, hi0, hz0, hz1, hz2⟩ := info_parts task_info
  obtain ⟨id, xs⟩ := t
  obtain ⟨b1, b2, b3⟩ := binsOk_iff.1 hok
  have hl : bs.length = n := h.nd.1
  have hn14 : n ≤ 14 := by omega
  have hin : i < n := by have := hs.hi; omega
  have hji := hs.hj
  have hjn : j < n := by omega
  have hr3 : 3 ≤ n1 := by
    have h3 : room.length = 3 := by
      simp only [tasksOk, roomOk, Bool.and_eq_true] at b2
      exact vecOk_len b2.1.1.1.1
    have := h.rdR.len; omega
  obtain ⟨g, curg, rfl, hbg, _⟩ := own_row h.own (by omega)
  have hfl := tasksOk_len b2
  have Hvec := qh (fun t ht => tasksOk_vec (t := t) b2 ht)
  have Hbin := qh (fun j (hj : j < n) => show (bs[j]?.getD []).length ≤ 14 from by have := (bin_sub (bs := bs) (i := j) (by omega)).length_le; omega)
  have Hs := qh hs
  have Hl := qh hl
  have m1 : ¬ (i : Int) < 0 := by omega
  have m2 : ((i : Int) == (j : Int)) = false := by simpa using (show ¬ (i : Int) = (j : Int) by omega)
  have m2' : ¬ (i : Int) = (j : Int) := by omega
  have m3 : IntKind.i64.wrap ((n : Int) - 1) = (n : Int) - 1 := wr64 (by omega) (by omega)
  have m4 : inR 0 ((n : Int) - 1) (j : Int) = true := inR_iff.2 ⟨by omega, by omega⟩
  have m5 : (0 : Int) ≤ (i : Int) := by omega
  have m6 : (i : Int) < (n : Int) := by omega
  have m7 : (0 : Int) ≤ (j : Int) := by omega
  have m8 : (j : Int) < (n : Int) := by omega
  have P1 := qh (Blk.new w 167 #[.int .i64 id, .int .i64 (j : Int)])
  have X1 := qh (h.up (alloc_up w (.cells #[.int .i64 id, .int .i64 (j : Int)] 167)))
  have K1 := qh ((KeepX.refl w).step (alloc_up w (.cells #[.int .i64 id, .int .i64 (j : Int)] 167)))
  have F1 := qh ((FarX.refl w vs).step (alloc_up w (.cells #[.int .i64 id, .int .i64 (j : Int)] 167)) (Nat.le_refl _))
  have z1 := qh (((alloc_up w (.cells #[.int .i64 id, .int .i64 (j : Int)] 167))).size)
  have B1 := qh ((alloc_up w (.cells #[.int .i64 id, .int .i64 (j : Int)] 167)).mono hbz)
  have lz1 : base ≤ (w.alloc (.cells #[.int .i64 id, .int .i64 (j : Int)] 167)).heap.size := Nat.le_trans hbz (alloc_up w _).size
  clear h hok hs b1 b2 b3 hfl hl
  go_enter Tryz.func140, Tryz.ntmps140
  have p0 := P1.out.cell 0
  simp only [gT, gZ] at p0
  go_wp2_with fail
  generalize hgm : w.heap.size = gm at P1 p0 ⊢
  generalize w.alloc (.cells #[.int .i64 id, .int .i64 (j : Int)] 167) = w1 at P1 X1 K1 F1 z1 B1 lz1 p0 ⊢
  refine (whereOf_any (some ⟨g, 0, none⟩) n c bs id w1 X1.out.rd).mono ?_; rintro e w2 ⟨rfl, hb2⟩
  rw [Hs.out.where_]
  have X2 := qh (X1.out.up hb2)
  have P2 := qh (P1.out.below hb2 P1.out.lt)
  have K2 := qh (K1.out.step hb2)
  have F2 := qh (F1.out.step hb2 z1.out)
  have z2 := qh (Nat.le_trans z1.out hb2.size)
  have B2 := qh (B1.out.trans (hb2.mono lz1))
  have lz2 : base ≤ w2.heap.size := Nat.le_trans lz1 hb2.size
  clear X1 P1 K1 F1 B1 hb2 p0 lz1
  have p1 := P2.out.cell 1
  simp only [gT, gZ, gS] at p1
  go_wp2_with fail
  refine (within_any (j : Int) 0 ((n : Int) - 1) w2).mono ?_; rintro e w3 ⟨rfl, rfl⟩
  rw [m4]
  go_wp2_with fail
  clear p1
  -- where it lies in its node
  obtain ⟨Ai, mi, ci, vi, hvi, hoi, hni⟩ := X2.out.nd.2.2.1 i hin
  have hmi : mi = (bs[i]?.getD []).length := hni.1.symm
  have hki : k < mi := by have := (List.getElem?_eq_some_iff.1 Hs.out.hk).1; omega
  have hmi14 : mi ≤ 14 := by have := Hbin.out i hin; omega
  obtain ⟨gi, curi, rfl, hbi, _⟩ := own_row hoi (by omega)
  have Hvi := qh hvi
  have Hoi := qh hoi
  have Hni := qh hni
  have Hop4 := qh (show ∀ W : World, Below w2.heap.size w2 W → W.cell? ⟨g, i, none⟩ = some (.slice (some ⟨gi, 0, none⟩) mi ci) ∧ W.cell? ⟨gm, 0, none⟩ = some (.int .i64 id) from fun W hW => by
    refine ⟨?_, (P2.out.below hW P2.out.lt).cell 0⟩
    have h1 := X2.out.own.cells (g := g) rfl i _ hvi
    rw [addr_add, Nat.zero_add] at h1
    exact (hW.cell (p := ⟨g, i, none⟩) (X2.out.own.lt g rfl).2).trans h1)
  clear hvi hoi hni hmi
  refine wp_region_mixL (.take 0 (.take 1 (.take 2 (.take 3 (.take 4 (.take 5 (.bar 6 (.bar 7 (.take 8 .nil))))))))) [] (fun w' => w'.cell? ⟨g, i, none⟩ = some (.slice (some ⟨gi, 0, none⟩) mi ci) ∧ w'.cell? ⟨gm, 0, none⟩ = some (.int .i64 id)) (by kernel_rfl) (by kernel_rfl) (Hop4.out _ (Below.refl _ _).drew) (fun _ => ?_)
  have U3 := qh ((Below.refl w2.heap.size w2).drew)
  have lz3 : w2.heap.size ≤ w2.drew.heap.size := Nat.le_refl _
  generalize w2.drew = w3 at U3 lz3 ⊢
  repeat ((first | refine lxS (by rfl) (by rfl) ?_ | (refine lxT (v := ?_) (by rfl) (by rfl) (fun z y => ?_) ?_; rotate_left; (focus ((try dsimp only at y); (go_simp <;> with_reducible rfl); done)))); (try simp only [Act.put,pS,pZ,pC]))
  (refine lxB (by rfl) (fun K hK => ?_); go_simp)
  refine (hasId_any id w3).mono ?_; rintro e w4 ⟨rfl, rfl⟩
  have y4 := (Blk.new w3 3 #[.int .i64 id]).cell 0
  simp only [gT, gZ] at y4
  have U4 := qh (U3.out.trans ((alloc_up w3 (.cells #[.int .i64 id] 3)).mono lz3))
  have lz4 : w2.heap.size ≤ (w3.alloc (.cells #[.int .i64 id] 3)).heap.size := Nat.le_trans lz3 (alloc_up w3 _).size
  ((try dsimp only); refine nxK hK _ _ (Hop4.out _ U4.out) ?_; clear hK K; (try simp only [Act.put,pS,pZ,pC]))
  generalize w3.heap.size = g4 at y4 ⊢
  generalize w3.alloc (.cells #[.int .i64 id] 3) = w4 at y4 U4 lz4 ⊢
  clear U3 lz3
  (refine lxB (by rfl) (fun K hK => ?_); go_simp)
  refine (indexT_any (some ⟨gi, 0, none⟩) mi ci g4 (bs[i]?.getD []) id w4 ((Hni.out.rd Hoi.out).up U4.out) y4).mono ?_; rintro e w5 ⟨rfl, hb5⟩
  rw [Hs.out.at_]
  have U5 := qh (U4.out.trans (hb5.mono lz4))
  ((try dsimp only); refine nxK hK _ _ (Hop4.out _ U5.out) ?_; clear hK K; (try simp only [Act.put,pS,pZ,pC]))
  repeat ((first | refine lxS (by rfl) (by rfl) ?_ | (refine lxT (v := ?_) (by rfl) (by rfl) (fun z y => ?_) ?_; rotate_left; (focus ((try dsimp only at y); (go_simp <;> with_reducible rfl); done)))); (try simp only [Act.put,pS,pZ,pC]))
  refine wpMixL_nil ?_
  clear hb5 U4 lz4 y4
  -- the task is read
  have X5 := qh (X2.out.up U5.out)
  have P5 := qh (P2.out.below U5.out P2.out.lt)
  have K5 := qh (K2.out.step U5.out)
  have F5 := qh (F2.out.step U5.out z2.out)
  have z5 := qh (Nat.le_trans z2.out U5.out.size)
  have B5 := qh (B2.out.trans (U5.out.mono lz2))
  have lz5 : base ≤ w5.heap.size := Nat.le_trans lz2 U5.out.size
  have Hoi5 := qh (own_up' Hoi.out U5.out)
  have Hni5 := qh (Hni.out.keepTI (KeepTI.up U5.out))
  obtain ⟨A3, m3', c3, e0, e1, e2⟩ := Hni5.out.2.2 k hki
  have hkt : (bs[i]?.getD [])[k]?.getD (0, []) = (id, xs) := by rw [Hs.out.hk]; rfl
  rw [hkt] at e0 e2
  have hvx : vecOk xs = true := Hvec.out (id, xs) Hs.out.mem
  have hm3 : m3' = 3 := by
    have h1 : xs.length = m3' := own_len e2
    have h2 := vecOk_len hvx
    omega
  subst hm3
  have Hvx := qh hvx
  have He2 := qh e2
  have d0 := Hoi5.out.cells (g := gi) rfl (k * 2) _ e0
  have d1 := Hoi5.out.cells (g := gi) rfl (k * 2 + 1) _ e1
  rw [addr_add, Nat.zero_add] at d0 d1
  obtain ⟨d2, d3⟩ := Hop4.out _ U5.out
  have m9 : (0 : Int) ≤ (k : Int) := by omega
  have m10 : (k : Int) < (mi : Int) := by omega
  have U6 := qh (alloc_up w5 (.cells #[.int .i64 id, .slice A3 3 c3] 75))
  have Y6 := qh (Blk.new w5 75 #[.int .i64 id, .slice A3 3 c3])
  clear e0 e1 e2 hkt hvx d3 X2 P2 K2 F2 B2 Hoi Hni Hop4 U5 lz2
  go_wp2_with fail
  have hgx0 : ∀ (a : Nat) (u : Value), vs[a]? = some u → ∀ b, u.ownBlock = some b → b < w5.heap.size := X5.out.nd.old
  have Hgx := qh hgx0
  have hgxg : g < w5.heap.size := (X5.out.own.lt g rfl).2
  have X6 := qh (X5.out.up U6.out)
  have P6 := qh (P5.out.below U6.out P5.out.lt)
  have K6 := qh (K5.out.step U6.out)
  have F6 := qh (F5.out.step U6.out z5.out)
  have z6 := qh (Nat.le_trans z5.out U6.out.size)
  have B6 := qh (B5.out.trans (U6.out.mono lz5))
  have lz6 : base ≤ (w5.alloc (.cells #[.int .i64 id, .slice A3 3 c3] 75)).heap.size := Nat.le_trans lz5 U6.out.size
  have Hoi6 := qh (own_up' Hoi5.out U6.out)
  have Hni6 := qh (Hni5.out.keepTI (KeepTI.up U6.out))
  have He6 := qh (own_up' He2.out U6.out)
  clear d0 d1 d2 hgx0 X5 P5 K5 F5 B5 lz5 Hoi5 Hni5 He2 U6
  generalize w5.heap.size = gx at Y6 Hgx hgxg ⊢
  generalize w5.alloc (.cells #[.int .i64 id, .slice A3 3 c3] 75) = w6 at Y6 X6 P6 K6 F6 z6 B6 lz6 Hoi6 Hni6 He6 ⊢
  -- there is room
  obtain ⟨Aj, mj, cj, vj, hvj, hoj, hnj⟩ := X6.out.nd.2.2.1 j hjn
  have hmj14 : mj ≤ 14 := by have := Hbin.out j hjn; have := hnj.1; omega
  have Hvj := qh hvj
  have Hoj := qh hoj
  have Hnj := qh hnj
  have Hop6 := qh (show ∀ W : World, Below w6.heap.size w6 W → W.cell? ⟨g, j, none⟩ = some (.slice Aj mj cj) ∧ W.cell? ⟨gm, 1, none⟩ = some (.int .i64 (j : Int)) ∧ W.cell? ⟨gx, 0, none⟩ = some (.int .i64 id) ∧ W.cell? ⟨gx, 1, none⟩ = some (.slice A3 3 c3) from fun W hW => by
    refine ⟨?_, (P6.out.below hW P6.out.lt).cell 1, (Y6.out.below hW Y6.out.lt).cell 0, (Y6.out.below hW Y6.out.lt).cell 1⟩
    have h1 := X6.out.own.cells (g := g) rfl j _ hvj
    rw [addr_add, Nat.zero_add] at h1
    exact (hW.cell (p := ⟨g, j, none⟩) (X6.out.own.lt g rfl).2).trans h1)
  clear hvj hoj hnj
  refine wp_region_mixL (.take 0 (.take 1 (.take 2 (.take 3 (.take 4 (.take 5 (.take 6 (.bar 7 (.take 8 .nil))))))))) [] (fun w' => w'.cell? ⟨g, j, none⟩ = some (.slice Aj mj cj) ∧ w'.cell? ⟨gm, 1, none⟩ = some (.int .i64 (j : Int)) ∧ w'.cell? ⟨gx, 0, none⟩ = some (.int .i64 id) ∧ w'.cell? ⟨gx, 1, none⟩ = some (.slice A3 3 c3)) (by kernel_rfl) (by kernel_rfl) (Hop6.out _ (Below.refl _ _).drew) (fun _ => ?_)
  have U7 := qh ((Below.refl w6.heap.size w6).drew)
  have lz7 : w6.heap.size ≤ w6.drew.heap.size := Nat.le_refl _
  generalize w6.drew = w7 at U7 lz7 ⊢
  repeat ((first | refine lxS (by rfl) (by rfl) ?_ | (refine lxT (v := ?_) (by rfl) (by rfl) (fun z y => ?_) ?_; rotate_left; (focus ((try dsimp only at y); (go_simp <;> with_reducible rfl); done)))); (try simp only [Act.put,pS,pZ,pC]))
  (refine lxB (by rfl) (fun K hK => ?_); go_simp)
  have Hvj3 := qh (show ∀ a, a < mj → vecOk ((bs[j]?.getD [])[a]?.getD (0, [])).2 = true from fun a ha => by
    have hla : a < (bs[j]?.getD []).length := by have := Hnj.out.1; omega
    refine Hvec.out _ ((bin_sub (bs := bs) (i := j) (by have := Hl.out; omega)).mem ?_)
    rw [List.getElem?_eq_getElem hla]
    exact List.getElem_mem hla)
  refine (hasRoom_any A1 Aj A3 n1 c1 mj cj c3 room (bs[j]?.getD []) id xs w7 (X6.out.rdR.up U7.out) ((Hnj.out.rd Hoj.out).up U7.out) ((own_rdI He6.out (own_le He6.out)).up U7.out) hr3 (by omega) (fun a ha => vecOk_len (Hvj3.out a ha)) (fun a x => ?_) (fun x _ => by have := vecOk_bd Hvx.out x; omega)).mono ?_
  · rcases Nat.lt_or_ge a mj with ha | ha
    · have := vecOk_bd (Hvj3.out a ha) x; omega
    · have hna : (bs[j]?.getD [])[a]? = none := List.getElem?_eq_none (by have := Hnj.out.1; omega)
      rw [hna]; simp
  rintro e w8 ⟨rfl, hb8⟩
  rw [show fits3 (add3 (loadP (bs[j]?.getD [])) xs) room = true from Hs.out.fits]
  have U8 := qh (U7.out.trans (hb8.mono lz7))
  ((try dsimp only); refine nxK hK _ _ (Hop6.out _ U8.out) ?_; clear hK K; (try simp only [Act.put,pS,pZ,pC]))
  repeat ((first | refine lxS (by rfl) (by rfl) ?_ | (refine lxT (v := ?_) (by rfl) (by rfl) (fun z y => ?_) ?_; rotate_left; (focus ((try dsimp only at y); (go_simp <;> with_reducible rfl); done)))); (try simp only [Act.put,pS,pZ,pC]))
  refine wpMixL_nil ?_
  clear hb8 U7 lz7
  -- the task is deleted
  have X8 := qh (X6.out.up U8.out)
  have P8 := qh (P6.out.below U8.out P6.out.lt)
  have Y8 := qh (Y6.out.below U8.out Y6.out.lt)
  have K8 := qh (K6.out.step U8.out)
  have F8 := qh (F6.out.step U8.out z6.out)
  have z8 := qh (Nat.le_trans z6.out U8.out.size)
  have B8 := qh (B6.out.trans (U8.out.mono lz6))
  have lz8 : base ≤ w8.heap.size := Nat.le_trans lz6 U8.out.size
  have Oi8 := qh (own_up' Hoi6.out U8.out)
  have Ni8 := qh (Hni6.out.keepTI (KeepTI.up U8.out))
  have He8 := qh (own_up' He6.out U8.out)
  have d0 := X8.out.own.cells (g := g) rfl i _ Hvi.out
  rw [addr_add, Nat.zero_add] at d0
  have m11 : IntKind.i64.wrap ((k : Int) + 1) = (k : Int) + 1 := wr64 (by omega) (by omega)
  clear X6 P6 Y6 K6 F6 B6 lz6 Hoi6 Hni6 He6 U8 Hop6 Hvj Hoj Hnj Hvj3
  go_wp2_with fail
  refine (delete_any base gi mi ci k vi (bs[i]?.getD []) w8 Oi8.out Ni8.out hki (by omega)).mono ?_; rintro e w9 ⟨rfl, hown9, hnd9, hoth, hbel9, hgr9⟩
  have hgne : g ≠ gi := fun e => by
    obtain ⟨cur, hc, _⟩ := own_blk X8.out.own
    exact own_blk_ne Oi8.out hc (by decide) (by rw [e]; rfl)
  have hxne : gx ≠ gi := fun e => by
    have := Hgx.out i _ Hvi.out gi rfl
    omega
  have hmne : gm ≠ gi := fun e => own_blk_ne Oi8.out P8.out (by decide) (by rw [e]; rfl)
  have hnei : ∀ b t cs, t ≠ 75 → Blk w8 b t cs → w9.heap[b]? = w8.heap[b]? := fun b t cs ht hc => hoth b (fun e => own_blk_ne Oi8.out hc (fun h => ht h.symm) (by rw [e]; rfl))
  have Rm9 := qh (own_keepB X8.out.rm (w' := w9) (fun b cs _ hc => hnei b _ cs (by decide) hc))
  have Ow9 := qh (own_keepB X8.out.own (w' := w9) (fun b cs _ hc => hnei b _ cs (by decide) hc))
  have He9 := qh (own_keepB He8.out (w' := w9) (fun b cs _ hc => hnei b _ cs (by decide) hc))
  have Nd9 := qh (X8.out.nd.grow (w' := w9) hin Hvi.out Oi8.out hgr9 hown9 hnd9 (.inl rfl))
  have P9 := qh (show Blk w9 gm 167 #[.int .i64 id, .int .i64 (j : Int)] from (hoth gm hmne).trans P8.out)
  have Y9 := qh (show Blk w9 gx 75 #[.int .i64 id, .slice A3 3 c3] from (hoth gx hxne).trans Y8.out)
  have K9 := qh (K8.out.grown Oi8.out hgr9 (.inl rfl))
  have F9 := qh (F8.out.trans (FarX.del Hvi.out hoth) z8.out)
  have z9 := qh (Nat.le_trans z8.out hgr9.size)
  have B9 := qh (B8.out.trans hbel9)
  have lz9 : base ≤ w9.heap.size := Nat.le_trans lz8 hgr9.size
  obtain ⟨curg9, hblk9, _⟩ := own_blk Ow9.out
  have f9 := hblk9.frozen i
  have c9 := Ow9.out.cells (g := g) rfl i _ Hvi.out
  rw [addr_add, Nat.zero_add] at c9
  have Hblk9 := qh hblk9
  clear hown9 hnd9 hoth hbel9 hgr9 hnei X8 P8 Y8 K8 F8 B8 lz8 Oi8 Ni8 He8 d0 hblk9
  go_wp2_with fail
  have hkt9 : KeepTI w9 (w9.setCell ⟨g, i, none⟩ (.slice (some ⟨gi, 0, none⟩) (mi - 1) ci)) := KeepTI.set_ Hblk9.out (by decide) (by decide) _ _
  have X10 := qh (show NodeX (w9.setCell ⟨g, i, none⟩ (.slice (some ⟨gi, 0, none⟩) (mi - 1) ci)) base A1 n1 c1 room (some ⟨g, 0, none⟩) n c (vs.set i (.slice (some ⟨gi, 0, none⟩) (mi - 1) ci)) (bs.set i ((bs[i]?.getD []).eraseIdx k)) from
    ⟨own_keepTI Rm9.out (.inl rfl) hkt9, own_set1 Ow9.out hin _, Nd9.out.keepTI hkt9⟩)
  have P10 := qh (P9.out.far (p := ⟨g, i, none⟩) (fun e => by
    have e' : gm = g := e
    have h1 := P9.out
    rw [e'] at h1
    unfold Blk at h1
    rw [Hblk9.out] at h1
    injection h1 with h1
    injection h1 with _ h1
    cases h1) (.slice (some ⟨gi, 0, none⟩) (mi - 1) ci))
  have Y10 := qh (Y9.out.far (p := ⟨g, i, none⟩) (by show gx ≠ g; omega) (.slice (some ⟨gi, 0, none⟩) (mi - 1) ci))
  have He10 := qh (own_keepTI He9.out (.inl rfl) hkt9)
  have K10 := qh (K9.out.set_ Hblk9.out (.inr rfl) i (.slice (some ⟨gi, 0, none⟩) (mi - 1) ci))
  have F10 := qh (((F9.out.trans (FarX.cell (x := i) (y := .slice (some ⟨gi, 0, none⟩) (mi - 1) ci) Hblk9.out (by decide)) z9.out)).list Hvi.out (u := .slice (some ⟨gi, 0, none⟩) (mi - 1) ci) rfl)
  have z10 := qh (show w.heap.size ≤ (w9.setCell ⟨g, i, none⟩ (.slice (some ⟨gi, 0, none⟩) (mi - 1) ci)).heap.size from by have := z9.out; simp [World.setCell]; omega)
  have B10 := qh (B9.out.setCell (p := ⟨g, i, none⟩) hbg (.slice (some ⟨gi, 0, none⟩) (mi - 1) ci))
  have lz10 : base ≤ (w9.setCell ⟨g, i, none⟩ (.slice (some ⟨gi, 0, none⟩) (mi - 1) ci)).heap.size := by simp [World.setCell]; omega
  have Hgx10 := qh (show ∀ (a : Nat) (u : Value), (vs.set i (.slice (some ⟨gi, 0, none⟩) (mi - 1) ci))[a]? = some u → ∀ b, u.ownBlock = some b → b < gx from fun a u hu b hb => by
    by_cases e : a = i
    · subst e
      rw [List.getElem?_set_self (by have := Ow9.out.1; omega)] at hu
      injection hu with hu
      subst hu
      exact Hgx.out a _ Hvi.out b hb
    · rw [List.getElem?_set_ne (fun x => e x.symm)] at hu
      exact Hgx.out a u hu b hb)
  clear hkt9 Rm9 Ow9 He9 Nd9 P9 Y9 K9 F9 B9 lz9 f9 c9 Hblk9 Hgx Hvi
  have hji' : (bs.set i ((bs[i]?.getD []).eraseIdx k))[j]?.getD [] = bs[j]?.getD [] := by rw [List.getElem?_set_ne (by omega)]
  have hlv : (vs.set i (.slice (some ⟨gi, 0, none⟩) (mi - 1) ci)).length = n := X10.out.nd.2.1
  generalize vs.set i (.slice (some ⟨gi, 0, none⟩) (mi - 1) ci) = vs1 at X10 Hgx10 hlv F10 z10
  generalize w9.setCell ⟨g, i, none⟩ (.slice (some ⟨gi, 0, none⟩) (mi - 1) ci) = w10 at z10 X10 P10 Y10 He10 K10 F10 B10 lz10 ⊢
  -- the task is appended
  obtain ⟨Ak, mk, ck, vk, hvk, hok, hnk⟩ := X10.out.nd.2.2.1 j hjn
  rw [hji'] at hnk
  have Hji := qh hji'
  have hmk14 : mk ≤ 14 := by have := Hbin.out j hjn; have := hnk.1; omega
  have Hvk := qh hvk
  have Hok := qh hok
  have Hnk := qh hnk
  have Hop := qh (show ∀ W : World, Below w10.heap.size w10 W → W.cell? ⟨g, j, none⟩ = some (.slice Ak mk ck) ∧ W.cell? ⟨gm, 1, none⟩ = some (.int .i64 (j : Int)) ∧ W.cell? ⟨gx, 0, none⟩ = some (.int .i64 id) ∧ W.cell? ⟨gx, 1, none⟩ = some (.slice A3 3 c3) from fun W hW => by
    refine ⟨?_, (P10.out.below hW P10.out.lt).cell 1, (Y10.out.below hW Y10.out.lt).cell 0, (Y10.out.below hW Y10.out.lt).cell 1⟩
    have h1 := X10.out.own.cells (g := g) rfl j _ hvk
    rw [addr_add, Nat.zero_add] at h1
    exact (hW.cell (p := ⟨g, j, none⟩) (X10.out.own.lt g rfl).2).trans h1)
  clear hvk hok hnk hji'
  refine wp_region_mixL (.take 0 (.take 1 (.take 2 (.take 3 (.take 4 (.take 5 (.take 6 (.take 7 (.take 8 (.bar 9 (.bar 10 (.take 11 (.last 12 .nil))))))))))))) [12] (fun w' => w'.cell? ⟨g, j, none⟩ = some (.slice Ak mk ck) ∧ w'.cell? ⟨gm, 1, none⟩ = some (.int .i64 (j : Int)) ∧ w'.cell? ⟨gx, 0, none⟩ = some (.int .i64 id) ∧ w'.cell? ⟨gx, 1, none⟩ = some (.slice A3 3 c3)) (by kernel_rfl) (by kernel_rfl) (Hop.out _ (Below.refl _ _).drew) (fun _ => ?_)
  have X11 := qh X10.out.drew
  have Ok11 := qh (World.ownsRow.drew Hok.out)
  have Nk11 := qh (Hnk.out.keepTI (KeepTI.drew w10))
  have He11 := qh (World.ownsRow.drew He10.out)
  have P11 := qh P10.out.drew
  have Y11 := qh Y10.out.drew
  have K11 := qh K10.out.drew
  have F11 := qh F10.out.drew
  have z11 := qh (show w.heap.size ≤ w10.drew.heap.size from z10.out)
  have B11 := qh B10.out.drew
  have U11 := qh ((Below.refl w10.heap.size w10).drew)
  have lz11 : base ≤ w10.drew.heap.size := lz10
  have le11 : w10.heap.size ≤ w10.drew.heap.size := Nat.le_refl _
  generalize w10.drew = u1 at z11 X11 Ok11 Nk11 He11 P11 Y11 K11 F11 B11 U11 lz11 le11 ⊢
  clear Hok Hnk He10 P10 Y10 K10 F10 B10 lz10
  repeat ((first | refine lxS (by rfl) (by rfl) ?_ | (refine lxT (v := ?_) (by rfl) (by rfl) (fun z y => ?_) ?_; rotate_left; (focus ((try dsimp only at y); (go_simp <;> with_reducible rfl); done)))); (try simp only [Act.put,pS,pZ,pC]))
  (refine lxB (by rfl) (fun K hK => ?_); go_simp)
  have al2 := alloc_up u1 (.cells #[.int .i64 id, .slice A3 3 c3] 75)
  have U2 := qh (U11.out.trans (al2.mono le11))
  have X2 := qh (X11.out.up al2)
  have K2 := qh (K11.out.step al2)
  have F2 := qh (F11.out.step al2 z11.out)
  have z2 := qh (Nat.le_trans z11.out al2.size)
  have B2 := qh (B11.out.trans (al2.mono lz11))
  have O2 := qh (own_up' Ok11.out al2)
  have N2 := qh (Nk11.out.keepTI (KeepTI.up al2))
  have Ox2 := qh (own_up' He11.out al2)
  have P2 := qh (P11.out.below al2 P11.out.lt)
  have Y2 := qh (Y11.out.below al2 Y11.out.lt)
  have S2 := qh (lit2 u1 75 (.int .i64 id) (.slice A3 3 c3))
  have lu2 : base ≤ (u1.alloc (.cells #[.int .i64 id, .slice A3 3 c3] 75)).heap.size := Nat.le_trans lz11 al2.size
  ((try dsimp only); refine nxK hK _ _ (Hop.out _ U2.out) ?_; clear hK K; (try simp only [Act.put,pS,pZ,pC]))
  clear al2 X11 Ok11 Nk11 He11 P11 Y11 K11 F11 B11 U11 lz11 le11
  generalize u1.heap.size = gs at S2 ⊢
  generalize u1.alloc (.cells #[.int .i64 id, .slice A3 3 c3] 75) = u2 at z2 U2 X2 K2 F2 B2 O2 N2 Ox2 P2 Y2 S2 lu2 ⊢
  refine lxB (by rfl) (fun K hK => ?_)
  rw [if_pos (by rfl)]
  refine wp_append_src _ _ _ 81 (by rfl) base 75 i0 _ 2 32 Tryz.underlying81 hi0 hz0 hz1 hz2 rfl (by omega) (.slice Ak mk ck) mk vk (by rfl) O2.out (some ⟨gs, 0, none⟩) 1 1 [.int .i64 id, .slice A3 3 c3] (by rfl) S2.out (one2 _ _ rfl rfl) (by unfold maxLen; omega) (by omega) lu2 ?_
  intro v6 u3 hown6 hgrow6 hrow6
  obtain ⟨A8, c8, rfl⟩ := own_shape hown6
  have hnei : ∀ b t cs, t ≠ 75 → Blk u2 b t cs → u3.heap[b]? = u2.heap[b]? := fun b t cs ht hc => hgrow6.block b hc.lt (fun e => own_blk_ne O2.out hc (fun h => ht h.symm) e.symm)
  have Rm3 := qh (own_keepB X2.out.rm (w' := u3) (fun b cs _ hc => hnei b _ cs (by decide) hc))
  have Ow3 := qh (own_keepB X2.out.own (w' := u3) (fun b cs _ hc => hnei b _ cs (by decide) hc))
  have N3 := qh ((N2.out.snoc (id := id) Ox2.out).grown O2.out (by decide) hgrow6)
  have Nd3 := qh (X2.out.nd.grow (w' := u3) hjn Hvk.out O2.out hgrow6 hown6 N3.out (by
    rcases hrow6 with h | h
    · exact .inl h
    · exact .inr h))
  have P3 := qh (show Blk u3 gm 167 #[.int .i64 id, .int .i64 (j : Int)] from (hnei gm _ _ (by decide) P2.out).trans P2.out)
  have Y3 := qh (show Blk u3 gx 75 #[.int .i64 id, .slice A3 3 c3] from (hgrow6.block gx Y2.out.lt (fun e => by
    have := Hgx10.out j _ Hvk.out gx e.symm
    omega)).trans Y2.out)
  have K3 := qh (K2.out.grown O2.out hgrow6 (.inl rfl))
  have F3 := qh (F2.out.trans (FarX.app Hvk.out hgrow6 (u := .slice A8 (mk + 1) c8) (by
    rcases hrow6 with h | h
    · exact .inl h
    · exact .inr h)) z2.out)
  have z3 := qh (Nat.le_trans z2.out hgrow6.size)
  have B3 := qh (B2.out.grown hgrow6 lu2 (fun a e => (O2.out.lt a e).1))
  obtain ⟨curg3, hblk3, _⟩ := own_blk Ow3.out
  have f3 := hblk3.frozen j
  have c3' := Ow3.out.cells (g := g) rfl j _ Hvk.out
  rw [addr_add, Nat.zero_add] at c3'
  have Hblk3 := qh hblk3
  ((try dsimp only); refine nxK hK _ _ (⟨c3', P3.out.cell 1, Y3.out.cell 0, Y3.out.cell 1⟩) ?_; clear hK K; (try simp only [Act.put,pS,pZ,pC]))
  clear hown6 hgrow6 hrow6 hnei X2 K2 F2 B2 O2 N2 Ox2 P2 Y2 S2 U2 N3 hblk3
  repeat ((first | refine lxS (by rfl) (by rfl) ?_ | (refine lxT (v := ?_) (by rfl) (by rfl) (fun z y => ?_) ?_; rotate_left; (focus ((try dsimp only at y); (go_simp <;> with_reducible rfl); done)))); (try simp only [Act.put,pS,pZ,pC]))
  (refine wpMixL_last (by rfl) (fun K hK => ?_); go_simp)
  ((try dsimp only); refine hK.out _ _ ?_; clear hK K; (try simp only [Act.put,pS,pZ,pC]))
  refine wpMixL_nil ?_
  have hkt3 : KeepTI u3 (u3.setCell ⟨g, j, none⟩ (.slice A8 (mk + 1) c8)) := KeepTI.set_ Hblk3.out (by decide) (by decide) _ _
  have hd : doP bs (id, (j : Int)) = (bs.set i ((bs[i]?.getD []).eraseIdx k)).set j (bs[j]?.getD [] ++ [(id, xs)]) := Hs.out.out
  have X4 := qh (show NodeX (u3.setCell ⟨g, j, none⟩ (.slice A8 (mk + 1) c8)) base A1 n1 c1 room (some ⟨g, 0, none⟩) n c (vs1.set j (.slice A8 (mk + 1) c8)) (doP bs (id, (j : Int))) from by
    rw [hd]
    exact ⟨own_keepTI Rm3.out (.inl rfl) hkt3, own_set1 Ow3.out hjn _, Nd3.out.keepTI hkt3⟩)
  have K4 := qh (K3.out.set_ Hblk3.out (.inr rfl) j (.slice A8 (mk + 1) c8))
  have F4 := qh (F3.out.trans (FarX.cell (x := j) (y := .slice A8 (mk + 1) c8) Hblk3.out (by decide)) z3.out)
  have B4 := qh (B3.out.setCell (p := ⟨g, j, none⟩) hbg (.slice A8 (mk + 1) c8))
  generalize u3.setCell ⟨g, j, none⟩ (.slice A8 (mk + 1) c8) = u4 at X4 K4 F4 B4 ⊢
  clear hkt3 hd Rm3 Ow3 Nd3 P3 Y3 K3 F3 B3 f3 c3' Hblk3
  go_wp2_with fail
  go_ret
  exact ⟨rfl, _, X4.out, K4.out, F4.out, B4.out⟩
end Go.Proofs.YtdkhdfedejbicaaGreatDoor

namespace Go.Proofs.YtdkhdfedejbicaaGreatDoor
set_option linter.unusedSimpArgs false
set_option linter.unusedVariables false
open Go Go.RowKit
attribute [local go_sem ↓] Go.wp_at_zero Go.wp_at_succ

theorem KeepX.late {a b c : World} {s m : Nat} {t : TypeId} {r : Value} {xs : List Value} (h : KeepX a b) (ho : b.ownsRow a.heap.size t s r m xs) (hg : b.grownBy c r.ownBlock) : KeepX a c := fun g t' cs h1 h2 hb => by
  have e := h g t' cs h1 h2 hb
  have hb2 : Blk b g t' cs := e.trans hb
  refine (hg.block g hb2.lt (fun e' => ?_)).trans e
  have h3 := (ho.lt g e'.symm).1
  have h4 := hb.lt
  omega
theorem NodeX.grown {w w' : World} {base base' s m n1 c1 n c : Nat} {A1 A : Option Addr} {room : List Int} {vs : List Value} {bs : List (List Tk)} {t : TypeId} {r : Value} {xs : List Value} (h : NodeX w base A1 n1 c1 room A n c vs bs) (ho : w.ownsRow base' t s r m xs) (hg : w.grownBy w' r.ownBlock)
    (h1 : t ≠ 3) (h2 : t ≠ 75) (h3 : t ≠ 81) : NodeX w' base A1 n1 c1 room A n c vs bs :=
  have k := KeepTI.grown ho hg h1 h2
  ⟨own_keepTI h.rm (.inl rfl) k, own_keepB h.own (fun b cs _ hc => hg.block b hc.lt (fun e => own_blk_ne ho hc h3 e.symm)), h.nd.keepTI k⟩
theorem FarX.other {w w' : World} {base s m : Nat} {t : TypeId} {r : Value} {xs vs : List Value} (ho : w.ownsRow base t s r m xs) (hg : w.grownBy w' r.ownBlock) (ht : t ≠ 75) : FarX w w' vs vs :=
  ⟨fun b cs hb _ => hg.block b hb.lt (fun e => own_blk_ne ho hb ht e.symm), fun a u b h1 h2 => .inr ⟨a, u, h1, h2⟩⟩
theorem move_info : (Tryz.prog.info? 167).map (fun i => (i.zero, i.size, i.bytes)) = some (some (.agg #[.int .i64 0, .int .i64 0]), 2, 16) := by kernel_rfl

set_option maxRecDepth 100000 in
set_option maxHeartbeats 1600000 in
theorem plan_any (base : Nat) (A1 A : Option Addr) (n1 c1 n c : Nat) (room : List Int) (bs : List (List Tk)) (vs : List Value) (most : Nat) (w : World) (h : NodeX w base A1 n1 c1 room A n c vs bs) (hbz : base ≤ w.heap.size) (hok : binsOk room bs = true) (hm : most ≤ 20) :
    Calls Tryz.prog 104 #[.slice A1 n1 c1, .slice A n c, .int .i64 (most : Int)] w fun e w' => ∃ v, e = .returned v ∧ ∃ vs', NodeX w' base A1 n1 c1 room A n c vs' (gathP room most bs) ∧ KeepX w w' ∧ FarX w w' vs vs' ∧ Below base w w' := by
  obtain ⟨i0, hi0, hz0, hz1, hz2⟩ := info_parts move_info
  have hcn := own_cap' h.own
  have O1 := qh (show (w.alloc (.cells #[] 167)).ownsRow w.heap.size 167 2 (.slice (some ⟨w.heap.size, 0, none⟩) 0 0) 0 [] from World.ownsRow_lit w #[] 0 (Nat.le_refl _) (by unfold maxLen; omega) rfl)
  have B1 := qh ((alloc_up w (.cells #[] 167)).mono hbz)
  have K1 := qh ((KeepX.refl w).step (alloc_up w (.cells #[] 167)))
  have F1 := qh ((FarX.refl w vs).step (alloc_up w (.cells #[] 167)) (Nat.le_refl _))
  have X1 := qh (h.up (alloc_up w (.cells #[] 167)))
  have lz1 : base ≤ (w.alloc (.cells #[] 167)).heap.size := Nat.le_trans hbz (alloc_up w _).size
  have Hok := qh hok
  clear h hok
  go_enter Tryz.func104, Tryz.ntmps104
  go_wp2_with fail
  generalize w.alloc (.cells #[] 167) = w1 at O1 B1 K1 F1 X1 lz1 ⊢
  go_loopw [7] (fun v wr => ∃ (q : Nat) (A7 : Option Addr) (c7 : Nat) (vs7 : List Value) (vs' : List Value) (bs' : List (List Tk)), v = .slice A7 q c7 ∧ q ≤ most ∧ wr.ownsRow w.heap.size 167 2 (.slice A7 q c7) q vs7 ∧ NodeX wr base A1 n1 c1 room A n c vs' bs' ∧ binsOk room bs' = true ∧
    gathP room (most - q) bs' = gathP room most bs ∧ KeepX w wr ∧ FarX w wr vs vs' ∧ Below base w wr ∧ w.heap.size ≤ wr.heap.size) (fun v _ => match v with | .slice _ k _ => most - k | _ => 0)
  case atStart => exact ⟨0, _, _, _, vs, bs, rfl, Nat.zero_le _, O1.out, X1.out, Hok.out, rfl, K1.out, F1.out, B1.out, B1.out.size⟩
  case round =>
    clear O1 B1 K1 F1 X1 Hok lz1
    obtain ⟨q, A7, c7, vs7, vs', bs', rfl, hq, hown, hx, hok, hg, hk, hf, hb, lzw⟩ := hrel
    have Hf := qh hf
    have lz : base ≤ wr.heap.size := Nat.le_trans hbz lzw
    have Hown := qh hown
    have Hx := qh hx
    have Hok := qh hok
    have Hg := qh hg
    have Hk := qh hk
    have Hb := qh hb
    clear hown hx hok hg hk hf hb
    by_cases hlt : q < most
    · have q1 : (q : Int) < (most : Int) := by omega
      go_wp2_with fail
      refine (nextMove_any A1 A n1 c1 n c room bs' wr Hx.out.rdR Hx.out.rd hcn Hok.out).mono ?_; rintro e w2 ⟨hne, hb2⟩
      have X2 := qh (Hx.out.up hb2)
      have O2 := qh (own_up' Hown.out hb2)
      have K2 := qh (Hk.out.step hb2)
      have F2 := qh (Hf.out.step hb2 lzw)
      have zw2 : w.heap.size ≤ w2.heap.size := Nat.le_trans lzw hb2.size
      have B2 := qh (Hb.out.trans (hb2.mono lz))
      have lz2 : base ≤ w2.heap.size := Nat.le_trans lz hb2.size
      clear Hx Hown Hk Hf Hb hb2 lz lzw
      cases hnx : nextP room bs' with
      | none =>
        rw [hnx] at hne
        obtain rfl := hne
        have Hnx := qh hnx
        have al := alloc_up w2 (.cells #[.int .i64 0, .int .i64 0] 167)
        have X3 := qh (X2.out.up al)
        have K3 := qh (K2.out.step al)
        have F3 := qh (F2.out.step al zw2)
        have B3 := qh (B2.out.trans (al.mono lz2))
        clear hnx al
        go_wp2_with fail
        go_ret
        refine ⟨_, rfl, vs', ?_, K3.out, F3.out, B3.out⟩
        have e : gathP room most bs = bs' := by
          rw [← Hg.out]
          obtain ⟨r, hr⟩ : ∃ r, most - q = r + 1 := ⟨most - q - 1, by omega⟩
          rw [hr, gathP, Hnx.out]
        rw [e]
        exact X3.out
      | some m =>
        rw [hnx] at hne
        obtain rfl := hne
        obtain ⟨i, k, j, t, hs⟩ := next_step Hok.out hnx
        have Hnx := qh hnx
        have em := hs.mv
        subst em
        have Hs := qh hs
        have al := alloc_up w2 (.cells #[.int .i64 t.1, .int .i64 (j : Int)] 167)
        have X3 := qh (X2.out.up al)
        have O3 := qh (own_up' O2.out al)
        have K3 := qh (K2.out.step al)
        have F3 := qh (F2.out.step al zw2)
        have B3 := qh (B2.out.trans (al.mono lz2))
        have zw3 : w.heap.size ≤ (w2.alloc (.cells #[.int .i64 t.1, .int .i64 (j : Int)] 167)).heap.size := Nat.le_trans zw2 al.size
        have P3 := qh (Blk.new w2 167 #[.int .i64 t.1, .int .i64 (j : Int)])
        have lz3 : base ≤ (w2.alloc (.cells #[.int .i64 t.1, .int .i64 (j : Int)] 167)).heap.size := Nat.le_trans lz2 al.size
        clear hnx hs al
        have p0 := P3.out.cell 0
        have p1 := P3.out.cell 1
        simp only [gT, gZ, gS] at p0 p1
        dsimp only
        go_wp2_with fail
        generalize w2.heap.size = gm at P3 p0 p1 ⊢
        generalize w2.alloc (.cells #[.int .i64 t.1, .int .i64 (j : Int)] 167) = w3 at X3 O3 K3 F3 B3 P3 lz3 zw3 p0 p1 ⊢
        clear X2 O2 K2 F2 B2 lz2 zw2
        refine (move_any base i k j A1 A n1 c1 n c room bs' vs' t w3 X3.out lz3 Hok.out Hs.out).mono ?_; rintro e w4 ⟨rfl, vs4, hx4, hk4, hf4, hb4⟩
        have X4 := qh hx4
        have O4 := qh (hk4.own O3.out (by decide) (by decide))
        have P4 := qh (hk4.blk P3.out (by decide) (by decide))
        have K4 := qh (K3.out.trans hk4)
        have F4 := qh (F3.out.trans hf4 zw3)
        have B4 := qh (B3.out.trans hb4)
        have zw4 : w.heap.size ≤ w4.heap.size := Nat.le_trans zw3 hb4.size
        have lz4 : base ≤ w4.heap.size := Nat.le_trans lz3 hb4.size
        clear hx4 hk4 hf4 hb4 X3 O3 K3 F3 B3 P3 lz3 zw3 p0 p1
        have p0 := P4.out.cell 0
        have p1 := P4.out.cell 1
        simp only [gT, gZ, gS] at p0 p1
        have al5 := alloc_up w4 (.cells #[.int .i64 t.1, .int .i64 (j : Int)] 167)
        have O5 := qh (own_up' O4.out al5)
        have S5 := qh (lit2 w4 167 (.int .i64 t.1) (.int .i64 (j : Int)))
        have lz5 : base ≤ (w4.alloc (.cells #[.int .i64 t.1, .int .i64 (j : Int)] 167)).heap.size := Nat.le_trans lz4 al5.size
        have X5 := qh (X4.out.up al5)
        have K5 := qh (K4.out.step al5)
        have F5 := qh (F4.out.step al5 zw4)
        have B5 := qh (B4.out.trans (al5.mono lz4))
        clear al5
        go_wp2_with (at_builtin; refine wpList_append_src _ rfl _ _ 136 rfl w.heap.size 167 i0 _ 2 16 Tryz.underlying136 hi0 hz0 hz1 hz2 rfl (by omega) (.slice A7 q c7) q vs7 rfl O5.out (some ⟨w4.heap.size, 0, none⟩) 1 1 [.int .i64 t.1, .int .i64 (j : Int)] rfl S5.out (one2 _ _ rfl rfl) (by unfold maxLen; omega) (by omega) B5.out.size ?_; intro v' wn hown6 hgrow6 hat6; obtain ⟨A8, c8, rfl⟩ := own_shape hown6)
        have X6 := qh (X5.out.grown O5.out hgrow6 (by decide) (by decide) (by decide))
        have K6 := qh (K5.out.late O5.out hgrow6)
        have F6 := qh (F5.out.trans (FarX.other O5.out hgrow6 (by decide)) B5.out.size)
        have B6 := qh (B5.out.grown hgrow6 lz5 (fun a e => Nat.le_trans hbz (O5.out.lt a e).1))
        refine ⟨⟨q + 1, A8, c8, _, vs4, _, rfl, by omega, hown6, X6.out, Hs.out.ok Hok.out, ?_, K6.out, F6.out, B6.out, B6.out.size⟩, by show most - (q + 1) < most - q; omega⟩
        rw [← Hg.out]
        obtain ⟨r, hr⟩ : ∃ r, most - q = r + 1 := ⟨most - q - 1, by omega⟩
        rw [hr, gathP, Hnx.out, show most - (q + 1) = r by omega]
    · obtain rfl : q = most := by omega
      go_wp2_with fail
      go_ret
      refine ⟨_, rfl, vs', ?_, Hk.out, Hf.out, Hb.out⟩
      have e : gathP room q bs = bs' := by
        rw [← Hg.out, Nat.sub_self]; rfl
      rw [e]
      exact Hx.out
end Go.Proofs.YtdkhdfedejbicaaGreatDoor
