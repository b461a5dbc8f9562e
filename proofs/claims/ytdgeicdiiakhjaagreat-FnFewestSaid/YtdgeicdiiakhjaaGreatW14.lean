/- Several texts in one. -/
import Derived.Test.YtdgeicdiiakhjaaGreatW13
import Derived.Test.YtdgeicdiiakhjaaGreatW8
import Derived.Laws.CopyOwn
import Derived.Laws.IdiomCopy
import Derived.ArgAppend
namespace Go.Proofs.YtdgeicdiiakhjaaGreat
set_option linter.unusedSimpArgs false
set_option linter.unusedVariables false

section
variable {room : List Int} {us : List Un} {bs : List (List Tk)} {r : Rq} {id : Int} {xs : List Int} {g op : Bool} {k i : Nat}

theorem clOk_iff : clOk room us = true ↔ (1 ≤ us.length ∧ us.length ≤ 10) ∧ binsOk room (us.map (·.2)) = true ∧ ∀ u ∈ us, u.1 = true ∨ u.2 = [] := by
  simp only [clOk, Bool.and_eq_true, decide_eq_true_eq, List.all_eq_true, Bool.or_eq_true, List.isEmpty_iff, and_assoc]
theorem un_at (h : i < us.length) : us[i]?.getD (false, []) = us[i] := by rw [List.getElem?_eq_getElem h]; rfl
theorem map_snd_at (h : i < us.length) : (us.map (·.2))[i]?.getD [] = (us[i]?.getD (false, [])).2 := by
  rw [List.getElem?_map, List.getElem?_eq_getElem h]; rfl
theorem binsOk_set (hb : binsOk room bs = true) (hi : i < bs.length) {c : List Tk} (ht : tasksOk room (c ++ (bs.eraseIdx i).flatten) = true) (hl : fits3 (loadP c) room = true) : binsOk room (bs.set i c) = true := by
  obtain ⟨h1, _, h3⟩ := binsOk_iff.1 hb
  refine binsOk_iff.2 ⟨by rw [List.length_set]; exact h1, tasksOk_perm (flat_set hi) ht, fun a ha => ?_⟩
  rw [List.length_set] at ha
  rw [List.getElem?_set]
  by_cases e : i = a
  · subst e; rw [if_pos rfl, if_pos hi]; exact hl
  · rw [if_neg e]; exact h3 a ha
theorem sum_filter_le {p : Tk → Bool} {f : Tk → Int} : ∀ {ts : List Tk}, (∀ t ∈ ts, 0 ≤ f t) → ((ts.filter p).map f).sum ≤ (ts.map f).sum
  | [], _ => by simp
  | t :: ts, h => by
    have ih := sum_filter_le (p := p) (f := f) (ts := ts) (fun t ht => h t (by simp [ht]))
    have h0 := h t (by simp)
    rw [List.filter_cons, List.map_cons, List.sum_cons]
    split
    · rw [List.map_cons, List.sum_cons]; omega
    · omega
theorem load_take {b : List Tk} (ht : ∀ t ∈ b, vecOk t.2 = true) (hf : fits3 (loadP b) room = true) : fits3 (loadP (takeP b id)) room = true := by
  rw [fits3_iff] at hf ⊢
  intro x hx
  have h1 := hf x hx
  rw [load_sum _ hx] at h1 ⊢
  have := sum_filter_le (p := fun t => !(t.1 == id)) (f := fun t : Tk => t.2[x]?.getD 0) (ts := b) (fun t h => (vecOk_bd (ht t h) x).1)
  unfold takeP
  omega
theorem where_has {n : Nat} (h : whereP bs id = (n : Int)) : n < bs.length ∧ hasP (bs[n]?.getD []) id = true := by
  unfold whereP at h
  cases hf : bs.findIdx? (fun b => hasP b id) with
  | none => rw [hf] at h; simp at h
  | some a =>
    rw [hf] at h
    have e : a = n := Int.ofNat.inj h
    subst e
    rw [List.findIdx?_eq_some_iff_getElem] at hf
    obtain ⟨ha, h1, _⟩ := hf
    exact ⟨ha, by rw [List.getElem?_eq_getElem ha]; exact h1⟩
theorem where_none (h : whereP bs id = -1) : ∀ t ∈ bs.flatten, t.1 ≠ id := by
  intro t ht he
  obtain ⟨b, hb, htb⟩ := List.mem_flatten.1 ht
  unfold whereP at h
  cases hf : bs.findIdx? (fun b => hasP b id) with
  | some a => rw [hf] at h; simp at h
  | none =>
    rw [List.findIdx?_eq_none_iff] at hf
    have := hf b hb
    unfold hasP at this
    rw [List.any_eq_false] at this
    exact this t htb (by simpa using he)
theorem where_le {t : Tk} (hi : i < bs.length) (ht : t ∈ bs[i]?.getD []) : ∃ n : Nat, whereP bs t.1 = (n : Int) ∧ n ≤ i := by
  unfold whereP
  have hh : hasP (bs[i]?.getD []) t.1 = true := by unfold hasP; rw [List.any_eq_true]; exact ⟨t, ht, by simp⟩
  rw [List.getElem?_eq_getElem hi, Option.getD_some] at hh
  cases hf : bs.findIdx? (fun b => hasP b t.1) with
  | none =>
    rw [List.findIdx?_eq_none_iff] at hf
    have := hf bs[i] (List.getElem_mem hi)
    rw [hh] at this; cases this
  | some a =>
    rw [List.findIdx?_eq_some_iff_getElem] at hf
    obtain ⟨ha, h1, h2⟩ := hf
    refine ⟨a, rfl, ?_⟩
    rcases Nat.lt_or_ge i a with hlt | hge
    · have := h2 i hlt
      rw [hh] at this; simp at this
    · exact hge

/-- How many tasks there are. -/
def totalP (us : List Un) : Nat := (us.map (·.2)).flatten.length

/-! ### Opening -/
theorem opn_facts (h : clOk room us = true) {node : Int} : (opnP room us node op).1 = room ∧ clOk room (opnP room us node op).2.1 = true ∧ ((opnP room us node op).2.2 ≠ 0 → (opnP room us node op).2.1 = us) ∧ totalP (opnP room us node op).2.1 = totalP us := by
  by_cases hn : inR 0 ((us.length : Int) - 1) node = true
  · obtain ⟨n0, n1⟩ := inR_iff.1 hn
    obtain ⟨k, rfl⟩ := Int.eq_ofNat_of_zero_le n0
    have hk : k < us.length := by omega
    by_cases ho : (us[k]?.getD (false, [])).1 = op
    · rw [opnP_twice h hn ho]; exact ⟨rfl, h, fun _ => rfl, rfl⟩
    · by_cases hb : 0 < (us[k]?.getD (false, [])).2.length
      · rw [opnP_busy h hn ho hb]; exact ⟨rfl, h, fun _ => rfl, rfl⟩
      · rw [opnP_yes h hn ho hb]
        have he : (us[k]?.getD (false, [])).2 = [] := List.eq_nil_of_length_eq_zero (by omega)
        have hm : (us.set k (op, (us[k]?.getD (false, [])).2)).map (·.2) = us.map (·.2) := by
          rw [List.map_set]
          have : (us.map (·.2))[k]? = some (us[k]?.getD (false, [])).2 := by rw [List.getElem?_map, List.getElem?_eq_getElem hk]; rfl
          obtain ⟨hk', e⟩ := List.getElem?_eq_some_iff.1 this
          rw [← e]
          exact List.set_getElem_self hk'
        obtain ⟨h1, h2, h3⟩ := clOk_iff.1 h
        refine ⟨rfl, clOk_iff.2 ⟨by rw [List.length_set]; exact h1, by rw [hm]; exact h2, fun u hu => ?_⟩, fun hh => absurd rfl hh, by unfold totalP; rw [hm]⟩
        rcases List.mem_or_eq_of_mem_set hu with hu | hu
        · exact h3 u hu
        · rw [hu]; exact .inr he
  · have hn : inR 0 ((us.length : Int) - 1) node = false := by simpa using hn
    rw [opnP_none h hn]; exact ⟨rfl, h, fun _ => rfl, rfl⟩

/-! ### Departing -/
theorem dep_facts (h : clOk room us = true) : (depP room us id).1 = room ∧ clOk room (depP room us id).2.1 = true ∧ ((depP room us id).2.2 ≠ 0 → (depP room us id).2.1 = us) ∧ ((depP room us id).2.2 = 0 → totalP (depP room us id).2.1 + 1 = totalP us) := by
  rcases whereP_or (us.map (·.2)) id with hw | ⟨k, hw, hk⟩
  · rw [depP_none h hw]; exact ⟨rfl, h, fun _ => rfl, fun hh => by simp at hh⟩
  · rw [depP_yes h hw]
    rw [List.length_map] at hk
    obtain ⟨h1, h2, h3⟩ := clOk_iff.1 h
    obtain ⟨_, hhas⟩ := where_has hw
    have hkm : k < (us.map (·.2)).length := by rw [List.length_map]; exact hk
    obtain ⟨b1, b2, b3⟩ := binsOk_iff.1 h2
    have hm : (us.set k ((us[k]?.getD (false, [])).1, takeP (us[k]?.getD (false, [])).2 id)).map (·.2) = (us.map (·.2)).set k (takeP ((us.map (·.2))[k]?.getD []) id) := by rw [List.map_set, map_snd_at hk]
    have hp := flat_at hkm
    have hvec : ∀ t ∈ (us.map (·.2))[k]?.getD [], vecOk t.2 = true := fun t ht => tasksOk_vec b2 (hp.symm.subset (List.mem_append_left _ ht))
    have hlen : (takeP ((us.map (·.2))[k]?.getD []) id).length + 1 = ((us.map (·.2))[k]?.getD []).length := by
      unfold hasP at hhas
      rw [List.any_eq_true] at hhas
      obtain ⟨t, ht, hte⟩ := hhas
      obtain ⟨a, ha, rfl⟩ := List.getElem_of_mem ht
      have hid : (((us.map (fun u : Un => u.2))[k]?.getD [])[a]'ha).1 = id := by simpa using hte
      have hpw : ((us.map (·.2))[k]?.getD []).Pairwise (fun x y => x.1 ≠ y.1) := by
        refine (ids_pair (binsOk_nodup h2)).1 _ ?_
        rw [List.getElem?_eq_getElem hkm]; exact List.getElem_mem hkm
      rw [← hid, take_erase hpw ha, List.length_eraseIdx, if_pos ha]
      omega
    refine ⟨rfl, clOk_iff.2 ⟨by rw [List.length_set]; exact h1, ?_, fun u hu => ?_⟩, fun hh => absurd rfl hh, fun _ => ?_⟩
    · rw [hm]
      refine binsOk_set h2 hkm (tasksOk_sub (tasksOk_perm hp.symm b2) ?_) (load_take hvec (b3 k hkm))
      exact List.Sublist.append_right List.filter_sublist _
    · rcases List.mem_or_eq_of_mem_set hu with hu | hu
      · exact h3 u hu
      · rw [hu]
        rcases h3 _ (un_mem hk) with hx | hx
        · exact .inl hx
        · right
          show takeP _ _ = []
          rw [hx]; rfl
    · unfold totalP
      rw [hm, (flat_set hkm).length_eq, hp.length_eq, List.length_append, List.length_append]
      omega

/-! ### Arriving -/
theorem idx_at {α : Type} {p : α → Bool} {l : List α} {d : α} {n : Nat} (h : idxP p l = (n : Int)) : n < l.length ∧ p (l[n]?.getD d) = true := by
  unfold idxP at h
  cases hf : l.findIdx? p with
  | none => rw [hf] at h; simp at h
  | some a =>
    rw [hf] at h
    have e : a = n := Int.ofNat.inj h
    subst e
    rw [List.findIdx?_eq_some_iff_getElem] at hf
    obtain ⟨ha, h1, _⟩ := hf
    exact ⟨ha, by rw [List.getElem?_eq_getElem ha]; exact h1⟩
theorem arv_fits {n : Nat} (h : arvAt room us xs g = (n : Int)) : n < us.length ∧ fits3 (add3 (loadP (us[n]?.getD (false, [])).2) xs) room = true := by
  have key : ∀ op, cAtP room us xs op = (n : Int) → n < us.length ∧ fits3 (add3 (loadP (us[n]?.getD (false, [])).2) xs) room = true := fun op hc => by
    obtain ⟨h1, h2⟩ := idx_at (d := (false, [])) hc
    simp only [atB, Bool.and_eq_true] at h2
    exact ⟨h1, h2.2⟩
  unfold arvAt at h
  split at h
  · exact key _ h
  · exact key _ h
theorem arvAt_or : arvAt room us xs g = -1 ∨ ∃ n : Nat, arvAt room us xs g = (n : Int) := by
  have key : ∀ op, cAtP room us xs op = -1 ∨ ∃ n : Nat, cAtP room us xs op = (n : Int) := fun op => by
    rcases idxP_or (atB room xs op) us with h | ⟨n, h, _⟩
    · exact .inl h
    · exact .inr ⟨n, h⟩
  unfold arvAt
  split
  · exact key _
  · exact key _
theorem cav_facts (h : clOk room us = true) : (cavP room us id xs g).1 = room ∧ clOk room (cavP room us id xs g).2.1 = true ∧ ((cavP room us id xs g).2.2 ≠ 0 → (cavP room us id xs g).2.1 = us) ∧ ((cavP room us id xs g).2.2 = 0 → totalP (cavP room us id xs g).2.1 = totalP us + 1) := by
  cases ht : tasksOk room [(id, xs)] with
  | false => rw [cavP_task h ht]; exact ⟨rfl, h, fun _ => rfl, fun hh => by simp at hh⟩
  | true =>
    rcases whereP_or' (us.map (·.2)) id with hw | ⟨k, hw⟩
    · rw [cavP_new h ht hw]
      rcases arvAt_or (room := room) (us := us) (xs := xs) (g := g) with ha | ⟨n, ha⟩
      · rw [arvP_none ha]; exact ⟨rfl, h, fun _ => rfl, fun hh => by simp at hh⟩
      · by_cases hf : (us.map (·.2)).flatten.length = 14
        · rw [arvP_full hf]; exact ⟨rfl, h, fun _ => rfl, fun hh => by simp at hh⟩
        · rw [arvP_yes ha hf]
          obtain ⟨hn, hfit⟩ := arv_fits ha
          obtain ⟨h1, h2, h3⟩ := clOk_iff.1 h
          obtain ⟨b1, b2, b3⟩ := binsOk_iff.1 h2
          have hnm : n < (us.map (·.2)).length := by rw [List.length_map]; exact hn
          have hm : (us.set n (true, (us[n]?.getD (false, [])).2 ++ [(id, xs)])).map (·.2) = (us.map (·.2)).set n ((us.map (·.2))[n]?.getD [] ++ [(id, xs)]) := by rw [List.map_set, map_snd_at hn]
          have hp : ((us.map (·.2))[n]?.getD [] ++ [(id, xs)] ++ ((us.map (·.2)).eraseIdx n).flatten).Perm ((id, xs) :: (us.map (·.2)).flatten) := by
            refine List.Perm.trans ?_ (List.Perm.cons _ (flat_at hnm).symm)
            rw [List.append_assoc]
            exact List.perm_middle
          refine ⟨rfl, clOk_iff.2 ⟨by rw [List.length_set]; exact h1, ?_, fun u hu => ?_⟩, fun hh => absurd rfl hh, fun _ => ?_⟩
          · rw [hm]
            refine binsOk_set h2 hnm (tasksOk_perm hp ?_) ?_
            · have hno := where_none hw
              simp only [tasksOk, Bool.and_eq_true, decide_eq_true_eq, List.all_eq_true] at ht b2 ⊢
              refine ⟨⟨⟨b2.1.1.1, ?_⟩, fun t hh => ?_⟩, ?_⟩
              · have := b2.1.1.2
                simp only [List.length_cons]; omega
              · rcases List.mem_cons.1 hh with rfl | hh
                · exact ht.1.2 _ (by simp)
                · exact b2.1.2 t hh
              · rw [List.map_cons, List.nodup_cons]
                refine ⟨fun hmem => ?_, b2.2⟩
                obtain ⟨t, ht1, ht2⟩ := List.mem_map.1 hmem
                exact hno t ht1 ht2
            · rw [load_snoc, map_snd_at hn]; exact hfit
          · rcases List.mem_or_eq_of_mem_set hu with hu | hu
            · exact h3 u hu
            · rw [hu]; exact .inl rfl
          · unfold totalP
            rw [hm, (flat_set hnm).length_eq, hp.length_eq, List.length_cons]
    · rw [cavP_twice h ht hw]; exact ⟨rfl, h, fun _ => rfl, fun hh => by simp at hh⟩

/-! ### Gathering -/
/-- How many nodes before one are open. -/
def rankU (us : List Un) (i : Nat) : Nat := ((us.take i).filter (·.1)).length
end
theorem rank_zero (us : List Un) : rankU us 0 = 0 := by simp [rankU]
theorem rank_succ {us : List Un} {i : Nat} (h : i < us.length) : rankU us (i + 1) = rankU us i + (if (us[i]?.getD (false, [])).1 = true then 1 else 0) := by
  unfold rankU
  rw [List.take_succ_eq_append_getElem h, List.filter_append, List.length_append, un_at h, List.filter_cons]
  split
  · rfl
  · rfl
theorem rank_cons (u : Un) (us : List Un) (i : Nat) : rankU (u :: us) (i + 1) = (if u.1 = true then 1 else 0) + rankU us i := by
  unfold rankU
  rw [List.take_succ_cons, List.filter_cons]
  split
  · rw [List.length_cons]; omega
  · omega
theorem rank_mono {us : List Un} {i j : Nat} (h : i ≤ j) : rankU us i ≤ rankU us j := by
  unfold rankU
  exact ((List.take_sublist_take_left h).filter _).length_le
theorem openB_cons (u : Un) (us : List Un) : openB (u :: us) = if u.1 = true then u.2 :: openB us else openB us := by
  unfold openB
  rw [List.filter_cons]
  split <;> rfl
theorem open_len (us : List Un) : (openB us).length = rankU us us.length := by simp [openB, rankU]
theorem open_at : ∀ {us : List Un} {i : Nat}, i < us.length → (us[i]?.getD (false, [])).1 = true → (openB us)[rankU us i]? = some (us[i]?.getD (false, [])).2
  | [], i, h, _ => by simp at h
  | u :: us, 0, _, ho => by
    have ho : u.1 = true := ho
    rw [rank_zero, openB_cons, if_pos ho]; rfl
  | u :: us, i + 1, h, ho => by
    have ih := open_at (us := us) (i := i) (by simpa using h) (by simpa using ho)
    rw [rank_cons, openB_cons]
    by_cases hu : u.1 = true
    · rw [if_pos hu, if_pos hu, Nat.add_comm, gS, ih]; rfl
    · rw [if_neg hu, if_neg hu, Nat.zero_add, ih]; rfl
theorem open_surj : ∀ {us : List Un} {a : Nat}, a < (openB us).length → ∃ i, i < us.length ∧ (us[i]?.getD (false, [])).1 = true ∧ rankU us i = a
  | [], a, h => by simp [openB] at h
  | u :: us, a, h => by
    rw [openB_cons] at h
    by_cases hu : u.1 = true
    · rw [if_pos hu] at h
      cases a with
      | zero => exact ⟨0, by simp, hu, rank_zero _⟩
      | succ a =>
        obtain ⟨i, h1, h2, h3⟩ := open_surj (us := us) (a := a) (by simpa using h)
        exact ⟨i + 1, by simpa using h1, by simpa using h2, by rw [rank_cons, if_pos hu, h3]; omega⟩
    · rw [if_neg hu] at h
      obtain ⟨i, h1, h2, h3⟩ := open_surj (us := us) (a := a) h
      exact ⟨i + 1, by simpa using h1, by simpa using h2, by rw [rank_cons, if_neg hu, h3]; omega⟩
theorem back_len : ∀ (us : List Un) (bs : List (List Tk)), (backU us bs).length = us.length
  | [], _ => rfl
  | u :: us, bs => by
    unfold backU
    split
    · rw [List.length_cons, back_len us, List.length_cons]
    · rw [List.length_cons, back_len us, List.length_cons]
theorem back_at : ∀ {us : List Un} {bs : List (List Tk)} {i : Nat}, i < us.length → (backU us bs)[i]?.getD (false, []) = if (us[i]?.getD (false, [])).1 = true then (true, bs[rankU us i]?.getD []) else us[i]?.getD (false, [])
  | [], bs, i, h => by simp at h
  | u :: us, bs, 0, _ => by
    unfold backU
    rw [rank_zero]
    by_cases hu : u.1 = true
    · rw [if_pos hu]
      simp only [gZ, Option.getD_some]
      rw [if_pos hu]
      cases bs <;> rfl
    · rw [if_neg hu]
      simp only [gZ, Option.getD_some]
      rw [if_neg hu]
  | u :: us, bs, i + 1, h => by
    unfold backU
    rw [rank_cons]
    by_cases hu : u.1 = true
    · rw [if_pos hu, if_pos hu]
      simp only [gS]
      rw [back_at (by simpa using h)]
      rw [show 1 + rankU us i = rankU us i + 1 by omega]
      cases bs with
      | nil => simp
      | cons b bs => rfl
    · rw [if_neg hu, if_neg hu]
      simp only [gS, Nat.zero_add]
      rw [back_at (by simpa using h)]
theorem back_flat : ∀ {us : List Un} {bs : List (List Tk)}, bs.length = (openB us).length → (∀ u ∈ us, u.1 = true ∨ u.2 = []) → ((backU us bs).map (·.2)).flatten = bs.flatten
  | [], bs, h, _ => by
    have : bs = [] := List.eq_nil_of_length_eq_zero (by rw [h]; rfl)
    rw [this]; rfl
  | u :: us, bs, h, hc => by
    rw [openB_cons] at h
    unfold backU
    by_cases hu : u.1 = true
    · rw [if_pos hu] at h ⊢
      cases bs with
      | nil => simp at h
      | cons b bs =>
        rw [List.map_cons, List.flatten_cons, List.flatten_cons]
        show b ++ _ = _
        rw [List.tail_cons, back_flat (by simpa using h) (fun u hu => hc u (by simp [hu]))]
    · rw [if_neg hu] at h ⊢
      have he : u.2 = [] := (hc u (by simp)).resolve_left hu
      rw [List.map_cons, List.flatten_cons, he, List.nil_append, back_flat h (fun u hu => hc u (by simp [hu]))]
theorem open_flat {us : List Un} (hc : ∀ u ∈ us, u.1 = true ∨ u.2 = []) : (openB us).flatten = (us.map (·.2)).flatten := by
  induction us with
  | nil => rfl
  | cons u us ih =>
    have ih := ih (fun u hu => hc u (by simp [hu]))
    rw [openB_cons, List.map_cons, List.flatten_cons]
    by_cases hu : u.1 = true
    · rw [if_pos hu, List.flatten_cons, ih]
    · rw [if_neg hu, ih, (hc u (by simp)).resolve_left hu, List.nil_append]
theorem open_ok {room : List Int} {us : List Un} (h : clOk room us = true) : binsOk room (openB us) = true := by
  obtain ⟨h1, h2, h3⟩ := clOk_iff.1 h
  obtain ⟨b1, b2, b3⟩ := binsOk_iff.1 h2
  have hl : (openB us).length ≤ us.length := by rw [open_len]; unfold rankU; rw [List.take_length]; exact List.length_filter_le _ _
  refine binsOk_iff.2 ⟨by omega, by rw [open_flat h3]; exact b2, fun a ha => ?_⟩
  obtain ⟨i, hi, ho, rfl⟩ := open_surj ha
  rw [open_at hi ho, Option.getD_some, ← map_snd_at hi]
  exact b3 i (by rw [List.length_map]; exact hi)
section
variable {room : List Int} {us : List Un} {most : Int}
theorem gather_facts (h : clOk room us = true) : clOk room (gatherU room us most) = true ∧ totalP (gatherU room us most) = totalP us ∧ (gatherU room us most).length = us.length ∧
    ∀ i, i < us.length → ((gatherU room us most)[i]?.getD (false, [])).1 = (us[i]?.getD (false, [])).1 ∧ ∀ t ∈ (us[i]?.getD (false, [])).2, ∃ b, b ≤ i ∧ t ∈ ((gatherU room us most)[b]?.getD (false, [])).2 := by
  obtain ⟨h1, h2, h3⟩ := clOk_iff.1 h
  have hob := open_ok h
  obtain ⟨f1, f2, f3, f4, _, _⟩ := gath_facts (room := room) most.toNat (openB us) hob
  have hlen : (gatherU room us most).length = us.length := back_len _ _
  have hfl : ((gatherU room us most).map (·.2)).flatten = (gathP room most.toNat (openB us)).flatten := back_flat f2 h3
  obtain ⟨g1, g2, g3⟩ := binsOk_iff.1 f1
  obtain ⟨b1, b2, b3⟩ := binsOk_iff.1 h2
  refine ⟨clOk_iff.2 ⟨by rw [hlen]; exact h1, binsOk_iff.2 ⟨by rw [List.length_map, hlen]; omega, by rw [hfl]; exact g2, fun i hi => ?_⟩, fun u hu => ?_⟩, ?_, hlen, fun i hi => ?_⟩
  · rw [List.length_map, hlen] at hi
    rw [map_snd_at (by rw [hlen]; exact hi)]
    unfold gatherU
    rw [back_at hi]
    by_cases ho : (us[i]?.getD (false, [])).1 = true
    · rw [if_pos ho]
      refine g3 _ ?_
      rw [f2]
      exact (List.getElem?_eq_some_iff.1 (open_at hi ho)).1
    · rw [if_neg ho, ← map_snd_at hi]
      exact b3 i (by rw [List.length_map]; exact hi)
  · obtain ⟨i, hi, rfl⟩ := List.getElem_of_mem hu
    rw [hlen] at hi
    rw [← un_at (by rw [hlen]; exact hi)]
    unfold gatherU
    rw [back_at hi]
    by_cases ho : (us[i]?.getD (false, [])).1 = true
    · rw [if_pos ho]; exact .inl rfl
    · rw [if_neg ho]; exact h3 _ (un_mem hi)
  · unfold totalP
    rw [hfl, f3.length_eq, open_flat h3]
  · constructor
    · unfold gatherU
      rw [back_at hi]
      split
      · rename_i ho; exact ho.symm
      · rfl
    · intro t ht
      have ho : (us[i]?.getD (false, [])).1 = true := by
        rcases h3 _ (un_mem hi) with ho | he
        · exact ho
        · rw [he] at ht; simp at ht
      obtain ⟨c, hc1, hc2⟩ := f4 (rankU us i) t (by rw [open_at hi ho]; exact ht)
      have hcl : c < (openB us).length := by have := (List.getElem?_eq_some_iff.1 (open_at hi ho)).1; omega
      obtain ⟨j, hj, hjo, rfl⟩ := open_surj hcl
      refine ⟨j, ?_, ?_⟩
      · rcases Nat.lt_or_ge i j with hlt | hge
        · have r1 := rank_mono (us := us) (i := i + 1) (j := j) hlt
          rw [rank_succ hi, if_pos ho] at r1
          omega
        · exact hge
      · unfold gatherU
        rw [back_at hj, if_pos hjo]
        exact hc2
theorem back_same {us : List Un} : backU us (openB us) = us := by
  induction us with
  | nil => rfl
  | cons u us ih =>
    unfold backU
    rw [openB_cons]
    by_cases hu : u.1 = true
    · rw [if_pos hu, if_pos hu, List.tail_cons, ih]
      obtain ⟨a, b⟩ := u
      have : a = true := hu
      subst this; rfl
    · rw [if_neg hu, if_neg hu, ih]
theorem gather_zero : gatherU room us 0 = us := by unfold gatherU; exact back_same
end

/-! ### Requests -/
section
variable {room : List Int} {us : List Un} {r : Rq}
theorem req_bad (h : clOk room us = false) : reqP room us r = ([], [], 1) := by unfold reqP; rw [if_neg (by rw [h]; simp)]
theorem req_refuse (h : clOk room us = true) (hr : rqOk r = false) : reqP room us r = (room, us, 1) := by unfold reqP; rw [if_pos h, if_neg (by rw [hr]; simp)]
theorem rq_kind (hr : rqOk r = true) : r.kind = 1 ∨ r.kind = 2 ∨ r.kind = 3 ∨ r.kind = 4 ∨ r.kind = 5 := by
  unfold rqOk at hr
  split at hr
  · omega
  · split at hr
    · omega
    · split at hr
      · omega
      · split at hr
        · omega
        · cases hr
theorem req_arrive (h : clOk room us = true) (hr : rqOk r = true) (hk : r.kind = 1) : reqP room us r = cavP room us r.id r.xs r.grant := by unfold reqP; rw [if_pos h, if_pos hr, if_pos hk]
theorem req_depart (h : clOk room us = true) (hr : rqOk r = true) (hk : r.kind = 2) : reqP room us r = depP room us r.num := by unfold reqP; rw [if_pos h, if_pos hr, if_neg (by omega), if_pos hk]
theorem req_open (h : clOk room us = true) (hr : rqOk r = true) (hk : r.kind = 3) : reqP room us r = opnP room us r.num true := by unfold reqP; rw [if_pos h, if_pos hr, if_neg (by omega), if_neg (by omega), if_pos hk]
theorem req_close (h : clOk room us = true) (hr : rqOk r = true) (hk : r.kind = 4) : reqP room us r = opnP room us r.num false := by unfold reqP; rw [if_pos h, if_pos hr, if_neg (by omega), if_neg (by omega), if_neg (by omega), if_pos hk]
theorem req_gather (h : clOk room us = true) (hr : rqOk r = true) (hk : r.kind = 5) : reqP room us r = (room, gatherU room us r.num, 0) := by unfold reqP; rw [if_pos h, if_pos hr, if_neg (by omega), if_neg (by omega), if_neg (by omega), if_neg (by omega)]
/-- The change of the number of tasks. -/
def addP (r : Rq) (code : Int) : Int := (if code = 0 ∧ r.kind = 1 then 1 else 0) - (if code = 0 ∧ r.kind = 2 then 1 else 0)
theorem req_facts (h : clOk room us = true) : (reqP room us r).1 = room ∧ clOk room (reqP room us r).2.1 = true ∧ ((reqP room us r).2.2 ≠ 0 → (reqP room us r).2.1 = us) ∧ (totalP (reqP room us r).2.1 : Int) = totalP us + addP r (reqP room us r).2.2 := by
  cases hr : rqOk r with
  | false => rw [req_refuse h hr]; exact ⟨rfl, h, fun _ => rfl, by simp [addP]⟩
  | true =>
    rcases rq_kind hr with hk | hk | hk | hk | hk
    · rw [req_arrive h hr hk]
      obtain ⟨f1, f2, f3, f4⟩ := cav_facts (id := r.id) (xs := r.xs) (g := r.grant) h
      refine ⟨f1, f2, f3, ?_⟩
      unfold addP
      by_cases hc : (cavP room us r.id r.xs r.grant).2.2 = 0
      · have := f4 hc
        rw [if_pos ⟨hc, hk⟩, if_neg (by omega)]; omega
      · rw [f3 hc, if_neg (by omega), if_neg (by omega)]; omega
    · rw [req_depart h hr hk]
      obtain ⟨f1, f2, f3, f4⟩ := dep_facts (id := r.num) h
      refine ⟨f1, f2, f3, ?_⟩
      unfold addP
      by_cases hc : (depP room us r.num).2.2 = 0
      · have := f4 hc
        rw [if_neg (by omega), if_pos ⟨hc, hk⟩]; omega
      · rw [f3 hc, if_neg (by omega), if_neg (by omega)]; omega
    · rw [req_open h hr hk]
      obtain ⟨f1, f2, f3, f4⟩ := opn_facts (node := r.num) (op := true) h
      refine ⟨f1, f2, f3, ?_⟩
      unfold addP
      rw [f4, if_neg (by omega), if_neg (by omega)]; omega
    · rw [req_close h hr hk]
      obtain ⟨f1, f2, f3, f4⟩ := opn_facts (node := r.num) (op := false) h
      refine ⟨f1, f2, f3, ?_⟩
      unfold addP
      rw [f4, if_neg (by omega), if_neg (by omega)]; omega
    · rw [req_gather h hr hk]
      obtain ⟨f1, f2, f3, f4⟩ := gather_facts (most := r.num) h
      refine ⟨rfl, f1, fun hh => absurd rfl hh, ?_⟩
      unfold addP
      rw [if_neg (by omega), if_neg (by omega)]
      show (totalP (gatherU room us r.num) : Int) = _
      rw [f2]; omega
end

/-! ### Plays -/
/-- Requests, one after the other, of a valid cluster. -/
def playU (room : List Int) : List Rq → List Un → List Un × List Int
  | [], us => (us, [])
  | r :: rs, us => ((playU room rs (reqP room us r).2.1).1, (reqP room us r).2.2 :: (playU room rs (reqP room us r).2.1).2)
/-- RequestsPlay. -/
def playP (room : List Int) (us : List Un) (rs : List Rq) : List Int × List Un × List Int :=
  if clOk room us = true ∧ rs.length ≤ 30 then (room, playU room rs us) else ([], [], [])
section
variable {room : List Int}
theorem play_bad {us : List Un} {rs : List Rq} (h : ¬ (clOk room us = true ∧ rs.length ≤ 30)) : playP room us rs = ([], [], []) := by unfold playP; rw [if_neg h]
theorem play_yes {us : List Un} {rs : List Rq} (h : clOk room us = true) (hl : rs.length ≤ 30) : playP room us rs = (room, playU room rs us) := by unfold playP; rw [if_pos ⟨h, hl⟩]
theorem play_ok : ∀ (rs : List Rq) (us : List Un), clOk room us = true → clOk room (playU room rs us).1 = true ∧ (playU room rs us).2.length = rs.length
  | [], us, h => ⟨h, rfl⟩
  | r :: rs, us, h => by
    obtain ⟨f1, f2⟩ := play_ok rs _ (req_facts (r := r) h).2.1
    exact ⟨f1, by rw [playU, List.length_cons, f2, List.length_cons]⟩
theorem play_append : ∀ (a b : List Rq) (us : List Un), playU room (a ++ b) us = ((playU room b (playU room a us).1).1, (playU room a us).2 ++ (playU room b (playU room a us).1).2)
  | [], b, us => rfl
  | r :: a, b, us => by
    rw [List.cons_append, playU, play_append a b]
    rfl
theorem play_snoc (rs : List Rq) (r : Rq) (us : List Un) : playU room (rs ++ [r]) us = ((reqP room (playU room rs us).1 r).2.1, (playU room rs us).2 ++ [(reqP room (playU room rs us).1 r).2.2]) := by
  rw [play_append]; rfl
/-- The requests that are done. -/
def doneR : List Rq → List Int → List Rq
  | r :: rs, c :: cs => if c = 0 then r :: doneR rs cs else doneR rs cs
  | _, _ => []
theorem play_done : ∀ (rs : List Rq) (us : List Un), clOk room us = true → (playU room (doneR rs (playU room rs us).2) us).1 = (playU room rs us).1
  | [], us, _ => rfl
  | r :: rs, us, h => by
    obtain ⟨_, f2, f3, _⟩ := req_facts (r := r) h
    rw [playU]
    dsimp only
    rw [doneR]
    by_cases hc : (reqP room us r).2.2 = 0
    · rw [if_pos hc, playU]
      exact play_done rs _ f2
    · rw [if_neg hc]
      rw [f3 hc]
      exact play_done rs us h
theorem done_len : ∀ (rs : List Rq) (cs : List Int), (doneR rs cs).length ≤ rs.length
  | [], _ => by simp [doneR]
  | r :: rs, [] => by simp [doneR]
  | r :: rs, c :: cs => by
    unfold doneR
    have := done_len rs cs
    split <;> simp only [List.length_cons] <;> omega
/-- The sum of the changes. -/
def addsP : List Rq → List Int → Int
  | r :: rs, c :: cs => addP r c + addsP rs cs
  | _, _ => 0
theorem play_total : ∀ (rs : List Rq) (us : List Un), clOk room us = true → (totalP (playU room rs us).1 : Int) = totalP us + addsP rs (playU room rs us).2
  | [], us, _ => by simp [playU, addsP]
  | r :: rs, us, h => by
    obtain ⟨_, f2, _, f4⟩ := req_facts (r := r) h
    have ih := play_total rs _ f2
    rw [playU, addsP]
    dsimp only
    omega
end
end Go.Proofs.YtdgeicdiiakhjaaGreat

namespace Go.Proofs.YtdgeicdiiakhjaaGreat
set_option linter.unusedSimpArgs false
set_option linter.unusedVariables false
def lastP (l : List Tk) (id : Int) : Tk := ((l.filter (fun t => t.1 == id)).getLast?).getD (0, [])
theorem taken_last (bs : List (List Tk)) (id : Int) : takenP bs id = lastP bs.flatten id := rfl
theorem last_yes {l : List Tk} {t : Tk} {id : Int} (h : t.1 = id) : lastP (l ++ [t]) id = t := by
  unfold lastP
  rw [List.filter_append, List.filter_cons]
  simp [h]
theorem last_no {l : List Tk} {t : Tk} {id : Int} (h : t.1 ≠ id) : lastP (l ++ [t]) id = lastP l id := by
  unfold lastP
  rw [List.filter_append, List.filter_cons]
  simp [h]
theorem takeS_yes {l : List Tk} {t : Tk} {id : Int} (h : t.1 = id) : takeP (l ++ [t]) id = takeP l id := by
  unfold takeP
  rw [List.filter_append, List.filter_cons]
  simp [h]
theorem takeS_no {l : List Tk} {t : Tk} {id : Int} (h : t.1 ≠ id) : takeP (l ++ [t]) id = takeP l id ++ [t] := by
  unfold takeP
  rw [List.filter_append, List.filter_cons]
  simp [h]
end Go.Proofs.YtdgeicdiiakhjaaGreat

namespace Go.Proofs.YtdgeicdiiakhjaaGreat
set_option linter.unusedSimpArgs false
set_option linter.unusedVariables false
open Go Go.RowKit
section
variable {P : Program}
/-- copy, at elements of s cells, into a block that is known whole. -/
theorem run_copy_rowS (w : World) (dT sT ty elem : TypeId) (s : Nat) (g o dLen dCap : Nat) (a : Addr) (sLen sCap : Nat) (cur : Array Value) (t : TypeId) (cs : List Value)
    (hu : P.underlying dT = some (.slice elem)) (hs : (P.info? elem).map (·.size) = some s)
    (hg : w.heap[g]? = some (.cells cur t (0, 0))) (hn : cs.length = Nat.min sLen dLen * s)
    (hsrc : ∀ j v, cs[j]? = some v → w.cell? (a.add j) = some v) (hfit : o + cs.length ≤ cur.size) (h1 : ∀ v ∈ cs, v.oneCell' = true) :
    (Builtin.copy_ #[dT, sT] ty #[.slice (some ⟨g, o, none⟩) dLen dCap, .slice (some a) sLen sCap]).run P w =
      .ok (goInt (Nat.min sLen dLen)) (w.setRow g (cur.toList.take o ++ cs ++ cur.toList.drop (o + cs.length)).toArray) := by
  have hl := run_loadCells_list (P := P) w a cs hsrc
  have hst := run_storeCells_at P g o t cs 0 cur w hg (by simpa using hfit) h1
  cases hq : P.info? elem with
  | none => simp [hq] at hs
  | some i =>
    have hi : i.size = s := by simpa [hq] using hs
    rw [hn] at hl
    simp [Builtin.copy_, run_underlying hu, Builtin.lenOf, Builtin.firstCells, sizeOf, typeInfo, hq, hi, hl, hst]
theorem step_copy_rowS {ops : Array Oper} {o : Oper} {a : Act} {w : World} {K : Act → World → Prop} {Q : Exit → Act → World → Prop} {E : Prop} (hgd : o.guard = none) (d s : Operand) (dT sT : TypeId)
    (ho : o.op = .call { callee := .builtin .copy, args := #[d, s], argTypes := #[dT, sT] }) (elem : TypeId) (sz : Nat) (hu : P.underlying dT = some (.slice elem)) (hsz : (P.info? elem).map (·.size) = some sz)
    (g off dLen dCap : Nat) (ad : Addr) (sLen sCap : Nat) (hd : a.eval d = .slice (some ⟨g, off, none⟩) dLen dCap) (hs : a.eval s = .slice (some ad) sLen sCap)
    (cur : List Value) (t : TypeId) (hg : w.heap[g]? = some (.cells cur.toArray t (0, 0))) (cs : List Value) (hn : cs.length = Nat.min sLen dLen * sz)
    (hsrc : ∀ j v, cs[j]? = some v → w.cell? (ad.add j) = some v) (hfit : off + cs.length ≤ cur.length) (h1 : ∀ v ∈ cs, v.oneCell' = true)
    (h : ∀ w', Hid (w'.heap[g]? = some (.cells (splice cur off cs).toArray t (0, 0))) → (∀ b, b ≠ g → w'.heap[b]? = w.heap[b]?) → (∀ (B : Nat) (w0 : World), B ≤ g → Below B w0 w → Below B w0 w') → K (a.put o.dst (goInt (Nat.min sLen dLen))) w') :
    if Region.wanted o (yielded ops a.tmps) = true then Oper.wp P o a w K Q else E := by
  have hw : Region.wanted o (yielded ops a.tmps) = true := by simp [Region.wanted, hgd]
  rw [if_pos hw]
  have hrun := run_copy_rowS (P := P) w dT sT o.type elem sz g off dLen dCap ad sLen sCap cur.toArray t cs hu hsz hg hn hsrc (by simpa using hfit) h1
  unfold Oper.wp
  simp only [List.append_assoc] at hrun
  simp [execOp, ho, resolve, invoke, builtin, hd, hs, hrun, Result.andThen, Oper.upon]
  have hh := h (w.setRow g (cur.toArray.toList.take off ++ (cs ++ cur.toArray.toList.drop (off + cs.length))).toArray) (show _ = _ by simpa [splice] using setRow_heap w g _ _ t _ hg) (fun b hb => setRow_other w g b _ hb) (fun B w0 hB hb => below_setRow hb hB _)
  simpa [goInt] using hh
/-- clear(s), s of one element of two cells. -/
theorem run_clear_two (w : World) (t e ty : TypeId) (z0 z1 : Value) (ht : P.underlying t = some (.slice e)) (hv : ∀ w, (zeroValue e).run P w = .ok (.agg #[z0, z1]) w) (h0 : z0.oneCell' = true) (h1 : z1.oneCell' = true) (b o c : Nat)
    (hc : ∀ j, j < 2 → (w.cell? ⟨b, o + j, none⟩).isSome = true) (hf : ∀ j, j < 2 → w.frozen? ⟨b, o + j, none⟩ = false) :
    (Builtin.clear_ #[t] ty #[.slice (some ⟨b, o, none⟩) 1 c]).run P w = .ok (.tuple #[]) (w.setCells b o [z0, z1]) := by
  have hst := run_storeCells_cells (P := P) b o [z0, z1] 0 w (by simpa using hc) (by simpa using hf) (by simp [h0, h1])
  simp only [Nat.add_zero] at hst
  have hz : (Builtin.zeroCells (Value.agg #[z0, z1]).cells 1).toList = [z0, z1] := by
    apply List.ext_getElem
    · simp [Builtin.zeroCells, Value.cells]
    · intro i h1 h2
      have : i = 0 ∨ i = 1 := by simp at h2; omega
      rcases this with rfl | rfl <;> simp [Builtin.zeroCells, Value.cells]
  simp [Builtin.clear_, run_underlying ht, hv, hz, hst]
end
/-- Cells of one block, set one after the other. -/
theorem Blk.setMany {g : Nat} {t : TypeId} : ∀ (vs : List Value) (w : World) (o : Nat) (cur : List Value), Blk w g t cur.toArray → o + vs.length ≤ cur.length → Blk (w.setCells g o vs) g t (splice cur o vs).toArray
  | [], w, o, cur, h, _ => by simpa [World.setCells, splice] using h
  | v :: vs, w, o, cur, h, hl => by
    have h1 : Blk (w.setCell ⟨g, o, none⟩ v) g t (cur.set o v).toArray := by
      have := h.set_ o v
      rwa [pS] at this
    have h2 := Blk.setMany vs (w.setCell ⟨g, o, none⟩ v) (o + 1) (cur.set o v) h1 (by rw [List.length_set]; simp at hl; omega)
    rw [World.setCells]
    have e : splice (cur.set o v) (o + 1) vs = splice cur o (v :: vs) := by
      unfold splice
      simp only [List.length_cons] at hl
      have ho : o < cur.length := by omega
      rw [List.take_set, List.drop_set_of_lt (by omega)]
      have e1 : (cur.take (o + 1)).set o v = cur.take o ++ [v] := by
        rw [List.take_succ_eq_append_getElem ho, List.set_append_right _ _ (by rw [List.length_take]; omega), List.length_take, Nat.min_eq_left (by omega), Nat.sub_self]
        rfl
      rw [e1, List.append_assoc, List.length_cons, show o + 1 + vs.length = o + (vs.length + 1) by omega]
      rfl
    rw [e] at h2
    exact h2
theorem heap_setMany (w : World) (g o : Nat) (vs : List Value) {b : Nat} (hb : b ≠ g) : (w.setCells g o vs).heap[b]? = w.heap[b]? := by
  induction vs generalizing w o with
  | nil => rfl
  | cons v vs ih => rw [World.setCells, ih, Below.heap_setCell _ _ _ _ hb]
theorem below_setMany {B g : Nat} {w0 w : World} (h : Below B w0 w) (hB : B ≤ g) (o : Nat) (vs : List Value) : Below B w0 (w.setCells g o vs) := by
  induction vs generalizing w o with
  | nil => exact h
  | cons v vs ih => rw [World.setCells]; exact ih (h.setCell (p := ⟨g, o, none⟩) hB v) _
end Go.Proofs.YtdgeicdiiakhjaaGreat

namespace Go.Proofs.YtdgeicdiiakhjaaGreat
set_option linter.unusedSimpArgs false
set_option linter.unusedVariables false
open Go Go.RowKit
attribute [local go_sem ↓] Go.wp_at_zero Go.wp_at_succ

/-- The cells of candidates, whose needs lie below block B. -/
def CdCells (w : World) (B : Nat) (vs : List Value) (cs : List (Tk × Nat)) : Prop :=
  vs.length = cs.length * 3 ∧ ∀ j, j < cs.length → ∃ A m c, vs[j * 3]? = some (.int .i64 (cs[j]?.getD ((0, []), 0)).1.1) ∧ vs[j * 3 + 1]? = some (.slice A m c) ∧ vs[j * 3 + 2]? = some (.int .i64 (((cs[j]?.getD ((0, []), 0)).2 : Nat) : Int)) ∧ m ≤ c ∧ RdI w B A m (cs[j]?.getD ((0, []), 0)).1.2
section
variable {w w' : World} {B B' : Nat} {vs : List Value} {cs : List (Tk × Nat)}
theorem CdCells.nil : CdCells w B [] [] := ⟨rfl, fun j hj => by simp at hj⟩
theorem CdCells.keep (h : CdCells w B vs cs) (hk : ∀ p : Addr, p.block < B → w'.cell? p = w.cell? p) (hB : B ≤ B') : CdCells w' B' vs cs :=
  ⟨h.1, fun j hj => by obtain ⟨A', m, c, h1, h2, h3, h4, h5⟩ := h.2 j hj; exact ⟨A', m, c, h1, h2, h3, h4, h5.keep hk hB⟩⟩
theorem CdCells.below (h : CdCells w B vs cs) (hb : Below B w w') : CdCells w' B vs cs := h.keep (fun _ hp => hb.cell hp) (Nat.le_refl _)
theorem CdCells.snoc {A : Option Addr} {m c i : Nat} {id : Int} {xs : List Int} (h : CdCells w B vs cs) (hr : RdI w B A m xs) (hc : m ≤ c) : CdCells w B (vs ++ [.int .i64 id, .slice A m c, .int .i64 (i : Int)]) (cs ++ [((id, xs), i)]) := by
  have hl := h.1
  refine ⟨by simp [hl]; omega, fun j hj => ?_⟩
  by_cases e : j < cs.length
  · obtain ⟨A', m', c', h1, h2, h3, h4, h5⟩ := h.2 j e
    exact ⟨A', m', c', by rw [List.getElem?_append_left (by omega), List.getElem?_append_left e]; exact h1, by rw [List.getElem?_append_left (by omega)]; exact h2, by rw [List.getElem?_append_left (by omega), List.getElem?_append_left e]; exact h3, h4, by rw [List.getElem?_append_left e]; exact h5⟩
  · have : j = cs.length := by simp at hj; omega
    subst this
    refine ⟨A, m, c, ?_, ?_, ?_, hc, ?_⟩
    · rw [List.getElem?_append_right (by omega), List.getElem?_append_right (by omega), hl, Nat.sub_self, Nat.sub_self]; rfl
    · rw [List.getElem?_append_right (by omega), hl, show cs.length * 3 + 1 - cs.length * 3 = 1 by omega]; rfl
    · rw [List.getElem?_append_right (by omega), List.getElem?_append_right (by omega), hl, show cs.length * 3 + 2 - cs.length * 3 = 2 by omega, Nat.sub_self]; rfl
    · rw [List.getElem?_append_right (by omega), Nat.sub_self]; exact hr
end
theorem lit3 (w : World) (t : TypeId) (a b c : Value) : Src (w.alloc (.cells #[a, b, c] t)) 3 (some ⟨w.heap.size, 0, none⟩) 1 [a, b, c] :=
  ⟨rfl, fun _ => ⟨_, rfl, fun j u hu => by rw [addr_add, Nat.zero_add, (Blk.new w t #[a, b, c]).cell]; simpa using hu⟩⟩
theorem RdB.takeB {w : World} {B n i : Nat} {A : Option Addr} {bs : List (List Tk)} (h : RdB w B A n bs) (hi : i ≤ n) : RdB w B A i (bs.take i) :=
  ⟨by rw [List.length_take, h.1]; omega, by have := h.2.1; omega, fun hp => by
    obtain ⟨b, o, e, hb, hc⟩ := h.2.2 (by omega)
    refine ⟨b, o, e, hb, fun j hj => ?_⟩
    rw [List.getElem?_take, if_pos hj]
    exact hc j (by omega)⟩
theorem cand_le {bs : List (List Tk)} : ∀ n j, j < (candsTo bs n).length → ((candsTo bs n)[j]?.getD ((0, []), 0)).2 < n ∧ ((candsTo bs n)[j]?.getD ((0, []), 0)).1 ∈ bs.flatten
  | 0, j, h => by simp [candsTo] at h
  | n + 1, j, h => by
    rw [candsTo] at h ⊢
    by_cases hj : j < ((bs[n]?.getD []).map (fun t => (t, n))).length
    · rw [List.getElem?_append_left hj]
      rw [List.length_map] at hj
      rw [List.getElem?_map, List.getElem?_eq_getElem hj]
      refine ⟨Nat.lt_succ_self n, ?_⟩
      show (bs[n]?.getD [])[j] ∈ _
      have hn : n < bs.length := by
        rcases Nat.lt_or_ge n bs.length with h1 | h1
        · exact h1
        · rw [List.getElem?_eq_none h1] at hj; simp at hj
      refine List.mem_flatten.2 ⟨bs[n]?.getD [], ?_, List.getElem_mem hj⟩
      rw [List.getElem?_eq_getElem hn]
      exact List.getElem_mem hn
    · rw [List.getElem?_append_right (by omega)]
      rw [List.length_append] at h
      have := cand_le (bs := bs) n (j - ((bs[n]?.getD []).map (fun t => (t, n))).length) (by omega)
      exact ⟨by omega, this.2⟩
theorem find_none {α β : Type} {f : α → Option β} {l : List α} {d : α} (h : ∀ j, j < l.length → f (l[j]?.getD d) = none) : l.findSome? f = none := by
  rw [List.findSome?_eq_none_iff]
  intro x hx
  obtain ⟨j, hj, rfl⟩ := List.getElem_of_mem hx
  have := h j hj
  rwa [List.getElem?_eq_getElem hj] at this
theorem find_some {α β : Type} {f : α → Option β} {l : List α} {d : α} {k : Nat} {b : β} (hk : k < l.length) (h : f (l[k]?.getD d) = some b) (hb : ∀ j, j < k → f (l[j]?.getD d) = none) : l.findSome? f = some b := by
  induction l generalizing k with
  | nil => simp at hk
  | cons x l ih =>
    rw [List.findSome?_cons]
    cases k with
    | zero =>
      have : f x = some b := h
      rw [this]
    | succ k =>
      have h0 : f x = none := hb 0 (by omega)
      rw [h0]
      exact ih (by simpa using hk) (by simpa using h) (fun j hj => by have := hb (j + 1) (by omega); simpa using this)

/-- What nextMove returns. -/
def NextE (o : Option (Int × Int)) (e : Ending) : Prop := match o with
  | none => e = .returned (.tuple #[.agg #[.int .i64 0, .int .i64 0], .bool false])
  | some m => e = .returned (.tuple #[.agg #[.int .i64 m.1, .int .i64 m.2], .bool true])

end Go.Proofs.YtdgeicdiiakhjaaGreat
