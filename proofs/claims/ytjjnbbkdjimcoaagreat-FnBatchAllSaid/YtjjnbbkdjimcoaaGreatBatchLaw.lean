/- Plain laws of batches: codes by tasks, all or none, the fewest grants. No program in sight. -/
import Derived.Test.YtjjnbbkdjimcoaaGreatBatchPure
import Derived.Test.YtjjnbbkdjimcoaaGreatHeapPure
namespace Go.Proofs.YtjjnbbkdjimcoaaGreat
set_option linter.unusedVariables false
set_option linter.unusedSimpArgs false

/-- The code of the task with a number. -/
def lkP : List Tk → List Int → Int → Int
  | s :: ss, c :: cs, id => if s.1 = id then c else lkP ss cs id
  | _, _, _ => 0
def toldP (ts ss : List Tk) (cs : List Int) : List Int := ts.map (fun t => lkP ss cs t.1)
theorem told_len (ts ss : List Tk) (cs : List Int) : (toldP ts ss cs).length = ts.length := by simp [toldP]
theorem lk_self : ∀ (ss : List Tk) (cs : List Int), (ss.map (·.1)).Nodup → cs.length = ss.length → toldP ss ss cs = cs
  | [], cs, _, h => by rw [List.eq_nil_of_length_eq_zero h]; rfl
  | s :: ss, [], _, h => by simp at h
  | s :: ss, c :: cs, hd, h => by
    have hd' := List.nodup_cons.1 (by simpa using hd : (s.1 :: ss.map (·.1)).Nodup)
    have ih := lk_self ss cs hd'.2 (by simpa using h)
    unfold toldP at ih ⊢
    rw [List.map_cons]
    congr 1
    · simp [lkP]
    · conv => rhs; rw [← ih]
      refine List.map_congr_left fun t ht => ?_
      have hne : s.1 ≠ t.1 := fun e => hd'.1 (e ▸ List.mem_map_of_mem ht)
      simp [lkP, hne]
theorem told_perm {ts ss : List Tk} {cs : List Int} (h : ss.Perm ts) (hd : (ts.map (·.1)).Nodup) (hl : cs.length = ss.length) : (toldP ts ss cs).Perm cs := by
  have h1 : (toldP ts ss cs).Perm (toldP ss ss cs) := h.symm.map _
  rwa [lk_self ss cs ((List.Perm.nodup_iff (h.map _)).2 hd) hl] at h1
theorem lk_at {ss : List Tk} {cs : List Int} (hd : (ss.map (·.1)).Nodup) (hl : cs.length = ss.length) {k : Nat} (hk : k < ss.length) : lkP ss cs (gTk ss k).1 = cs[k]?.getD 0 := by
  have h := lk_self ss cs hd hl
  have h2 := congrArg (fun l => l[k]?.getD 0) h

  rw [← h2]
  unfold toldP gTk
  rw [List.getElem?_map, List.getElem?_eq_getElem hk]
  rfl
/-- What all comes to. -/
def batR (room : List Int) (us : List Un) (ts : List Tk) (g : Int) : List Un × List Int := runB room (sortP ts) us g
def bokP (room : List Int) (us : List Un) (ts : List Tk) (g : Int) : Bool := clOk room us && tasksOk room ts && inR 0 10 g
def batP (room : List Int) (us : List Un) (ts : List Tk) (g : Int) : List Int × List Un × List Int :=
  if bokP room us ts g = true then (room, (batR room us ts g).1, toldP ts (sortP ts) (batR room us ts g).2) else ([], [], [])
def zeroP (cs : List Int) : Bool := cs.all (· == 0)
def ballP (room : List Int) (us : List Un) (ts : List Tk) (g : Int) : List Int × List Un × Bool :=
  if bokP room us ts g = true then (if zeroP (batR room us ts g).2 = true then (room, (batR room us ts g).1, true) else (room, us, false)) else ([], [], false)
/-- The first number of grants that does, from n on. -/
def needF (room : List Int) (us : List Un) (ts : List Tk) : Nat → Nat → Int
  | 0, _ => -1
  | f + 1, n => if zeroP (batR room us ts (n : Int)).2 = true then (n : Int) else needF room us ts f (n + 1)
def needP (room : List Int) (us : List Un) (ts : List Tk) : Int := if bokP room us ts 0 = true then needF room us ts 11 0 else -1

theorem zero_iff {cs : List Int} : zeroP cs = true ↔ ∀ c ∈ cs, c = 0 := by simp [zeroP]
theorem zero_perm {a b : List Int} (h : a.Perm b) : zeroP a = zeroP b := by
  rw [Bool.eq_iff_iff, zero_iff, zero_iff]
  exact ⟨fun x c hc => x c (h.symm.subset hc), fun x c hc => x c (h.subset hc)⟩
theorem bok_iff {room : List Int} {us : List Un} {ts : List Tk} {g : Int} : bokP room us ts g = true ↔ clOk room us = true ∧ tasksOk room ts = true ∧ 0 ≤ g ∧ g ≤ 10 := by
  simp [bokP, inR, Bool.and_eq_true, and_assoc]
section
variable {room : List Int} {us : List Un} {ts : List Tk} {g : Int}
theorem tasks_nodup (h : tasksOk room ts = true) : (ts.map (·.1)).Nodup := by
  unfold tasksOk at h
  simp only [Bool.and_eq_true, decide_eq_true_eq] at h
  exact h.2
theorem bat_len : (batR room us ts g).2.length = ts.length := by rw [batR, run_len, sort_len]
theorem bat_told (h : tasksOk room ts = true) : (toldP ts (sortP ts) (batR room us ts g).2).Perm (batR room us ts g).2 :=
  told_perm (sort_perm ts) (tasks_nodup h) (by rw [bat_len, sort_len])
theorem bat_zero (h : tasksOk room ts = true) : zeroP (toldP ts (sortP ts) (batR room us ts g).2) = zeroP (batR room us ts g).2 := zero_perm (bat_told h)
theorem cav_len (h : clOk room us = true) {id : Int} {xs : List Int} {b : Bool} : (cavP room us id xs b).2.1.length = us.length := by
  by_cases h0 : (cavP room us id xs b).2.2 = 0
  · obtain ⟨n, hn, he, _⟩ := cav_zero h h0
    rw [he, List.length_set]
  · rw [(cav_facts h).2.2.1 h0]
theorem run_lenU : ∀ (ts : List Tk) (us : List Un) (g : Int), clOk room us = true → (runB room ts us g).1.length = us.length
  | [], _, _, _ => rfl
  | x :: ts, us, g, h => by rw [runB]; dsimp only; rw [run_lenU ts _ _ (cav_facts h).2.1, cav_len h]
theorem mem_cav (h : clOk room us = true) {id : Int} {xs : List Int} {b : Bool} {t : Tk} (ht : t ∈ (us.map (·.2)).flatten) : t ∈ ((cavP room us id xs b).2.1.map (·.2)).flatten := by
  by_cases h0 : (cavP room us id xs b).2.2 = 0
  · obtain ⟨n, hn, he, _⟩ := cav_zero h h0
    rw [he, List.map_set]
    dsimp only
    refine (flat_set (by rw [List.length_map]; exact hn)).symm.subset ?_
    have := (flat_at (bs := us.map (·.2)) (i := n) (by rw [List.length_map]; exact hn)).subset ht
    rw [map_snd_at hn] at this
    rcases List.mem_append.1 this with h1 | h1
    · exact List.mem_append_left _ (List.mem_append_left _ h1)
    · exact List.mem_append_right _ h1
  · rw [(cav_facts h).2.2.1 h0]; exact ht
theorem cav_in (h : clOk room us = true) {id : Int} {xs : List Int} {b : Bool} (h0 : (cavP room us id xs b).2.2 = 0) : (id, xs) ∈ ((cavP room us id xs b).2.1.map (·.2)).flatten := by
  obtain ⟨n, hn, he, _⟩ := cav_zero h h0
  rw [he, List.map_set]
  dsimp only
  refine (flat_set (by rw [List.length_map]; exact hn)).symm.subset ?_
  exact List.mem_append_left _ (List.mem_append_right _ (by simp))
theorem mem_run : ∀ (ts : List Tk) (us : List Un) (g : Int) (t : Tk), clOk room us = true → t ∈ (us.map (·.2)).flatten → t ∈ ((runB room ts us g).1.map (·.2)).flatten
  | [], _, _, _, _, ht => ht
  | x :: ts, us, g, t, h, ht => by rw [runB]; exact mem_run ts _ _ t (cav_facts h).2.1 (mem_cav h ht)
theorem runB_mem : ∀ (ts : List Tk) (us : List Un) (g : Int) (k : Nat), clOk room us = true → k < ts.length → (runB room ts us g).2[k]?.getD 0 = 0 → gTk ts k ∈ ((runB room ts us g).1.map (·.2)).flatten
  | [], _, _, _, _, hk, _ => by simp at hk
  | x :: ts, us, g, 0, h, hk, h0 => by
    rw [runB] at h0 ⊢
    exact mem_run ts _ _ _ (cav_facts h).2.1 (cav_in h (by simpa using h0))
  | x :: ts, us, g, k + 1, h, hk, h0 => by
    rw [runB] at h0 ⊢
    have := runB_mem ts _ _ k (cav_facts (id := x.1) (xs := x.2) (g := decide (0 < g)) h).2.1 (by simpa using hk) (by simpa using h0)
    unfold gTk at this ⊢
    simpa using this
/-- A task whose code says done is somewhere. -/
theorem bat_where (hc : clOk room us = true) (ht : tasksOk room ts = true) {k : Nat} (hk : k < ts.length) (h0 : (toldP ts (sortP ts) (batR room us ts g).2)[k]?.getD 0 = 0) : 0 ≤ whereP ((batR room us ts g).1.map (·.2)) (gTk ts k).1 := by
  have hm : gTk ts k ∈ sortP ts := by
    refine (sort_perm ts).symm.subset ?_
    unfold gTk
    rw [List.getElem?_eq_getElem hk]
    exact List.getElem_mem hk
  obtain ⟨j, hj, he⟩ := List.getElem_of_mem hm
  have hg : gTk (sortP ts) j = gTk ts k := by unfold gTk at he ⊢; rw [List.getElem?_eq_getElem hj]; exact he
  have hd : ((sortP ts).map (·.1)).Nodup := (List.Perm.nodup_iff ((sort_perm ts).map _)).2 (tasks_nodup ht)
  have e1 : (toldP ts (sortP ts) (batR room us ts g).2)[k]?.getD 0 = lkP (sortP ts) (batR room us ts g).2 (gTk ts k).1 := by
    unfold toldP gTk
    rw [List.getElem?_map, List.getElem?_eq_getElem hk]
    rfl
  rw [e1, ← hg, lk_at hd (by rw [bat_len, sort_len]) hj] at h0
  have hin := runB_mem (sortP ts) us g j hc hj h0
  rw [hg] at hin
  rcases whereP_or' ((batR room us ts g).1.map (·.2)) (gTk ts k).1 with hw | ⟨n, hw⟩
  · exact absurd rfl (where_none hw _ hin)
  · omega
theorem bat_ok (hc : clOk room us = true) : clOk room (batR room us ts g).1 = true := run_ok _ _ _ hc
theorem bat_total (hc : clOk room us = true) (ht : tasksOk room ts = true) : totalP (batR room us ts g).1 = totalP us + ((toldP ts (sortP ts) (batR room us ts g).2).filter (· == 0)).length := by
  rw [batR, run_total _ _ _ hc]
  congr 1
  exact (((bat_told (us := us) (g := g) ht).symm).filter _).length_eq
theorem bat_grants (hc : clOk room us = true) (hg : 0 ≤ g) : (openN us : Int) ≤ openN (batR room us ts g).1 ∧ (openN (batR room us ts g).1 : Int) ≤ openN us + g := run_grants _ _ _ hc hg
theorem bat_rev (ht : tasksOk room ts = true) : batR room us ts.reverse g = batR room us ts g := by
  unfold batR
  rw [sort_same (List.reverse_perm ts) ((List.Perm.nodup_iff ((List.reverse_perm ts).map _)).2 (tasks_nodup ht))]
theorem bat_one {t : Tk} : batR room us [t] g = ((cavP room us t.1 t.2 (decide (0 < g))).2.1, [(cavP room us t.1 t.2 (decide (0 < g))).2.2]) := rfl
/-- Where all tasks arrive, they do with any grants that suffice for the nodes that were opened. -/
theorem bat_any {g' : Int} (hc : clOk room us = true) (hg : 0 ≤ g) (hz : zeroP (batR room us ts g).2 = true) (hn : (openN (batR room us ts g).1 : Int) ≤ openN us + g') (hg' : 0 ≤ g') : batR room us ts g' = batR room us ts g :=
  run_any _ _ _ _ hc hg (zero_iff.1 hz) hn hg'
theorem bat_more {g' : Int} (hc : clOk room us = true) (hg : 0 ≤ g) (hz : zeroP (batR room us ts g).2 = true) (hg' : g ≤ g') : batR room us ts g' = batR room us ts g :=
  bat_any hc hg hz (by have := (bat_grants (ts := ts) hc hg).2; omega) (by omega)
theorem needF_facts : ∀ (f n : Nat), (needF room us ts f n = -1 ∧ ∀ m, n ≤ m → m < n + f → zeroP (batR room us ts (m : Int)).2 = false) ∨
    (∃ k, n ≤ k ∧ k < n + f ∧ needF room us ts f n = (k : Int) ∧ zeroP (batR room us ts (k : Int)).2 = true ∧ ∀ m, n ≤ m → m < k → zeroP (batR room us ts (m : Int)).2 = false)
  | 0, n => .inl ⟨rfl, fun m h1 h2 => by omega⟩
  | f + 1, n => by
    rw [needF]
    cases hz : zeroP (batR room us ts (n : Int)).2 with
    | true => exact .inr ⟨n, Nat.le_refl _, by omega, by rw [if_pos rfl], hz, fun m h1 h2 => by omega⟩
    | false =>
      rw [if_neg (by simp)]
      rcases needF_facts f (n + 1) with ⟨h1, h2⟩ | ⟨k, h1, h2, h3, h4, h5⟩
      · refine .inl ⟨h1, fun m hm1 hm2 => ?_⟩
        by_cases e : m = n
        · rw [e]; exact hz
        · exact h2 m (by omega) (by omega)
      · refine .inr ⟨k, by omega, by omega, h3, h4, fun m hm1 hm2 => ?_⟩
        by_cases e : m = n
        · rw [e]; exact hz
        · exact h5 m (by omega) hm2
/-- The fewest grants: with them all tasks arrive, with one less they do not; each grant opens a node. -/
theorem need_facts (hc : clOk room us = true) : (needF room us ts 11 0 = -1 ∧ ∀ m : Nat, m ≤ 10 → zeroP (batR room us ts (m : Int)).2 = false) ∨
    (∃ k : Nat, k ≤ 10 ∧ needF room us ts 11 0 = (k : Int) ∧ zeroP (batR room us ts (k : Int)).2 = true ∧ (∀ m : Nat, m < k → zeroP (batR room us ts (m : Int)).2 = false) ∧ openN (batR room us ts (k : Int)).1 = openN us + k) := by
  rcases needF_facts (room := room) (us := us) (ts := ts) 11 0 with ⟨h1, h2⟩ | ⟨k, h1, h2, h3, h4, h5⟩
  · exact .inl ⟨h1, fun m hm => h2 m (Nat.zero_le _) (by omega)⟩
  · refine .inr ⟨k, by omega, h3, h4, fun m hm => h5 m (Nat.zero_le _) hm, ?_⟩
    have hgr := bat_grants (ts := ts) (g := (k : Int)) hc (by omega)
    by_cases e : openN (batR room us ts (k : Int)).1 = openN us + k
    · exact e
    · exfalso
      have hlt : openN (batR room us ts (k : Int)).1 - openN us < k := by omega
      have h6 := h5 _ (Nat.zero_le _) hlt
      have h7 := bat_any (ts := ts) (g' := ((openN (batR room us ts (k : Int)).1 - openN us : Nat) : Int)) hc (by omega) h4 (by omega) (by omega)
      rw [h7, h4] at h6
      cases h6
theorem need_all (hc : clOk room us = true) : (0 ≤ needF room us ts 11 0) ↔ zeroP (batR room us ts 10).2 = true := by
  rcases need_facts (ts := ts) hc with ⟨h1, h2⟩ | ⟨k, h1, h2, h3, _⟩
  · rw [h1]
    have := h2 10 (by omega)
    have e : ((10 : Nat) : Int) = 10 := rfl
    rw [e] at this
    rw [this]
    simp
  · rw [h2]
    have := bat_more (g' := 10) hc (by omega) h3 (by omega)
    rw [this, h3]
    simp
end
end Go.Proofs.YtjjnbbkdjimcoaaGreat
