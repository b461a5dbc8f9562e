/- Several texts in one. -/
import Derived.Test.YtdkhdfedejbicaaGreatDoorJ9
import Derived.Test.YtdkhdfedejbicaaGreatDoorJ7
import Derived.Laws.CopyOwn
import Derived.Laws.IdiomCopy
import Derived.ArgAppend
namespace Go.Proofs.YtdkhdfedejbicaaGreatDoor
set_option linter.unusedSimpArgs false
set_option linter.unusedVariables false

/-! ### Lists of lists -/
theorem flat_set {α : Type} : ∀ {bs : List (List α)} {i : Nat} {c : List α}, i < bs.length → (bs.set i c).flatten.Perm (c ++ (bs.eraseIdx i).flatten)
  | [], i, c, h => by simp at h
  | b :: bs, 0, c, _ => by simp
  | b :: bs, i + 1, c, h => by
    simp only [pC, List.flatten_cons, List.eraseIdx_cons_succ]
    have ih := flat_set (bs := bs) (i := i) (c := c) (by simpa using h)
    refine (List.Perm.append_left b ih).trans ?_
    rw [← List.append_assoc, ← List.append_assoc]
    exact List.Perm.append_right _ List.perm_append_comm
theorem flat_at {α : Type} {bs : List (List α)} {i : Nat} (h : i < bs.length) : bs.flatten.Perm (bs[i]?.getD [] ++ (bs.eraseIdx i).flatten) := by
  have := flat_set (c := bs[i]?.getD []) h
  have e : bs.set i (bs[i]?.getD []) = bs := by
    rw [List.getElem?_eq_getElem h]; exact List.set_getElem_self h
  rwa [e] at this
theorem erase_perm {α : Type} {xs : List α} {k : Nat} (h : k < xs.length) : xs.Perm (xs[k] :: xs.eraseIdx k) := by
  have e : xs = xs.take k ++ xs[k] :: xs.drop (k + 1) := by simp
  have e2 : xs.eraseIdx k = xs.take k ++ xs.drop (k + 1) := List.eraseIdx_eq_take_drop_succ ..
  rw [e2]
  exact (List.Perm.of_eq e).trans List.perm_middle

/-! ### Numbers differ -/
theorem ids_pair {bs : List (List Tk)} (h : (bs.flatten.map (·.1)).Nodup) : (∀ b ∈ bs, b.Pairwise (fun x y => x.1 ≠ y.1)) ∧ bs.Pairwise (fun b c => ∀ x ∈ b, ∀ y ∈ c, x.1 ≠ y.1) := by
  unfold List.Nodup at h
  rw [List.pairwise_map, List.pairwise_flatten] at h
  exact h
theorem ids_bin {bs : List (List Tk)} (h : (bs.flatten.map (·.1)).Nodup) {i j : Nat} (hi : i < bs.length) (hj : j < bs.length) {x y : Tk} (hx : x ∈ bs[i]) (hy : y ∈ bs[j]) (he : x.1 = y.1) : i = j := by
  have hp := (List.pairwise_iff_getElem.1 (ids_pair h).2)
  rcases Nat.lt_trichotomy i j with hlt | he' | hlt
  · exact absurd he (hp i j hi hj hlt x hx y hy)
  · exact he'
  · exact absurd he.symm (hp j i hj hi hlt y hy x hx)
theorem ids_at {b : List Tk} (h : b.Pairwise (fun x y => x.1 ≠ y.1)) {i j : Nat} (hi : i < b.length) (hj : j < b.length) (he : b[i].1 = b[j].1) : i = j := by
  have hp := (List.pairwise_iff_getElem.1 h)
  rcases Nat.lt_trichotomy i j with hlt | he' | hlt
  · exact absurd he (hp i j hi hj hlt)
  · exact he'
  · exact absurd he.symm (hp j i hj hi hlt)
theorem take_erase {b : List Tk} (h : b.Pairwise (fun x y => x.1 ≠ y.1)) {k : Nat} (hk : k < b.length) : takeP b b[k].1 = b.eraseIdx k := by
  have e : b = b.take k ++ b[k] :: b.drop (k + 1) := by simp
  have e3 : takeP b b[k].1 = (b.take k ++ b[k] :: b.drop (k + 1)).filter (fun t => !(t.1 == b[k].1)) := congrArg (fun l => List.filter (fun t : Tk => !(t.1 == b[k].1)) l) e
  rw [e3, List.eraseIdx_eq_take_drop_succ, List.filter_append, List.filter_cons]
  have h1 : (b.take k).filter (fun t => !(t.1 == b[k].1)) = b.take k := by
    rw [List.filter_eq_self]
    intro t ht
    obtain ⟨i, hi, rfl⟩ := List.getElem_of_mem ht
    rw [List.length_take] at hi
    rw [List.getElem_take]
    have : ¬ b[i].1 = b[k].1 := fun he => by have := ids_at h (by omega) hk he; omega
    simpa using this
  have h2 : (b.drop (k + 1)).filter (fun t => !(t.1 == b[k].1)) = b.drop (k + 1) := by
    rw [List.filter_eq_self]
    intro t ht
    obtain ⟨i, hi, rfl⟩ := List.getElem_of_mem ht
    rw [List.length_drop] at hi
    rw [List.getElem_drop]
    have : ¬ b[k + 1 + i].1 = b[k].1 := fun he => by have := ids_at h (by omega) hk he; omega
    simpa using this
  rw [h1, h2]
  simp
theorem take_none {b : List Tk} {id : Int} (h : ∀ t ∈ b, t.1 ≠ id) : takeP b id = b := by
  unfold takeP
  rw [List.filter_eq_self]
  intro t ht
  simpa using h t ht

/-! ### Requests -/
structure Rq where
  kind : Int
  id : Int
  xs : List Int
  grant : Bool
  num : Int
def bareOk (r : Rq) (lo hi : Int) : Bool := (r.id == 0) && decide (r.xs.length = 0) && !r.grant && inR lo hi r.num
def rqOk (r : Rq) : Bool :=
  if r.kind = 1 then inR 1 40 r.id && vecOk r.xs && (r.num == 0)
  else if r.kind = 2 then bareOk r 1 40
  else if r.kind = 3 ∨ r.kind = 4 then bareOk r 0 9
  else if r.kind = 5 then bareOk r 0 20
  else false

/-! ### Gathering -/
def candM (room : List Int) (bs : List (List Tk)) (i : Nat) (t : Tk) : Option (Int × Int) := if 0 ≤ firstP room (bs.take i) t.2 then some (t.1, firstP room (bs.take i) t.2) else none
def nextTo (room : List Int) (bs : List (List Tk)) : Nat → Option (Int × Int)
  | 0 => none
  | i + 1 => ((bs[i]?.getD []).findSome? (candM room bs i)).or (nextTo room bs i)
def nextP (room : List Int) (bs : List (List Tk)) : Option (Int × Int) := nextTo room bs bs.length
def candsTo (bs : List (List Tk)) : Nat → List (Tk × Nat)
  | 0 => []
  | i + 1 => (bs[i]?.getD []).map (fun t => (t, i)) ++ candsTo bs i
theorem next_cands (room : List Int) (bs : List (List Tk)) : ∀ n, (candsTo bs n).findSome? (fun c => candM room bs c.2 c.1) = nextTo room bs n
  | 0 => rfl
  | n + 1 => by
    rw [candsTo, nextTo, List.findSome?_append, next_cands room bs n, List.findSome?_map]
    rfl
theorem first_empty (room xs : List Int) : firstP room [] xs = -1 := rfl
theorem next_one (room : List Int) (bs : List (List Tk)) : nextTo room bs 1 = none := by
  rw [nextTo, nextTo]
  have : (bs[0]?.getD []).findSome? (candM room bs 0) = none := by
    rw [List.findSome?_eq_none_iff]
    intro t _
    unfold candM
    rw [List.take_zero, first_empty, if_neg (by omega)]
  rw [this]; rfl

def takenP (bs : List (List Tk)) (id : Int) : Tk := ((bs.flatten.filter (fun t => t.1 == id)).getLast?).getD (0, [])
def putAt (bs : List (List Tk)) (to : Nat) (x : Tk) : List (List Tk) := bs.set to (bs[to]?.getD [] ++ [x])
def doP (bs : List (List Tk)) (m : Int × Int) : List (List Tk) := putAt (bs.map (takeP · m.1)) m.2.toNat (takenP bs m.1)
def gathP (room : List Int) : Nat → List (List Tk) → List (List Tk)
  | 0, bs => bs
  | k + 1, bs => match nextP room bs with | none => bs | some m => gathP room k (doP bs m)
def planP (room : List Int) : Nat → List (List Tk) → List (Int × Int)
  | 0, _ => []
  | k + 1, bs => match nextP room bs with | none => [] | some m => m :: planP room k (doP bs m)
def canP (room : List Int) (bs : List (List Tk)) (m : Int × Int) : Bool := decide (0 ≤ whereP bs m.1) && inR 0 ((bs.length : Int) - 1) m.2 && !(m.2 == whereP bs m.1) && fits3 (add3 (loadP (bs[m.2.toNat]?.getD [])) (takenP bs m.1).2) room
def mvsP (room : List Int) : List (Int × Int) → List (List Tk) → List (List Tk)
  | [], bs => bs
  | m :: ms, bs => if canP room bs m = true then mvsP room ms (doP bs m) else bs
theorem next_facts {room : List Int} {bs : List (List Tk)} : ∀ {n : Nat} {m : Int × Int}, n ≤ bs.length → nextTo room bs n = some m → ∃ i, ∃ hi : i < bs.length, ∃ k, ∃ hk : k < bs[i].length, ∃ j : Nat, m = (bs[i][k].1, (j : Int)) ∧ j < i ∧ fits3 (add3 (loadP (bs[j]?.getD [])) bs[i][k].2) room = true
  | 0, m, _, h => by simp [nextTo] at h
  | n + 1, m, hn, h => by
    rw [nextTo, Option.or_eq_some_iff] at h
    rcases h with h | ⟨_, h⟩
    · obtain ⟨t, ht, hc⟩ := List.exists_of_findSome?_eq_some h
      have hi : n < bs.length := by omega
      rw [List.getElem?_eq_getElem hi, Option.getD_some] at ht
      obtain ⟨k, hk, rfl⟩ := List.getElem_of_mem ht
      unfold candM at hc
      split at hc
      · rename_i h0
        injection hc with hc
        unfold firstP at h0 hc
        cases hr : (roomsTo room (bs.take n) bs[n][k].2 (bs.take n).length).head? with
        | none => rw [hr] at h0; simp at h0
        | some j =>
          rw [hr] at hc
          have hm := List.mem_of_head? hr
          rw [mem_rooms, List.length_take] at hm
          refine ⟨n, hi, k, hk, j, hc.symm, by omega, ?_⟩
          have h2 := hm.2
          unfold roomB at h2
          rwa [List.getElem?_take, if_pos (by omega)] at h2
      · cases hc
    · exact next_facts (by omega) h

structure Step (room : List Int) (bs : List (List Tk)) (m : Int × Int) (i k j : Nat) (t : Tk) : Prop where
  hi : i < bs.length
  hj : j < i
  hk : (bs[i]?.getD [])[k]? = some t
  fits : fits3 (add3 (loadP (bs[j]?.getD [])) t.2) room = true
  mv : m = (t.1, (j : Int))
  where_ : whereP bs t.1 = (i : Int)
  at_ : atP (bs[i]?.getD []) t.1 = (k : Int)
  taken : takenP bs t.1 = t
  out : doP bs m = (bs.set i ((bs[i]?.getD []).eraseIdx k)).set j (bs[j]?.getD [] ++ [t])

theorem binsOk_nodup {room : List Int} {bs : List (List Tk)} (h : binsOk room bs = true) : (bs.flatten.map (·.1)).Nodup := by
  simp only [binsOk, tasksOk, Bool.and_eq_true, decide_eq_true_eq] at h
  exact h.1.2.2
theorem next_step {room : List Int} {bs : List (List Tk)} {m : Int × Int} (hb : binsOk room bs = true) (h : nextP room bs = some m) : ∃ i k j t, Step room bs m i k j t := by
  have hn := binsOk_nodup hb
  obtain ⟨i, hi, k, hk, j, hm, hj, hf⟩ := next_facts (Nat.le_refl _) h
  have hmem : bs[i][k] ∈ bs[i] := List.getElem_mem hk
  have hp := ids_pair hn
  have hpi := hp.1 _ (List.getElem_mem hi)
  have e0 : bs[i]?.getD [] = bs[i] := by rw [List.getElem?_eq_getElem hi]; rfl
  have hw : whereP bs bs[i][k].1 = (i : Int) := by
    refine whereP_some (k := i) hi ?_ ?_
    · rw [e0]; unfold hasP; rw [List.any_eq_true]; exact ⟨_, hmem, by simp⟩
    · intro a ha
      rw [← Bool.not_eq_true]
      intro hh
      unfold hasP at hh
      rw [List.any_eq_true] at hh
      obtain ⟨y, hy, hye⟩ := hh
      rw [List.getElem?_eq_getElem (by omega), Option.getD_some] at hy
      have := ids_bin hn (by omega) hi hy hmem (by simpa using hye)
      omega
  have hat : atP bs[i] bs[i][k].1 = (k : Int) := by
    refine idxP_some (d := (0, [])) hk ?_ ?_
    · rw [List.getElem?_eq_getElem hk]; simp
    · intro a ha
      rw [List.getElem?_eq_getElem (by omega), Option.getD_some]
      have : ¬ bs[i][a].1 = bs[i][k].1 := fun he => by have := ids_at hpi (by omega) hk he; omega
      simpa using this
  have htk : takenP bs bs[i][k].1 = bs[i][k] := by
    unfold takenP
    have hin : bs[i][k] ∈ bs.flatten := List.mem_flatten.2 ⟨_, List.getElem_mem hi, hmem⟩
    have hall : ∀ t ∈ bs.flatten.filter (fun t => t.1 == bs[i][k].1), t = bs[i][k] := by
      intro t ht
      obtain ⟨ht1, ht2⟩ := List.mem_filter.1 ht
      obtain ⟨b, hb1, hb2⟩ := List.mem_flatten.1 ht1
      obtain ⟨a, ha, rfl⟩ := List.getElem_of_mem hb1
      have ea := ids_bin hn ha hi hb2 hmem (by simpa using ht2)
      subst ea
      obtain ⟨c, hc, rfl⟩ := List.getElem_of_mem hb2
      have ec := ids_at hpi hc hk (by simpa using ht2)
      subst ec
      rfl
    cases hl : (bs.flatten.filter (fun t => t.1 == bs[i][k].1)).getLast? with
    | none =>
      rw [List.getLast?_eq_none_iff] at hl
      have : bs[i][k] ∈ bs.flatten.filter (fun t => t.1 == bs[i][k].1) := List.mem_filter.2 ⟨hin, by simp⟩
      rw [hl] at this; simp at this
    | some t => exact hall t (List.mem_of_getLast? hl)
  refine ⟨i, k, j, bs[i][k], hi, hj, by rw [e0]; exact List.getElem?_eq_getElem hk, hf, hm, hw, by rw [e0]; exact hat, htk, ?_⟩
  have hother : ∀ a, a < bs.length → a ≠ i → takeP (bs[a]?.getD []) bs[i][k].1 = bs[a]?.getD [] := by
    intro a ha hne
    refine take_none fun y hy he => hne ?_
    rw [List.getElem?_eq_getElem ha, Option.getD_some] at hy
    exact ids_bin hn ha hi hy hmem he
  have hm1 : m.1 = bs[i][k].1 := by rw [hm]
  have hm2 : m.2.toNat = j := by rw [hm]; rfl
  unfold doP putAt
  rw [hm1, hm2, htk, e0]
  have hmap : bs.map (takeP · bs[i][k].1) = bs.set i (bs[i].eraseIdx k) := by
    refine List.ext_getElem? fun a => ?_
    rw [List.getElem?_map, List.getElem?_set]
    by_cases ea : i = a
    · subst ea
      rw [if_pos rfl, if_pos hi, List.getElem?_eq_getElem hi, Option.map_some, take_erase hpi hk]
    · rw [if_neg ea]
      rcases Nat.lt_or_ge a bs.length with h1 | h1
      · have := hother a h1 (fun h => ea h.symm)
        rw [List.getElem?_eq_getElem h1, Option.getD_some] at this
        rw [List.getElem?_eq_getElem h1, Option.map_some, this]
      · rw [List.getElem?_eq_none h1]; rfl
  rw [hmap]
  have : (bs.set i (bs[i].eraseIdx k))[j]? = bs[j]? := List.getElem?_set_ne (by omega)
  rw [this]

section
variable {room : List Int} {bs : List (List Tk)} {m : Int × Int} {i k j : Nat} {t : Tk}
theorem Step.perm (h : Step room bs m i k j t) : (doP bs m).flatten.Perm bs.flatten := by
  have hi := h.hi
  have hj : j < bs.length := Nat.lt_trans h.hj hi
  rw [h.out]
  obtain ⟨hk, hkt⟩ := List.getElem?_eq_some_iff.1 h.hk
  have p1 := flat_set (bs := bs.set i ((bs[i]?.getD []).eraseIdx k)) (i := j) (c := bs[j]?.getD [] ++ [t]) (by rw [List.length_set]; exact hj)
  have p2 := flat_at (bs := bs.set i ((bs[i]?.getD []).eraseIdx k)) (i := j) (by rw [List.length_set]; exact hj)
  rw [List.getElem?_set_ne (by have := h.hj; omega)] at p2
  have p3 := flat_set (bs := bs) (i := i) (c := (bs[i]?.getD []).eraseIdx k) hi
  have p4 := flat_at (bs := bs) (i := i) hi
  have p5 := erase_perm hk
  rw [hkt] at p5
  refine p1.trans ?_
  refine List.Perm.trans ?_ p4.symm
  refine List.Perm.trans ?_ ((p5.append_right _).symm)
  rw [List.cons_append]
  refine List.Perm.trans ?_ (List.Perm.cons t p3)
  refine List.Perm.trans ?_ (List.Perm.cons t p2.symm)
  rw [List.append_assoc]
  exact List.perm_middle
theorem Step.len (h : Step room bs m i k j t) : (doP bs m).length = bs.length := by rw [h.out]; simp
end
theorem fold_add (ts : List Tk) : ∀ (s : List Int) (x : Nat), x < 3 → (ts.foldl (fun s t => add3 s t.2) s)[x]?.getD 0 = s[x]?.getD 0 + ((ts.map (fun t => t.2[x]?.getD 0)).sum) := by
  induction ts with
  | nil => intro s x _; simp
  | cons t ts ih =>
    intro s x hx
    rw [List.foldl_cons, ih _ x hx, add3_at hx, List.map_cons, List.sum_cons]
    omega
theorem load_sum (ts : List Tk) {x : Nat} (hx : x < 3) : (loadP ts)[x]?.getD 0 = (ts.map (fun t => t.2[x]?.getD 0)).sum := by
  unfold loadP
  rw [fold_add ts _ x hx]
  match x, hx with
  | 0, _ => simp
  | 1, _ => simp
  | 2, _ => simp
theorem perm_sum {a b : List Int} (h : a.Perm b) : a.sum = b.sum := by
  induction h with
  | nil => rfl
  | cons x _ ih => simp [ih]
  | swap x y l => simp; omega
  | trans _ _ h1 h2 => exact h1.trans h2
theorem load_perm {a b : List Tk} (h : a.Perm b) {x : Nat} (hx : x < 3) : (loadP a)[x]?.getD 0 = (loadP b)[x]?.getD 0 := by
  rw [load_sum a hx, load_sum b hx]
  exact perm_sum (h.map _)
theorem load_snoc (ts : List Tk) (t : Tk) : loadP (ts ++ [t]) = add3 (loadP ts) t.2 := by simp [loadP, List.foldl_append]
theorem load_erase {b : List Tk} {k : Nat} {t : Tk} (hk : b[k]? = some t) (ht : ∀ x, x < 3 → 0 ≤ t.2[x]?.getD 0) {room : List Int} (hf : fits3 (loadP b) room = true) : fits3 (loadP (b.eraseIdx k)) room = true := by
  obtain ⟨hk', rfl⟩ := List.getElem?_eq_some_iff.1 hk
  rw [fits3_iff] at hf ⊢
  intro x hx
  have h1 := hf x hx
  have h2 := load_perm (erase_perm hk') hx
  rw [load_sum (b[k] :: b.eraseIdx k) hx, List.map_cons, List.sum_cons, ← load_sum (b.eraseIdx k) hx] at h2
  have := ht x hx
  omega
theorem tasksOk_perm {room : List Int} {a b : List Tk} (h : a.Perm b) (hb : tasksOk room b = true) : tasksOk room a = true := by
  simp only [tasksOk, Bool.and_eq_true, decide_eq_true_eq] at hb ⊢
  refine ⟨⟨⟨hb.1.1.1, by rw [h.length_eq]; exact hb.1.1.2⟩, ?_⟩, ((h.map _).nodup_iff).2 hb.2⟩
  rw [List.all_eq_true] at *
  exact fun x hx => hb.1.2 x (h.subset hx)
theorem tasksOk_vec {room : List Int} {ts : List Tk} (h : tasksOk room ts = true) {t : Tk} (ht : t ∈ ts) : vecOk t.2 = true := by
  simp only [tasksOk, Bool.and_eq_true, decide_eq_true_eq, List.all_eq_true] at h
  have := h.1.2 t ht
  simp only [taskOk, vecFits, Bool.and_eq_true] at this
  exact this.2.1.1
theorem bins_load {room : List Int} {bs : List (List Tk)} (h : binsOk room bs = true) {i : Nat} (hi : i < bs.length) : fits3 (loadP (bs[i]?.getD [])) room = true := by
  simp only [binsOk, Bool.and_eq_true, List.all_eq_true] at h
  rw [List.getElem?_eq_getElem hi]
  exact h.2 _ (List.getElem_mem hi)
theorem binsOk_iff {room : List Int} {bs : List (List Tk)} : binsOk room bs = true ↔ bs.length ≤ 14 ∧ tasksOk room bs.flatten = true ∧ ∀ i, i < bs.length → fits3 (loadP (bs[i]?.getD [])) room = true := by
  constructor
  · intro h
    refine ⟨?_, ?_, fun i hi => bins_load h hi⟩
    · simp only [binsOk, Bool.and_eq_true, decide_eq_true_eq] at h; exact h.1.1
    · simp only [binsOk, Bool.and_eq_true, decide_eq_true_eq] at h; exact h.1.2
  · rintro ⟨h1, h2, h3⟩
    simp only [binsOk, Bool.and_eq_true, decide_eq_true_eq, List.all_eq_true]
    refine ⟨⟨h1, h2⟩, fun b hb => ?_⟩
    obtain ⟨i, hi, rfl⟩ := List.getElem_of_mem hb
    have := h3 i hi
    rwa [List.getElem?_eq_getElem hi] at this
section
variable {room : List Int} {bs : List (List Tk)} {m : Int × Int} {i k j : Nat} {t : Tk}
theorem Step.mem (h : Step room bs m i k j t) : t ∈ bs.flatten := by
  obtain ⟨hk, e⟩ := List.getElem?_eq_some_iff.1 h.hk
  have hi := h.hi
  refine List.mem_flatten.2 ⟨bs[i]?.getD [], ?_, by rw [← e]; exact List.getElem_mem hk⟩
  rw [List.getElem?_eq_getElem hi]
  exact List.getElem_mem hi
theorem Step.ok (h : Step room bs m i k j t) (hb : binsOk room bs = true) : binsOk room (doP bs m) = true := by
  obtain ⟨h1, h2, h3⟩ := binsOk_iff.1 hb
  refine binsOk_iff.2 ⟨by rw [h.len]; exact h1, tasksOk_perm h.perm h2, fun a ha => ?_⟩
  rw [h.len] at ha
  rw [h.out, List.getElem?_set]
  by_cases ej : j = a
  · subst ej
    rw [if_pos rfl, if_pos (by simpa using ha), Option.getD_some, load_snoc]
    exact h.fits
  · rw [if_neg ej, List.getElem?_set]
    by_cases ei : i = a
    · subst ei
      rw [if_pos rfl, if_pos ha, Option.getD_some]
      exact load_erase h.hk (fun x _ => (vecOk_bd (tasksOk_vec h2 h.mem) x).1) (h3 _ ha)
    · rw [if_neg ei]
      exact h3 a ha
theorem Step.can (h : Step room bs m i k j t) : canP room bs m = true := by
  have hm1 : m.1 = t.1 := by rw [h.mv]
  have hm2 : m.2 = (j : Int) := by rw [h.mv]
  have hi := h.hi
  have hj := h.hj
  unfold canP
  rw [hm1, hm2, h.where_, h.taken, Int.toNat_natCast, h.fits]
  have e1 : inR 0 ((bs.length : Int) - 1) (j : Int) = true := inR_iff.2 ⟨by omega, by omega⟩
  have e2 : ((j : Int) == (i : Int)) = false := by simpa using (show ¬ (j : Int) = (i : Int) by omega)
  rw [e1, e2]
  simp
theorem Step.early (h : Step room bs m i k j t) (a : Nat) (y : Tk) (hy : y ∈ bs[a]?.getD []) : ∃ b, b ≤ a ∧ y ∈ (doP bs m)[b]?.getD [] := by
  have hi := h.hi
  have hj := h.hj
  rw [h.out]
  have ha : a < bs.length := by
    rcases Nat.lt_or_ge a bs.length with h1 | h1
    · exact h1
    · rw [List.getElem?_eq_none h1] at hy; simp at hy
  by_cases ei : i = a
  · subst ei
    obtain ⟨hk, e⟩ := List.getElem?_eq_some_iff.1 h.hk
    rcases List.mem_cons.1 ((erase_perm hk).subset hy) with hyt | hye
    · refine ⟨j, by omega, ?_⟩
      rw [List.getElem?_set_self (by rw [List.length_set]; omega), Option.getD_some, hyt, e]
      simp
    · refine ⟨i, Nat.le_refl _, ?_⟩
      rw [List.getElem?_set_ne (by omega), List.getElem?_set_self hi, Option.getD_some]
      exact hye
  · refine ⟨a, Nat.le_refl _, ?_⟩
    rw [List.getElem?_set]
    by_cases ej : j = a
    · subst ej
      rw [if_pos rfl, if_pos (by rw [List.length_set]; exact ha), Option.getD_some]
      exact List.mem_append_left _ hy
    · rw [if_neg ej, List.getElem?_set_ne ei]
      exact hy
end
theorem gath_facts {room : List Int} : ∀ (q : Nat) (bs : List (List Tk)), binsOk room bs = true → binsOk room (gathP room q bs) = true ∧ (gathP room q bs).length = bs.length ∧ (gathP room q bs).flatten.Perm bs.flatten ∧ (∀ (a : Nat) (y : Tk), y ∈ bs[a]?.getD [] → ∃ b : Nat, b ≤ a ∧ y ∈ (gathP room q bs)[b]?.getD []) ∧ mvsP room (planP room q bs) bs = gathP room q bs ∧ (planP room q bs).length ≤ q
  | 0, bs, hb => ⟨hb, rfl, List.Perm.refl _, fun a y hy => ⟨a, Nat.le_refl _, hy⟩, rfl, Nat.le_refl _⟩
  | q + 1, bs, hb => by
    unfold gathP planP
    cases h : nextP room bs with
    | none => exact ⟨hb, rfl, List.Perm.refl _, fun a y hy => ⟨a, Nat.le_refl _, hy⟩, rfl, by simp⟩
    | some m =>
      obtain ⟨i, k, j, t, hs⟩ := next_step hb h
      obtain ⟨f1, f2, f3, f4, f5, f6⟩ := gath_facts q (doP bs m) (hs.ok hb)
      refine ⟨f1, f2.trans hs.len, f3.trans hs.perm, fun a y hy => ?_, ?_, by simp only [List.length_cons]; omega⟩
      · obtain ⟨b, hb1, hb2⟩ := hs.early a y hy
        obtain ⟨c, hc1, hc2⟩ := f4 b y hb2
        exact ⟨c, by omega, hc2⟩
      · dsimp only
        rw [mvsP, if_pos hs.can, f5]
/-! ### A request, done -/
def openB (us : List Un) : List (List Tk) := (us.filter (·.1)).map (·.2)
def backU : List Un → List (List Tk) → List Un
  | [], _ => []
  | u :: us, bs => if u.1 = true then (true, bs.head?.getD []) :: backU us bs.tail else u :: backU us bs
def gatherU (room : List Int) (us : List Un) (most : Int) : List Un := backU us (gathP room most.toNat (openB us))
def reqP (room : List Int) (us : List Un) (r : Rq) : List Int × List Un × Int :=
  if clOk room us = true then
    (if rqOk r = true then
      (if r.kind = 1 then cavP room us r.id r.xs r.grant
       else if r.kind = 2 then depP room us r.num
       else if r.kind = 3 then opnP room us r.num true
       else if r.kind = 4 then opnP room us r.num false
       else (room, gatherU room us r.num, 0))
     else (room, us, 1))
  else ([], [], 1)
end Go.Proofs.YtdkhdfedejbicaaGreatDoor

namespace Go.Proofs.YtdkhdfedejbicaaGreatDoor
set_option linter.unusedSimpArgs false
set_option linter.unusedVariables false
open Go Go.RowKit

section
variable {P : Program} {ops : Array Oper} {Q : Exit → Act → World → Prop} {md : Region.Mode} {S : World → Prop} {Ls : List Nat}

def wpAnyL (P : Program) (md : Region.Mode) (ops : Array Oper) (Q : Exit → Act → World → Prop) (S : World → Prop) (Ls : List Nat) : Nat → Array Bool → Act → World → Prop
  | 0, listed, a, w => Region.ready md ops listed = [] ∧ Q .normal a w
  | fuel + 1, listed, a, w =>
    (Region.ready md ops listed = [] → Q .normal a w) ∧
    ∀ i ∈ Region.ready md ops listed, wpOp P ops Q i (fun a' w' => (i ∈ Ls ∨ S w') ∧ wpAnyL P md ops Q S Ls fuel (listed.setIfInBounds i true) a' w') a w
theorem wpAny_of_L : ∀ (fuel : Nat) (listed : Array Bool) (a : Act) (w : World), wpAnyL P md ops Q S Ls fuel listed a w → wpAny P md ops Q fuel listed a w
  | 0, _, _, _, h => h
  | fuel + 1, _, _, _, h => ⟨h.1, fun i hi => wpOp_mono (fun a' w' h' => wpAny_of_L fuel _ a' w' h'.2) (h.2 i hi)⟩

def ClosedL (md : Region.Mode) (ops : Array Oper) (listed : Array Bool) : Prop := ∀ j o, ops[j]? = some o → listed.getD j false = true → ∀ e ∈ o.after, Region.binds md e = true → listed.getD e.on false = true
theorem closed_set {listed : Array Bool} {j : Nat} (h : ClosedL md ops listed) (hj : j ∈ Region.ready md ops listed) : ClosedL md ops (listed.setIfInBounds j true) := by
  intro k o hk hl e he hb
  by_cases e1 : j = k
  · subst e1
    obtain ⟨_, o', ho', hall⟩ := mem_ready.1 hj
    rw [hk] at ho'
    injection ho' with ho'
    subst ho'
    exact getD_set_true (hall e he hb)
  · rw [getD_set_ne false e1] at hl
    exact getD_set_true (h k o hk hl e he hb)
def waitsL (md : Region.Mode) (ops : Array Oper) : Nat → Nat → Nat → Bool
  | 0, _, _ => false
  | f + 1, l, i => match ops[l]? with
    | none => true
    | some o => o.after.toList.any (fun e => Region.binds md e && (e.on == i || (decide (e.on < ops.size) && waitsL md ops f e.on i)))
theorem waits_listed {listed : Array Bool} {i : Nat} (h : ClosedL md ops listed) : ∀ (f l : Nat), l < ops.size → listed.getD l false = true → waitsL md ops f l i = true → listed.getD i false = true
  | 0, l, _, _, hw => by cases hw
  | f + 1, l, hlt, hl, hw => by
    unfold waitsL at hw
    rw [Array.getElem?_eq_getElem hlt] at hw
    simp only [List.any_eq_true, Bool.and_eq_true, Bool.or_eq_true, beq_iff_eq, decide_eq_true_eq] at hw
    obtain ⟨e, he, hb, hx⟩ := hw
    have he : e ∈ _ := Array.mem_toList_iff.1 he
    have h1 := h l _ (Array.getElem?_eq_getElem hlt) hl e he hb
    rcases hx with rfl | ⟨hx1, hx2⟩
    · exact h1
    · exact waits_listed h f e.on hx1 h1 hx2
theorem waits_ready {listed : Array Bool} {i l f : Nat} (h : ClosedL md ops listed) (hr : l ∈ Region.ready md ops listed) (hw : waitsL md ops (f + 1) l i = true) : listed.getD i false = true := by
  obtain ⟨_, o, ho, hall⟩ := mem_ready.1 hr
  unfold waitsL at hw
  rw [ho] at hw
  simp only [List.any_eq_true, Bool.and_eq_true, Bool.or_eq_true, beq_iff_eq, decide_eq_true_eq] at hw
  obtain ⟨e, he, hb, hx⟩ := hw
  have he : e ∈ _ := Array.mem_toList_iff.1 he
  have h1 := hall e he hb
  rcases hx with rfl | ⟨hx1, hx2⟩
  · exact h1
  · exact waits_listed h f e.on hx1 h1 hx2
theorem getD_both {listed : Array Bool} {i : Nat} (h : listed.getD i true = false) : listed.getD i false = false := by
  simp only [Array.getD_eq_getD_getElem?] at h ⊢
  cases hh : listed[i]? with
  | none => rfl
  | some b => rw [hh] at h; exact h

theorem wpAnyL_first {i : Nat} {oi : Oper} {v : Value} (hi : ops[i]? = some oi) (hsel : ∀ (j : Nat) (o : Oper) cs b, ops[j]? = some o → o.op ≠ .select cs b)
    (hQ : ∀ c a w, Q (.panic c) (a.put oi.dst v) w → Q (.panic c) a w) (hL : ∀ l ∈ Ls, l ≠ i → waitsL md ops (ops.size + 1) l i = true) :
    ∀ (fuel : Nat) (listed : Array Bool) (a : Act) (w : World), ClosedL md ops listed →
      (∀ j oj, ops[j]? = some oj → j ≠ i → listed.getD j true = false → (∀ e ∈ oj.after, Region.binds md e = true → e.on ≠ i) → oi.apart ops oj = true) →
      i ∈ Region.ready md ops listed → YieldsIf P ops S oi v a → S w →
      wpAnyL P md ops Q S Ls fuel (listed.setIfInBounds i true) (a.put oi.dst v) w → wpAnyL P md ops Q S Ls (fuel + 1) listed a w := by
  intro fuel
  induction fuel with
  | zero =>
    intro listed a w _ _ hr hy hS H
    refine ⟨fun h => (by rw [h] at hr; cases hr), fun j hj => ?_⟩
    by_cases hji : j = i
    · subst hji; exact hy.wpOp hi hS ⟨.inr hS, H⟩
    · have := ready_mono hj hji
      rw [H.1] at this
      cases this
  | succ fuel ih =>
    intro listed a w hcl hfree hr hy hS H
    refine ⟨fun h => (by rw [h] at hr; cases hr), fun j hj => ?_⟩
    by_cases hji : j = i
    · subst hji; exact hy.wpOp hi hS ⟨.inr hS, H⟩
    · have h1 := H.2 j (ready_mono hj hji)
      obtain ⟨hjun, oj, hoj, hall⟩ := mem_ready.1 hj
      have hiun := getD_both (mem_ready.1 hr).1
      have hjL : j ∉ Ls := fun hm => by
        have := waits_ready hcl hj (hL j hm hji)
        rw [hiun] at this; cases this
      have hnot : ∀ e ∈ oj.after, Region.binds md e = true → e.on ≠ i := fun e he hb heq => by
        have h1 := hall e he hb
        rw [heq, hiun] at h1
        cases h1
      have h2 := wpOp_putIf hoj (hfree j oj hoj hji hjun hnot) (fun cs b => hsel i oi cs b hi) (fun cs b => hsel j oj cs b hoj) hQ hy h1
      have hfree' : ∀ k ok, ops[k]? = some ok → k ≠ i → (listed.setIfInBounds j true).getD k true = false →
          (∀ e ∈ ok.after, Region.binds md e = true → e.on ≠ i) → oi.apart ops ok = true := fun k ok hk hki hun hno => by
        refine hfree k ok hk hki ?_ hno
        by_cases hjk : j = k
        · subst hjk; exact hjun
        · rw [getD_set_ne true hjk] at hun; exact hun
      refine wpOp_mono (fun a' w' h3 => ⟨h3.2.1, ih (listed.setIfInBounds j true) a' w' (closed_set hcl hj) hfree' (ready_mono hr (Ne.symm hji)) h3.1 (h3.2.1.resolve_left hjL) ?_⟩) h2
      rw [Array.setIfInBounds_comm _ _ hji]
      exact h3.2.2

inductive MixL where
  | nil
  | take (i : Nat) (r : MixL)
  | bar (i : Nat) (r : MixL)
  | last (i : Nat) (r : MixL)
  | fork (i : Nat) (r : MixL) (j : Nat) (s : MixL)
def lexMixL (Ls : List Nat) (ops : Array Oper) : MixL → Bool → Nat → Array Bool → Bool
  | .nil, _, _, listed => (Region.ready .any ops listed).isEmpty
  | .take i r, b, f, listed => b && (decide (0 < f) && ((Region.ready .any ops listed).contains i && Region.free .any ops listed i) && (Ls.all (fun l => l == i || waitsL .any ops (ops.size + 1) l i) && lexMixL Ls ops r b (f - 1) (listed.setIfInBounds i true)))
  | .bar i r, _, f, listed => decide (0 < f) && decide (Region.ready .any ops listed = [i]) && lexMixL Ls ops r true (f - 1) (listed.setIfInBounds i true)
  | .last i r, _, f, listed => decide (0 < f) && decide (Region.ready .any ops listed = [i]) && (Ls.contains i && lexMixL Ls ops r false (f - 1) (listed.setIfInBounds i true))
  | .fork i r j s, _, f, listed => decide (0 < f) && decide (Region.ready .any ops listed = [i, j]) && (lexMixL Ls ops r true (f - 1) (listed.setIfInBounds i true) && lexMixL Ls ops s true (f - 1) (listed.setIfInBounds j true))
def mixLOk (Ls : List Nat) (ops : Array Oper) (ord : MixL) : Bool := Region.noSelect ops && lexMixL Ls ops ord true ops.size (Array.replicate ops.size false)
def wpMixL (P : Program) (ops : Array Oper) (Q : Exit → Act → World → Prop) (S : World → Prop) : MixL → Act → World → Prop
  | .nil, a, w => Q .normal a w
  | .take i r, a, w => ∃ o v, ops[i]? = some o ∧ YieldsIf P ops S o v a ∧ wpMixL P ops Q S r (a.put o.dst v) w
  | .bar i r, a, w => wpOp P ops Q i (fun a' w' => S w' ∧ wpMixL P ops Q S r a' w') a w
  | .last i r, a, w => wpOp P ops Q i (fun a' w' => wpMixL P ops Q S r a' w') a w
  | .fork i r j s, a, w => wpOp P ops Q i (fun a' w' => S w' ∧ wpMixL P ops Q S r a' w') a w ∧ wpOp P ops Q j (fun a' w' => S w' ∧ wpMixL P ops Q S s a' w') a w
theorem wpAnyL_mix (hsel : Region.noSelect ops = true) (hQ : ∀ c a a' w, Q (.panic c) a w → Q (.panic c) a' w) : ∀ (ord : MixL) (b : Bool) (f : Nat) (listed : Array Bool) (a : Act) (w : World),
    lexMixL Ls ops ord b f listed = true → ClosedL .any ops listed → (b = true → S w) → wpMixL P ops Q S ord a w → wpAnyL P .any ops Q S Ls f listed a w
  | .nil, b, f, listed, _, _, hB, _, _, h => by
    have hr : Region.ready .any ops listed = [] := by simpa [lexMixL] using hB
    cases f with
    | zero => exact ⟨hr, h⟩
    | succ f => exact ⟨fun _ => h, by rw [hr]; simp⟩
  | .take i r, b, f, listed, a, w, hB, hC, hS, h => by
    simp only [lexMixL, Bool.and_eq_true, decide_eq_true_eq, List.all_eq_true, Bool.or_eq_true, beq_iff_eq] at hB
    obtain ⟨hb, ⟨hf, hcon, hfr⟩, hwt, hrest⟩ := hB
    obtain ⟨f, rfl⟩ : ∃ g, f = g + 1 := ⟨f - 1, by omega⟩
    obtain ⟨o, v, h0, hy, hK⟩ := h
    have hr : i ∈ Region.ready .any ops listed := by simpa using hcon
    exact wpAnyL_first h0 (Region.noSelect_spec hsel) (fun c a' w' hq => hQ c _ _ w' hq) (fun l hl hne => (hwt l hl).resolve_left hne) f listed a w hC (Region.free_spec h0 hfr) hr hy (hS hb)
      (wpAnyL_mix hsel hQ r b _ _ _ w hrest (closed_set hC hr) hS hK)
  | .bar i r, b, f, listed, a, w, hB, hC, hS, h => by
    simp only [lexMixL, Bool.and_eq_true, decide_eq_true_eq] at hB
    obtain ⟨f, rfl⟩ : ∃ g, f = g + 1 := ⟨f - 1, by omega⟩
    refine ⟨fun h0 => (by rw [hB.1.2] at h0; cases h0), fun j hj => ?_⟩
    have : j = i := by rw [hB.1.2] at hj; simpa using hj
    subst this
    exact wpOp_mono (fun a' w' hh => ⟨.inr hh.1, wpAnyL_mix hsel hQ r true _ _ a' w' hB.2 (closed_set hC hj) (fun _ => hh.1) hh.2⟩) h
  | .last i r, b, f, listed, a, w, hB, hC, hS, h => by
    simp only [lexMixL, Bool.and_eq_true, decide_eq_true_eq] at hB
    obtain ⟨f, rfl⟩ : ∃ g, f = g + 1 := ⟨f - 1, by omega⟩
    refine ⟨fun h0 => (by rw [hB.1.2] at h0; cases h0), fun j hj => ?_⟩
    have : j = i := by rw [hB.1.2] at hj; simpa using hj
    subst this
    exact wpOp_mono (fun a' w' hh => ⟨.inl (by simpa using hB.2.1), wpAnyL_mix hsel hQ r false _ _ a' w' hB.2.2 (closed_set hC hj) (fun h => by cases h) hh⟩) h
  | .fork i r j s, b, f, listed, a, w, hB, hC, hS, h => by
    simp only [lexMixL, Bool.and_eq_true, decide_eq_true_eq] at hB
    obtain ⟨f, rfl⟩ : ∃ g, f = g + 1 := ⟨f - 1, by omega⟩
    refine ⟨fun h0 => (by rw [hB.1.2] at h0; cases h0), fun k hk => ?_⟩
    have hk' := hk
    rw [hB.1.2] at hk'
    rcases List.mem_cons.1 hk' with rfl | hk'
    · exact wpOp_mono (fun a' w' hh => ⟨.inr hh.1, wpAnyL_mix hsel hQ r true _ _ a' w' hB.2.1 (closed_set hC hk) (fun _ => hh.1) hh.2⟩) h.1
    · have : k = j := by simpa using hk'
      subst this
      exact wpOp_mono (fun a' w' hh => ⟨.inr hh.1, wpAnyL_mix hsel hQ s true _ _ a' w' hB.2.2 (closed_set hC hk) (fun _ => hh.1) hh.2⟩) h.2
theorem wp_region_mixL {id : Nat} {Q' : Exit → Act → World → Prop} {a : Act} {w : World} {l : List Oper} (ord : MixL) (Ls : List Nat) (S : World → Prop) (hm : P.follows .mixedOrders = true) (hB : mixLOk Ls l.toArray ord = true) (hS : S w.drew)
    (h : S w.drew → wpMixL P l.toArray (NoPanic Q') S ord a w.drew) : (Code.region id l.toArray true).wp P Q' a w := by
  simp only [mixLOk, Bool.and_eq_true] at hB
  refine wp_region_noPanic (wp_region_any hm (wpAny_of_L (S := S) (Ls := Ls) _ _ _ _ ?_))
  exact wpAnyL_mix (Q := NoPanic Q') (S := S) (Ls := Ls) hB.1 (fun c a a' w hq => (hq : False).elim) ord true _ (Array.replicate l.toArray.size false) a w.drew hB.2 (fun j o hj hl => by
    exfalso
    simp only [Array.getD_eq_getD_getElem?] at hl
    rw [Array.getElem?_replicate] at hl
    split at hl <;> simp at hl) (fun _ => hS) (h hS)

theorem lxT {i : Nat} {o : Oper} {tl : List Oper} {r : MixL} {a : Act} {w : World} {v : Value} (ho : ops.toList.drop i = o :: tl) (hw : Region.wanted o (yielded ops a.tmps) = true) (hy : ∀ w', S w' → (execOp a.eval o).run P w' = .ok (.value v) w')
    (h : wpMixL P ops Q S r (a.put o.dst v) w) : wpMixL P ops Q S (.take i r) a w := ⟨o, v, mix_at ho, .inl ⟨hw, hy⟩, h⟩
theorem lxS {i : Nat} {o : Oper} {tl : List Oper} {r : MixL} {a : Act} {w : World} (ho : ops.toList.drop i = o :: tl) (hw : Region.wanted o (yielded ops a.tmps) = false)
    (h : wpMixL P ops Q S r (a.put o.dst undef) w) : wpMixL P ops Q S (.take i r) a w := ⟨o, undef, mix_at ho, .inr ⟨hw, rfl⟩, h⟩
theorem lxB {i : Nat} {o : Oper} {tl : List Oper} {r : MixL} {a : Act} {w : World} (ho : ops.toList.drop i = o :: tl)
    (h : ∀ K : Act → World → Prop, Shut (∀ a w, S w → (S w → wpMixL P ops Q S r a w) → K a w) → if Region.wanted o (yielded ops a.tmps) = true then Oper.wp P o a w K Q else K (a.put o.dst undef) w) : wpMixL P ops Q S (.bar i r) a w :=
  wpOp_step (mix_at ho) (fun K' hK => h K' (fun a w hS hW => hK a w ⟨hS, hW hS⟩))
theorem wpMixL_last {i : Nat} {o : Oper} {tl : List Oper} {r : MixL} {a : Act} {w : World} (ho : ops.toList.drop i = o :: tl)
    (h : ∀ K : Act → World → Prop, Shut (∀ a w, wpMixL P ops Q S r a w → K a w) → if Region.wanted o (yielded ops a.tmps) = true then Oper.wp P o a w K Q else K (a.put o.dst undef) w) : wpMixL P ops Q S (.last i r) a w :=
  wpOp_step (mix_at ho) (fun K' hK => h K' (fun a w hW => hK a w hW))
theorem wpMixL_nil {Q' : Exit → Act → World → Prop} {a : Act} {w : World} (h : Q' .normal a w) : wpMixL P ops (NoPanic Q') S .nil a w := h
end
end Go.Proofs.YtdkhdfedejbicaaGreatDoor

namespace Go.Proofs.YtdkhdfedejbicaaGreatDoor
set_option linter.unusedSimpArgs false
set_option linter.unusedVariables false
open Go Go.RowKit
section
variable {P : Program}
theorem run_copy_rowS (w : World) (dT sT ty elem : TypeId) (s : Nat) (g o dLen dCap : Nat) (a : Addr) (sLen sCap : Nat) (cur : Array Value) (t : TypeId) (cs : List Value)
    (hu : P.underlying dT = some (.slice elem)) (hs : (P.info? elem).map (·.size) = some s)
    (hg : w.heap[g]? = some (.cells cur t (0, 0))) (hn : cs.length = Nat.min sLen dLen * s)
    (hsrc : ∀ j v, cs[j]? = some v → w.cell? (a.add j) = some v) (hfit : o + cs.length ≤ cur.size) (h1 : ∀ v ∈ cs, v.oneCell' = true) :
    (Builtin.copy_ #[dT, sT] ty #[.slice (some ⟨g, o, none⟩) dLen dCap, .slice (some a) sLen sCap]).run P w =
      .ok (goInt (Nat.min sLen dLen)) (w.setRow g (cur.toList.take o ++ cs ++ cur.toList.drop (o + cs.length)).toArray) := by
  have hl := run_loadCells_list (P := P) w a cs hsrc
  have hst := run_storeCells_at P g o t cs 0 cur w hg (by simpa using hfit) h1
  cases hq : P.info? elem with
  | none => simp [hq] at hs
  | some i =>
    have hi : i.size = s := by simpa [hq] using hs
    rw [hn] at hl
    simp [Builtin.copy_, run_underlying hu, Builtin.lenOf, Builtin.firstCells, sizeOf, typeInfo, hq, hi, hl, hst]
theorem step_copy_rowS {ops : Array Oper} {o : Oper} {a : Act} {w : World} {K : Act → World → Prop} {Q : Exit → Act → World → Prop} {E : Prop} (hgd : o.guard = none) (d s : Operand) (dT sT : TypeId)
    (ho : o.op = .call { callee := .builtin .copy, args := #[d, s], argTypes := #[dT, sT] }) (elem : TypeId) (sz : Nat) (hu : P.underlying dT = some (.slice elem)) (hsz : (P.info? elem).map (·.size) = some sz)
    (g off dLen dCap : Nat) (ad : Addr) (sLen sCap : Nat) (hd : a.eval d = .slice (some ⟨g, off, none⟩) dLen dCap) (hs : a.eval s = .slice (some ad) sLen sCap)
    (cur : List Value) (t : TypeId) (hg : w.heap[g]? = some (.cells cur.toArray t (0, 0))) (cs : List Value) (hn : cs.length = Nat.min sLen dLen * sz)
    (hsrc : ∀ j v, cs[j]? = some v → w.cell? (ad.add j) = some v) (hfit : off + cs.length ≤ cur.length) (h1 : ∀ v ∈ cs, v.oneCell' = true)
    (h : ∀ w', Hid (w'.heap[g]? = some (.cells (splice cur off cs).toArray t (0, 0))) → (∀ b, b ≠ g → w'.heap[b]? = w.heap[b]?) → (∀ (B : Nat) (w0 : World), B ≤ g → Below B w0 w → Below B w0 w') → K (a.put o.dst (goInt (Nat.min sLen dLen))) w') :
    if Region.wanted o (yielded ops a.tmps) = true then Oper.wp P o a w K Q else E := by
  have hw : Region.wanted o (yielded ops a.tmps) = true := by simp [Region.wanted, hgd]
  rw [if_pos hw]
  have hrun := run_copy_rowS (P := P) w dT sT o.type elem sz g off dLen dCap ad sLen sCap cur.toArray t cs hu hsz hg hn hsrc (by simpa using hfit) h1
  unfold Oper.wp
  simp only [List.append_assoc] at hrun
  simp [execOp, ho, resolve, invoke, builtin, hd, hs, hrun, Result.andThen, Oper.upon]
  have hh := h (w.setRow g (cur.toArray.toList.take off ++ (cs ++ cur.toArray.toList.drop (off + cs.length))).toArray) (show _ = _ by simpa [splice] using setRow_heap w g _ _ t _ hg) (fun b hb => setRow_other w g b _ hb) (fun B w0 hB hb => below_setRow hb hB _)
  simpa [goInt] using hh
theorem run_clear_two (w : World) (t e ty : TypeId) (z0 z1 : Value) (ht : P.underlying t = some (.slice e)) (hv : ∀ w, (zeroValue e).run P w = .ok (.agg #[z0, z1]) w) (h0 : z0.oneCell' = true) (h1 : z1.oneCell' = true) (b o c : Nat)
    (hc : ∀ j, j < 2 → (w.cell? ⟨b, o + j, none⟩).isSome = true) (hf : ∀ j, j < 2 → w.frozen? ⟨b, o + j, none⟩ = false) :
    (Builtin.clear_ #[t] ty #[.slice (some ⟨b, o, none⟩) 1 c]).run P w = .ok (.tuple #[]) (w.setCells b o [z0, z1]) := by
  have hst := run_storeCells_cells (P := P) b o [z0, z1] 0 w (by simpa using hc) (by simpa using hf) (by simp [h0, h1])
  simp only [Nat.add_zero] at hst
  have hz : (Builtin.zeroCells (Value.agg #[z0, z1]).cells 1).toList = [z0, z1] := by
    apply List.ext_getElem
    · simp [Builtin.zeroCells, Value.cells]
    · intro i h1 h2
      have : i = 0 ∨ i = 1 := by simp at h2; omega
      rcases this with rfl | rfl <;> simp [Builtin.zeroCells, Value.cells]
  simp [Builtin.clear_, run_underlying ht, hv, hz, hst]
end
theorem Blk.setMany {g : Nat} {t : TypeId} : ∀ (vs : List Value) (w : World) (o : Nat) (cur : List Value), Blk w g t cur.toArray → o + vs.length ≤ cur.length → Blk (w.setCells g o vs) g t (splice cur o vs).toArray
  | [], w, o, cur, h, _ => by simpa [World.setCells, splice] using h
  | v :: vs, w, o, cur, h, hl => by
    have h1 : Blk (w.setCell ⟨g, o, none⟩ v) g t (cur.set o v).toArray := by
      have := h.set_ o v
      rwa [pS] at this
    have h2 := Blk.setMany vs (w.setCell ⟨g, o, none⟩ v) (o + 1) (cur.set o v) h1 (by rw [List.length_set]; simp at hl; omega)
    rw [World.setCells]
    have e : splice (cur.set o v) (o + 1) vs = splice cur o (v :: vs) := by
      unfold splice
      simp only [List.length_cons] at hl
      have ho : o < cur.length := by omega
      rw [List.take_set, List.drop_set_of_lt (by omega)]
      have e1 : (cur.take (o + 1)).set o v = cur.take o ++ [v] := by
        rw [List.take_succ_eq_append_getElem ho, List.set_append_right _ _ (by rw [List.length_take]; omega), List.length_take, Nat.min_eq_left (by omega), Nat.sub_self]
        rfl
      rw [e1, List.append_assoc, List.length_cons, show o + 1 + vs.length = o + (vs.length + 1) by omega]
      rfl
    rw [e] at h2
    exact h2
theorem heap_setMany (w : World) (g o : Nat) (vs : List Value) {b : Nat} (hb : b ≠ g) : (w.setCells g o vs).heap[b]? = w.heap[b]? := by
  induction vs generalizing w o with
  | nil => rfl
  | cons v vs ih => rw [World.setCells, ih, Below.heap_setCell _ _ _ _ hb]
theorem below_setMany {B g : Nat} {w0 w : World} (h : Below B w0 w) (hB : B ≤ g) (o : Nat) (vs : List Value) : Below B w0 (w.setCells g o vs) := by
  induction vs generalizing w o with
  | nil => exact h
  | cons v vs ih => rw [World.setCells]; exact ih (h.setCell (p := ⟨g, o, none⟩) hB v) _
theorem unit_size : (Tryz.prog.info? 83).map (·.size) = some 2 := by kernel_rfl
end Go.Proofs.YtdkhdfedejbicaaGreatDoor

namespace Go.Proofs.YtdkhdfedejbicaaGreatDoor
set_option linter.unusedSimpArgs false
set_option linter.unusedVariables false
open Go Go.RowKit
attribute [local go_sem ↓] Go.wp_at_zero Go.wp_at_succ

def CdCells (w : World) (B : Nat) (vs : List Value) (cs : List (Tk × Nat)) : Prop :=
  vs.length = cs.length * 3 ∧ ∀ j, j < cs.length → ∃ A m c, vs[j * 3]? = some (.int .i64 (cs[j]?.getD ((0, []), 0)).1.1) ∧ vs[j * 3 + 1]? = some (.slice A m c) ∧ vs[j * 3 + 2]? = some (.int .i64 (((cs[j]?.getD ((0, []), 0)).2 : Nat) : Int)) ∧ m ≤ c ∧ RdI w B A m (cs[j]?.getD ((0, []), 0)).1.2
section
variable {w w' : World} {B B' : Nat} {vs : List Value} {cs : List (Tk × Nat)}
theorem CdCells.nil : CdCells w B [] [] := ⟨rfl, fun j hj => by simp at hj⟩
theorem CdCells.keep (h : CdCells w B vs cs) (hk : ∀ p : Addr, p.block < B → w'.cell? p = w.cell? p) (hB : B ≤ B') : CdCells w' B' vs cs :=
  ⟨h.1, fun j hj => by obtain ⟨A', m, c, h1, h2, h3, h4, h5⟩ := h.2 j hj; exact ⟨A', m, c, h1, h2, h3, h4, h5.keep hk hB⟩⟩
theorem CdCells.below (h : CdCells w B vs cs) (hb : Below B w w') : CdCells w' B vs cs := h.keep (fun _ hp => hb.cell hp) (Nat.le_refl _)
theorem CdCells.snoc {A : Option Addr} {m c i : Nat} {id : Int} {xs : List Int} (h : CdCells w B vs cs) (hr : RdI w B A m xs) (hc : m ≤ c) : CdCells w B (vs ++ [.int .i64 id, .slice A m c, .int .i64 (i : Int)]) (cs ++ [((id, xs), i)]) := by
  have hl := h.1
  refine ⟨by simp [hl]; omega, fun j hj => ?_⟩
  by_cases e : j < cs.length
  · obtain ⟨A', m', c', h1, h2, h3, h4, h5⟩ := h.2 j e
    exact ⟨A', m', c', by rw [List.getElem?_append_left (by omega), List.getElem?_append_left e]; exact h1, by rw [List.getElem?_append_left (by omega)]; exact h2, by rw [List.getElem?_append_left (by omega), List.getElem?_append_left e]; exact h3, h4, by rw [List.getElem?_append_left e]; exact h5⟩
  · have : j = cs.length := by simp at hj; omega
    subst this
    refine ⟨A, m, c, ?_, ?_, ?_, hc, ?_⟩
    · rw [List.getElem?_append_right (by omega), List.getElem?_append_right (by omega), hl, Nat.sub_self, Nat.sub_self]; rfl
    · rw [List.getElem?_append_right (by omega), hl, show cs.length * 3 + 1 - cs.length * 3 = 1 by omega]; rfl
    · rw [List.getElem?_append_right (by omega), List.getElem?_append_right (by omega), hl, show cs.length * 3 + 2 - cs.length * 3 = 2 by omega, Nat.sub_self]; rfl
    · rw [List.getElem?_append_right (by omega), Nat.sub_self]; exact hr
end
theorem lit3 (w : World) (t : TypeId) (a b c : Value) : Src (w.alloc (.cells #[a, b, c] t)) 3 (some ⟨w.heap.size, 0, none⟩) 1 [a, b, c] :=
  ⟨rfl, fun _ => ⟨_, rfl, fun j u hu => by rw [addr_add, Nat.zero_add, (Blk.new w t #[a, b, c]).cell]; simpa using hu⟩⟩
theorem cand_info : (Tryz.prog.info? 206).map (fun i => (i.zero, i.size, i.bytes)) = some (some (.agg #[.int .i64 0, .slice none 0 0, .int .i64 0]), 3, 40) := by kernel_rfl

set_option maxRecDepth 100000 in
set_option maxHeartbeats 1600000 in
theorem candidates_any (A2 : Option Addr) (n2 c2 : Nat) (bs : List (List Tk)) (w : World) (h : RdB w w.heap.size A2 n2 bs) (hn : n2 ≤ 14) (hb : ∀ j, j < n2 → (bs[j]?.getD []).length ≤ 14) :
    Calls Tryz.prog 174 #[.slice A2 n2 c2] w fun e w' => ∃ A m c vs, e = .returned (.slice A m c) ∧ w'.ownsRow w.heap.size 206 3 (.slice A m c) m vs ∧ CdCells w' w.heap.size vs (candsTo bs n2) ∧ m ≤ 300 ∧ Below w.heap.size w w' := by
  obtain ⟨i0, hi0, hz0, hz1, hz2⟩ := info_parts cand_info
  have hl := qh h.len
  have H := qh h
  have Hb := qh hb
  have O1 := qh (show (w.alloc (.cells #[] 206)).ownsRow w.heap.size 206 3 (.slice (some ⟨w.heap.size, 0, none⟩) 0 0) 0 [] from World.ownsRow_lit w #[] 0 (Nat.le_refl _) (by unfold maxLen; omega) rfl)
  have B1 := qh (alloc_up w (.cells #[] 206))
  have v0 : IntKind.i64.wrap ((n2 : Int) - 1) = (n2 : Int) - 1 := wr64 (by omega) (by omega)
  clear h hb
  go_enter Tryz.func174, Tryz.ntmps174
  go_wp2_with fail
  generalize w.alloc (.cells #[] 206) = w1 at O1 B1 ⊢
  go_loopw [3, 4] (fun v i wr => ∃ (k : Nat) (A6 : Option Addr) (m6 c6 : Nat) (vs : List Value) (L : List (Tk × Nat)), i = .int .i64 ((k : Int) - 1) ∧ k ≤ n2 ∧ v = .slice A6 m6 c6 ∧ Below w.heap.size w wr ∧
    wr.ownsRow w.heap.size 206 3 (.slice A6 m6 c6) m6 vs ∧ CdCells wr w.heap.size vs L ∧ m6 ≤ (n2 - k) * 14 ∧ L ++ candsTo bs k = candsTo bs n2) (fun _ i _ => (intOf i + 1).toNat)
  case atStart => exact ⟨n2, _, _, _, [], [], rfl, Nat.le_refl _, rfl, B1.out, O1.out, CdCells.nil, by omega, rfl⟩
  case round =>
    clear O1 B1 v0
    obtain ⟨k, A6, m6, c6, vs, L, rfl, hk, rfl, hbel, hown, hcs, hm6, hL⟩ := hrel
    have Hbel := qh hbel
    have Hown := qh hown
    have Hcs := qh hcs
    have HL := qh hL
    clear hbel hown hcs hL
    by_cases hk0 : k = 0
    · subst hk0
      have q1 : ¬ (0 : Int) ≤ ((0 : Nat) : Int) - 1 := by omega
      go_wp2_with fail
      go_ret
      have hc := Hcs.out
      have e := HL.out
      rw [candsTo, List.append_nil] at e
      rw [e] at hc
      exact ⟨A6, m6, c6, rfl, vs, Hown.out, hc, by omega, Hbel.out⟩
    · obtain ⟨i, rfl⟩ : ∃ i, k = i + 1 := ⟨k - 1, by omega⟩
      have ei : (((i + 1 : Nat) : Int) - 1) = (i : Int) := by omega
      rw [ei]
      have q1 : (0 : Int) ≤ (i : Int) := by omega
      have q2 : (i : Int) < (n2 : Int) := by omega
      obtain ⟨b, o, A', m', c', rfl, lb, hc1, hmc, hrd⟩ := (H.out.below Hbel.out).at_ (show i < n2 by omega)
      have hm := hrd.len
      have hm14 : m' ≤ 14 := by have := Hb.out i (by omega); omega
      have Hrd := qh hrd
      have w1q : IntKind.i64.wrap ((i : Int) - 1) = (i : Int) - 1 := wr64 (by omega) (by omega)
      clear hrd ei hk0
      obtain ⟨wo, hwo⟩ : ∃ wo, wo = wr := ⟨_, rfl⟩
      rw [← hwo] at Hbel Hown Hcs Hrd hc1 ⊢
      clear hwo
      go_wp2_with fail
      go_loopw [3, 20] (fun v j wr => ∃ (q : Nat) (A7 : Option Addr) (m7 c7 : Nat) (vs7 : List Value), j = .int .i64 (q : Nat) ∧ q ≤ m' ∧ v = .slice A7 m7 c7 ∧ Below w.heap.size w wr ∧
        wr.ownsRow w.heap.size 206 3 (.slice A7 m7 c7) m7 vs7 ∧ CdCells wr w.heap.size vs7 (L ++ ((bs[i]?.getD []).take q).map (fun t => (t, i))) ∧ m7 = m6 + q ∧ RdT wr w.heap.size A' m' (bs[i]?.getD [])) (fun _ j _ => m' - (intOf j).toNat)
      case atStart => exact ⟨0, A6, m6, c6, vs, rfl, Nat.zero_le _, rfl, Hbel.out, Hown.out, by rw [List.take_zero, List.map_nil, List.append_nil]; exact Hcs.out, rfl, Hrd.out⟩
      case round =>
        clear Hbel Hown Hcs Hrd hc1
        obtain ⟨q, A7, m7, c7, vs7, rfl, hq, rfl, hbel, hown, hcs, hm7, hrd⟩ := hrel
        have Hm7 := qh hm7
        have lm7 : m7 ≤ 300 := by omega
        have Hbel := qh hbel
        have Hown := qh hown
        have Hcs := qh hcs
        have Hrd := qh hrd
        have lz := hbel.size
        clear hbel hown hcs hrd hm7
        by_cases hlt : q < m'
        · obtain ⟨b2, o2, A3, m3, c3, rfl, lb2, hd1, hd2, hm3, hr3⟩ := Hrd.out.at_ hlt
          have q3 : (0 : Int) ≤ (q : Int) := by omega
          have q4 : (q : Int) < (m' : Int) := by omega
          have q5 : 0 ≤ (q : Int) * 2 := by omega
          have hql : q < (bs[i]?.getD []).length := by omega
          have Hs := qh (show ((bs[i]?.getD []).take (q + 1)).map (fun t => (t, i)) = ((bs[i]?.getD []).take q).map (fun t => (t, i)) ++ [((((bs[i]?.getD [])[q]?.getD (0, [])).1, ((bs[i]?.getD [])[q]?.getD (0, [])).2), i)] from by
            rw [List.take_succ_eq_append_getElem hql, List.map_append, List.getElem?_eq_getElem hql]; rfl)
          have Hr3 := qh hr3
          clear hr3
          generalize ((bs[i]?.getD [])[q]?.getD (0, [])).1 = idq at *
          generalize ((bs[i]?.getD [])[q]?.getD (0, [])).2 = xq at *
          have al8 := alloc_up wr (.cells #[.int .i64 idq, .slice A3 m3 c3] 75)
          have sz : (wr.alloc (.cells #[.int .i64 idq, .slice A3 m3 c3] 75)).heap.size = wr.heap.size + 1 := World.size_alloc _ _
          have P8 := qh (Blk.new wr 75 #[.int .i64 idq, .slice A3 m3 c3])
          have x0 := P8.out.cell 0
          have x1 := P8.out.cell 1
          simp only [gT, gZ, gS] at x0 x1
          have O8 := own_up' Hown.out al8
          have al9 := alloc_up (wr.alloc (.cells #[.int .i64 idq, .slice A3 m3 c3] 75)) (.cells #[.int .i64 idq, .slice A3 m3 c3, .int .i64 (i : Int)] 206)
          have O9 := qh (own_up' O8 al9)
          have al := al8.trans (al9.mono al8.size)
          have hX := lit3 (wr.alloc (.cells #[.int .i64 idq, .slice A3 m3 c3] 75)) 206 (.int .i64 idq) (.slice A3 m3 c3) (.int .i64 (i : Int))
          rw [sz] at hX
          have X9 := qh hX
          have U9 := qh (al.mono lz)
          have B9 := qh (Hbel.out.trans U9.out)
          have lz9 := B9.out.size
          clear al8 al9 al hX sz O8
          go_wp2_with (at_builtin; refine wpList_append_src _ rfl _ _ 203 rfl w.heap.size 206 i0 _ 3 40 Tryz.underlying203 hi0 hz0 hz1 hz2 rfl (by omega) (.slice A7 m7 c7) m7 vs7 rfl O9.out (some ⟨wr.heap.size + 1, 0, none⟩) 1 1 [.int .i64 idq, .slice A3 m3 c3, .int .i64 (i : Int)] rfl X9.out (by simp [Value.oneCell']) (by unfold maxLen; omega) (by omega) lz9 ?_; intro v' wn hown6 hgrow6 hat6)
          have B6 := qh (B9.out.grown hgrow6 lz9 (fun j e => (O9.out.lt j e).1))
          have U6 := qh (U9.out.grown hgrow6 lz9 (fun j e => (O9.out.lt j e).1))
          obtain ⟨A8, c8, rfl⟩ := own_shape hown6
          have O6 := qh hown6
          clear hown6 hgrow6 hat6 x0 x1 hd1 hd2
          go_wp2_with fail
          go_roundw
          case measure => simp [intOf]; omega
          case rel => exact ⟨q + 1, A8, m7 + 1, c8, _, by go_num, by omega, rfl, B6.out, O6.out, by rw [Hs.out, ← List.append_assoc]; exact (Hcs.out.below U6.out).snoc (Hr3.out.below U6.out) hm3, by have := Hm7.out; omega, Hrd.out.below U6.out⟩
        · obtain rfl : q = m' := by omega
          go_wp2_with fail
          go_roundw
          case measure => simp [intOf]
          case rel =>
            refine ⟨i, A7, m7, c7, vs7, _, by rfl, by omega, rfl, Hbel.out, Hown.out, Hcs.out, by have := Hm7.out; omega, ?_⟩
            rw [← HL.out, candsTo, List.take_of_length_le (by omega), List.append_assoc]

theorem RdB.takeB {w : World} {B n i : Nat} {A : Option Addr} {bs : List (List Tk)} (h : RdB w B A n bs) (hi : i ≤ n) : RdB w B A i (bs.take i) :=
  ⟨by rw [List.length_take, h.1]; omega, by have := h.2.1; omega, fun hp => by
    obtain ⟨b, o, e, hb, hc⟩ := h.2.2 (by omega)
    refine ⟨b, o, e, hb, fun j hj => ?_⟩
    rw [List.getElem?_take, if_pos hj]
    exact hc j (by omega)⟩
theorem cand_le {bs : List (List Tk)} : ∀ n j, j < (candsTo bs n).length → ((candsTo bs n)[j]?.getD ((0, []), 0)).2 < n ∧ ((candsTo bs n)[j]?.getD ((0, []), 0)).1 ∈ bs.flatten
  | 0, j, h => by simp [candsTo] at h
  | n + 1, j, h => by
    rw [candsTo] at h ⊢
    by_cases hj : j < ((bs[n]?.getD []).map (fun t => (t, n))).length
    · rw [List.getElem?_append_left hj]
      rw [List.length_map] at hj
      rw [List.getElem?_map, List.getElem?_eq_getElem hj]
      refine ⟨Nat.lt_succ_self n, ?_⟩
      show (bs[n]?.getD [])[j] ∈ _
      have hn : n < bs.length := by
        rcases Nat.lt_or_ge n bs.length with h1 | h1
        · exact h1
        · rw [List.getElem?_eq_none h1] at hj; simp at hj
      refine List.mem_flatten.2 ⟨bs[n]?.getD [], ?_, List.getElem_mem hj⟩
      rw [List.getElem?_eq_getElem hn]
      exact List.getElem_mem hn
    · rw [List.getElem?_append_right (by omega)]
      rw [List.length_append] at h
      have := cand_le (bs := bs) n (j - ((bs[n]?.getD []).map (fun t => (t, n))).length) (by omega)
      exact ⟨by omega, this.2⟩
theorem find_none {α β : Type} {f : α → Option β} {l : List α} {d : α} (h : ∀ j, j < l.length → f (l[j]?.getD d) = none) : l.findSome? f = none := by
  rw [List.findSome?_eq_none_iff]
  intro x hx
  obtain ⟨j, hj, rfl⟩ := List.getElem_of_mem hx
  have := h j hj
  rwa [List.getElem?_eq_getElem hj] at this
theorem find_some {α β : Type} {f : α → Option β} {l : List α} {d : α} {k : Nat} {b : β} (hk : k < l.length) (h : f (l[k]?.getD d) = some b) (hb : ∀ j, j < k → f (l[j]?.getD d) = none) : l.findSome? f = some b := by
  induction l generalizing k with
  | nil => simp at hk
  | cons x l ih =>
    rw [List.findSome?_cons]
    cases k with
    | zero =>
      have : f x = some b := h
      rw [this]
    | succ k =>
      have h0 : f x = none := hb 0 (by omega)
      rw [h0]
      exact ih (by simpa using hk) (by simpa using h) (fun j hj => by have := hb (j + 1) (by omega); simpa using this)

def NextE (o : Option (Int × Int)) (e : Ending) : Prop := match o with
  | none => e = .returned (.tuple #[.agg #[.int .i64 0, .int .i64 0], .bool false])
  | some m => e = .returned (.tuple #[.agg #[.int .i64 m.1, .int .i64 m.2], .bool true])

set_option maxRecDepth 100000 in
set_option maxHeartbeats 1600000 in
theorem nextMove_any (A1 A2 : Option Addr) (n1 c1 n2 c2 : Nat) (room : List Int) (bs : List (List Tk)) (w : World) (h1 : RdI w w.heap.size A1 n1 room) (h2 : RdB w w.heap.size A2 n2 bs) (hc2 : n2 ≤ c2) (hok : binsOk room bs = true) :
    Calls Tryz.prog 139 #[.slice A1 n1 c1, .slice A2 n2 c2] w fun e w' => NextE (nextP room bs) e ∧ Below w.heap.size w w' := by
  obtain ⟨b1, b2, b3⟩ := binsOk_iff.1 hok
  have hl := h2.len
  have hn14 : n2 ≤ 14 := by omega
  have hr3 : 3 ≤ n1 := by
    have h3 : room.length = 3 := by
      simp only [tasksOk, roomOk, Bool.and_eq_true] at b2
      exact vecOk_len b2.1.1.1.1
    have := h1.len; omega
  have hfl := tasksOk_len b2
  have Hvec := qh (fun t ht => tasksOk_vec (t := t) b2 ht)
  have Hbin := qh (fun j (hj : j < n2) => show (bs[j]?.getD []).length ≤ 14 from by have := (bin_sub (bs := bs) (i := j) (by omega)).length_le; omega)
  have Hok := qh hok
  have Hl := qh hl
  have Z1 := qh (Blk.new w 167 #[.int .i64 0, .int .i64 0])
  have B1 := qh (alloc_up w (.cells #[.int .i64 0, .int .i64 0] 167))
  have I1 := qh (h1.up B1.out)
  have N1 := qh (h2.up B1.out)
  clear h1 h2 b1 b2 b3 hok hfl hl
  go_enter Tryz.func139, Tryz.ntmps139
  go_wp2_with fail
  generalize hgz : w.heap.size = gz at Z1 ⊢
  generalize w.alloc (.cells #[.int .i64 0, .int .i64 0] 167) = w1 at Z1 B1 I1 N1 ⊢
  have lz1 := Z1.out.lt
  refine (candidates_any A2 n2 c2 bs w1 N1.out hn14 Hbin.out).mono ?_; rintro e w2 ⟨A, N, c, vs, rfl, hown, hcs, hN, hb2⟩
  have B2 := qh (below_to B1.out hb2)
  have Z2 := qh (Z1.out.below hb2 Z1.out.lt)
  have I2 := qh (I1.out.up hb2)
  have N2 := qh (N1.out.up hb2)
  have Hown := qh hown
  have Hcs := qh hcs
  have hcap := own_cap' hown
  have hNl : N = (candsTo bs n2).length := by have h1 := hown.1; have h2 := hcs.1; omega
  have HNl := qh hNl
  have lz2 : w1.heap.size ≤ w2.heap.size := hb2.size
  clear hown hcs hb2 B1 Z1 I1 N1 hNl
  go_wp2_with fail
  go_loopw [6] (fun v wr => ∃ (q : Nat) (A7 : Option Addr) (c7 : Nat), v = .slice A7 (N - q) c7 ∧ q ≤ N ∧ N - q ≤ c7 ∧ (q < N → ∃ g, A = some ⟨g, 0, none⟩ ∧ A7 = some ⟨g, q * 3, none⟩) ∧ Below w2.heap.size w2 wr ∧
    (∀ j, j < q → candM room bs ((candsTo bs n2)[j]?.getD ((0, []), 0)).2 ((candsTo bs n2)[j]?.getD ((0, []), 0)).1 = none)) (fun v _ => match v with | .slice _ k _ => k | _ => 0)
  case atStart => exact ⟨0, A, c, rfl, Nat.zero_le _, by omega, fun h => by
    obtain ⟨g, cur, e, _, _⟩ := own_row Hown.out (by omega)
    exact ⟨g, e, by rw [e, Nat.zero_mul]⟩, Below.refl _ _, by intro j hj; omega⟩
  case round =>
    obtain ⟨q, A7, c7, rfl, hq, hqc, hA, hup, hall⟩ := hrel
    have Hall := qh hall
    have HUp := qh hup
    have lzr : w2.heap.size ≤ wr.heap.size := hup.size
    clear hall hup
    by_cases hlt : q < N
    · obtain ⟨g, rfl, rfl⟩ := hA hlt
      have q1 : (0 : Int) < ((N - q : Nat) : Int) := by omega
      have q2 : (0 : Int) ≤ 1 := by omega
      have q3 : (1 : Int) ≤ ((N - q : Nat) : Int) := by omega
      have q4 : (1 : Int) ≤ (c7 : Int) := by omega
      have hql : q < (candsTo bs n2).length := by have := HNl.out; omega
      obtain ⟨A3, m3, c3, e1, e2, e3, hm3, hr3⟩ := Hcs.out.2 q hql
      obtain ⟨hfrom, hmem⟩ := cand_le n2 q hql
      have hcell : ∀ j u, vs[j]? = some u → wr.cell? ⟨g, j, none⟩ = some u := fun j u hu => by
        have h1 := Hown.out.cells (g := g) rfl j u hu
        rw [addr_add, Nat.zero_add] at h1
        obtain ⟨g', cur, e, _, hb⟩ := own_row Hown.out (by omega)
        have hlt2 : g < w2.heap.size := (Hown.out.lt g rfl).2
        exact (HUp.out.cell (p := ⟨g, j, none⟩) hlt2).trans h1
      have d1 := hcell _ _ e1
      have d2 := hcell _ _ e2
      have d3 := hcell _ _ e3
      have hR3 := hr3.more lz2
      have hv3 := Hvec.out _ hmem
      have hm : m3 = 3 := by have := hr3.len; have := vecOk_len hv3; omega
      rw [hm] at hR3 d2
      have Hm := qh hm
      have Hv3 := qh hv3
      have q5 : ((((candsTo bs n2)[q]?.getD ((0, []), 0)).2 : Nat) : Int) ≤ (n2 : Int) := by omega
      have q6 : ((((candsTo bs n2)[q]?.getD ((0, []), 0)).2 : Nat) : Int) ≤ (c2 : Int) := by omega
      have q7 : (0 : Int) ≤ ((((candsTo bs n2)[q]?.getD ((0, []), 0)).2 : Nat) : Int) := by omega
      have Hcand := qh (show ∀ o, candM room bs ((candsTo bs n2)[q]?.getD ((0, []), 0)).2 ((candsTo bs n2)[q]?.getD ((0, []), 0)).1 = o → candM room bs ((candsTo bs n2)[q]?.getD ((0, []), 0)).2 ((candsTo bs n2)[q]?.getD ((0, []), 0)).1 = o from fun o h => h)
      have HR3 := qh hR3
      clear e1 e2 e3 hr3 hcell hm hR3 hv3 hA hmem
      generalize hcc : (candsTo bs n2)[q]?.getD ((0, []), 0) = cq at *
      have Hcc := qh hcc
      clear hcc
      obtain ⟨⟨idq, xq⟩, iq⟩ := cq
      dsimp only at *
      obtain ⟨ad, had, hspec⟩ : ∃ ad : Addr, (if c7 = 1 then (some ⟨g, q * 3, none⟩ : Option Addr) else some ⟨g, q * 3 + 3, none⟩) = some ad ∧ Hid (c7 ≠ 1 → ad = ⟨g, q * 3 + 3, none⟩) := by
        by_cases h : c7 = 1
        · exact ⟨_, if_pos h, fun hne => absurd h hne⟩
        · exact ⟨_, if_neg h, fun _ => rfl⟩
      have B8 := qh (alloc_up wr (.cells #[.int .i64 idq, .slice A3 3 c3, .int .i64 (iq : Int)] 206))
      have P8 := qh (Blk.new wr 206 #[.int .i64 idq, .slice A3 3 c3, .int .i64 (iq : Int)])
      go_wp2_with fail
      clear had d1 d2 d3
      generalize hg7 : wr.heap.size = g7 at P8 ⊢
      generalize wr.alloc (.cells #[.int .i64 idq, .slice A3 3 c3, .int .i64 (iq : Int)] 206) = w3 at B8 P8 ⊢
      have lg7 := P8.out.lt
      have U8 := qh (HUp.out.trans (B8.out.mono lzr))
      refine wp_region_mixL (.take 0 (.take 1 (.take 2 (.take 3 (.take 4 (.take 5 (.take 6 (.bar 7 (.take 8 .nil))))))))) [] (fun w' => w'.cell? ⟨g7, 0, none⟩ = some (.int .i64 idq) ∧ w'.cell? ⟨g7, 1, none⟩ = some (.slice A3 3 c3) ∧ w'.cell? ⟨g7, 2, none⟩ = some (.int .i64 (iq : Int))) (by kernel_rfl) (by kernel_rfl) ⟨P8.out.cell 0, P8.out.cell 1, P8.out.cell 2⟩ (fun _ => ?_)
      have U9 := qh U8.out.drew
      have P9 := qh P8.out.drew
      have lz9 : w2.heap.size ≤ w3.drew.heap.size := U9.out.size
      generalize w3.drew = w4 at U9 P9 lz9 ⊢
      clear U8 P8 B8
      repeat ((first | refine lxS (by rfl) (by rfl) ?_ | (refine lxT (v := ?_) (by rfl) (by rfl) (fun z y => ?_) ?_; rotate_left; (focus ((try dsimp only at y); (go_simp <;> with_reducible rfl); done)))); (try simp only [Act.put,pS,pZ,pC]))
      (refine lxB (by rfl) (fun K hK => ?_); go_simp)
      refine (firstOf_any A1 A2 A3 n1 c1 iq c2 c3 room (bs.take iq) idq xq w4 (I2.out.up U9.out) ((N2.out.up U9.out).takeB (by omega)) (HR3.out.up U9.out) hr3 ?_ (fun j hj => by have := vecOk_bd Hv3.out j; omega)).mono ?_
      · intro k hk
        have hk2 : k < n2 := by omega
        rw [List.getElem?_take, if_pos hk]
        have hb14 := Hbin.out k hk2
        refine ⟨by omega, fun t ht => Hvec.out t ?_⟩
        exact (bin_sub (bs := bs) (i := k) (by have := Hl.out; omega)).mem ht
      rintro e w5 ⟨rfl, hb5⟩
      have U5 := qh (U9.out.trans (hb5.mono lz9))
      have P5 := qh (P9.out.below hb5 P9.out.lt)
      ((try dsimp only); refine nxK hK _ _ (⟨P5.out.cell 0, P5.out.cell 1, P5.out.cell 2⟩) ?_; clear hK K; (try simp only [Act.put,pS,pZ,pC]))
      repeat ((first | refine lxS (by rfl) (by rfl) ?_ | (refine lxT (v := ?_) (by rfl) (by rfl) (fun z y => ?_) ?_; rotate_left; (focus ((try dsimp only at y); (go_simp <;> with_reducible rfl); done)))); (try simp only [Act.put,pS,pZ,pC]))
      refine wpMixL_nil ?_
      have Z5 := qh (Z2.out.below U5.out Z2.out.lt)
      have BE := qh (B2.out.trans (U5.out.mono (by have := Z2.out.lt; omega)))
      have x0 := Z5.out.cell 0
      have x1 := Z5.out.cell 1
      simp only [gT, gZ, gS] at x0 x1
      have x2 := Z5.out.frozen 0
      have x3 := Z5.out.frozen 1
      have p0 := P5.out.cell 0
      have p1 := P5.out.cell 1
      have p2 := P5.out.cell 2
      simp only [gT, gZ, gS] at p0 p1 p2
      clear hb5 U9 P9
      obtain ⟨f, hf⟩ : ∃ f, f = firstP room (bs.take iq) xq := ⟨_, rfl⟩
      rw [← hf]
      by_cases hf0 : 0 ≤ f
      · have hcd : candM room bs iq (idq, xq) = some (idq, f) := by unfold candM; dsimp only; rw [if_pos (by rw [← hf]; exact hf0), ← hf]
        have Hcd := qh hcd
        have Hf := qh hf
        clear hf hcd
        go_wp2_with fail
        have EQ := qh ((Z5.out.set_ 0 (.int .i64 idq)).set_ 1 (.int .i64 f))
        have B9 := qh ((BE.out.setCell (p := ⟨gz, 0, none⟩) (by show w.heap.size ≤ gz; omega) (.int .i64 idq)).setCell (p := ⟨gz, 1, none⟩) (by show w.heap.size ≤ gz; omega) (.int .i64 f))
        generalize World.setCell (World.setCell w5 ⟨gz, 0, none⟩ (.int .i64 idq)) ⟨gz, 1, none⟩ (.int .i64 f) = w9 at EQ B9 ⊢
        have z0 : w9.cell? ⟨gz, 0, none⟩ = some (.int .i64 idq) := EQ.out.cell 0
        have z1 : w9.cell? ⟨gz, 1, none⟩ = some (.int .i64 f) := EQ.out.cell 1
        refine bodyPost_ret (v := .tuple #[.agg #[.int .i64 idq, .int .i64 f], .bool true]) (by simp [results, Tryz.results139, go_sem, z0, z1]) rfl ⟨?_, (qh hgz).out ▸ B9.out⟩
        have en : nextP room bs = some (idq, f) := by
          have hlen := Hl.out
          unfold nextP
          rw [hlen, ← next_cands]
          refine find_some (d := ((0, []), 0)) (k := q) hql ?_ Hall.out
          rw [Hcc.out]
          exact Hcd.out
        rw [en]
        rfl
      · have hcd : candM room bs iq (idq, xq) = none := by unfold candM; dsimp only; rw [if_neg (by rw [← hf]; exact hf0)]
        have Hcd := qh hcd
        have Hf := qh hf
        clear hf hcd
        go_wp2_with fail
        go_round
        case measure => show N - q - 1 < N - q; omega
        case rel =>
          refine ⟨q + 1, some ad, c7 - 1, by rw [show N - (q + 1) = N - q - 1 by omega], by omega, by omega, ?_, U5.out, ?_⟩
          · intro hq1
            refine ⟨g, rfl, ?_⟩
            rw [hspec.out (by omega), show q * 3 + 3 = (q + 1) * 3 by omega]
          · intro j hj
            by_cases hjq : j < q
            · exact Hall.out j hjq
            · obtain rfl : j = q := by omega
              rw [Hcc.out]
              exact Hcd.out
    · obtain rfl : q = N := by omega
      have Z5 := qh (Z2.out.below HUp.out Z2.out.lt)
      have qz : ¬ (0 : Int) < ((q - q : Nat) : Int) := by omega
      have BE := qh (B2.out.trans (HUp.out.mono (by have := Z2.out.lt; omega)))
      have x0 := Z5.out.cell 0
      have x1 := Z5.out.cell 1
      simp only [gT, gZ, gS] at x0 x1
      have x2 := Z5.out.frozen 0
      have x3 := Z5.out.frozen 1
      go_wp2_with fail
      have EQ := qh ((Z5.out.set_ 0 (.int .i64 0)).set_ 1 (.int .i64 0))
      have B9 := qh ((BE.out.setCell (p := ⟨gz, 0, none⟩) (by show w.heap.size ≤ gz; omega) (.int .i64 0)).setCell (p := ⟨gz, 1, none⟩) (by show w.heap.size ≤ gz; omega) (.int .i64 0))
      generalize World.setCell (World.setCell wr ⟨gz, 0, none⟩ (.int .i64 0)) ⟨gz, 1, none⟩ (.int .i64 0) = w9 at EQ B9 ⊢
      have z0 : w9.cell? ⟨gz, 0, none⟩ = some (.int .i64 0) := EQ.out.cell 0
      have z1 : w9.cell? ⟨gz, 1, none⟩ = some (.int .i64 0) := EQ.out.cell 1
      refine bodyPost_ret (v := .tuple #[.agg #[.int .i64 0, .int .i64 0], .bool false]) (by simp [results, Tryz.results139, go_sem, z0, z1]) rfl ⟨?_, (qh hgz).out ▸ B9.out⟩
      have en : nextP room bs = none := by
        have hlen := Hl.out
        unfold nextP
        rw [hlen, ← next_cands]
        exact find_none (d := ((0, []), 0)) (fun j hj => Hall.out j (by have := HNl.out; omega))
      rw [en]
      rfl
end Go.Proofs.YtdkhdfedejbicaaGreatDoor

namespace Go.Proofs.YtdkhdfedejbicaaGreatDoor
set_option linter.unusedSimpArgs false
set_option linter.unusedVariables false
open Go Go.RowKit

def NdBR (w : World) (base n : Nat) (vs : List Value) (bs : List (List Tk)) : Prop :=
  bs.length = n ∧ vs.length = n ∧ (∀ j, j < n → ∃ A m c vt, vs[j]? = some (.slice A m c) ∧ w.ownsRow base 75 2 (.slice A m c) m vt ∧ NdR w base m vt (bs[j]?.getD [])) ∧
  (∀ (i j : Nat) (u v : Value), vs[i]? = some u → vs[j]? = some v → i ≠ j → ∀ b, u.ownBlock = some b → v.ownBlock ≠ some b)
def OwnBR (w : World) (base : Nat) (v : Value) (n : Nat) (bs : List (List Tk)) : Prop := ∃ vs, w.ownsRow base 81 1 v n vs ∧ NdBR w base n vs bs

section
variable {w w' : World} {base base' n : Nat} {v : Value} {vs : List Value} {bs : List (List Tk)} {ts : List Tk}
theorem NdBR.keepTI (h : NdBR w base n vs bs) (hk : KeepTI w w') : NdBR w' base n vs bs := ⟨h.1, h.2.1, fun j hj => by
  obtain ⟨A, m, c, vt, h1, h2, h3⟩ := h.2.2.1 j hj
  exact ⟨A, m, c, vt, h1, own_keepTI h2 (.inr rfl) hk, h3.keepTI hk⟩, h.2.2.2⟩
theorem NdBR.low (h : NdBR w base n vs bs) (hb : base' ≤ base) : NdBR w base' n vs bs := ⟨h.1, h.2.1, fun j hj => by
  obtain ⟨A, m, c, vt, h1, h2, h3⟩ := h.2.2.1 j hj
  exact ⟨A, m, c, vt, h1, own_lo h2 hb, h3.low hb⟩, h.2.2.2⟩
theorem NdBR.nil : NdBR w base 0 [] [] := ⟨rfl, rfl, fun j hj => by omega, fun i j u v h => by simp at h⟩
theorem NdBR.old (h : NdBR w base n vs bs) : ∀ (j : Nat) (u : Value), vs[j]? = some u → ∀ b, u.ownBlock = some b → b < w.heap.size := fun j u hu b hb => by
  have hj : j < n := by have := (List.getElem?_eq_some_iff.1 hu).1; have := h.2.1; omega
  obtain ⟨A, m, c, vt, h1, h2, _⟩ := h.2.2.1 j hj
  rw [hu] at h1
  injection h1 with h1
  rw [h1] at hb
  exact (h2.lt b hb).2
theorem NdBR.snoc {A : Option Addr} {m c : Nat} {vt : List Value} (h : NdBR w base n vs bs) (ho : w.ownsRow base 75 2 (.slice A m c) m vt) (hn : NdR w base m vt ts) (hd : ∀ (j : Nat) (u : Value), vs[j]? = some u → ∀ b, u.ownBlock = some b → (Value.slice A m c).ownBlock ≠ some b) :
    NdBR w base (n + 1) (vs ++ [.slice A m c]) (bs ++ [ts]) := by
  have h1 := h.1
  have h2 := h.2.1
  refine ⟨by simp [h1], by simp [h2], fun j hj => ?_, fun i j u v hu hv hij b hb hb' => ?_⟩
  · by_cases e : j = n
    · subst e
      refine ⟨A, m, c, vt, ?_, ho, ?_⟩
      · rw [List.getElem?_append_right (by omega), h2, Nat.sub_self]; rfl
      · rw [List.getElem?_append_right (by omega), h1, Nat.sub_self]; exact hn
    · obtain ⟨A', m', c', vt', e1, e2, e3⟩ := h.2.2.1 j (by omega)
      exact ⟨A', m', c', vt', by rw [List.getElem?_append_left (by omega)]; exact e1, e2, by rw [List.getElem?_append_left (by omega)]; exact e3⟩
  · have key : ∀ (a : Nat) (x : Value), (vs ++ [Value.slice A m c])[a]? = some x → (a < n ∧ vs[a]? = some x) ∨ (a = n ∧ x = .slice A m c) := fun a x hx => by
      rcases Nat.lt_or_ge a n with hlt | hge
      · rw [List.getElem?_append_left (by omega)] at hx; exact .inl ⟨hlt, hx⟩
      · rw [List.getElem?_append_right (by omega)] at hx
        have : a - vs.length = 0 := by
          have := (List.getElem?_eq_some_iff.1 hx).1
          simp at this; omega
        rw [this] at hx
        exact .inr ⟨by omega, by simpa using hx.symm⟩
    rcases key i u hu with ⟨hi, hu⟩ | ⟨hi, rfl⟩
    · rcases key j v hv with ⟨hj, hv⟩ | ⟨hj, rfl⟩
      · exact h.2.2.2 i j u v hu hv hij b hb hb'
      · exact hd i u hu b hb hb'
    · rcases key j v hv with ⟨hj, hv⟩ | ⟨hj, rfl⟩
      · exact hd j v hv b hb' hb
      · omega
theorem NdBR.put {j m c : Nat} {A : Option Addr} {vt : List Value} (h : NdBR w base n vs bs) (hj : j < n) (ho : w.ownsRow base 75 2 (.slice A m c) m vt) (hn : NdR w base m vt ts) (hd : ∀ (i : Nat) (u : Value), vs[i]? = some u → i ≠ j → ∀ b, u.ownBlock = some b → (Value.slice A m c).ownBlock ≠ some b) :
    NdBR w base n (vs.set j (.slice A m c)) (bs.set j ts) := by
  have hl := h.2.1
  refine ⟨by rw [List.length_set]; exact h.1, by rw [List.length_set]; exact hl, fun i hi => ?_, fun i i' u v hu hv hii b hb hb' => ?_⟩
  · by_cases e : i = j
    · subst e
      exact ⟨A, m, c, vt, List.getElem?_set_self (by omega), ho, by rw [List.getElem?_set_self (by have := h.1; omega)]; exact hn⟩
    · obtain ⟨A', m', c', vt', e1, e2, e3⟩ := h.2.2.1 i hi
      exact ⟨A', m', c', vt', by rw [List.getElem?_set_ne (fun x => e x.symm)]; exact e1, e2, by rw [List.getElem?_set_ne (fun x => e x.symm)]; exact e3⟩
  · have key : ∀ (a : Nat) (x : Value), (vs.set j (Value.slice A m c))[a]? = some x → (a ≠ j ∧ vs[a]? = some x) ∨ (a = j ∧ x = .slice A m c) := fun a x hx => by
      by_cases e : a = j
      · subst e
        rw [List.getElem?_set_self (by omega)] at hx
        exact .inr ⟨rfl, by simpa using hx.symm⟩
      · rw [List.getElem?_set_ne (fun x => e x.symm)] at hx; exact .inl ⟨e, hx⟩
    rcases key i u hu with ⟨hi, hu⟩ | ⟨hi, rfl⟩
    · rcases key i' v hv with ⟨hi', hv⟩ | ⟨hi', rfl⟩
      · exact h.2.2.2 i i' u v hu hv hii b hb hb'
      · exact hd i u hu hi b hb hb'
    · rcases key i' v hv with ⟨hi', hv⟩ | ⟨hi', rfl⟩
      · exact hd i' v hv hi' b hb' hb
      · omega
theorem NdBR.grow {j m m' c c' : Nat} {A A' : Option Addr} {vt : List Value} (h : NdBR w base n vs bs) (hj : j < n) (hold : vs[j]? = some (.slice A' m' c')) {vo : List Value} (hoo : w.ownsRow base' 75 2 (.slice A' m' c') m' vo) (hg : w.grownBy w' (Value.slice A' m' c').ownBlock)
    (ho : w'.ownsRow base 75 2 (.slice A m c) m vt) (hn : NdR w' base m vt ts) (hd : (Value.slice A m c).ownBlock = (Value.slice A' m' c').ownBlock ∨ (Value.slice A m c).ownBlock = some w.heap.size) :
    NdBR w' base n (vs.set j (.slice A m c)) (bs.set j ts) := by
  have hl := h.2.1
  refine ⟨by rw [List.length_set]; exact h.1, by rw [List.length_set]; exact hl, fun i hi => ?_, fun i i' u v hu hv hii b hb hb' => ?_⟩
  · by_cases e : i = j
    · subst e
      exact ⟨A, m, c, vt, List.getElem?_set_self (by omega), ho, by rw [List.getElem?_set_self (by have := h.1; omega)]; exact hn⟩
    · obtain ⟨A1, m1, c1, vt1, e1, e2, e3⟩ := h.2.2.1 i hi
      exact ⟨A1, m1, c1, vt1, by rw [List.getElem?_set_ne (fun x => e x.symm)]; exact e1, own_keep e2 (fun b hb => hg.block b (e2.lt b hb).2 (fun e' => h.2.2.2 i j _ _ e1 hold e b hb e'.symm)), by rw [List.getElem?_set_ne (fun x => e x.symm)]; exact e3.grown hoo (by decide) hg⟩
  · have key : ∀ (a : Nat) (x : Value), (vs.set j (Value.slice A m c))[a]? = some x → (a ≠ j ∧ vs[a]? = some x) ∨ (a = j ∧ x = .slice A m c) := fun a x hx => by
      by_cases e : a = j
      · subst e
        rw [List.getElem?_set_self (by omega)] at hx
        exact .inr ⟨rfl, by simpa using hx.symm⟩
      · rw [List.getElem?_set_ne (fun x => e x.symm)] at hx; exact .inl ⟨e, hx⟩
    have far : ∀ (a : Nat) (x : Value), a ≠ j → vs[a]? = some x → ∀ b, x.ownBlock = some b → (Value.slice A m c).ownBlock ≠ some b := fun a x ha hx b hb hb2 => by
      rcases hd with hd | hd
      · rw [hd] at hb2
        exact h.2.2.2 a j _ _ hx hold ha b hb hb2
      · rw [hd] at hb2
        injection hb2 with hb2
        have := h.old a x hx b hb
        omega
    rcases key i u hu with ⟨hi, hu⟩ | ⟨hi, rfl⟩
    · rcases key i' v hv with ⟨hi', hv⟩ | ⟨hi', rfl⟩
      · exact h.2.2.2 i i' u v hu hv hii b hb hb'
      · exact far i u hi hu b hb hb'
    · rcases key i' v hv with ⟨hi', hv⟩ | ⟨hi', rfl⟩
      · exact far i' v hi' hv b hb' hb
      · omega
theorem NdBR.cells (h : NdBR w base n vs bs) : BnCells w w.heap.size vs bs := ⟨by rw [h.2.1, h.1], fun j hj => by
  obtain ⟨A, m, c, vt, e1, e2, e3⟩ := h.2.2.1 j (by rw [← h.1]; exact hj)
  exact ⟨A, m, c, e1, own_cap' e2, e3.rd e2⟩⟩
theorem OwnBR.rd {A : Option Addr} {c : Nat} (h : OwnBR w base (.slice A n c) n bs) : RdB w w.heap.size A n bs := by
  obtain ⟨vs, h1, h2⟩ := h
  exact RdB.of_own h1 h2.cells (Nat.le_refl _) (own_le h1)
theorem NdBR.one (h : NdBR w base n vs bs) : ∀ u ∈ vs, u.oneCell' = true := by
  intro u hu
  obtain ⟨i, hi, rfl⟩ := List.getElem_of_mem hu
  obtain ⟨A, m, c, vt, e1, _⟩ := h.2.2.1 i (by rw [← h.2.1]; exact hi)
  rw [List.getElem?_eq_getElem hi] at e1
  injection e1 with e1
  rw [e1]; rfl

def KeepX (w w' : World) : Prop := ∀ b t cs, t ≠ 75 → t ≠ 81 → Blk w b t cs → w'.heap[b]? = w.heap[b]?
theorem KeepX.refl (w : World) : KeepX w w := fun _ _ _ _ _ _ => rfl
theorem KeepX.trans {a b c : World} (h : KeepX a b) (k : KeepX b c) : KeepX a c := fun g t cs h1 h2 hb => (k g t cs h1 h2 ((h g t cs h1 h2 hb).trans hb)).trans (h g t cs h1 h2 hb)
theorem KeepX.up {a b : World} (h : Below a.heap.size a b) : KeepX a b := fun g t cs _ _ hb => h.block g hb.lt
theorem KeepX.step {a b c : World} (h : KeepX a b) (k : Below b.heap.size b c) : KeepX a c := h.trans (KeepX.up k)
theorem KeepX.drew {a b : World} (h : KeepX a b) : KeepX a b.drew := h
theorem KeepX.drewN {a b : World} (h : KeepX a b) (m : Nat) : KeepX a (b.drewN m) := h
theorem KeepX.set_ {a b : World} {g : Nat} {t : TypeId} {cs : Array Value} (h : KeepX a b) (hb : Blk b g t cs) (ht : t = 75 ∨ t = 81) (i : Nat) (u : Value) : KeepX a (b.setCell ⟨g, i, none⟩ u) := h.trans (fun b' t' cs' h1 h2 hb' => Below.heap_setCell _ _ _ _ (by
  show b' ≠ g
  rintro rfl
  unfold Blk at hb hb'
  rw [hb] at hb'
  injection hb' with e
  injection e with _ e
  subst e
  rcases ht with rfl | rfl
  · exact h1 rfl
  · exact h2 rfl))
theorem KeepX.grown {a b c : World} {base s m : Nat} {t : TypeId} {r : Value} {xs : List Value} (h : KeepX a b) (ho : b.ownsRow base t s r m xs) (hg : b.grownBy c r.ownBlock) (ht : t = 75 ∨ t = 81) : KeepX a c :=
  h.trans (fun b' t' cs' h1 h2 hb' => hg.block b' hb'.lt (fun e => own_blk_ne ho hb' (by rintro rfl; rcases ht with e | e <;> contradiction) e.symm))
theorem KeepX.blk {a b : World} {g : Nat} {t : TypeId} {cs : Array Value} (h : KeepX a b) (hb : Blk a g t cs) (h1 : t ≠ 75) (h2 : t ≠ 81) : Blk b g t cs := (h g t cs h1 h2 hb).trans hb
theorem KeepX.own {a b : World} {base s m : Nat} {t : TypeId} {r : Value} {xs : List Value} (h : KeepX a b) (ho : a.ownsRow base t s r m xs) (h1 : t ≠ 75) (h2 : t ≠ 81) : b.ownsRow base t s r m xs := own_keepB ho (fun g cs _ hc => h g t cs h1 h2 hc)
theorem NdR.keepX (h : NdR w base n vs ts) (hk : KeepX w w') : NdR w' base n vs ts := ⟨h.1, h.2.1, fun j hj => by
  obtain ⟨A, m, c, h1, h2, h3⟩ := h.2.2 j hj
  exact ⟨A, m, c, h1, h2, hk.own h3 (by decide) (by decide)⟩⟩
end
end Go.Proofs.YtdkhdfedejbicaaGreatDoor

namespace Go.Proofs.YtdkhdfedejbicaaGreatDoor
set_option linter.unusedSimpArgs false
set_option linter.unusedVariables false
open Go Go.RowKit
attribute [local go_sem ↓] Go.wp_at_zero Go.wp_at_succ

def cutTwo (vt : List Value) (k : Nat) : List Value := vt.take (k * 2) ++ vt.drop (k * 2 + 2)
theorem NdR.cut {w : World} {base n k : Nat} {vt : List Value} {ts : List Tk} (h : NdR w base n vt ts) (hk : k < n) : NdR w base (n - 1) (cutTwo vt k) (ts.eraseIdx k) := by
  have h1 := h.1
  have h2 := h.2.1
  have hc : ∀ i, (cutTwo vt k)[i]? = if i < k * 2 then vt[i]? else vt[i + 2]? := fun i => by
    unfold cutTwo
    split
    · rename_i hi
      rw [List.getElem?_append_left (by rw [List.length_take]; omega), List.getElem?_take, if_pos hi]
    · rename_i hi
      rw [List.getElem?_append_right (by rw [List.length_take]; omega), List.length_take, List.getElem?_drop]
      congr 1
      omega
  refine ⟨by rw [List.length_eraseIdx, if_pos (by omega)]; omega, by unfold cutTwo; rw [List.length_append, List.length_take, List.length_drop]; omega, fun j hj => ?_⟩
  rw [hc, hc, List.getElem?_eraseIdx]
  by_cases hjk : j < k
  · obtain ⟨A, m, c, e1, e2, e3⟩ := h.2.2 j (by omega)
    rw [if_pos (show j * 2 < k * 2 by omega), if_pos hjk, if_pos (show j * 2 + 1 < k * 2 by omega)]
    exact ⟨A, m, c, e1, e2, e3⟩
  · obtain ⟨A, m, c, e1, e2, e3⟩ := h.2.2 (j + 1) (by omega)
    rw [if_neg (show ¬ j * 2 < k * 2 by omega), if_neg hjk, if_neg (show ¬ j * 2 + 1 < k * 2 by omega)]
    exact ⟨A, m, c, by rw [show j * 2 + 2 = (j + 1) * 2 by omega]; exact e1, by rw [show j * 2 + 1 + 2 = (j + 1) * 2 + 1 by omega]; exact e2, e3⟩

theorem NdR.ones {w : World} {base n : Nat} {vs : List Value} {ts : List Tk} (h : NdR w base n vs ts) : ∀ u ∈ vs, u.oneCell' = true := by
  intro u hu
  obtain ⟨i, hi, rfl⟩ := List.getElem_of_mem hu
  have hl := h.2.1
  obtain ⟨A, m, c, h1, h2, _⟩ := h.2.2 (i / 2) (by omega)
  rcases Nat.mod_two_eq_zero_or_one i with e | e
  · rw [show i / 2 * 2 = i from by omega, List.getElem?_eq_getElem hi] at h1
    injection h1 with h1; rw [h1]; rfl
  · rw [show i / 2 * 2 + 1 = i from by omega, List.getElem?_eq_getElem hi] at h2
    injection h2 with h2; rw [h2]; rfl

set_option maxRecDepth 100000 in
set_option maxHeartbeats 3200000 in
theorem delete_any (base g m c k : Nat) (vt : List Value) (ts : List Tk) (w : World) (ho : w.ownsRow base 75 2 (.slice (some ⟨g, 0, none⟩) m c) m vt) (hn : NdR w base m vt ts) (hk : k < m) (hm : m ≤ 1000) :
    Calls Tryz.prog 136 #[.slice (some ⟨g, 0, none⟩) m c, .int .i64 (k : Int), .int .i64 ((k : Int) + 1)] w fun e w' => e = .returned (.slice (some ⟨g, 0, none⟩) (m - 1) c) ∧
      w'.ownsRow base 75 2 (.slice (some ⟨g, 0, none⟩) (m - 1) c) (m - 1) (cutTwo vt k) ∧ NdR w' base (m - 1) (cutTwo vt k) (ts.eraseIdx k) ∧ (∀ b, b ≠ g → w'.heap[b]? = w.heap[b]?) ∧ Below base w w' ∧ w.grownBy w' (some g) := by
  obtain ⟨i0, hi0, hz0, hz1, hz2⟩ := info_parts task_info
  have hvl : vt.length = m * 2 := hn.2.1
  have hcap := own_cap' ho
  obtain ⟨cur, hbg, hblk, hcs, hmax, htk⟩ : ∃ cur : Array Value, base ≤ g ∧ Blk w g 75 cur ∧ cur.size = c * 2 ∧ c ≤ maxLen ∧ cur.toList.take (m * 2) = vt := by
    rcases ho.2 with ⟨e, _⟩ | ⟨g', cap, cur, e, h1, h2, h3, h4, h5, h6⟩
    · cases e
    · injection e with e1 e2 e3
      injection e1 with e1
      injection e1 with e1
      subst e1 e3
      exact ⟨cur, h1, h2, h5, h4, h6⟩
  have Hblk := qh hblk
  have Htk := qh htk
  have Hn := qh hn
  have Ho := qh ho
  have hmx : c ≤ 9223372036854775807 := by unfold maxLen at hmax; omega
  have hcl : cur.toList.length = c * 2 := by simpa using hcs
  have k0 : (0 : Int) ≤ (k : Int) := by omega
  have k1 : (k : Int) ≤ (m : Int) := by omega
  have k2 : (0 : Int) ≤ (k : Int) + 1 := by omega
  have k3 : (k : Int) + 1 ≤ (m : Int) := by omega
  have k4 : (k : Int) ≤ (k : Int) + 1 := by omega
  have k5 : (m : Int) ≤ (c : Int) := by omega
  have k6 : ((k : Int) == (k : Int) + 1) = false := by simp; omega
  have k7 : (k : Int) ≤ (c : Int) := by omega
  have k8 : (k : Int) + 1 ≤ (c : Int) := by omega
  obtain ⟨ad, hA, hsrc⟩ : ∃ ad : Addr, (if c = k + 1 then (some ⟨g, 0, none⟩ : Option Addr) else some ⟨g, (k + 1) * 2, none⟩) = some ad ∧ Hid (∀ t u, (vt.drop ((k + 1) * 2))[t]? = some u → w.drew.cell? (ad.add t) = some u) := by
    by_cases h : c = k + 1
    · refine ⟨⟨g, 0, none⟩, by rw [if_pos h], fun t u hu => ?_⟩
      rw [List.getElem?_drop, List.getElem?_eq_none (by omega)] at hu
      cases hu
    · refine ⟨⟨g, (k + 1) * 2, none⟩, by rw [if_neg h], fun t u hu => ?_⟩
      rw [List.getElem?_drop] at hu
      have hlt := (List.getElem?_eq_some_iff.1 hu).1
      rw [addr_add]
      show w.cell? _ = _
      rw [hblk.cell, ← Array.getElem?_toList]
      rw [← htk, List.getElem?_take, if_pos (by omega)] at hu
      exact hu
  have s1 : Hid ((vt.drop ((k + 1) * 2)).length = (m - (k + 1)) * 2) := by show _ = _; rw [List.length_drop]; omega
  have s2 : Hid (∀ u ∈ vt.drop ((k + 1) * 2), u.oneCell' = true) := fun u hu => NdR.ones hn u (List.mem_of_mem_drop hu)
  have s3 : Hid (∀ t, t < (vt.drop ((k + 1) * 2)).length → (w.drew.cell? ⟨g, 0 + k * 2 + t, none⟩).isSome = true ∧ w.drew.frozen? ⟨g, 0 + k * 2 + t, none⟩ = false) := fun t ht => by
    rw [List.length_drop] at ht
    refine ⟨?_, hblk.frozen _⟩
    show (w.cell? _).isSome = true
    rw [hblk.cell, Array.getElem?_eq_getElem (by omega)]; rfl
  clear hblk htk hn ho
  go_enter Tryz.func136, Tryz.ntmps136
  go_wp2_with fail
  refine wp_region_mixL (.take 0 (.take 1 (.take 2 (.take 3 (.take 4 (.take 5 (.bar 6 (.take 7 .nil)))))))) [] (fun w' => True) (by kernel_rfl) (by kernel_rfl) trivial (fun _ => ?_)
  repeat ((first | refine lxS (by rfl) (by rfl) ?_ | (refine lxT (v := ?_) (by rfl) (by rfl) (fun z y => ?_) ?_; rotate_left; (focus ((try dsimp only at y); (go_simp <;> with_reducible rfl); done)))); (try simp only [Act.put,pS,pZ,pC]))
  obtain ⟨W1, hW1⟩ : ∃ W1, W1 = w.drew.setCells g (0 + k * 2) (vt.drop ((k + 1) * 2)) := ⟨_, rfl⟩
  have HW := qh hW1
  clear hW1
  refine lxB (by rfl) (fun K hK => ?_)
  refine step_append_room (by rfl) (.tmp 22) (.tmp 25) 81 (by rfl) 75 i0 2 Tryz.underlying81 hi0 hz1 g 0 k c (by rfl) ad (m - (k + 1)) (c - (k + 1)) (vt.drop ((k + 1) * 2)) (by rfl) s1.out hsrc.out s2.out (by omega) s3.out ?_
  rw [← HW.out]
  ((try dsimp only); refine nxK hK _ _ (trivial) ?_; clear hK K; (try simp only [Act.put,pS,pZ,pC]))
  repeat ((first | refine lxS (by rfl) (by rfl) ?_ | (refine lxT (v := ?_) (by rfl) (by rfl) (fun z y => ?_) ?_; rotate_left; (focus ((try dsimp only at y); (go_simp <;> with_reducible rfl); done)))); (try simp only [Act.put,pS,pZ,pC]))
  refine wpMixL_nil ?_
  have hlen1 : k + (m - (k + 1)) = m - 1 := by omega
  rw [hlen1]
  have C1 := qh (show Blk W1 g 75 (splice cur.toList (k * 2) (vt.drop ((k + 1) * 2))).toArray from by
    rw [HW.out, Nat.zero_add]
    exact Blk.setMany _ _ _ _ (by rw [Array.toArray_toList]; exact Hblk.out) (by rw [List.length_drop]; omega))
  have q1 : ((m - 1 : Nat) : Int) ≤ (m : Int) := by omega
  have q2 : (0 : Int) ≤ ((m - 1 : Nat) : Int) := by omega
  have q3 : ((m - 1 : Nat) : Int) ≤ (c : Int) := by omega
  have hone : m - (m - 1) = 1 := by omega
  have hz0 : ∀ w, (zeroValue 75).run Tryz.prog w = .ok (.agg #[.int .i64 0, .slice none 0 0]) w := Tryz.zeroValue75
  have hcl1 : ∀ (ty : TypeId) (cc : Nat), (Builtin.clear_ #[81] ty #[.slice (some ⟨g, (m - 1) * 2, none⟩) 1 cc]).run Tryz.prog W1 = .ok (.tuple #[]) (W1.setCells g ((m - 1) * 2) [.int .i64 0, .slice none 0 0]) := fun ty cc =>
    run_clear_two W1 81 75 ty _ _ Tryz.underlying81 hz0 rfl rfl g _ cc (fun j hj => by
      rw [C1.out.cell, gT, List.getElem?_eq_getElem (by rw [length_splice _ _ _ (by rw [List.length_drop]; omega)]; omega)]; rfl) (fun j hj => C1.out.frozen _)
  have hpre : (if c = m - 1 then (some ⟨g, 0, none⟩ : Option Addr) else some ⟨g, (m - 1) * 2, none⟩) = some ⟨g, (m - 1) * 2, none⟩ := if_neg (by omega)
  go_wp2_with fail
  go_ret
  have hcurl : (splice cur.toList (k * 2) (vt.drop ((k + 1) * 2))).length = c * 2 := by rw [length_splice _ _ _ (by rw [List.length_drop]; omega)]; exact hcl
  have C2 := Blk.setMany [.int .i64 0, .slice none 0 0] W1 ((m - 1) * 2) _ C1.out (by rw [hcurl]; show (m - 1) * 2 + 2 ≤ _; omega)
  have hh : ∀ b, b ≠ g → (W1.setCells g ((m - 1) * 2) [.int .i64 0, .slice none 0 0]).heap[b]? = w.heap[b]? := fun b hb => by
    rw [heap_setMany _ _ _ _ hb, HW.out, heap_setMany _ _ _ _ hb]; rfl
  have hB : Below base w (W1.setCells g ((m - 1) * 2) [.int .i64 0, .slice none 0 0]) := by
    refine below_setMany ?_ hbg _ _
    rw [HW.out]
    exact below_setMany (Below.refl _ _).drew hbg _ _
  have hlen2 : (splice (splice cur.toList (k * 2) (vt.drop ((k + 1) * 2))) ((m - 1) * 2) [.int .i64 0, .slice none 0 0]).length = c * 2 := by rw [length_splice _ _ _ (by rw [hcurl]; show (m - 1) * 2 + 2 ≤ _; omega)]; exact hcurl
  have htake : (splice (splice cur.toList (k * 2) (vt.drop ((k + 1) * 2))) ((m - 1) * 2) [.int .i64 0, .slice none 0 0]).take ((m - 1) * 2) = cutTwo vt k := by
    have e1 : ∀ (L : List Value) (o : Nat) (cs : List Value), o ≤ L.length → (splice L o cs).take o = L.take o := fun L o cs ho => by
      unfold splice
      rw [List.take_append_of_le_length (by rw [List.length_take]; omega), List.take_take, Nat.min_self]
    rw [e1 _ _ _ (by rw [hcurl]; omega)]
    unfold splice cutTwo
    have e2 : cur.toList.take (k * 2) = vt.take (k * 2) := by rw [← Htk.out, List.take_take, Nat.min_eq_left (by omega)]
    rw [e2, ← List.append_assoc, List.take_append_of_le_length (by rw [List.length_append, List.length_take, List.length_drop]; omega), List.take_of_length_le (by rw [List.length_append, List.length_take, List.length_drop]; omega)]
    rw [show (k + 1) * 2 = k * 2 + 2 by omega]
  have hown : (W1.setCells g ((m - 1) * 2) [.int .i64 0, .slice none 0 0]).ownsRow base 75 2 (.slice (some ⟨g, 0, none⟩) (m - 1) c) (m - 1) (cutTwo vt k) :=
    ⟨(Hn.out.cut hk).2.1, .inr ⟨g, c, _, rfl, hbg, C2, by omega, hmax, by simpa using hlen2, by simpa using htake⟩⟩
  refine ⟨rfl, hown, ?_, hh, hB, hB.os, hB.tape, hB.output, hB.size, fun b _ hb => hh b (fun e => hb (by rw [e]))⟩
  obtain ⟨n1, n2, n3⟩ := Hn.out.cut hk
  refine ⟨n1, n2, fun j hj => ?_⟩
  obtain ⟨A, mm, cc, e1, e2, e3⟩ := n3 j hj
  exact ⟨A, mm, cc, e1, e2, own_keepB e3 (fun b cs hb hc => hh b (fun e => by
    subst e
    have h1 : Blk w b 75 cur := Hblk.out
    unfold Blk at h1 hc
    rw [h1] at hc
    injection hc with e
    injection e with _ e
    exact absurd e (by decide)))⟩
end Go.Proofs.YtdkhdfedejbicaaGreatDoor
