/- The plain functions of chapters 21 and 31 (a cluster, its bytes), on lists. No program in sight. -/
import Derived.Test.YtfkobleefhpggaaDoorPure
namespace Go.Proofs.YtfkobleefhpggaaDoor

/-- A node as plain data: whether it is open, and its tasks. -/
abbrev Un := Bool × List Tk
/-- One step of the sum. -/
def sumS (n b : Int) : Int := (31 * n + b) % 251
def sumF (xs : List Int) : Int := xs.foldl sumS 1
/-- ClusterSum. -/
def sumP (xs : List Int) : Int := if xs.all (inR 0 255) = true ∧ xs.length ≤ 200 then sumF xs else -1

theorem sumF_bd (xs : List Int) : ∀ n : Int, 0 ≤ n → n < 251 → 0 ≤ xs.foldl sumS n ∧ xs.foldl sumS n < 251 := by
  induction xs with
  | nil => intro n h0 h1; exact ⟨h0, h1⟩
  | cons b xs ih =>
    intro n h0 h1
    rw [List.foldl_cons]
    have g0 : 0 ≤ sumS n b := Int.emod_nonneg _ (by omega)
    have g1 : sumS n b < 251 := Int.emod_lt_of_pos _ (by omega)
    exact ih _ g0 g1
theorem sumF_range (xs : List Int) : 0 ≤ sumF xs ∧ sumF xs < 251 := sumF_bd xs 1 (by omega) (by omega)
theorem sumF_succ {xs : List Int} {k : Nat} (h : k < xs.length) : sumF (xs.take (k + 1)) = sumS (sumF (xs.take k)) (xs[k]?.getD 0) := by
  unfold sumF
  rw [List.take_succ_eq_append_getElem h, List.foldl_append, List.getElem?_eq_getElem h]
  rfl
theorem sumP_neg {xs : List Int} : sumP xs < 0 ↔ ¬ (xs.all (inR 0 255) = true ∧ xs.length ≤ 200) := by
  unfold sumP
  have := sumF_range xs
  split
  · rename_i h; exact ⟨fun hn => by omega, fun hn => absurd h hn⟩
  · rename_i h; exact ⟨fun _ => h, fun _ => by omega⟩
theorem sumP_ok {xs : List Int} (h : xs.all (inR 0 255) = true) (hl : xs.length ≤ 200) : sumP xs = sumF xs := by unfold sumP; rw [if_pos ⟨h, hl⟩]

/-- ClusterValid. -/
def clOk (room : List Int) (us : List Un) : Bool := decide (1 ≤ us.length ∧ us.length ≤ 10) && binsOk room (us.map (·.2)) && us.all (fun u => u.1 || u.2.isEmpty)

/-- The bytes of a task, of a node, of a cluster without the sum, of a cluster. -/
def encT (t : Tk) : List Int := t.1 :: t.2
def encU (u : Un) : List Int := (if u.1 then 1 else 0) :: (u.2.length : Int) :: u.2.flatMap encT
def encC (room : List Int) (us : List Un) : List Int := room ++ us.flatMap encU
def bytesP (room : List Int) (us : List Un) : List Int := encC room us ++ [sumP (encC room us)]

/-- c tasks, read from the place a on. -/
def tkAt (zs : List Int) : Nat → Nat → List Tk
  | _, 0 => []
  | a, c + 1 => (zs[a]?.getD 0, (zs.drop (a + 1)).take 3) :: tkAt zs (a + 4) c
theorem tkAt_len (zs : List Int) : ∀ c a, (tkAt zs a c).length = c
  | 0, _ => rfl
  | c + 1, a => by rw [tkAt, List.length_cons, tkAt_len zs c]
theorem tkAt_snoc (zs : List Int) : ∀ c a, tkAt zs a (c + 1) = tkAt zs a c ++ [(zs[a + 4 * c]?.getD 0, (zs.drop (a + 4 * c + 1)).take 3)]
  | 0, a => by simp [tkAt]
  | c + 1, a => by
    rw [tkAt, tkAt_snoc zs c (a + 4), tkAt, List.cons_append]
    have : a + 4 + 4 * c = a + 4 * (c + 1) := by omega
    rw [this]
theorem tkAt_enc : ∀ (ts : List Tk) (pre post : List Int), (∀ t ∈ ts, t.2.length = 3) → tkAt (pre ++ (ts.flatMap encT ++ post)) pre.length ts.length = ts
  | [], _, _, _ => rfl
  | t :: ts, pre, post, h => by
    have h3 := h t (by simp)
    rw [List.length_cons, tkAt]
    have e1 : pre ++ ((t :: ts).flatMap encT ++ post) = (pre ++ encT t) ++ (ts.flatMap encT ++ post) := by simp
    have e2 : pre.length + 4 = (pre ++ encT t).length := by simp [encT, h3]
    have e3 : (pre ++ ((t :: ts).flatMap encT ++ post))[pre.length]?.getD 0 = t.1 := by
      rw [List.getElem?_append_right (Nat.le_refl _)]; simp [encT]
    have e4 : ((pre ++ ((t :: ts).flatMap encT ++ post)).drop (pre.length + 1)).take 3 = t.2 := by
      have : pre ++ ((t :: ts).flatMap encT ++ post) = (pre ++ [t.1]) ++ (t.2 ++ (ts.flatMap encT ++ post)) := by simp [encT]
      rw [this, List.drop_left' (by simp), List.take_left' h3]
    rw [e3, e4, e1, e2, tkAt_enc ts _ _ (fun t ht => h t (by simp [ht]))]

/-! ### The program's reading -/
def ibyte (zs : List Int) (i : Nat) : Nat := (zs[i]?.getD 0).toNat
/-- A whole node stands at a place. -/
def unitB (ys : List Int) (a : Nat) : Bool := decide (a + 2 ≤ ys.length) && decide (ys[a]?.getD 0 ≤ 1) && decide (a + 2 + 4 * ibyte ys (a + 1) ≤ ys.length)
def unitV (ys : List Int) (a : Nat) : Un := (ys[a]?.getD 0 == 1, tkAt ys (a + 2) (ibyte ys (a + 1)))
def unitN (ys : List Int) (a : Nat) : Nat := a + 2 + 4 * ibyte ys (a + 1)
def unitsI (ys : List Int) : Nat → Nat → Option (List Un)
  | 0, _ => some []
  | f + 1, a => if a < ys.length then (if unitB ys a = true then (unitsI ys f (unitN ys a)).map (unitV ys a :: ·) else none) else some []
/-- ClusterFrom, as the program does it. -/
def fromI (zs : List Int) : Option (List Int × List Un) :=
  if sumP zs < 0 ∨ zs.length = 0 then none
  else if zs.dropLast.length < 3 then none
  else match unitsI zs.dropLast (zs.dropLast.length) 3 with
    | none => none
    | some us => if clOk (zs.dropLast.take 3) us = true ∧ bytesP (zs.dropLast.take 3) us = zs then some (zs.dropLast.take 3, us) else none

/-! ### The reference's reading -/
def goB (zs : List Int) (a k : Nat) : Bool := decide (a + 2 < zs.length) && decide (ibyte zs (a + 1) ≤ 14) && decide (a + 2 + 4 * ibyte zs (a + 1) < zs.length) && decide (k < 10)
def unitsS (zs : List Int) : Nat → Nat → Nat → List Un
  | 0, _, _ => []
  | f + 1, a, k => if goB zs a k = true then unitV zs a :: unitsS zs f (unitN zs a) (k + 1) else []
/-- ClusterFrom, as the reference does it. -/
def fromS (zs : List Int) : Option (List Int × List Un) :=
  if sumP zs < 0 ∨ zs.length < 4 then none
  else if clOk (zs.take 3) (unitsS zs zs.length 3 0) = true ∧ bytesP (zs.take 3) (unitsS zs zs.length 3 0) = zs then some (zs.take 3, unitsS zs zs.length 3 0) else none

/-! ### Both read what was written -/
theorem encU_at (u : Un) (pre post : List Int) : (pre ++ (encU u ++ post))[pre.length]?.getD 0 = (if u.1 then 1 else 0) := by
  rw [List.getElem?_append_right (Nat.le_refl _)]; simp [encU]
theorem encU_num (u : Un) (pre post : List Int) : ibyte (pre ++ (encU u ++ post)) (pre.length + 1) = u.2.length := by
  unfold ibyte
  rw [List.getElem?_append_right (by omega)]; simp [encU]
theorem encT_len {ts : List Tk} (h : ∀ t ∈ ts, t.2.length = 3) : (ts.flatMap encT).length = 4 * ts.length := by
  induction ts with
  | nil => rfl
  | cons t ts ih =>
    rw [List.flatMap_cons, List.length_append, ih (fun t ht => h t (by simp [ht])), List.length_cons, encT, List.length_cons, h t (by simp)]; omega
theorem encU_len {u : Un} (h : ∀ t ∈ u.2, t.2.length = 3) : (encU u).length = 2 + 4 * u.2.length := by
  rw [encU, List.length_cons, List.length_cons, encT_len h]; omega
theorem unitV_enc {u : Un} (h : ∀ t ∈ u.2, t.2.length = 3) (pre post : List Int) : unitV (pre ++ (encU u ++ post)) pre.length = u := by
  have e1 : pre ++ (encU u ++ post) = (pre ++ [if u.1 then 1 else 0, (u.2.length : Int)]) ++ (u.2.flatMap encT ++ post) := by simp [encU]
  unfold unitV
  rw [encU_at, encU_num]
  have e2 : pre.length + 2 = (pre ++ [if u.1 then 1 else 0, (u.2.length : Int)]).length := by simp
  rw [e1, e2, tkAt_enc _ _ _ h]
  obtain ⟨b, ts⟩ := u
  cases b <;> rfl
theorem unitN_enc {u : Un} (h : ∀ t ∈ u.2, t.2.length = 3) (pre post : List Int) : unitN (pre ++ (encU u ++ post)) pre.length = (pre ++ encU u).length := by
  unfold unitN
  rw [encU_num, List.length_append, encU_len h]; omega

theorem unitsI_enc : ∀ (us : List Un) (pre : List Int) (f : Nat), us.length ≤ f → (∀ u ∈ us, ∀ t ∈ u.2, t.2.length = 3) → unitsI (pre ++ us.flatMap encU) f pre.length = some us
  | [], pre, f, _, _ => by
    cases f with
    | zero => rfl
    | succ f => rw [unitsI, if_neg (by simp)]
  | u :: us, pre, 0, hf, _ => by simp at hf
  | u :: us, pre, f + 1, hf, h => by
    have hu := h u (by simp)
    have hl := encU_len hu
    rw [unitsI, List.flatMap_cons, if_pos (by simp; omega)]
    have hB : unitB (pre ++ (encU u ++ us.flatMap encU)) pre.length = true := by
      unfold unitB
      rw [encU_at, encU_num]
      simp only [List.length_append, hl, Bool.and_eq_true, decide_eq_true_eq]
      refine ⟨⟨by omega, by split <;> omega⟩, by omega⟩
    rw [if_pos hB, unitV_enc hu, unitN_enc hu, ← List.append_assoc, unitsI_enc us (pre ++ encU u) f (by simp at hf; omega) (fun u hu => h u (by simp [hu]))]
    rfl
theorem unitsS_enc : ∀ (us : List Un) (pre : List Int) (s : Int) (f k : Nat), us.length ≤ f → us.length + k ≤ 10 → (∀ u ∈ us, u.2.length ≤ 14 ∧ ∀ t ∈ u.2, t.2.length = 3) → unitsS (pre ++ (us.flatMap encU ++ [s])) f pre.length k = us
  | [], pre, s, f, k, _, _, _ => by
    cases f with
    | zero => rfl
    | succ f =>
      rw [unitsS, if_neg]
      simp [goB]
  | u :: us, pre, s, 0, k, hf, _, _ => by simp at hf
  | u :: us, pre, s, f + 1, k, hf, hk, h => by
    obtain ⟨h14, hu⟩ := h u (by simp)
    have hl := encU_len hu
    have e : pre ++ ((u :: us).flatMap encU ++ [s]) = pre ++ (encU u ++ (us.flatMap encU ++ [s])) := by simp
    rw [unitsS, e]
    have hB : goB (pre ++ (encU u ++ (us.flatMap encU ++ [s]))) pre.length k = true := by
      unfold goB
      rw [encU_num]
      simp only [List.length_append, hl, Bool.and_eq_true, decide_eq_true_eq, List.length_singleton]
      simp only [List.length_cons] at hk
      refine ⟨⟨⟨by omega, h14⟩, by omega⟩, by omega⟩
    rw [if_pos hB, unitV_enc hu, unitN_enc hu, ← List.append_assoc, unitsS_enc us (pre ++ encU u) s f (k + 1) (by simp at hf; omega) (by simp at hk; omega) (fun u hu => h u (by simp [hu]))]

theorem clOk_facts {room : List Int} {us : List Un} (h : clOk room us = true) : room.length = 3 ∧ 1 ≤ us.length ∧ us.length ≤ 10 ∧ (∀ u ∈ us, u.2.length ≤ 14 ∧ ∀ t ∈ u.2, t.2.length = 3) := by
  simp only [clOk, binsOk, tasksOk, Bool.and_eq_true, decide_eq_true_eq, List.all_eq_true] at h
  obtain ⟨⟨⟨h1, h2⟩, ⟨_, ⟨⟨⟨h3, h4⟩, h5⟩, h6⟩⟩, _⟩, _⟩ := h
  refine ⟨?_, h1, h2, fun u hu => ?_⟩
  · simp only [roomOk, Bool.and_eq_true] at h3
    exact vecOk_len h3.1
  · have hin : ∀ t ∈ u.2, t ∈ (us.map (·.2)).flatten := fun t ht => List.mem_flatten.2 ⟨u.2, List.mem_map.2 ⟨u, hu, rfl⟩, ht⟩
    refine ⟨?_, fun t ht => ?_⟩
    · have hs : u.2.length ≤ (us.map (·.2)).flatten.length := (List.sublist_flatten_of_mem (List.mem_map.2 ⟨u, hu, rfl⟩)).length_le
      omega
    · have := h5 t (hin t ht)
      simp only [taskOk, vecFits, Bool.and_eq_true] at this
      exact vecOk_len this.2.1.1

theorem bytesP_drop (room : List Int) (us : List Un) : (bytesP room us).dropLast = encC room us := by rw [bytesP, List.dropLast_concat]
theorem units_le {us : List Un} : us.length ≤ (us.flatMap encU).length := by
  induction us with
  | nil => simp
  | cons u us ih => rw [List.flatMap_cons, List.length_append, List.length_cons, encU]; simp only [List.length_cons]; omega
/-- Both return the same. -/
theorem from_eq (zs : List Int) : fromI zs = fromS zs := by
  have key : ∀ room us, clOk room us = true → bytesP room us = zs → ¬ sumP zs < 0 → fromI zs = some (room, us) ∧ fromS zs = some (room, us) := by
    intro room us hc hb hs
    obtain ⟨h3, h1, h10, hu⟩ := clOk_facts hc
    have hle := units_le (us := us)
    have hd : zs.dropLast = encC room us := by rw [← hb, bytesP_drop]
    have hlen : zs.length = (encC room us).length + 1 := by rw [← hb, bytesP]; simp
    have hel : (encC room us).length = 3 + (us.flatMap encU).length := by rw [encC, List.length_append, h3]
    have ht : (encC room us).take 3 = room := by rw [encC, List.take_left' h3]
    have ht' : zs.take 3 = room := by rw [← hb, bytesP, encC, List.append_assoc, List.take_left' h3]
    have eI := unitsI_enc us room ((encC room us).length) (by omega) (fun u hu' => (hu u hu').2)
    have eS := unitsS_enc us room (sumP (encC room us)) zs.length 0 (by omega) (by omega) hu
    rw [h3] at eI eS
    have e5 : room ++ (us.flatMap encU ++ [sumP (encC room us)]) = zs := by rw [← hb, bytesP, encC, List.append_assoc]
    rw [e5] at eS
    constructor
    · unfold fromI
      rw [if_neg (by omega), hd, if_neg (by omega), show unitsI (encC room us) (encC room us).length 3 = some us from eI]
      dsimp only
      rw [ht, if_pos ⟨hc, hb⟩]
    · unfold fromS
      rw [if_neg (by omega), eS, ht', if_pos ⟨hc, hb⟩]
  have iff : ∀ c, fromI zs = some c → fromS zs = some c := by
    intro c h
    have h0 := h
    unfold fromI at h
    split at h
    · cases h
    · rename_i hs
      split at h
      · cases h
      · split at h
        · cases h
        · split at h
          · rename_i hh
            injection h with h
            rw [← h]
            exact (key _ _ hh.1 hh.2 (by omega)).2
          · cases h
  cases hI : fromI zs with
  | some c => rw [iff c hI]
  | none =>
    cases hS : fromS zs with
    | none => rfl
    | some c =>
      have h := hS
      unfold fromS at h
      split at h
      · cases h
      · rename_i hs
        split at h
        · rename_i hh
          have := (key _ _ hh.1 hh.2 (by omega)).1
          rw [hI] at this; cases this
        · cases h
end Go.Proofs.YtfkobleefhpggaaDoor
