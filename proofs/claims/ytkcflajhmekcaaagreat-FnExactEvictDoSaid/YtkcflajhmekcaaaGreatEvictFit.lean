/- Plain words for evictions: the order in which those who left come back; whether there is room. No program in sight. -/
import Derived.Test.YtkcflajhmekcaaaGreatEvictPure
import Derived.Test.YtkcflajhmekcaaaGreatBins
namespace Go.Proofs.YtkcflajhmekcaaaGreat
open Go.RowKit

/-- The better one of the best so far and a further candidate: the greatest rank, the first one of equals. -/
def highF (rk : List Int) (c : Nat → Bool) (b : Int) (i : Nat) : Int := if c i = true ∧ (b < 0 ∨ rk[b.toNat]?.getD 0 < rk[i]?.getD 0) then (i : Int) else b
def highP (rk : List Int) (c : Nat → Bool) (n : Nat) : Int := (List.range n).foldl (highF rk c) (-1)
theorem highP_zero (rk : List Int) (c : Nat → Bool) : highP rk c 0 = -1 := rfl
theorem highP_succ (rk : List Int) (c : Nat → Bool) (n : Nat) : highP rk c (n + 1) = highF rk c (highP rk c n) n := by simp [highP, List.range_succ]
theorem highP_spec (rk : List Int) (c : Nat → Bool) (n : Nat) :
    (highP rk c n = -1 ∧ ∀ j, j < n → c j = false) ∨
    (∃ k, k < n ∧ highP rk c n = (k : Int) ∧ c k = true ∧ ∀ j, j < n → c j = true → rk[j]?.getD 0 < rk[k]?.getD 0 ∨ (rk[j]?.getD 0 = rk[k]?.getD 0 ∧ k ≤ j)) := by
  induction n with
  | zero => exact .inl ⟨rfl, fun j hj => by omega⟩
  | succ n ih =>
    rw [highP_succ]
    rcases ih with ⟨e, h⟩ | ⟨k, hk, e, h1, h2⟩
    · rw [e]
      cases hc : c n with
      | true =>
        refine .inr ⟨n, by omega, by rw [highF, if_pos ⟨hc, .inl (by omega)⟩], hc, fun j hj h4 => ?_⟩
        by_cases ej : j = n
        · rw [ej]; exact .inr ⟨rfl, Nat.le_refl _⟩
        · rw [h j (by omega)] at h4; cases h4
      | false =>
        refine .inl ⟨by rw [highF, if_neg (fun x => by rw [hc] at x; cases x.1)], fun j hj => ?_⟩
        by_cases ej : j = n
        · rw [ej]; exact hc
        · exact h j (by omega)
    · rw [e]
      by_cases hc : c n = true ∧ rk[k]?.getD 0 < rk[n]?.getD 0
      · refine .inr ⟨n, by omega, by rw [highF, if_pos ⟨hc.1, .inr (by simpa using hc.2)⟩], hc.1, fun j hj h4 => ?_⟩
        by_cases ej : j = n
        · rw [ej]; exact .inr ⟨rfl, Nat.le_refl _⟩
        · rcases h2 j (by omega) h4 with h5 | h5 <;> omega
      · refine .inr ⟨k, by omega, ?_, h1, fun j hj h4 => ?_⟩
        · rw [highF, if_neg]
          rintro ⟨x1, x2 | x2⟩
          · omega
          · exact hc ⟨x1, by simpa using x2⟩
        · by_cases ej : j = n
          · rw [ej] at h4 ⊢
            have : ¬ rk[k]?.getD 0 < rk[n]?.getD 0 := fun x => hc ⟨h4, x⟩
            omega
          · exact h2 j (by omega) h4
theorem highP_bd (rk : List Int) (c : Nat → Bool) (n : Nat) : -1 ≤ highP rk c n ∧ highP rk c n < n := by
  rcases highP_spec rk c n with ⟨e, _⟩ | ⟨k, hk, e, _⟩ <;> omega

/-- One who left comes back ahead of another one. -/
def ltR (rk : List Int) (i k : Nat) : Bool := decide (rk[k]?.getD 0 < rk[i]?.getD 0 ∨ (rk[i]?.getD 0 = rk[k]?.getD 0 ∧ i < k))
/-- Those who left, in the order in which they come back. -/
def sortE (rk : List Int) (l : List Nat) : List Nat := l.mergeSort fun x y => !ltR rk y x
theorem sortE_perm (rk : List Int) (l : List Nat) : (sortE rk l).Perm l := List.mergeSort_perm _ _
theorem sortE_pair (rk : List Int) (l : List Nat) : (sortE rk l).Pairwise fun x y => rk[y]?.getD 0 < rk[x]?.getD 0 ∨ (rk[y]?.getD 0 = rk[x]?.getD 0 ∧ x ≤ y) := by
  have := List.pairwise_mergeSort (le := fun x y => !ltR rk y x) (fun a b c h1 h2 => by
    simp only [ltR, Bool.not_eq_true', decide_eq_false_iff_not] at *; omega) (fun a b => by
    simp only [ltR, Bool.or_eq_true, Bool.not_eq_true', decide_eq_false_iff_not]; omega) l
  refine this.imp fun {x y} h => ?_
  simp only [ltR, Bool.not_eq_true', decide_eq_false_iff_not] at h
  omega
theorem sortE_mem {rk : List Int} {l : List Nat} {j : Nat} : j ∈ sortE rk l ↔ j ∈ l := (sortE_perm rk l).mem_iff
/-- The head of what is left is the highest. -/
theorem highP_head {rk : List Int} {c : Nat → Bool} {n : Nat} : ∀ {l : List Nat}, (l.Pairwise fun x y => rk[y]?.getD 0 < rk[x]?.getD 0 ∨ (rk[y]?.getD 0 = rk[x]?.getD 0 ∧ x ≤ y)) → (∀ j, j < n → (c j = true ↔ j ∈ l)) → (∀ j ∈ l, j < n) →
    highP rk c n = match l with | [] => -1 | k :: _ => (k : Int) := by
  intro l hp hc hl
  rcases highP_spec rk c n with ⟨e, h⟩ | ⟨k, hk, e, h1, h2⟩
  · cases l with
    | nil => exact e
    | cons k l =>
      have := (hc k (hl k (by simp))).2 (by simp)
      rw [h k (hl k (by simp))] at this; cases this
  · cases l with
    | nil => exact absurd ((hc k hk).1 h1) (by simp)
    | cons i l =>
      rw [e]
      rw [List.pairwise_cons] at hp
      have hi := hl i (by simp)
      have a := h2 i hi ((hc i hi).2 (by simp))
      rcases List.mem_cons.1 ((hc k hk).1 h1) with b | b
      · show (k : Int) = i
        rw [b]
      · have := hp.1 k b
        show (k : Int) = i
        omega

/-- The first n tasks that stay. -/
def keptP (ts : List Tk) (g : Nat → Bool) : Nat → List Tk
  | 0 => []
  | n + 1 => if g n = true then keptP ts g n else keptP ts g n ++ [ts[n]?.getD (0, [])]
theorem keptP_len (ts : List Tk) (g : Nat → Bool) (n : Nat) : (keptP ts g n).length ≤ n := by
  induction n with
  | zero => exact Nat.le_refl _
  | succ n ih =>
    rw [keptP]
    split
    · omega
    · simp only [List.length_append, List.length_singleton]; omega
theorem keptP_congr {ts : List Tk} {g g' : Nat → Bool} {n : Nat} (h : ∀ j, j < n → g j = g' j) : keptP ts g n = keptP ts g' n := by
  induction n with
  | zero => rfl
  | succ n ih => rw [keptP, keptP, ih (fun j hj => h j (by omega)), h n (by omega)]
theorem keptP_mem {ts : List Tk} {g : Nat → Bool} {n : Nat} (hn : n ≤ ts.length) {t : Tk} (h : t ∈ keptP ts g n) : t ∈ ts := by
  induction n with
  | zero => cases h
  | succ n ih =>
    rw [keptP] at h
    split at h
    · exact ih (by omega) h
    · rcases List.mem_append.1 h with h | h
      · exact ih (by omega) h
      · simp only [List.mem_singleton] at h
        subst h
        rw [List.getElem?_eq_getElem (by omega)]
        exact List.getElem_mem _
theorem keptP_all {ts : List Tk} {g : Nat → Bool} {n : Nat} (h : ∀ j, j < n → g j = false) (hn : n ≤ ts.length) : keptP ts g n = ts.take n := by
  induction n with
  | zero => rfl
  | succ n ih =>
    rw [keptP, if_neg (by rw [h n (by omega)]; simp), ih (fun j hj => h j (by omega)) (by omega), List.take_add_one, List.getElem?_eq_getElem (by omega)]
    rfl
theorem loadP_snoc (ts : List Tk) (t : Tk) : loadP (ts ++ [t]) = add3 (loadP ts) t.2 := by simp [loadP]
/-- The sum of those who stay. -/
def sumK (ts : List Tk) (g : Nat → Bool) (i : Nat) : Nat → Int
  | 0 => 0
  | n + 1 => sumK ts g i n + (if g n = true then 0 else (ts[n]?.getD (0, [])).2[i]?.getD 0)
theorem loadP_kept (ts : List Tk) (g : Nat → Bool) {i : Nat} (hi : i < 3) (n : Nat) : (loadP (keptP ts g n))[i]?.getD 0 = sumK ts g i n := by
  induction n with
  | zero => have : i = 0 ∨ i = 1 ∨ i = 2 := by omega
            rcases this with rfl | rfl | rfl <;> rfl
  | succ n ih =>
    rw [keptP, sumK]
    split
    · rw [ih]; omega
    · rw [loadP_snoc, add3_at hi, ih]
theorem sumK_mono {ts : List Tk} {g g' : Nat → Bool} {i : Nat} (h0 : ∀ j : Nat, 0 ≤ (ts[j]?.getD (0, [])).2[i]?.getD 0) (n : Nat) (h : ∀ j, j < n → g j = true → g' j = true) : sumK ts g' i n ≤ sumK ts g i n := by
  induction n with
  | zero => exact Int.le_refl _
  | succ n ih =>
    have := ih (fun j hj => h j (by omega))
    have a := h n (by omega)
    have b := h0 n
    rw [sumK, sumK]
    cases hg : g n with
    | true => rw [hg] at a; simp [a rfl]; omega
    | false => simp; split <;> omega
/-- There is room beside those who stay. -/
def fitE (room : List Int) (ts : List Tk) (xs : List Int) (g : Nat → Bool) : Bool := fits3 (add3 (loadP (keptP ts g ts.length)) xs) room
theorem fitE_iff {room : List Int} {ts : List Tk} {xs : List Int} {g : Nat → Bool} : fitE room ts xs g = true ↔ ∀ i, i < 3 → sumK ts g i ts.length + xs[i]?.getD 0 ≤ room[i]?.getD 0 := by
  rw [fitE, fits3_iff]
  constructor
  · intro h i hi; have := h i hi; rwa [add3_at hi, loadP_kept ts g hi] at this
  · intro h i hi; rw [add3_at hi, loadP_kept ts g hi]; exact h i hi
theorem fitE_mono {room : List Int} {ts : List Tk} {xs : List Int} (h0 : ∀ j i : Nat, 0 ≤ (ts[j]?.getD (0, [])).2[i]?.getD 0) (g g' : Nat → Bool) (h : ∀ j, g j = true → g' j = true) (hf : fitE room ts xs g = true) : fitE room ts xs g' = true := by
  rw [fitE_iff] at hf ⊢
  intro i hi
  have := hf i hi
  have := sumK_mono (g := g) (g' := g') (fun j => h0 j i) ts.length (fun j _ => h j)
  omega
theorem fitE_congr {room : List Int} {ts : List Tk} {xs : List Int} {g g' : Nat → Bool} (h : ∀ j, j < ts.length → g j = g' j) : fitE room ts xs g = fitE room ts xs g' := by
  rw [fitE, fitE, keptP_congr h]

/-- Who leaves: none where it fails. -/
def goneP (room : List Int) (ts : List Tk) (rk : List Int) (xs : List Int) (r : Int) : Option (Nat → Bool) :=
  (takeP (fitE room ts xs) ts.length rk r (ts.length + 1) []).map fun l => backP (fitE room ts xs) (sortE rk l) (inL l)
/-- The list of those who leave. -/
def listG (g : Nat → Bool) (n : Nat) : List Int := ((List.range n).filter g).map (Int.ofNat)
/-- Valid ranks. -/
def ranksOk (rk : List Int) : Bool := rk.all (inR 0 9)

theorem goneP_more {room : List Int} {ts : List Tk} {rk xs : List Int} {r : Int} {g : Nat → Bool} (h : goneP room ts rk xs r = some g) : goneP room ts rk xs (r + 1) = some g := by
  rw [goneP, Option.map_eq_some_iff] at h ⊢
  obtain ⟨l, h1, h2⟩ := h
  exact ⟨l, takeP_more h1, h2⟩
theorem goneP_spec {room : List Int} {ts : List Tk} {rk xs : List Int} {r : Int} {g : Nat → Bool} (h : goneP room ts rk xs r = some g) :
    fitE room ts xs g = true ∧ ∀ j, g j = true → j < ts.length ∧ rk[j]?.getD 0 < r := by
  rw [goneP, Option.map_eq_some_iff] at h
  obtain ⟨l, h1, rfl⟩ := h
  obtain ⟨⟨h2, h3⟩, h4⟩ := takeP_spec h1 ⟨List.nodup_nil, fun j hj => by cases hj⟩
  obtain ⟨h5, _, h6⟩ := backP_spec (l := sortE rk l) h4 (fun k hk => by simpa [inL] using sortE_mem.1 hk) ((sortE_perm rk l).nodup_iff.2 h2)
  refine ⟨h5, fun j hj => h3 j ?_⟩
  simpa [inL] using h6 j hj
theorem goneP_each {room : List Int} {ts : List Tk} {rk xs : List Int} {r : Int} {g : Nat → Bool} (h0 : ∀ j i : Nat, 0 ≤ (ts[j]?.getD (0, [])).2[i]?.getD 0) (h : goneP room ts rk xs r = some g) {k : Nat} (hk : g k = true) : fitE room ts xs (upd g k false) = false := by
  rw [goneP, Option.map_eq_some_iff] at h
  obtain ⟨l, h1, rfl⟩ := h
  obtain ⟨⟨h2, h3⟩, h4⟩ := takeP_spec h1 ⟨List.nodup_nil, fun j hj => by cases hj⟩
  have ha : ∀ k ∈ sortE rk l, inL l k = true := fun k hk => by simpa [inL] using sortE_mem.1 hk
  have hn := (sortE_perm rk l).nodup_iff.2 h2
  obtain ⟨_, h5, h6⟩ := backP_spec h4 ha hn
  refine backP_each (fitE_mono h0) h4 ha hn k ?_ hk
  exact sortE_mem.2 (by simpa [inL] using h6 k hk)
theorem goneP_none_iff {room : List Int} {ts : List Tk} {rk xs : List Int} {r : Int} (h : fitE room ts xs (fun _ => false) = true) : goneP room ts rk xs r = some (fun _ => false) := by
  rw [goneP, takeP, inL_nil, if_pos h]
  simp [sortE, backP, inL_nil]
theorem goneP_low {room : List Int} {ts : List Tk} {rk xs : List Int} (hr : ∀ j : Nat, 0 ≤ rk[j]?.getD 0) : goneP room ts rk xs 0 = if fitE room ts xs (fun _ => false) = true then some (fun _ => false) else none := by
  split
  · rename_i h; exact goneP_none_iff h
  · rename_i h
    rw [goneP, takeP, inL_nil, if_neg h]
    rcases lowP_spec rk (fun _ => false) 0 ts.length with ⟨e, _⟩ | ⟨k, _, _, _, h2, _⟩
    · rw [if_pos (by omega)]; rfl
    · have := hr k; omega
end Go.Proofs.YtkcflajhmekcaaaGreat
