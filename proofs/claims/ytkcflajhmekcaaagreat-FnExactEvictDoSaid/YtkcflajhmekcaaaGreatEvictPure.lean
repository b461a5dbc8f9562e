/- Plain words for evictions: who is taken out, who comes back. No program in sight. -/
import Derived.Test.YtkcflajhmekcaaaGreatPure
namespace Go.Proofs.YtkcflajhmekcaaaGreat

/-- The better one of the best so far and a further one who is there: the least rank below r, the last one of equals. -/
def lowF (rk : List Int) (g : Nat → Bool) (r b : Int) (i : Nat) : Int :=
  if g i = false ∧ rk[i]?.getD 0 < r ∧ (b < 0 ∨ rk[i]?.getD 0 ≤ rk[b.toNat]?.getD 0) then (i : Int) else b
def lowP (rk : List Int) (g : Nat → Bool) (r : Int) (n : Nat) : Int := (List.range n).foldl (lowF rk g r) (-1)
theorem lowP_zero (rk : List Int) (g : Nat → Bool) (r : Int) : lowP rk g r 0 = -1 := rfl
theorem lowP_succ (rk : List Int) (g : Nat → Bool) (r : Int) (n : Nat) : lowP rk g r (n + 1) = lowF rk g r (lowP rk g r n) n := by simp [lowP, List.range_succ]

/-- What the fold finds. -/
theorem lowP_spec (rk : List Int) (g : Nat → Bool) (r : Int) (n : Nat) :
    (lowP rk g r n = -1 ∧ ∀ j, j < n → ¬(g j = false ∧ rk[j]?.getD 0 < r)) ∨
    (∃ k, k < n ∧ lowP rk g r n = (k : Int) ∧ g k = false ∧ rk[k]?.getD 0 < r ∧ ∀ j, j < n → g j = false → rk[j]?.getD 0 < r → rk[k]?.getD 0 ≤ rk[j]?.getD 0) := by
  induction n with
  | zero => exact .inl ⟨rfl, fun j hj => by omega⟩
  | succ n ih =>
    rw [lowP_succ]
    rcases ih with ⟨e, h⟩ | ⟨k, hk, e, h1, h2, h3⟩
    · rw [e]
      by_cases hc : g n = false ∧ rk[n]?.getD 0 < r
      · refine .inr ⟨n, by omega, ?_, hc.1, hc.2, fun j hj h4 h5 => ?_⟩
        · rw [lowF, if_pos ⟨hc.1, hc.2, .inl (by omega)⟩]
        · by_cases ej : j = n
          · rw [ej]; omega
          · exact absurd ⟨h4, h5⟩ (h j (by omega))
      · refine .inl ⟨?_, fun j hj => ?_⟩
        · rw [lowF, if_neg (fun x => hc ⟨x.1, x.2.1⟩)]
        · by_cases ej : j = n
          · rw [ej]; exact hc
          · exact h j (by omega)
    · rw [e]
      by_cases hc : g n = false ∧ rk[n]?.getD 0 < r ∧ rk[n]?.getD 0 ≤ rk[k]?.getD 0
      · refine .inr ⟨n, by omega, ?_, hc.1, hc.2.1, fun j hj h4 h5 => ?_⟩
        · rw [lowF, if_pos ⟨hc.1, hc.2.1, .inr (by simpa using hc.2.2)⟩]
        · by_cases ej : j = n
          · rw [ej]; omega
          · have := h3 j (by omega) h4 h5; omega
      · refine .inr ⟨k, by omega, ?_, h1, h2, fun j hj h4 h5 => ?_⟩
        · rw [lowF, if_neg]
          rintro ⟨x1, x2, x3 | x3⟩
          · omega
          · exact hc ⟨x1, x2, by simpa using x3⟩
        · by_cases ej : j = n
          · rw [ej] at h4 h5 ⊢
            by_cases h6 : rk[n]?.getD 0 ≤ rk[k]?.getD 0
            · exact absurd ⟨h4, h5, h6⟩ hc
            · omega
          · exact h3 j (by omega) h4 h5
theorem lowP_bd (rk : List Int) (g : Nat → Bool) (r : Int) (n : Nat) : -1 ≤ lowP rk g r n ∧ lowP rk g r n < n := by
  rcases lowP_spec rk g r n with ⟨e, _⟩ | ⟨k, hk, e, _⟩ <;> omega
theorem lowP_congr {rk : List Int} {g g' : Nat → Bool} {r : Int} {n : Nat} (h : ∀ j, j < n → g j = g' j) : lowP rk g r n = lowP rk g' r n := by
  induction n with
  | zero => rfl
  | succ n ih => rw [lowP_succ, lowP_succ, ih (fun j hj => h j (by omega)), lowF, lowF, h n (by omega)]

/-- Below a greater rank too, the same one is the lowest. -/
theorem lowP_more {rk : List Int} {g : Nat → Bool} {r : Int} {n : Nat} (h : 0 ≤ lowP rk g r n) : lowP rk g (r + 1) n = lowP rk g r n := by
  suffices ∀ n, (∀ b : Int, lowP rk g r n = b → 0 ≤ b → lowP rk g (r + 1) n = b) ∧ (lowP rk g r n = -1 → lowP rk g (r + 1) n = -1 ∨ ∃ k : Nat, lowP rk g (r + 1) n = k ∧ rk[k]?.getD 0 = r) from (this n).1 _ rfl h
  intro n
  induction n with
  | zero => exact ⟨fun b hb h0 => by rw [lowP_zero] at hb; omega, fun _ => .inl rfl⟩
  | succ n ih =>
    rw [lowP_succ, lowP_succ]
    rcases lowP_spec rk g r n with ⟨e, h⟩ | ⟨k, hk, e, h1, h2, h3⟩
    · rw [e]
      by_cases hc : g n = false ∧ rk[n]?.getD 0 < r
      · have e1 : lowF rk g r (-1) n = n := by rw [lowF, if_pos ⟨hc.1, hc.2, .inl (by omega)⟩]
        rw [e1]
        refine ⟨fun b hb h0 => ?_, fun hb => absurd hb (by omega)⟩
        subst hb
        rcases ih.2 e with e2 | ⟨q, e2, hq⟩
        · rw [e2, lowF, if_pos ⟨hc.1, by omega, .inl (by omega)⟩]
        · rw [e2, lowF, if_pos ⟨hc.1, by omega, .inr (by simp only [Int.toNat_natCast]; omega)⟩]
      · have e1 : lowF rk g r (-1) n = -1 := by rw [lowF, if_neg (fun x => hc ⟨x.1, x.2.1⟩)]
        rw [e1]
        refine ⟨fun b hb h0 => by omega, fun _ => ?_⟩
        rw [lowF]
        split
        · rename_i hd
          refine .inr ⟨n, rfl, ?_⟩
          have : ¬ rk[n]?.getD 0 < r := fun x => hc ⟨hd.1, x⟩
          omega
        · exact ih.2 e
    · rw [ih.1 k e (by omega), e]
      have : lowF rk g (r + 1) k n = lowF rk g r k n := by
        unfold lowF
        by_cases hc : g n = false ∧ rk[n]?.getD 0 ≤ rk[k]?.getD 0
        · rw [if_pos ⟨hc.1, by omega, .inr (by simpa using hc.2)⟩, if_pos ⟨hc.1, by omega, .inr (by simpa using hc.2)⟩]
        · rw [if_neg, if_neg]
          · rintro ⟨x1, x2, x3 | x3⟩
            · omega
            · exact hc ⟨x1, by simpa using x3⟩
          · rintro ⟨x1, x2, x3 | x3⟩
            · omega
            · exact hc ⟨x1, by simpa using x3⟩
      rw [this]
      refine ⟨fun b hb _ => hb, fun hb => ?_⟩
      exfalso
      rw [lowF] at hb
      split at hb <;> omega

/-- A flag turned. -/
def upd (g : Nat → Bool) (k : Nat) (v : Bool) : Nat → Bool := fun j => if j = k then v else g j
theorem upd_at (g : Nat → Bool) (k : Nat) (v : Bool) : upd g k v k = v := by simp [upd]
theorem upd_ne {g : Nat → Bool} {k j : Nat} (v : Bool) (h : j ≠ k) : upd g k v j = g j := by simp [upd, h]
theorem upd_upd (g : Nat → Bool) (k : Nat) (u v : Bool) : upd (upd g k u) k v = upd g k v := by funext j; unfold upd; split <;> rfl
theorem upd_self (g : Nat → Bool) (k : Nat) : upd g k (g k) = g := by funext j; unfold upd; split <;> simp_all
/-- The flags of those in a list. -/
def inL (l : List Nat) (j : Nat) : Bool := l.contains j
theorem inL_nil : inL [] = fun _ => false := by funext j; simp [inL]
theorem inL_snoc (l : List Nat) (k : Nat) : inL (l ++ [k]) = upd (inL l) k true := by
  funext j
  by_cases h : j = k
  · subst h; rw [upd_at]; simp [inL]
  · rw [upd_ne true h]; simp [inL, h]

/-- The lowest ones leave until there is room. -/
def takeP (fit : (Nat → Bool) → Bool) (n : Nat) (rk : List Int) (r : Int) : Nat → List Nat → Option (List Nat)
  | 0, _ => none
  | f + 1, l => if fit (inL l) = true then some l else if lowP rk (inL l) r n < 0 then none else takeP fit n rk r f (l ++ [(lowP rk (inL l) r n).toNat])
/-- Those who left come back in turn if there is room. -/
def backP (fit : (Nat → Bool) → Bool) : List Nat → (Nat → Bool) → (Nat → Bool)
  | [], g => g
  | k :: l, g => backP fit l (upd g k (!fit (upd g k false)))

/-- A greater rank takes out the same ones. -/
theorem takeP_more {fit : (Nat → Bool) → Bool} {n : Nat} {rk : List Int} {r : Int} : ∀ {f : Nat} {l l' : List Nat}, takeP fit n rk r f l = some l' → takeP fit n rk (r + 1) f l = some l' := by
  intro f
  induction f with
  | zero => intro l l' h; cases h
  | succ f ih =>
    intro l l' h
    rw [takeP] at h ⊢
    split at h
    · rename_i hf; rw [if_pos hf]; exact h
    · rename_i hf
      rw [if_neg hf]
      split at h
      · cases h
      · rename_i hn
        rw [lowP_more (by omega), if_neg hn]
        exact ih h

/-- What the first part leaves behind. -/
theorem takeP_spec {fit : (Nat → Bool) → Bool} {n : Nat} {rk : List Int} {r : Int} : ∀ {f : Nat} {l l' : List Nat}, takeP fit n rk r f l = some l' →
    (l.Nodup ∧ ∀ j ∈ l, j < n ∧ rk[j]?.getD 0 < r) → (l'.Nodup ∧ ∀ j ∈ l', j < n ∧ rk[j]?.getD 0 < r) ∧ fit (inL l') = true := by
  intro f
  induction f with
  | zero => intro l l' h; cases h
  | succ f ih =>
    intro l l' h hl
    rw [takeP] at h
    split at h
    · rename_i hf; cases h; exact ⟨hl, hf⟩
    · split at h
      · cases h
      · rename_i hf hn
        refine ih h ?_
        rcases lowP_spec rk (inL l) r n with ⟨e, _⟩ | ⟨k, hk, e, h1, h2, _⟩
        · omega
        · rw [e, Int.toNat_natCast]
          have hnot : k ∉ l := by simpa [inL] using h1
          refine ⟨?_, fun j hj => ?_⟩
          · rw [List.nodup_append]
            exact ⟨hl.1, by simp, fun a ha b hb hab => by simp at hb; rw [hab, hb] at ha; exact hnot ha⟩
          · rcases List.mem_append.1 hj with hj | hj
            · exact hl.2 j hj
            · simp at hj; subst hj; exact ⟨hk, h2⟩
theorem nodup_le {n : Nat} {l : List Nat} (h1 : l.Nodup) (h2 : ∀ j ∈ l, j < n) : l.length ≤ n := by
  have := h1.length_le_of_subset (l₂ := List.range n) (fun j hj => List.mem_range.2 (h2 j hj))
  simpa using this

/-- While those come back the room is kept, and nobody else turns. -/
theorem backP_spec {fit : (Nat → Bool) → Bool} : ∀ {l : List Nat} {g : Nat → Bool}, fit g = true → (∀ k ∈ l, g k = true) → l.Nodup →
    fit (backP fit l g) = true ∧ (∀ j, j ∉ l → backP fit l g j = g j) ∧ (∀ j, backP fit l g j = true → g j = true) := by
  intro l
  induction l with
  | nil => intro g h _ _; exact ⟨h, fun _ _ => rfl, fun _ h => h⟩
  | cons k l ih =>
    intro g h hl hn
    have hk : g k = true := hl k (by simp)
    rw [List.nodup_cons] at hn
    have hfit : fit (upd g k (!fit (upd g k false))) = true := by
      cases hf : fit (upd g k false) with
      | true => simpa using hf
      | false =>
        have : upd g k true = g := by rw [← hk]; exact upd_self g k
        simpa [this] using h
    obtain ⟨h1, h2, h3⟩ := ih hfit (fun j hj => by rw [upd_ne _ (fun ee : j = k => hn.1 (by rw [← ee]; exact hj))]; exact hl j (List.mem_cons_of_mem _ hj)) hn.2
    refine ⟨h1, fun j hj => ?_, fun j hj => ?_⟩
    · rw [backP, h2 j (fun x => hj (List.mem_cons_of_mem _ x)), upd_ne _ (fun ee : j = k => hj (by rw [ee]; exact List.mem_cons_self))]
    · have := h3 j hj
      by_cases e : j = k
      · rw [e]; exact hk
      · rwa [upd_ne _ e] at this
/-- Nobody leaves in vain. -/
theorem backP_each {fit : (Nat → Bool) → Bool} (hm : ∀ g g' : Nat → Bool, (∀ j, g j = true → g' j = true) → fit g = true → fit g' = true) : ∀ {l : List Nat} {g : Nat → Bool}, fit g = true → (∀ k ∈ l, g k = true) → l.Nodup →
    ∀ k ∈ l, backP fit l g k = true → fit (upd (backP fit l g) k false) = false := by
  intro l
  induction l with
  | nil => intro g _ _ _ k hk; cases hk
  | cons k l ih =>
    intro g h hl hn i hi ht
    have hk : g k = true := hl k (by simp)
    rw [List.nodup_cons] at hn
    have hfit : fit (upd g k (!fit (upd g k false))) = true := by
      cases hf : fit (upd g k false) with
      | true => simpa using hf
      | false =>
        have : upd g k true = g := by rw [← hk]; exact upd_self g k
        simpa [this] using h
    have hl' : ∀ j ∈ l, upd g k (!fit (upd g k false)) j = true := fun j hj => by rw [upd_ne _ (fun ee : j = k => hn.1 (by rw [← ee]; exact hj))]; exact hl j (List.mem_cons_of_mem _ hj)
    rw [backP] at ht ⊢
    obtain ⟨h1, h2, h3⟩ := backP_spec hfit hl' hn.2
    by_cases e : i = k
    · subst e
      rw [h2 i hn.1, upd_at] at ht
      have hf : fit (upd g i false) = false := by simpa using ht
      cases hx : fit (upd (backP fit l (upd g i (!fit (upd g i false)))) i false) with
      | false => rfl
      | true =>
        have := hm _ (upd g i false) (fun j hj => by
          by_cases ej : j = i
          · rw [ej, upd_at] at hj; cases hj
          · rw [upd_ne _ ej] at hj ⊢
            have := h3 j hj
            rwa [upd_ne _ ej] at this) hx
        rw [hf] at this; cases this
    · have hi' : i ∈ l := by simpa [e] using hi
      exact ih hfit hl' hn.2 i hi' ht
end Go.Proofs.YtkcflajhmekcaaaGreat
