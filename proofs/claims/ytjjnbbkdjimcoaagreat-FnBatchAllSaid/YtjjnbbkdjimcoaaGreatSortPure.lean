/- Plain words for the tasks' order: greater sums first, smaller numbers then; the sorted list is the only one. No program in sight. -/
import Derived.Test.YtjjnbbkdjimcoaaGreatJ1
namespace Go.Proofs.YtjjnbbkdjimcoaaGreat
set_option linter.unusedVariables false

/-- l4Before. -/
def befP (a b : Tk) : Bool := decide (b.2.sum < a.2.sum) || (decide (a.2.sum = b.2.sum) && decide (a.1 < b.1))
theorem bef_iff {a b : Tk} : befP a b = true ↔ b.2.sum < a.2.sum ∨ (a.2.sum = b.2.sum ∧ a.1 < b.1) := by
  simp [befP, Bool.or_eq_true, Bool.and_eq_true]
theorem bef_asymm {a b : Tk} (h : befP a b = true) : befP b a = false := by
  rw [Bool.eq_false_iff]
  intro h'
  rw [bef_iff] at h h'
  omega
theorem bef_trans {a b c : Tk} (h : befP a b = true) (h' : befP b c = true) : befP a c = true := by
  rw [bef_iff] at h h' ⊢
  omega
theorem bef_irr (a : Tk) : befP a a = false := by
  rw [Bool.eq_false_iff]
  intro h
  rw [bef_iff] at h
  omega
theorem bef_total {a b : Tk} (h : a.1 ≠ b.1) : befP a b = true ∨ befP b a = true := by
  rw [bef_iff, bef_iff]
  omega
/-- In their order. -/
def InOrder (ts : List Tk) : Prop := ts.Pairwise (fun a b => befP a b = true)
/-- l4Put. -/
def putP : List Tk → Tk → List Tk
  | [], x => [x]
  | y :: ts, x => if befP x y = true then x :: y :: ts else y :: putP ts x
/-- TasksSort. -/
def sortP (ts : List Tk) : List Tk := ts.foldl putP []
theorem put_perm : ∀ (ts : List Tk) (x : Tk), (putP ts x).Perm (x :: ts)
  | [], x => List.Perm.refl _
  | y :: ts, x => by
    unfold putP
    split
    · exact List.Perm.refl _
    · exact ((put_perm ts x).cons y).trans (List.Perm.swap x y ts)
theorem put_len (ts : List Tk) (x : Tk) : (putP ts x).length = ts.length + 1 := by rw [(put_perm ts x).length_eq, List.length_cons]
theorem put_order : ∀ {ts : List Tk} {x : Tk}, InOrder ts → (∀ y ∈ ts, y.1 ≠ x.1) → InOrder (putP ts x)
  | [], x, _, _ => List.pairwise_singleton _ _
  | y :: ts, x, h, hd => by
    have h' := List.pairwise_cons.1 h
    unfold putP
    split
    · rename_i hb
      refine List.pairwise_cons.2 ⟨fun z hz => ?_, h⟩
      rcases List.mem_cons.1 hz with rfl | hz
      · exact hb
      · exact bef_trans hb (h'.1 z hz)
    · rename_i hb
      refine List.pairwise_cons.2 ⟨fun z hz => ?_, put_order h'.2 (fun z hz => hd z (List.mem_cons_of_mem _ hz))⟩
      rcases List.mem_cons.1 ((put_perm ts x).subset hz) with rfl | hz
      · exact (bef_total (hd y (List.mem_cons_self ..))).resolve_right hb
      · exact h'.1 z hz
theorem fold_perm : ∀ (ts acc : List Tk), (ts.foldl putP acc).Perm (acc ++ ts)
  | [], acc => by simp
  | x :: ts, acc => by
    rw [List.foldl_cons]
    refine (fold_perm ts (putP acc x)).trans ?_
    refine ((put_perm acc x).append_right ts).trans ?_
    exact (List.perm_middle (l₁ := acc) (l₂ := ts) (a := x)).symm
theorem sort_perm (ts : List Tk) : (sortP ts).Perm ts := by simpa [sortP] using fold_perm ts []
theorem fold_order : ∀ {ts acc : List Tk}, InOrder acc → ((acc ++ ts).map (·.1)).Nodup → InOrder (ts.foldl putP acc)
  | [], acc, h, _ => h
  | x :: ts, acc, h, hd => by
    rw [List.foldl_cons]
    refine fold_order (put_order h (fun y hy he => ?_)) ?_
    · rw [List.map_append, List.nodup_append] at hd
      exact hd.2.2 y.1 (List.mem_map_of_mem hy) x.1 (by simp) he
    · refine (List.Perm.nodup_iff (List.Perm.map _ ?_)).2 hd
      exact ((put_perm acc x).append_right ts).trans (List.perm_middle (l₁ := acc) (l₂ := ts) (a := x)).symm
theorem sort_order {ts : List Tk} (hd : (ts.map (·.1)).Nodup) : InOrder (sortP ts) := fold_order List.Pairwise.nil (by simpa using hd)
/-- There is one list in order only. -/
theorem order_unique : ∀ {a b : List Tk}, a.Perm b → InOrder a → InOrder b → a = b
  | [], b, h, _, _ => by rw [List.Perm.eq_nil (h.symm)]
  | x :: a, [], h, _, _ => by have := h.length_eq; simp at this
  | x :: a, y :: b, h, ha, hb => by
    have ha' := List.pairwise_cons.1 ha
    have hb' := List.pairwise_cons.1 hb
    have hxy : x = y := by
      rcases List.mem_cons.1 (h.subset (List.mem_cons_self ..)) with e | hx
      · exact e
      · rcases List.mem_cons.1 (h.symm.subset (List.mem_cons_self ..)) with e | hy
        · exact e.symm
        · have h1 := hb'.1 x hx
          have h2 := ha'.1 y hy
          rw [bef_asymm h1] at h2
          cases h2
    subst hxy
    rw [order_unique (List.Perm.cons_inv h) ha'.2 hb'.2]
theorem sort_same {a b : List Tk} (h : a.Perm b) (hd : (a.map (·.1)).Nodup) : sortP a = sortP b :=
  order_unique ((sort_perm a).trans (h.trans (sort_perm b).symm)) (sort_order hd) (sort_order ((List.Perm.nodup_iff (h.map _)).1 hd))
theorem sort_len (ts : List Tk) : (sortP ts).length = ts.length := (sort_perm ts).length_eq
end Go.Proofs.YtjjnbbkdjimcoaaGreat
