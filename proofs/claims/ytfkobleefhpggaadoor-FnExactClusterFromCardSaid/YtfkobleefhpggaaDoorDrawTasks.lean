/- Walks: the draw of tasks. -/
import Derived.Test.YtfkobleefhpggaaDoorDrawRoom
namespace Go.Proofs.YtfkobleefhpggaaDoor
open Go.RowKit

theorem own_keep {w w' : World} {base : Nat} {e : TypeId} {size : Nat} {v : Value} {n : Nat} {xs : List Value} (h : w.ownsRow base e size v n xs) (hk : ∀ b, v.ownBlock = some b → w'.heap[b]? = w.heap[b]?) : w'.ownsRow base e size v n xs := by
  refine ⟨h.1, ?_⟩
  rcases h.2 with hn | ⟨g, cap, cur, rfl, hb, hgg, rest⟩
  · exact .inl hn
  · exact .inr ⟨g, cap, cur, rfl, hb, (hk g rfl).trans hgg, rest⟩
theorem own_set {w : World} {base : Nat} {e : TypeId} {size g n c : Nat} {xs : List Value} (h : w.ownsRow base e size (.slice (some ⟨g, 0, none⟩) n c) n xs) (i : Nat) (u : Value) : (w.setCell ⟨g, i, none⟩ u).ownsRow base e size (.slice (some ⟨g, 0, none⟩) n c) n (xs.set i u) := by
  refine ⟨by rw [List.length_set]; exact h.1, ?_⟩
  rcases h.2 with ⟨hn, _⟩ | ⟨g', cap, cur, hv, hb, hgg, h1, h2, h3, h4⟩
  · cases hn
  · injection hv with e1 e2 e3
    injection e1 with e1
    injection e1 with e1
    subst e1 e3
    refine .inr ⟨g, c, cur.setIfInBounds i u, rfl, hb, Blk.set_ (t := e) hgg i u, h1, h2, by simpa using h3, ?_⟩
    rw [Array.toList_setIfInBounds, List.take_set, h4]
theorem own_row {w : World} {base : Nat} {e : TypeId} {size n c : Nat} {A : Option Addr} {xs : List Value} (h : w.ownsRow base e size (.slice A n c) n xs) (hn : 0 < n) : ∃ g cur, A = some ⟨g, 0, none⟩ ∧ base ≤ g ∧ Blk w g e cur := by
  rcases h.2 with ⟨_, h0⟩ | ⟨g, cap, cur, hv, hb, hgg, _⟩
  · omega
  · injection hv with e1 e2 e3
    exact ⟨g, cur, e1, hb, hgg⟩
theorem own_built {w : World} {base : Nat} (e : TypeId) (a b : Value) (hb : base ≤ w.heap.size) : (w.alloc (.cells #[a, b] e)).ownsRow base e 2 (.slice (some ⟨w.heap.size, 0, none⟩) 1 1) 1 [a, b] :=
  ⟨rfl, .inr ⟨w.heap.size, 1, #[a, b], rfl, hb, heap_alloc_new w _, Nat.le_refl _, by unfold maxLen; omega, rfl, rfl⟩⟩
theorem own_src {w : World} {base : Nat} {e : TypeId} {n c : Nat} {A : Option Addr} {xs : List Value} (h : w.ownsRow base e 2 (.slice A n c) n xs) : Src w 2 A n xs := by
  refine ⟨h.1, fun hp => ?_⟩
  obtain ⟨g, cur, rfl, _, _⟩ := own_row h hp
  exact ⟨_, rfl, h.cells (g := g) rfl⟩
theorem own_ne_int {w : World} {base n b : Nat} {v : Value} {xs : List Value} {cs : Array Value} (h : w.ownsRow base 66 2 v n xs) (hb : Blk w b 3 cs) : v.ownBlock ≠ some b := by
  rcases h.2 with ⟨rfl, _⟩ | ⟨g, cap, cur, rfl, _, hg, _⟩
  · simp [Value.ownBlock]
  · intro e
    simp [Value.ownBlock] at e
    subst e
    unfold Blk at hb
    rw [hg] at hb
    injection hb with hb
    injection hb with _ hb
    exact absurd hb (by decide)

/-- The cells of k tasks, each with a need of three small integers in a block at or above lo. -/
def TkN (w : World) (lo k : Nat) (vs : List Value) : Prop :=
  vs.length = k * 2 ∧ ∀ j, j < k → ∃ (id : Int) (b : Nat) (xs : List Int), vs[j * 2]? = some (.int .i64 id) ∧ vs[j * 2 + 1]? = some (.slice (some ⟨b, 0, none⟩) 3 3) ∧ OwI w lo b xs ∧ xs.length = 3 ∧ Bd 21 xs
section
variable {w w' : World} {lo k k' : Nat} {vs vs' : List Value}
theorem TkN.nil : TkN w lo 0 [] := ⟨rfl, fun j hj => by omega⟩
theorem TkN.keep (h : TkN w lo k vs) (hk : ∀ b cs, lo ≤ b → Blk w b 3 cs → Blk w' b 3 cs) : TkN w' lo k vs :=
  ⟨h.1, fun j hj => by obtain ⟨id, b, xs, h1, h2, h3, h4⟩ := h.2 j hj; exact ⟨id, b, xs, h1, h2, ⟨h3.1, hk b _ h3.1 h3.2⟩, h4⟩⟩
theorem TkN.only {g : Nat} (h : TkN w lo k vs) (o : OnlyG w w' g) (hg : g < lo) : TkN w' lo k vs := h.keep (fun _ _ hb hc => o.blk hc (by omega))
theorem TkN.alloc (h : TkN w lo k vs) (o : Obj) : TkN (w.alloc o) lo k vs := h.keep (fun _ _ _ hc => hc.alloc o)
theorem TkN.grown {base n : Nat} {v : Value} {xs : List Value} (h : TkN w lo k vs) (ho : w.ownsRow base 66 2 v n xs) (hg : w.grownBy w' v.ownBlock) : TkN w' lo k vs :=
  h.keep (fun _ _ _ hc => hc.grown hg (fun e => own_ne_int ho hc e.symm))
theorem TkN.one {id : Int} {b : Nat} {xs : List Int} (h : OwI w lo b xs) (hl : xs.length = 3) (hb : Bd 21 xs) : TkN w lo 1 [.int .i64 id, .slice (some ⟨b, 0, none⟩) 3 3] :=
  ⟨rfl, fun j hj => by obtain rfl : j = 0 := (by omega); exact ⟨id, b, xs, rfl, rfl, h, hl, hb⟩⟩
theorem TkN.append (h : TkN w lo k vs) (h' : TkN w lo k' vs') : TkN w lo (k + k') (vs ++ vs') := by
  refine ⟨by simp [h.1, h'.1]; omega, fun j hj => ?_⟩
  by_cases hl : j < k
  · obtain ⟨id, b, xs, h1, h2, h3⟩ := h.2 j hl
    refine ⟨id, b, xs, ?_, ?_, h3⟩
    · rw [List.getElem?_append_left (by have := h.1; omega)]; exact h1
    · rw [List.getElem?_append_left (by have := h.1; omega)]; exact h2
  · obtain ⟨id, b, xs, h1, h2, h3⟩ := h'.2 (j - k) (by omega)
    refine ⟨id, b, xs, ?_, ?_, h3⟩
    · rw [List.getElem?_append_right (by have := h.1; omega), show j * 2 - vs.length = (j - k) * 2 from by have := h.1; omega]; exact h1
    · rw [List.getElem?_append_right (by have := h.1; omega), show j * 2 + 1 - vs.length = (j - k) * 2 + 1 from by have := h.1; omega]; exact h2
theorem TkN.cellsOne (h : TkN w lo k vs) : ∀ u ∈ vs, u.oneCell' = true := by
  intro u hu
  obtain ⟨i, hi, rfl⟩ := List.getElem_of_mem hu
  obtain ⟨id, b, xs, h1, h2, _⟩ := h.2 (i / 2) (by have := h.1; omega)
  rcases Nat.mod_two_eq_zero_or_one i with e | e
  · rw [show i / 2 * 2 = i from by omega, List.getElem?_eq_getElem hi] at h1
    injection h1 with h1; rw [h1]; rfl
  · rw [show i / 2 * 2 + 1 = i from by omega, List.getElem?_eq_getElem hi] at h2
    injection h2 with h2; rw [h2]; rfl
theorem TkN.set_id (h : TkN w lo k vs) (i : Nat) (v : Int) (hi : i < k) : TkN w lo k (vs.set (i * 2) (.int .i64 v)) := by
  refine ⟨by rw [List.length_set]; exact h.1, fun j hj => ?_⟩
  obtain ⟨id, b, xs, h1, h2, h3⟩ := h.2 j hj
  by_cases e : i = j
  · subst e
    exact ⟨v, b, xs, List.getElem?_set_self (by have := h.1; omega), by rw [List.getElem?_set_ne (by omega)]; exact h2, h3⟩
  · exact ⟨id, b, xs, by rw [List.getElem?_set_ne (by omega)]; exact h1, by rw [List.getElem?_set_ne (by omega)]; exact h2, h3⟩
theorem TkN.set_need (h : TkN w lo k vs) (g i : Nat) (v : Int) (hv : 0 ≤ v ∧ v ≤ 21) : TkN (w.setCell ⟨g, i, none⟩ (.int .i64 v)) lo k vs := by
  refine ⟨h.1, fun j hj => ?_⟩
  obtain ⟨id, b, xs, h1, h2, h3, h4, h5⟩ := h.2 j hj
  by_cases e : b = g
  · subst e
    exact ⟨id, b, xs.set i v, h1, h2, ⟨h3.1, by rw [← set_vals]; exact h3.2.set_ _ _⟩, by rw [List.length_set]; exact h4, h5.set_ _ hv⟩
  · exact ⟨id, b, xs, h1, h2, ⟨h3.1, h3.2.far e _⟩, h4, h5⟩
/-- They can be read. -/
theorem TkN.read (h : TkN w lo k vs) : ∃ ts : List Tk, ts.length = k ∧ TkCells w w.heap.size vs ts ∧ ∀ t ∈ ts, t.2.length = 3 ∧ Bd 21 t.2 := by
  have hh : ∀ j : Nat, ∃ t : Tk, j < k → ∃ b : Nat, vs[j * 2]? = some (.int .i64 t.1) ∧ vs[j * 2 + 1]? = some (.slice (some ⟨b, 0, none⟩) 3 3) ∧ OwI w lo b t.2 ∧ t.2.length = 3 ∧ Bd 21 t.2 := by
    intro j
    by_cases hj : j < k
    · obtain ⟨id, b, xs, h1, h2, h3, h4, h5⟩ := h.2 j hj
      exact ⟨(id, xs), fun _ => ⟨b, h1, h2, h3, h4, h5⟩⟩
    · exact ⟨(0, []), fun h => absurd h hj⟩
  obtain ⟨f, hf⟩ := Classical.axiomOfChoice hh
  have hg : ∀ j, j < k → ((List.range k).map f)[j]? = some (f j) := by
    intro j hj
    rw [List.getElem?_map, List.getElem?_range hj]; rfl
  refine ⟨(List.range k).map f, by simp, ⟨by simp [h.1], fun j hj => ?_⟩, fun t ht => ?_⟩
  · have hj : j < k := by simpa using hj
    obtain ⟨b, h1, h2, h3, h4, h5⟩ := hf j hj
    rw [hg j hj]
    exact ⟨_, _, _, h1, h2, Nat.le_refl _, h3.rd' h4 (by omega)⟩
  · obtain ⟨j, hj, rfl⟩ := List.mem_map.1 ht
    obtain ⟨b, h1, h2, h3, h4, h5⟩ := hf j (by simpa using hj)
    exact ⟨h4, h5⟩
end

/-- A row has grown. -/
theorem tk_grow {w0 w w' : World} {g q k n : Nat} {v : Value} {xs vs : List Value} (hown : w.ownsRow w0.heap.size 66 2 v n xs) (hg : w.grownBy w' v.ownBlock) (ho : OnlyG w0 w g) (hr : Rdr w g q) (ht : TkN w w0.heap.size k vs) (hlt : g < w0.heap.size) :
    OnlyG w0 w' g ∧ Rdr w' g q ∧ TkN w' w0.heap.size k vs :=
  ⟨ho.grown hg (fun r e => (hown.lt r e).1), hr.keep (fun b hb => hg.block b (by have := hr.lt; omega) (fun e => by have := (hown.lt b e.symm).1; omega)), ht.grown hown hg⟩

end Go.Proofs.YtfkobleefhpggaaDoor
