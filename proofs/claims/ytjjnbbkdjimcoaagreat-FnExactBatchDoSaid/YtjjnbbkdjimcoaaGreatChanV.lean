/- Words for channels of tasks. -/
import Derived.Test.YtjjnbbkdjimcoaaGreatBatchA
import Derived.Test.YtjjnbbkdjimcoaaGreatChan
import Derived.Test.YtjjnbbkdjimcoaaGreatJ5
namespace Go.Proofs.YtjjnbbkdjimcoaaGreat
set_option linter.unusedSimpArgs false
set_option linter.unusedVariables false
open Go Go.RowKit Go.Conc
attribute [local go_sem ↓] Go.wp_at_zero Go.wp_at_succ

/-- Block b is a channel with room for cap; vs waits in it. -/
def ChV (w : World) (b cap : Nat) (vs : List Value) (cl : Bool) : Prop := ∃ s r tm, w.heap[b]? = some (.chan cap vs.toArray cl s r tm)
/-- How much waits in it. -/
def chN (w : World) (b : Nat) : Nat := match w.heap[b]? with | some (.chan _ buf _ _ _ _) => buf.size | _ => 0
/-- Values of tasks; their needs are the call's own. -/
def TkV (w : World) (vs : List Value) (ts : List Tk) : Prop := vs.length = ts.length ∧ ∀ j, j < ts.length → ∃ A m c, vs[j]? = some (.agg #[.int .i64 (gTk ts j).1, .slice A m c]) ∧ w.ownsRow 0 3 1 (.slice A m c) m ((gTk ts j).2.map (Value.int .i64))
section
variable {w w' : World} {b cap B : Nat} {vs : List Value} {cl : Bool} {ts : List Tk} {P : Program}
theorem ChV.lt (h : ChV w b cap vs cl) : b < w.heap.size := by obtain ⟨s, r, tm, hb⟩ := h; exact (Array.getElem?_eq_some_iff.1 hb).1
theorem ChV.of_block (h : ChV w b cap vs cl) (hb : w'.heap[b]? = w.heap[b]?) : ChV w' b cap vs cl := by obtain ⟨s, r, tm, h1⟩ := h; exact ⟨s, r, tm, hb.trans h1⟩
theorem ChV.up (h : ChV w b cap vs cl) (hb : Below w.heap.size w w') : ChV w' b cap vs cl := h.of_block (hb.block b h.lt)
theorem ChV.num (h : ChV w b cap vs cl) : chN w b = vs.length := by obtain ⟨s, r, tm, h1⟩ := h; unfold chN; rw [h1]; simp
theorem ChV.ne {g : Nat} {t : TypeId} {cs : Array Value} (h : ChV w b cap vs cl) (hb : Blk w g t cs) : g ≠ b := fun e => by
  obtain ⟨s, r, tm, h1⟩ := h
  unfold Blk at hb
  rw [e, h1] at hb
  cases hb
theorem TkV.keep (h : TkV w vs ts) (hk : KeepTI w w') : TkV w' vs ts := ⟨h.1, fun j hj => by
  obtain ⟨A, m, c, h1, h2⟩ := h.2 j hj
  exact ⟨A, m, c, h1, own_keepTI h2 (.inl rfl) hk⟩⟩
theorem TkV.snoc (h : TkV w vs ts) {id : Int} {xs : List Int} {A : Option Addr} {m c : Nat} (hx : w.ownsRow 0 3 1 (.slice A m c) m (xs.map (Value.int .i64))) : TkV w (vs ++ [.agg #[.int .i64 id, .slice A m c]]) (ts ++ [(id, xs)]) := by
  refine ⟨by simp [h.1], fun j hj => ?_⟩
  by_cases e : j < ts.length
  · obtain ⟨A', m', c', h1, h3⟩ := h.2 j e
    refine ⟨A', m', c', ?_, ?_⟩
    · rw [List.getElem?_append_left (by rw [h.1]; exact e)]; unfold gTk; rw [List.getElem?_append_left e]; exact h1
    · unfold gTk; rw [List.getElem?_append_left e]; exact h3
  · have hj' : j = ts.length := by simp at hj; omega
    subst hj'
    refine ⟨A, m, c, ?_, ?_⟩
    · rw [List.getElem?_append_right (by rw [h.1]; exact Nat.le_refl _), h.1]; unfold gTk; rw [List.getElem?_append_right (Nat.le_refl _)]; simp
    · unfold gTk; rw [List.getElem?_append_right (Nat.le_refl _)]; simpa using hx
theorem TkV.cons {t : Tk} (h : TkV w vs (t :: ts)) : ∃ A m c vs', vs = .agg #[.int .i64 t.1, .slice A m c] :: vs' ∧ w.ownsRow 0 3 1 (.slice A m c) m (t.2.map (Value.int .i64)) ∧ TkV w vs' ts := by
  obtain ⟨A, m, c, h1, h3⟩ := h.2 0 (by simp)
  cases vs with
  | nil => simp at h1
  | cons v vs' =>
    refine ⟨A, m, c, vs', ?_, h3, by have := h.1; simpa using this, fun j hj => ?_⟩
    · simp at h1; rw [h1]; rfl
    · obtain ⟨A', m', c', g1, g3⟩ := h.2 (j + 1) (by simp; omega)
      refine ⟨A', m', c', ?_, ?_⟩
      · simpa [gTk] using g1
      · simpa [gTk] using g3
theorem ChV.ti (h : ChV w b cap vs cl) (hb : ∀ g, g < w.heap.size → g ≠ b → w'.heap[g]? = w.heap[g]?) : KeepTI w w' := fun g hg => by
  obtain ⟨t, cs, _, hc⟩ := hg
  exact hb g hc.lt (h.ne hc)
theorem ChV.tu (h : ChV w b cap vs cl) (hb : ∀ g, g < w.heap.size → g ≠ b → w'.heap[g]? = w.heap[g]?) : KeepTU w w' := fun g hg => by
  obtain ⟨t, cs, _, hc⟩ := hg
  exact hb g hc.lt (h.ne hc)
/-- Another block's cells stand when a channel turns. -/
theorem cell_chan (h : ChV w b cap vs cl) (hb : ∀ g, g < w.heap.size → g ≠ b → w'.heap[g]? = w.heap[g]?) {vs' : List Value} {cl' : Bool} (h' : ChV w' b cap vs' cl') : ∀ p : Addr, p.block < w.heap.size → w'.cell? p = w.cell? p := fun p hp => by
  by_cases e : p.block = b
  · obtain ⟨s, r, tm, h1⟩ := h
    obtain ⟨s', r', tm', h2⟩ := h'
    unfold World.cell?
    rw [e, h1, h2]
  · exact World.cell?_of_block (hb _ hp e)
theorem set_block (h : ChV w b cap vs cl) (buf : Array Value) (cl' : Bool) (s r : Nat) (tm : Bool) : ∀ g, g < w.heap.size → g ≠ b → (w.setChan b cap buf cl' s r tm).heap[g]? = w.heap[g]? := fun g _ hg => by
  simp only [World.setChan]
  rw [Array.getElem?_setIfInBounds_ne (fun e => hg e.symm)]
theorem set_chan (h : ChV w b cap vs cl) (us : List Value) (cl' : Bool) (s r : Nat) (tm : Bool) : ChV (w.setChan b cap us.toArray cl' s r tm) b cap us cl' := ⟨s, r, tm, heap_setChan w b cap us.toArray cl' s r tm h.lt⟩
end

theorem wpN_seq_k {P : Program} {x y : Code} {Q : Exit → Act → World → Prop} {a : Act} {w : World} (h : ∀ K : Act → World → Prop, (∀ a w, WpN P y Q a w → K a w) → Code.wp P x (Exit.then K Q) a w) : WpN P (.seq x y) Q a w :=
  wpN_seq (wpN_of (h _ fun _ _ h => h))
theorem wpN_ctl_k {P : Program} {x y : Code} {Q : Exit → Act → World → Prop} {a : Act} {w : World} (h : ∀ K : Act → World → Prop, (∀ a w, WpN P y Q a w → K a w) → WpN P x (Exit.then K Q) a w) : WpN P (.seq x y) Q a w :=
  wpN_seq (h _ fun _ _ h => h)
end Go.Proofs.YtjjnbbkdjimcoaaGreat
