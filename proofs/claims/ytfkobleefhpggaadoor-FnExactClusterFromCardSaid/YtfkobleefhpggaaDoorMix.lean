/- A law for a region whose order is open: operations that read what is held (or are passed over by their guard) go in an order of one's own, the others come up alone or two at a time. No program in sight. -/
import Derived.Test.YtfkobleefhpggaaDoorBase
import Derived.Deep.DrawnRows
namespace Go.Proofs.YtfkobleefhpggaaDoor
open Go Go.RowKit

/-- An order of a region's operations. -/
inductive Mix where
  | nil
  | take (i : Nat) (r : Mix)
  | bar (i : Nat) (r : Mix)
  | fork (i : Nat) (r : Mix) (j : Nat) (s : Mix)

/-- Each operation under 'bar' comes up alone, those of a fork come up as two; each under 'take' can be taken first where it stands. -/
def lexMix (ops : Array Oper) : Mix → Nat → Array Bool → Bool
  | .nil, _, listed => (Region.ready .any ops listed).isEmpty
  | .take i r, f, listed => decide (0 < f) && ((Region.ready .any ops listed).contains i && Region.free .any ops listed i) && lexMix ops r (f - 1) (listed.setIfInBounds i true)
  | .bar i r, f, listed => decide (0 < f) && decide (Region.ready .any ops listed = [i]) && lexMix ops r (f - 1) (listed.setIfInBounds i true)
  | .fork i r j s, f, listed => decide (0 < f) && decide (Region.ready .any ops listed = [i, j]) && (lexMix ops r (f - 1) (listed.setIfInBounds i true) && lexMix ops s (f - 1) (listed.setIfInBounds j true))
def mixOk (ops : Array Oper) (ord : Mix) : Bool := Region.noSelect ops && lexMix ops ord ops.size (Array.replicate ops.size false)

section
variable {P : Program} {ops : Array Oper} {Q : Exit → Act → World → Prop} {S : World → Prop}

/-- The walk in an order of one's own. -/
def wpMix (P : Program) (ops : Array Oper) (Q : Exit → Act → World → Prop) (S : World → Prop) : Mix → Act → World → Prop
  | .nil, a, w => Q .normal a w
  | .take i r, a, w => ∃ o v, ops[i]? = some o ∧ YieldsIf P ops S o v a ∧ wpMix P ops Q S r (a.put o.dst v) w
  | .bar i r, a, w => wpOp P ops Q i (fun a' w' => S w' ∧ wpMix P ops Q S r a' w') a w
  | .fork i r j s, a, w => wpOp P ops Q i (fun a' w' => S w' ∧ wpMix P ops Q S r a' w') a w ∧ wpOp P ops Q j (fun a' w' => S w' ∧ wpMix P ops Q S s a' w') a w

theorem wpAnyH_mix (hsel : Region.noSelect ops = true) (hQ : ∀ c a a' w, Q (.panic c) a w → Q (.panic c) a' w) : ∀ (ord : Mix) (f : Nat) (listed : Array Bool) (a : Act) (w : World),
    lexMix ops ord f listed = true → S w → wpMix P ops Q S ord a w → wpAnyH P .any ops Q S f listed a w
  | .nil, f, _, _, _, hB, _, h => wpAnyH_done (by simpa [lexMix] using hB) h f
  | .take i r, f, listed, a, w, hB, hS, h => by
    simp only [lexMix, Bool.and_eq_true, decide_eq_true_eq] at hB
    obtain ⟨f, rfl⟩ : ∃ g, f = g + 1 := ⟨f - 1, by omega⟩
    obtain ⟨o, v, h0, hy, hK⟩ := h
    exact wpAnyH_take h0 hsel hB.1.2.2 hB.1.2.1 (fun c a' w' hq => hQ c _ _ w' hq) hy hS (wpAnyH_mix hsel hQ r _ _ _ w hB.2 hS hK)
  | .bar i r, f, listed, a, w, hB, hS, h => by
    simp only [lexMix, Bool.and_eq_true, decide_eq_true_eq] at hB
    obtain ⟨f, rfl⟩ : ∃ g, f = g + 1 := ⟨f - 1, by omega⟩
    refine wpAnyH_all (rs := [i]) hB.1.2 (by simp) (fun j hj => ?_)
    have : j = i := by simpa using hj
    subst this
    exact wpOp_mono (fun a' w' hh => ⟨hh.1, wpAnyH_mix hsel hQ r _ _ a' w' hB.2 hh.1 hh.2⟩) h
  | .fork i r j s, f, listed, a, w, hB, hS, h => by
    simp only [lexMix, Bool.and_eq_true, decide_eq_true_eq] at hB
    obtain ⟨f, rfl⟩ : ∃ g, f = g + 1 := ⟨f - 1, by omega⟩
    refine wpAnyH_all (rs := [i, j]) hB.1.2 (by simp) (fun k hk => ?_)
    rcases List.mem_cons.1 hk with rfl | hk
    · exact wpOp_mono (fun a' w' hh => ⟨hh.1, wpAnyH_mix hsel hQ r _ _ a' w' hB.2.1 hh.1 hh.2⟩) h.1
    · have : k = j := by simpa using hk
      subst this
      exact wpOp_mono (fun a' w' hh => ⟨hh.1, wpAnyH_mix hsel hQ s _ _ a' w' hB.2.2 hh.1 hh.2⟩) h.2

theorem wp_region_mix {id : Nat} {Q' : Exit → Act → World → Prop} {a : Act} {w : World} {l : List Oper} (ord : Mix) (S : World → Prop) (hm : P.follows .mixedOrders = true) (hB : mixOk l.toArray ord = true) (hS : S w.drew)
    (h : S w.drew → wpMix P l.toArray (NoPanic Q') S ord a w.drew) : (Code.region id l.toArray true).wp P Q' a w := by
  simp only [mixOk, Bool.and_eq_true] at hB
  exact wp_region_noPanic (wp_region_held_drew hm hS (fun hS => wpAnyH_mix (Q := NoPanic Q') (S := S) hB.1 (fun c a a' w hq => (hq : False).elim) ord _ (Array.replicate l.toArray.size false) a w.drew hB.2 hS (h hS)))

theorem mix_at {i : Nat} {o : Oper} {tl : List Oper} (h : ops.toList.drop i = o :: tl) : ops[i]? = some o := by
  rw [← Array.getElem?_toList, ← Nat.add_zero i, ← List.getElem?_drop, h]; rfl

theorem wpMix_take {i : Nat} {o : Oper} {tl : List Oper} {r : Mix} {a : Act} {w : World} {v : Value} (ho : ops.toList.drop i = o :: tl) (hw : Region.wanted o (yielded ops a.tmps) = true) (hy : ∀ w', S w' → (execOp a.eval o).run P w' = .ok (.value v) w')
    (h : wpMix P ops Q S r (a.put o.dst v) w) : wpMix P ops Q S (.take i r) a w := ⟨o, v, mix_at ho, .inl ⟨hw, hy⟩, h⟩
theorem wpMix_skip {i : Nat} {o : Oper} {tl : List Oper} {r : Mix} {a : Act} {w : World} (ho : ops.toList.drop i = o :: tl) (hw : Region.wanted o (yielded ops a.tmps) = false)
    (h : wpMix P ops Q S r (a.put o.dst undef) w) : wpMix P ops Q S (.take i r) a w := ⟨o, undef, mix_at ho, .inr ⟨hw, rfl⟩, h⟩
theorem wpMix_bar {i : Nat} {o : Oper} {tl : List Oper} {r : Mix} {a : Act} {w : World} (ho : ops.toList.drop i = o :: tl)
    (h : ∀ K : Act → World → Prop, Shut (∀ a w, S w → (S w → wpMix P ops Q S r a w) → K a w) → if Region.wanted o (yielded ops a.tmps) = true then Oper.wp P o a w K Q else K (a.put o.dst undef) w) : wpMix P ops Q S (.bar i r) a w :=
  wpOp_step (mix_at ho) (fun K' hK => h K' (fun a w hS hW => hK a w ⟨hS, hW hS⟩))
theorem wpMix_fork {i j : Nat} {o o' : Oper} {tl tl' : List Oper} {r s : Mix} {a : Act} {w : World} (ho : ops.toList.drop i = o :: tl) (ho' : ops.toList.drop j = o' :: tl')
    (h : ∀ K : Act → World → Prop, Shut (∀ a w, S w → (S w → wpMix P ops Q S r a w) → K a w) → if Region.wanted o (yielded ops a.tmps) = true then Oper.wp P o a w K Q else K (a.put o.dst undef) w)
    (h' : ∀ K : Act → World → Prop, Shut (∀ a w, S w → (S w → wpMix P ops Q S s a w) → K a w) → if Region.wanted o' (yielded ops a.tmps) = true then Oper.wp P o' a w K Q else K (a.put o'.dst undef) w) : wpMix P ops Q S (.fork i r j s) a w :=
  ⟨wpOp_step (mix_at ho) (fun K' hK => h K' (fun a w hS hW => hK a w ⟨hS, hW hS⟩)), wpOp_step (mix_at ho') (fun K' hK => h' K' (fun a w hS hW => hK a w ⟨hS, hW hS⟩))⟩
theorem wpMix_nil {Q' : Exit → Act → World → Prop} {a : Act} {w : World} (h : Q' .normal a w) : wpMix P ops (NoPanic Q') S .nil a w := h
end
end Go.Proofs.YtfkobleefhpggaaDoor
