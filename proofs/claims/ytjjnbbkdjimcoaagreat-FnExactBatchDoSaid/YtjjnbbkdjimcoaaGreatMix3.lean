/- The law of XMix with a fork of three operations ahead. No program in sight. -/
import Derived.Test.YtjjnbbkdjimcoaaGreatJ3
namespace Go.Proofs.YtjjnbbkdjimcoaaGreat
open Go Go.RowKit

/-- An order that begins with operations that read, and then forks in three. -/
inductive Mix3 where
  | take (i : Nat) (r : Mix3)
  | fork (i : Nat) (r : Mix) (j : Nat) (s : Mix) (k : Nat) (t : Mix)

def lexMix3 (ops : Array Oper) : Mix3 → Nat → Array Bool → Bool
  | .take i r, f, listed => decide (0 < f) && ((Region.ready .any ops listed).contains i && Region.free .any ops listed i) && lexMix3 ops r (f - 1) (listed.setIfInBounds i true)
  | .fork i r j s k t, f, listed => decide (0 < f) && decide (Region.ready .any ops listed = [i, j, k]) && (lexMix ops r (f - 1) (listed.setIfInBounds i true) && (lexMix ops s (f - 1) (listed.setIfInBounds j true) && lexMix ops t (f - 1) (listed.setIfInBounds k true)))
def mixOk3 (ops : Array Oper) (ord : Mix3) : Bool := Region.noSelect ops && lexMix3 ops ord ops.size (Array.replicate ops.size false)

section
variable {P : Program} {ops : Array Oper} {Q : Exit → Act → World → Prop} {S : World → Prop}

def wpMix3 (P : Program) (ops : Array Oper) (Q : Exit → Act → World → Prop) (S : World → Prop) : Mix3 → Act → World → Prop
  | .take i r, a, w => ∃ o v, ops[i]? = some o ∧ YieldsIf P ops S o v a ∧ wpMix3 P ops Q S r (a.put o.dst v) w
  | .fork i r j s k t, a, w => wpOp P ops Q i (fun a' w' => S w' ∧ wpMix P ops Q S r a' w') a w ∧ wpOp P ops Q j (fun a' w' => S w' ∧ wpMix P ops Q S s a' w') a w ∧ wpOp P ops Q k (fun a' w' => S w' ∧ wpMix P ops Q S t a' w') a w

theorem wpAnyH_mix3 (hsel : Region.noSelect ops = true) (hQ : ∀ c a a' w, Q (.panic c) a w → Q (.panic c) a' w) : ∀ (ord : Mix3) (f : Nat) (listed : Array Bool) (a : Act) (w : World),
    lexMix3 ops ord f listed = true → S w → wpMix3 P ops Q S ord a w → wpAnyH P .any ops Q S f listed a w
  | .take i r, f, listed, a, w, hB, hS, h => by
    simp only [lexMix3, Bool.and_eq_true, decide_eq_true_eq] at hB
    obtain ⟨f, rfl⟩ : ∃ g, f = g + 1 := ⟨f - 1, by omega⟩
    obtain ⟨o, v, h0, hy, hK⟩ := h
    exact wpAnyH_take h0 hsel hB.1.2.2 hB.1.2.1 (fun c a' w' hq => hQ c _ _ w' hq) hy hS (wpAnyH_mix3 hsel hQ r _ _ _ w hB.2 hS hK)
  | .fork i r j s k t, f, listed, a, w, hB, hS, h => by
    simp only [lexMix3, Bool.and_eq_true, decide_eq_true_eq] at hB
    obtain ⟨f, rfl⟩ : ∃ g, f = g + 1 := ⟨f - 1, by omega⟩
    refine wpAnyH_all (rs := [i, j, k]) hB.1.2 (by simp) (fun x hx => ?_)
    rcases List.mem_cons.1 hx with rfl | hx
    · exact wpOp_mono (fun a' w' hh => ⟨hh.1, wpAnyH_mix hsel hQ r _ _ a' w' hB.2.1 hh.1 hh.2⟩) h.1
    · rcases List.mem_cons.1 hx with rfl | hx
      · exact wpOp_mono (fun a' w' hh => ⟨hh.1, wpAnyH_mix hsel hQ s _ _ a' w' hB.2.2.1 hh.1 hh.2⟩) h.2.1
      · have : x = k := by simpa using hx
        subst this
        exact wpOp_mono (fun a' w' hh => ⟨hh.1, wpAnyH_mix hsel hQ t _ _ a' w' hB.2.2.2 hh.1 hh.2⟩) h.2.2

theorem wp_region_mix3 {id : Nat} {Q' : Exit → Act → World → Prop} {a : Act} {w : World} {l : List Oper} (ord : Mix3) (S : World → Prop) (hm : P.follows .mixedOrders = true) (hB : mixOk3 l.toArray ord = true) (hS : S w.drew)
    (h : S w.drew → wpMix3 P l.toArray (NoPanic Q') S ord a w.drew) : (Code.region id l.toArray true).wp P Q' a w := by
  simp only [mixOk3, Bool.and_eq_true] at hB
  exact wp_region_noPanic (wp_region_held_drew hm hS (fun hS => wpAnyH_mix3 (Q := NoPanic Q') (S := S) hB.1 (fun c a a' w hq => (hq : False).elim) ord _ (Array.replicate l.toArray.size false) a w.drew hB.2 hS (h hS)))
theorem wpMix3_take {i : Nat} {o : Oper} {tl : List Oper} {r : Mix3} {a : Act} {w : World} {v : Value} (ho : ops.toList.drop i = o :: tl) (hw : Region.wanted o (yielded ops a.tmps) = true) (hy : ∀ w', S w' → (execOp a.eval o).run P w' = .ok (.value v) w')
    (h : wpMix3 P ops Q S r (a.put o.dst v) w) : wpMix3 P ops Q S (.take i r) a w := ⟨o, v, mix_at ho, .inl ⟨hw, hy⟩, h⟩
theorem wpMix3_fork {i j k : Nat} {o o' o'' : Oper} {tl tl' tl'' : List Oper} {r s t : Mix} {a : Act} {w : World} (ho : ops.toList.drop i = o :: tl) (ho' : ops.toList.drop j = o' :: tl') (ho'' : ops.toList.drop k = o'' :: tl'')
    (h : ∀ K : Act → World → Prop, Shut (∀ a w, S w → (S w → wpMix P ops Q S r a w) → K a w) → if Region.wanted o (yielded ops a.tmps) = true then Oper.wp P o a w K Q else K (a.put o.dst undef) w)
    (h' : ∀ K : Act → World → Prop, Shut (∀ a w, S w → (S w → wpMix P ops Q S s a w) → K a w) → if Region.wanted o' (yielded ops a.tmps) = true then Oper.wp P o' a w K Q else K (a.put o'.dst undef) w)
    (h'' : ∀ K : Act → World → Prop, Shut (∀ a w, S w → (S w → wpMix P ops Q S t a w) → K a w) → if Region.wanted o'' (yielded ops a.tmps) = true then Oper.wp P o'' a w K Q else K (a.put o''.dst undef) w) : wpMix3 P ops Q S (.fork i r j s k t) a w :=
  ⟨wpOp_step (mix_at ho) (fun K' hK => h K' (fun a w hS hW => hK a w ⟨hS, hW hS⟩)), wpOp_step (mix_at ho') (fun K' hK => h' K' (fun a w hS hW => hK a w ⟨hS, hW hS⟩)), wpOp_step (mix_at ho'') (fun K' hK => h'' K' (fun a w hS hW => hK a w ⟨hS, hW hS⟩))⟩
end
end Go.Proofs.YtjjnbbkdjimcoaaGreat
