/- Several texts in one. -/
import Derived.Test.YtdgeicdiiakhjaaGreatW12
import Derived.Test.YtdgeicdiiakhjaaGreatW14
namespace Go.Proofs.YtdgeicdiiakhjaaGreat
set_option linter.unusedSimpArgs false
set_option linter.unusedVariables false
open Go Go.RowKit

/-- The cells of nodes; each row of tasks is the call's own; the rows lie in blocks that differ. -/
def NdBR (w : World) (base n : Nat) (vs : List Value) (bs : List (List Tk)) : Prop :=
  bs.length = n ∧ vs.length = n ∧ (∀ j, j < n → ∃ A m c vt, vs[j]? = some (.slice A m c) ∧ w.ownsRow base 43 2 (.slice A m c) m vt ∧ NdR w base m vt (bs[j]?.getD [])) ∧
  (∀ (i j : Nat) (u v : Value), vs[i]? = some u → vs[j]? = some v → i ≠ j → ∀ b, u.ownBlock = some b → v.ownBlock ≠ some b)
/-- A row of nodes of the call's own. -/
def OwnBR (w : World) (base : Nat) (v : Value) (n : Nat) (bs : List (List Tk)) : Prop := ∃ vs, w.ownsRow base 24 1 v n vs ∧ NdBR w base n vs bs

section
variable {w w' : World} {base base' n : Nat} {v : Value} {vs : List Value} {bs : List (List Tk)} {ts : List Tk}
theorem NdBR.keepTI (h : NdBR w base n vs bs) (hk : KeepTI w w') : NdBR w' base n vs bs := ⟨h.1, h.2.1, fun j hj => by
  obtain ⟨A, m, c, vt, h1, h2, h3⟩ := h.2.2.1 j hj
  exact ⟨A, m, c, vt, h1, own_keepTI h2 (.inr rfl) hk, h3.keepTI hk⟩, h.2.2.2⟩
theorem NdBR.low (h : NdBR w base n vs bs) (hb : base' ≤ base) : NdBR w base' n vs bs := ⟨h.1, h.2.1, fun j hj => by
  obtain ⟨A, m, c, vt, h1, h2, h3⟩ := h.2.2.1 j hj
  exact ⟨A, m, c, vt, h1, own_lo h2 hb, h3.low hb⟩, h.2.2.2⟩
theorem NdBR.nil : NdBR w base 0 [] [] := ⟨rfl, rfl, fun j hj => by omega, fun i j u v h => by simp at h⟩
theorem NdBR.old (h : NdBR w base n vs bs) : ∀ (j : Nat) (u : Value), vs[j]? = some u → ∀ b, u.ownBlock = some b → b < w.heap.size := fun j u hu b hb => by
  have hj : j < n := by have := (List.getElem?_eq_some_iff.1 hu).1; have := h.2.1; omega
  obtain ⟨A, m, c, vt, h1, h2, _⟩ := h.2.2.1 j hj
  rw [hu] at h1
  injection h1 with h1
  rw [h1] at hb
  exact (h2.lt b hb).2
/-- One node more, in a new block. -/
theorem NdBR.snoc {A : Option Addr} {m c : Nat} {vt : List Value} (h : NdBR w base n vs bs) (ho : w.ownsRow base 43 2 (.slice A m c) m vt) (hn : NdR w base m vt ts) (hd : ∀ (j : Nat) (u : Value), vs[j]? = some u → ∀ b, u.ownBlock = some b → (Value.slice A m c).ownBlock ≠ some b) :
    NdBR w base (n + 1) (vs ++ [.slice A m c]) (bs ++ [ts]) := by
  have h1 := h.1
  have h2 := h.2.1
  refine ⟨by simp [h1], by simp [h2], fun j hj => ?_, fun i j u v hu hv hij b hb hb' => ?_⟩
  · by_cases e : j = n
    · subst e
      refine ⟨A, m, c, vt, ?_, ho, ?_⟩
      · rw [List.getElem?_append_right (by omega), h2, Nat.sub_self]; rfl
      · rw [List.getElem?_append_right (by omega), h1, Nat.sub_self]; exact hn
    · obtain ⟨A', m', c', vt', e1, e2, e3⟩ := h.2.2.1 j (by omega)
      exact ⟨A', m', c', vt', by rw [List.getElem?_append_left (by omega)]; exact e1, e2, by rw [List.getElem?_append_left (by omega)]; exact e3⟩
  · have key : ∀ (a : Nat) (x : Value), (vs ++ [Value.slice A m c])[a]? = some x → (a < n ∧ vs[a]? = some x) ∨ (a = n ∧ x = .slice A m c) := fun a x hx => by
      rcases Nat.lt_or_ge a n with hlt | hge
      · rw [List.getElem?_append_left (by omega)] at hx; exact .inl ⟨hlt, hx⟩
      · rw [List.getElem?_append_right (by omega)] at hx
        have : a - vs.length = 0 := by
          have := (List.getElem?_eq_some_iff.1 hx).1
          simp at this; omega
        rw [this] at hx
        exact .inr ⟨by omega, by simpa using hx.symm⟩
    rcases key i u hu with ⟨hi, hu⟩ | ⟨hi, rfl⟩
    · rcases key j v hv with ⟨hj, hv⟩ | ⟨hj, rfl⟩
      · exact h.2.2.2 i j u v hu hv hij b hb hb'
      · exact hd i u hu b hb hb'
    · rcases key j v hv with ⟨hj, hv⟩ | ⟨hj, rfl⟩
      · exact hd j v hv b hb' hb
      · omega
/-- One node gets another row, in a block that no other node's row has. -/
theorem NdBR.put {j m c : Nat} {A : Option Addr} {vt : List Value} (h : NdBR w base n vs bs) (hj : j < n) (ho : w.ownsRow base 43 2 (.slice A m c) m vt) (hn : NdR w base m vt ts) (hd : ∀ (i : Nat) (u : Value), vs[i]? = some u → i ≠ j → ∀ b, u.ownBlock = some b → (Value.slice A m c).ownBlock ≠ some b) :
    NdBR w base n (vs.set j (.slice A m c)) (bs.set j ts) := by
  have hl := h.2.1
  refine ⟨by rw [List.length_set]; exact h.1, by rw [List.length_set]; exact hl, fun i hi => ?_, fun i i' u v hu hv hii b hb hb' => ?_⟩
  · by_cases e : i = j
    · subst e
      exact ⟨A, m, c, vt, List.getElem?_set_self (by omega), ho, by rw [List.getElem?_set_self (by have := h.1; omega)]; exact hn⟩
    · obtain ⟨A', m', c', vt', e1, e2, e3⟩ := h.2.2.1 i hi
      exact ⟨A', m', c', vt', by rw [List.getElem?_set_ne (fun x => e x.symm)]; exact e1, e2, by rw [List.getElem?_set_ne (fun x => e x.symm)]; exact e3⟩
  · have key : ∀ (a : Nat) (x : Value), (vs.set j (Value.slice A m c))[a]? = some x → (a ≠ j ∧ vs[a]? = some x) ∨ (a = j ∧ x = .slice A m c) := fun a x hx => by
      by_cases e : a = j
      · subst e
        rw [List.getElem?_set_self (by omega)] at hx
        exact .inr ⟨rfl, by simpa using hx.symm⟩
      · rw [List.getElem?_set_ne (fun x => e x.symm)] at hx; exact .inl ⟨e, hx⟩
    rcases key i u hu with ⟨hi, hu⟩ | ⟨hi, rfl⟩
    · rcases key i' v hv with ⟨hi', hv⟩ | ⟨hi', rfl⟩
      · exact h.2.2.2 i i' u v hu hv hii b hb hb'
      · exact hd i u hu hi b hb hb'
    · rcases key i' v hv with ⟨hi', hv⟩ | ⟨hi', rfl⟩
      · exact hd i' v hv hi' b hb' hb
      · omega
/-- The other nodes, when one node's row has grown. -/
theorem NdBR.grow {j m m' c c' : Nat} {A A' : Option Addr} {vt : List Value} (h : NdBR w base n vs bs) (hj : j < n) (hold : vs[j]? = some (.slice A' m' c')) {vo : List Value} (hoo : w.ownsRow base' 43 2 (.slice A' m' c') m' vo) (hg : w.grownBy w' (Value.slice A' m' c').ownBlock)
    (ho : w'.ownsRow base 43 2 (.slice A m c) m vt) (hn : NdR w' base m vt ts) (hd : (Value.slice A m c).ownBlock = (Value.slice A' m' c').ownBlock ∨ (Value.slice A m c).ownBlock = some w.heap.size) :
    NdBR w' base n (vs.set j (.slice A m c)) (bs.set j ts) := by
  have hl := h.2.1
  refine ⟨by rw [List.length_set]; exact h.1, by rw [List.length_set]; exact hl, fun i hi => ?_, fun i i' u v hu hv hii b hb hb' => ?_⟩
  · by_cases e : i = j
    · subst e
      exact ⟨A, m, c, vt, List.getElem?_set_self (by omega), ho, by rw [List.getElem?_set_self (by have := h.1; omega)]; exact hn⟩
    · obtain ⟨A1, m1, c1, vt1, e1, e2, e3⟩ := h.2.2.1 i hi
      exact ⟨A1, m1, c1, vt1, by rw [List.getElem?_set_ne (fun x => e x.symm)]; exact e1, own_keep e2 (fun b hb => hg.block b (e2.lt b hb).2 (fun e' => h.2.2.2 i j _ _ e1 hold e b hb e'.symm)), by rw [List.getElem?_set_ne (fun x => e x.symm)]; exact e3.grown hoo (by decide) hg⟩
  · have key : ∀ (a : Nat) (x : Value), (vs.set j (Value.slice A m c))[a]? = some x → (a ≠ j ∧ vs[a]? = some x) ∨ (a = j ∧ x = .slice A m c) := fun a x hx => by
      by_cases e : a = j
      · subst e
        rw [List.getElem?_set_self (by omega)] at hx
        exact .inr ⟨rfl, by simpa using hx.symm⟩
      · rw [List.getElem?_set_ne (fun x => e x.symm)] at hx; exact .inl ⟨e, hx⟩
    have far : ∀ (a : Nat) (x : Value), a ≠ j → vs[a]? = some x → ∀ b, x.ownBlock = some b → (Value.slice A m c).ownBlock ≠ some b := fun a x ha hx b hb hb2 => by
      rcases hd with hd | hd
      · rw [hd] at hb2
        exact h.2.2.2 a j _ _ hx hold ha b hb hb2
      · rw [hd] at hb2
        injection hb2 with hb2
        have := h.old a x hx b hb
        omega
    rcases key i u hu with ⟨hi, hu⟩ | ⟨hi, rfl⟩
    · rcases key i' v hv with ⟨hi', hv⟩ | ⟨hi', rfl⟩
      · exact h.2.2.2 i i' u v hu hv hii b hb hb'
      · exact far i u hi hu b hb hb'
    · rcases key i' v hv with ⟨hi', hv⟩ | ⟨hi', rfl⟩
      · exact far i' v hi' hv b hb' hb
      · omega
/-- The cells read. -/
theorem NdBR.cells (h : NdBR w base n vs bs) : BnCells w w.heap.size vs bs := ⟨by rw [h.2.1, h.1], fun j hj => by
  obtain ⟨A, m, c, vt, e1, e2, e3⟩ := h.2.2.1 j (by rw [← h.1]; exact hj)
  exact ⟨A, m, c, e1, own_cap' e2, e3.rd e2⟩⟩
theorem OwnBR.rd {A : Option Addr} {c : Nat} (h : OwnBR w base (.slice A n c) n bs) : RdB w w.heap.size A n bs := by
  obtain ⟨vs, h1, h2⟩ := h
  exact RdB.of_own h1 h2.cells (Nat.le_refl _) (own_le h1)
theorem NdBR.one (h : NdBR w base n vs bs) : ∀ u ∈ vs, u.oneCell' = true := by
  intro u hu
  obtain ⟨i, hi, rfl⟩ := List.getElem_of_mem hu
  obtain ⟨A, m, c, vt, e1, _⟩ := h.2.2.1 i (by rw [← h.2.1]; exact hi)
  rw [List.getElem?_eq_getElem hi] at e1
  injection e1 with e1
  rw [e1]; rfl

/-- A step that leaves all blocks alone but those of tasks and of nodes. -/
def KeepX (w w' : World) : Prop := ∀ b t cs, t ≠ 43 → t ≠ 24 → Blk w b t cs → w'.heap[b]? = w.heap[b]?
theorem KeepX.refl (w : World) : KeepX w w := fun _ _ _ _ _ _ => rfl
theorem KeepX.trans {a b c : World} (h : KeepX a b) (k : KeepX b c) : KeepX a c := fun g t cs h1 h2 hb => (k g t cs h1 h2 ((h g t cs h1 h2 hb).trans hb)).trans (h g t cs h1 h2 hb)
theorem KeepX.up {a b : World} (h : Below a.heap.size a b) : KeepX a b := fun g t cs _ _ hb => h.block g hb.lt
theorem KeepX.step {a b c : World} (h : KeepX a b) (k : Below b.heap.size b c) : KeepX a c := h.trans (KeepX.up k)
theorem KeepX.drew {a b : World} (h : KeepX a b) : KeepX a b.drew := h
theorem KeepX.drewN {a b : World} (h : KeepX a b) (m : Nat) : KeepX a (b.drewN m) := h
theorem KeepX.set_ {a b : World} {g : Nat} {t : TypeId} {cs : Array Value} (h : KeepX a b) (hb : Blk b g t cs) (ht : t = 43 ∨ t = 24) (i : Nat) (u : Value) : KeepX a (b.setCell ⟨g, i, none⟩ u) := h.trans (fun b' t' cs' h1 h2 hb' => Below.heap_setCell _ _ _ _ (by
  show b' ≠ g
  rintro rfl
  unfold Blk at hb hb'
  rw [hb] at hb'
  injection hb' with e
  injection e with _ e
  subst e
  rcases ht with rfl | rfl
  · exact h1 rfl
  · exact h2 rfl))
theorem KeepX.grown {a b c : World} {base s m : Nat} {t : TypeId} {r : Value} {xs : List Value} (h : KeepX a b) (ho : b.ownsRow base t s r m xs) (hg : b.grownBy c r.ownBlock) (ht : t = 43 ∨ t = 24) : KeepX a c :=
  h.trans (fun b' t' cs' h1 h2 hb' => hg.block b' hb'.lt (fun e => own_blk_ne ho hb' (by rintro rfl; rcases ht with e | e <;> contradiction) e.symm))
theorem KeepX.blk {a b : World} {g : Nat} {t : TypeId} {cs : Array Value} (h : KeepX a b) (hb : Blk a g t cs) (h1 : t ≠ 43) (h2 : t ≠ 24) : Blk b g t cs := (h g t cs h1 h2 hb).trans hb
theorem KeepX.own {a b : World} {base s m : Nat} {t : TypeId} {r : Value} {xs : List Value} (h : KeepX a b) (ho : a.ownsRow base t s r m xs) (h1 : t ≠ 43) (h2 : t ≠ 24) : b.ownsRow base t s r m xs := own_keepB ho (fun g cs _ hc => h g t cs h1 h2 hc)
theorem NdR.keepX (h : NdR w base n vs ts) (hk : KeepX w w') : NdR w' base n vs ts := ⟨h.1, h.2.1, fun j hj => by
  obtain ⟨A, m, c, h1, h2, h3⟩ := h.2.2 j hj
  exact ⟨A, m, c, h1, h2, hk.own h3 (by decide) (by decide)⟩⟩
end
end Go.Proofs.YtdgeicdiiakhjaaGreat

namespace Go.Proofs.YtdgeicdiiakhjaaGreat
set_option linter.unusedSimpArgs false
set_option linter.unusedVariables false
open Go Go.RowKit
attribute [local go_sem ↓] Go.wp_at_zero Go.wp_at_succ

/-- The cells without those of element k. -/
def cutTwo (vt : List Value) (k : Nat) : List Value := vt.take (k * 2) ++ vt.drop (k * 2 + 2)
theorem NdR.cut {w : World} {base n k : Nat} {vt : List Value} {ts : List Tk} (h : NdR w base n vt ts) (hk : k < n) : NdR w base (n - 1) (cutTwo vt k) (ts.eraseIdx k) := by
  have h1 := h.1
  have h2 := h.2.1
  have hc : ∀ i, (cutTwo vt k)[i]? = if i < k * 2 then vt[i]? else vt[i + 2]? := fun i => by
    unfold cutTwo
    split
    · rename_i hi
      rw [List.getElem?_append_left (by rw [List.length_take]; omega), List.getElem?_take, if_pos hi]
    · rename_i hi
      rw [List.getElem?_append_right (by rw [List.length_take]; omega), List.length_take, List.getElem?_drop]
      congr 1
      omega
  refine ⟨by rw [List.length_eraseIdx, if_pos (by omega)]; omega, by unfold cutTwo; rw [List.length_append, List.length_take, List.length_drop]; omega, fun j hj => ?_⟩
  rw [hc, hc, List.getElem?_eraseIdx]
  by_cases hjk : j < k
  · obtain ⟨A, m, c, e1, e2, e3⟩ := h.2.2 j (by omega)
    rw [if_pos (show j * 2 < k * 2 by omega), if_pos hjk, if_pos (show j * 2 + 1 < k * 2 by omega)]
    exact ⟨A, m, c, e1, e2, e3⟩
  · obtain ⟨A, m, c, e1, e2, e3⟩ := h.2.2 (j + 1) (by omega)
    rw [if_neg (show ¬ j * 2 < k * 2 by omega), if_neg hjk, if_neg (show ¬ j * 2 + 1 < k * 2 by omega)]
    exact ⟨A, m, c, by rw [show j * 2 + 2 = (j + 1) * 2 by omega]; exact e1, by rw [show j * 2 + 1 + 2 = (j + 1) * 2 + 1 by omega]; exact e2, e3⟩

theorem NdR.ones {w : World} {base n : Nat} {vs : List Value} {ts : List Tk} (h : NdR w base n vs ts) : ∀ u ∈ vs, u.oneCell' = true := by
  intro u hu
  obtain ⟨i, hi, rfl⟩ := List.getElem_of_mem hu
  have hl := h.2.1
  obtain ⟨A, m, c, h1, h2, _⟩ := h.2.2 (i / 2) (by omega)
  rcases Nat.mod_two_eq_zero_or_one i with e | e
  · rw [show i / 2 * 2 = i from by omega, List.getElem?_eq_getElem hi] at h1
    injection h1 with h1; rw [h1]; rfl
  · rw [show i / 2 * 2 + 1 = i from by omega, List.getElem?_eq_getElem hi] at h2
    injection h2 with h2; rw [h2]; rfl

end Go.Proofs.YtdgeicdiiakhjaaGreat

namespace Go.Proofs.YtdgeicdiiakhjaaGreat
set_option linter.unusedSimpArgs false
set_option linter.unusedVariables false
open Go Go.RowKit
attribute [local go_sem ↓] Go.wp_at_zero Go.wp_at_succ

/-- A cell of a row of the call's own is set. -/
theorem own_set1 {w : World} {base g n c i : Nat} {t : TypeId} {vs : List Value} (h : w.ownsRow base t 1 (.slice (some ⟨g, 0, none⟩) n c) n vs) (hi : i < n) (u : Value) :
    (w.setCell ⟨g, i, none⟩ u).ownsRow base t 1 (.slice (some ⟨g, 0, none⟩) n c) n (vs.set i u) := by
  have hl := h.1
  refine ⟨by rw [List.length_set]; exact hl, ?_⟩
  rcases h.2 with ⟨e, _⟩ | ⟨g', cap, cur, e, h1, h2, h3, h4, h5, h6⟩
  · cases e
  · injection e with e1 e2 e3
    injection e1 with e1
    injection e1 with e1
    subst e1 e3
    have hb := Blk.set_ (show Blk w g t cur from h2) i u
    refine .inr ⟨g, c, _, rfl, h1, hb, h3, h4, by rw [Array.size_setIfInBounds]; exact h5, ?_⟩
    rw [Array.toList_setIfInBounds, List.take_set, h6]
theorem own_blk {w : World} {base s g n c : Nat} {t : TypeId} {vs : List Value} (h : w.ownsRow base t s (.slice (some ⟨g, 0, none⟩) n c) n vs) : ∃ cur, Blk w g t cur ∧ base ≤ g := by
  rcases h.2 with ⟨e, _⟩ | ⟨g', cap, cur, e, h1, h2, h3, h4, h5, h6⟩
  · cases e
  · injection e with e1 e2 e3
    injection e1 with e1
    injection e1 with e1
    subst e1
    exact ⟨cur, h2, h1⟩

/-- Nodes of the call's own, and the room. -/
structure NodeX (w : World) (base : Nat) (A1 : Option Addr) (n1 c1 : Nat) (room : List Int) (A : Option Addr) (n c : Nat) (vs : List Value) (bs : List (List Tk)) : Prop where
  rm : w.ownsRow base 3 1 (.slice A1 n1 c1) n1 (room.map (Value.int .i64))
  own : w.ownsRow base 24 1 (.slice A n c) n vs
  nd : NdBR w base n vs bs
section
variable {w w' : World} {base n1 c1 n c : Nat} {A1 A : Option Addr} {room : List Int} {vs : List Value} {bs : List (List Tk)}
theorem NodeX.up (h : NodeX w base A1 n1 c1 room A n c vs bs) (hb : Below w.heap.size w w') : NodeX w' base A1 n1 c1 room A n c vs bs := ⟨own_up' h.rm hb, own_up' h.own hb, h.nd.keepTI (KeepTI.up hb)⟩
theorem NodeX.drew (h : NodeX w base A1 n1 c1 room A n c vs bs) : NodeX w.drew base A1 n1 c1 room A n c vs bs := h.up (Below.refl _ _).drew
theorem NodeX.rdR (h : NodeX w base A1 n1 c1 room A n c vs bs) : RdI w w.heap.size A1 n1 room := own_rdI h.rm (own_le h.rm)
theorem NodeX.rd (h : NodeX w base A1 n1 c1 room A n c vs bs) : RdB w w.heap.size A n bs := OwnBR.rd ⟨vs, h.own, h.nd⟩
end

/-- Of the rows of tasks that were there, only those of the nodes turned; each node's row is new or was one of them. -/
def FarX (w w' : World) (vs vs' : List Value) : Prop :=
  (∀ b cs, Blk w b 43 cs → (∀ (a : Nat) (u : Value), vs[a]? = some u → u.ownBlock ≠ some b) → w'.heap[b]? = w.heap[b]?) ∧
  (∀ (a : Nat) (u : Value) (b : Nat), vs'[a]? = some u → u.ownBlock = some b → w.heap.size ≤ b ∨ ∃ (a' : Nat) (u' : Value), vs[a']? = some u' ∧ u'.ownBlock = some b)
section
variable {w w' : World} {vs : List Value}
theorem FarX.refl (w : World) (vs : List Value) : FarX w w vs vs := ⟨fun _ _ _ _ => rfl, fun a u b h1 h2 => .inr ⟨a, u, h1, h2⟩⟩
theorem FarX.trans {a b c : World} {v1 v2 v3 : List Value} (h : FarX a b v1 v2) (k : FarX b c v2 v3) (hs : a.heap.size ≤ b.heap.size) : FarX a c v1 v3 := by
  constructor
  · intro g cs hg hn
    have e := h.1 g cs hg hn
    refine (k.1 g cs (e.trans hg) (fun i u hu hb => ?_)).trans e
    rcases h.2 i u g hu hb with h1 | ⟨i', u', h1, h2⟩
    · have := hg.lt; omega
    · exact hn i' u' h1 h2
  · intro i u g hu hb
    rcases k.2 i u g hu hb with h1 | ⟨i', u', h1, h2⟩
    · exact .inl (by omega)
    · exact h.2 i' u' g h1 h2
theorem FarX.up (h : Below w.heap.size w w') : FarX w w' vs vs := ⟨fun _ _ hb _ => h.block _ hb.lt, fun a u b h1 h2 => .inr ⟨a, u, h1, h2⟩⟩
theorem FarX.step {a b c : World} {v1 v2 : List Value} (h : FarX a b v1 v2) (k : Below b.heap.size b c) (hs : a.heap.size ≤ b.heap.size) : FarX a c v1 v2 := h.trans (FarX.up k) hs
theorem FarX.drew {a b : World} {v1 v2 : List Value} (h : FarX a b v1 v2) : FarX a b.drew v1 v2 := h
theorem FarX.del {i gi m c : Nat} (hv : vs[i]? = some (.slice (some ⟨gi, 0, none⟩) m c)) (hoth : ∀ b, b ≠ gi → w'.heap[b]? = w.heap[b]?) : FarX w w' vs vs :=
  ⟨fun b cs _ hn => hoth b (fun e => hn i _ hv (by rw [e]; rfl)), fun a u b h1 h2 => .inr ⟨a, u, h1, h2⟩⟩
theorem FarX.cell {g x : Nat} {t : TypeId} {cs : Array Value} {y : Value} (hb : Blk w g t cs) (ht : t ≠ 43) : FarX w (w.setCell ⟨g, x, none⟩ y) vs vs :=
  ⟨fun b cs' hb' _ => Below.heap_setCell _ _ _ _ (by
    show b ≠ g
    rintro rfl
    unfold Blk at hb hb'
    rw [hb] at hb'
    injection hb' with e
    injection e with _ e
    exact ht e), fun a u b h1 h2 => .inr ⟨a, u, h1, h2⟩⟩
theorem FarX.list {a b : World} {v1 v2 : List Value} (h : FarX a b v1 v2) {i : Nat} {u0 u : Value} (hv : v2[i]? = some u0) (he : u.ownBlock = u0.ownBlock) : FarX a b v1 (v2.set i u) := ⟨h.1, fun k x g hx hg => by
  by_cases e : k = i
  · subst e
    have hlt := (List.getElem?_eq_some_iff.1 hv).1
    rw [List.getElem?_set_self hlt] at hx
    injection hx with hx
    subst hx
    exact h.2 k u0 g hv (he ▸ hg)
  · rw [List.getElem?_set_ne (fun y => e y.symm)] at hx
    exact h.2 k x g hx hg⟩
theorem FarX.app {j : Nat} {u0 u : Value} (hv : vs[j]? = some u0) (hg : w.grownBy w' u0.ownBlock) (hd : u.ownBlock = u0.ownBlock ∨ u.ownBlock = some w.heap.size) : FarX w w' vs (vs.set j u) :=
  ⟨fun b cs hb hn => hg.block b hb.lt (fun e => hn j u0 hv e.symm), fun k x g hx hgx => by
    by_cases e : k = j
    · subst e
      have hlt := (List.getElem?_eq_some_iff.1 hv).1
      rw [List.getElem?_set_self hlt] at hx
      injection hx with hx
      subst hx
      rcases hd with hd | hd
      · exact .inr ⟨k, u0, hv, hd ▸ hgx⟩
      · rw [hd] at hgx
        injection hgx with hgx
        exact .inl (by omega)
    · rw [List.getElem?_set_ne (fun y => e y.symm)] at hx
      exact .inr ⟨k, x, hx, hgx⟩⟩
end

end Go.Proofs.YtdgeicdiiakhjaaGreat

namespace Go.Proofs.YtdgeicdiiakhjaaGreat
set_option linter.unusedSimpArgs false
set_option linter.unusedVariables false
open Go Go.RowKit
attribute [local go_sem ↓] Go.wp_at_zero Go.wp_at_succ

/-- A step that turns a row made behind the start. -/
theorem KeepX.late {a b c : World} {s m : Nat} {t : TypeId} {r : Value} {xs : List Value} (h : KeepX a b) (ho : b.ownsRow a.heap.size t s r m xs) (hg : b.grownBy c r.ownBlock) : KeepX a c := fun g t' cs h1 h2 hb => by
  have e := h g t' cs h1 h2 hb
  have hb2 : Blk b g t' cs := e.trans hb
  refine (hg.block g hb2.lt (fun e' => ?_)).trans e
  have h3 := (ho.lt g e'.symm).1
  have h4 := hb.lt
  omega
theorem NodeX.grown {w w' : World} {base base' s m n1 c1 n c : Nat} {A1 A : Option Addr} {room : List Int} {vs : List Value} {bs : List (List Tk)} {t : TypeId} {r : Value} {xs : List Value} (h : NodeX w base A1 n1 c1 room A n c vs bs) (ho : w.ownsRow base' t s r m xs) (hg : w.grownBy w' r.ownBlock)
    (h1 : t ≠ 3) (h2 : t ≠ 43) (h3 : t ≠ 24) : NodeX w' base A1 n1 c1 room A n c vs bs :=
  have k := KeepTI.grown ho hg h1 h2
  ⟨own_keepTI h.rm (.inl rfl) k, own_keepB h.own (fun b cs _ hc => hg.block b hc.lt (fun e => own_blk_ne ho hc h3 e.symm)), h.nd.keepTI k⟩
theorem FarX.other {w w' : World} {base s m : Nat} {t : TypeId} {r : Value} {xs vs : List Value} (ho : w.ownsRow base t s r m xs) (hg : w.grownBy w' r.ownBlock) (ht : t ≠ 43) : FarX w w' vs vs :=
  ⟨fun b cs hb _ => hg.block b hb.lt (fun e => own_blk_ne ho hb ht e.symm), fun a u b h1 h2 => .inr ⟨a, u, h1, h2⟩⟩
end Go.Proofs.YtdgeicdiiakhjaaGreat
