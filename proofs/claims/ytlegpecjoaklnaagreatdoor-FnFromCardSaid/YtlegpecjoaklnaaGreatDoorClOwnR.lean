/- Words for memory: a cluster of the call's own whose rows may be written: rows of tasks in blocks that differ; needs in blocks of integers. No program in sight. -/
import Derived.Test.YtlegpecjoaklnaaGreatDoorClSpecF
namespace Go.Proofs.YtlegpecjoaklnaaGreatDoor
open Go Go.RowKit

/-- The cells of tasks; each need is a row of the call's own. -/
def NdR (w : World) (base n : Nat) (vs : List Value) (ts : List Tk) : Prop :=
  ts.length = n ∧ vs.length = n * 2 ∧ ∀ j, j < n → ∃ A m c, vs[j * 2]? = some (.int .i64 (ts[j]?.getD (0, [])).1) ∧ vs[j * 2 + 1]? = some (.slice A m c) ∧ w.ownsRow base 3 1 (.slice A m c) m ((ts[j]?.getD (0, [])).2.map (Value.int .i64))
/-- The cells of units; each row of tasks is the call's own; the rows lie in blocks that differ. -/
def NdUR (w : World) (base n : Nat) (vs : List Value) (tk : Nat → Value) (us : List Un) : Prop :=
  us.length = n ∧ vs.length = n * 2 ∧ (∀ j, j < n → vs[j * 2]? = some (.bool (us[j]?.getD (false, [])).1) ∧ vs[j * 2 + 1]? = some (tk j) ∧
    ∃ A m c vt, tk j = .slice A m c ∧ w.ownsRow base 33 2 (.slice A m c) m vt ∧ NdR w base m vt (us[j]?.getD (false, [])).2) ∧
  (∀ i j, i < n → j < n → i ≠ j → ∀ b, (tk i).ownBlock = some b → (tk j).ownBlock ≠ some b)
def OwnUR (w : World) (base : Nat) (v : Value) (n : Nat) (us : List Un) : Prop := ∃ vs tk, w.ownsRow base 52 2 v n vs ∧ NdUR w base n vs tk us
def OwnCR (w : World) (base : Nat) (v1 v2 : Value) (m1 m2 : Nat) (room : List Int) (us : List Un) : Prop := w.ownsRow base 3 1 v1 m1 (room.map (Value.int .i64)) ∧ OwnUR w base v2 m2 us

section
variable {w w' : World} {base base' n m1 m2 : Nat} {v v1 v2 : Value} {vs : List Value} {tk : Nat → Value} {ts : List Tk} {us : List Un} {room : List Int}
theorem NdR.keepTI (h : NdR w base n vs ts) (hk : KeepTI w w') : NdR w' base n vs ts := ⟨h.1, h.2.1, fun j hj => by
  obtain ⟨A, m, c, h1, h2, h3⟩ := h.2.2 j hj
  exact ⟨A, m, c, h1, h2, own_keepTI h3 (.inl rfl) hk⟩⟩
theorem NdR.low (h : NdR w base n vs ts) (hb : base' ≤ base) : NdR w base' n vs ts := ⟨h.1, h.2.1, fun j hj => by
  obtain ⟨A, m, c, h1, h2, h3⟩ := h.2.2 j hj
  exact ⟨A, m, c, h1, h2, own_lo h3 hb⟩⟩
theorem NdR.nil : NdR w base 0 [] [] := ⟨rfl, rfl, fun j hj => by omega⟩
theorem NdR.of {nd : Nat → Value} (h : NdTs w base n vs nd ts) (hl : vs.length = n * 2) : NdR w base n vs ts := ⟨h.1, hl, fun j hj => by
  obtain ⟨h1, h2, A, m, c, h3, h4⟩ := h.2.1 j hj
  exact ⟨A, m, c, h1, by rw [h2, h3], h4⟩⟩
theorem NdR.grown {row : Value} {k : Nat} {xs : List Value} {t : TypeId} {s : Nat} (h : NdR w base n vs ts) (ho : w.ownsRow base' t s row k xs) (ht : t ≠ 3) (hg : w.grownBy w' row.ownBlock) : NdR w' base n vs ts := ⟨h.1, h.2.1, fun j hj => by
  obtain ⟨A, m, c, h1, h2, h3⟩ := h.2.2 j hj
  exact ⟨A, m, c, h1, h2, own_keep h3 (fun b hb => hg.block b (h3.lt b hb).2 (fun e => own_types ho h3 ht e.symm hb))⟩⟩
theorem NdR.snoc {A : Option Addr} {m c : Nat} {id : Int} {xs : List Int} (h : NdR w base n vs ts) (hx : w.ownsRow base 3 1 (.slice A m c) m (xs.map (Value.int .i64))) : NdR w base (n + 1) (vs ++ [.int .i64 id, .slice A m c]) (ts ++ [(id, xs)]) := by
  have h1 := h.1
  have h2 := h.2.1
  refine ⟨by simp [h1], by simp [h2]; omega, fun j hj => ?_⟩
  by_cases e : j = n
  · subst e
    refine ⟨A, m, c, ?_, ?_, ?_⟩
    · rw [List.getElem?_append_right (by omega), List.getElem?_append_right (by omega), h1, h2, Nat.sub_self, Nat.sub_self]; rfl
    · rw [List.getElem?_append_right (by omega), h2, show j * 2 + 1 - j * 2 = 1 by omega]; rfl
    · rw [List.getElem?_append_right (by omega), h1, Nat.sub_self]; exact hx
  · obtain ⟨A', m', c', e1, e2, e3⟩ := h.2.2 j (by omega)
    exact ⟨A', m', c', by rw [List.getElem?_append_left (by omega), List.getElem?_append_left (by omega)]; exact e1, by rw [List.getElem?_append_left (by omega)]; exact e2, by rw [List.getElem?_append_left (by omega)]; exact e3⟩
theorem NdR.rd {A : Option Addr} {c : Nat} (h : NdR w base n vs ts) (ho : w.ownsRow base 33 2 (.slice A n c) n vs) : RdT w w.heap.size A n ts := by
  refine RdT.of_own ho (B := w.heap.size) ⟨by rw [h.2.1, h.1], fun j hj => ?_⟩ (Nat.le_refl _) (own_le ho)
  obtain ⟨A', m', c', e1, e2, e3⟩ := h.2.2 j (by rw [← h.1]; exact hj)
  exact ⟨A', m', c', e1, e2, own_cap' e3, own_rdI e3 (own_le e3)⟩

theorem NdUR.keepTI (h : NdUR w base n vs tk us) (hk : KeepTI w w') : NdUR w' base n vs tk us := ⟨h.1, h.2.1, fun j hj => by
  obtain ⟨h1, h2, A, m, c, vt, h3, h4, h5⟩ := h.2.2.1 j hj
  exact ⟨h1, h2, A, m, c, vt, h3, own_keepTI h4 (.inr rfl) hk, h5.keepTI hk⟩, h.2.2.2⟩
theorem OwnUR.keepTU (h : OwnUR w base v n us) (hk : KeepTU w w') : OwnUR w' base v n us := by
  obtain ⟨vs, tk, h1, h2⟩ := h
  exact ⟨vs, tk, own_keepB h1 (fun b cs _ hc => hk b ⟨_, cs, .inr (.inr rfl), hc⟩), h2.keepTI hk.ti⟩
theorem OwnCR.keepTU (h : OwnCR w base v1 v2 m1 m2 room us) (hk : KeepTU w w') : OwnCR w' base v1 v2 m1 m2 room us := ⟨own_keepTI h.1 (.inl rfl) hk.ti, h.2.keepTU hk⟩
theorem OwnCR.low (h : OwnCR w base v1 v2 m1 m2 room us) (hb : base' ≤ base) : OwnCR w base' v1 v2 m1 m2 room us := by
  obtain ⟨h1, vs, tk, h2, h3, h4, h5, h6⟩ := h
  refine ⟨own_lo h1 hb, vs, tk, own_lo h2 hb, h3, h4, fun j hj => ?_, h6⟩
  obtain ⟨e1, e2, A, m, c, vt, e3, e4, e5⟩ := h5 j hj
  exact ⟨e1, e2, A, m, c, vt, e3, own_lo e4 hb, e5.low hb⟩
theorem NdUR.nil : NdUR w base 0 [] (fun _ => .slice none 0 0) [] := ⟨rfl, rfl, fun j hj => by omega, fun i j hi => by omega⟩
theorem OwnCR.none : OwnCR w base (.slice none 0 0) (.slice none 0 0) 0 0 [] [] := ⟨⟨rfl, .inl ⟨rfl, rfl⟩⟩, [], _, ⟨rfl, .inl ⟨rfl, rfl⟩⟩, NdUR.nil⟩
theorem OwnCR.len {c1 c2 : Nat} {A1 A2 : Option Addr} (h : OwnCR w base (.slice A1 m1 c1) (.slice A2 m2 c2) m1 m2 room us) : room.length = m1 ∧ us.length = m2 ∧ m1 ≤ c1 ∧ m2 ≤ c2 := by
  obtain ⟨h1, vs, tk, h2, h3⟩ := h
  exact ⟨own_len h1, h3.1, own_cap' h1, own_cap' h2⟩
theorem OwnCR.of {c1 c2 : Nat} {A1 A2 : Option Addr} (h : OwnC w base (.slice A1 m1 c1) (.slice A2 m2 c2) m1 m2 room us) : OwnCR w base (.slice A1 m1 c1) (.slice A2 m2 c2) m1 m2 room us := by
  obtain ⟨h1, md, h2, h3, vs, tk, f, h4, h5, h6⟩ := h
  refine ⟨h1, vs, tk, own_lo h4 h3, h5.1, h4.1, fun j hj => ?_, fun i j hi hj hij b hb1 hb2 => ?_⟩
  · obtain ⟨e0, e1, e2, A, m, c, e3, vt, nd, e4, e5, e6⟩ := h5.2 j hj
    have hfj := h5.mono 0 j (by omega) (by omega)
    exact ⟨e1, e2, A, m, c, vt, e3, own_lo e4 (by omega), NdR.of (e5.down (by omega)) e4.1⟩
  · obtain ⟨_, _, _, A, m, c, e3, vt, nd, e4, _, e6, _⟩ := h5.2 i hi
    obtain ⟨_, _, _, A', m', c', e3', vt', nd', e4', _, e6', _⟩ := h5.2 j hj
    rw [e3] at hb1
    rw [e3'] at hb2
    have a1 := (e4.lt b hb1).1
    have a2 := e6 b hb1
    have a3 := (e4'.lt b hb2).1
    have a4 := e6' b hb2
    rcases Nat.lt_or_ge i j with hlt | hge
    · have := h5.mono (i + 1) j (by omega) (by omega); omega
    · have := h5.mono (j + 1) i (by omega) (by omega); omega
theorem OwnUR.rd {A : Option Addr} {c : Nat} (h : OwnUR w base (.slice A n c) n us) : RdN w w.heap.size A n us := by
  obtain ⟨vs, tk, h1, h2, h3, h4, _⟩ := h
  refine RdN.of_own h1 (B := w.heap.size) ⟨by rw [h3, h2], fun j hj => ?_⟩ (Nat.le_refl _) (own_le h1)
  obtain ⟨e1, e2, A', m', c', vt, e3, e4, e5⟩ := h4 j (by rw [← h2]; exact hj)
  exact ⟨A', m', c', e1, by rw [e2, e3], own_cap' e4, e5.rd e4⟩
theorem OwnCR.rd {c1 c2 : Nat} {A1 A2 : Option Addr} (h : OwnCR w base (.slice A1 m1 c1) (.slice A2 m2 c2) m1 m2 room us) : RdC w A1 A2 m1 m2 room us := ⟨own_rdI h.1 (own_le h.1), h.2.rd⟩
/-- A step that turns only the reader's block and what lies below the call's own. -/
theorem keepTU_only {g : Nat} {t : TypeId} {cs : Array Value} (k : OnlyG w w' g) (hb : Blk w g t cs) (h1 : t ≠ 3) (h2 : t ≠ 33) (h3 : t ≠ 52) : KeepTU w w' := fun b hti => by
  obtain ⟨t', cs', ht, hb'⟩ := hti
  refine k.block b hb'.lt ?_
  rintro rfl
  unfold Blk at hb hb'
  rw [hb] at hb'
  injection hb' with e
  injection e with _ e
  rcases ht with rfl | rfl | rfl
  · exact h1 e
  · exact h2 e
  · exact h3 e

/-- One unit gets another row of tasks, in a block that no other unit's row has. -/
theorem NdUR.put {j m c : Nat} {A : Option Addr} {vt : List Value} (h : NdUR w base n vs tk us) (hj : j < n) (ho : w.ownsRow base 33 2 (.slice A m c) m vt) (hn : NdR w base m vt ts) (hd : ∀ i, i < n → i ≠ j → ∀ b, (tk i).ownBlock = some b → (Value.slice A m c).ownBlock ≠ some b) :
    NdUR w base n (vs.set (j * 2 + 1) (.slice A m c)) (fun i => if i = j then .slice A m c else tk i) (us.set j ((us[j]?.getD (false, [])).1, ts)) := by
  have hl := h.2.1
  refine ⟨by rw [List.length_set]; exact h.1, by rw [List.length_set]; exact hl, fun i hi => ?_, fun i i' hi hi' hii b hb1 hb2 => ?_⟩
  · obtain ⟨h1, h2, A', m', c', vt', h3, h4, h5⟩ := h.2.2.1 i hi
    by_cases e : i = j
    · subst e
      have g1 : (vs.set (i * 2 + 1) (.slice A m c))[i * 2]? = vs[i * 2]? := List.getElem?_set_ne (by omega)
      have g2 : (vs.set (i * 2 + 1) (.slice A m c))[i * 2 + 1]? = some (.slice A m c) := List.getElem?_set_self (by omega)
      have g3 : (us.set i ((us[i]?.getD (false, [])).1, ts))[i]? = some ((us[i]?.getD (false, [])).1, ts) := List.getElem?_set_self (by rw [h.1]; exact hi)
      dsimp only
      rw [g1, g2, g3, if_pos rfl]
      exact ⟨h1, rfl, A, m, c, vt, rfl, ho, hn⟩
    · have g1 : (vs.set (j * 2 + 1) (.slice A m c))[i * 2]? = vs[i * 2]? := List.getElem?_set_ne (by omega)
      have g2 : (vs.set (j * 2 + 1) (.slice A m c))[i * 2 + 1]? = vs[i * 2 + 1]? := List.getElem?_set_ne (by omega)
      have g3 : (us.set j ((us[j]?.getD (false, [])).1, ts))[i]? = us[i]? := List.getElem?_set_ne (fun x => e x.symm)
      dsimp only
      rw [g1, g2, g3, if_neg e]
      exact ⟨h1, h2, A', m', c', vt', h3, h4, h5⟩
  · dsimp only at hb1 hb2
    by_cases ei : i = j
    · have ej : i' ≠ j := fun x => hii (by omega)
      rw [if_pos ei] at hb1
      rw [if_neg ej] at hb2
      exact hd i' hi' ej b hb2 hb1
    · rw [if_neg ei] at hb1
      by_cases ej : i' = j
      · rw [if_pos ej] at hb2
        exact hd i hi ei b hb1 hb2
      · rw [if_neg ej] at hb2
        exact h.2.2.2 i i' hi hi' hii b hb1 hb2
/-- One unit is opened or closed. -/
theorem NdUR.open_ {j : Nat} {op : Bool} (h : NdUR w base n vs tk us) (hj : j < n) : NdUR w base n (vs.set (j * 2) (.bool op)) tk (us.set j (op, (us[j]?.getD (false, [])).2)) := by
  have hl := h.2.1
  refine ⟨by rw [List.length_set]; exact h.1, by rw [List.length_set]; exact hl, fun i hi => ?_, h.2.2.2⟩
  obtain ⟨h1, h2, A', m', c', vt', h3, h4, h5⟩ := h.2.2.1 i hi
  by_cases e : i = j
  · subst e
    have g1 : (vs.set (i * 2) (.bool op))[i * 2]? = some (.bool op) := List.getElem?_set_self (by omega)
    have g2 : (vs.set (i * 2) (.bool op))[i * 2 + 1]? = vs[i * 2 + 1]? := List.getElem?_set_ne (by omega)
    have g3 : (us.set i (op, (us[i]?.getD (false, [])).2))[i]? = some (op, (us[i]?.getD (false, [])).2) := List.getElem?_set_self (by rw [h.1]; exact hi)
    rw [g1, g2, g3]
    exact ⟨rfl, h2, A', m', c', vt', h3, h4, h5⟩
  · have g1 : (vs.set (j * 2) (.bool op))[i * 2]? = vs[i * 2]? := List.getElem?_set_ne (by omega)
    have g2 : (vs.set (j * 2) (.bool op))[i * 2 + 1]? = vs[i * 2 + 1]? := List.getElem?_set_ne (by omega)
    have g3 : (us.set j (op, (us[j]?.getD (false, [])).2))[i]? = us[i]? := List.getElem?_set_ne (fun x => e x.symm)
    rw [g1, g2, g3]
    exact ⟨h1, h2, A', m', c', vt', h3, h4, h5⟩
end
end Go.Proofs.YtlegpecjoaklnaaGreatDoor
