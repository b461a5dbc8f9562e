/- From data that is read in memory to the words of Base: a slice of integers, of tasks, of nodes; the row's last step. -/
import Derived.Test.YtjjnbbkdjimcoaaGreatJ1
import Derived.ProofKit
import Derived.OpenShut
import Derived.ChangeOld
import Derived.Deep.Slices
namespace Go.Proofs.YtjjnbbkdjimcoaaGreat
open Go.ChangeShapes Go.WideShapes Go.ChangeAt Go.RowKit Go.Deep

theorem own : ownKnob Tryz.prog.godebug = none := by kernel_rfl
theorem laidOut : laidOutB Tryz.prog = true := by kernel_rfl

theorem list_of {α : Type} (d : α) (n : Nat) (P : Nat → α → Prop) (h : ∀ i, i < n → ∃ x, P i x) : ∃ l : List α, l.length = n ∧ ∀ i, i < n → P i (l[i]?.getD d) := by
  refine ⟨(List.range n).map (fun i => if hi : i < n then Classical.choose (h i hi) else d), by simp, fun i hi => ?_⟩
  rw [List.getElem?_map, List.getElem?_range hi]
  simp only [Option.map_some, Option.getD_some, hi, dite_true]
  exact Classical.choose_spec (h i hi)

section
variable {H : Type} {enc : TypeId × Value → H} {P : Program} {w : World} {base : Nat} {spare : Nat → Bool} {held : Bool}

theorem addr_of {w : World} {a : Addr} {v : Value} (h : w.cell? a = some v) : ∃ b o, a = ⟨b, o, none⟩ ∧ b < w.heap.size := by
  obtain ⟨b, o, s⟩ := a
  have hs : s = none := World.cell?_spot h
  subst hs
  exact ⟨b, o, rfl, World.block_lt_of_cell? w _ h⟩
theorem addr_add' (b o j : Nat) : (⟨b, o, none⟩ : Addr).add j = ⟨b, o + j, none⟩ := by unfold Addr.add; split <;> simp_all
theorem add_zero' (a : Addr) : a.add 0 = a := by unfold Addr.add; simp

theorem rdI_of_trod {t e : TypeId} {fuel : Nat} {A : Option Addr} {n c : Nat} {x : DataW H × List MemPlace} (ht : P.underlying t = some (.slice e)) (he : P.underlying e = some (.int .i64)) (hC : P.cellsOf e = 1)
    (h : DataW.trod enc P w base spare held fuel t [.slice A n c] = some x) : n ≤ c ∧ ∃ xs, RdI w w.heap.size A n xs ∧ ∀ v ∈ xs, -9223372036854775808 ≤ v ∧ v ≤ 9223372036854775807 := by
  rcases open_ints ht he hC h with ⟨hcs, _⟩ | ⟨a, l, c', zs, hcs, _, hl, hm, hz, _, hcell, hwf⟩
  · simp only [List.cons.injEq, Value.slice.injEq, and_true] at hcs
    obtain ⟨rfl, rfl, rfl⟩ := hcs
    exact ⟨Nat.le_refl _, [], RdI.nil, by simp⟩
  · simp only [List.cons.injEq, Value.slice.injEq, and_true] at hcs
    obtain ⟨rfl, rfl, rfl⟩ := hcs
    have hzl : n ≤ zs.length := by rw [hz]; split <;> omega
    refine ⟨hl, zs.take n, ⟨by simp; omega, by unfold maxLen at hm; omega, fun hp => ?_⟩, fun v hv => ?_⟩
    · obtain ⟨b, o, rfl, hb⟩ := addr_of (w := w) (a := a) (by have := hcell 0 (by omega); rwa [add_zero'] at this)
      refine ⟨b, o, rfl, hb, fun j hj => ?_⟩
      have := hcell j (by omega)
      rw [addr_add'] at this
      rw [this]
      simp [hj, List.getD]
    · exact bounds_i64 (hwf v (List.mem_of_mem_take hv))

theorem rdT_of_trod {t e si : TypeId} {f0 f1 : Field} {fuel : Nat} {A : Option Addr} {n c : Nat} {x : DataW H × List MemPlace} (ht : P.underlying t = some (.slice e)) (he : P.underlying e = some (.struct #[f0, f1])) (hC : P.cellsOf e = 2)
    (hf0 : P.underlying f0.type = some (.int .i64)) (hC0 : P.cellsOf f0.type = 1) (ho0 : f0.offset = 0) (hf1 : P.underlying f1.type = some (.slice si)) (hC1 : P.cellsOf f1.type = 1) (ho1 : f1.offset = 1) (hsi : P.underlying si = some (.int .i64)) (hCi : P.cellsOf si = 1)
    (h : DataW.trod enc P w base spare held fuel t [.slice A n c] = some x) : n ≤ c ∧ ∃ ts, RdT w w.heap.size A n ts := by
  rcases open_slice ht h with ⟨hcs, _⟩ | ⟨a, l, c', m, q, D, Pl, hcs, _, hl, hm, hmm, _, hel⟩
  · simp only [List.cons.injEq, Value.slice.injEq, and_true] at hcs
    obtain ⟨rfl, rfl, rfl⟩ := hcs
    exact ⟨Nat.le_refl _, [], RdT.nil⟩
  · simp only [List.cons.injEq, Value.slice.injEq, and_true] at hcs
    obtain ⟨rfl, rfl, rfl⟩ := hcs
    have hnm : n ≤ m := by rw [hmm]; split <;> omega
    have key : ∀ i, i < n → ∃ t : Tk, ∃ A' m' c', w.cell? (a.add (i * 2)) = some (.int .i64 t.1) ∧ w.cell? ((a.add (i * 2)).add 1) = some (.slice A' m' c') ∧ m' ≤ c' ∧ RdI w w.heap.size A' m' t.2 := by
      intro i hi
      obtain ⟨cs', hc, ht'⟩ := hel i (by omega)
      rw [hC] at hc
      obtain ⟨ys, n', _, _, hlen, hyl, hf⟩ := DataW.trod_struct he ht'
      obtain ⟨_, hcl, hat⟩ := World.cells?_some hc
      obtain ⟨v0, v1, rfl⟩ : ∃ v0 v1, cs' = [v0, v1] := by
        match cs', hcl with
        | [v0, v1], _ => exact ⟨v0, v1, rfl⟩
      have g0 := hf 0 f0 rfl
      have g1 := hf 1 f1 rfl
      rw [ho0, hC0] at g0
      rw [ho1, hC1] at g1
      simp only [List.drop_zero, List.drop_succ_cons, List.take_succ_cons, List.take_zero] at g0 g1
      rw [List.getElem?_eq_getElem (by rw [hyl]; simp)] at g0 g1
      obtain ⟨id, e0, _, _⟩ := DataW.trod_int hf0 g0
      simp only [List.cons.injEq, and_true] at e0
      subst e0
      obtain ⟨A', m', c', rfl⟩ : ∃ A' m' c', v1 = .slice A' m' c' := by
        rcases open_slice hf1 g1 with ⟨hcs, _⟩ | ⟨a', l', c'', _, _, _, _, hcs, _⟩
        · simp only [List.cons.injEq, and_true] at hcs; exact ⟨_, _, _, hcs⟩
        · simp only [List.cons.injEq, and_true] at hcs; exact ⟨_, _, _, hcs⟩
      obtain ⟨hmc, xs, hx, _⟩ := rdI_of_trod hf1 hsi hCi g1
      refine ⟨(id, xs), A', m', c', ?_, ?_, hmc, hx⟩
      · have := hat 0 (by omega); rw [add_zero'] at this; exact this
      · exact hat 1 (by omega)
    obtain ⟨ts, hl', hts⟩ := list_of (0, []) n _ key
    refine ⟨hl, ts, hl', by unfold maxLen at hm; omega, fun hp => ?_⟩
    obtain ⟨_, _, _, h0, _⟩ := hts 0 hp
    obtain ⟨b, o, rfl, hb⟩ := addr_of (w := w) (a := a) (by rw [Nat.zero_mul, add_zero'] at h0; exact h0)
    refine ⟨b, o, rfl, hb, fun j hj => ?_⟩
    obtain ⟨A', m', c', e0, e1, e2, e3⟩ := hts j hj
    rw [addr_add'] at e0
    rw [addr_add', addr_add'] at e1
    exact ⟨A', m', c', e0, e1, e2, e3⟩

theorem rdB_of_trod {t t' e si : TypeId} {f0 f1 : Field} {fuel : Nat} {A : Option Addr} {n c : Nat} {x : DataW H × List MemPlace} (ht : P.underlying t = some (.slice t')) (hCt : P.cellsOf t' = 1) (ht' : P.underlying t' = some (.slice e)) (he : P.underlying e = some (.struct #[f0, f1])) (hC : P.cellsOf e = 2)
    (hf0 : P.underlying f0.type = some (.int .i64)) (hC0 : P.cellsOf f0.type = 1) (ho0 : f0.offset = 0) (hf1 : P.underlying f1.type = some (.slice si)) (hC1 : P.cellsOf f1.type = 1) (ho1 : f1.offset = 1) (hsi : P.underlying si = some (.int .i64)) (hCi : P.cellsOf si = 1)
    (h : DataW.trod enc P w base spare held fuel t [.slice A n c] = some x) : n ≤ c ∧ ∃ bs, RdB w w.heap.size A n bs := by
  rcases open_slice ht h with ⟨hcs, _⟩ | ⟨a, l, c', m, q, D, Pl, hcs, _, hl, hm, hmm, _, hel⟩
  · simp only [List.cons.injEq, Value.slice.injEq, and_true] at hcs
    obtain ⟨rfl, rfl, rfl⟩ := hcs
    exact ⟨Nat.le_refl _, [], RdB.nil⟩
  · simp only [List.cons.injEq, Value.slice.injEq, and_true] at hcs
    obtain ⟨rfl, rfl, rfl⟩ := hcs
    have hnm : n ≤ m := by rw [hmm]; split <;> omega
    have key : ∀ i, i < n → ∃ ts : List Tk, ∃ A' m' c', w.cell? (a.add i) = some (.slice A' m' c') ∧ m' ≤ c' ∧ RdT w w.heap.size A' m' ts := by
      intro i hi
      obtain ⟨cs', hc, hh⟩ := hel i (by omega)
      rw [hCt, Nat.mul_one] at hc
      obtain ⟨_, hcl, hat⟩ := World.cells?_some hc
      obtain ⟨v0, rfl⟩ : ∃ v0, cs' = [v0] := by
        match cs', hcl with
        | [v0], _ => exact ⟨v0, rfl⟩
      obtain ⟨A', m', c', rfl⟩ : ∃ A' m' c', v0 = .slice A' m' c' := by
        rcases open_slice ht' hh with ⟨hcs, _⟩ | ⟨a', l', c'', _, _, _, _, hcs, _⟩
        · simp only [List.cons.injEq, and_true] at hcs; exact ⟨_, _, _, hcs⟩
        · simp only [List.cons.injEq, and_true] at hcs; exact ⟨_, _, _, hcs⟩
      obtain ⟨hmc, ts, hx⟩ := rdT_of_trod ht' he hC hf0 hC0 ho0 hf1 hC1 ho1 hsi hCi hh
      refine ⟨ts, A', m', c', ?_, hmc, hx⟩
      have := hat 0 (by omega); rw [add_zero'] at this; exact this
    obtain ⟨bs, hl', hbs⟩ := list_of [] n _ key
    refine ⟨hl, bs, hl', by unfold maxLen at hm; omega, fun hp => ?_⟩
    obtain ⟨_, _, _, h0, _⟩ := hbs 0 hp
    obtain ⟨b, o, rfl, hb⟩ := addr_of (w := w) (a := a) (by rw [add_zero'] at h0; exact h0)
    refine ⟨b, o, rfl, hb, fun j hj => ?_⟩
    obtain ⟨A', m', c', e0, e2, e3⟩ := hbs j hj
    rw [addr_add'] at e0
    exact ⟨A', m', c', e0, e2, e3⟩
end
end Go.Proofs.YtjjnbbkdjimcoaaGreat
