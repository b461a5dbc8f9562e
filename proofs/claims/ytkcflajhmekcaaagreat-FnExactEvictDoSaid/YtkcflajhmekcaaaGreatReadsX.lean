/- From data that is read in memory: a task by value. -/
import Derived.Test.YtkcflajhmekcaaaGreatReads
namespace Go.Proofs.YtkcflajhmekcaaaGreat
open Go.ChangeShapes Go.WideShapes Go.ChangeAt Go.RowKit Go.Deep

theorem rdX_of_trod {H : Type} {enc : TypeId × Value → H} {P : Program} {w : World} {base : Nat} {spare : Nat → Bool} {held : Bool} {e si : TypeId} {f0 f1 : Field} {fuel : Nat} {cs : Array Value} {x : DataW H × List MemPlace} (he : P.underlying e = some (.struct #[f0, f1])) (_hC : P.cellsOf e = 2)
    (hf0 : P.underlying f0.type = some (.int .i64)) (hC0 : P.cellsOf f0.type = 1) (ho0 : f0.offset = 0) (hf1 : P.underlying f1.type = some (.slice si)) (hC1 : P.cellsOf f1.type = 1) (ho1 : f1.offset = 1) (hsi : P.underlying si = some (.int .i64)) (hCi : P.cellsOf si = 1)
    (hs : cs.size = 2) (h : DataW.trod enc P w base spare held fuel e (Value.agg cs).cells.toList = some x) : ∃ id A m c xs, cs = #[.int .i64 id, .slice A m c] ∧ m ≤ c ∧ RdI w w.heap.size A m xs := by
  obtain ⟨l⟩ := cs
  have hl : l.length = 2 := hs
  obtain ⟨v0, v1, rfl⟩ : ∃ v0 v1, l = [v0, v1] := by
    match l, hl with
    | [v0, v1], _ => exact ⟨v0, v1, rfl⟩
  obtain ⟨ys, n', _, _, hlen, hyl, hf⟩ := DataW.trod_struct he h
  have g0 := hf 0 f0 rfl
  have g1 := hf 1 f1 rfl
  rw [ho0, hC0] at g0
  rw [ho1, hC1] at g1
  simp only [Value.cells, List.drop_zero, List.drop_succ_cons, List.take_succ_cons, List.take_zero] at g0 g1
  rw [List.getElem?_eq_getElem (by rw [hyl]; simp)] at g0 g1
  obtain ⟨id, e0, _, _⟩ := DataW.trod_int hf0 g0
  simp only [List.cons.injEq, and_true] at e0
  subst e0
  obtain ⟨A', m', c', rfl⟩ : ∃ A' m' c', v1 = .slice A' m' c' := by
    rcases open_slice hf1 g1 with ⟨hcs, _⟩ | ⟨a', l', c'', _, _, _, _, hcs, _⟩
    · simp only [List.cons.injEq, and_true] at hcs; exact ⟨_, _, _, hcs⟩
    · simp only [List.cons.injEq, and_true] at hcs; exact ⟨_, _, _, hcs⟩
  obtain ⟨hmc, xs, hx, _⟩ := rdI_of_trod hf1 hsi hCi g1
  exact ⟨id, A', m', c', xs, rfl, hmc, hx⟩
end Go.Proofs.YtkcflajhmekcaaaGreat
