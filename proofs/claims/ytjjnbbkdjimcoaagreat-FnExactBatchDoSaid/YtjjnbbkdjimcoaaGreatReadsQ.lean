/- From data that is read in memory: units, clusters, requests. -/
import Derived.Test.YtjjnbbkdjimcoaaGreatReads
import Derived.Test.YtjjnbbkdjimcoaaGreatRqRows
namespace Go.Proofs.YtjjnbbkdjimcoaaGreat
open Go.ChangeShapes Go.WideShapes Go.ChangeAt Go.RowKit Go.Deep
set_option linter.unusedVariables false

section
variable {H : Type} {enc : TypeId × Value → H} {P : Program} {w : World} {base : Nat} {spare : Nat → Bool} {held : Bool}
/-- The types of tasks: a slice's, a task's, its fields', their integers'. -/
structure TkTy (P : Program) (t e si : TypeId) (f0 f1 : Field) : Prop where
  ht : P.underlying t = some (.slice e)
  he : P.underlying e = some (.struct #[f0, f1])
  hC : P.cellsOf e = 2
  hf0 : P.underlying f0.type = some (.int .i64)
  hC0 : P.cellsOf f0.type = 1
  ho0 : f0.offset = 0
  hf1 : P.underlying f1.type = some (.slice si)
  hC1 : P.cellsOf f1.type = 1
  ho1 : f1.offset = 1
  hsi : P.underlying si = some (.int .i64)
  hCi : P.cellsOf si = 1

theorem slice_of {t e : TypeId} {fuel : Nat} {v : Value} {x : DataW H × List MemPlace} (ht : P.underlying t = some (.slice e)) (h : DataW.trod enc P w base spare held fuel t [v] = some x) : ∃ A m c, v = .slice A m c := by
  rcases open_slice ht h with ⟨hcs, _⟩ | ⟨a', l', c'', _, _, _, _, hcs, _⟩
  · simp only [List.cons.injEq, and_true] at hcs; exact ⟨_, _, _, hcs⟩
  · simp only [List.cons.injEq, and_true] at hcs; exact ⟨_, _, _, hcs⟩

theorem unit_of_trod {t e si u : TypeId} {f0 f1 u0 u1 : Field} (T : TkTy P t e si f0 f1) (hu : P.underlying u = some (.struct #[u0, u1])) (hu0 : P.underlying u0.type = some .bool) (hD0 : P.cellsOf u0.type = 1) (hp0 : u0.offset = 0) (hu1 : u1.type = t) (hD1 : P.cellsOf t = 1) (hp1 : u1.offset = 1)
    {fuel : Nat} {cs : List Value} {x : DataW H × List MemPlace} (hl : cs.length = 2) (h : DataW.trod enc P w base spare held fuel u cs = some x) : ∃ o A m c ts, cs = [.bool o, .slice A m c] ∧ m ≤ c ∧ RdT w w.heap.size A m ts := by
  obtain ⟨v0, v1, rfl⟩ : ∃ v0 v1, cs = [v0, v1] := by
    match cs, hl with
    | [v0, v1], _ => exact ⟨v0, v1, rfl⟩
  obtain ⟨ys, n', _, _, hlen, hyl, hf⟩ := DataW.trod_struct hu h
  have g0 := hf 0 u0 rfl
  have g1 := hf 1 u1 rfl
  rw [hp0, hD0] at g0
  rw [hp1, hu1, hD1] at g1
  simp only [List.drop_zero, List.drop_succ_cons, List.take_succ_cons, List.take_zero] at g0 g1
  rw [List.getElem?_eq_getElem (by rw [hyl]; simp)] at g0 g1
  obtain ⟨o, e0, _⟩ := DataW.trod_bool hu0 g0
  simp only [List.cons.injEq, and_true] at e0
  subst e0
  obtain ⟨A', m', c', rfl⟩ := slice_of T.ht g1
  obtain ⟨hmc, ts, hx⟩ := rdT_of_trod T.ht T.he T.hC T.hf0 T.hC0 T.ho0 T.hf1 T.hC1 T.ho1 T.hsi T.hCi g1
  exact ⟨o, A', m', c', ts, rfl, hmc, hx⟩

theorem rdN_of_trod {t e si u us : TypeId} {f0 f1 u0 u1 : Field} (T : TkTy P t e si f0 f1) (hu : P.underlying u = some (.struct #[u0, u1])) (hu0 : P.underlying u0.type = some .bool) (hD0 : P.cellsOf u0.type = 1) (hp0 : u0.offset = 0) (hu1 : u1.type = t) (hD1 : P.cellsOf t = 1) (hp1 : u1.offset = 1)
    (hus : P.underlying us = some (.slice u)) (hCu : P.cellsOf u = 2) {fuel : Nat} {A : Option Addr} {n c : Nat} {x : DataW H × List MemPlace} (h : DataW.trod enc P w base spare held fuel us [.slice A n c] = some x) : n ≤ c ∧ ∃ l : List Un, RdN w w.heap.size A n l := by
  rcases open_slice hus h with ⟨hcs, _⟩ | ⟨a, l, c', m, q, D, Pl, hcs, _, hl, hm, hmm, _, hel⟩
  · simp only [List.cons.injEq, Value.slice.injEq, and_true] at hcs
    obtain ⟨rfl, rfl, rfl⟩ := hcs
    exact ⟨Nat.le_refl _, [], rfl, by omega, fun hp => absurd hp (by omega)⟩
  · simp only [List.cons.injEq, Value.slice.injEq, and_true] at hcs
    obtain ⟨rfl, rfl, rfl⟩ := hcs
    have hnm : n ≤ m := by rw [hmm]; split <;> omega
    have key : ∀ i, i < n → ∃ t : Un, ∃ A' m' c', w.cell? (a.add (i * 2)) = some (.bool t.1) ∧ w.cell? ((a.add (i * 2)).add 1) = some (.slice A' m' c') ∧ m' ≤ c' ∧ RdT w w.heap.size A' m' t.2 := by
      intro i hi
      obtain ⟨cs', hc, ht'⟩ := hel i (by omega)
      rw [hCu] at hc
      obtain ⟨_, hcl, hat⟩ := World.cells?_some hc
      obtain ⟨o, A', m', c', ts, rfl, hmc, hx⟩ := unit_of_trod T hu hu0 hD0 hp0 hu1 hD1 hp1 hcl ht'
      refine ⟨(o, ts), A', m', c', ?_, ?_, hmc, hx⟩
      · have := hat 0 (by omega); rw [add_zero'] at this; exact this
      · exact hat 1 (by omega)
    obtain ⟨l, hl', hts⟩ := list_of (false, []) n _ key
    refine ⟨hl, l, hl', by unfold maxLen at hm; omega, fun hp => ?_⟩
    obtain ⟨_, _, _, h0, _⟩ := hts 0 hp
    obtain ⟨b, o, rfl, hb⟩ := addr_of (w := w) (a := a) (by rw [Nat.zero_mul, add_zero'] at h0; exact h0)
    refine ⟨b, o, rfl, hb, fun j hj => ?_⟩
    obtain ⟨A', m', c', e0, e1, e2, e3⟩ := hts j hj
    rw [addr_add'] at e0
    rw [addr_add', addr_add'] at e1
    exact ⟨A', m', c', e0, e1, e2, e3⟩

theorem rdC_of_trod {t e si u us k ri : TypeId} {f0 f1 u0 u1 k0 k1 : Field} (T : TkTy P t e si f0 f1) (hu : P.underlying u = some (.struct #[u0, u1])) (hu0 : P.underlying u0.type = some .bool) (hD0 : P.cellsOf u0.type = 1) (hp0 : u0.offset = 0) (hu1 : u1.type = t) (hD1 : P.cellsOf t = 1) (hp1 : u1.offset = 1)
    (hus : P.underlying us = some (.slice u)) (hCu : P.cellsOf u = 2) (hk : P.underlying k = some (.struct #[k0, k1])) (hk0 : P.underlying k0.type = some (.slice ri)) (hri : P.underlying ri = some (.int .i64)) (hCr : P.cellsOf ri = 1) (hE0 : P.cellsOf k0.type = 1) (hq0 : k0.offset = 0) (hk1 : k1.type = us) (hE1 : P.cellsOf us = 1) (hq1 : k1.offset = 1)
    {fuel : Nat} {cs : Array Value} {x : DataW H × List MemPlace} (hs : cs.size = 2) (h : DataW.trod enc P w base spare held fuel k (Value.agg cs).cells.toList = some x) :
    ∃ A1 n1 c1 A2 n2 c2 room l, cs = #[.slice A1 n1 c1, .slice A2 n2 c2] ∧ n1 ≤ c1 ∧ n2 ≤ c2 ∧ RdC w A1 A2 n1 n2 room l := by
  obtain ⟨l⟩ := cs
  have hl : l.length = 2 := hs
  obtain ⟨v0, v1, rfl⟩ : ∃ v0 v1, l = [v0, v1] := by
    match l, hl with
    | [v0, v1], _ => exact ⟨v0, v1, rfl⟩
  obtain ⟨ys, n', _, _, hlen, hyl, hf⟩ := DataW.trod_struct hk h
  have g0 := hf 0 k0 rfl
  have g1 := hf 1 k1 rfl
  rw [hq0, hE0] at g0
  rw [hq1, hk1, hE1] at g1
  simp only [Value.cells, List.drop_zero, List.drop_succ_cons, List.take_succ_cons, List.take_zero] at g0 g1
  rw [List.getElem?_eq_getElem (by rw [hyl]; simp)] at g0 g1
  obtain ⟨A1, n1, c1, rfl⟩ := slice_of hk0 g0
  obtain ⟨A2, n2, c2, rfl⟩ := slice_of hus g1
  obtain ⟨h1, room, hr, _⟩ := rdI_of_trod hk0 hri hCr g0
  obtain ⟨h2, us', hn⟩ := rdN_of_trod T hu hu0 hD0 hp0 hu1 hD1 hp1 hus hCu g1
  exact ⟨A1, n1, c1, A2, n2, c2, room, us', rfl, h1, h2, hr, hn⟩

/-- The types of a request: its kind, its task, its flag, its number. -/
structure RqTy (P : Program) (r e : TypeId) (q0 q1 q2 q3 : Field) : Prop where
  hr : P.underlying r = some (.struct #[q0, q1, q2, q3])
  hq0 : P.underlying q0.type = some (.int .i64)
  hC0 : P.cellsOf q0.type = 1
  ho0 : q0.offset = 0
  hq1 : q1.type = e
  hC1 : P.cellsOf e = 2
  ho1 : q1.offset = 1
  hq2 : P.underlying q2.type = some .bool
  hC2 : P.cellsOf q2.type = 1
  ho2 : q2.offset = 3
  hq3 : P.underlying q3.type = some (.int .i64)
  hC3 : P.cellsOf q3.type = 1
  ho3 : q3.offset = 4

theorem rq_of_trod {t e si r : TypeId} {f0 f1 q0 q1 q2 q3 : Field} (T : TkTy P t e si f0 f1) (R : RqTy P r e q0 q1 q2 q3) {fuel : Nat} {cs : List Value} {x : DataW H × List MemPlace} (hl : cs.length = 5) (h : DataW.trod enc P w base spare held fuel r cs = some x) :
    ∃ kd id A m c xs gr nm, cs = [.int .i64 kd, .int .i64 id, .slice A m c, .bool gr, .int .i64 nm] ∧ m ≤ c ∧ RdI w w.heap.size A m xs := by
  obtain ⟨v0, v1, v2, v3, v4, rfl⟩ : ∃ v0 v1 v2 v3 v4, cs = [v0, v1, v2, v3, v4] := by
    match cs, hl with
    | [v0, v1, v2, v3, v4], _ => exact ⟨v0, v1, v2, v3, v4, rfl⟩
  obtain ⟨ys, n', _, _, hlen, hyl, hf⟩ := DataW.trod_struct R.hr h
  have g0 := hf 0 q0 rfl
  have g1 := hf 1 q1 rfl
  have g2 := hf 2 q2 rfl
  have g3 := hf 3 q3 rfl
  rw [R.ho0, R.hC0] at g0
  rw [R.ho1, R.hq1, R.hC1] at g1
  rw [R.ho2, R.hC2] at g2
  rw [R.ho3, R.hC3] at g3
  simp only [List.drop_zero, List.drop_succ_cons, List.take_succ_cons, List.take_zero] at g0 g1 g2 g3
  rw [List.getElem?_eq_getElem (by rw [hyl]; simp)] at g0 g1 g2 g3
  obtain ⟨kd, e0, _, _⟩ := DataW.trod_int R.hq0 g0
  obtain ⟨gr, e2, _⟩ := DataW.trod_bool R.hq2 g2
  obtain ⟨nm, e3, _, _⟩ := DataW.trod_int R.hq3 g3
  simp only [List.cons.injEq, and_true] at e0 e2 e3
  subst e0 e2 e3
  obtain ⟨zs, n'', _, _, hlen', hzl, hz⟩ := DataW.trod_struct T.he g1
  have k0 := hz 0 f0 rfl
  have k1 := hz 1 f1 rfl
  rw [T.ho0, T.hC0] at k0
  rw [T.ho1, T.hC1] at k1
  simp only [List.drop_zero, List.drop_succ_cons, List.take_succ_cons, List.take_zero] at k0 k1
  rw [List.getElem?_eq_getElem (by rw [hzl]; simp)] at k0 k1
  obtain ⟨id, e4, _, _⟩ := DataW.trod_int T.hf0 k0
  simp only [List.cons.injEq, and_true] at e4
  subst e4
  obtain ⟨A', m', c', rfl⟩ := slice_of T.hf1 k1
  obtain ⟨hmc, xs, hx, _⟩ := rdI_of_trod T.hf1 T.hsi T.hCi k1
  exact ⟨kd, id, A', m', c', xs, gr, nm, rfl, hmc, hx⟩
theorem rqX_of_trod {t e si r : TypeId} {f0 f1 q0 q1 q2 q3 : Field} (T : TkTy P t e si f0 f1) (R : RqTy P r e q0 q1 q2 q3) {fuel : Nat} {cs : Array Value} {x : DataW H × List MemPlace} (hs : cs.size = 5) (h : DataW.trod enc P w base spare held fuel r (Value.agg cs).cells.toList = some x) :
    ∃ kd id A m c xs gr nm, cs = #[.int .i64 kd, .int .i64 id, .slice A m c, .bool gr, .int .i64 nm] ∧ m ≤ c ∧ RdI w w.heap.size A m xs := by
  obtain ⟨l⟩ := cs
  obtain ⟨kd, id, A, m, c, xs, gr, nm, e, h1, h2⟩ := rq_of_trod T R (show l.length = 5 from hs) h
  have e' : l = [.int .i64 kd, .int .i64 id, .slice A m c, .bool gr, .int .i64 nm] := e
  subst e'
  exact ⟨kd, id, A, m, c, xs, gr, nm, rfl, h1, h2⟩
theorem rdQ_of_trod {t e si r rs : TypeId} {f0 f1 q0 q1 q2 q3 : Field} (T : TkTy P t e si f0 f1) (R : RqTy P r e q0 q1 q2 q3) (hrs : P.underlying rs = some (.slice r)) (hCr : P.cellsOf r = 5) {fuel : Nat} {A : Option Addr} {n c : Nat} {x : DataW H × List MemPlace}
    (h : DataW.trod enc P w base spare held fuel rs [.slice A n c] = some x) : n ≤ c ∧ ∃ l : List Rq, RdQ w w.heap.size A n l := by
  rcases open_slice hrs h with ⟨hcs, _⟩ | ⟨a, l, c', m, q, D, Pl, hcs, _, hl, hm, hmm, _, hel⟩
  · simp only [List.cons.injEq, Value.slice.injEq, and_true] at hcs
    obtain ⟨rfl, rfl, rfl⟩ := hcs
    exact ⟨Nat.le_refl _, [], rfl, by omega, fun hp => absurd hp (by omega)⟩
  · simp only [List.cons.injEq, Value.slice.injEq, and_true] at hcs
    obtain ⟨rfl, rfl, rfl⟩ := hcs
    have hnm : n ≤ m := by rw [hmm]; split <;> omega
    have key : ∀ i, i < n → ∃ t : Rq, ∃ A' m' c', w.cell? (a.add (i * 5)) = some (.int .i64 t.kind) ∧ w.cell? ((a.add (i * 5)).add 1) = some (.int .i64 t.id) ∧ w.cell? ((a.add (i * 5)).add 2) = some (.slice A' m' c') ∧ w.cell? ((a.add (i * 5)).add 3) = some (.bool t.grant) ∧ w.cell? ((a.add (i * 5)).add 4) = some (.int .i64 t.num) ∧ m' ≤ c' ∧ RdI w w.heap.size A' m' t.xs := by
      intro i hi
      obtain ⟨cs', hc, ht'⟩ := hel i (by omega)
      rw [hCr] at hc
      obtain ⟨_, hcl, hat⟩ := World.cells?_some hc
      obtain ⟨kd, id, A', m', c', xs, gr, nm, rfl, hmc, hx⟩ := rq_of_trod T R hcl ht'
      refine ⟨⟨kd, id, xs, gr, nm⟩, A', m', c', ?_, hat 1 (by omega), hat 2 (by omega), hat 3 (by omega), hat 4 (by omega), hmc, hx⟩
      have := hat 0 (by omega); rw [add_zero'] at this; exact this
    obtain ⟨l, hl', hts⟩ := list_of rq0 n _ key
    refine ⟨hl, l, hl', by unfold maxLen at hm; omega, fun hp => ?_⟩
    obtain ⟨_, _, _, h0, _⟩ := hts 0 hp
    obtain ⟨b, o, rfl, hb⟩ := addr_of (w := w) (a := a) (by rw [Nat.zero_mul, add_zero'] at h0; exact h0)
    refine ⟨b, o, rfl, hb, fun j hj => ?_⟩
    obtain ⟨A', m', c', e0, e1, e2, e3, e4, e5, e6⟩ := hts j hj
    rw [addr_add'] at e0
    rw [addr_add', addr_add'] at e1 e2 e3 e4
    exact ⟨A', m', c', e0, e1, e2, e3, e4, e5, e6⟩
end
end Go.Proofs.YtjjnbbkdjimcoaaGreat
