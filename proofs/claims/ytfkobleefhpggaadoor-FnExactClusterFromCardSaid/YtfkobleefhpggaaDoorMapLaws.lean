/- A map with integer keys that a call makes: look-up, a new entry. No program in sight. -/
import Derived.Test.YtfkobleefhpggaaDoorMem
import Derived.MapKept
import Derived.Maps.OwnSet
import Derived.Maps.OwnOps
namespace Go.Proofs.YtfkobleefhpggaaDoor
open Go.RowKit Go.MapKept

/-- Block b is a map that holds just the pairs of l. -/
def IMap (w : World) (b : Nat) (l : List (Int × Value)) : Prop :=
  ∃ es clock, w.heap[b]? = some (.map es clock) ∧ es.toList.map (fun e => (e.key, e.val)) = l.map (fun p => (Value.int .i64 p.1, p.2))
/-- What the map has at a key. -/
def lookL (l : List (Int × Value)) (q : Int) : Option Value := (l.find? (fun p => p.1 == q)).map (·.2)

theorem lookL_none {l : List (Int × Value)} {q : Int} (h : ∀ p ∈ l, p.1 ≠ q) : lookL l q = none := by
  unfold lookL
  have : l.find? (fun p => p.1 == q) = none := by
    rw [List.find?_eq_none]
    intro p hp
    simpa using h p hp
  rw [this]; rfl
theorem lookL_some {l : List (Int × Value)} {q : Int} (h : ∃ p ∈ l, p.1 = q) : ∃ p ∈ l, p.1 = q ∧ lookL l q = some p.2 := by
  unfold lookL
  cases hf : l.find? (fun p => p.1 == q) with
  | none =>
    rw [List.find?_eq_none] at hf
    obtain ⟨p, hp, he⟩ := h
    have := hf p hp
    simp [he] at this
  | some p =>
    exact ⟨p, List.mem_of_find?_eq_some hf, by have := List.find?_some hf; simpa using this, rfl⟩

theorem findNow_int (q : Int) : ∀ (es : List MapEntry) (l : List (Int × Value)) (i : Nat), es.map (fun e => (e.key, e.val)) = l.map (fun p => (Value.int .i64 p.1, p.2)) →
    ∃ r, Instr.findNow (.int .i64) (.int .i64 q) es i = some r ∧ r.map (·.2) = lookL l q
  | [], [], i, _ => ⟨none, rfl, rfl⟩
  | [], _ :: _, _, h => by cases h
  | _ :: _, [], _, h => by cases h
  | e :: es, p :: l, i, h => by
    simp only [List.map_cons, List.cons.injEq, Prod.mk.injEq] at h
    obtain ⟨⟨h1, h2⟩, h3⟩ := h
    by_cases hq : p.1 = q
    · refine ⟨some (i, e.val), ?_, ?_⟩
      · simp [Instr.findNow, Instr.sameNow, h1, hq]
      · simp [lookL, hq, h2]
    · obtain ⟨r, hr, hl⟩ := findNow_int q es l (i + 1) h3
      refine ⟨r, ?_, ?_⟩
      · have : (q == p.1) = false := by simp; exact fun e => hq e.symm
        simp [Instr.findNow, Instr.sameNow, h1, this, hr]
      · rw [hl]
        have : (p.1 == q) = false := by simp [hq]
        simp [lookL, this]

section
variable {P : Program} {w w' : World} {b : Nat} {l : List (Int × Value)}
theorem IMap.made (w : World) : IMap (w.alloc (.map #[] 0)) w.heap.size [] := ⟨#[], 0, heap_alloc_new w _, rfl⟩
theorem IMap.lt (h : IMap w b l) : b < w.heap.size := by obtain ⟨es, clock, hb, _⟩ := h; exact (Array.getElem?_eq_some_iff.1 hb).1
theorem IMap.of_block (h : IMap w b l) (hb : w'.heap[b]? = w.heap[b]?) : IMap w' b l := by obtain ⟨es, clock, h1, h2⟩ := h; exact ⟨es, clock, hb.trans h1, h2⟩
theorem IMap.alloc (h : IMap w b l) (o : Obj) : IMap (w.alloc o) b l := h.of_block (Below.heap_alloc w o b h.lt)
theorem IMap.drewN (h : IMap w b l) (n : Nat) : IMap (w.drewN n) b l := h
theorem IMap.below {B : Nat} (h : IMap w b l) (hb : Below B w w') (hB : b < B) : IMap w' b l := h.of_block (hb.block b hB)
theorem IMap.setCell (h : IMap w b l) {p : Addr} (hp : b ≠ p.block) (u : Value) : IMap (w.setCell p u) b l := h.of_block (Below.heap_setCell w p u b hp)

theorem IMap.look (h : IMap w b l) {t k e : TypeId} (ht : P.underlying t = some (.map k e)) (hk : P.underlying k = some (.int .i64)) {z : Value} (hz : (zeroValue e).run P w = .ok z w) (q : Int) (c : Bool) :
    (Instr.lookup t (.map (some b)) (.int .i64 q) c).run P w = .ok (if c then .tuple #[(lookL l q).getD z, .bool (lookL l q).isSome] else (lookL l q).getD z) w := by
  obtain ⟨es, clock, hb, hm⟩ := h
  obtain ⟨r, hr, hl⟩ := findNow_int q es.toList l 0 hm
  have hck : (Instr.checkKey es.isEmpty 10000 k (.int .i64 q)).run P w = .ok () w := run_checkKey hk (by simp [IsKey]) _ _
  have hfk : (Instr.findKey k (.int .i64 q) es.toList).run P w = .ok r w := run_findKey hk hr
  have hgo : (getObj b).run P w = .ok (.map es clock) w := by simp [getObj, Sem.run, hb]
  rw [← hl]
  cases r with
  | none =>
    cases c <;> simp [Instr.lookup, run_underlying ht, Result.andThen, hgo, hck, hfk, hz]
  | some r =>
    obtain ⟨i, v⟩ := r
    cases c <;> simp [Instr.lookup, run_underlying ht, Result.andThen, hgo, hck, hfk]

theorem IMap.put (h : IMap w b l) {t k e : TypeId} (ht : P.underlying t = some (.map k e)) (hk : P.underlying k = some (.int .i64)) (q : Int) (v : Value) (hn : lookL l q = none) :
    ∃ w', (Instr.mapUpdate t (.map (some b)) (.int .i64 q) v).run P w = .ok () w' ∧ IMap w' b (l ++ [(q, v)]) ∧ w.grownBy w' (some b) := by
  obtain ⟨es, clock, hb, hm⟩ := h
  obtain ⟨r, hr, hl⟩ := findNow_int q es.toList l 0 hm
  rw [hn] at hl
  have hck : (Instr.checkKey false 10000 k (.int .i64 q)).run P w = .ok () w := run_checkKey hk (by simp [IsKey]) _ _
  have hfk : (Instr.findKey k (.int .i64 q) es.toList).run P w = .ok r w := run_findKey hk hr
  have hgo : (getObj b).run P w = .ok (.map es clock) w := by simp [getObj, Sem.run, hb]
  cases r with
  | some r => cases hl
  | none =>
    refine ⟨{ w with heap := w.heap.setIfInBounds b (.map (es.push { key := .int .i64 q, val := v, born := clock }) (clock + 1)) }, ?_, ⟨_, _, (heap_set hb).1, ?_⟩, ⟨rfl, rfl, rfl, by simp, fun i _ hi => (heap_set hb).2 i (fun e => hi (by rw [e]))⟩⟩
    · simp [Instr.mapUpdate, run_underlying ht, Result.andThen, hgo, hck, hfk, run_setObj_map _ hb]
    · simp [hm]
end

section
variable {P : Program} {w : World} {ops : Array Oper} {rest : List Oper} {o : Oper} {a : Act} {Q : Exit → Act → World → Prop}
/-- 'v, ok := m[q]' at the operation. -/
theorem wpList_look_ok (hg : o.guard = none) (m x : Operand) (t : TypeId) (hop : o.op = Op.lookup t m x true) (k e : TypeId) (ht : P.underlying t = some (.map k e)) (hk : P.underlying k = some (.int .i64))
    (z : Value) (hz : (zeroValue e).run P w = .ok z w) (b : Nat) (l : List (Int × Value)) (hm : a.eval m = .map (some b)) (him : IMap w b l) (q : Int) (hx : a.eval x = .int .i64 q) (v : Value) (y : Bool)
    (hv : (lookL l q).getD z = v) (hy : (lookL l q).isSome = y) (h : wpList P ops Q rest (a.put o.dst (.tuple #[v, .bool y])) w) : wpList P ops Q (o :: rest) a w := by
  refine wpList_plain hg fun K' hK' => ?_
  have hrun := him.look (P := P) ht hk hz q true
  unfold Oper.wp
  simp [execOp, hop, hm, hx, hrun, Result.andThen, hv, hy]
  exact hK' _ _ h
/-- 'm[q]' at the operation. -/
theorem wpList_look (hg : o.guard = none) (m x : Operand) (t : TypeId) (hop : o.op = Op.lookup t m x false) (k e : TypeId) (ht : P.underlying t = some (.map k e)) (hk : P.underlying k = some (.int .i64))
    (z : Value) (hz : (zeroValue e).run P w = .ok z w) (b : Nat) (l : List (Int × Value)) (hm : a.eval m = .map (some b)) (him : IMap w b l) (q : Int) (hx : a.eval x = .int .i64 q) (v : Value)
    (hv : (lookL l q).getD z = v) (h : wpList P ops Q rest (a.put o.dst v) w) : wpList P ops Q (o :: rest) a w := by
  refine wpList_plain hg fun K' hK' => ?_
  have hrun := him.look (P := P) ht hk hz q false
  unfold Oper.wp
  simp [execOp, hop, hm, hx, hrun, Result.andThen, hv]
  exact hK' _ _ h
/-- 'm[q] = v' at the operation, q being new. -/
theorem wpList_put (hg : o.guard = none) (m x u : Operand) (t : TypeId) (hop : o.op = Op.mapUpdate t m x u) (k e : TypeId) (ht : P.underlying t = some (.map k e)) (hk : P.underlying k = some (.int .i64))
    (b : Nat) (l : List (Int × Value)) (hm : a.eval m = .map (some b)) (him : IMap w b l) (q : Int) (v : Value) (hx : a.eval x = .int .i64 q) (hv : a.eval u = v) (hn : lookL l q = none)
    (h : ∀ w', IMap w' b (l ++ [(q, v)]) → w.grownBy w' (some b) → wpList P ops Q rest (a.put o.dst undef) w') : wpList P ops Q (o :: rest) a w := by
  refine wpList_plain hg fun K' hK' => ?_
  obtain ⟨w', hrun, r1, r2⟩ := him.put (P := P) ht hk q v hn
  unfold Oper.wp
  simp [execOp, hop, hm, hx, hv, hrun, Result.andThen]
  exact hK' _ _ (h w' r1 r2)
end
end Go.Proofs.YtfkobleefhpggaaDoor
