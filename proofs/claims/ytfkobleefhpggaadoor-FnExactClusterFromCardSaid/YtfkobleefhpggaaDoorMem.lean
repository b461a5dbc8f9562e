/- Words for memory, more: the cells of a list of tasks, a row of tasks that a call owns; append from whatever source. -/
import Derived.Test.YtfkobleefhpggaaDoorLoad
namespace Go.Proofs.YtfkobleefhpggaaDoor
open Go.RowKit

/-- A source of cells: a slice value of m elements of 'size' cells. -/
def Src (w : World) (size : Nat) (A : Option Addr) (m : Nat) (news : List Value) : Prop :=
  news.length = m * size ∧ (0 < m → ∃ ad, A = some ad ∧ ∀ j u, news[j]? = some u → w.cell? (ad.add j) = some u)

section
variable {P : Program} (w : World)

theorem run_append_zero (base : Nat) (t ty e : TypeId) (i : TypeInfo) (size : Nat) (ht : P.underlying t = some (.slice e)) (hi : P.info? e = some i)
    (v : Value) (n : Nat) (xs : List Value) (hown : w.ownsRow base e size v n xs) (c : Nat) : (Builtin.append_ #[t, t] ty #[v, .slice none 0 c]).run P w = .ok v w := by
  rcases hown.2 with ⟨rfl, rfl⟩ | ⟨g, cap, cur, rfl, _, _, hnc, _⟩
  · simp [Builtin.append_, run_underlying ht, sizeOf, typeInfo, hi, Builtin.lenOf, Builtin.firstCells]
  · simp [Builtin.append_, run_underlying ht, sizeOf, typeInfo, hi, Builtin.lenOf, Builtin.firstCells, hnc, storeCells]

theorem run_append_src (base : Nat) (t ty e : TypeId) (i : TypeInfo) (z : Value) (size bytes : Nat) (ht : P.underlying t = some (.slice e)) (hi : P.info? e = some i) (hz : i.zero = some z)
    (hsize : i.size = size) (hby : i.bytes = bytes) (hzs : z.cells.size = size) (hsz : 0 < size)
    (v : Value) (n : Nat) (xs : List Value) (hown : w.ownsRow base e size v n xs)
    (A : Option Addr) (m c : Nat) (news : List Value) (hr : Src w size A m news) (h1 : ∀ u ∈ news, u.oneCell' = true)
    (h63 : n + m ≤ maxLen) (hbytes : (n + m) * bytes ≤ 140737488355328) (hbase : base ≤ w.heap.size) :
    ∃ v' w', (Builtin.append_ #[t, t] ty #[v, .slice A m c]).run P w = .ok v' w' ∧ w'.ownsRow base e size v' (n + m) (xs ++ news) ∧ w.grownBy w' v.ownBlock ∧
      (v'.ownBlock = v.ownBlock ∨ v'.ownBlock = some w.heap.size) := by
  cases A with
  | none =>
    have hm : m = 0 := by
      rcases Nat.eq_zero_or_pos m with h0 | h0
      · exact h0
      · obtain ⟨ad, h, _⟩ := hr.2 h0
        cases h
    subst hm
    have hn : news = [] := List.eq_nil_of_length_eq_zero (by simpa using hr.1)
    subst hn
    exact ⟨v, w, run_append_zero w base t ty e i size ht hi v n xs hown c, by simpa using hown, World.grownBy.refl w _, .inl rfl⟩
  | some ad =>
    have hcells : ∀ j u, news[j]? = some u → w.cell? (ad.add j) = some u := by
      intro j u hu
      rcases Nat.eq_zero_or_pos m with h0 | h0
      · have hn : news = [] := List.eq_nil_of_length_eq_zero (by rw [hr.1, h0]; simp)
        rw [hn] at hu
        simp at hu
      · obtain ⟨ad', h, hc⟩ := hr.2 h0
        injection h with h
        subst h
        exact hc j u hu
    obtain ⟨v', w', hrun, h2, h3, _, h5⟩ := run_append_own_at (P := P) w base t ty e i z size bytes ht hi hz hsize hby hzs hsz v n xs hown ad m c news hr.1 hcells h1 h63 hbytes hbase
    exact ⟨v', w', hrun, h2, h3, h5⟩

theorem wp_append_src {o : Oper} {a : Act} {K : Act → World → Prop} {Q : Exit → Act → World → Prop} (s x : Operand) (t : TypeId)
    (ho : o.op = .call { callee := .builtin .append, args := #[s, x], argTypes := #[t, t] })
    (base : Nat) (e : TypeId) (i : TypeInfo) (z : Value) (size bytes : Nat) (ht : P.underlying t = some (.slice e)) (hi : P.info? e = some i) (hz : i.zero = some z)
    (hsize : i.size = size) (hby : i.bytes = bytes) (hzs : z.cells.size = size) (hsz : 0 < size)
    (v : Value) (n : Nat) (xs : List Value) (hs : a.eval s = v) (hown : w.ownsRow base e size v n xs)
    (A : Option Addr) (m c : Nat) (news : List Value) (hx : a.eval x = .slice A m c) (hr : Src w size A m news) (h1 : ∀ u ∈ news, u.oneCell' = true)
    (h63 : n + m ≤ maxLen) (hbytes : (n + m) * bytes ≤ 140737488355328) (hbase : base ≤ w.heap.size)
    (h : ∀ v' w', w'.ownsRow base e size v' (n + m) (xs ++ news) → w.grownBy w' v.ownBlock → (v'.ownBlock = v.ownBlock ∨ v'.ownBlock = some w.heap.size) → K (a.put o.dst v') w') : o.wp P a w K Q := by
  obtain ⟨v', w', hrun, h2, h3, h4⟩ := run_append_src (P := P) w base t o.type e i z size bytes ht hi hz hsize hby hzs hsz v n xs hown A m c news hr h1 h63 hbytes hbase
  unfold Oper.wp execOp
  simp only [ho, resolve, invoke, builtin, Sem.run_bind, Sem.run_pure, Result.andThen_ok, List.map_toArray, List.map_cons, List.map_nil, hs, hx, hrun]
  exact h v' w' h2 h3 h4

theorem wpList_append_src {ops : Array Oper} {rest : List Oper} {o : Oper} {a : Act} {Q : Exit → Act → World → Prop} (hgd : o.guard = none) (s x : Operand) (t : TypeId)
    (ho : o.op = .call { callee := .builtin .append, args := #[s, x], argTypes := #[t, t] })
    (base : Nat) (e : TypeId) (i : TypeInfo) (z : Value) (size bytes : Nat) (ht : P.underlying t = some (.slice e)) (hi : P.info? e = some i) (hz : i.zero = some z)
    (hsize : i.size = size) (hby : i.bytes = bytes) (hzs : z.cells.size = size) (hsz : 0 < size)
    (v : Value) (n : Nat) (xs : List Value) (hs : a.eval s = v) (hown : w.ownsRow base e size v n xs)
    (A : Option Addr) (m c : Nat) (news : List Value) (hx : a.eval x = .slice A m c) (hr : Src w size A m news) (h1 : ∀ u ∈ news, u.oneCell' = true)
    (h63 : n + m ≤ maxLen) (hbytes : (n + m) * bytes ≤ 140737488355328) (hbase : base ≤ w.heap.size)
    (h : ∀ v' w', w'.ownsRow base e size v' (n + m) (xs ++ news) → w.grownBy w' v.ownBlock → (v'.ownBlock = v.ownBlock ∨ v'.ownBlock = some w.heap.size) → wpList P ops Q rest (a.put o.dst v') w') : wpList P ops Q (o :: rest) a w :=
  wpList_plain hgd fun _ hK => wp_append_src w s x t ho base e i z size bytes ht hi hz hsize hby hzs hsz v n xs hs hown A m c news hx hr h1 h63 hbytes hbase fun v' w' h2 h3 h4 => hK _ _ (h v' w' h2 h3 h4)

theorem step_append_src {ops : Array Oper} {o : Oper} {a : Act} {K : Act → World → Prop} {Q : Exit → Act → World → Prop} {E : Prop} (hgd : o.guard = none) (s x : Operand) (t : TypeId)
    (ho : o.op = .call { callee := .builtin .append, args := #[s, x], argTypes := #[t, t] })
    (base : Nat) (e : TypeId) (i : TypeInfo) (z : Value) (size bytes : Nat) (ht : P.underlying t = some (.slice e)) (hi : P.info? e = some i) (hz : i.zero = some z)
    (hsize : i.size = size) (hby : i.bytes = bytes) (hzs : z.cells.size = size) (hsz : 0 < size)
    (v : Value) (n : Nat) (xs : List Value) (hs : a.eval s = v) (hown : w.ownsRow base e size v n xs)
    (A : Option Addr) (m c : Nat) (news : List Value) (hx : a.eval x = .slice A m c) (hr : Src w size A m news) (h1 : ∀ u ∈ news, u.oneCell' = true)
    (h63 : n + m ≤ maxLen) (hbytes : (n + m) * bytes ≤ 140737488355328) (hbase : base ≤ w.heap.size)
    (h : ∀ v' w', w'.ownsRow base e size v' (n + m) (xs ++ news) → w.grownBy w' v.ownBlock → (v'.ownBlock = v.ownBlock ∨ v'.ownBlock = some w.heap.size) → K (a.put o.dst v') w') :
    if Region.wanted o (yielded ops a.tmps) = true then Oper.wp P o a w K Q else E := by
  have hw : Region.wanted o (yielded ops a.tmps) = true := by simp [Region.wanted, hgd]
  rw [if_pos hw]
  exact wp_append_src w s x t ho base e i z size bytes ht hi hz hsize hby hzs hsz v n xs hs hown A m c news hx hr h1 h63 hbytes hbase h
end

/-- The cells of tasks, whose needs lie below block B. -/
def TkCells (w : World) (B : Nat) (vs : List Value) (ts : List Tk) : Prop :=
  vs.length = ts.length * 2 ∧ ∀ j, j < ts.length → ∃ A' m c, vs[j * 2]? = some (.int .i64 (ts[j]?.getD (0, [])).1) ∧ vs[j * 2 + 1]? = some (.slice A' m c) ∧ m ≤ c ∧ RdI w B A' m (ts[j]?.getD (0, [])).2

section
variable {w w' : World} {B B' : Nat} {vs vs' : List Value} {ts ts' : List Tk}
theorem TkCells.nil : TkCells w B [] [] := ⟨rfl, fun j hj => by simp at hj⟩
theorem TkCells.keep (h : TkCells w B vs ts) (hk : ∀ p : Addr, p.block < B → w'.cell? p = w.cell? p) (hB : B ≤ B') : TkCells w' B' vs ts :=
  ⟨h.1, fun j hj => by obtain ⟨A', m, c, h1, h2, h3, h4⟩ := h.2 j hj; exact ⟨A', m, c, h1, h2, h3, h4.keep hk hB⟩⟩
theorem TkCells.below (h : TkCells w B vs ts) (hb : Below B w w') : TkCells w' B vs ts := h.keep (fun _ hp => hb.cell hp) (Nat.le_refl _)
theorem TkCells.append (h : TkCells w B vs ts) (h' : TkCells w B vs' ts') : TkCells w B (vs ++ vs') (ts ++ ts') := by
  refine ⟨by simp [h.1, h'.1]; omega, fun j hj => ?_⟩
  by_cases hl : j < ts.length
  · obtain ⟨A', m, c, h1, h2, h3, h4⟩ := h.2 j hl
    refine ⟨A', m, c, ?_, ?_, h3, ?_⟩
    · rw [List.getElem?_append_left (by have := h.1; omega), List.getElem?_append_left hl]; exact h1
    · rw [List.getElem?_append_left (by have := h.1; omega)]; exact h2
    · rw [List.getElem?_append_left hl]; exact h4
  · obtain ⟨A', m, c, h1, h2, h3, h4⟩ := h'.2 (j - ts.length) (by simp at hj; omega)
    refine ⟨A', m, c, ?_, ?_, h3, ?_⟩
    · rw [List.getElem?_append_right (by have := h.1; omega), List.getElem?_append_right (by omega), show j * 2 - vs.length = (j - ts.length) * 2 from by have := h.1; omega]; exact h1
    · rw [List.getElem?_append_right (by have := h.1; omega), show j * 2 + 1 - vs.length = (j - ts.length) * 2 + 1 from by have := h.1; omega]; exact h2
    · rw [List.getElem?_append_right (by omega)]; exact h4
theorem TkCells.one (h : TkCells w B vs ts) : ∀ u ∈ vs, u.oneCell' = true := by
  intro u hu
  obtain ⟨i, hi, rfl⟩ := List.getElem_of_mem hu
  obtain ⟨A', m, c, h1, h2, _⟩ := h.2 (i / 2) (by have := h.1; omega)
  rcases Nat.mod_two_eq_zero_or_one i with e | e
  · rw [show i / 2 * 2 = i from by omega, List.getElem?_eq_getElem hi] at h1
    injection h1 with h1; rw [h1]; rfl
  · rw [show i / 2 * 2 + 1 = i from by omega, List.getElem?_eq_getElem hi] at h2
    injection h2 with h2; rw [h2]; rfl

theorem addr_add (b o j : Nat) : (⟨b, o, none⟩ : Addr).add j = ⟨b, o + j, none⟩ := by unfold Addr.add; split <;> simp_all

/-- A slice of tasks, as a source. -/
theorem RdT.src {A : Option Addr} {n : Nat} (h : RdT w B A n ts) : ∃ vs, Src w 2 A n vs ∧ TkCells w B vs ts := by
  rcases Nat.eq_zero_or_pos n with h0 | h0
  · subst h0
    have : ts = [] := List.eq_nil_of_length_eq_zero h.1
    subst this
    exact ⟨[], ⟨rfl, fun h => absurd h (by omega)⟩, TkCells.nil⟩
  · obtain ⟨b, o, rfl, hb, hc⟩ := h.2.2 h0
    have hl := h.1
    let f : Nat → Value := fun i => (w.cell? ⟨b, o + i, none⟩).getD undef
    have hf : ∀ i, i < n * 2 → w.cell? ⟨b, o + i, none⟩ = some (f i) := by
      intro i hi
      obtain ⟨A', m, c, h1, h2, _⟩ := hc (i / 2) (by omega)
      rcases Nat.mod_two_eq_zero_or_one i with e | e
      · rw [show i / 2 * 2 = i from by omega] at h1
        simp only [f, h1, Option.getD_some]
      · rw [show o + i / 2 * 2 + 1 = o + i from by omega] at h2
        simp only [f, h2, Option.getD_some]
    have hg : ∀ i, i < n * 2 → ((List.range (n * 2)).map f)[i]? = some (f i) := by
      intro i hi
      rw [List.getElem?_map, List.getElem?_range hi]; rfl
    refine ⟨(List.range (n * 2)).map f, ⟨by simp, fun _ => ⟨_, rfl, fun j u hu => ?_⟩⟩, ⟨by simp [hl], fun j hj => ?_⟩⟩
    · have hj : j < n * 2 := by
        rcases Nat.lt_or_ge j (n * 2) with h | h
        · exact h
        · rw [List.getElem?_eq_none (by simpa using h)] at hu; cases hu
      rw [hg j hj] at hu
      injection hu with hu
      rw [addr_add, hf j hj, hu]
    · obtain ⟨A', m, c, h1, h2, h3, h4⟩ := hc j (by omega)
      refine ⟨A', m, c, ?_, ?_, h3, h4⟩
      · rw [hg _ (by omega)]
        have := hf (j * 2) (by omega)
        rw [h1] at this
        exact this.symm
      · rw [hg _ (by omega)]
        have := hf (j * 2 + 1) (by omega)
        rw [← Nat.add_assoc, h2] at this
        exact this.symm

/-- A row of tasks that the call owns reads. -/
theorem RdT.of_own {base : Nat} {e : TypeId} {A : Option Addr} {n c : Nat} (h : w.ownsRow base e 2 (.slice A n c) n vs) (ht : TkCells w B vs ts) (hB : B ≤ w.heap.size) (hn : n ≤ 9223372036854775807) : RdT w w.heap.size A n ts := by
  have hl : ts.length = n := by have := h.1; have := ht.1; omega
  refine ⟨hl, hn, fun hp => ?_⟩
  obtain ⟨g, cap, hv, _, hlt⟩ := h.form hp
  have hA : A = some ⟨g, 0, none⟩ := by injection hv
  subst hA
  refine ⟨g, 0, rfl, hlt, fun j hj => ?_⟩
  obtain ⟨A', m, c', h1, h2, h3, h4⟩ := ht.2 j (by omega)
  have e1 := h.cells (g := g) rfl _ _ h1
  have e2 := h.cells (g := g) rfl _ _ h2
  rw [addr_add] at e1 e2
  exact ⟨A', m, c', e1, e2, h3, h4.more hB⟩
end
end Go.Proofs.YtfkobleefhpggaaDoor
