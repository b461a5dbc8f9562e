/- Several texts in one. -/
import Derived.Test.YtdgeicdiiakhjaaGreatW1
namespace Go.Proofs.YtdgeicdiiakhjaaGreat
open Go.RowKit

/-- A source of cells: a slice value of m elements of 'size' cells. -/
def Src (w : World) (size : Nat) (A : Option Addr) (m : Nat) (news : List Value) : Prop :=
  news.length = m * size ∧ (0 < m → ∃ ad, A = some ad ∧ ∀ j u, news[j]? = some u → w.cell? (ad.add j) = some u)

section
variable {P : Program} (w : World)

theorem run_append_zero (base : Nat) (t ty e : TypeId) (i : TypeInfo) (size : Nat) (ht : P.underlying t = some (.slice e)) (hi : P.info? e = some i)
    (v : Value) (n : Nat) (xs : List Value) (hown : w.ownsRow base e size v n xs) (c : Nat) : (Builtin.append_ #[t, t] ty #[v, .slice none 0 c]).run P w = .ok v w := by
  rcases hown.2 with ⟨rfl, rfl⟩ | ⟨g, cap, cur, rfl, _, _, hnc, _⟩
  · simp [Builtin.append_, run_underlying ht, sizeOf, typeInfo, hi, Builtin.lenOf, Builtin.firstCells]
  · simp [Builtin.append_, run_underlying ht, sizeOf, typeInfo, hi, Builtin.lenOf, Builtin.firstCells, hnc, storeCells]

theorem run_append_src (base : Nat) (t ty e : TypeId) (i : TypeInfo) (z : Value) (size bytes : Nat) (ht : P.underlying t = some (.slice e)) (hi : P.info? e = some i) (hz : i.zero = some z)
    (hsize : i.size = size) (hby : i.bytes = bytes) (hzs : z.cells.size = size) (hsz : 0 < size)
    (v : Value) (n : Nat) (xs : List Value) (hown : w.ownsRow base e size v n xs)
    (A : Option Addr) (m c : Nat) (news : List Value) (hr : Src w size A m news) (h1 : ∀ u ∈ news, u.oneCell' = true)
    (h63 : n + m ≤ maxLen) (hbytes : (n + m) * bytes ≤ 140737488355328) (hbase : base ≤ w.heap.size) :
    ∃ v' w', (Builtin.append_ #[t, t] ty #[v, .slice A m c]).run P w = .ok v' w' ∧ w'.ownsRow base e size v' (n + m) (xs ++ news) ∧ w.grownBy w' v.ownBlock ∧
      (v'.ownBlock = v.ownBlock ∨ v'.ownBlock = some w.heap.size) := by
  cases A with
  | none =>
    have hm : m = 0 := by
      rcases Nat.eq_zero_or_pos m with h0 | h0
      · exact h0
      · obtain ⟨ad, h, _⟩ := hr.2 h0
        cases h
    subst hm
    have hn : news = [] := List.eq_nil_of_length_eq_zero (by simpa using hr.1)
    subst hn
    exact ⟨v, w, run_append_zero w base t ty e i size ht hi v n xs hown c, by simpa using hown, World.grownBy.refl w _, .inl rfl⟩
  | some ad =>
    have hcells : ∀ j u, news[j]? = some u → w.cell? (ad.add j) = some u := by
      intro j u hu
      rcases Nat.eq_zero_or_pos m with h0 | h0
      · have hn : news = [] := List.eq_nil_of_length_eq_zero (by rw [hr.1, h0]; simp)
        rw [hn] at hu
        simp at hu
      · obtain ⟨ad', h, hc⟩ := hr.2 h0
        injection h with h
        subst h
        exact hc j u hu
    obtain ⟨v', w', hrun, h2, h3, _, h5⟩ := run_append_own_at (P := P) w base t ty e i z size bytes ht hi hz hsize hby hzs hsz v n xs hown ad m c news hr.1 hcells h1 h63 hbytes hbase
    exact ⟨v', w', hrun, h2, h3, h5⟩

theorem wp_append_src {o : Oper} {a : Act} {K : Act → World → Prop} {Q : Exit → Act → World → Prop} (s x : Operand) (t : TypeId)
    (ho : o.op = .call { callee := .builtin .append, args := #[s, x], argTypes := #[t, t] })
    (base : Nat) (e : TypeId) (i : TypeInfo) (z : Value) (size bytes : Nat) (ht : P.underlying t = some (.slice e)) (hi : P.info? e = some i) (hz : i.zero = some z)
    (hsize : i.size = size) (hby : i.bytes = bytes) (hzs : z.cells.size = size) (hsz : 0 < size)
    (v : Value) (n : Nat) (xs : List Value) (hs : a.eval s = v) (hown : w.ownsRow base e size v n xs)
    (A : Option Addr) (m c : Nat) (news : List Value) (hx : a.eval x = .slice A m c) (hr : Src w size A m news) (h1 : ∀ u ∈ news, u.oneCell' = true)
    (h63 : n + m ≤ maxLen) (hbytes : (n + m) * bytes ≤ 140737488355328) (hbase : base ≤ w.heap.size)
    (h : ∀ v' w', w'.ownsRow base e size v' (n + m) (xs ++ news) → w.grownBy w' v.ownBlock → (v'.ownBlock = v.ownBlock ∨ v'.ownBlock = some w.heap.size) → K (a.put o.dst v') w') : o.wp P a w K Q := by
  obtain ⟨v', w', hrun, h2, h3, h4⟩ := run_append_src (P := P) w base t o.type e i z size bytes ht hi hz hsize hby hzs hsz v n xs hown A m c news hr h1 h63 hbytes hbase
  unfold Oper.wp execOp
  simp only [ho, resolve, invoke, builtin, Sem.run_bind, Sem.run_pure, Result.andThen_ok, List.map_toArray, List.map_cons, List.map_nil, hs, hx, hrun]
  exact h v' w' h2 h3 h4

theorem wpList_append_src {ops : Array Oper} {rest : List Oper} {o : Oper} {a : Act} {Q : Exit → Act → World → Prop} (hgd : o.guard = none) (s x : Operand) (t : TypeId)
    (ho : o.op = .call { callee := .builtin .append, args := #[s, x], argTypes := #[t, t] })
    (base : Nat) (e : TypeId) (i : TypeInfo) (z : Value) (size bytes : Nat) (ht : P.underlying t = some (.slice e)) (hi : P.info? e = some i) (hz : i.zero = some z)
    (hsize : i.size = size) (hby : i.bytes = bytes) (hzs : z.cells.size = size) (hsz : 0 < size)
    (v : Value) (n : Nat) (xs : List Value) (hs : a.eval s = v) (hown : w.ownsRow base e size v n xs)
    (A : Option Addr) (m c : Nat) (news : List Value) (hx : a.eval x = .slice A m c) (hr : Src w size A m news) (h1 : ∀ u ∈ news, u.oneCell' = true)
    (h63 : n + m ≤ maxLen) (hbytes : (n + m) * bytes ≤ 140737488355328) (hbase : base ≤ w.heap.size)
    (h : ∀ v' w', w'.ownsRow base e size v' (n + m) (xs ++ news) → w.grownBy w' v.ownBlock → (v'.ownBlock = v.ownBlock ∨ v'.ownBlock = some w.heap.size) → wpList P ops Q rest (a.put o.dst v') w') : wpList P ops Q (o :: rest) a w :=
  wpList_plain hgd fun _ hK => wp_append_src w s x t ho base e i z size bytes ht hi hz hsize hby hzs hsz v n xs hs hown A m c news hx hr h1 h63 hbytes hbase fun v' w' h2 h3 h4 => hK _ _ (h v' w' h2 h3 h4)

theorem step_append_src {ops : Array Oper} {o : Oper} {a : Act} {K : Act → World → Prop} {Q : Exit → Act → World → Prop} {E : Prop} (hgd : o.guard = none) (s x : Operand) (t : TypeId)
    (ho : o.op = .call { callee := .builtin .append, args := #[s, x], argTypes := #[t, t] })
    (base : Nat) (e : TypeId) (i : TypeInfo) (z : Value) (size bytes : Nat) (ht : P.underlying t = some (.slice e)) (hi : P.info? e = some i) (hz : i.zero = some z)
    (hsize : i.size = size) (hby : i.bytes = bytes) (hzs : z.cells.size = size) (hsz : 0 < size)
    (v : Value) (n : Nat) (xs : List Value) (hs : a.eval s = v) (hown : w.ownsRow base e size v n xs)
    (A : Option Addr) (m c : Nat) (news : List Value) (hx : a.eval x = .slice A m c) (hr : Src w size A m news) (h1 : ∀ u ∈ news, u.oneCell' = true)
    (h63 : n + m ≤ maxLen) (hbytes : (n + m) * bytes ≤ 140737488355328) (hbase : base ≤ w.heap.size)
    (h : ∀ v' w', w'.ownsRow base e size v' (n + m) (xs ++ news) → w.grownBy w' v.ownBlock → (v'.ownBlock = v.ownBlock ∨ v'.ownBlock = some w.heap.size) → K (a.put o.dst v') w') :
    if Region.wanted o (yielded ops a.tmps) = true then Oper.wp P o a w K Q else E := by
  have hw : Region.wanted o (yielded ops a.tmps) = true := by simp [Region.wanted, hgd]
  rw [if_pos hw]
  exact wp_append_src w s x t ho base e i z size bytes ht hi hz hsize hby hzs hsz v n xs hs hown A m c news hx hr h1 h63 hbytes hbase h
end

/-- The cells of tasks, whose needs lie below block B. -/
def TkCells (w : World) (B : Nat) (vs : List Value) (ts : List Tk) : Prop :=
  vs.length = ts.length * 2 ∧ ∀ j, j < ts.length → ∃ A' m c, vs[j * 2]? = some (.int .i64 (ts[j]?.getD (0, [])).1) ∧ vs[j * 2 + 1]? = some (.slice A' m c) ∧ m ≤ c ∧ RdI w B A' m (ts[j]?.getD (0, [])).2

section
variable {w w' : World} {B B' : Nat} {vs vs' : List Value} {ts ts' : List Tk}
theorem TkCells.nil : TkCells w B [] [] := ⟨rfl, fun j hj => by simp at hj⟩
theorem TkCells.keep (h : TkCells w B vs ts) (hk : ∀ p : Addr, p.block < B → w'.cell? p = w.cell? p) (hB : B ≤ B') : TkCells w' B' vs ts :=
  ⟨h.1, fun j hj => by obtain ⟨A', m, c, h1, h2, h3, h4⟩ := h.2 j hj; exact ⟨A', m, c, h1, h2, h3, h4.keep hk hB⟩⟩
theorem TkCells.below (h : TkCells w B vs ts) (hb : Below B w w') : TkCells w' B vs ts := h.keep (fun _ hp => hb.cell hp) (Nat.le_refl _)
theorem TkCells.append (h : TkCells w B vs ts) (h' : TkCells w B vs' ts') : TkCells w B (vs ++ vs') (ts ++ ts') := by
  refine ⟨by simp [h.1, h'.1]; omega, fun j hj => ?_⟩
  by_cases hl : j < ts.length
  · obtain ⟨A', m, c, h1, h2, h3, h4⟩ := h.2 j hl
    refine ⟨A', m, c, ?_, ?_, h3, ?_⟩
    · rw [List.getElem?_append_left (by have := h.1; omega), List.getElem?_append_left hl]; exact h1
    · rw [List.getElem?_append_left (by have := h.1; omega)]; exact h2
    · rw [List.getElem?_append_left hl]; exact h4
  · obtain ⟨A', m, c, h1, h2, h3, h4⟩ := h'.2 (j - ts.length) (by simp at hj; omega)
    refine ⟨A', m, c, ?_, ?_, h3, ?_⟩
    · rw [List.getElem?_append_right (by have := h.1; omega), List.getElem?_append_right (by omega), show j * 2 - vs.length = (j - ts.length) * 2 from by have := h.1; omega]; exact h1
    · rw [List.getElem?_append_right (by have := h.1; omega), show j * 2 + 1 - vs.length = (j - ts.length) * 2 + 1 from by have := h.1; omega]; exact h2
    · rw [List.getElem?_append_right (by omega)]; exact h4
theorem TkCells.one (h : TkCells w B vs ts) : ∀ u ∈ vs, u.oneCell' = true := by
  intro u hu
  obtain ⟨i, hi, rfl⟩ := List.getElem_of_mem hu
  obtain ⟨A', m, c, h1, h2, _⟩ := h.2 (i / 2) (by have := h.1; omega)
  rcases Nat.mod_two_eq_zero_or_one i with e | e
  · rw [show i / 2 * 2 = i from by omega, List.getElem?_eq_getElem hi] at h1
    injection h1 with h1; rw [h1]; rfl
  · rw [show i / 2 * 2 + 1 = i from by omega, List.getElem?_eq_getElem hi] at h2
    injection h2 with h2; rw [h2]; rfl

theorem addr_add (b o j : Nat) : (⟨b, o, none⟩ : Addr).add j = ⟨b, o + j, none⟩ := by unfold Addr.add; split <;> simp_all

/-- A slice of tasks, as a source. -/
theorem RdT.src {A : Option Addr} {n : Nat} (h : RdT w B A n ts) : ∃ vs, Src w 2 A n vs ∧ TkCells w B vs ts := by
  rcases Nat.eq_zero_or_pos n with h0 | h0
  · subst h0
    have : ts = [] := List.eq_nil_of_length_eq_zero h.1
    subst this
    exact ⟨[], ⟨rfl, fun h => absurd h (by omega)⟩, TkCells.nil⟩
  · obtain ⟨b, o, rfl, hb, hc⟩ := h.2.2 h0
    have hl := h.1
    let f : Nat → Value := fun i => (w.cell? ⟨b, o + i, none⟩).getD undef
    have hf : ∀ i, i < n * 2 → w.cell? ⟨b, o + i, none⟩ = some (f i) := by
      intro i hi
      obtain ⟨A', m, c, h1, h2, _⟩ := hc (i / 2) (by omega)
      rcases Nat.mod_two_eq_zero_or_one i with e | e
      · rw [show i / 2 * 2 = i from by omega] at h1
        simp only [f, h1, Option.getD_some]
      · rw [show o + i / 2 * 2 + 1 = o + i from by omega] at h2
        simp only [f, h2, Option.getD_some]
    have hg : ∀ i, i < n * 2 → ((List.range (n * 2)).map f)[i]? = some (f i) := by
      intro i hi
      rw [List.getElem?_map, List.getElem?_range hi]; rfl
    refine ⟨(List.range (n * 2)).map f, ⟨by simp, fun _ => ⟨_, rfl, fun j u hu => ?_⟩⟩, ⟨by simp [hl], fun j hj => ?_⟩⟩
    · have hj : j < n * 2 := by
        rcases Nat.lt_or_ge j (n * 2) with h | h
        · exact h
        · rw [List.getElem?_eq_none (by simpa using h)] at hu; cases hu
      rw [hg j hj] at hu
      injection hu with hu
      rw [addr_add, hf j hj, hu]
    · obtain ⟨A', m, c, h1, h2, h3, h4⟩ := hc j (by omega)
      refine ⟨A', m, c, ?_, ?_, h3, h4⟩
      · rw [hg _ (by omega)]
        have := hf (j * 2) (by omega)
        rw [h1] at this
        exact this.symm
      · rw [hg _ (by omega)]
        have := hf (j * 2 + 1) (by omega)
        rw [← Nat.add_assoc, h2] at this
        exact this.symm

/-- A row of tasks that the call owns reads. -/
theorem RdT.of_own {base : Nat} {e : TypeId} {A : Option Addr} {n c : Nat} (h : w.ownsRow base e 2 (.slice A n c) n vs) (ht : TkCells w B vs ts) (hB : B ≤ w.heap.size) (hn : n ≤ 9223372036854775807) : RdT w w.heap.size A n ts := by
  have hl : ts.length = n := by have := h.1; have := ht.1; omega
  refine ⟨hl, hn, fun hp => ?_⟩
  obtain ⟨g, cap, hv, _, hlt⟩ := h.form hp
  have hA : A = some ⟨g, 0, none⟩ := by injection hv
  subst hA
  refine ⟨g, 0, rfl, hlt, fun j hj => ?_⟩
  obtain ⟨A', m, c', h1, h2, h3, h4⟩ := ht.2 j (by omega)
  have e1 := h.cells (g := g) rfl _ _ h1
  have e2 := h.cells (g := g) rfl _ _ h2
  rw [addr_add] at e1 e2
  exact ⟨A', m, c', e1, e2, h3, h4.more hB⟩
end
end Go.Proofs.YtdgeicdiiakhjaaGreat

namespace Go.Proofs.YtdgeicdiiakhjaaGreat
open Go.RowKit

theorem hasP_take_iff {ts : List Tk} {k : Nat} {id : Int} (hk : k ≤ ts.length) : hasP (ts.take k) id = true ↔ ∃ i, i < k ∧ (ts[i]?.getD (0, [])).1 = id := by
  simp only [hasP, List.any_eq_true, beq_iff_eq]
  constructor
  · rintro ⟨t, ht, he⟩
    obtain ⟨i, hi, rfl⟩ := List.getElem_of_mem ht
    have hi' : i < k := by simp at hi; omega
    refine ⟨i, hi', ?_⟩
    rw [List.getElem?_eq_getElem (by omega)]
    simpa using he
  · rintro ⟨i, hi, he⟩
    rw [List.getElem?_eq_getElem (by omega)] at he
    refine ⟨ts[i], ?_, by simpa using he⟩
    rw [List.mem_take_iff_getElem]
    exact ⟨i, by omega, rfl⟩

theorem nodup_iff {ts : List Tk} : (ts.map (·.1)).Nodup ↔ ∀ j, j < ts.length → hasP (ts.take j) (ts[j]?.getD (0, [])).1 = false := by
  unfold List.Nodup
  rw [List.pairwise_iff_getElem]
  constructor
  · intro h j hj
    rw [← Bool.not_eq_true, hasP_take_iff (by omega)]
    rintro ⟨i, hi, he⟩
    have := h i j (by simp; omega) (by simpa using hj) hi
    rw [List.getElem?_eq_getElem (by omega), List.getElem?_eq_getElem hj] at he
    exact this (by simpa using he)
  · intro h i j hi hj hij he
    have := h j (by simpa using hj)
    rw [← Bool.not_eq_true, hasP_take_iff (by simp at hj; omega)] at this
    refine this ⟨i, hij, ?_⟩
    rw [List.getElem?_eq_getElem (by simpa using hi), List.getElem?_eq_getElem (by simpa using hj)]
    simpa using he

theorem allT_iff {ts : List Tk} {p : Tk → Bool} : ts.all p = true ↔ ∀ j, j < ts.length → p (ts[j]?.getD (0, [])) = true := by
  rw [List.all_eq_true]
  constructor
  · intro h j hj
    rw [List.getElem?_eq_getElem hj]
    exact h _ (List.getElem_mem _)
  · intro h x hx
    obtain ⟨j, hj, rfl⟩ := List.getElem_of_mem hx
    have := h j hj
    rwa [List.getElem?_eq_getElem hj] at this

theorem tasksOk_all {room : List Int} {ts : List Tk} (hr : roomOk room = true) (h : ∀ j, j < ts.length → taskOk room (ts[j]?.getD (0, [])) = true ∧ hasP (ts.take j) (ts[j]?.getD (0, [])).1 = false) :
    tasksOk room ts = decide (ts.length ≤ 14) := by
  unfold tasksOk
  rw [hr, allT_iff.2 (fun j hj => (h j hj).1), decide_eq_true (nodup_iff.2 (fun j hj => (h j hj).2))]
  simp
theorem tasksOk_room {room : List Int} {ts : List Tk} (hr : roomOk room = false) : tasksOk room ts = false := by simp [tasksOk, hr]
theorem tasksOk_bad {room : List Int} {ts : List Tk} {k : Nat} (hk : k < ts.length) (h : taskOk room (ts[k]?.getD (0, [])) = false) : tasksOk room ts = false := by
  rw [← Bool.not_eq_true]; intro hh
  simp only [tasksOk, Bool.and_eq_true] at hh
  have := allT_iff.1 hh.1.2 k hk
  rw [h] at this; cases this
theorem tasksOk_twice {room : List Int} {ts : List Tk} {k : Nat} (hk : k < ts.length) (h : hasP (ts.take k) (ts[k]?.getD (0, [])).1 = true) : tasksOk room ts = false := by
  rw [← Bool.not_eq_true]; intro hh
  simp only [tasksOk, Bool.and_eq_true, decide_eq_true_eq] at hh
  have := nodup_iff.1 hh.2 k hk
  rw [h] at this; cases this
theorem tasksOk_room' {room : List Int} {ts : List Tk} (h : tasksOk room ts = true) : roomOk room = true := by
  simp only [tasksOk, Bool.and_eq_true] at h; exact h.1.1.1
theorem tasksOk_len {room : List Int} {ts : List Tk} (h : tasksOk room ts = true) : ts.length ≤ 14 := by
  simp only [tasksOk, Bool.and_eq_true, decide_eq_true_eq] at h; exact h.1.1.2
theorem tasksOk_at {room : List Int} {ts : List Tk} (h : tasksOk room ts = true) {k : Nat} (hk : k < ts.length) : taskOk room (ts[k]?.getD (0, [])) = true := by
  simp only [tasksOk, Bool.and_eq_true, decide_eq_true_eq] at h; exact allT_iff.1 h.1.2 k hk
theorem tasksOk_mem {room : List Int} {ts : List Tk} (h : tasksOk room ts = true) {t : Tk} (ht : t ∈ ts) : taskOk room t = true := by
  simp only [tasksOk, Bool.and_eq_true, decide_eq_true_eq] at h; exact List.all_eq_true.1 h.1.2 t ht
theorem taskOk_vec {room : List Int} {t : Tk} (h : taskOk room t = true) : vecOk t.2 = true := by
  simp only [taskOk, vecFits, Bool.and_eq_true] at h; exact h.2.1.1
theorem roomOk_vec {room : List Int} (h : roomOk room = true) : vecOk room = true := by
  simp only [roomOk, Bool.and_eq_true] at h; exact h.1

set_option maxRecDepth 100000 in
set_option maxHeartbeats 400000 in
theorem tasksValidS_any (A1 A2 : Option Addr) (n1 c1 n2 c2 : Nat) (room : List Int) (ts : List Tk) (w : World) (h1 : RdI w w.heap.size A1 n1 room) (h2 : RdT w w.heap.size A2 n2 ts) :
    Calls Tryz.prog 9 #[.slice A1 n1 c1, .slice A2 n2 c2] w fun e w' => e = .returned (.bool (tasksOk room ts)) ∧ ∃ m, w.drewN m = w' := by
  have hl := qh h2.len
  have hn := h2.le
  have H1 := qh h1
  clear h1
  by_cases hr : roomOk room = true
  · have Hr := qh hr
    go_enter Tryz.func9, Tryz.ntmps9
    go_wp2_with (go_at_call 27; refine (l2Room_any _ _ _ _ _ _ H1.out).mono ?_; rintro e w1 ⟨rfl, rfl⟩)
    go_loopw [5] (fun i wr => ∃ k m : Nat, i = .int .i64 k ∧ k ≤ n2 ∧ wr = w.drewN m ∧ (∀ j, j < k → taskOk room (ts[j]?.getD (0, [])) = true ∧ hasP (ts.take j) (ts[j]?.getD (0, [])).1 = false)) (fun i _ => n2 - (intOf i).toNat)
    case atStart => exact ⟨0, 0, rfl, Nat.zero_le _, rfl, by intro j hj; omega⟩
    case round =>
      obtain ⟨k, m, rfl, hk, rfl, hall⟩ := hrel
      have Hall := qh hall
      clear hall
      by_cases hlt : k < n2
      · obtain ⟨b, o, A', m', c', rfl, hb, hc1, hc2, hmc, hrd⟩ := h2.at_ hlt
        have H2 := qh h2
        have Hrd := qh hrd
        clear h2 hrd
        by_cases hid : inR 1 40 (ts[k]?.getD (0, [])).1 = true
        · by_cases hh : hasP (ts.take k) (ts[k]?.getD (0, [])).1 = true
          · go_wp2_with fail
            refine (l6In_any _ _ _ _).mono ?_; rintro e w1 ⟨rfl, rfl⟩
            go_wp2_with fail
            refine (l2Has_any _ _ _ _ _ _ _ _ (H2.out.drewN m) (by omega) (by omega)).mono ?_; rintro e w1 ⟨rfl, rfl⟩
            rw [Int.toNat_natCast]
            go_wp2
            go_ret
            exact ⟨ret_bool (tasksOk_twice (by have := hl.out; omega) hh).symm, _, rfl⟩
          · have hh : hasP (ts.take k) (ts[k]?.getD (0, [])).1 = false := by simpa using hh
            by_cases hf : vecFits (ts[k]?.getD (0, [])).2 room = true
            · go_wp2_with fail
              refine (l6In_any _ _ _ _).mono ?_; rintro e w1 ⟨rfl, rfl⟩
              go_wp2_with fail
              refine (l2Has_any _ _ _ _ _ _ _ _ (H2.out.drewN m) (by omega) (by omega)).mono ?_; rintro e w1 ⟨rfl, rfl⟩
              rw [Int.toNat_natCast]
              go_wp2_with fail
              refine (vecFits_any _ _ _ _ _ _ _ _ _ _ _ (Hrd.out.drewN m) (H1.out.drewN m)).mono ?_; rintro e w1 ⟨rfl, q, rfl⟩
              have Hid := qh hid
              have Hh := qh hh
              have Hf := qh hf
              go_wp2
              go_roundw
              case rel => exact ⟨k + 1, _, by go_num, by omega, rfl, fun j hj => by
                by_cases e : j = k
                · rw [e]; exact ⟨by simp [taskOk, Hid.out, Hf.out], Hh.out⟩
                · exact Hall.out j (by omega)⟩
              case measure => simp [intOf]; omega
            · have hf : vecFits (ts[k]?.getD (0, [])).2 room = false := by simpa using hf
              go_wp2_with fail
              refine (l6In_any _ _ _ _).mono ?_; rintro e w1 ⟨rfl, rfl⟩
              go_wp2_with fail
              refine (l2Has_any _ _ _ _ _ _ _ _ (H2.out.drewN m) (by omega) (by omega)).mono ?_; rintro e w1 ⟨rfl, rfl⟩
              rw [Int.toNat_natCast]
              go_wp2_with fail
              refine (vecFits_any _ _ _ _ _ _ _ _ _ _ _ (Hrd.out.drewN m) (H1.out.drewN m)).mono ?_; rintro e w1 ⟨rfl, q, rfl⟩
              go_wp2
              go_ret
              exact ⟨ret_bool (tasksOk_bad (k := k) (by have := hl.out; omega) (by simp [taskOk, hf])).symm, _, rfl⟩
        · have hid : inR 1 40 (ts[k]?.getD (0, [])).1 = false := by simpa using hid
          go_wp2_with fail
          refine (l6In_any _ _ _ _).mono ?_; rintro e w1 ⟨rfl, rfl⟩
          go_wp2
          go_ret
          exact ⟨ret_bool (tasksOk_bad (k := k) (by have := hl.out; omega) (by simp [taskOk, hid])).symm, _, rfl⟩
      · have H2 := qh h2
        clear h2
        go_wp2
        go_ret
        refine ⟨ret_bool ?_, _, rfl⟩
        rw [tasksOk_all Hr.out (fun j hj => Hall.out j (by have := hl.out; omega)), hl.out, Bool.eq_iff_iff]
        simp
        omega
  · have hr : roomOk room = false := by simpa using hr
    go_enter Tryz.func9, Tryz.ntmps9
    go_wp2_with (go_at_call 27; refine (l2Room_any _ _ _ _ _ _ H1.out).mono ?_; rintro e w1 ⟨rfl, rfl⟩)
    go_ret
    exact ⟨ret_bool (tasksOk_room hr).symm, 0, rfl⟩

theorem flat_take_succ {bs : List (List Tk)} {k : Nat} (h : k < bs.length) : (bs.take (k + 1)).flatten = (bs.take k).flatten ++ bs[k]?.getD [] := by
  rw [List.take_succ_eq_append_getElem h, List.flatten_append, List.getElem?_eq_getElem h]
  simp
theorem flat_take_le {bs : List (List Tk)} (k : Nat) : (bs.take k).flatten.length ≤ bs.flatten.length := by
  conv => rhs; rw [← List.take_append_drop k bs, List.flatten_append, List.length_append]
  omega

theorem bin_mem {bs : List (List Tk)} {k : Nat} (h : k < bs.length) {t : Tk} (ht : t ∈ bs[k]?.getD []) : t ∈ bs.flatten := by
  rw [List.getElem?_eq_getElem h] at ht
  exact List.mem_flatten.2 ⟨_, List.getElem_mem h, ht⟩
theorem bin_len {bs : List (List Tk)} {k : Nat} (h : k < bs.length) : (bs[k]?.getD []).length ≤ bs.flatten.length := by
  have h1 := flat_take_succ h
  have h2 := flat_take_le (bs := bs) (k + 1)
  rw [h1, List.length_append] at h2
  omega
theorem tk_default {ts : List Tk} {p : Tk → Prop} (h : ∀ t ∈ ts, p t) (h0 : p (0, [])) (j : Nat) : p (ts[j]?.getD (0, [])) := by
  by_cases hj : j < ts.length
  · rw [List.getElem?_eq_getElem hj]; exact h _ (List.getElem_mem hj)
  · rw [List.getElem?_eq_none (by omega)]; exact h0
theorem tk_at {ts : List Tk} {p : Tk → Prop} (h : ∀ t ∈ ts, p t) {j : Nat} (hj : j < ts.length) : p (ts[j]?.getD (0, [])) := by
  rw [List.getElem?_eq_getElem hj]; exact h _ (List.getElem_mem hj)
/-- Valid tasks can be added up. -/
theorem load_ok {ts : List Tk} (h : ∀ t ∈ ts, vecOk t.2 = true) : (∀ j, j < ts.length → (ts[j]?.getD (0, [])).2.length = 3) ∧ (∀ j i : Nat, 0 ≤ (ts[j]?.getD (0, [])).2[i]?.getD 0 ∧ (ts[j]?.getD (0, [])).2[i]?.getD 0 ≤ 1000) :=
  ⟨fun _ hj => tk_at (p := fun t => t.2.length = 3) (fun t ht => vecOk_len (h t ht)) hj,
   fun j i => tk_default (p := fun t => 0 ≤ t.2[i]?.getD 0 ∧ t.2[i]?.getD 0 ≤ 1000) (fun t ht => by have := vecOk_bd (h t ht) i; omega) (by simp) j⟩
theorem tasksOk_vecs {room : List Int} {ts : List Tk} (h : tasksOk room ts = true) : ∀ t ∈ ts, vecOk t.2 = true := fun _ ht => taskOk_vec (tasksOk_mem h ht)

theorem allB_iff {bs : List (List Tk)} {p : List Tk → Bool} : bs.all p = true ↔ ∀ j, j < bs.length → p (bs[j]?.getD []) = true := by
  rw [List.all_eq_true]
  constructor
  · intro h j hj
    rw [List.getElem?_eq_getElem hj]
    exact h _ (List.getElem_mem _)
  · intro h x hx
    obtain ⟨j, hj, rfl⟩ := List.getElem_of_mem hx
    have := h j hj
    rwa [List.getElem?_eq_getElem hj] at this
theorem binsOk_tasks {room : List Int} {bs : List (List Tk)} (h : binsOk room bs = true) : tasksOk room bs.flatten = true := by
  simp only [binsOk, Bool.and_eq_true] at h; exact h.1.2
theorem binsOk_len {room : List Int} {bs : List (List Tk)} (h : binsOk room bs = true) : bs.length ≤ 14 := by
  simp only [binsOk, Bool.and_eq_true, decide_eq_true_eq] at h; exact h.1.1

theorem whereP_none {bs : List (List Tk)} {id : Int} (h : ∀ j, j < bs.length → hasP (bs[j]?.getD []) id = false) : whereP bs id = -1 := by
  have : bs.findIdx? (fun b => hasP b id) = none := by
    rw [List.findIdx?_eq_none_iff]
    intro b hb
    obtain ⟨j, hj, rfl⟩ := List.getElem_of_mem hb
    have := h j hj
    rwa [List.getElem?_eq_getElem hj] at this
  rw [whereP, this]
theorem whereP_some {bs : List (List Tk)} {id : Int} {k : Nat} (hk : k < bs.length) (hh : hasP (bs[k]?.getD []) id = true) (h : ∀ j, j < k → hasP (bs[j]?.getD []) id = false) : whereP bs id = k := by
  have : bs.findIdx? (fun b => hasP b id) = some k := by
    rw [List.findIdx?_eq_some_iff_getElem]
    refine ⟨hk, by rwa [List.getElem?_eq_getElem hk] at hh, fun j hj => ?_⟩
    have := h j hj
    rw [List.getElem?_eq_getElem (by omega)] at this
    simpa using this
  rw [whereP, this]
theorem whereP_cases (bs : List (List Tk)) (id : Int) : (whereP bs id = -1 ∧ ∀ j, j < bs.length → hasP (bs[j]?.getD []) id = false) ∨ (∃ k, k < bs.length ∧ whereP bs id = k ∧ hasP (bs[k]?.getD []) id = true ∧ ∀ j, j < k → hasP (bs[j]?.getD []) id = false) := by
  cases h : bs.findIdx? (fun b => hasP b id) with
  | none =>
    refine .inl ⟨by rw [whereP, h], fun j hj => ?_⟩
    rw [List.findIdx?_eq_none_iff] at h
    rw [List.getElem?_eq_getElem hj]
    exact h _ (List.getElem_mem hj)
  | some k =>
    have h' := h
    rw [List.findIdx?_eq_some_iff_getElem] at h
    obtain ⟨hk, h1, h2⟩ := h
    refine .inr ⟨k, hk, by rw [whereP, h'], by rw [List.getElem?_eq_getElem hk]; exact h1, fun j hj => ?_⟩
    rw [List.getElem?_eq_getElem (by omega)]
    simpa using h2 j hj

theorem quiet_add_left {P : Program} {f : FuncId} {args : Array Value} {w : World} {a n : Nat} {v : Value}
    (h : Calls P f args (w.drewN (a + n)) fun e w' => e = .returned v ∧ w.drewN (a + n) = w') : Calls P f args (w.drewN (a + n)) fun e w'' => e = .returned v ∧ ∃ m, w'' = w.drewN (a + m) :=
  h.mono fun _ _ ⟨he, hm⟩ => ⟨he, n, hm.symm⟩
theorem quiet_left {P : Program} {f : FuncId} {args : Array Value} {w : World} {n : Nat} {v : Value}
    (h : Calls P f args (w.drewN n) fun e w' => e = .returned v ∧ w.drewN n = w') : Calls P f args (w.drewN n) fun e w'' => e = .returned v ∧ ∃ m, w'' = w.drewN m :=
  h.mono fun _ _ ⟨he, hm⟩ => ⟨he, n, hm.symm⟩

end Go.Proofs.YtdgeicdiiakhjaaGreat
