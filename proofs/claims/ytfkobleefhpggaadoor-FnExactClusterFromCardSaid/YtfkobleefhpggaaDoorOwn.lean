/- Words for memory that a call makes and that nobody else holds: integers, tasks, nodes in new blocks. No program in sight. -/
import Derived.Test.YtfkobleefhpggaaDoorImplVec
namespace Go.Proofs.YtfkobleefhpggaaDoor
open Go.RowKit

theorem run_make_n {P : Program} (t e : TypeId) (i : TypeInfo) (z : Value) (ht : P.underlying t = some (.slice e)) (hi : P.info? e = some i) (hz : i.zero = some z)
    (n : Nat) (hbytes : i.bytes * n ≤ 281474976710656) (h63 : n ≤ 9223372036854775807) (w : World) :
    (Instr.makeSlice t (.int .i64 (n : Int)) (.int .i64 (n : Int))).run P w = .ok (.slice (some ⟨w.heap.size, 0, none⟩) n n) (w.alloc (.cells (madeCells z.cells (n * i.size)) e)) := by
  have hb : (i.bytes : Int) * (n : Int) ≤ 281474976710656 := by
    have h : ((i.bytes * n : Nat) : Int) ≤ 281474976710656 := by omega
    rwa [Int.natCast_mul] at h
  have hr := run_make (P := P) w t e i z ht hi hz .i64 .i64 n n (by omega) (by omega) hb (by omega)
  simp only [Int.toNat_natCast] at hr
  exact hr

/-- The block g, at or above lo, holds the integers xs. -/
def OwI (w : World) (lo g : Nat) (xs : List Int) : Prop := lo ≤ g ∧ Blk w g 3 (xs.map (Value.int .i64)).toArray

/-- The first k tasks of ts lie in vs, each with a need of its own behind g. -/
def OwTk (w : World) (g k : Nat) (ts : List Tk) (vs : List Value) : Prop :=
  ∀ j, j < k → ∃ g', vs[j * 2]? = some (.int .i64 (ts[j]?.getD (0, [])).1) ∧ vs[j * 2 + 1]? = some (.slice (some ⟨g', 0, none⟩) (ts[j]?.getD (0, [])).2.length (ts[j]?.getD (0, [])).2.length) ∧
    (ts[j]?.getD (0, [])).2.length ≤ 9223372036854775807 ∧ OwI w (g + 1) g' (ts[j]?.getD (0, [])).2
/-- The block g, at or above lo, holds the tasks ts. -/
def OwT (w : World) (lo g : Nat) (ts : List Tk) : Prop := lo ≤ g ∧ ∃ vs : List Value, Blk w g 66 vs.toArray ∧ vs.length = ts.length * 2 ∧ OwTk w g ts.length ts vs

/-- The first k nodes of bs lie in vs. -/
def OwBk (w : World) (g k : Nat) (bs : List (List Tk)) (vs : List Value) : Prop :=
  ∀ j, j < k → ∃ g', vs[j]? = some (.slice (some ⟨g', 0, none⟩) (bs[j]?.getD []).length (bs[j]?.getD []).length) ∧ (bs[j]?.getD []).length ≤ 9223372036854775807 ∧ OwT w (g + 1) g' (bs[j]?.getD [])
/-- The block g, at or above lo, holds the nodes bs. -/
def OwB (w : World) (lo g : Nat) (bs : List (List Tk)) : Prop := lo ≤ g ∧ ∃ vs : List Value, Blk w g 60 vs.toArray ∧ vs.length = bs.length ∧ OwBk w g bs.length bs vs

section
variable {w w' : World} {lo lo' g k : Nat} {xs : List Int} {ts : List Tk} {bs : List (List Tk)} {vs : List Value}

theorem OwI.keep (h : OwI w lo g xs) (hk : ∀ b, lo ≤ b → b < w.heap.size → w'.heap[b]? = w.heap[b]?) (hl : lo' ≤ lo) : OwI w' lo' g xs := ⟨by have := h.1; omega, (hk g h.1 h.2.lt).trans h.2⟩
theorem OwTk.keep (h : OwTk w g k ts vs) (hk : ∀ b, g + 1 ≤ b → b < w.heap.size → w'.heap[b]? = w.heap[b]?) : OwTk w' g k ts vs := fun j hj => by
  obtain ⟨g', h1, h2, h3, h4⟩ := h j hj
  exact ⟨g', h1, h2, h3, h4.keep hk (Nat.le_refl _)⟩
theorem OwT.keep (h : OwT w lo g ts) (hk : ∀ b, lo ≤ b → b < w.heap.size → w'.heap[b]? = w.heap[b]?) (hl : lo' ≤ lo) : OwT w' lo' g ts := by
  obtain ⟨h1, vs, h2, h3, h4⟩ := h
  exact ⟨by omega, vs, (hk g h1 h2.lt).trans h2, h3, h4.keep (fun b hb => hk b (by omega))⟩
theorem OwBk.keep (h : OwBk w g k bs vs) (hk : ∀ b, g + 1 ≤ b → b < w.heap.size → w'.heap[b]? = w.heap[b]?) : OwBk w' g k bs vs := fun j hj => by
  obtain ⟨g', h1, h2, h3⟩ := h j hj
  exact ⟨g', h1, h2, h3.keep hk (Nat.le_refl _)⟩
theorem OwB.keep (h : OwB w lo g bs) (hk : ∀ b, lo ≤ b → b < w.heap.size → w'.heap[b]? = w.heap[b]?) (hl : lo' ≤ lo) : OwB w' lo' g bs := by
  obtain ⟨h1, vs, h2, h3, h4⟩ := h
  exact ⟨by omega, vs, (hk g h1 h2.lt).trans h2, h3, h4.keep (fun b hb => hk b (by omega))⟩

theorem keep_up (hb : Below w.heap.size w w') (lo : Nat) : ∀ b, lo ≤ b → b < w.heap.size → w'.heap[b]? = w.heap[b]? := fun b _ h => hb.block b h
theorem keep_set (w : World) (g i : Nat) (u : Value) : ∀ b, g + 1 ≤ b → b < w.heap.size → (w.setCell ⟨g, i, none⟩ u).heap[b]? = w.heap[b]? := fun b h _ => Below.heap_setCell w ⟨g, i, none⟩ u b (by simp; omega)

theorem OwI.rd (h : OwI w lo g xs) (hn : xs.length ≤ 9223372036854775807) : RdI w w.heap.size (some ⟨g, 0, none⟩) xs.length xs := RdI.of_blk h.2 rfl hn
theorem OwT.rd (h : OwT w lo g ts) (hn : ts.length ≤ 9223372036854775807) : RdT w w.heap.size (some ⟨g, 0, none⟩) ts.length ts := by
  obtain ⟨h1, vs, h2, h3, h4⟩ := h
  refine ⟨rfl, hn, fun _ => ⟨g, 0, rfl, h2.lt, fun j hj => ?_⟩⟩
  obtain ⟨g', e1, e2, e3, e4⟩ := h4 j hj
  refine ⟨_, _, _, ?_, ?_, Nat.le_refl _, e4.rd e3⟩
  · rw [Nat.zero_add, h2.cell]; simpa using e1
  · rw [Nat.zero_add, h2.cell]; simpa using e2
theorem OwB.rd (h : OwB w lo g bs) (hn : bs.length ≤ 9223372036854775807) : RdB w w.heap.size (some ⟨g, 0, none⟩) bs.length bs := by
  obtain ⟨h1, vs, h2, h3, h4⟩ := h
  refine ⟨rfl, hn, fun _ => ⟨g, 0, rfl, h2.lt, fun j hj => ?_⟩⟩
  obtain ⟨g', e1, e3, e4⟩ := h4 j hj
  refine ⟨_, _, _, ?_, Nat.le_refl _, e4.rd e3⟩
  rw [Nat.zero_add, h2.cell]; simpa using e1
end

theorem OwTk.put {w : World} {g k g' : Nat} {ts : List Tk} {vs : List Value} (h : OwTk w g k ts vs) (hl : k * 2 + 1 < vs.length) (hn : (ts[k]?.getD (0, [])).2.length ≤ 9223372036854775807) (ho : OwI w (g + 1) g' (ts[k]?.getD (0, [])).2) :
    OwTk w g (k + 1) ts ((vs.set (k * 2) (.int .i64 (ts[k]?.getD (0, [])).1)).set (k * 2 + 1) (.slice (some ⟨g', 0, none⟩) (ts[k]?.getD (0, [])).2.length (ts[k]?.getD (0, [])).2.length)) := fun j hj => by
  by_cases e : j = k
  · subst e
    refine ⟨g', ?_, ?_, hn, ho⟩
    · rw [List.getElem?_set_ne (by omega), List.getElem?_set_self (by omega)]
    · rw [List.getElem?_set_self (by simp; omega)]
  · obtain ⟨g'', h1, h2, h3⟩ := h j (by omega)
    refine ⟨g'', ?_, ?_, h3⟩
    · rw [List.getElem?_set_ne (by omega), List.getElem?_set_ne (by omega)]; exact h1
    · rw [List.getElem?_set_ne (by omega), List.getElem?_set_ne (by omega)]; exact h2
theorem OwBk.put {w : World} {g k g' : Nat} {bs : List (List Tk)} {vs : List Value} (h : OwBk w g k bs vs) (hl : k < vs.length) (hn : (bs[k]?.getD []).length ≤ 9223372036854775807) (ho : OwT w (g + 1) g' (bs[k]?.getD [])) :
    OwBk w g (k + 1) bs (vs.set k (.slice (some ⟨g', 0, none⟩) (bs[k]?.getD []).length (bs[k]?.getD []).length)) := fun j hj => by
  by_cases e : j = k
  · subst e
    exact ⟨g', by rw [List.getElem?_set_self (by omega)], hn, ho⟩
  · obtain ⟨g'', h1, h2⟩ := h j (by omega)
    exact ⟨g'', by rw [List.getElem?_set_ne (by omega)]; exact h1, h2⟩
end Go.Proofs.YtfkobleefhpggaaDoor
