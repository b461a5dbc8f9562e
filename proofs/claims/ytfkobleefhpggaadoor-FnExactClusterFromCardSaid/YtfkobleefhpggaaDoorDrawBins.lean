/- Walks: the draw of a room and of nodes. -/
import Derived.Test.YtfkobleefhpggaaDoorDrawTasks
import Derived.Test.YtfkobleefhpggaaDoorFitsSpec
namespace Go.Proofs.YtfkobleefhpggaaDoor
open Go.RowKit

theorem own_ne_blk {w : World} {base n b : Nat} {v : Value} {xs : List Value} {t : TypeId} {cs : Array Value} (ht : t ≠ 66) (h : w.ownsRow base 66 2 v n xs) (hb : Blk w b t cs) : v.ownBlock ≠ some b := by
  rcases h.2 with ⟨rfl, _⟩ | ⟨g, cap, cur, rfl, _, hg, _⟩
  · simp [Value.ownBlock]
  · intro e
    simp [Value.ownBlock] at e
    subst e
    unfold Blk at hb
    rw [hg] at hb
    injection hb with hb
    injection hb with _ hb
    exact ht hb.symm
theorem blk_ne {w : World} {a b : Nat} {t u : TypeId} {cs ds : Array Value} (ha : Blk w a t cs) (hb : Blk w b u ds) (hn : t ≠ u) : a ≠ b := by
  rintro rfl
  unfold Blk at ha hb
  rw [ha] at hb
  injection hb with hb
  injection hb with _ hb
  exact hn hb
theorem own_mono {w : World} {base base' : Nat} {e : TypeId} {size : Nat} {v : Value} {n : Nat} {xs : List Value} (h : w.ownsRow base e size v n xs) (hb : base' ≤ base) : w.ownsRow base' e size v n xs := by
  refine ⟨h.1, ?_⟩
  rcases h.2 with hn | ⟨g, cap, cur, e1, e2, rest⟩
  · exact .inl hn
  · exact .inr ⟨g, cap, cur, e1, by omega, rest⟩

/-- The cells of k nodes: each a row of its own, at or above lo2, with at most M tasks, whose needs lie at or above lo. -/
def BinsN (w : World) (lo lo2 k M : Nat) (vs : List Value) : Prop :=
  vs.length = k ∧ (∀ j, j < k → ∃ A m c ws, vs[j]? = some (.slice A m c) ∧ m ≤ M ∧ w.ownsRow lo2 66 2 (.slice A m c) m ws ∧ TkN w lo m ws) ∧
    (∀ (i j : Nat) (u v : Value) (b : Nat), vs[i]? = some u → vs[j]? = some v → Value.ownBlock u = some b → Value.ownBlock v = some b → i = j)
section
variable {w w' : World} {lo lo2 k M : Nat} {vs : List Value}
theorem BinsN.nil : BinsN w lo lo2 0 M [] := ⟨rfl, fun j hj => by omega, fun i j u v b h => by simp at h⟩
theorem BinsN.keep (h : BinsN w lo lo2 k M vs) (h1 : ∀ v m xs b, w.ownsRow lo2 66 2 v m xs → v.ownBlock = some b → w'.heap[b]? = w.heap[b]?) (h2 : ∀ b cs, lo ≤ b → Blk w b 3 cs → Blk w' b 3 cs) : BinsN w' lo lo2 k M vs :=
  ⟨h.1, fun j hj => by obtain ⟨A, m, c, ws, e1, e2, e3, e4⟩ := h.2.1 j hj; exact ⟨A, m, c, ws, e1, e2, own_keep e3 (fun b hb => h1 _ _ _ b e3 hb), e4.keep h2⟩, h.2.2⟩
theorem BinsN.only {g : Nat} (h : BinsN w lo lo2 k M vs) (o : OnlyG w w' g) (hg : g < lo) (hg2 : g < lo2) : BinsN w' lo lo2 k M vs :=
  h.keep (fun _ _ _ b hw hb => o.block b (hw.lt b hb).2 (by have := (hw.lt b hb).1; omega)) (fun _ _ hb hc => o.blk hc (by omega))
theorem BinsN.alloc (h : BinsN w lo lo2 k M vs) (o : Obj) : BinsN (w.alloc o) lo lo2 k M vs :=
  h.keep (fun _ _ _ b hw hb => Below.heap_alloc _ _ _ (hw.lt b hb).2) (fun _ _ _ hc => hc.alloc o)
theorem BinsN.drew (h : BinsN w lo lo2 k M vs) : BinsN w.drew lo lo2 k M vs := h.keep (fun _ _ _ _ _ _ => rfl) (fun _ _ _ hc => hc)
theorem BinsN.below (h : BinsN w lo lo2 k M vs) (b : Below w.heap.size w w') : BinsN w' lo lo2 k M vs :=
  h.keep (fun _ _ _ r hw hb => b.block r (hw.lt r hb).2) (fun _ _ _ hc => hc.below b hc.lt)
/-- A cell of a row of nodes is written. -/
theorem BinsN.set_out (h : BinsN w lo lo2 k M vs) {g : Nat} {cs : Array Value} (hb : Blk w g 60 cs) (i : Nat) (u : Value) : BinsN (w.setCell ⟨g, i, none⟩ u) lo lo2 k M vs :=
  h.keep (fun _ _ _ b hw hv => Below.heap_setCell _ _ _ _ (fun e => own_ne_blk (by decide) hw hb (by rw [hv, e]))) (fun _ _ _ hc => hc.far (blk_ne hc hb (by decide)) _)
theorem BinsN.more (h : BinsN w lo lo2 k M vs) {M' : Nat} (hm : M ≤ M') : BinsN w lo lo2 k M' vs :=
  ⟨h.1, fun j hj => by obtain ⟨A, m, c, ws, e1, e2, e3⟩ := h.2.1 j hj; exact ⟨A, m, c, ws, e1, by omega, e3⟩, h.2.2⟩
theorem BinsN.lower (h : BinsN w lo lo2 k M vs) {lo3 : Nat} (hm : lo3 ≤ lo2) : BinsN w lo lo3 k M vs :=
  ⟨h.1, fun j hj => by obtain ⟨A, m, c, ws, e1, e2, e3, e4⟩ := h.2.1 j hj; exact ⟨A, m, c, ws, e1, e2, own_mono e3 hm, e4⟩, h.2.2⟩
/-- One more node, without tasks. -/
theorem BinsN.push (h : BinsN w lo lo2 k M vs) (hl : lo2 ≤ w.heap.size) : BinsN (w.alloc (.cells #[] 66)) lo lo2 (k + 1) M (vs ++ [.slice (some ⟨w.heap.size, 0, none⟩) 0 0]) := by
  have ha := h.alloc (.cells #[] 66)
  have far : ∀ (i : Nat) (u : Value) (b : Nat), vs[i]? = some u → Value.ownBlock u = some b → b < w.heap.size := by
    intro i u b hi hb
    have hik : i < k := by
      rcases Nat.lt_or_ge i k with h' | h'
      · exact h'
      · rw [List.getElem?_eq_none (by have := h.1; omega)] at hi; cases hi
    obtain ⟨A, m, c, ws, e1, e2, e3, e4⟩ := h.2.1 i hik
    rw [hi] at e1
    injection e1 with e1
    subst e1
    exact (e3.lt b hb).2
  have cut : ∀ (i : Nat) (u : Value), (vs ++ [.slice (some ⟨w.heap.size, 0, none⟩) 0 0])[i]? = some u → (i < k ∧ vs[i]? = some u) ∨ (i = k ∧ u = .slice (some ⟨w.heap.size, 0, none⟩) 0 0) := by
    intro i u hi
    by_cases hik : i < k
    · rw [List.getElem?_append_left (by have := h.1; omega)] at hi; exact .inl ⟨hik, hi⟩
    · rw [List.getElem?_append_right (by have := h.1; omega)] at hi
      have hl := h.1
      by_cases e : i = k
      · rw [show i - vs.length = 0 from by omega] at hi
        injection hi with hi
        exact .inr ⟨e, hi.symm⟩
      · rw [List.getElem?_eq_none (by simp; omega)] at hi; cases hi
  refine ⟨by simp [h.1], fun j hj => ?_, fun i j u v b hu hv eu ev => ?_⟩
  · by_cases hjk : j < k
    · obtain ⟨A, m, c, ws, e1, e2, e3, e4⟩ := ha.2.1 j hjk
      exact ⟨A, m, c, ws, by rw [List.getElem?_append_left (by have := h.1; omega)]; exact e1, e2, e3, e4⟩
    · obtain rfl : j = k := by omega
      exact ⟨_, 0, 0, [], by rw [List.getElem?_append_right (by have := h.1; omega), show j - vs.length = 0 from by have := h.1; omega]; rfl, Nat.zero_le _, World.ownsRow_made w #[] 0 hl (by unfold maxLen; omega) rfl, TkN.nil⟩
  · rcases cut i u hu with ⟨h1, h2⟩ | ⟨rfl, rfl⟩ <;> rcases cut j v hv with ⟨h3, h4⟩ | ⟨rfl, rfl⟩
    · exact h.2.2 i j u v b h2 h4 eu ev
    · have := far i u b h2 eu
      simp [Value.ownBlock] at ev; omega
    · have := far j v b h4 ev
      simp [Value.ownBlock] at eu; omega
    · rfl
/-- One node has one more task. -/
theorem BinsN.grow (h : BinsN w lo lo2 k M vs) {r m c : Nat} {A : Option Addr} {ws : List Value} (hr : vs[r]? = some (.slice A m c)) (hown : w.ownsRow lo2 66 2 (.slice A m c) m ws) (hm : m ≤ M) (hg : w.grownBy w' (Value.ownBlock (.slice A m c)))
    {A1 : Option Addr} {c1 : Nat} {ws1 : List Value} (hown1 : w'.ownsRow lo2 66 2 (.slice A1 (m + 1) c1) (m + 1) ws1) (ht : TkN w' lo (m + 1) ws1)
    (hrow : Value.ownBlock (.slice A1 (m + 1) c1) = Value.ownBlock (.slice A m c) ∨ Value.ownBlock (.slice A1 (m + 1) c1) = some w.heap.size) : BinsN w' lo lo2 k (M + 1) (vs.set r (.slice A1 (m + 1) c1)) := by
  have far : ∀ (i : Nat) (u : Value) (b : Nat), i ≠ r → vs[i]? = some u → Value.ownBlock u = some b → b < w.heap.size ∧ some b ≠ Value.ownBlock (.slice A m c) := by
    intro i u b hir hi hb
    have hik : i < k := by
      rcases Nat.lt_or_ge i k with h' | h'
      · exact h'
      · rw [List.getElem?_eq_none (by have := h.1; omega)] at hi; cases hi
    obtain ⟨A', m', c', ws', e1, e2, e3, e4⟩ := h.2.1 i hik
    rw [hi] at e1
    injection e1 with e1
    subst e1
    exact ⟨(e3.lt b hb).2, fun e => hir (h.2.2 i r _ _ b hi hr hb e.symm)⟩
  have hrl : r < vs.length := (List.getElem?_eq_some_iff.1 hr).1
  refine ⟨by rw [List.length_set]; exact h.1, fun j hj => ?_, fun i j u v b hu hv eu ev => ?_⟩
  · by_cases e : r = j
    · subst e
      exact ⟨A1, m + 1, c1, ws1, by rw [List.getElem?_set_self hrl], by omega, hown1, ht⟩
    · obtain ⟨A', m', c', ws', e1, e2, e3, e4⟩ := h.2.1 j hj
      exact ⟨A', m', c', ws', by rw [List.getElem?_set_ne e]; exact e1, by omega, own_keep e3 (fun b hb => hg.block b (e3.lt b hb).2 (far j _ b (Ne.symm e) e1 hb).2), e4.grown hown hg⟩
  · by_cases ei : r = i
    · by_cases ej : r = j
      · omega
      · subst ei
        rw [List.getElem?_set_self hrl] at hu
        injection hu with hu
        subst hu
        rw [List.getElem?_set_ne ej] at hv
        obtain ⟨f1, f2⟩ := far j v b (Ne.symm ej) hv ev
        rcases hrow with e | e
        · rw [eu] at e; exact absurd e f2
        · rw [eu] at e; injection e with e; omega
    · by_cases ej : r = j
      · subst ej
        rw [List.getElem?_set_self hrl] at hv
        injection hv with hv
        subst hv
        rw [List.getElem?_set_ne ei] at hu
        obtain ⟨f1, f2⟩ := far i u b (Ne.symm ei) hu eu
        rcases hrow with e | e
        · rw [ev] at e; exact absurd e f2
        · rw [ev] at e; injection e with e; omega
      · rw [List.getElem?_set_ne ei] at hu
        rw [List.getElem?_set_ne ej] at hv
        exact h.2.2 i j u v b hu hv eu ev
/-- They can be read. -/
theorem BinsN.read (h : BinsN w lo lo2 k M vs) {base c : Nat} {A : Option Addr} (ho : w.ownsRow base 60 1 (.slice A k c) k vs) (hk : k ≤ 1000) (hM : M ≤ 1000) :
    ∃ bs, RdB w w.heap.size A k bs ∧ bs.flatten.length ≤ k * M ∧ ∀ b ∈ bs, ∀ t ∈ b, t.2.length = 3 ∧ Bd 21 t.2 := by
  have hh : ∀ j : Nat, ∃ ts : List Tk, (j < k → ∃ A m c, vs[j]? = some (.slice A m c) ∧ m ≤ c ∧ RdT w w.heap.size A m ts) ∧ ts.length ≤ M ∧ ∀ t ∈ ts, t.2.length = 3 ∧ Bd 21 t.2 := by
    intro j
    by_cases hj : j < k
    · obtain ⟨A', m, c', ws, e1, e2, e3, e4⟩ := h.2.1 j hj
      obtain ⟨ts, t1, t2, t3⟩ := e4.read
      refine ⟨ts, fun _ => ⟨A', m, c', e1, ?_, RdT.of_own e3 t2 (Nat.le_refl _) (by omega)⟩, by omega, t3⟩
      rcases e3.2 with ⟨hv, h0⟩ | ⟨g, cap, cur, hv, _, _, hc, _⟩
      · omega
      · injection hv with _ _ hv; omega
    · exact ⟨[], fun h => absurd h hj, by simp, by simp⟩
  obtain ⟨f, hf⟩ := Classical.axiomOfChoice hh
  have hg : ∀ j, j < k → ((List.range k).map f)[j]? = some (f j) := by
    intro j hj
    rw [List.getElem?_map, List.getElem?_range hj]; rfl
  refine ⟨(List.range k).map f, ⟨by simp, by omega, fun hp => ?_⟩, ?_, fun b hb => ?_⟩
  · obtain ⟨g, cur, rfl, hb, hblk⟩ := own_row ho hp
    refine ⟨g, 0, rfl, hblk.lt, fun j hj => ?_⟩
    obtain ⟨A', m, c', e1, e2, e3⟩ := (hf j).1 hj
    rw [hg j hj]
    refine ⟨A', m, c', ?_, e2, e3⟩
    have := ho.cells (g := g) rfl _ _ e1
    rwa [addr_add] at this
  · have : ∀ n, ((List.range n).map f).flatten.length ≤ n * M := by
      intro n
      induction n with
      | zero => simp
      | succ n ih =>
        rw [List.range_succ, List.map_append, List.flatten_append, List.length_append, Nat.succ_mul]
        have := (hf n).2.1
        simp only [List.map_cons, List.map_nil, List.flatten_cons, List.flatten_nil, List.append_nil]
        omega
    exact this k
  · obtain ⟨j, hj, rfl⟩ := List.mem_map.1 hb
    exact (hf j).2.2
end
end Go.Proofs.YtfkobleefhpggaaDoor
