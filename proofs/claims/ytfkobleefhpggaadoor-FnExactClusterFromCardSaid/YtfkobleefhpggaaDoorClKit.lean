/- Words for memory, more: a row of the call's own beside blocks of another type; small sources of an append; cells of nodes. -/
import Derived.Test.YtfkobleefhpggaaDoorClSum
import Derived.Laws.OwnMore
namespace Go.Proofs.YtfkobleefhpggaaDoor
open Go Go.RowKit

theorem own_blk_ne {w : World} {base s n g : Nat} {t t' : TypeId} {v : Value} {xs : List Value} {cs : Array Value} (h : w.ownsRow base t s v n xs) (hb : Blk w g t' cs) (ht : t ≠ t') : v.ownBlock ≠ some g := by
  intro e
  rcases h.2 with ⟨rfl, _⟩ | ⟨g', _, _, rfl, _, hg, _⟩
  · cases e
  · simp [Value.ownBlock] at e
    subst e
    unfold Blk at hb
    rw [hg] at hb
    injection hb with e
    injection e with _ e
    exact ht e
theorem own_src' {w : World} {base s n c : Nat} {e : TypeId} {A : Option Addr} {xs : List Value} (h : w.ownsRow base e s (.slice A n c) n xs) : Src w s A n xs := by
  refine ⟨h.1, fun hp => ?_⟩
  obtain ⟨g, cur, rfl, _, _⟩ := own_row h hp
  exact ⟨_, rfl, h.cells (g := g) rfl⟩
theorem own_le {w : World} {base s n c : Nat} {e : TypeId} {A : Option Addr} {xs : List Value} (h : w.ownsRow base e s (.slice A n c) n xs) : n ≤ 9223372036854775807 := by
  rcases h.2 with ⟨_, h0⟩ | ⟨g, cap, cur, he, _, _, h1, h2, _⟩
  · omega
  · unfold maxLen at h2; omega
theorem box_pair (t : TypeId) (w : World) (v0 v1 : Value) {w' : World} (hb : Below (w.heap.size + 1) (w.alloc (.cells #[v0, v1] t)) w') : w'.cell? ⟨w.heap.size, 0, none⟩ = some v0 ∧ w'.cell? ⟨w.heap.size, 1, none⟩ = some v1 := by
  constructor
  · rw [hb.cell (by simp)]; exact (Blk.new w _ _).cell 0
  · rw [hb.cell (by simp)]; exact (Blk.new w _ _).cell 1
theorem lit1 (w : World) (t : TypeId) (v : Value) : Src (w.alloc (.cells #[v] t)) 1 (some ⟨w.heap.size, 0, none⟩) 1 [v] :=
  ⟨rfl, fun _ => ⟨_, rfl, fun j u hu => by rw [addr_add, Nat.zero_add, (Blk.new w t #[v]).cell]; simpa using hu⟩⟩
theorem lit2 (w : World) (t : TypeId) (a b : Value) : Src (w.alloc (.cells #[a, b] t)) 2 (some ⟨w.heap.size, 0, none⟩) 1 [a, b] :=
  ⟨rfl, fun _ => ⟨_, rfl, fun j u hu => by rw [addr_add, Nat.zero_add, (Blk.new w t #[a, b]).cell]; simpa using hu⟩⟩
theorem one1 (v : Value) (h : v.oneCell' = true) : ∀ u ∈ [v], u.oneCell' = true := by simpa using h
theorem one2 (a b : Value) (h : a.oneCell' = true) (h' : b.oneCell' = true) : ∀ u ∈ [a, b], u.oneCell' = true := by simp [h, h']
theorem own_alloc {w : World} {base s n : Nat} {t : TypeId} {v : Value} {xs : List Value} (h : w.ownsRow base t s v n xs) (o : Obj) : (w.alloc o).ownsRow base t s v n xs := own_keep h (fun b hb => Below.heap_alloc _ _ _ (h.lt b hb).2)
theorem own_up' {w w' : World} {base s n : Nat} {t : TypeId} {v : Value} {xs : List Value} (h : w.ownsRow base t s v n xs) (hb : Below w.heap.size w w') : w'.ownsRow base t s v n xs := own_keep h (fun b hlt => hb.block b (h.lt b hlt).2)
/-- The cells of nodes. -/
def BnCells (w : World) (B : Nat) (vs : List Value) (bs : List (List Tk)) : Prop :=
  vs.length = bs.length ∧ ∀ j, j < bs.length → ∃ A' m c, vs[j]? = some (.slice A' m c) ∧ m ≤ c ∧ RdT w B A' m (bs[j]?.getD [])
theorem BnCells.nil {w : World} {B : Nat} : BnCells w B [] [] := ⟨rfl, fun j hj => by simp at hj⟩
theorem BnCells.keep {w w' : World} {B B' : Nat} {vs : List Value} {bs : List (List Tk)} (h : BnCells w B vs bs) (hk : ∀ p : Addr, p.block < B → w'.cell? p = w.cell? p) (hB : B ≤ B') : BnCells w' B' vs bs :=
  ⟨h.1, fun j hj => by obtain ⟨A', m, c, h1, h2, h3⟩ := h.2 j hj; exact ⟨A', m, c, h1, h2, h3.keep hk hB⟩⟩
theorem BnCells.snoc {w : World} {B : Nat} {vs : List Value} {bs : List (List Tk)} {A : Option Addr} {m c : Nat} {ts : List Tk} (h : BnCells w B vs bs) (hr : RdT w B A m ts) (hc : m ≤ c) : BnCells w B (vs ++ [.slice A m c]) (bs ++ [ts]) := by
  have hl := h.1
  refine ⟨by simp [hl], fun j hj => ?_⟩
  by_cases e : j < bs.length
  · obtain ⟨A', m', c', h1, h2, h3⟩ := h.2 j e
    exact ⟨A', m', c', by rw [List.getElem?_append_left (by omega)]; exact h1, h2, by rw [List.getElem?_append_left e]; exact h3⟩
  · have : j = bs.length := by simp at hj; omega
    subst this
    exact ⟨A, m, c, by rw [List.getElem?_append_right (by omega), hl, Nat.sub_self]; rfl, hc, by rw [List.getElem?_append_right (by omega), Nat.sub_self]; exact hr⟩
theorem RdB.of_own {w : World} {base B n c : Nat} {e : TypeId} {A : Option Addr} {vs : List Value} {bs : List (List Tk)} (h : w.ownsRow base e 1 (.slice A n c) n vs) (ht : BnCells w B vs bs) (hB : B ≤ w.heap.size) (hn : n ≤ 9223372036854775807) : RdB w w.heap.size A n bs := by
  have hl : bs.length = n := by have := h.1; have := ht.1; omega
  refine ⟨hl, hn, fun hp => ?_⟩
  obtain ⟨g, cap, hv, _, hlt⟩ := h.form hp
  have hA : A = some ⟨g, 0, none⟩ := by injection hv
  subst hA
  refine ⟨g, 0, rfl, hlt, fun j hj => ?_⟩
  obtain ⟨A', m, c', h1, h2, h3⟩ := ht.2 j (by omega)
  have e1 := h.cells (g := g) rfl _ _ h1
  rw [addr_add] at e1
  exact ⟨A', m, c', e1, h2, h3.more hB⟩
/-- What is read of a cluster. -/
structure RdC (w : World) (A1 A2 : Option Addr) (n1 n2 : Nat) (room : List Int) (us : List Un) : Prop where
  a : RdI w w.heap.size A1 n1 room
  b : RdN w w.heap.size A2 n2 us
theorem RdC.up {w w' : World} {A1 A2 : Option Addr} {n1 n2 : Nat} {room : List Int} {us : List Un} (h : RdC w A1 A2 n1 n2 room us) (hb : Below w.heap.size w w') : RdC w' A1 A2 n1 n2 room us := ⟨h.a.up hb, h.b.up hb⟩
/-- Short tasks. -/
def ShU (us : List Un) : Prop := us.length ≤ 1000 ∧ ∀ u ∈ us, u.2.length ≤ 1000 ∧ ∀ t ∈ u.2, t.2.length ≤ 1000
theorem un_mem {us : List Un} {k : Nat} (hk : k < us.length) : us[k]?.getD (false, []) ∈ us := by rw [List.getElem?_eq_getElem hk]; exact List.getElem_mem hk
theorem tk_mem {ts : List Tk} {k : Nat} (hk : k < ts.length) : ts[k]?.getD (0, []) ∈ ts := by rw [List.getElem?_eq_getElem hk]; exact List.getElem_mem hk
theorem unit_info : (Tryd.prog.info? 62).map (fun i => (i.zero, i.size, i.bytes)) = some (some (.agg #[.bool false, .slice none 0 0]), 2, 32) := by kernel_rfl
theorem slice_info' : (Tryd.prog.info? 60).map (fun i => (i.zero, i.size, i.bytes)) = some (some (.slice none 0 0), 1, 24) := by kernel_rfl
end Go.Proofs.YtfkobleefhpggaaDoor
