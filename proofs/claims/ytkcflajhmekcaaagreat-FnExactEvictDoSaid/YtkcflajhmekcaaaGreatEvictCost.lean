/- Walks: the program's and the reference's EvictCost. -/
import Derived.Test.YtkcflajhmekcaaaGreatEvictListS
namespace Go.Proofs.YtkcflajhmekcaaaGreat
open Go.RowKit
attribute [local go_sem ↓] Go.wp_at_zero Go.wp_at_succ

/-- A row of integers that the call owns reads. -/
theorem own_rdI {w : World} {base : Nat} {t : TypeId} {A : Option Addr} {n c : Nat} {xs : List Int} (h : w.ownsRow base t 1 (.slice A n c) n (xs.map (Value.int .i64))) (hn : n ≤ 9223372036854775807) : RdI w w.heap.size A n xs := by
  have hl : xs.length = n := by have := h.1; simpa using this
  refine ⟨hl, hn, fun hp => ?_⟩
  obtain ⟨g, cap, hv, _, hlt⟩ := h.form hp
  have hA : A = some ⟨g, 0, none⟩ := by injection hv
  subst hA
  refine ⟨g, 0, rfl, hlt, fun j hj => ?_⟩
  have e1 := h.cells (g := g) rfl j (.int .i64 (xs[j]?.getD 0)) (by rw [List.getElem?_map, List.getElem?_eq_getElem (by omega)]; rfl)
  rwa [addr_add] at e1

theorem listG_at {g : Nat → Bool} {n j : Nat} (hj : j < (listG g n).length) : ∃ q : Nat, q < n ∧ g q = true ∧ (listG g n)[j]?.getD 0 = (q : Int) := by
  rw [List.getElem?_eq_getElem hj]
  have hm : (listG g n)[j] ∈ listG g n := List.getElem_mem hj
  generalize (listG g n)[j] = x at hm
  rw [listG, List.mem_map] at hm
  obtain ⟨q, h1, h2⟩ := hm
  rw [List.mem_filter, List.mem_range] at h1
  exact ⟨q, h1.1, h1.2, by simp [← h2]⟩

/-- The sum of the ranks of the first k in a list. -/
def costK (rk : List Int) (xs : List Int) : Nat → Int
  | 0 => 0
  | k + 1 => costK rk xs k + rk[(xs[k]?.getD 0).toNat]?.getD 0
theorem costK_bd {rk : List Int} (h : ∀ j : Nat, 0 ≤ rk[j]?.getD 0 ∧ rk[j]?.getD 0 ≤ 9) (xs : List Int) (k : Nat) : 0 ≤ costK rk xs k ∧ costK rk xs k ≤ 9 * k := by
  induction k with
  | zero => exact ⟨Int.le_refl _, Int.le_refl _⟩
  | succ k ih => have := h (xs[k]?.getD 0).toNat; rw [costK]; omega
/-- The cost, or -1. -/
def costP (room : List Int) (ts : List Tk) (rk : List Int) (t : Tk) (r : Int) : Int := match evP room ts rk t r with | none => -1 | some g => costK rk (listG g ts.length) (listG g ts.length).length
theorem evP_facts {room : List Int} {ts : List Tk} {rk : List Int} {t : Tk} {r : Int} {g : Nat → Bool} (h : evP room ts rk t r = some g) : evOk room ts rk t r = true ∧ goneP room ts rk t.2 r = some g := by
  rw [evP] at h
  split at h
  · rename_i h1; exact ⟨h1, h⟩
  · cases h
theorem own_len {w : World} {base : Nat} {t : TypeId} {A : Option Addr} {n c : Nat} {xs : List Int} (h : w.ownsRow base t 1 (.slice A n c) n (xs.map (Value.int .i64))) : xs.length = n := by have := h.1; simpa using this


end Go.Proofs.YtkcflajhmekcaaaGreat
