/- Flags in memory: a row of bools, a block of bools. -/
import Derived.Test.YtkcflajhmekcaaaGreatEvictFit
import Derived.Test.YtkcflajhmekcaaaGreatLoad
namespace Go.Proofs.YtkcflajhmekcaaaGreat
open Go.RowKit

/-- The row of n flags at A, below the block B. -/
def RdF (w : World) (B : Nat) (A : Option Addr) (n : Nat) (g : Nat → Bool) : Prop :=
  n ≤ 9223372036854775807 ∧ (0 < n → ∃ b o, A = some ⟨b, o, none⟩ ∧ b < B ∧ ∀ j, j < n → w.cell? ⟨b, o + j, none⟩ = some (.bool (g j)))
theorem RdF.le {w : World} {B : Nat} {A : Option Addr} {n : Nat} {g : Nat → Bool} (h : RdF w B A n g) : n ≤ 9223372036854775807 := h.1
theorem RdF.at_ {w : World} {B : Nat} {A : Option Addr} {n : Nat} {g : Nat → Bool} (h : RdF w B A n g) {k : Nat} (hk : k < n) : ∃ b o, A = some ⟨b, o, none⟩ ∧ b < B ∧ w.cell? ⟨b, o + k, none⟩ = some (.bool (g k)) := by
  obtain ⟨b, o, e, hb, h'⟩ := h.2 (by omega)
  exact ⟨b, o, e, hb, h' k hk⟩
theorem RdF.keep {w w' : World} {B B' : Nat} {A : Option Addr} {n : Nat} {g : Nat → Bool} (h : RdF w B A n g) (hk : ∀ p : Addr, p.block < B → w'.cell? p = w.cell? p) (hB : B ≤ B') : RdF w' B' A n g :=
  ⟨h.1, fun h0 => by
    obtain ⟨b, o, e, hb, h'⟩ := h.2 h0
    exact ⟨b, o, e, by omega, fun j hj => (hk _ hb).trans (h' j hj)⟩⟩
theorem RdF.below {w w' : World} {B : Nat} {A : Option Addr} {n : Nat} {g : Nat → Bool} (h : RdF w B A n g) (hb : Below B w w') : RdF w' B A n g := h.keep (fun _ hp => hb.cell hp) (Nat.le_refl _)
theorem RdF.up {w w' : World} {A : Option Addr} {n : Nat} {g : Nat → Bool} (h : RdF w w.heap.size A n g) (hb : Below w.heap.size w w') : RdF w' w'.heap.size A n g := h.keep (fun _ hp => hb.cell hp) hb.size

/-- The cells of n flags. -/
def flA (g : Nat → Bool) (n : Nat) : Array Value := ((List.range n).map (fun j => Value.bool (g j))).toArray
theorem flA_size (g : Nat → Bool) (n : Nat) : (flA g n).size = n := by simp [flA]
theorem flA_at (g : Nat → Bool) {n k : Nat} (h : k < n) : (flA g n)[k]? = some (.bool (g k)) := by simp [flA, h]
theorem flA_set (g : Nat → Bool) (n k : Nat) (v : Bool) : (flA g n).setIfInBounds k (.bool v) = flA (upd g k v) n := by
  apply Array.ext_getElem?
  intro i
  rw [Array.getElem?_setIfInBounds]
  by_cases hi : i < n
  · rw [flA_at _ hi, flA_at _ hi, flA_size]
    by_cases e : k = i
    · subst e; rw [if_pos rfl, if_pos hi, upd_at]
    · rw [if_neg e, upd_ne v (Ne.symm e)]
  · have h1 : (flA g n)[i]? = none := by rw [Array.getElem?_eq_none_iff, flA_size]; omega
    have h2 : (flA (upd g k v) n)[i]? = none := by rw [Array.getElem?_eq_none_iff, flA_size]; omega
    rw [h1, h2]
    split
    · rw [if_neg (by rw [flA_size]; omega)]
    · rfl
theorem flA_congr {g g' : Nat → Bool} {n : Nat} (h : ∀ j, j < n → g j = g' j) : flA g n = flA g' n := by
  unfold flA
  congr 1
  exact List.map_congr_left fun j hj => by rw [h j (List.mem_range.1 hj)]
theorem flA_same (v : Bool) (n : Nat) : flA (fun _ => v) n = Array.replicate n (.bool v) := by
  apply Array.ext_getElem?
  intro i
  by_cases hi : i < n
  · rw [flA_at _ hi]; simp [hi]
  · rw [Array.getElem?_eq_none (by rw [flA_size]; omega), Array.getElem?_eq_none (by simp; omega)]
theorem RdF.of_blk {w : World} {b n : Nat} {t : TypeId} {g : Nat → Bool} (h : Blk w b t (flA g n)) (hn : n ≤ 9223372036854775807) : RdF w w.heap.size (some ⟨b, 0, none⟩) n g :=
  ⟨hn, fun _ => ⟨b, 0, rfl, h.lt, fun j hj => by rw [Nat.zero_add, h.cell, flA_at g hj]⟩⟩
end Go.Proofs.YtkcflajhmekcaaaGreat
