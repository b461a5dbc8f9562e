/- Words of the exact laws of evictions. -/
import Derived.Test.YtkcflajhmekcaaaGreatEvictCost
import Derived.Test.YtkcflajhmekcaaaGreatLawEq
import Derived.Test.YtkcflajhmekcaaaGreatZoneLaw
namespace Go.Proofs.YtkcflajhmekcaaaGreat
open Go Go.RowKit

/-- A boxed pair of cells stays. -/
theorem box_two (t : TypeId) (w : World) (v0 v1 : Value) {w' : World} (hb : Below (w.heap.size + 1) (w.alloc (.cells #[v0, v1] t)) w') : w'.cell? ⟨w.heap.size, 0, none⟩ = some v0 ∧ w'.cell? ⟨w.heap.size, 1, none⟩ = some v1 := by
  constructor
  · rw [hb.cell (by simp)]; exact (Blk.new w _ _).cell 0
  · rw [hb.cell (by simp)]; exact (Blk.new w _ _).cell 1

/-- The four arguments of an eviction read. -/
structure R5 (w : World) (A1 A2 A3 A4 : Option Addr) (n1 n2 n3 n4 : Nat) (room : List Int) (ts : List Tk) (rk xs : List Int) : Prop where
  a : RdI w w.heap.size A1 n1 room
  b : RdT w w.heap.size A2 n2 ts
  c : RdI w w.heap.size A3 n3 rk
  d : RdI w w.heap.size A4 n4 xs
theorem R5.up {w w' : World} {A1 A2 A3 A4 : Option Addr} {n1 n2 n3 n4 : Nat} {room : List Int} {ts : List Tk} {rk xs : List Int} (h : R5 w A1 A2 A3 A4 n1 n2 n3 n4 room ts rk xs) (hb : Below w.heap.size w w') : R5 w' A1 A2 A3 A4 n1 n2 n3 n4 room ts rk xs :=
  ⟨h.a.up hb, h.b.up hb, h.c.up hb, h.d.up hb⟩
theorem OwT.rd' {w : World} {lo g n : Nat} {ts : List Tk} (h : OwT w lo g ts) (hl : ts.length = n) (hn : n ≤ 9223372036854775807) : RdT w w.heap.size (some ⟨g, 0, none⟩) n ts := by
  subst hl; exact h.rd hn
theorem evNewUp (w : World) (o : Obj) : Below w.heap.size w (w.alloc o) := (Below.refl _ _).alloc (Nat.le_refl _) _
end Go.Proofs.YtkcflajhmekcaaaGreat
