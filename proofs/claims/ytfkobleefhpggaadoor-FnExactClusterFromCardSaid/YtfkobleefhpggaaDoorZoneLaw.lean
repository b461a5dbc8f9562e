/- The walk of the law FnExactZoneGap: at every four arguments that can be read it returns true, and what was there stays. -/
import Derived.Test.YtfkobleefhpggaaDoorLawEq
import Derived.Test.YtfkobleefhpggaaDoorImplBins
namespace Go.Proofs.YtfkobleefhpggaaDoor
open Go.RowKit

theorem OwI.rd' {w : World} {lo g n : Nat} {xs : List Int} (h : OwI w lo g xs) (hl : xs.length = n) (hn : n ≤ 9223372036854775807) : RdI w w.heap.size (some ⟨g, 0, none⟩) n xs := by subst hl; exact h.rd hn
theorem OwB.rd' {w : World} {lo g n : Nat} {bs : List (List Tk)} (h : OwB w lo g bs) (hl : bs.length = n) (hn : n ≤ 9223372036854775807) : RdB w w.heap.size (some ⟨g, 0, none⟩) n bs := by subst hl; exact h.rd hn

/-- A room, nodes, zones and numbers, read. -/
structure R4 (w : World) (A1 A2 A3 A4 : Option Addr) (n1 n2 n3 n4 : Nat) (room : List Int) (bs : List (List Tk)) (zones ids : List Int) : Prop where
  a : RdI w w.heap.size A1 n1 room
  b : RdB w w.heap.size A2 n2 bs
  c : RdI w w.heap.size A3 n3 zones
  d : RdI w w.heap.size A4 n4 ids
theorem R4.up {w w' : World} {A1 A2 A3 A4 : Option Addr} {n1 n2 n3 n4 : Nat} {room : List Int} {bs : List (List Tk)} {zones ids : List Int} (h : R4 w A1 A2 A3 A4 n1 n2 n3 n4 room bs zones ids) (hb : Below w.heap.size w w') : R4 w' A1 A2 A3 A4 n1 n2 n3 n4 room bs zones ids :=
  ⟨h.a.up hb, h.b.up hb, h.c.up hb, h.d.up hb⟩
theorem below_to {w a b : World} (h : Below w.heap.size w a) (k : Below a.heap.size a b) : Below w.heap.size w b := h.trans (k.mono h.size)
theorem totB_len (bs : List (List Tk)) : bs.length ≤ totB bs ∧ bs.flatten.length ≤ totB bs := by have := totB_flat bs; omega
theorem drew_below (w : World) (m : Nat) : Below w.heap.size w (w.drewN m) := below_drewN (Below.refl _ _) m

end Go.Proofs.YtfkobleefhpggaaDoor
