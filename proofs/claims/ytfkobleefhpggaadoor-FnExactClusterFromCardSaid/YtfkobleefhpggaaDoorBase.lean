/- Words for memory: a slice value that reads as a list of integers, of tasks, of nodes; how such readings are kept. No program in sight. -/
import Derived.Test.YtfkobleefhpggaaDoorRows
import Derived.WalkKit
import Derived.WalkSpells
import Derived.WalkLawsBesides
import Derived.Lib.Hide
import Derived.Deep.QuietTactic
import Derived.BigQuiet
import Derived.Deep.Draws
import Derived.Deep.RegionHeld3
import Derived.Deep.RegionWith
import Derived.Deep.AppendLies
import Derived.Maps.AppendAt
import Derived.Laws.AppendOwnNone
namespace Go.Proofs.YtfkobleefhpggaaDoor
open Go.RowKit

/-- A task as plain data: its number and what it needs. -/
abbrev Tk := Int × List Int

/-- A slice of integers, all below block B, that reads as xs. -/
def RdI (w : World) (B : Nat) (A : Option Addr) (n : Nat) (xs : List Int) : Prop :=
  xs.length = n ∧ n ≤ 9223372036854775807 ∧ (0 < n → ∃ b o, A = some ⟨b, o, none⟩ ∧ b < B ∧ ∀ j, j < n → w.cell? ⟨b, o + j, none⟩ = some (.int .i64 (xs[j]?.getD 0)))

/-- A slice of tasks. -/
def RdT (w : World) (B : Nat) (A : Option Addr) (n : Nat) (ts : List Tk) : Prop :=
  ts.length = n ∧ n ≤ 9223372036854775807 ∧ (0 < n → ∃ b o, A = some ⟨b, o, none⟩ ∧ b < B ∧ ∀ j, j < n → ∃ A' m c,
    w.cell? ⟨b, o + j * 2, none⟩ = some (.int .i64 (ts[j]?.getD (0, [])).1) ∧ w.cell? ⟨b, o + j * 2 + 1, none⟩ = some (.slice A' m c) ∧ m ≤ c ∧
    RdI w B A' m (ts[j]?.getD (0, [])).2)

/-- A slice of nodes. -/
def RdB (w : World) (B : Nat) (A : Option Addr) (n : Nat) (bs : List (List Tk)) : Prop :=
  bs.length = n ∧ n ≤ 9223372036854775807 ∧ (0 < n → ∃ b o, A = some ⟨b, o, none⟩ ∧ b < B ∧ ∀ j, j < n → ∃ A' m c,
    w.cell? ⟨b, o + j, none⟩ = some (.slice A' m c) ∧ m ≤ c ∧ RdT w B A' m (bs[j]?.getD []))

section
variable {w w' : World} {B B' n k : Nat} {A : Option Addr} {xs : List Int} {ts : List Tk} {bs : List (List Tk)}

theorem RdI.len (h : RdI w B A n xs) : xs.length = n := h.1
theorem RdT.len (h : RdT w B A n ts) : ts.length = n := h.1
theorem RdB.len (h : RdB w B A n bs) : bs.length = n := h.1
theorem RdI.le (h : RdI w B A n xs) : n ≤ 9223372036854775807 := h.2.1
theorem RdT.le (h : RdT w B A n ts) : n ≤ 9223372036854775807 := h.2.1
theorem RdB.le (h : RdB w B A n bs) : n ≤ 9223372036854775807 := h.2.1

theorem RdI.nil : RdI w B A 0 [] := ⟨rfl, by omega, fun h => absurd h (by omega)⟩
theorem RdT.nil : RdT w B A 0 [] := ⟨rfl, by omega, fun h => absurd h (by omega)⟩
theorem RdB.nil : RdB w B A 0 [] := ⟨rfl, by omega, fun h => absurd h (by omega)⟩

theorem RdI.at_ (h : RdI w B A n xs) (hk : k < n) : ∃ b o, A = some ⟨b, o, none⟩ ∧ b < B ∧ w.cell? ⟨b, o + k, none⟩ = some (.int .i64 (xs[k]?.getD 0)) := by
  obtain ⟨b, o, e, hb, hc⟩ := h.2.2 (by omega)
  exact ⟨b, o, e, hb, hc k hk⟩
theorem RdT.at_ (h : RdT w B A n ts) (hk : k < n) : ∃ b o A' m c, A = some ⟨b, o, none⟩ ∧ b < B ∧ w.cell? ⟨b, o + k * 2, none⟩ = some (.int .i64 (ts[k]?.getD (0, [])).1) ∧
    w.cell? ⟨b, o + k * 2 + 1, none⟩ = some (.slice A' m c) ∧ m ≤ c ∧ RdI w B A' m (ts[k]?.getD (0, [])).2 := by
  obtain ⟨b, o, e, hb, hc⟩ := h.2.2 (by omega)
  obtain ⟨A', m, c, h1, h2, h3, h4⟩ := hc k hk
  exact ⟨b, o, A', m, c, e, hb, h1, h2, h3, h4⟩
theorem RdB.at_ (h : RdB w B A n bs) (hk : k < n) : ∃ b o A' m c, A = some ⟨b, o, none⟩ ∧ b < B ∧ w.cell? ⟨b, o + k, none⟩ = some (.slice A' m c) ∧ m ≤ c ∧ RdT w B A' m (bs[k]?.getD []) := by
  obtain ⟨b, o, e, hb, hc⟩ := h.2.2 (by omega)
  obtain ⟨A', m, c, h1, h2, h3⟩ := hc k hk
  exact ⟨b, o, A', m, c, e, hb, h1, h2, h3⟩

theorem RdI.keep (h : RdI w B A n xs) (hk : ∀ p : Addr, p.block < B → w'.cell? p = w.cell? p) (hB : B ≤ B') : RdI w' B' A n xs :=
  ⟨h.1, h.2.1, fun hn => by
    obtain ⟨b, o, e, hb, hc⟩ := h.2.2 hn
    exact ⟨b, o, e, by omega, fun j hj => (hk ⟨b, o + j, none⟩ hb).trans (hc j hj)⟩⟩
theorem RdT.keep (h : RdT w B A n ts) (hk : ∀ p : Addr, p.block < B → w'.cell? p = w.cell? p) (hB : B ≤ B') : RdT w' B' A n ts :=
  ⟨h.1, h.2.1, fun hn => by
    obtain ⟨b, o, e, hb, hc⟩ := h.2.2 hn
    refine ⟨b, o, e, by omega, fun j hj => ?_⟩
    obtain ⟨A', m, c, h1, h2, h3, h4⟩ := hc j hj
    exact ⟨A', m, c, (hk ⟨b, o + j * 2, none⟩ hb).trans h1, (hk ⟨b, o + j * 2 + 1, none⟩ hb).trans h2, h3, h4.keep hk hB⟩⟩
theorem RdB.keep (h : RdB w B A n bs) (hk : ∀ p : Addr, p.block < B → w'.cell? p = w.cell? p) (hB : B ≤ B') : RdB w' B' A n bs :=
  ⟨h.1, h.2.1, fun hn => by
    obtain ⟨b, o, e, hb, hc⟩ := h.2.2 hn
    refine ⟨b, o, e, by omega, fun j hj => ?_⟩
    obtain ⟨A', m, c, h1, h2, h3⟩ := hc j hj
    exact ⟨A', m, c, (hk ⟨b, o + j, none⟩ hb).trans h1, h2, h3.keep hk hB⟩⟩

theorem RdI.below (h : RdI w B A n xs) (hb : Below B w w') : RdI w' B A n xs := h.keep (fun _ hp => hb.cell hp) (Nat.le_refl _)
theorem RdT.below (h : RdT w B A n ts) (hb : Below B w w') : RdT w' B A n ts := h.keep (fun _ hp => hb.cell hp) (Nat.le_refl _)
theorem RdB.below (h : RdB w B A n bs) (hb : Below B w w') : RdB w' B A n bs := h.keep (fun _ hp => hb.cell hp) (Nat.le_refl _)
theorem RdI.more (h : RdI w B A n xs) (hB : B ≤ B') : RdI w B' A n xs := h.keep (fun _ _ => rfl) hB
theorem RdT.more (h : RdT w B A n ts) (hB : B ≤ B') : RdT w B' A n ts := h.keep (fun _ _ => rfl) hB
theorem RdB.more (h : RdB w B A n bs) (hB : B ≤ B') : RdB w B' A n bs := h.keep (fun _ _ => rfl) hB
theorem RdI.drewN (h : RdI w B A n xs) (m : Nat) : RdI (w.drewN m) B A n xs := h
theorem RdT.drewN (h : RdT w B A n ts) (m : Nat) : RdT (w.drewN m) B A n ts := h
theorem RdB.drewN (h : RdB w B A n bs) (m : Nat) : RdB (w.drewN m) B A n bs := h
/-- What reads in a world reads in a later one. -/
theorem RdI.up (h : RdI w w.heap.size A n xs) (hb : Below w.heap.size w w') : RdI w' w'.heap.size A n xs := (h.below hb).more hb.size
theorem RdT.up (h : RdT w w.heap.size A n ts) (hb : Below w.heap.size w w') : RdT w' w'.heap.size A n ts := (h.below hb).more hb.size
theorem RdB.up (h : RdB w w.heap.size A n bs) (hb : Below w.heap.size w w') : RdB w' w'.heap.size A n bs := (h.below hb).more hb.size
end

/-- All old cells and all old marks read as before. -/
theorem bcell {B : Nat} {W w1 : World} (hb : Below B W w1) : (∀ b o, b < B → w1.cell? ⟨b, o, none⟩ = W.cell? ⟨b, o, none⟩) ∧ (∀ b o, b < B → w1.frozen? ⟨b, o, none⟩ = W.frozen? ⟨b, o, none⟩) :=
  ⟨fun b o h => hb.cell (p := ⟨b, o, none⟩) h, fun b o h => hb.frozen (p := ⟨b, o, none⟩) h⟩

/-- A block below the call's own is not the row. -/
theorem own_ne {w : World} {base : Nat} {e : TypeId} {size : Nat} {v : Value} {n : Nat} {xs : List Value} (h : w.ownsRow base e size v n xs) {b : Nat} (hb : b < base) : v.ownBlock ≠ some b :=
  fun he => by have := (h.lt b he).1; omega

/-- What is owned is a slice of so many elements. -/
theorem own_shape {w : World} {base : Nat} {e : TypeId} {size : Nat} {v : Value} {n : Nat} {xs : List Value} (h : w.ownsRow base e size v n xs) : ∃ A c, v = .slice A n c := by
  rcases h.2 with ⟨rfl, rfl⟩ | ⟨g, cap, cur, rfl, _⟩
  · exact ⟨_, _, rfl⟩
  · exact ⟨_, _, rfl⟩

/-- A block that is known whole. -/
def Blk (w : World) (g : Nat) (t : TypeId) (cs : Array Value) : Prop := w.heap[g]? = some (.cells cs t (0, 0))
section
variable {w w' : World} {g : Nat} {t : TypeId} {cs : Array Value}
theorem Blk.lt (h : Blk w g t cs) : g < w.heap.size := (Array.getElem?_eq_some_iff.1 h).1
theorem Blk.cell (h : Blk w g t cs) (i : Nat) : w.cell? ⟨g, i, none⟩ = cs[i]? := cell_of_row w g i cs t (0, 0) h
theorem Blk.frozen (h : Blk w g t cs) (i : Nat) : w.frozen? ⟨g, i, none⟩ = false := by unfold Blk at h; simp [World.frozen?, h]
theorem Blk.new (w : World) (t : TypeId) (cs : Array Value) : Blk (w.alloc (.cells cs t)) w.heap.size t cs := heap_alloc_new w _
theorem Blk.drew (h : Blk w g t cs) : Blk w.drew g t cs := h
theorem Blk.drewN (h : Blk w g t cs) (n : Nat) : Blk (w.drewN n) g t cs := h
theorem Blk.alloc (h : Blk w g t cs) (o : Obj) : Blk (w.alloc o) g t cs := (Below.heap_alloc w o g h.lt).trans h
theorem Blk.set_ (h : Blk w g t cs) (i : Nat) (u : Value) : Blk (w.setCell ⟨g, i, none⟩ u) g t (cs.setIfInBounds i u) := by
  unfold Blk at h ⊢
  simp [World.setCell, Array.getElem?_modify, h]
theorem Blk.far (h : Blk w g t cs) {p : Addr} (hp : g ≠ p.block) (u : Value) : Blk (w.setCell p u) g t cs := (Below.heap_setCell w p u g hp).trans h
theorem Blk.below {B : Nat} (h : Blk w g t cs) (hb : Below B w w') (hg : g < B) : Blk w' g t cs := (hb.block g hg).trans h
theorem Blk.grown {row : Option Nat} (h : Blk w g t cs) (hb : w.grownBy w' row) (hg : some g ≠ row) : Blk w' g t cs := (hb.block g h.lt hg).trans h
end

/-- No wrap. -/
theorem wr64 {x : Int} (h1 : -9223372036854775808 ≤ x) (h2 : x ≤ 9223372036854775807) : IntKind.i64.wrap x = x := IntWalk.i64_in _ ⟨h1, h2⟩

theorem ret_int {k : IntKind} {a b : Int} (h : a = b) : Ending.returned (.int k a) = .returned (.int k b) := by rw [h]
theorem ret_bool {a b : Bool} (h : a = b) : Ending.returned (.bool a) = .returned (.bool b) := by rw [h]
theorem below_drewN {B : Nat} {a w : World} (h : Below B a w) (n : Nat) : Below B a (w.drewN n) := ⟨h.os, h.tape, h.output, h.size, h.block⟩

/-! ### A range of numbers, at 64 bits -/
/-- low ≤ n ≤ high. -/
def inR (lo hi n : Int) : Bool := decide (lo ≤ n) && decide (n ≤ hi)
theorem inR_iff {lo hi n : Int} : inR lo hi n = true ↔ lo ≤ n ∧ n ≤ hi := by simp [inR]

end Go.Proofs.YtfkobleefhpggaaDoor
