/- Words for the exact law of plays: integers that read below a bound, a row of the call's own, its marks. (Printed by gen_clmarkh.py.) -/
import Derived.Test.YtjjnbbkdjimcoaaGreatExKitB
namespace Go.Proofs.YtjjnbbkdjimcoaaGreat
set_option linter.unusedVariables false
open Go Go.RowKit
attribute [local go_sem ↓] Go.wp_at_zero Go.wp_at_succ

structure RdV (w : World) (B : Nat) (A : Option Addr) (n : Nat) (xs : List Int) : Prop where
  a : RdI w B A n xs
  le : B ≤ w.heap.size
structure OwR (w : World) (base : Nat) (A : Option Addr) (n c : Nat) (xs : List Int) : Prop where
  o : w.ownsRow base 3 1 (.slice A n c) n (xs.map (Value.int .i64))
  le : base ≤ w.heap.size
/-- Outside the row's block nothing has turned. -/
structure KeptV (w w' : World) (v : Value) (n : Nat) : Prop where
  os : w'.os = w.os
  tape : w'.tape = w.tape
  output : w'.output = w.output
  size : w.heap.size ≤ w'.heap.size
  block : ∀ b, b < w.heap.size → (0 < n → v.ownBlock ≠ some b) → w'.heap[b]? = w.heap[b]?
section
variable {w w' : World} {B base lo hi n c g : Nat} {A : Option Addr} {xs : List Int} {v : Value}
theorem RdV.low (h : RdV w B A n xs) (hb : Below B w w') : RdV w' B A n xs := ⟨h.a.below hb, by have := hb.size; have := h.le; omega⟩
theorem RdV.up (h : RdV w B A n xs) (hb : Below w.heap.size w w') : RdV w' B A n xs := h.low (hb.mono h.le)
theorem RdV.ko (h : RdV w B A n xs) (k : KeptOut w w' lo hi) (hl : B ≤ lo) : RdV w' B A n xs := h.low (k.low hl h.le)
theorem RdV.rd (h : RdV w B A n xs) : RdI w w.heap.size A n xs := h.a.more h.le
theorem OwR.up (h : OwR w base A n c xs) (hb : Below w.heap.size w w') : OwR w' base A n c xs := ⟨own_up' h.o hb, Nat.le_trans h.le hb.size⟩
theorem OwR.ko (h : OwR w base A n c xs) (k : KeptOut w w' lo hi) (hl : hi ≤ base) : OwR w' base A n c xs := ⟨own_keep h.o (fun b hb => k.block b (h.o.lt b hb).2 (.inr (by have := (h.o.lt b hb).1; omega))), Nat.le_trans h.le k.size⟩
theorem OwR.rd (h : OwR w base A n c xs) : RdI w w.heap.size A n xs := own_rdI h.o (own_le h.o)
theorem KeptV.low (k : KeptV w w' v n) (h : 0 < n → ∀ b, v.ownBlock = some b → B ≤ b) (hs : B ≤ w.heap.size) : Below B w w' := ⟨k.os, k.tape, k.output, k.size, fun b hb => k.block b (by omega) (fun hp e => by have := h hp b e; omega)⟩
end

set_option maxRecDepth 100000 in
set_option maxHeartbeats 800000 in
theorem markI0_any (A : Option Addr) (c : Nat) (k : Int) (w : World) :
    Calls Tryz.prog 40 #[.slice A 0 c, .int .i64 k] w fun e w' => e = .returned (.int .i64 k) ∧ w = w' := by
  go_enter Tryz.func40, Tryz.ntmps40
  go_wp2
  go_loop [1, 5] (fun q i => i = .int .i64 0 ∧ q = .int .i64 k) (fun _ i => 0)
  case atStart => exact ⟨rfl, rfl⟩
  case round =>
    obtain ⟨rfl, rfl⟩ := hrel
    go_wp2
    go_ret
    exact ⟨rfl, rfl⟩

theorem markCodes_any (base : Nat) (A : Option Addr) (n c : Nat) (k : Int) (xs : List Int) (w : World) (h : 0 < n → w.ownsRow base 3 1 (.slice A n c) n (xs.map (Value.int .i64))) (h0 : 0 ≤ k) (h1 : k + n ≤ 4611686018427387904) :
    Calls Tryz.prog 40 #[.slice A n c, .int .i64 k] w fun e w' => e = .returned (.int .i64 (k + n)) ∧ RdI w' w'.heap.size A n (seqI k n) ∧ KeptV w w' (.slice A n c) n := by
  rcases Nat.eq_zero_or_pos n with hn | hn
  · subst hn
    exact (markI0_any A c k w).mono (fun e w' ⟨he, hw⟩ => by
      subst hw
      exact ⟨by rw [he]; simp, RdI.nil, rfl, rfl, rfl, Nat.le_refl _, fun _ _ _ => rfl⟩)
  · exact (markRow_any base A n c k xs w (h hn) h0 h1).mono (fun e w' ⟨he, ho, hg⟩ => ⟨he, own_rdI ho (own_le ho), hg.os, hg.tape, hg.output, hg.size, fun b hb hne => hg.block b hb (fun e => hne hn e.symm)⟩)
end Go.Proofs.YtjjnbbkdjimcoaaGreat
