/- Several texts in one. -/
import Derived.Test.YtlcgbnmmbheleaaGreatV22
namespace Go.Proofs.YtlcgbnmmbheleaaGreat
def rankU (us : List Un) (i : Nat) : Nat := ((us.take i).filter (·.1)).length
theorem rank_zero (us : List Un) : rankU us 0 = 0 := by simp [rankU]
theorem rank_succ {us : List Un} {i : Nat} (h : i < us.length) : rankU us (i + 1) = rankU us i + (if (us[i]?.getD (false, [])).1 = true then 1 else 0) := by
  unfold rankU
  rw [List.take_succ_eq_append_getElem h, List.filter_append, List.length_append, List.getElem?_eq_getElem h, Option.getD_some]
  cases hb : us[i].1 <;> simp [hb]
def totalP (us : List Un) : Nat := (us.map (·.2)).flatten.length
end Go.Proofs.YtlcgbnmmbheleaaGreat

namespace Go.Proofs.YtlcgbnmmbheleaaGreat
set_option linter.unusedSimpArgs false
set_option linter.unusedVariables false
open Go Go.RowKit

def openN (us : List Un) : Nat := (us.filter (·.1)).length
theorem openN_rank (us : List Un) : rankU us us.length = openN us := by unfold rankU openN; rw [List.take_length]
theorem rankU_le (us : List Un) (i : Nat) : rankU us i ≤ i := Nat.le_trans (List.length_filter_le _ _) (by rw [List.length_take]; omega)
set_option maxRecDepth 100000 in
set_option maxHeartbeats 1600000 in
theorem countOpen_any (A1 A2 : Option Addr) (n1 c1 n2 c2 : Nat) (room : List Int) (us : List Un) (w : World) (h : RdC w A1 A2 n1 n2 room us) (hs : n2 ≤ 1000) :
    Calls Tryz.prog 20 #[.agg #[.slice A1 n1 c1, .slice A2 n2 c2]] w fun e w' => e = .returned (.int .i64 (openN us : Nat)) ∧ Below w.heap.size w w' := by
  have Hl := qh h.b.len
  have B1 := qh (alloc_up w (.cells #[.slice A1 n1 c1, .slice A2 n2 c2] 26))
  have N1 := qh (h.b.below B1.out)
  have lz := B1.out.size
  have sz : (w.alloc (.cells #[.slice A1 n1 c1, .slice A2 n2 c2] 26)).heap.size = w.heap.size + 1 := World.size_alloc _ _
  have Z1 := Blk.new w 26 #[.slice A1 n1 c1, .slice A2 n2 c2]
  have x1 := Z1.cell 1
  simp only [gT, gZ, gS] at x1
  clear h
  go_enter Tryz.func20, Tryz.ntmps20
  go_wp2_with fail
  clear x1 Z1
  generalize w.alloc (.cells #[.slice A1 n1 c1, .slice A2 n2 c2] 26) = w1 at B1 N1 lz sz ⊢
  go_loopw [3, 9] (fun v kv wr => ∃ k : Nat, kv = .int .i64 (k : Nat) ∧ k ≤ n2 ∧ v = .int .i64 (rankU us k : Nat) ∧ Below w.heap.size w1 wr) (fun _ kv _ => n2 - (intOf kv).toNat)
  case atStart => exact ⟨0, rfl, Nat.zero_le _, by rw [rank_zero]; rfl, Below.refl _ _⟩
  case round =>
    obtain ⟨k, rfl, hk, rfl, hbr⟩ := hrel
    have HB := qh hbr
    clear hbr
    by_cases hlt : k < n2
    · have q1 : (0 : Int) ≤ (k : Int) := by omega
      have q2 : (k : Int) < (n2 : Int) := by omega
      have q5 : 0 ≤ (k : Int) * 2 := by omega
      have hku : k < us.length := by have := Hl.out; omega
      obtain ⟨b, o, Ak, mk, ck, rfl, lb, e0, e1, hmk, hrd⟩ := (N1.out.below HB.out).at_ hlt
      have r1 := rank_succ hku
      have l1 := rankU_le us k
      have lzr := HB.out.size
      have v1 : IntKind.i64.wrap ((rankU us k : Int) + 1) = (rankU us k : Int) + 1 := wr64 (by omega) (by omega)
      clear hrd hmk
      generalize hop : (us[k]?.getD (false, [])).1 = op at e0 r1
      have R1 := qh r1
      clear r1 hop
      have Hn := qh (HB.out.trans ((alloc_up wr (.cells #[.bool op, .slice Ak mk ck] 32)).mono (by omega)))
      cases op with
      | true =>
        go_wp2_with fail
        go_roundw
        case rel => exact ⟨k + 1, by go_num, by omega, by rw [R1.out]; rfl, Hn.out⟩
        case measure => simp [intOf]; omega
      | false =>
        go_wp2_with fail
        go_roundw
        case rel => exact ⟨k + 1, by go_num, by omega, by rw [R1.out]; rfl, Hn.out⟩
        case measure => simp [intOf]; omega
    · obtain rfl : k = n2 := by omega
      go_wp2_with fail
      go_ret
      refine ⟨ret_int (by rw [show rankU us k = openN us from by rw [← openN_rank, Hl.out]]), B1.out.trans HB.out⟩

end Go.Proofs.YtlcgbnmmbheleaaGreat

namespace Go.Proofs.YtlcgbnmmbheleaaGreat
open Go Go.Conc Go.RowKit
set_option linter.unusedVariables false
set_option linter.unusedSimpArgs false

theorem ViewOf_cells_of {v w : World} {b : Nat} {t : TypeId} {cs : Array Value} (h : Blk v b t cs) (e : w.heap = v.heap) : Blk w b t cs := (congrArg (fun h => h[b]?) e).trans h
theorem below_gr {v w : World} (h : Below v.heap.size v w) : GR v w := ⟨h.os, h.output, h.size, h.block⟩
theorem RdC.same {v w : World} {A1 A2 : Option Addr} {n1 n2 : Nat} {room : List Int} {us : List Un} (h : RdC v A1 A2 n1 n2 room us) (e : w.heap = v.heap) : RdC w A1 A2 n1 n2 room us :=
  ⟨h.a.gain (fun p y hy => (World.cell?_of_block (by rw [e])).trans hy) (by rw [e]; exact Nat.le_refl _), h.b.gain (fun p y hy => (World.cell?_of_block (by rw [e])).trans hy) (by rw [e]; exact Nat.le_refl _)⟩
theorem RdC.gr {v w : World} {A1 A2 : Option Addr} {n1 n2 : Nat} {room : List Int} {us : List Un} (h : RdC v A1 A2 n1 n2 room us) (r : GR v w) : RdC w A1 A2 n1 n2 room us :=
  ⟨h.a.gain (fun p y hy => (World.cell?_of_block (r.rows _ (cell_lt hy))).trans hy) r.size, h.b.gain (fun p y hy => (World.cell?_of_block (r.rows _ (cell_lt hy))).trans hy) r.size⟩
theorem GR.same {v w w' : World} (r : GR v w) (e : SameHeap w' w) : GR v w' := ⟨e.os.trans r.os, e.output.trans r.output, by rw [e.heap]; exact r.size, fun b hb => by rw [e.heap]; exact r.rows b hb⟩
theorem GR.from {v w w' : World} (e : SameHeap w v) (r : GR w w') : GR v w' := ⟨r.os.trans e.os, r.output.trans e.output, by rw [← e.heap]; exact r.size, fun b hb => by rw [← e.heap]; exact r.rows b (by rw [e.heap]; exact hb)⟩
theorem Blk.grr {v w : World} {b : Nat} {t : TypeId} {cs : Array Value} (h : Blk v b t cs) (r : GR v w) : Blk w b t cs := (r.rows b h.lt).trans h

section
variable {H : Nat → Prop} {v : World} {A1 A2 : Option Addr} {n1 c1 n2 c2 : Nat} {room : List Int} {us : List Un}
end
end Go.Proofs.YtlcgbnmmbheleaaGreat

namespace Go.Proofs.YtlcgbnmmbheleaaGreat
set_option linter.unusedSimpArgs false
set_option linter.unusedVariables false

end Go.Proofs.YtlcgbnmmbheleaaGreat
