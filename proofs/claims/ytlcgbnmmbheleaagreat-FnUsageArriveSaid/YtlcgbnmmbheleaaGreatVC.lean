/- Several texts in one. -/
import Derived.Test.YtlcgbnmmbheleaaGreatVB
namespace Go.Proofs.YtlcgbnmmbheleaaGreat

end Go.Proofs.YtlcgbnmmbheleaaGreat

namespace Go.Proofs.YtlcgbnmmbheleaaGreat
open Go Go.RowKit Go.Shelf
attribute [local go_sem] Oper.semAt_some

end Go.Proofs.YtlcgbnmmbheleaaGreat

namespace Go.Proofs.YtlcgbnmmbheleaaGreat
open Go.RowKit

set_option maxHeartbeats 400000 in
theorem hasId1_any (i id : Int) (A : Option Addr) (m c g : Nat) (w : World) (hc : w.cell? ⟨g, 0, none⟩ = some (.int .i64 id)) :
    Calls Tryz.prog 100 #[.agg #[.int .i64 i, .slice A m c], .pointer (some ⟨g, 0, none⟩)] w fun e w' => e = .returned (.bool (i == id)) ∧ w.alloc (.cells #[.int .i64 i, .slice A m c] 40) = w' := by
  have hg := World.block_lt_of_cell? w _ hc
  have hc' := (World.cell?_alloc_lt w (.cells #[.int .i64 i, .slice A m c] 40) ⟨g, 0, none⟩ hg).trans hc
  go_enter Tryz.func100, Tryz.ntmps100
  go_wp2
  go_ret
  exact ⟨rfl, rfl⟩

set_option maxHeartbeats 400000 in
theorem hasId_any (id : Int) (w : World) :
    Calls Tryz.prog 61 #[.int .i64 id] w fun e w' => e = .returned (.func (.func 100) #[] #[.pointer (some ⟨w.heap.size, 0, none⟩)]) ∧ w.alloc (.cells #[.int .i64 id] 3) = w' := by
  go_enter Tryz.func61, Tryz.ntmps61
  go_wp2
  go_ret
  exact ⟨rfl, rfl⟩

def atP (ts : List Tk) (id : Int) : Int := idxP (fun t => t.1 == id) ts
theorem atP_ge (ts : List Tk) (id : Int) : decide (0 ≤ atP ts id) = hasP ts id := idxP_ge _ _

set_option maxRecDepth 100000 in
set_option maxHeartbeats 800000 in
theorem indexT_any (A : Option Addr) (n c g : Nat) (ts : List Tk) (id : Int) (w : World) (h : RdT w w.heap.size A n ts) (hc : w.cell? ⟨g, 0, none⟩ = some (.int .i64 id)) :
    Calls Tryz.prog 99 #[.slice A n c, .func (.func 100) #[] #[.pointer (some ⟨g, 0, none⟩)]] w fun e w' => e = .returned (.int .i64 (atP ts id)) ∧ Below w.heap.size w w' := by
  have hg := World.block_lt_of_cell? w _ hc
  have hn := h.le
  have hl := qh h.len
  have H := qh h
  have Hc := qh hc
  clear h hc
  go_enter Tryz.func99, Tryz.ntmps99
  go_wp2
  go_loopw [8] (fun i wr => ∃ k : Nat, i = .int .i64 k ∧ k ≤ n ∧ Below w.heap.size w wr ∧ (∀ j, j < k → ((ts[j]?.getD (0, [])).1 == id) = false)) (fun i _ => n - (intOf i).toNat)
  case atStart => exact ⟨0, rfl, Nat.zero_le _, Below.refl _ _, by intro j hj; omega⟩
  case round =>
    obtain ⟨k, rfl, hk, hbel, hall⟩ := hrel
    have Hall := qh hall
    clear hall
    by_cases hlt : k < n
    · obtain ⟨b, o, A', m', c', rfl, hb, hc1, hc2, hmc, hrd⟩ := (H.out.below hbel).at_ hlt
      have lz := hbel.size
      have hkl : Hid (k < ts.length) := by have := hl.out; show _ < _; omega
      have ecall := hasId1_any (ts[k]?.getD (0, [])).1 id A' m' c' g wr ((hbel.cell (p := ⟨g, 0, none⟩) hg).trans Hc.out)
      clear hrd
      by_cases hh : ((ts[k]?.getD (0, [])).1 == id) = true
      · rw [hh] at ecall
        have Ecall := qh ecall
        have Hh := qh hh
        clear ecall hh
        go_wp2_with (go_at_call 100; refine Ecall.out.mono ?_; rintro e w1 ⟨rfl, rfl⟩)
        go_ret
        exact ⟨ret_int (idxP_some (d := (0, [])) hkl.out Hh.out Hall.out).symm, hbel.alloc lz _⟩
      · have hh : ((ts[k]?.getD (0, [])).1 == id) = false := by simpa using hh
        rw [hh] at ecall
        have Ecall := qh ecall
        have Hh := qh hh
        clear ecall hh
        go_wp2_with (go_at_call 100; refine Ecall.out.mono ?_; rintro e w1 ⟨rfl, rfl⟩)
        go_roundw
        case rel => exact ⟨k + 1, by go_num, by omega, hbel.alloc lz _, fun j hj => by
          by_cases e : j = k
          · rw [e]; exact Hh.out
          · exact Hall.out j (by omega)⟩
        case measure => simp [intOf]; omega
    · go_wp2
      go_ret
      exact ⟨ret_int (idxP_none (d := (0, [])) (fun j hj => Hall.out j (by have := hl.out; omega))).symm, hbel⟩

set_option maxHeartbeats 400000 in
theorem containsT_any (A : Option Addr) (n c g : Nat) (ts : List Tk) (id : Int) (w : World) (h : RdT w w.heap.size A n ts) (hc : w.cell? ⟨g, 0, none⟩ = some (.int .i64 id)) :
    Calls Tryz.prog 60 #[.slice A n c, .func (.func 100) #[] #[.pointer (some ⟨g, 0, none⟩)]] w fun e w' => e = .returned (.bool (hasP ts id)) ∧ Below w.heap.size w w' := by
  have H := qh h
  have Hc := qh hc
  clear h hc
  go_enter Tryz.func60, Tryz.ntmps60
  go_wp2_with (go_at_call 99; refine (indexT_any _ _ _ _ _ _ _ H.out Hc.out).mono ?_; rintro e w' ⟨rfl, hb1⟩)
  go_ret
  exact ⟨ret_bool (atP_ge _ _), hb1⟩

set_option maxHeartbeats 400000 in
theorem whereOf1_any (A : Option Addr) (n c g : Nat) (ts : List Tk) (id : Int) (w : World) (h : RdT w w.heap.size A n ts) (hc : w.cell? ⟨g, 0, none⟩ = some (.int .i64 id)) :
    Calls Tryz.prog 59 #[.slice A n c, .pointer (some ⟨g, 0, none⟩)] w fun e w' => e = .returned (.bool (hasP ts id)) ∧ Below w.heap.size w w' := by
  have H := qh h
  clear h
  have hal : Below w.heap.size w (w.alloc (.cells #[.int .i64 id] 3)) := (Below.refl _ _).alloc (Nat.le_refl _) _
  have hnew : Hid ((w.alloc (.cells #[.int .i64 id] 3)).cell? ⟨w.heap.size, 0, none⟩ = some (.int .i64 id)) := by show _ = _; rw [(Blk.new w 3 #[.int .i64 id]).cell]; rfl
  go_enter Tryz.func59, Tryz.ntmps59
  go_wp2_with (first
    | (go_at_call 61; refine (hasId_any _ _).mono ?_; rintro e w' ⟨rfl, rfl⟩)
    | (go_at_call 60; refine (containsT_any _ _ _ _ _ _ _ (H.out.up hal) hnew.out).mono ?_; rintro e w' ⟨rfl, hb1⟩))
  go_ret
  exact ⟨rfl, hal.trans (hb1.mono (by simp))⟩

set_option maxRecDepth 100000 in
set_option maxHeartbeats 800000 in
theorem indexB_any (A : Option Addr) (n c g : Nat) (bs : List (List Tk)) (id : Int) (w : World) (h : RdB w w.heap.size A n bs) (hc : w.cell? ⟨g, 0, none⟩ = some (.int .i64 id)) :
    Calls Tryz.prog 58 #[.slice A n c, .func (.func 59) #[] #[.pointer (some ⟨g, 0, none⟩)]] w fun e w' => e = .returned (.int .i64 (whereP bs id)) ∧ Below w.heap.size w w' := by
  have hg := World.block_lt_of_cell? w _ hc
  have hn := h.le
  have hl := qh h.len
  have H := qh h
  have Hc := qh hc
  clear h hc
  go_enter Tryz.func58, Tryz.ntmps58
  go_wp2
  go_loopw [8] (fun i wr => ∃ k : Nat, i = .int .i64 k ∧ k ≤ n ∧ Below w.heap.size w wr ∧ (∀ j, j < k → hasP (bs[j]?.getD []) id = false)) (fun i _ => n - (intOf i).toNat)
  case atStart => exact ⟨0, rfl, Nat.zero_le _, Below.refl _ _, by intro j hj; omega⟩
  case round =>
    obtain ⟨k, rfl, hk, hbel, hall⟩ := hrel
    have Hall := qh hall
    clear hall
    by_cases hlt : k < n
    · obtain ⟨b, o, A', m', c', rfl, hb, hc1, hmc, hrd⟩ := (H.out.below hbel).at_ hlt
      have lz := hbel.size
      have hkl : Hid (k < bs.length) := by have := hl.out; show _ < _; omega
      have ecall := whereOf1_any A' m' c' g _ id wr (hrd.more lz) ((hbel.cell (p := ⟨g, 0, none⟩) hg).trans Hc.out)
      clear hrd
      by_cases hh : hasP (bs[k]?.getD []) id = true
      · rw [hh] at ecall
        have Ecall := qh ecall
        have Hh := qh hh
        clear ecall hh
        go_wp2_with (go_at_call 59; refine Ecall.out.mono ?_; rintro e w1 ⟨rfl, hb1⟩)
        go_ret
        exact ⟨ret_int (whereP_some hkl.out Hh.out Hall.out).symm, hbel.trans (hb1.mono lz)⟩
      · have hh : hasP (bs[k]?.getD []) id = false := by simpa using hh
        rw [hh] at ecall
        have Ecall := qh ecall
        have Hh := qh hh
        clear ecall hh
        go_wp2_with (go_at_call 59; refine Ecall.out.mono ?_; rintro e w1 ⟨rfl, hb1⟩)
        go_roundw
        case rel => exact ⟨k + 1, by go_num, by omega, hbel.trans (hb1.mono lz), fun j hj => by
          by_cases e : j = k
          · rw [e]; exact Hh.out
          · exact Hall.out j (by omega)⟩
        case measure => simp [intOf]; omega
    · go_wp2
      go_ret
      exact ⟨ret_int (whereP_none (fun j hj => Hall.out j (by have := hl.out; omega))).symm, hbel⟩

set_option maxHeartbeats 400000 in
theorem whereOf_any (A : Option Addr) (n c : Nat) (bs : List (List Tk)) (id : Int) (w : World) (h : RdB w w.heap.size A n bs) :
    Calls Tryz.prog 32 #[.slice A n c, .int .i64 id] w fun e w' => e = .returned (.int .i64 (whereP bs id)) ∧ Below w.heap.size w w' := by
  have H := qh h
  clear h
  have hal : Below w.heap.size w (w.alloc (.cells #[.int .i64 id] 3)) := (Below.refl _ _).alloc (Nat.le_refl _) _
  have hnew : Hid ((w.alloc (.cells #[.int .i64 id] 3)).cell? ⟨w.heap.size, 0, none⟩ = some (.int .i64 id)) := by show _ = _; rw [(Blk.new w 3 #[.int .i64 id]).cell]; rfl
  go_enter Tryz.func32, Tryz.ntmps32
  go_wp2_with (go_at_call 58; refine (indexB_any _ _ _ _ _ _ _ (H.out.up hal) hnew.out).mono ?_; rintro e w' ⟨rfl, hb1⟩)
  go_ret
  exact ⟨rfl, hal.trans (hb1.mono (by simp))⟩

end Go.Proofs.YtlcgbnmmbheleaaGreat
