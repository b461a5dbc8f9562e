/- Walks: the program's hasId, whereOf (closures, slices.IndexFunc, slices.ContainsFunc), BinsWhere. -/
import Derived.Test.YtgngmjlbeofjkaaImplBins
namespace Go.Proofs.Ytgngmjlbeofjkaa
open Go.RowKit

set_option maxHeartbeats 400000 in
theorem hasId1_any (i id : Int) (A : Option Addr) (m c g : Nat) (w : World) (hc : w.cell? ⟨g, 0, none⟩ = some (.int .i64 id)) :
    Calls Try.prog 91 #[.agg #[.int .i64 i, .slice A m c], .pointer (some ⟨g, 0, none⟩)] w fun e w' => e = .returned (.bool (i == id)) ∧ w.alloc (.cells #[.int .i64 i, .slice A m c] 46) = w' := by
  have hg := World.block_lt_of_cell? w _ hc
  have hc' := (World.cell?_alloc_lt w (.cells #[.int .i64 i, .slice A m c] 46) ⟨g, 0, none⟩ hg).trans hc
  go_enter Try.func91, Try.ntmps91
  go_wp2
  go_ret
  exact ⟨rfl, rfl⟩

set_option maxHeartbeats 400000 in
theorem hasId_any (id : Int) (w : World) :
    Calls Try.prog 74 #[.int .i64 id] w fun e w' => e = .returned (.func (.func 91) #[] #[.pointer (some ⟨w.heap.size, 0, none⟩)]) ∧ w.alloc (.cells #[.int .i64 id] 3) = w' := by
  go_enter Try.func74, Try.ntmps74
  go_wp2
  go_ret
  exact ⟨rfl, rfl⟩

/-- The place of a task with a number among tasks, or -1. -/
def atP (ts : List Tk) (id : Int) : Int := idxP (fun t => t.1 == id) ts
theorem atP_ge (ts : List Tk) (id : Int) : decide (0 ≤ atP ts id) = hasP ts id := idxP_ge _ _

set_option maxRecDepth 100000 in
set_option maxHeartbeats 800000 in
theorem indexT_any (A : Option Addr) (n c g : Nat) (ts : List Tk) (id : Int) (w : World) (h : RdT w w.heap.size A n ts) (hc : w.cell? ⟨g, 0, none⟩ = some (.int .i64 id)) :
    Calls Try.prog 90 #[.slice A n c, .func (.func 91) #[] #[.pointer (some ⟨g, 0, none⟩)]] w fun e w' => e = .returned (.int .i64 (atP ts id)) ∧ Below w.heap.size w w' := by
  have hg := World.block_lt_of_cell? w _ hc
  have hn := h.le
  have hl := Lib.hid h.len
  have H := Lib.hid h
  have Hc := Lib.hid hc
  clear h hc
  go_enter Try.func90, Try.ntmps90
  go_wp2
  go_loopw [8] (fun i wr => ∃ k : Nat, i = .int .i64 k ∧ k ≤ n ∧ Below w.heap.size w wr ∧ (∀ j, j < k → ((ts[j]?.getD (0, [])).1 == id) = false)) (fun i _ => n - (intOf i).toNat)
  case atStart => exact ⟨0, rfl, Nat.zero_le _, Below.refl _ _, by intro j hj; omega⟩
  case round =>
    obtain ⟨k, rfl, hk, hbel, hall⟩ := hrel
    have Hall := Lib.hid hall
    clear hall
    by_cases hlt : k < n
    · obtain ⟨b, o, A', m', c', rfl, hb, hc1, hc2, hmc, hrd⟩ := (H.out.below hbel).at_ hlt
      have lz := hbel.size
      have hkl : Hid (k < ts.length) := by have := hl.out; show _ < _; omega
      have ecall := hasId1_any (ts[k]?.getD (0, [])).1 id A' m' c' g wr ((hbel.cell (p := ⟨g, 0, none⟩) hg).trans Hc.out)
      clear hrd
      by_cases hh : ((ts[k]?.getD (0, [])).1 == id) = true
      · rw [hh] at ecall
        have Ecall := Lib.hid ecall
        have Hh := Lib.hid hh
        clear ecall hh
        go_wp2_with (go_at_call 91; refine Ecall.out.mono ?_; rintro e w1 ⟨rfl, rfl⟩)
        go_ret
        exact ⟨ret_int (idxP_some (d := (0, [])) hkl.out Hh.out Hall.out).symm, hbel.alloc lz _⟩
      · have hh : ((ts[k]?.getD (0, [])).1 == id) = false := by simpa using hh
        rw [hh] at ecall
        have Ecall := Lib.hid ecall
        have Hh := Lib.hid hh
        clear ecall hh
        go_wp2_with (go_at_call 91; refine Ecall.out.mono ?_; rintro e w1 ⟨rfl, rfl⟩)
        go_roundw
        case rel => exact ⟨k + 1, by go_num, by omega, hbel.alloc lz _, fun j hj => by
          by_cases e : j = k
          · rw [e]; exact Hh.out
          · exact Hall.out j (by omega)⟩
        case measure => simp [intOf]; omega
    · go_wp2
      go_ret
      exact ⟨ret_int (idxP_none (d := (0, [])) (fun j hj => Hall.out j (by have := hl.out; omega))).symm, hbel⟩

set_option maxHeartbeats 400000 in
theorem containsT_any (A : Option Addr) (n c g : Nat) (ts : List Tk) (id : Int) (w : World) (h : RdT w w.heap.size A n ts) (hc : w.cell? ⟨g, 0, none⟩ = some (.int .i64 id)) :
    Calls Try.prog 73 #[.slice A n c, .func (.func 91) #[] #[.pointer (some ⟨g, 0, none⟩)]] w fun e w' => e = .returned (.bool (hasP ts id)) ∧ Below w.heap.size w w' := by
  have H := Lib.hid h
  have Hc := Lib.hid hc
  clear h hc
  go_enter Try.func73, Try.ntmps73
  go_wp2_with (go_at_call 90; refine (indexT_any _ _ _ _ _ _ _ H.out Hc.out).mono ?_; rintro e w' ⟨rfl, hb1⟩)
  go_ret
  exact ⟨ret_bool (atP_ge _ _), hb1⟩

set_option maxHeartbeats 400000 in
theorem whereOf1_any (A : Option Addr) (n c g : Nat) (ts : List Tk) (id : Int) (w : World) (h : RdT w w.heap.size A n ts) (hc : w.cell? ⟨g, 0, none⟩ = some (.int .i64 id)) :
    Calls Try.prog 72 #[.slice A n c, .pointer (some ⟨g, 0, none⟩)] w fun e w' => e = .returned (.bool (hasP ts id)) ∧ Below w.heap.size w w' := by
  have H := Lib.hid h
  clear h
  have hal : Below w.heap.size w (w.alloc (.cells #[.int .i64 id] 3)) := (Below.refl _ _).alloc (Nat.le_refl _) _
  have hnew : Hid ((w.alloc (.cells #[.int .i64 id] 3)).cell? ⟨w.heap.size, 0, none⟩ = some (.int .i64 id)) := by show _ = _; rw [(Blk.new w 3 #[.int .i64 id]).cell]; rfl
  go_enter Try.func72, Try.ntmps72
  go_wp2_with (first
    | (go_at_call 74; refine (hasId_any _ _).mono ?_; rintro e w' ⟨rfl, rfl⟩)
    | (go_at_call 73; refine (containsT_any _ _ _ _ _ _ _ (H.out.up hal) hnew.out).mono ?_; rintro e w' ⟨rfl, hb1⟩))
  go_ret
  exact ⟨rfl, hal.trans (hb1.mono (by simp))⟩

set_option maxRecDepth 100000 in
set_option maxHeartbeats 800000 in
theorem indexB_any (A : Option Addr) (n c g : Nat) (bs : List (List Tk)) (id : Int) (w : World) (h : RdB w w.heap.size A n bs) (hc : w.cell? ⟨g, 0, none⟩ = some (.int .i64 id)) :
    Calls Try.prog 71 #[.slice A n c, .func (.func 72) #[] #[.pointer (some ⟨g, 0, none⟩)]] w fun e w' => e = .returned (.int .i64 (whereP bs id)) ∧ Below w.heap.size w w' := by
  have hg := World.block_lt_of_cell? w _ hc
  have hn := h.le
  have hl := Lib.hid h.len
  have H := Lib.hid h
  have Hc := Lib.hid hc
  clear h hc
  go_enter Try.func71, Try.ntmps71
  go_wp2
  go_loopw [8] (fun i wr => ∃ k : Nat, i = .int .i64 k ∧ k ≤ n ∧ Below w.heap.size w wr ∧ (∀ j, j < k → hasP (bs[j]?.getD []) id = false)) (fun i _ => n - (intOf i).toNat)
  case atStart => exact ⟨0, rfl, Nat.zero_le _, Below.refl _ _, by intro j hj; omega⟩
  case round =>
    obtain ⟨k, rfl, hk, hbel, hall⟩ := hrel
    have Hall := Lib.hid hall
    clear hall
    by_cases hlt : k < n
    · obtain ⟨b, o, A', m', c', rfl, hb, hc1, hmc, hrd⟩ := (H.out.below hbel).at_ hlt
      have lz := hbel.size
      have hkl : Hid (k < bs.length) := by have := hl.out; show _ < _; omega
      have ecall := whereOf1_any A' m' c' g _ id wr (hrd.more lz) ((hbel.cell (p := ⟨g, 0, none⟩) hg).trans Hc.out)
      clear hrd
      by_cases hh : hasP (bs[k]?.getD []) id = true
      · rw [hh] at ecall
        have Ecall := Lib.hid ecall
        have Hh := Lib.hid hh
        clear ecall hh
        go_wp2_with (go_at_call 72; refine Ecall.out.mono ?_; rintro e w1 ⟨rfl, hb1⟩)
        go_ret
        exact ⟨ret_int (whereP_some hkl.out Hh.out Hall.out).symm, hbel.trans (hb1.mono lz)⟩
      · have hh : hasP (bs[k]?.getD []) id = false := by simpa using hh
        rw [hh] at ecall
        have Ecall := Lib.hid ecall
        have Hh := Lib.hid hh
        clear ecall hh
        go_wp2_with (go_at_call 72; refine Ecall.out.mono ?_; rintro e w1 ⟨rfl, hb1⟩)
        go_roundw
        case rel => exact ⟨k + 1, by go_num, by omega, hbel.trans (hb1.mono lz), fun j hj => by
          by_cases e : j = k
          · rw [e]; exact Hh.out
          · exact Hall.out j (by omega)⟩
        case measure => simp [intOf]; omega
    · go_wp2
      go_ret
      exact ⟨ret_int (whereP_none (fun j hj => Hall.out j (by have := hl.out; omega))).symm, hbel⟩

set_option maxHeartbeats 400000 in
theorem whereOf_any (A : Option Addr) (n c : Nat) (bs : List (List Tk)) (id : Int) (w : World) (h : RdB w w.heap.size A n bs) :
    Calls Try.prog 48 #[.slice A n c, .int .i64 id] w fun e w' => e = .returned (.int .i64 (whereP bs id)) ∧ Below w.heap.size w w' := by
  have H := Lib.hid h
  clear h
  have hal : Below w.heap.size w (w.alloc (.cells #[.int .i64 id] 3)) := (Below.refl _ _).alloc (Nat.le_refl _) _
  have hnew : Hid ((w.alloc (.cells #[.int .i64 id] 3)).cell? ⟨w.heap.size, 0, none⟩ = some (.int .i64 id)) := by show _ = _; rw [(Blk.new w 3 #[.int .i64 id]).cell]; rfl
  go_enter Try.func48, Try.ntmps48
  go_wp2_with (go_at_call 71; refine (indexB_any _ _ _ _ _ _ _ (H.out.up hal) hnew.out).mono ?_; rintro e w' ⟨rfl, hb1⟩)
  go_ret
  exact ⟨rfl, hal.trans (hb1.mono (by simp))⟩

/-- BinsWhere. -/
def binsWhereP (room : List Int) (bs : List (List Tk)) (id : Int) : Int := if binsOk room bs then whereP bs id else -1
set_option maxHeartbeats 400000 in
theorem binsWhere_any (A1 A2 : Option Addr) (n1 c1 n2 c2 : Nat) (room : List Int) (bs : List (List Tk)) (id : Int) (w : World) (h1 : RdI w w.heap.size A1 n1 room) (h2 : RdB w w.heap.size A2 n2 bs) (hz : bs.flatten.length ≤ 1048576) :
    Calls Try.prog 24 #[.slice A1 n1 c1, .slice A2 n2 c2, .int .i64 id] w fun e w' => e = .returned (.int .i64 (binsWhereP room bs id)) ∧ Below w.heap.size w w' := by
  have H1 := Lib.hid h1
  have H2 := Lib.hid h2
  clear h1 h2
  by_cases hr : binsOk room bs = true
  · have Hr := Lib.hid hr
    go_enter Try.func24, Try.ntmps24
    go_wp2_with fail
    refine (binsValidI_any _ _ _ _ _ _ _ _ _ H1.out H2.out hz).mono ?_; rintro e w1 ⟨rfl, hb1⟩
    go_wp2_with fail
    refine (whereOf_any _ _ _ _ _ _ (H2.out.up hb1)).mono ?_; rintro e w2 ⟨rfl, hb2⟩
    go_wp2
    go_ret
    exact ⟨ret_int (by rw [binsWhereP, Hr.out]; rfl), hb1.trans (hb2.mono hb1.size)⟩
  · have hr : binsOk room bs = false := by simpa using hr
    have Hr := Lib.hid hr
    go_enter Try.func24, Try.ntmps24
    go_wp2_with fail
    refine (binsValidI_any _ _ _ _ _ _ _ _ _ H1.out H2.out hz).mono ?_; rintro e w1 ⟨rfl, hb1⟩
    go_wp2
    go_ret
    exact ⟨ret_int (by rw [binsWhereP, Hr.out]; rfl), hb1⟩
end Go.Proofs.Ytgngmjlbeofjkaa
