/- Walks: eqIntS, eqTask, eqTaskS, eqTaskSS, sameInts of two that read the same: true. -/
import Derived.Test.YtfkobleefhpggaaDoorLawTo
import Derived.Deep.DrawnRows
namespace Go.Proofs.YtfkobleefhpggaaDoor
open Go.RowKit
attribute [local go_sem ↓] Go.wp_at_zero Go.wp_at_succ

set_option maxRecDepth 100000 in
set_option maxHeartbeats 800000 in
theorem eqIntS_any (A1 A2 : Option Addr) (n c1 c2 B1 B2 : Nat) (xs : List Int) (w : World) (h1 : RdI w B1 A1 n xs) (h2 : RdI w B2 A2 n xs) :
    Calls Tryd.prog 10 #[.slice A1 n c1, .slice A2 n c2] w fun e w' => e = .returned (.bool true) ∧ ∃ m, w.drewN m = w' := by
  have hn := h1.le
  have H1 := Lib.hid h1
  have H2 := Lib.hid h2
  clear h1 h2
  go_enter Tryd.func10, Tryd.ntmps10
  go_wp2
  go_loopw [5] (fun i wr => ∃ k m : Nat, i = .int .i64 k ∧ k ≤ n ∧ wr = w.drewN m) (fun i _ => n - (intOf i).toNat)
  case atStart => exact ⟨0, 0, rfl, Nat.zero_le _, rfl⟩
  case round =>
    obtain ⟨k, m, rfl, hk, rfl⟩ := hrel
    by_cases hlt : k < n
    · obtain ⟨b1, o1, rfl, hb1, hc1⟩ := H1.out.at_ hlt
      obtain ⟨b2, o2, rfl, hb2, hc2⟩ := H2.out.at_ hlt
      have k1 : (0 : Int) ≤ (k : Int) := by omega
      have k2 : (k : Int) < (n : Int) := by omega
      go_wp2
      go_quiet (fail)
      go_wp2
      go_roundw
      case rel => exact ⟨k + 1, _, by go_num, by omega, rfl⟩
      case measure => simp [intOf]; omega
    · go_wp2
      go_ret
      exact ⟨rfl, _, rfl⟩

set_option maxRecDepth 100000 in
set_option maxHeartbeats 800000 in
theorem sameInts_any (A1 A2 : Option Addr) (n c1 c2 B1 B2 : Nat) (xs : List Int) (w : World) (h1 : RdI w B1 A1 n xs) (h2 : RdI w B2 A2 n xs) :
    Calls Tryd.prog 17 #[.slice A1 n c1, .slice A2 n c2] w fun e w' => e = .returned (.bool true) ∧ ∃ m, w.drewN m = w' := by
  have hn := h1.le
  have H1 := Lib.hid h1
  have H2 := Lib.hid h2
  clear h1 h2
  go_enter Tryd.func17, Tryd.ntmps17
  go_wp2
  go_loopw [5] (fun i wr => ∃ k m : Nat, i = .int .i64 k ∧ k ≤ n ∧ wr = w.drewN m) (fun i _ => n - (intOf i).toNat)
  case atStart => exact ⟨0, 0, rfl, Nat.zero_le _, rfl⟩
  case round =>
    obtain ⟨k, m, rfl, hk, rfl⟩ := hrel
    by_cases hlt : k < n
    · obtain ⟨b1, o1, rfl, hb1, hc1⟩ := H1.out.at_ hlt
      obtain ⟨b2, o2, rfl, hb2, hc2⟩ := H2.out.at_ hlt
      have k1 : (0 : Int) ≤ (k : Int) := by omega
      have k2 : (k : Int) < (n : Int) := by omega
      go_wp2
      go_quiet (fail)
      go_wp2
      go_roundw
      case rel => exact ⟨k + 1, _, by go_num, by omega, rfl⟩
      case measure => simp [intOf]; omega
    · go_wp2
      go_ret
      exact ⟨rfl, _, rfl⟩

set_option maxRecDepth 100000 in
set_option maxHeartbeats 800000 in
theorem eqTask_any (A1 A2 : Option Addr) (n c1 c2 : Nat) (id : Int) (xs : List Int) (w : World) (h1 : RdI w w.heap.size A1 n xs) (h2 : RdI w w.heap.size A2 n xs) :
    Calls Tryd.prog 87 #[.agg #[.int .i64 id, .slice A1 n c1], .agg #[.int .i64 id, .slice A2 n c2]] w fun e w' => e = .returned (.bool true) ∧ Below w.heap.size w w' := by
  have H1 := Lib.hid h1
  have H2 := Lib.hid h2
  clear h1 h2
  have hal : Below w.heap.size w ((w.alloc (.cells #[.int .i64 id, .slice A1 n c1] 66)).alloc (.cells #[.int .i64 id, .slice A2 n c2] 66)) := ((Below.refl _ _).alloc (Nat.le_refl _) _).alloc (by simp) _
  go_enter Tryd.func87, Tryd.ntmps87
  go_wp2_with fail
  refine (eqIntS_any _ _ _ _ _ _ _ _ _ (H1.out.below hal) (H2.out.below hal)).mono ?_; rintro e w1 ⟨rfl, m, rfl⟩
  go_wp2
  go_ret
  exact ⟨rfl, below_drewN hal _⟩

set_option maxRecDepth 100000 in
set_option maxHeartbeats 1600000 in
theorem eqTaskS_any (A1 A2 : Option Addr) (n c1 c2 : Nat) (ts : List Tk) (w : World) (h1 : RdT w w.heap.size A1 n ts) (h2 : RdT w w.heap.size A2 n ts) :
    Calls Tryd.prog 71 #[.slice A1 n c1, .slice A2 n c2] w fun e w' => e = .returned (.bool true) ∧ Below w.heap.size w w' := by
  have hn := h1.le
  have H1 := Lib.hid h1
  have H2 := Lib.hid h2
  clear h1 h2
  go_enter Tryd.func71, Tryd.ntmps71
  go_wp2
  go_loopw [5] (fun i wr => ∃ k : Nat, i = .int .i64 k ∧ k ≤ n ∧ Below w.heap.size w wr) (fun i _ => n - (intOf i).toNat)
  case atStart => exact ⟨0, rfl, Nat.zero_le _, Below.refl _ _⟩
  case round =>
    obtain ⟨k, rfl, hk, hbel⟩ := hrel
    have lz := hbel.size
    by_cases hlt : k < n
    · obtain ⟨b1, o1, A3, m3, c3, rfl, hb1, hc11, hc12, hmc1, hr1⟩ := (H1.out.below hbel).at_ hlt
      obtain ⟨b2, o2, A4, m4, c4, rfl, hb2, hc21, hc22, hmc2, hr2⟩ := (H2.out.below hbel).at_ hlt
      have em : m4 = m3 := by have := hr1.len; have := hr2.len; omega
      subst em
      have Hr1 := Lib.hid (hr1.more lz)
      have Hr2 := Lib.hid (hr2.more lz)
      clear hr1 hr2
      have k1 : (0 : Int) ≤ (k : Int) := by omega
      have k2 : (k : Int) < (n : Int) := by omega
      have lb1 : b1 < wr.heap.size := by omega
      have lb2 : b2 < wr.heap.size := by omega
      have k3 : 0 ≤ (k : Int) * 2 := by omega
      generalize (ts[k]?.getD (0, [])).1 = id at hc11 hc21
      go_wp2
      go_region_held3 (fun w' => w'.cell? ⟨b1, o1 + k * 2, none⟩ = some (.int .i64 id) ∧ w'.cell? ⟨b1, o1 + k * 2 + 1, none⟩ = some (.slice A3 m4 c3) ∧ w'.cell? ⟨b2, o2 + k * 2, none⟩ = some (.int .i64 id) ∧ w'.cell? ⟨b2, o2 + k * 2 + 1, none⟩ = some (.slice A4 m4 c4))
        (first
          | go_keep
          | (go_split_ands
             refine ⟨?_, ?_, ?_, ?_⟩
             · (rw [hb3.cell (p := ⟨b1, o1 + k * 2, none⟩) lb1]; assumption)
             · (rw [hb3.cell (p := ⟨b1, o1 + k * 2 + 1, none⟩) lb1]; assumption)
             · (rw [hb3.cell (p := ⟨b2, o2 + k * 2, none⟩) lb2]; assumption)
             · (rw [hb3.cell (p := ⟨b2, o2 + k * 2 + 1, none⟩) lb2]; assumption)))
        (first
          | (go_at_call 87; refine (eqTask_any A3 A4 m4 c3 c4 id _ _ (Hr1.out.drewN 1) (Hr2.out.drewN 1)).mono ?_; rintro e w3 ⟨rfl, hb3⟩))
      go_wp2
      go_roundw
      case rel => exact ⟨k + 1, by go_num, by omega, (below_drewN hbel 1).trans (hb3.mono lz)⟩
      case measure => simp [intOf]; omega
    · go_wp2
      go_ret
      exact ⟨rfl, hbel⟩

end Go.Proofs.YtfkobleefhpggaaDoor
