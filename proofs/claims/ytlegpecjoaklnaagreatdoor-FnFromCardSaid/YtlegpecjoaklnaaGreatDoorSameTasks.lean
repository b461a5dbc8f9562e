/- Walk: laws.sameTasks of lists that are the same. -/
import Derived.Test.YtlegpecjoaklnaaGreatDoorJ2
import Derived.BigQuiet
namespace Go.Proofs.YtlegpecjoaklnaaGreatDoor
open Go Go.RowKit
attribute [local go_sem ↓] Go.wp_at_zero Go.wp_at_succ

theorem quiet_add_ex {P : Program} {f : FuncId} {args : Array Value} {w : World} {a n : Nat} {v : Value}
    (h : Calls P f args (w.drewN (a + n)) fun e w' => e = .returned v ∧ ∃ q, (w.drewN (a + n)).drewN q = w') : Calls P f args (w.drewN (a + n)) fun e w'' => e = .returned v ∧ ∃ m, w'' = w.drewN (a + m) :=
  h.mono fun _ _ ⟨he, q, hm⟩ => ⟨he, n + q, by rw [← hm, World.drewN_drewN, Nat.add_assoc]⟩

set_option maxRecDepth 100000 in
set_option maxHeartbeats 1600000 in
theorem sameTasks_any (A1 A2 : Option Addr) (n c1 c2 B1 B2 : Nat) (ts : List Tk) (w : World) (h1 : RdT w B1 A1 n ts) (h2 : RdT w B2 A2 n ts) :
    Calls Tryz.prog 65 #[.slice A1 n c1, .slice A2 n c2] w fun e w' => e = .returned (.bool true) ∧ ∃ m, w.drewN m = w' := by
  have hn := h1.le
  have H1 := Lib.hid h1
  have H2 := Lib.hid h2
  clear h1 h2
  go_enter Tryz.func65, Tryz.ntmps65
  go_wp2
  go_loopw [5] (fun i wr => ∃ k m : Nat, i = .int .i64 k ∧ k ≤ n ∧ wr = w.drewN m) (fun i _ => n - (intOf i).toNat)
  case atStart => exact ⟨0, 0, rfl, Nat.zero_le _, rfl⟩
  case round =>
    obtain ⟨k, m, rfl, hk, rfl⟩ := hrel
    by_cases hlt : k < n
    · obtain ⟨b1, o1, A3, m3, c3, rfl, hb1, hc11, hc12, hmc1, hr1⟩ := H1.out.at_ hlt
      obtain ⟨b2, o2, A4, m4, c4, rfl, hb2, hc21, hc22, hmc2, hr2⟩ := H2.out.at_ hlt
      have em : m4 = m3 := by have := hr1.len; have := hr2.len; omega
      subst em
      have Hr1 := Lib.hid hr1
      have Hr2 := Lib.hid hr2
      clear hr1 hr2
      have k1 : (0 : Int) ≤ (k : Int) := by omega
      have k2 : (k : Int) < (n : Int) := by omega
      have k3 : 0 ≤ (k : Int) * 2 := by omega
      generalize (ts[k]?.getD (0, [])).1 = id at hc11 hc21
      have hid : (id != id) = false := by simp
      go_wp2
      go_quiet ((go_at_call 18; exact quiet_add_ex (sameInts_any A3 A4 m4 c3 c4 _ _ _ _ (Hr1.out.drewN _) (Hr2.out.drewN _))))
      go_wp2
      go_roundw
      case rel => exact ⟨k + 1, _, by go_num, by omega, rfl⟩
      case measure => simp [intOf]; omega
    · go_wp2
      go_ret
      exact ⟨rfl, _, rfl⟩
end Go.Proofs.YtlegpecjoaklnaaGreatDoor
