/- Walk: laws.sameCluster of clusters that are the same. -/
import Derived.Test.YtlegpecjoaklnaaGreatDoorSameTasks
import Derived.Test.YtlegpecjoaklnaaGreatDoorClSpecF
namespace Go.Proofs.YtlegpecjoaklnaaGreatDoor
open Go Go.RowKit
attribute [local go_sem ↓] Go.wp_at_zero Go.wp_at_succ

set_option maxRecDepth 100000 in
set_option maxHeartbeats 3200000 in
theorem sameCluster_any (A1 A2 A3 A4 : Option Addr) (n1 c1 n2 c2 c3 c4 : Nat) (room : List Int) (us : List Un) (w : World) (h : RdC w A1 A2 n1 n2 room us) (h' : RdC w A3 A4 n1 n2 room us) :
    Calls Tryz.prog 20 #[.agg #[.slice A1 n1 c1, .slice A2 n2 c2], .agg #[.slice A3 n1 c3, .slice A4 n2 c4]] w fun e w' => e = .returned (.bool true) ∧ Below w.heap.size w w' := by
  have hn := h.b.le
  have H := Lib.hid h
  have H' := Lib.hid h'
  clear h h'
  have sz : (w.alloc (.cells #[.slice A1 n1 c1, .slice A2 n2 c2] 26)).heap.size = w.heap.size + 1 := World.size_alloc _ _
  have B1 := Lib.hid ((alloc_up w (.cells #[.slice A1 n1 c1, .slice A2 n2 c2] 26)).alloc (by rw [sz]; omega) (.cells #[.slice A3 n1 c3, .slice A4 n2 c4] 26))
  have P1 := Lib.hid ((Blk.new w 26 #[.slice A1 n1 c1, .slice A2 n2 c2]).alloc (.cells #[.slice A3 n1 c3, .slice A4 n2 c4] 26))
  have hQ := Blk.new (w.alloc (.cells #[.slice A1 n1 c1, .slice A2 n2 c2] 26)) 26 #[.slice A3 n1 c3, .slice A4 n2 c4]
  rw [sz] at hQ
  have Q1 := Lib.hid hQ
  clear hQ sz
  have y0 := P1.out.cell 0
  have z0 := Q1.out.cell 0
  simp only [List.getElem?_toArray, List.getElem?_cons_zero] at y0 z0
  go_enter Tryz.func20, Tryz.ntmps20
  go_wp2_with fail
  generalize (w.alloc (.cells #[.slice A1 n1 c1, .slice A2 n2 c2] 26)).alloc (.cells #[.slice A3 n1 c3, .slice A4 n2 c4] 26) = w1 at B1 P1 Q1 y0 z0 ⊢
  refine (sameInts_any A1 A3 n1 c1 c3 _ _ room w1 (H.out.up B1.out).a (H'.out.up B1.out).a).mono ?_; rintro e w2 ⟨rfl, m2, rfl⟩
  have B2 := Lib.hid (below_drewN B1.out m2)
  have P2 := Lib.hid (P1.out.drewN m2)
  have Q2 := Lib.hid (Q1.out.drewN m2)
  clear y0 z0 B1 P1 Q1
  generalize w1.drewN m2 = w2 at B2 P2 Q2 ⊢
  have y1 := P2.out.cell 1
  have z1 := Q2.out.cell 1
  simp only [List.getElem?_toArray, List.getElem?_cons_zero, List.getElem?_cons_succ] at y1 z1
  go_wp2_with fail
  go_loopw [5] (fun i wr => ∃ k m : Nat, i = .int .i64 k ∧ k ≤ n2 ∧ wr = w2.drewN m) (fun i _ => n2 - (intOf i).toNat)
  case atStart => exact ⟨0, 0, rfl, Nat.zero_le _, rfl⟩
  case round =>
    obtain ⟨k, m, rfl, hk, rfl⟩ := hrel
    by_cases hlt : k < n2
    · obtain ⟨b1, o1, A5, m5, c5, rfl, hb1, hc11, hc12, hmc1, hr1⟩ := (H.out.up B2.out).b.at_ hlt
      obtain ⟨b2, o2, A6, m6, c6, rfl, hb2, hc21, hc22, hmc2, hr2⟩ := (H'.out.up B2.out).b.at_ hlt
      have em : m6 = m5 := by have := hr1.len; have := hr2.len; omega
      subst em
      have Hr1 := Lib.hid hr1
      have Hr2 := Lib.hid hr2
      clear hr1 hr2
      have k1 : (0 : Int) ≤ (k : Int) := by omega
      have k2 : (k : Int) < (n2 : Int) := by omega
      have k3 : 0 ≤ (k : Int) * 2 := by omega
      generalize (us[k]?.getD (false, [])).1 = op at hc11 hc21
      have hid : (op != op) = false := by simp
      go_wp2_with fail
      go_quiet ((go_at_call 65; exact quiet_add_ex (sameTasks_any A5 A6 m6 c5 c6 _ _ _ _ (Hr1.out.drewN _) (Hr2.out.drewN _))))
      go_wp2
      go_roundw
      case rel => exact ⟨k + 1, _, by go_num, by omega, rfl⟩
      case measure => simp [intOf]; omega
    · go_wp2
      go_ret
      exact ⟨rfl, below_drewN B2.out m⟩
end Go.Proofs.YtlegpecjoaklnaaGreatDoor
