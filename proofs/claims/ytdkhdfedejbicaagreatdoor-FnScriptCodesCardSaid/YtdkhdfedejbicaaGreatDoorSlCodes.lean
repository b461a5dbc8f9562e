/- Walk: the law FnScriptCodes. (Printed by gen_sclaws.py.) -/
import Derived.Test.YtdkhdfedejbicaaGreatDoorScLw
namespace Go.Proofs.YtdkhdfedejbicaaGreatDoor
set_option linter.unusedSimpArgs false
set_option linter.unusedVariables false
open Go Go.RowKit
attribute [local go_sem ↓] Go.wp_at_zero Go.wp_at_succ

set_option maxRecDepth 100000 in
set_option maxHeartbeats 6400000 in
theorem scriptCodes_walk (A : Option Addr) (n c : Nat) (w : World) (hu : RdU w w.heap.size A n) (hc : n ≤ c) (hcm : c ≤ 9223372036854775807) (m : Int) (hm : w.cell? ⟨0, 0, none⟩ = some (.int .i64 m)) (h0 : 0 < w.heap.size) :
    Calls Tryz.prog 9 #[.slice A n c] w fun e w' => e = .returned (.bool true) ∧ Below w.heap.size w w' := by
  by_cases hl : (1048576 : Int) < (n : Int)
  · go_enter Tryz.func9, Tryz.ntmps9
    go_wp2
    go_ret
    exact ⟨rfl, Below.refl _ _⟩
  · have H1 := qh (drawExecute_any A n c w hu hc hcm)
    have HI := qh (fun (t : ByteArray) w2 (ht : t.size ≤ 9223372036854775807) (hb : Below w.heap.size w w2) => executeI_any t w2 m ht ((hb.cell (p := ⟨0, 0, none⟩) h0).trans hm) (by have := hb.size; omega))
    clear hm hu
    go_enter Tryz.func9, Tryz.ntmps9
    go_wp2_with fail
    refine H1.out.mono ?_; rintro e w1 ⟨t, rfl, ht, hb⟩
    have B1 := qh hb
    have hsz : (bs t).size ≤ 9223372036854775807 := by rw [bs_size]; omega
    have HA := qh (HI.out (bs t) w1 hsz hb)
    have HB := qh (fun W => execS_any (bs t) W hsz)
    rw [bs_list] at HA HB
    have Hbz := qh (bs_size t)
    clear hb H1 hsz
    generalize hbt : bs t = st at *
    have Hbt := qh hbt
    clear hbt
    have Hpo := qh (exec_pos t)
    have Hle := qh (exec_len t)
    have Hxz := qh (bs_size (execP t))
    generalize hx : bs (execP t) = x at *
    have Hx := qh hx
    clear hx
    go_wp2_with fail
    refine HA.out.mono ?_; rintro e w2 ⟨rfl, hb⟩
    have B2 := qh (B1.out.trans (hb.mono B1.out.size))
    clear hb HA B1
    go_wp2_with fail
    refine (HB.out w2).mono ?_; rintro e w3 ⟨rfl, hb⟩
    have B3 := qh (B2.out.trans (hb.mono B2.out.size))
    clear hb HB B2
    go_wp2_with fail
    refine (HI.out _ w3 (by decide +kernel) B3.out).mono ?_; rintro e w4 ⟨rfl, hb⟩
    have B4 := qh (B3.out.trans (hb.mono B3.out.size))
    clear hb HI B3
    generalize hz : bs (execP _) = z
    have Hz := qh (show z = ⟨#[100, 111, 110, 101, 10, 116, 119, 105, 99, 101, 10, 98, 97, 100, 10, 110, 111, 110, 101, 10, 98, 117, 115, 121, 10, 116, 119, 105, 99, 101, 10, 110, 111, 110, 101, 10, 101, 110, 100, 32, 49, 32, 49, 32, 49, 10]⟩ from hz.symm.trans (by kernel_rfl))
    clear hz
    have key : z.toList = (⟨#[100, 111, 110, 101, 10, 116, 119, 105, 99, 101, 10, 98, 97, 100, 10, 110, 111, 110, 101, 10, 98, 117, 115, 121, 10, 116, 119, 105, 99, 101, 10, 110, 111, 110, 101, 10, 101, 110, 100, 32, 49, 32, 49, 32, 49, 10]⟩ : ByteArray).toList := by rw [Hz.out]
    go_wp2_with fail
    trace_state
    go_ret
    exact ⟨rfl, B4.out⟩
end Go.Proofs.YtdkhdfedejbicaaGreatDoor
