/- Walk: the reference's l42Ok. -/
import Derived.Test.YtkcflajhmekcaaaGreatEvictSpec
namespace Go.Proofs.YtkcflajhmekcaaaGreat
open Go.RowKit

/-- Valid arguments. -/
def evOk (room : List Int) (ts : List Tk) (rk : List Int) (t : Tk) (r : Int) : Bool := ranksOk rk && comeOk room [ts] t && decide (rk.length = ts.length) && inR 0 9 r
theorem ranksOk_all {rk : List Int} (h : ∀ j, j < rk.length → inR 0 9 (rk[j]?.getD 0) = true) : ranksOk rk = true := all_iff_getD.2 h
theorem ranksOk_no {rk : List Int} {k : Nat} (hk : k < rk.length) (h : inR 0 9 (rk[k]?.getD 0) = false) : ranksOk rk = false := by
  cases hr : ranksOk rk with
  | false => rfl
  | true => rw [all_iff_getD.1 hr k hk] at h; cases h

set_option maxRecDepth 100000 in
set_option maxHeartbeats 800000 in
theorem l42Ok_any (A1 A2 A3 A4 : Option Addr) (n1 c1 n2 c2 n3 c3 n4 c4 : Nat) (room rk : List Int) (ts : List Tk) (id : Int) (xs : List Int) (r : Int) (w : World) (h1 : RdI w w.heap.size A1 n1 room) (h2 : RdT w w.heap.size A2 n2 ts)
    (h3 : RdI w w.heap.size A3 n3 rk) (h4 : RdI w w.heap.size A4 n4 xs) (hc2 : n2 ≤ c2) (hc4 : n4 ≤ c4) (hz : n2 ≤ 1048576) :
    Calls Tryz.prog 27 #[.slice A1 n1 c1, .slice A2 n2 c2, .slice A3 n3 c3, .agg #[.int .i64 id, .slice A4 n4 c4], .int .i64 r] w fun e w' => e = .returned (.bool (evOk room ts rk (id, xs) r)) ∧ Below w.heap.size w w' := by
  have hle := h3.le
  have hl2 := Lib.hid h2.len
  have hl3 := Lib.hid h3.len
  have H1 := Lib.hid h1
  have H2 := Lib.hid h2
  have H3 := Lib.hid h3
  have H4 := Lib.hid h4
  clear h1 h2 h3 h4
  have B0 := Lib.hid (new_up w (.cells #[.int .i64 id, .slice A4 n4 c4] 33))
  have P0 := Lib.hid (Blk.new w 33 #[.int .i64 id, .slice A4 n4 c4])
  go_enter Tryz.func27, Tryz.ntmps27
  go_wp2_with fail
  generalize hW : w.alloc (.cells #[.int .i64 id, .slice A4 n4 c4] 33) = W at B0 P0 ⊢
  clear hW
  go_loop [11] (fun i => ∃ k : Nat, i = .int .i64 k ∧ k ≤ n3 ∧ (∀ j, j < k → inR 0 9 (rk[j]?.getD 0) = true)) (fun i => n3 - (intOf i).toNat)
  case atStart => exact ⟨0, rfl, Nat.zero_le _, by intro j hj; omega⟩
  case round =>
    obtain ⟨k, rfl, hk, hall⟩ := hrel
    have Hall := Lib.hid hall
    clear hall
    by_cases hlt : k < n3
    · obtain ⟨b, o, rfl, hb, hc⟩ := (H3.out.below B0.out).at_ hlt
      by_cases hin : inR 0 9 (rk[k]?.getD 0) = true
      · have Hin := Lib.hid hin
        go_wp2_with (go_at_call 46; refine (l6In_any _ _ _ _).mono ?_; rintro e w' ⟨rfl, rfl⟩)
        go_round
        case rel => exact ⟨k + 1, by go_num, by omega, fun j hj => by
          by_cases e : j = k
          · rw [e]; exact Hin.out
          · exact Hall.out j (by omega)⟩
        case measure => simp [intOf]; omega
      · have hin : inR 0 9 (rk[k]?.getD 0) = false := by simpa using hin
        have Hin := Lib.hid hin
        go_wp2_with (go_at_call 46; refine (l6In_any _ _ _ _).mono ?_; rintro e w' ⟨rfl, rfl⟩)
        go_ret
        exact ⟨ret_bool (by rw [evOk, ranksOk_no (by rw [hl3.out]; exact hlt) Hin.out]; rfl), B0.out⟩
    · have hrk := Lib.hid (show ranksOk rk = true from ranksOk_all (fun j hj => Hall.out j (by have := hl3.out; omega)))
      have x0 := (P0.out.alloc (.cells #[.slice A2 n2 c2] 31)).cell 0
      have x1 := (P0.out.alloc (.cells #[.slice A2 n2 c2] 31)).cell 1
      simp only [List.getElem?_toArray, List.getElem?_cons_zero, List.getElem?_cons_succ] at x0 x1
      have B1 := Lib.hid (B0.out.alloc B0.out.size (.cells #[.slice A2 n2 c2] 31))
      have HB := Lib.hid (RdB.one (Blk.new W 31 #[.slice A2 n2 c2]) hc2 (H2.out.up B1.out))
      have hcall := l11Ok_any A1 _ A4 n1 c1 1 1 n4 c4 room [ts] id xs _ (H1.out.up B1.out) HB.out (H4.out.up B1.out) hc4 (by have := hl2.out; simp; omega)
      cases hcm : comeOk room [ts] (id, xs) with
      | false =>
        rw [hcm] at hcall
        have Hcm := Lib.hid hcm
        have Hcall := Lib.hid hcall
        clear hcm hcall
        go_wp2_with fail
        refine Hcall.out.mono ?_; rintro e w2 ⟨rfl, hb2⟩
        go_wp2_with fail
        go_ret
        exact ⟨ret_bool (by rw [evOk, Hcm.out]; simp), below_to B1.out hb2⟩
      | true =>
        rw [hcm] at hcall
        have Hcm := Lib.hid hcm
        have Hcall := Lib.hid hcall
        clear hcm hcall
        by_cases hlen : n3 = n2
        · have hd : ((n3 : Int) == (n2 : Int)) = true := by simp [hlen]
          have Hlen := Lib.hid hlen
          clear hlen
          go_wp2_with fail
          refine Hcall.out.mono ?_; rintro e w2 ⟨rfl, hb2⟩
          go_wp2_with (go_at_call 46; refine (l6In_any _ _ _ _).mono ?_; rintro e w' ⟨rfl, rfl⟩)
          go_ret
          exact ⟨ret_bool (by rw [evOk, hrk.out, Hcm.out, hl2.out, hl3.out]; simp [Hlen.out]), below_to B1.out hb2⟩
        · have hd : ((n3 : Int) == (n2 : Int)) = false := by simp; omega
          have Hlen := Lib.hid hlen
          clear hlen
          go_wp2_with fail
          refine Hcall.out.mono ?_; rintro e w2 ⟨rfl, hb2⟩
          go_wp2_with fail
          go_ret
          exact ⟨ret_bool (by rw [evOk, hl2.out, hl3.out]; simp [Hlen.out]), below_to B1.out hb2⟩
end Go.Proofs.YtkcflajhmekcaaaGreat
