/- Walks: the reference's evictions: l42Lowest, l42Highest, l42Rest. -/
import Derived.Test.YtkcflajhmekcaaaGreatFlags
import Derived.Test.YtkcflajhmekcaaaGreatCome
import Derived.BigQuiet
namespace Go.Proofs.YtkcflajhmekcaaaGreat
open Go.RowKit

set_option maxRecDepth 100000 in
set_option maxHeartbeats 800000 in
theorem l42Lowest_any (A1 A2 : Option Addr) (n1 c1 n2 c2 B1 B2 : Nat) (rk : List Int) (g : Nat → Bool) (r : Int) (w : World) (h1 : RdI w B1 A1 n1 rk) (h2 : RdF w B2 A2 n2 g) (hn : n1 ≤ n2) :
    Calls Tryz.prog 49 #[.slice A1 n1 c1, .slice A2 n2 c2, .int .i64 r] w fun e w' => e = .returned (.int .i64 (lowP rk g r n1)) ∧ ∃ m, w.drewN m = w' := by
  have hle := h1.le
  have H1 := Lib.hid h1
  have H2 := Lib.hid h2
  clear h1 h2
  go_enter Tryz.func49, Tryz.ntmps49
  go_wp2
  go_loopw [7, 8] (fun b i wr => ∃ k m : Nat, i = .int .i64 k ∧ k ≤ n1 ∧ b = .int .i64 (lowP rk g r k) ∧ wr = w.drewN m) (fun _ i _ => n1 - (intOf i).toNat)
  case atStart => exact ⟨0, 0, rfl, Nat.zero_le _, rfl, rfl⟩
  case round =>
    obtain ⟨k, m, rfl, hk, rfl, rfl⟩ := hrel
    by_cases hlt : k < n1
    · obtain ⟨b1, o1, rfl, hb1, hc1⟩ := H1.out.at_ hlt
      obtain ⟨b2, o2, rfl, hb2, hc2⟩ := H2.out.at_ (show k < n2 by omega)
      have hs := Lib.hid (lowP_succ rk g r k)
      have k1 : (0 : Int) ≤ (k : Int) := by omega
      have k2 : (k : Int) < (n1 : Int) := by omega
      have k3 : (k : Int) < (n2 : Int) := by omega
      cases hg : g k with
      | true =>
        rw [hg] at hc2
        have Hg := Lib.hid hg
        clear hg
        generalize hv : lowP rk g r k = b at hs ⊢
        go_wp2
        go_quiet (fail)
        go_wp2
        go_roundw
        case rel => exact ⟨k + 1, _, by go_num, by omega, by rw [hs.out, lowF, if_neg (fun x => by rw [Hg.out] at x; cases x.1)], rfl⟩
        case measure => simp [intOf]; omega
      | false =>
        rw [hg] at hc2
        have Hg := Lib.hid hg
        clear hg
        by_cases hr : rk[k]?.getD 0 < r
        · have hd : decide (rk[k]?.getD 0 < r) = true := by simpa using hr
          have Hr := Lib.hid hr
          clear hr
          have hbd := lowP_bd rk g r k
          generalize hv : lowP rk g r k = b at hs hbd ⊢
          have Hv := Lib.hid hv
          clear hv
          by_cases hb0 : b < 0
          · have hd2 : decide (b < 0) = true := by simpa using hb0
            have Hb0 := Lib.hid hb0
            clear hb0
            go_wp2
            go_quiet (fail)
            go_wp2
            go_roundw
            case rel => exact ⟨k + 1, _, by go_num, by omega, by rw [hs.out, lowF, if_pos ⟨Hg.out, Hr.out, .inl Hb0.out⟩], rfl⟩
            case measure => simp [intOf]; omega
          · obtain ⟨q, rfl⟩ := Int.eq_ofNat_of_zero_le (show 0 ≤ b by omega)
            have hd2 : decide ((q : Int) < 0) = false := by simp
            obtain ⟨b1', o1', e', hb1', hc3⟩ := H1.out.at_ (show q < n1 by omega)
            injection e' with e'
            injection e' with e1 e2
            subst e1 e2
            have q1 : (0 : Int) ≤ (q : Int) := by omega
            have q2 : (q : Int) < (n1 : Int) := by omega
            clear hb0
            by_cases hle2 : rk[k]?.getD 0 ≤ rk[q]?.getD 0
            · have hd3 : decide (rk[k]?.getD 0 ≤ rk[q]?.getD 0) = true := by simpa using hle2
              have Hle2 := Lib.hid hle2
              clear hle2
              go_wp2
              go_quiet (fail)
              go_wp2
              go_roundw
              case rel => exact ⟨k + 1, _, by go_num, by omega, by rw [hs.out, lowF, if_pos ⟨Hg.out, Hr.out, .inr (by simpa using Hle2.out)⟩], rfl⟩
              case measure => simp [intOf]; omega
            · have hd3 : decide (rk[k]?.getD 0 ≤ rk[q]?.getD 0) = false := by simpa using hle2
              have Hle2 := Lib.hid hle2
              clear hle2
              go_wp2
              go_quiet (fail)
              go_wp2
              go_roundw
              case rel => exact ⟨k + 1, _, by go_num, by omega, by rw [hs.out, lowF, if_neg (fun x => x.2.2.elim (fun y => by omega) (fun y => by have := Hle2.out; simp only [Int.toNat_natCast] at y; omega))], rfl⟩
              case measure => simp [intOf]; omega
        · have hd : decide (rk[k]?.getD 0 < r) = false := by simpa using hr
          have Hr := Lib.hid hr
          clear hr
          generalize hv : lowP rk g r k = b at hs ⊢
          go_wp2
          go_quiet (fail)
          go_wp2
          go_roundw
          case rel => exact ⟨k + 1, _, by go_num, by omega, by rw [hs.out, lowF, if_neg (fun x => by have := Hr.out; have := x.2.1; omega)], rfl⟩
          case measure => simp [intOf]; omega
    · obtain rfl : k = n1 := by omega
      go_wp2
      go_ret
      exact ⟨rfl, _, rfl⟩
set_option maxRecDepth 100000 in
set_option maxHeartbeats 800000 in
theorem l42Highest_any (A1 A2 A3 : Option Addr) (n1 c1 n2 c2 n3 c3 B1 B2 B3 : Nat) (rk : List Int) (g s : Nat → Bool) (w : World) (h1 : RdI w B1 A1 n1 rk) (h2 : RdF w B2 A2 n2 g) (h3 : RdF w B3 A3 n3 s) (hn : n1 ≤ n2) (hn3 : n1 ≤ n3) :
    Calls Tryz.prog 50 #[.slice A1 n1 c1, .slice A2 n2 c2, .slice A3 n3 c3] w fun e w' => e = .returned (.int .i64 (highP rk (fun j => g j && !s j) n1)) ∧ ∃ m, w.drewN m = w' := by
  have hle := h1.le
  have H1 := Lib.hid h1
  have H2 := Lib.hid h2
  have H3 := Lib.hid h3
  clear h1 h2 h3
  go_enter Tryz.func50, Tryz.ntmps50
  go_wp2
  go_loopw [7, 8] (fun b i wr => ∃ k m : Nat, i = .int .i64 k ∧ k ≤ n1 ∧ b = .int .i64 (highP rk (fun j => g j && !s j) k) ∧ wr = w.drewN m) (fun _ i _ => n1 - (intOf i).toNat)
  case atStart => exact ⟨0, 0, rfl, Nat.zero_le _, rfl, rfl⟩
  case round =>
    obtain ⟨k, m, rfl, hk, rfl, rfl⟩ := hrel
    by_cases hlt : k < n1
    · obtain ⟨b1, o1, rfl, hb1, hc1⟩ := H1.out.at_ hlt
      obtain ⟨b2, o2, rfl, hb2, hc2⟩ := H2.out.at_ (show k < n2 by omega)
      have hs := Lib.hid (highP_succ rk (fun j => g j && !s j) k)
      have k1 : (0 : Int) ≤ (k : Int) := by omega
      have k2 : (k : Int) < (n1 : Int) := by omega
      have k3 : (k : Int) < (n2 : Int) := by omega
      obtain ⟨b3, o3, rfl, hb3, hc4⟩ := H3.out.at_ (show k < n3 by omega)
      have k4 : (k : Int) < (n3 : Int) := by omega
      cases hg : g k with
      | false =>
        rw [hg] at hc2
        have Hg := Lib.hid hg
        clear hg
        generalize hv : highP rk (fun j => g j && !s j) k = b at hs ⊢
        go_wp2
        go_quiet (fail)
        go_wp2
        go_roundw
        case rel => exact ⟨k + 1, _, by go_num, by omega, by rw [hs.out, highF, if_neg (fun x => by rw [Hg.out] at x; cases x.1)], rfl⟩
        case measure => simp [intOf]; omega
      | true =>
        rw [hg] at hc2
        have Hg := Lib.hid hg
        clear hg
        cases hsk : s k with
        | true =>
          rw [hsk] at hc4
          have Hs := Lib.hid hsk
          clear hsk
          generalize hv : highP rk (fun j => g j && !s j) k = b at hs ⊢
          go_wp2
          go_quiet (fail)
          go_wp2
          go_roundw
          case rel => exact ⟨k + 1, _, by go_num, by omega, by rw [hs.out, highF, if_neg (fun x => by rw [Hg.out, Hs.out] at x; cases x.1)], rfl⟩
          case measure => simp [intOf]; omega
        | false =>
          rw [hsk] at hc4
          have Hc := Lib.hid (show (g k && !s k) = true by rw [Hg.out, hsk]; rfl)
          clear hsk
          have hbd := highP_bd rk (fun j => g j && !s j) k
          generalize hv : highP rk (fun j => g j && !s j) k = b at hs hbd ⊢
          have Hv := Lib.hid hv
          clear hv
          by_cases hb0 : b < 0
          · have hd2 : decide (b < 0) = true := by simpa using hb0
            have Hb0 := Lib.hid hb0
            clear hb0
            go_wp2
            go_quiet (fail)
            go_wp2
            go_roundw
            case rel => exact ⟨k + 1, _, by go_num, by omega, by rw [hs.out, highF, if_pos ⟨Hc.out, .inl Hb0.out⟩], rfl⟩
            case measure => simp [intOf]; omega
          · obtain ⟨q, rfl⟩ := Int.eq_ofNat_of_zero_le (show 0 ≤ b by omega)
            have hd2 : decide ((q : Int) < 0) = false := by simp
            obtain ⟨b1', o1', e', hb1', hc3⟩ := H1.out.at_ (show q < n1 by omega)
            injection e' with e'
            injection e' with e1 e2
            subst e1 e2
            have q1 : (0 : Int) ≤ (q : Int) := by omega
            have q2 : (q : Int) < (n1 : Int) := by omega
            clear hb0
            by_cases hle2 : rk[q]?.getD 0 < rk[k]?.getD 0
            · have hd3 : decide (rk[q]?.getD 0 < rk[k]?.getD 0) = true := by simpa using hle2
              have Hle2 := Lib.hid hle2
              clear hle2
              go_wp2
              go_quiet (fail)
              go_wp2
              go_roundw
              case rel => exact ⟨k + 1, _, by go_num, by omega, by rw [hs.out, highF, if_pos ⟨Hc.out, .inr (by simpa using Hle2.out)⟩], rfl⟩
              case measure => simp [intOf]; omega
            · have hd3 : decide (rk[q]?.getD 0 < rk[k]?.getD 0) = false := by simpa using hle2
              have Hle2 := Lib.hid hle2
              clear hle2
              go_wp2
              go_quiet (fail)
              go_wp2
              go_roundw
              case rel => exact ⟨k + 1, _, by go_num, by omega, by rw [hs.out, highF, if_neg (fun x => x.2.elim (fun y => by omega) (fun y => by have := Hle2.out; simp only [Int.toNat_natCast] at y; omega))], rfl⟩
              case measure => simp [intOf]; omega
    · obtain rfl : k = n1 := by omega
      go_wp2
      go_ret
      exact ⟨rfl, _, rfl⟩

set_option maxRecDepth 100000 in
set_option maxHeartbeats 800000 in
theorem l42Rest_any (A1 A2 : Option Addr) (n1 c1 n2 c2 : Nat) (ts : List Tk) (g : Nat → Bool) (w : World) (h1 : RdT w w.heap.size A1 n1 ts) (h2 : RdF w w.heap.size A2 n2 g) (hn : n1 ≤ n2) (hz : n1 ≤ 1048576) :
    Calls Tryz.prog 40 #[.slice A1 n1 c1, .slice A2 n2 c2] w fun e w' => ∃ A m c vs, e = .returned (.slice A m c) ∧ m ≤ n1 ∧ w'.ownsRow w.heap.size 33 2 (.slice A m c) m vs ∧ TkCells w' w.heap.size vs (keptP ts g n1) ∧ (keptP ts g n1).length = m ∧ Below w.heap.size w w' := by
  obtain ⟨i0, hi0, hz0, hz1, hz2⟩ := info_parts task_info
  have hle := h1.le
  have H1 := Lib.hid h1
  have H2 := Lib.hid h2
  clear h1 h2
  go_enter Tryz.func40, Tryz.ntmps40
  go_wp2
  go_loopw [5, 6] (fun v i wr => ∃ k : Nat, i = .int .i64 k ∧ k ≤ n1 ∧ Below w.heap.size w wr ∧ ∃ A m c vs, v = .slice A m c ∧ Hid (m = (keptP ts g k).length) ∧ wr.ownsRow w.heap.size 33 2 v m vs ∧ TkCells wr w.heap.size vs (keptP ts g k)) (fun _ i _ => n1 - (intOf i).toNat)
  case atStart => exact ⟨0, rfl, Nat.zero_le _, (Below.refl _ _).alloc (Nat.le_refl _) _, _, _, _, [], rfl, Lib.hid rfl, World.ownsRow_made w #[] 0 (Nat.le_refl _) (by unfold maxLen; omega) rfl, TkCells.nil⟩
  case round =>
    obtain ⟨k, rfl, hk, hbel, A0, m0, c0, vs, rfl, hm, hown, htk⟩ := hrel
    by_cases hlt : k < n1
    · obtain ⟨b2, o2, rfl, hb2, hc2⟩ := (H2.out.below hbel).at_ (show k < n2 by omega)
      obtain ⟨b1, o1, A3, m3, c3, rfl, lb1, hc1, hc3, hle3, hr3⟩ := (H1.out.below hbel).at_ hlt
      have lz := hbel.size
      have lm : m0 ≤ 1048576 := by have := keptP_len ts g k; have := hm.out; omega
      cases hg : g k with
      | true =>
        rw [hg] at hc2
        have Hg := Lib.hid hg
        have Hown := Lib.hid hown
        have Htk := Lib.hid htk
        have Hr3 := Lib.hid hr3
        clear hg hown htk hr3
        go_wp2
        go_roundw
        case rel => exact ⟨k + 1, by go_num, by omega, hbel, _, m0, _, vs, rfl, by rw [keptP, if_pos Hg.out]; exact hm, Hown.out, by rw [keptP, if_pos Hg.out]; exact Htk.out⟩
        case measure => simp [intOf]; omega
      | false =>
        rw [hg] at hc2
        have Hg := Lib.hid hg
        have Hown := Lib.hid hown
        have Htk := Lib.hid htk
        have Hr3 := Lib.hid hr3
        clear hg hown htk hr3
        have Hal := Lib.hid (show Below wr.heap.size wr (wr.alloc (.cells #[.int .i64 (ts[k]?.getD (0, [])).1, .slice A3 m3 c3] 33)) from (Below.refl _ _).alloc (Nat.le_refl _) _)
        have Ho := Lib.hid (own_keep Hown.out (w' := wr.alloc (.cells #[.int .i64 (ts[k]?.getD (0, [])).1, .slice A3 m3 c3] 33)) (fun b hb => Below.heap_alloc _ _ _ (Hown.out.lt b hb).2))
        have Hx := Lib.hid (own_src (own_built (w := wr) (base := 0) 33 (.int .i64 (ts[k]?.getD (0, [])).1) (.slice A3 m3 c3) (by omega)))
        have lz1 : w.heap.size ≤ (wr.alloc (.cells #[.int .i64 (ts[k]?.getD (0, [])).1, .slice A3 m3 c3] 33)).heap.size := by simp; omega
        go_wp2_with (at_builtin; go_loud (refine wpList_append_src _ rfl _ _ 31 rfl w.heap.size 33 i0 _ 2 32 Tryz.underlying31 hi0 hz0 hz1 hz2 rfl (by omega) (.slice A0 m0 c0) m0 vs rfl Ho.out (some ⟨wr.heap.size, 0, none⟩) 1 1 [.int .i64 (ts[k]?.getD (0, [])).1, .slice A3 m3 c3] rfl Hx.out (by simp [Value.oneCell']) (by unfold maxLen; omega) (by omega) lz1 ?_); intro v' w1 hown1 hgrow hat)
        have hb' : Below w.heap.size w w1 := (hbel.alloc lz _).grown hgrow lz1 (fun j e => (Ho.out.lt j e).1)
        have ht' := ((Htk.out.keep (w' := wr.alloc (.cells #[.int .i64 (ts[k]?.getD (0, [])).1, .slice A3 m3 c3] 33)) (fun p hp => Hal.out.cell (by omega)) (Nat.le_refl _)).append (TkCells.single (id := (ts[k]?.getD (0, [])).1) (Hr3.out.keep (w' := wr.alloc (.cells #[.int .i64 (ts[k]?.getD (0, [])).1, .slice A3 m3 c3] 33)) (fun p hp => Hal.out.cell (by omega)) (Nat.le_refl _)) hle3)).below ((Below.refl w.heap.size _).grown hgrow lz1 (fun j e => (Ho.out.lt j e).1))
        obtain ⟨A1, c1, rfl⟩ := own_shape hown1
        have Hown1 := Lib.hid hown1
        have Ht := Lib.hid ht'
        have Hb' := Lib.hid hb'
        clear hown1 ht' hgrow hat hb'
        go_roundw
        case rel => exact ⟨k + 1, by go_num, by omega, Hb'.out, A1, m0 + 1, c1, _, rfl, Lib.hid (by rw [keptP, if_neg (by rw [Hg.out]; simp), List.length_append, ← hm.out]; rfl), Hown1.out, by rw [keptP, if_neg (by rw [Hg.out]; simp)]; exact Ht.out⟩
        case measure => simp [intOf]; omega
    · obtain rfl : k = n1 := by omega
      have Hown := Lib.hid hown
      have Htk := Lib.hid htk
      clear hown htk
      go_wp2
      go_ret
      exact ⟨A0, m0, c0, vs, rfl, by have := keptP_len ts g k; have := hm.out; omega, Hown.out, Htk.out, hm.out.symm, hbel⟩
end Go.Proofs.YtkcflajhmekcaaaGreat
