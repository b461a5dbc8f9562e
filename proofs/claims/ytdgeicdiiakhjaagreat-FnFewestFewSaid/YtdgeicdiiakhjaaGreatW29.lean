/- Several texts in one. -/
import Derived.Test.YtdgeicdiiakhjaaGreatW4
import Derived.BigQuiet
import Derived.Test.YtdgeicdiiakhjaaGreatW27
import Derived.Test.YtdgeicdiiakhjaaGreatW28
namespace Go.Proofs.YtdgeicdiiakhjaaGreat
open Go Go.RowKit
attribute [local go_sem ↓] Go.wp_at_zero Go.wp_at_succ

theorem quiet_add_ex {P : Program} {f : FuncId} {args : Array Value} {w : World} {a n : Nat} {v : Value}
    (h : Calls P f args (w.drewN (a + n)) fun e w' => e = .returned v ∧ ∃ q, (w.drewN (a + n)).drewN q = w') : Calls P f args (w.drewN (a + n)) fun e w'' => e = .returned v ∧ ∃ m, w'' = w.drewN (a + m) :=
  h.mono fun _ _ ⟨he, q, hm⟩ => ⟨he, n + q, by rw [← hm, World.drewN_drewN, Nat.add_assoc]⟩

set_option maxRecDepth 100000 in
set_option maxHeartbeats 1600000 in
theorem sameTasks_any (A1 A2 : Option Addr) (n c1 c2 B1 B2 : Nat) (ts : List Tk) (w : World) (h1 : RdT w B1 A1 n ts) (h2 : RdT w B2 A2 n ts) :
    Calls Tryz.prog 26 #[.slice A1 n c1, .slice A2 n c2] w fun e w' => e = .returned (.bool true) ∧ ∃ m, w.drewN m = w' := by
  have hn := h1.le
  have H1 := qh h1
  have H2 := qh h2
  clear h1 h2
  go_enter Tryz.func26, Tryz.ntmps26
  go_wp2
  go_loopw [5] (fun i wr => ∃ k m : Nat, i = .int .i64 k ∧ k ≤ n ∧ wr = w.drewN m) (fun i _ => n - (intOf i).toNat)
  case atStart => exact ⟨0, 0, rfl, Nat.zero_le _, rfl⟩
  case round =>
    obtain ⟨k, m, rfl, hk, rfl⟩ := hrel
    by_cases hlt : k < n
    · obtain ⟨b1, o1, A3, m3, c3, rfl, hb1, hc11, hc12, hmc1, hr1⟩ := H1.out.at_ hlt
      obtain ⟨b2, o2, A4, m4, c4, rfl, hb2, hc21, hc22, hmc2, hr2⟩ := H2.out.at_ hlt
      have em : m4 = m3 := by have := hr1.len; have := hr2.len; omega
      subst em
      have Hr1 := qh hr1
      have Hr2 := qh hr2
      clear hr1 hr2
      have k1 : (0 : Int) ≤ (k : Int) := by omega
      have k2 : (k : Int) < (n : Int) := by omega
      have k3 : 0 ≤ (k : Int) * 2 := by omega
      generalize (ts[k]?.getD (0, [])).1 = id at hc11 hc21
      have hid : (id != id) = false := by simp
      go_wp2
      go_quiet ((go_at_call 51; exact quiet_add_ex (sameInts_any A3 A4 m4 c3 c4 _ _ _ _ (Hr1.out.drewN _) (Hr2.out.drewN _))))
      go_wp2
      go_roundw
      case rel => exact ⟨k + 1, _, by go_num, by omega, rfl⟩
      case measure => simp [intOf]; omega
    · go_wp2
      go_ret
      exact ⟨rfl, _, rfl⟩
end Go.Proofs.YtdgeicdiiakhjaaGreat

namespace Go.Proofs.YtdgeicdiiakhjaaGreat
set_option linter.unusedSimpArgs false
set_option linter.unusedVariables false
open Go Go.RowKit

set_option maxRecDepth 100000 in
set_option maxHeartbeats 800000 in
theorem sameBins_any (A1 A2 : Option Addr) (n c1 c2 B1 B2 : Nat) (bs : List (List Tk)) (w : World) (h1 : RdB w B1 A1 n bs) (h2 : RdB w B2 A2 n bs) :
    Calls Tryz.prog 8 #[.slice A1 n c1, .slice A2 n c2] w fun e w' => e = .returned (.bool true) ∧ ∃ m, w.drewN m = w' := by
  have hnm := h1.2.1
  have H := qh h1
  have H' := qh h2
  clear h1 h2
  go_enter Tryz.func8, Tryz.ntmps8
  have e0 : ((n : Int) != (n : Int)) = false := by simp
  go_wp2_with fail
  go_loopw [5] (fun i wr => ∃ k m : Nat, i = .int .i64 k ∧ k ≤ n ∧ wr = w.drewN m) (fun i _ => n - (intOf i).toNat)
  case atStart => exact ⟨0, 0, rfl, Nat.zero_le _, rfl⟩
  case round =>
    obtain ⟨k, m, rfl, hk, rfl⟩ := hrel
    by_cases hlt : k < n
    · obtain ⟨b1, o1, A5, m5, c5, rfl, hb1, hc1, hmc1, hr1⟩ := H.out.at_ hlt
      obtain ⟨b2, o2, A6, m6, c6, rfl, hb2, hc2, hmc2, hr2⟩ := H'.out.at_ hlt
      have em : m6 = m5 := by have := hr1.len; have := hr2.len; omega
      subst em
      have Hr1 := qh hr1
      have Hr2 := qh hr2
      clear hr1 hr2
      have k1 : (0 : Int) ≤ (k : Int) := by omega
      have k2 : (k : Int) < (n : Int) := by omega
      go_wp2_with fail
      go_quiet ((go_at_call 26; exact quiet_add_ex (sameTasks_any A5 A6 m6 c5 c6 _ _ _ _ (Hr1.out.drewN _) (Hr2.out.drewN _))))
      go_wp2
      go_roundw
      case rel => exact ⟨k + 1, _, by go_num, by omega, rfl⟩
      case measure => simp [intOf]; omega
    · go_wp2
      go_ret
      exact ⟨rfl, m, rfl⟩

theorem RdB.lone {w : World} {A : Option Addr} {n c : Nat} {ts : List Tk} (h : RdT w w.heap.size A n ts) (hc : n ≤ c) : RdB (w.alloc (.cells #[.slice A n c] 24)) (w.alloc (.cells #[.slice A n c] 24)).heap.size (some ⟨w.heap.size, 0, none⟩) 1 [ts] := by
  refine ⟨rfl, by omega, fun _ => ⟨w.heap.size, 0, rfl, by simp, fun k hk => ?_⟩⟩
  obtain rfl : k = 0 := by omega
  refine ⟨A, n, c, ?_, hc, h.up (alloc_up _ _)⟩
  exact (Blk.new w 24 #[.slice A n c]).cell 0

set_option maxRecDepth 100000 in
set_option maxHeartbeats 3200000 in
theorem fewest_walk (A : Option Addr) (n c : Nat) (w : World) (h : RdU w w.heap.size A n) (hc : n ≤ c) (hcm : c ≤ 9223372036854775807) :
    Calls Tryz.prog 3 #[.slice A n c] w fun e w' => e = .returned (.bool true) ∧ Below w.heap.size w w' := by
  by_cases hbig : (1048576 : Int) < (n : Int)
  · go_enter Tryz.func3, Tryz.ntmps3
    go_wp2_with fail
    go_ret
    exact ⟨rfl, Below.refl _ _⟩
  · have Hd := qh (drawFewestAll_any A n c w h hc hcm)
    clear h
    go_enter Tryz.func3, Tryz.ntmps3
    go_wp2_with fail
    refine Hd.out.mono ?_; rintro e w1 ⟨A1, A2, n2, c2, room, ts, rfl, h1, h2, h3, h4, hB⟩
    have H1 := qh h1
    have H2 := qh h2
    have B1 := qh hB
    have lz1 := hB.size
    have Hl := qh h2.len
    clear h1 h2 hB Hd
    go_wp2_with fail
    refine (fewestI_any A1 A2 3 3 n2 c2 room ts w1 H1.out H2.out).mono ?_; rintro e w2 ⟨A3, m, c3, rfl, hO, hb⟩
    have O2 := qh hO
    have B2 := qh (B1.out.trans (hb.mono lz1))
    have I2 := qh (H1.out.up hb)
    have T2 := qh (H2.out.up hb)
    have lz2 := B2.out.size
    have Hm := qh hO.len
    clear hO hb H1 H2 B1 lz1
    go_wp2_with fail
    refine (fewestS_any A1 A2 3 3 n2 c2 room ts w2 I2.out T2.out).mono ?_; rintro e w3 ⟨A4, m4, c4, rfl, hO, hb⟩
    obtain rfl : m4 = m := by have := hO.len; have := Hm.out; omega
    have O3 := qh (O2.out.up hb)
    have P3 := qh hO
    have B3 := qh (B2.out.trans (hb.mono lz2))
    have I3 := qh (I2.out.up hb)
    have T3 := qh (T2.out.up hb)
    have lz3 := B3.out.size
    clear hO hb I2 T2 B2 lz2 O2
    go_wp2_with fail
    refine (sameBins_any A3 A4 m4 c3 c4 _ _ _ w3 O3.out P3.out).mono ?_; rintro e w4 ⟨rfl, q, rfl⟩
    have O4 := qh (O3.out.drewN q)
    have P4 := qh (P3.out.drewN q)
    have B4 := qh (below_drewN B3.out q)
    have I4 := qh (I3.out.drewN q)
    have T4 := qh (T3.out.drewN q)
    clear I3 T3 B3 O3 P3
    have lz4 : w.heap.size ≤ (w3.drewN q).heap.size := lz3
    clear lz3
    have O4' := qh (show RdB (w3.drewN q) (w3.drewN q).heap.size A3 m4 (fewAllP room ts) from O4.out)
    have P4' := qh (show RdB (w3.drewN q) (w3.drewN q).heap.size A4 m4 (fewAllP room ts) from P4.out)
    have I4' := qh (show RdI (w3.drewN q) (w3.drewN q).heap.size A1 3 room from I4.out)
    have T4' := qh (show RdT (w3.drewN q) (w3.drewN q).heap.size A2 n2 ts from T4.out)
    clear O4 P4 I4 T4
    generalize w3.drewN q = w4 at O4' P4' B4 I4' T4' lz4 ⊢
    go_wp2_with fail
    refine (tasksValidS_any A1 A2 3 3 n2 c2 room ts w4 I4'.out T4'.out).mono ?_; rintro e w5 ⟨rfl, q2, hw⟩
    have hb := below_drewN (Below.refl w4.heap.size w4) q2
    rw [hw] at hb
    have O5 := qh (O4'.out.up hb)
    have P5 := qh (P4'.out.up hb)
    have B5 := qh (B4.out.trans (hb.mono lz4))
    have I5 := qh (I4'.out.up hb)
    have T5 := qh (T4'.out.up hb)
    have lz5 := B5.out.size
    clear hw hb O4' P4' B4 I4' T4' lz4
    cases hok : tasksOk room ts with
    | false =>
      clear hok
      go_wp2_with fail
      refine (sameBins_any A3 A4 m4 c3 c4 _ _ _ w5 O5.out P5.out).mono ?_; rintro e w6 ⟨rfl, q, rfl⟩
      have B6 := qh (below_drewN B5.out q)
      go_wp2_with fail
      go_ret
      exact ⟨rfl, B6.out⟩
    | true =>
      have Hok := qh hok
      have Hm2 := qh (show (fewP room ts).length = m4 from by have := Hm.out; unfold fewAllP at this; rw [hok] at this; exact this)
      have hO6 := O5.out
      have e6 : fewAllP room ts = fewP room ts := by unfold fewAllP; rw [hok]; rfl
      rw [e6] at hO6
      have O6 := qh hO6
      have le4 := few_le (room := room) (ts := ts)
      have pk := few_packs hok
      have bd := pk.bound hok
      clear hok hO6 e6 P5 O5
      go_wp2_with fail
      refine (firstAllI_any A1 A2 3 3 n2 c2 room ts w5 I5.out T5.out Hok.out).mono ?_; rintro e w6 ⟨A6, m6, c6, rfl, hO, hb⟩
      have d1 : (m4 : Int) ≤ (m6 : Int) := by have := obr_len hO; have := Hm2.out; omega
      have B6 := qh (B5.out.trans (hb.mono lz5))
      have I6 := qh (I5.out.up hb)
      have T6 := qh (T5.out.up hb)
      have Q6 := qh (O6.out.up hb)
      have lz6 := B6.out.size
      clear hO hb B5 I5 T5 O6 lz5
      go_wp2_with fail
      refine (bestAllI_any A1 A2 3 3 n2 c2 room ts w6 I6.out T6.out Hok.out).mono ?_; rintro e w7 ⟨A7, m7, c7, rfl, hO, hb⟩
      have d2 : (m4 : Int) ≤ (m7 : Int) := by have := obr_len hO; have := Hm2.out; omega
      have B7 := qh (B6.out.trans (hb.mono lz6))
      have I7 := qh (I6.out.up hb)
      have T7 := qh (T6.out.up hb)
      have Q7 := qh (Q6.out.up hb)
      have lz7 := B7.out.size
      clear hO hb B6 I6 T6 Q6 lz6
      go_wp2_with fail
      refine (downAllI_any A1 A2 3 3 n2 c2 room ts w7 I7.out T7.out Hok.out).mono ?_; rintro e w8 ⟨A8, m8, c8, rfl, hO, hb⟩
      have d3 : (m4 : Int) ≤ (m8 : Int) := by have := obr_len hO; have := Hm2.out; omega
      have B8 := qh (B7.out.trans (hb.mono lz7))
      have I8 := qh (I7.out.up hb)
      have T8 := qh (T7.out.up hb)
      have Q8 := qh (Q7.out.up hb)
      have lz8 := B8.out.size
      clear hO hb B7 I7 T7 Q7 lz7
      go_wp2_with fail
      refine (downBestI_any A1 A2 3 3 n2 c2 room ts w8 I8.out T8.out Hok.out).mono ?_; rintro e w9 ⟨A9, m9, c9, rfl, hO, hb⟩
      have d4 : (m4 : Int) ≤ (m9 : Int) := by have := obr_len hO; have := Hm2.out; omega
      have B9 := qh (B8.out.trans (hb.mono lz8))
      have I9 := qh (I8.out.up hb)
      have T9 := qh (T8.out.up hb)
      have Q9 := qh (Q8.out.up hb)
      have lz9 := B9.out.size
      clear hO hb B8 I8 T8 Q8 lz8
      go_wp2_with fail
      refine (boundBest_any A1 A2 3 3 n2 c2 room ts w9 I9.out T9.out Hok.out).mono ?_; rintro e wa ⟨rfl, hb⟩
      have d5 : max (sumB room ts) ((apartP room ts).length : Int) ≤ (m4 : Int) := by have := Hm2.out; omega
      have Ba := qh (B9.out.trans (hb.mono lz9))
      have Ia := qh (I9.out.up hb)
      have Qa := qh (Q9.out.up hb)
      have lza := Ba.out.size
      clear hb B9 I9 T9 Q9 lz9 bd le4
      have Pk := qh pk
      clear pk
      generalize max (sumB room ts) ((apartP room ts).length : Int) = bb at d5 ⊢
      go_wp2_with fail
      refine (binsValidI_any A1 A3 3 3 m4 c3 room (fewP room ts) wa Ia.out Qa.out (by have := Pk.out.perm.length_eq; have := Hl.out; omega)).mono ?_; rintro e wb ⟨rfl, hb⟩
      rw [Pk.out.ok]
      have Bb := qh (Ba.out.trans (hb.mono lza))
      clear hb
      go_wp2_with fail
      go_ret
      exact ⟨rfl, Bb.out⟩
set_option maxRecDepth 100000 in
set_option maxHeartbeats 3200000 in
theorem fewestFew_walk (A : Option Addr) (n c : Nat) (w : World) (h : RdU w w.heap.size A n) (hc : n ≤ c) (hcm : c ≤ 9223372036854775807) :
    Calls Tryz.prog 4 #[.slice A n c] w fun e w' => e = .returned (.bool true) ∧ Below w.heap.size w w' := by
  by_cases hbig : (1048576 : Int) < (n : Int)
  · go_enter Tryz.func4, Tryz.ntmps4
    go_wp2_with fail
    go_ret
    exact ⟨rfl, Below.refl _ _⟩
  · have Hd := qh (drawFewestAll_any A n c w h hc hcm)
    clear h
    go_enter Tryz.func4, Tryz.ntmps4
    go_wp2_with fail
    refine Hd.out.mono ?_; rintro e w1 ⟨A1, A2, n2, c2, room, ts, rfl, h1, h2, h3, h4, hB⟩
    have H1 := qh h1
    have H2 := qh h2
    have B1 := qh hB
    have lz1 := hB.size
    have Hl := qh h2.len
    clear h1 h2 hB Hd
    go_wp2_with fail
    refine (fewestI_any A1 A2 3 3 n2 c2 room ts w1 H1.out H2.out).mono ?_; rintro e w2 ⟨A3, m, c3, rfl, hO, hb⟩
    have O2 := qh hO
    have B2 := qh (B1.out.trans (hb.mono lz1))
    have I2 := qh (H1.out.up hb)
    have T2 := qh (H2.out.up hb)
    have lz2 := B2.out.size
    have Hm := qh hO.len
    clear hO hb H1 H2 B1 lz1
    go_wp2_with fail
    refine (fewestS_any A1 A2 3 3 n2 c2 room ts w2 I2.out T2.out).mono ?_; rintro e w3 ⟨A4, m4, c4, rfl, hO, hb⟩
    obtain rfl : m4 = m := by have := hO.len; have := Hm.out; omega
    have O3 := qh (O2.out.up hb)
    have P3 := qh hO
    have B3 := qh (B2.out.trans (hb.mono lz2))
    have I3 := qh (I2.out.up hb)
    have T3 := qh (T2.out.up hb)
    have lz3 := B3.out.size
    clear hO hb I2 T2 B2 lz2 O2
    go_wp2_with fail
    refine (sameBins_any A3 A4 m4 c3 c4 _ _ _ w3 O3.out P3.out).mono ?_; rintro e w4 ⟨rfl, q, rfl⟩
    have O4 := qh (O3.out.drewN q)
    have P4 := qh (P3.out.drewN q)
    have B4 := qh (below_drewN B3.out q)
    have I4 := qh (I3.out.drewN q)
    have T4 := qh (T3.out.drewN q)
    clear I3 T3 B3 O3 P3
    have lz4 : w.heap.size ≤ (w3.drewN q).heap.size := lz3
    clear lz3
    have O4' := qh (show RdB (w3.drewN q) (w3.drewN q).heap.size A3 m4 (fewAllP room ts) from O4.out)
    have P4' := qh (show RdB (w3.drewN q) (w3.drewN q).heap.size A4 m4 (fewAllP room ts) from P4.out)
    have I4' := qh (show RdI (w3.drewN q) (w3.drewN q).heap.size A1 3 room from I4.out)
    have T4' := qh (show RdT (w3.drewN q) (w3.drewN q).heap.size A2 n2 ts from T4.out)
    clear O4 P4 I4 T4
    generalize w3.drewN q = w4 at O4' P4' B4 I4' T4' lz4 ⊢
    go_wp2_with fail
    refine (tasksValidS_any A1 A2 3 3 n2 c2 room ts w4 I4'.out T4'.out).mono ?_; rintro e w5 ⟨rfl, q2, hw⟩
    have hb := below_drewN (Below.refl w4.heap.size w4) q2
    rw [hw] at hb
    have O5 := qh (O4'.out.up hb)
    have P5 := qh (P4'.out.up hb)
    have B5 := qh (B4.out.trans (hb.mono lz4))
    have I5 := qh (I4'.out.up hb)
    have T5 := qh (T4'.out.up hb)
    have lz5 := B5.out.size
    clear hw hb O4' P4' B4 I4' T4' lz4
    cases hok : tasksOk room ts with
    | false =>
      clear hok
      go_wp2_with fail
      refine (sameBins_any A3 A4 m4 c3 c4 _ _ _ w5 O5.out P5.out).mono ?_; rintro e w6 ⟨rfl, q, rfl⟩
      have B6 := qh (below_drewN B5.out q)
      go_wp2_with fail
      go_ret
      exact ⟨rfl, B6.out⟩
    | true =>
      by_cases hz : n2 = 0
      · subst hz
        clear hok
        go_wp2_with fail
        refine (sameBins_any A3 A4 m4 c3 c4 _ _ _ w5 O5.out P5.out).mono ?_; rintro e w6 ⟨rfl, q, rfl⟩
        have B6 := qh (below_drewN B5.out q)
        go_wp2_with fail
        go_ret
        exact ⟨rfl, B6.out⟩
      have hz2 : ((n2 : Int) == 0) = false := by simp; omega
      have Hok := qh hok
      have Hm2 := qh (show (fewP room ts).length = m4 from by have := Hm.out; unfold fewAllP at this; rw [hok] at this; exact this)
      have hO6 := O5.out
      have e6 : fewAllP room ts = fewP room ts := by unfold fewAllP; rw [hok]; rfl
      rw [e6] at hO6
      have hne : ts ≠ [] := fun e => by have := Hl.out; rw [e] at this; simp at this; omega
      have One := qh (one_iff hok hne)
      have Best := qh (best_one hok hne)
      have h16 := h3
      clear hok hO6 e6 P5 O5 hne
      have al := alloc_up w5 (.cells #[.slice A2 n2 c2] 24)
      have B6 := qh (B5.out.trans (al.mono lz5))
      have I6 := qh (I5.out.up al)
      have T6 := qh (T5.out.up al)
      have L6 := qh (RdB.lone T5.out h4)
      have lz6 := B6.out.size
      clear al
      go_wp2_with fail
      generalize w5.heap.size = g5 at L6 ⊢
      generalize w5.alloc (.cells #[.slice A2 n2 c2] 24) = w6 at B6 I6 T6 L6 lz6 ⊢
      refine (binsValidI_any A1 (some ⟨g5, 0, none⟩) 3 3 1 1 room [ts] w6 I6.out L6.out (by have := Hl.out; simp; omega)).mono ?_; rintro e w7 ⟨rfl, hb⟩
      have B7 := qh (B6.out.trans (hb.mono lz6))
      have I7 := qh (I6.out.up hb)
      have T7 := qh (T6.out.up hb)
      have lz7 := B7.out.size
      clear hb B6 I6 T6 L6 lz6 B5 I5 T5 lz5
      cases hone : binsOk room [ts] with
      | false =>
        have hm1 : ((m4 : Int) == 1) = false := by
          have := One.out
          have h1 : m4 ≠ 1 := fun e => by
            have := this.1 (by rw [Hm2.out]; exact e)
            rw [hone] at this; cases this
          simp; omega
        go_wp2_with fail
        go_ret
        exact ⟨rfl, B7.out⟩
      | true =>
        have hm1 : m4 = 1 := by rw [← Hm2.out]; exact One.out.2 hone
        subst hm1
        have Eb := qh (Best.out hone)
        have key := boundBest_any A1 A2 3 3 n2 c2 room ts w7 I7.out T7.out Hok.out
        rw [Eb.out] at key
        have Key := qh key
        clear key hone
        go_wp2_with fail
        refine Key.out.mono ?_; rintro e w8 ⟨rfl, hb⟩
        have B8 := qh (B7.out.trans (hb.mono lz7))
        clear hb
        go_wp2_with fail
        go_ret
        exact ⟨rfl, B8.out⟩
end Go.Proofs.YtdgeicdiiakhjaaGreat
