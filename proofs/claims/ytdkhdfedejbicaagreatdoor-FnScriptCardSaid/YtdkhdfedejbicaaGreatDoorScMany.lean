/- Walks: l6Many; the draw of a script; the laws' helpers. -/
import Derived.Test.YtdkhdfedejbicaaGreatDoorScDraw
namespace Go.Proofs.YtdkhdfedejbicaaGreatDoor
set_option linter.unusedSimpArgs false
set_option linter.unusedVariables false
open Go Go.RowKit
attribute [local go_sem ↓] Go.wp_at_zero Go.wp_at_succ

theorem many_step (o s n T : Nat) (h : o + s * n ≤ T) : o + s * (n % 2) + (2 * s) * (n / 2) ≤ T := by
  have e : s * n = s * (n % 2) + (2 * s) * (n / 2) := by
    conv => lhs; rw [← Nat.mod_add_div n 2]
    rw [Nat.mul_add, Nat.mul_comm 2 s, Nat.mul_assoc]
  omega

set_option maxRecDepth 100000 in
set_option maxHeartbeats 3200000 in
theorem l6Many_any (s0 : Bs) (N : Nat) (hN : N ≤ 1000) (hT : s0.length * N ≤ 100000) (hs0 : s0.length ≤ 100000) (w : World) :
    Calls Tryz.prog 20 #[.string (bs s0), .int .i64 (N : Int)] w fun e w' => ∃ l : Bs, e = .returned (.string (bs l)) ∧ l.length ≤ 100000 ∧ w' = w := by
  go_enter Tryz.func20, Tryz.ntmps20
  go_wp2_with fail
  go_loopw [0, 1, 5] (fun a i o wr => ∃ (k : Nat) (s t : Bs), a = .string (bs s) ∧ i = .int .i64 (k : Int) ∧ o = .string (bs t) ∧ k ≤ 1000 ∧ t.length + s.length * k ≤ 100000 ∧ s.length ≤ 200000 ∧ wr = w) (fun _ i _ _ => (intOf i).toNat)
  case atStart => exact ⟨N, s0, [], rfl, rfl, rfl, hN, by simpa using hT, by omega, rfl⟩
  case round =>
    obtain ⟨k, s, t, rfl, rfl, rfl, hk, hkt, hsl, rfl⟩ := hrel
    by_cases h0 : k = 0
    · subst h0
      go_wp2_with fail
      go_ret
      exact ⟨t, rfl, by omega, by first | trivial | rfl⟩
    · have p0 : (0 : Int) < (k : Int) := by omega
      have hs1 : s.length ≤ 100000 := by have := Nat.le_mul_of_pos_right s.length (show 0 < k by omega); omega
      have hd : IntKind.i64.wrap (Int.tdiv (k : Int) 2) = ((k / 2 : Nat) : Int) := by rw [Int.tdiv_eq_ediv_of_nonneg (by omega), wr64 (by omega) (by omega)]; omega
      have hmd : Int.tmod (k : Int) 2 = ((k % 2 : Nat) : Int) := by rw [Int.tmod_eq_emod_of_nonneg (by omega)]; omega
      have hst := many_step t.length s.length k 100000 hkt
      have a2 := add_run s s (by omega)
      by_cases h1 : k % 2 = 1
      · have t1 : (((k % 2 : Nat) : Int) == 1) = true := by rw [h1]; rfl
        rw [h1, Nat.mul_one] at hst
        have a1 := add_run t s (by omega)
        have HS := qh hst
        clear hst
        go_wp2_with fail
        go_roundw
        case measure => simp [intOf]; omega
        case rel => exact ⟨k / 2, s ++ s, t ++ s, rfl, by first | rfl | go_num, rfl, by omega, by have := HS.out; rw [List.length_append, List.length_append, ← Nat.two_mul]; exact this, by rw [List.length_append]; omega, by first | trivial | rfl⟩
      · have t1 : (((k % 2 : Nat) : Int) == 1) = false := by simp; omega
        rw [show k % 2 = 0 by omega, Nat.mul_zero, Nat.add_zero] at hst
        have HS := qh hst
        clear hst
        go_wp2_with fail
        go_roundw
        case measure => simp [intOf]; omega
        case rel => exact ⟨k / 2, s ++ s, t, rfl, by first | rfl | go_num, rfl, by omega, by have := HS.out; rw [List.length_append, ← Nat.two_mul]; exact this, by rw [List.length_append]; omega, by first | trivial | rfl⟩

set_option maxRecDepth 100000 in
set_option maxHeartbeats 6400000 in
theorem drawExecute_any (A : Option Addr) (n c : Nat) (w : World) (h : RdU w w.heap.size A n) (hc : n ≤ c) (hcm : c ≤ 9223372036854775807) :
    Calls Tryz.prog 12 #[.slice A n c] w fun e w' => ∃ l : Bs, e = .returned (.string (bs l)) ∧ l.length ≤ 1000000 ∧ Below w.heap.size w w' := by
  go_enter Tryz.func12, Tryz.ntmps12
  go_wp2_with fail
  refine (l6Open_any A n c w h hc hcm).mono ?_; rintro e w1 ⟨rfl, R1, hb⟩
  have B1 := qh hb
  have R1' := qh R1
  clear hb R1 h
  generalize hg : w.heap.size = g at R1' ⊢
  go_wp2_with fail
  refine (pick_at 18 R1'.out rfl (by omega) (by omega) (by omega)).mono ?_; rintro e w2 ⟨m, rfl, hm, R2, O2⟩
  have R2' := qh R2
  have O2' := qh O2
  clear R2 O2
  go_wp2_with fail
  go_loopw [4, 6] (fun v i wr => ∃ (k q : Nat) (t : Bs), v = .string (bs t) ∧ i = .int .i64 (k : Int) ∧ k ≤ m ∧ t.length ≤ 41 * k ∧ q ≤ 1 + 6 * k ∧ Rdr wr g q ∧ OnlyG w1 wr g) (fun _ i _ => m - (intOf i).toNat)
  case atStart => exact ⟨0, 1, [], rfl, rfl, Nat.zero_le _, Nat.zero_le _, by omega, R2'.out, O2'.out⟩
  case round =>
    clear R2' O2'
    obtain ⟨k, q, t, rfl, rfl, hk, ht, hq, hR, hO⟩ := hrel
    have HR := qh hR
    have HO := qh hO
    clear hR hO
    by_cases hlt : k < m
    · have q1 : (k : Int) < (m : Int) := by omega
      have v1 : IntKind.i64.wrap ((k : Int) + 1) = (k : Int) + 1 := wr64 (by omega) (by omega)
      go_wp2_with fail
      refine (l92Line_any g q wr HR.out (by omega)).mono ?_; rintro e w3 ⟨x, rfl, hx, O3, q3, hq3, R3⟩
      have R3' := qh R3
      have O3' := qh (HO.out.trans O3)
      clear R3 O3
      have a1 := add_run t x (by omega)
      have hl1 : (t ++ x).length ≤ 41 * k + 40 := by rw [List.length_append]; omega
      generalize t ++ x = tx at *
      have a2 : ∀ W, (Op.stringOp .add (bs tx) ⟨#[10]⟩).run Tryz.prog W = .ok (.string (bs (tx ++ [10]))) W := add_run tx [10] (by simp; omega)
      have hl2 : (tx ++ [10]).length ≤ 41 * (k + 1) := by simp; omega
      generalize tx ++ [10] = ty at *
      go_wp2_with fail
      go_roundw
      case measure => simp [intOf]; omega
      case rel => exact ⟨k + 1, q3, ty, rfl, by go_num, by omega, hl2, by omega, R3'.out, O3'.out⟩
    · obtain rfl : k = m := by omega
      have q1 : ¬ (k : Int) < (k : Int) := by omega
      go_wp2_with fail
      refine (pick_at 20 HR.out rfl (by omega) (by omega) (by omega)).mono ?_; rintro e w3 ⟨r, rfl, hr, R3, O3⟩
      have R3' := qh R3
      have O3' := qh (HO.out.trans O3)
      clear R3 O3 HR HO
      have fin : ∀ w', OnlyG w1 w' g → Below w.heap.size w w' := fun w' ho => ho.to_below B1.out (by omega)
      have Fin := qh fin
      clear fin
      by_cases c0 : r = 0
      · have t0 : ((r : Int) == 0) = true := by simp [c0]
        go_wp2_with fail
        refine (pick_at 5 R3'.out rfl (by omega) (by omega) (by omega)).mono ?_; rintro e w4 ⟨j, rfl, hj, R4, O4⟩
        have O4' := qh (O3'.out.trans O4)
        clear R4 O4
        have v1 : IntKind.i64.wrap (46 + (j : Int)) = ((46 + j : Nat) : Int) := by rw [wr64 (by omega) (by omega)]; omega
        have hmany := qh (l6Many_any [103, 114, 97, 110, 116, 32, 49, 32, 49, 32, 49, 32, 49, 10] (46 + j) (by omega) (by simp; omega) (by simp) w4)
        go_wp2_with fail
        refine hmany.out.mono ?_; rintro e w5 ⟨x, rfl, hx, hw5⟩
        rw [hw5]
        clear hw5 w5 hmany
        have a1 := add_run t x (by omega)
        have hl1 : (t ++ x).length ≤ 1000000 := by rw [List.length_append]; omega
        generalize t ++ x = tx at *
        go_wp2_with fail
        go_ret
        exact ⟨tx, rfl, hl1, Fin.out _ O4'.out⟩
      · have t0 : ((r : Int) == 0) = false := by simp; omega
        by_cases c1 : r = 1 ∨ r = 2
        · have key : ∀ (hh : True), True := fun _ => trivial
          rcases c1 with c1 | c1
          · have t1 : ((r : Int) == 1) = true := by simp [c1]
            go_wp2_with fail
            refine (l92Line_any g _ w3 R3'.out (by omega)).mono ?_; rintro e w4 ⟨x, rfl, hx, O4, q4, hq4, R4⟩
            have O4' := qh (O3'.out.trans O4)
            clear R4 O4
            have a1 := add_run t x (by omega)
            have hl1 : (t ++ x).length ≤ 1000000 := by rw [List.length_append]; omega
            generalize t ++ x = tx at *
            go_wp2_with fail
            go_ret
            exact ⟨tx, rfl, hl1, Fin.out _ O4'.out⟩
          · have t1 : ((r : Int) == 1) = false := by simp [c1]
            have t2 : ((r : Int) == 2) = true := by simp [c1]
            go_wp2_with fail
            refine (l92Line_any g _ w3 R3'.out (by omega)).mono ?_; rintro e w4 ⟨x, rfl, hx, O4, q4, hq4, R4⟩
            have O4' := qh (O3'.out.trans O4)
            clear R4 O4
            have a1 := add_run t x (by omega)
            have hl1 : (t ++ x).length ≤ 1000000 := by rw [List.length_append]; omega
            generalize t ++ x = tx at *
            go_wp2_with fail
            go_ret
            exact ⟨tx, rfl, hl1, Fin.out _ O4'.out⟩
        · have t1 : ((r : Int) == 1) = false := by simp; omega
          have t2 : ((r : Int) == 2) = false := by simp; omega
          have hl1 : t.length ≤ 1000000 := by omega
          go_wp2_with fail
          go_ret
          exact ⟨t, rfl, hl1, Fin.out _ O3'.out⟩

set_option maxRecDepth 100000 in
set_option maxHeartbeats 3200000 in
theorem completeLines_any (l : Bs) (hl : l.length ≤ 1000000) (w : World) :
    Calls Tryz.prog 15 #[.string (bs l)] w fun e w' => e = .returned (.string (bs (compP l))) ∧ w' = w := by
  have hsl := bs_size l
  have hg : ∀ (q : Nat) (hq : q < (bs l).size), (bs l)[q] = l[q]?.getD 0 := fun q hq => by rw [← get_list _ hq, bs_list]
  have hx : ∀ k, (bs l).extract 0 k = bs (l.take k) := fun k => by rw [bs_cut]; simp
  have Hg := qh hg
  have Hx := qh hx
  have Hsl := qh hsl
  clear hg hx hsl
  generalize bs l = s at *
  go_enter Tryz.func15, Tryz.ntmps15
  go_wp2_with fail
  go_loopw [3] (fun i wr => ∃ k : Nat, i = .int .i64 (k : Int) ∧ k ≤ s.size ∧ compP l = compTo l k ∧ wr = w) (fun i _ => (intOf i).toNat)
  case atStart => exact ⟨s.size, rfl, Nat.le_refl _, by unfold compP; rw [Hsl.out], rfl⟩
  case round =>
    obtain ⟨k, rfl, hk, hcp, rfl⟩ := hrel
    have Hcp := qh hcp
    clear hcp
    by_cases h0 : k = 0
    · subst h0
      go_wp2_with fail
      go_ret
      exact ⟨by rw [Hcp.out]; rfl, by first | trivial | rfl⟩
    · obtain ⟨j, rfl⟩ : ∃ j, k = j + 1 := ⟨k - 1, by omega⟩
      have hszb : s.size ≤ 1000000 := by rw [Hsl.out]; exact hl
      have v1 : IntKind.i64.wrap (j : Int) = (j : Int) := wr64 (by omega) (by omega)
      have q0 : (0 : Int) < (j : Int) + 1 := by omega
      have q1 : (0 : Int) ≤ (j : Int) ∧ (j : Int) < (s.size : Int) := by omega
      have q2 : (0 : Int) ≤ (j : Int) + 1 ∧ (j : Int) + 1 ≤ (s.size : Int) := by omega
      have eg := Hg.out j (by omega)
      by_cases h10 : l[j]?.getD 0 = 10
      · have t1 : ((s[j].toNat : Int) == 10) = true := by rw [eg, h10]; rfl
        have Hf := qh (show compP l = l.take (j + 1) by rw [Hcp.out, compTo, if_pos h10])
        clear eg h10
        go_wp2_with fail
        go_ret
        exact ⟨by rw [Hx.out, Hf.out]; rfl, by first | trivial | rfl⟩
      · have t1 : ((s[j].toNat : Int) == 10) = false := by
          rw [eg]
          have : (l[j]?.getD 0).toNat ≠ 10 := fun e => h10 (UInt8.toNat_inj.1 (by rw [e]; rfl))
          simp; omega
        have Hf := qh (show compP l = compTo l j by rw [Hcp.out, compTo, if_neg h10])
        clear eg h10
        go_wp2_with fail
        go_roundw
        case measure => first | (simp [intOf]; done) | (simp [intOf]; omega)
        case rel => exact ⟨j, by first | rfl | go_num, by omega, Hf.out, by first | trivial | rfl⟩

set_option maxRecDepth 100000 in
set_option maxHeartbeats 3200000 in
theorem lastLine_any (l : Bs) (hl : l.length ≤ 1000000000) (h1 : 1 ≤ l.length) (w : World) :
    Calls Tryz.prog 16 #[.string (bs l)] w fun e w' => e = .returned (.string (bs (lastL l))) ∧ w' = w := by
  have hsl := bs_size l
  have hg : ∀ (q : Nat) (hq : q < (bs l).size), (bs l)[q] = l[q]?.getD 0 := fun q hq => by rw [← get_list _ hq, bs_list]
  have hx : ∀ k, (bs l).extract k (bs l).size = bs (l.drop k) := fun k => by rw [← bs_of ((bs l).extract k (bs l).size), Lib.extract_to_end, bs_list]
  have Hg := qh hg
  have Hx := qh hx
  have Hsl := qh hsl
  have Hb := qh (show bs l = bs l from rfl)
  clear hg hx hsl
  have hszb : (bs l).size ≤ 1000000000 := by rw [Hsl.out]; exact hl
  have hsz1 : 1 ≤ (bs l).size := by rw [Hsl.out]; exact h1
  have Hend := qh (show Value.string (bs l) = .string (bs (lastTo l 0)) from rfl)
  generalize hss : bs l = s at *
  have Hss := qh hss
  clear hss
  have v0 : IntKind.i64.wrap ((s.size : Int) - 2) = (s.size : Int) - 2 := wr64 (by omega) (by omega)
  go_enter Tryz.func16, Tryz.ntmps16
  go_wp2_with fail
  go_loopw [3] (fun i wr => ∃ k : Nat, i = .int .i64 ((k : Int) - 1) ∧ k + 1 ≤ s.size ∧ lastL l = lastTo l k ∧ wr = w) (fun i _ => (intOf i + 1).toNat)
  case atStart => exact ⟨s.size - 1, by rw [show ((s.size - 1 : Nat) : Int) - 1 = (s.size : Int) - 2 by omega], by omega, by unfold lastL; rw [Hsl.out], rfl⟩
  case round =>
    obtain ⟨k, rfl, hk, hcp, rfl⟩ := hrel
    have Hcp := qh hcp
    clear hcp
    by_cases h0 : k = 0
    · subst h0
      go_wp2_with fail
      go_ret
      exact ⟨by rw [Hcp.out, ← Hend.out]; rfl, by first | trivial | rfl⟩
    · obtain ⟨j, rfl⟩ : ∃ j, k = j + 1 := ⟨k - 1, by omega⟩
      have v1 : IntKind.i64.wrap ((j : Int) - 1) = (j : Int) - 1 := wr64 (by omega) (by omega)
      have v2 : IntKind.i64.wrap ((j : Int) + 1) = (j : Int) + 1 := wr64 (by omega) (by omega)
      have q0 : (0 : Int) ≤ (j : Int) := by omega
      have q1 : (0 : Int) ≤ (j : Int) ∧ (j : Int) < (s.size : Int) := by omega
      have q2 : (0 : Int) ≤ (j : Int) + 1 ∧ (j : Int) + 1 ≤ (s.size : Int) := by omega
      have q3 : (j : Int) + 1 ≤ (s.size : Int) := by omega
      have eg := Hg.out j (by omega)
      rw [show ((j + 1 : Nat) : Int) - 1 = (j : Int) by omega]
      by_cases h10 : l[j]?.getD 0 = 10
      · have t1 : ((s[j].toNat : Int) == 10) = true := by rw [eg, h10]; rfl
        have Hf := qh (show lastL l = l.drop (j + 1) by rw [Hcp.out, lastTo, if_pos h10])
        clear eg h10
        go_wp2_with fail
        go_ret
        exact ⟨by rw [Hx.out, Hf.out]; rfl, by first | trivial | rfl⟩
      · have t1 : ((s[j].toNat : Int) == 10) = false := by
          rw [eg]
          have : (l[j]?.getD 0).toNat ≠ 10 := fun e => h10 (UInt8.toNat_inj.1 (by rw [e]; rfl))
          simp; omega
        have Hf := qh (show lastL l = lastTo l j by rw [Hcp.out, lastTo, if_neg h10])
        clear eg h10
        go_wp2_with fail
        go_roundw
        case measure => first | (simp [intOf]; done) | (simp [intOf]; omega)
        case rel => exact ⟨j, by first | rfl | go_num, by omega, Hf.out, by first | trivial | rfl⟩
end Go.Proofs.YtdkhdfedejbicaaGreatDoor
