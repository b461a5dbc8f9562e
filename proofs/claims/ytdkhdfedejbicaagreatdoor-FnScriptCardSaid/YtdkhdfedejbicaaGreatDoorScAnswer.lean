/- Walks (the program): a line is answered. (Printed by gen_scanswer.py.) -/
import Derived.Test.YtdkhdfedejbicaaGreatDoorS4
import Derived.Defers
namespace Go.Proofs.YtdkhdfedejbicaaGreatDoor
set_option linter.unusedSimpArgs false
set_option linter.unusedVariables false
open Go Go.RowKit
attribute [local go_sem ↓] Go.wp_at_zero Go.wp_at_succ

set_option maxRecDepth 100000 in
set_option maxHeartbeats 12800000 in
theorem answer_any (w u : World) (g : Nat) (A4 A5 : Option Addr) (m5 c4 c5 : Nat) (us : List Un) (s : ByteArray) (m : Int) (hs : s.size ≤ 900) (hm : u.cell? ⟨0, 0, none⟩ = some (.int .i64 m)) (h0 : 0 < u.heap.size)
    (h : ExW w u g A4 A5 m5 c4 c5 us) (hok : clOk [10, 10, 10] us = true) :
    Calls Tryz.prog 24 #[.pointer (some ⟨g, 0, none⟩), .string s] u fun e u' => ∃ A6 A7 m7 c6 c7, e = .returned (.string (bs (lineP us s.data.toList).2)) ∧ ExW w u' g A6 A7 m7 c6 c7 (lineP us s.data.toList).1 ∧ (∀ i, i < u.heap.size → i ≠ g → u'.heap[i]? = u.heap[i]?) := by
  have hmf : ∀ (fn : Fn) (first cap : Array Value) (w : World), (Instr.makeFunc fn first cap).run Tryz.prog w = .ok (.func fn first cap) w := fun _ _ _ _ => rfl
  have hmm := @run_makeMap Tryz.prog
  have E := qh h
  have Hok := qh hok
  have lg : g < u.heap.size := h.q.lt
  have sz1 : (u.alloc (.cells #[.string ⟨#[]⟩] 9)).heap.size = u.heap.size + 1 := by simp
  have B0 := qh ((alloc_up u (.cells #[.string ⟨#[]⟩] 9)).alloc (by simp) (.map #[] 0))
  have R0 := qh ((Blk.new u 9 #[.string ⟨#[]⟩]).alloc (.map #[] 0))
  have hM0 := SMap.made (u.alloc (.cells #[.string ⟨#[]⟩] 9))
  rw [sz1] at hM0
  have M0 := qh hM0
  clear hM0 h hok
  generalize hl : s.data.toList = l at *
  have HL := qh hl
  clear hl
  go_enter_defers Tryz.func24, Tryz.ntmps24
  go_wp2_with fail
  clear hmm
  generalize hgr : u.heap.size = gr at R0 M0 sz1 lg h0 ⊢
  have Hgr := qh hgr
  clear hgr
  generalize (u.alloc (.cells #[.string ⟨#[]⟩] 9)).alloc (.map #[] 0) = v0 at B0 R0 M0 ⊢
  clear sz1
  refine (arriving_any false v0).mono ?_; rintro e x0 ⟨rfl, hbk, hb⟩
  generalize hb0 : v0.heap.size = b0 at hbk hb ⊢
  have lb0 : gr + 1 < b0 := by rw [← hb0]; exact M0.out.lt
  have BA0 := qh (B0.out.trans (hb.mono (by have := B0.out.size; have := Hgr.out; omega)))
  have RA0 := qh (R0.out.below hb (by omega))
  have MA0 := qh (M0.out.below hb (by omega))
  have KA0_0 := qh hbk
  clear hbk hb hb0 B0 R0 M0 
  go_wp2_with (refine wpList_puts rfl _ _ _ 67 (.inr rfl) 9 64 Tryz.underlying67 Tryz.underlying9 (gr + 1) _ rfl MA0.out (bs wArrive) (cmdV 4 64 b0) rfl rfl (by rfl) ?_; intro v1 hm2 hg2)
  have B1 := qh (BA0.out.grown hg2 (by have := BA0.out.size; omega) (fun a e => by injection e with e; have := Hgr.out; omega))
  have R1 := qh (RA0.out.grown hg2 (by simp))
  have M1 := qh hm2
  have K0_1 := qh (KA0_0.out.grown hg2 (by simp; omega))
  clear hm2 hg2 BA0 RA0 MA0 KA0_0
  refine (arriving_any true v1).mono ?_; rintro e x1 ⟨rfl, hbk, hb⟩
  generalize hb1 : v1.heap.size = b1 at hbk hb ⊢
  have lb1 : gr + 1 < b1 := by rw [← hb1]; exact M1.out.lt
  have lt0_1 : b0 < b1 := by rw [← hb1]; exact K0_1.out.lt
  have BA1 := qh (B1.out.trans (hb.mono (by have := B1.out.size; have := Hgr.out; omega)))
  have RA1 := qh (R1.out.below hb (by omega))
  have MA1 := qh (M1.out.below hb (by omega))
  have KA0_1 := qh (K0_1.out.below hb (by omega))
  have KA1_1 := qh hbk
  clear hbk hb hb1 B1 R1 M1 K0_1
  go_wp2_with (refine wpList_puts rfl _ _ _ 67 (.inr rfl) 9 64 Tryz.underlying67 Tryz.underlying9 (gr + 1) _ rfl MA1.out (bs wGrant) (cmdV 4 64 b1) rfl rfl (by rfl) ?_; intro v2 hm2 hg2)
  have B2 := qh (BA1.out.grown hg2 (by have := BA1.out.size; omega) (fun a e => by injection e with e; have := Hgr.out; omega))
  have R2 := qh (RA1.out.grown hg2 (by simp))
  have M2 := qh hm2
  have K0_2 := qh (KA0_1.out.grown hg2 (by simp; omega))
  have K1_2 := qh (KA1_1.out.grown hg2 (by simp; omega))
  clear hm2 hg2 BA1 RA1 MA1 KA0_1 KA1_1
  refine (plain_any 2 v2).mono ?_; rintro e x2 ⟨rfl, hbk, hb⟩
  generalize hb2 : v2.heap.size = b2 at hbk hb ⊢
  have lb2 : gr + 1 < b2 := by rw [← hb2]; exact M2.out.lt
  have lt0_2 : b0 < b2 := by rw [← hb2]; exact K0_2.out.lt
  have lt1_2 : b1 < b2 := by rw [← hb2]; exact K1_2.out.lt
  have BA2 := qh (B2.out.trans (hb.mono (by have := B2.out.size; have := Hgr.out; omega)))
  have RA2 := qh (R2.out.below hb (by omega))
  have MA2 := qh (M2.out.below hb (by omega))
  have KA0_2 := qh (K0_2.out.below hb (by omega))
  have KA1_2 := qh (K1_2.out.below hb (by omega))
  have KA2_2 := qh hbk
  clear hbk hb hb2 B2 R2 M2 K0_2 K1_2
  go_wp2_with (refine wpList_puts rfl _ _ _ 67 (.inr rfl) 9 64 Tryz.underlying67 Tryz.underlying9 (gr + 1) _ rfl MA2.out (bs wDepart) (cmdV 1 65 b2) rfl rfl (by rfl) ?_; intro v3 hm2 hg2)
  have B3 := qh (BA2.out.grown hg2 (by have := BA2.out.size; omega) (fun a e => by injection e with e; have := Hgr.out; omega))
  have R3 := qh (RA2.out.grown hg2 (by simp))
  have M3 := qh hm2
  have K0_3 := qh (KA0_2.out.grown hg2 (by simp; omega))
  have K1_3 := qh (KA1_2.out.grown hg2 (by simp; omega))
  have K2_3 := qh (KA2_2.out.grown hg2 (by simp; omega))
  clear hm2 hg2 BA2 RA2 MA2 KA0_2 KA1_2 KA2_2
  refine (plain_any 3 v3).mono ?_; rintro e x3 ⟨rfl, hbk, hb⟩
  generalize hb3 : v3.heap.size = b3 at hbk hb ⊢
  have lb3 : gr + 1 < b3 := by rw [← hb3]; exact M3.out.lt
  have lt0_3 : b0 < b3 := by rw [← hb3]; exact K0_3.out.lt
  have lt1_3 : b1 < b3 := by rw [← hb3]; exact K1_3.out.lt
  have lt2_3 : b2 < b3 := by rw [← hb3]; exact K2_3.out.lt
  have BA3 := qh (B3.out.trans (hb.mono (by have := B3.out.size; have := Hgr.out; omega)))
  have RA3 := qh (R3.out.below hb (by omega))
  have MA3 := qh (M3.out.below hb (by omega))
  have KA0_3 := qh (K0_3.out.below hb (by omega))
  have KA1_3 := qh (K1_3.out.below hb (by omega))
  have KA2_3 := qh (K2_3.out.below hb (by omega))
  have KA3_3 := qh hbk
  clear hbk hb hb3 B3 R3 M3 K0_3 K1_3 K2_3
  go_wp2_with (refine wpList_puts rfl _ _ _ 67 (.inr rfl) 9 64 Tryz.underlying67 Tryz.underlying9 (gr + 1) _ rfl MA3.out (bs wOpen) (cmdV 1 65 b3) rfl rfl (by rfl) ?_; intro v4 hm2 hg2)
  have B4 := qh (BA3.out.grown hg2 (by have := BA3.out.size; omega) (fun a e => by injection e with e; have := Hgr.out; omega))
  have R4 := qh (RA3.out.grown hg2 (by simp))
  have M4 := qh hm2
  have K0_4 := qh (KA0_3.out.grown hg2 (by simp; omega))
  have K1_4 := qh (KA1_3.out.grown hg2 (by simp; omega))
  have K2_4 := qh (KA2_3.out.grown hg2 (by simp; omega))
  have K3_4 := qh (KA3_3.out.grown hg2 (by simp; omega))
  clear hm2 hg2 BA3 RA3 MA3 KA0_3 KA1_3 KA2_3 KA3_3
  refine (plain_any 4 v4).mono ?_; rintro e x4 ⟨rfl, hbk, hb⟩
  generalize hb4 : v4.heap.size = b4 at hbk hb ⊢
  have lb4 : gr + 1 < b4 := by rw [← hb4]; exact M4.out.lt
  have lt0_4 : b0 < b4 := by rw [← hb4]; exact K0_4.out.lt
  have lt1_4 : b1 < b4 := by rw [← hb4]; exact K1_4.out.lt
  have lt2_4 : b2 < b4 := by rw [← hb4]; exact K2_4.out.lt
  have lt3_4 : b3 < b4 := by rw [← hb4]; exact K3_4.out.lt
  have BA4 := qh (B4.out.trans (hb.mono (by have := B4.out.size; have := Hgr.out; omega)))
  have RA4 := qh (R4.out.below hb (by omega))
  have MA4 := qh (M4.out.below hb (by omega))
  have KA0_4 := qh (K0_4.out.below hb (by omega))
  have KA1_4 := qh (K1_4.out.below hb (by omega))
  have KA2_4 := qh (K2_4.out.below hb (by omega))
  have KA3_4 := qh (K3_4.out.below hb (by omega))
  have KA4_4 := qh hbk
  clear hbk hb hb4 B4 R4 M4 K0_4 K1_4 K2_4 K3_4
  go_wp2_with (refine wpList_puts rfl _ _ _ 67 (.inr rfl) 9 64 Tryz.underlying67 Tryz.underlying9 (gr + 1) _ rfl MA4.out (bs wClose) (cmdV 1 65 b4) rfl rfl (by rfl) ?_; intro v5 hm2 hg2)
  have B5 := qh (BA4.out.grown hg2 (by have := BA4.out.size; omega) (fun a e => by injection e with e; have := Hgr.out; omega))
  have R5 := qh (RA4.out.grown hg2 (by simp))
  have M5 := qh hm2
  have K0_5 := qh (KA0_4.out.grown hg2 (by simp; omega))
  have K1_5 := qh (KA1_4.out.grown hg2 (by simp; omega))
  have K2_5 := qh (KA2_4.out.grown hg2 (by simp; omega))
  have K3_5 := qh (KA3_4.out.grown hg2 (by simp; omega))
  have K4_5 := qh (KA4_4.out.grown hg2 (by simp; omega))
  clear hm2 hg2 BA4 RA4 MA4 KA0_4 KA1_4 KA2_4 KA3_4 KA4_4
  refine (plain_any 5 v5).mono ?_; rintro e x5 ⟨rfl, hbk, hb⟩
  generalize hb5 : v5.heap.size = b5 at hbk hb ⊢
  have lb5 : gr + 1 < b5 := by rw [← hb5]; exact M5.out.lt
  have lt0_5 : b0 < b5 := by rw [← hb5]; exact K0_5.out.lt
  have lt1_5 : b1 < b5 := by rw [← hb5]; exact K1_5.out.lt
  have lt2_5 : b2 < b5 := by rw [← hb5]; exact K2_5.out.lt
  have lt3_5 : b3 < b5 := by rw [← hb5]; exact K3_5.out.lt
  have lt4_5 : b4 < b5 := by rw [← hb5]; exact K4_5.out.lt
  have BA5 := qh (B5.out.trans (hb.mono (by have := B5.out.size; have := Hgr.out; omega)))
  have RA5 := qh (R5.out.below hb (by omega))
  have MA5 := qh (M5.out.below hb (by omega))
  have KA0_5 := qh (K0_5.out.below hb (by omega))
  have KA1_5 := qh (K1_5.out.below hb (by omega))
  have KA2_5 := qh (K2_5.out.below hb (by omega))
  have KA3_5 := qh (K3_5.out.below hb (by omega))
  have KA4_5 := qh (K4_5.out.below hb (by omega))
  have KA5_5 := qh hbk
  clear hbk hb hb5 B5 R5 M5 K0_5 K1_5 K2_5 K3_5 K4_5
  go_wp2_with (refine wpList_puts rfl _ _ _ 67 (.inr rfl) 9 64 Tryz.underlying67 Tryz.underlying9 (gr + 1) _ rfl MA5.out (bs wGather) (cmdV 1 65 b5) rfl rfl (by rfl) ?_; intro v6 hm2 hg2)
  have B6 := qh (BA5.out.grown hg2 (by have := BA5.out.size; omega) (fun a e => by injection e with e; have := Hgr.out; omega))
  have R6 := qh (RA5.out.grown hg2 (by simp))
  have M6 := qh hm2
  have K0_6 := qh (KA0_5.out.grown hg2 (by simp; omega))
  have K1_6 := qh (KA1_5.out.grown hg2 (by simp; omega))
  have K2_6 := qh (KA2_5.out.grown hg2 (by simp; omega))
  have K3_6 := qh (KA3_5.out.grown hg2 (by simp; omega))
  have K4_6 := qh (KA4_5.out.grown hg2 (by simp; omega))
  have K5_6 := qh (KA5_5.out.grown hg2 (by simp; omega))
  clear hm2 hg2 BA5 RA5 MA5 KA0_5 KA1_5 KA2_5 KA3_5 KA4_5 KA5_5
  have W6 := qh (show AnsW u v6 gr (gr + 1) b0 b1 b2 b3 b4 b5 from ⟨by rw [← Hgr.out]; exact B6.out, R6.out, ⟨M6.out, K0_6.out, K1_6.out, K2_6.out, K3_6.out, K4_6.out, K5_6.out⟩⟩)
  clear B6 R6 M6 K0_6 K1_6 K2_6 K3_6 K4_6 K5_6 lb0 lb1 lb2 lb3 lb4 lb5 lt0_1 lt0_2 lt1_2 lt0_3 lt1_3 lt2_3 lt0_4 lt1_4 lt2_4 lt3_4 lt0_5 lt1_5 lt2_5 lt3_5 lt4_5
  go_wp2_with fail
  have hsp := split_any 32 s m v6 (by omega) (((W6.out.b).cell (p := ⟨0, 0, none⟩) h0).trans hm)
  rw [HL.out] at hsp
  refine hsp.mono ?_; rintro e y1 ⟨rfl, hy1⟩
  clear hsp hm
  rw [hy1]
  clear hy1 y1
  have W1 := qh (W6.out.up (alloc_up v6 (.cells ((cutP 32 l).map strV).toArray 9)))
  have C1 := qh (Blk.new v6 9 ((cutP 32 l).map strV).toArray)
  clear W6
  generalize v6.heap.size = gw at C1 ⊢
  generalize v6.alloc (.cells ((cutP 32 l).map strV).toArray 9) = y1 at W1 C1 ⊢
  have Cc := qh (show ∀ j, j < (cutP 32 l).length → y1.cell? ⟨gw, j, none⟩ = some (.string (bs ((cutP 32 l)[j]?.getD []))) from fun j hj => by rw [C1.out.cell]; simp [hj, strV])
  have E1 := qh (E.out.up (by rw [Hgr.out]; exact W1.out.b))
  have ln := HL.out ▸ Lib.size_eq s
  have hcl := cut_len 32 l
  have hn1 : (cutP 32 l).length ≤ 1000 := by have := List.count_le_length (a := (32 : UInt8)) (l := l); omega
  obtain ⟨hp1, hw0⟩ := words_at (l := l) rfl
  have Hw0 := qh hw0
  have Hsh := qh (show ∀ h : ¬ cutP 32 l = [wShow], (cutP 32 l).length = 1 → ¬ (cutP 32 l)[0]?.getD [] = wShow from fun h hn e => h (by
    match hc : cutP 32 l, hn, e with
    | [x], _, e => simpa using e))
  clear ln hcl hw0
  generalize hnn : (cutP 32 l).length = n1 at *
  have Hnn := qh hnn
  clear hnn
  go_upto_region 4 with fail
  go_cut [33] from 25 to 33 (fun bv wx => bv = .bool (decide (cutP 32 l = [wShow])) ∧ wx = y1)
  case first =>
    by_cases h1 : n1 = 1
    · have t1 : ((n1 : Int) == 1) = true := by simp; omega
      have i1 : (0 : Int) ≤ 0 ∧ (0 : Int) < (n1 : Int) := by omega
      have y0 := Cc.out 0 (by omega)
      by_cases hsh : cutP 32 l = [wShow]
      · have Hd := qh (decide_eq_true hsh)
        have t2 : (bs ((cutP 32 l)[0]?.getD [])).toList = [115, 104, 111, 119] := by rw [bs_toList, hsh]; rfl
        clear hsh
        generalize bs ((cutP 32 l)[0]?.getD []) = sw at *
        go_wp2_with fail
        go_meet
        case rel => exact ⟨by rw [Hd.out], rfl⟩
      · have Hd := qh (decide_eq_false hsh)
        have t2 : ¬ (bs ((cutP 32 l)[0]?.getD [])).toList = [115, 104, 111, 119] := by rw [bs_toList]; exact Hsh.out hsh h1
        clear hsh
        generalize bs ((cutP 32 l)[0]?.getD []) = sw at *
        go_wp2_with fail
        go_meet
        case rel => exact ⟨by rw [Hd.out, beq_eq_false_iff_ne.2 t2], rfl⟩
    · have Hd := qh (decide_eq_false (p := cutP 32 l = [wShow]) (fun e => h1 (by rw [← Hnn.out, e]; rfl)))
      have t1 : ((n1 : Int) == 1) = false := by simp; omega
      go_wp2_with fail
      go_meet
      case rel => exact ⟨by rw [Hd.out], rfl⟩
  case rest =>
    obtain ⟨rfl, hwc⟩ := hcut
    rw [hwc]
    clear hwc wc Hsh
    by_cases hsh : cutP 32 l = [wShow]
    · have El := qh (line_show (us := us) hsh)
      rw [decide_eq_true hsh]
      clear hsh
      obtain ⟨x0, x1⟩ := E1.out.box
      go_wp2_with fail
      clear x0 x1
      refine (showI_any A4 A5 3 c4 m5 c5 [10, 10, 10] us y1 E1.out.rd Hok.out).mono ?_; rintro e y2 ⟨rfl, hb⟩
      have W2 := qh (W1.out.up hb)
      clear hb
      have r0 := W2.out.r.cell 0
      have f0 := W2.out.r.frozen 0
      simp only [gT, gZ, gS] at r0
      generalize hss : bs (showT us) = ss at *
      have Hss := qh hss
      clear hss
      go_wp2_with fail
      clear r0 f0
      refine leaves_cons (f := 41) (args := #[.pointer (some ⟨gr, 0, none⟩)]) (by simp) (by simp [go_sem]) ?_
      refine (catch_idle ⟨gr, 0, none⟩ _).mono ?_
      rintro e u' w'' ⟨rfl, rfl, rfl⟩
      have z0 := (W2.out.r.set_ 0 (.string ss)).cell 0
      refine ⟨.string ss, by simp [results, Tryz.results24, go_sem, z0], ?_⟩
      rw [← Hss.out, Hgr.out]
      exact ans_same El.out E.out (W2.out.b.setCell (Nat.le_refl gr) _) Hgr.out
    · have Hnsh := qh hsh
      rw [decide_eq_false hsh]
      clear hsh
      obtain ⟨k1, rfl⟩ : ∃ k1, n1 = k1 + 1 := ⟨n1 - 1, by omega⟩
      obtain ⟨i0, hi0, hz0, hz1, hz2⟩ := info_parts int_info
      have al := alloc_up y1 (.cells #[] 3)
      have O0 := qh (show (y1.alloc (.cells #[] 3)).ownsRow y1.heap.size 3 1 (.slice (some ⟨y1.heap.size, 0, none⟩) 0 0) 0 (([] : List Int).map (Value.int .i64)) from World.ownsRow_made y1 #[] 0 (Nat.le_refl _) (by unfold maxLen; omega) rfl)
      have Cd := qh (show ∀ v, Below y1.heap.size y1 v → ∀ j, j < k1 → v.cell? ⟨gw, 1 + j, none⟩ = some (.string (bs ((cutP 32 l).tail[j]?.getD []))) from fun v hv j hj => by
        rw [List.getElem?_tail, Nat.add_comm]
        exact (hv.cell (p := ⟨gw, j + 1, none⟩) C1.out.lt).trans (Cc.out (j + 1) (by omega)))
      have D0 := qh al
      have htl := qh (show (cutP 32 l).tail.length = k1 by rw [List.length_tail, Hnn.out]; rfl)
      clear al E1
      go_upto_region 7 with fail
      go_cut [40, 41, 42] from 39 to 42 (fun a b c wx => ∃ A1 : Option Addr, a = .slice A1 k1 k1 ∧ (1 ≤ k1 → A1 = some ⟨gw, 1, none⟩) ∧ b = .int .i64 (k1 : Int) ∧ c = .int .i64 0 ∧ wx = y1.alloc (.cells #[] 3))
      case first =>
        by_cases hk : k1 = 0
        · subst hk
          go_wp2_with fail
          go_meet
          case rel => exact ⟨_, rfl, fun h => by omega, rfl, rfl, rfl⟩
        · have q1 : ¬ k1 + 1 = 1 := by omega
          have q2 : ¬ ((k1 : Int) + 1) < 1 := by omega
          go_wp2_with fail
          go_meet
          case rel => exact ⟨some ⟨gw, 1, none⟩, by simp, fun _ => rfl, rfl, rfl, rfl⟩
      case rest =>
        obtain ⟨Aw, rfl, haw, rfl, rfl, hwc⟩ := hcut
        rw [hwc]
        clear hwc wc
        have Haw := qh haw
        clear haw
        generalize hgy : y1.heap.size = gy at *
        have Hgy := qh hgy
        clear hgy
        generalize hy2 : y1.alloc (.cells #[] 3) = y2 at *
        clear hy2
        go_wp2_with fail
        go_loopw [7, 42] (fun v i wr => ∃ (k cc : Nat) (Ab : Option Addr) (ns : List Int), i = .int .i64 (k : Int) ∧ v = .slice Ab k cc ∧ k ≤ k1 ∧ wr.ownsRow gy 3 1 (.slice Ab k cc) k (ns.map (Value.int .i64)) ∧ numsP ((cutP 32 l).tail.take k) = some ns ∧ Below gy y1 wr) (fun _ i _ => k1 - (intOf i).toNat)
        case atStart => exact ⟨0, 0, _, [], rfl, rfl, Nat.zero_le _, O0.out, rfl, D0.out⟩
        case round =>
          clear O0 D0
          obtain ⟨k, cc, Ab, ns, rfl, rfl, hk, hO, hN, hb⟩ := hrel
          have HO := qh hO
          have HN := qh hN
          have HB := qh hb
          have HW := qh (W1.out.up (by rw [Hgy.out]; exact hb))
          have lz : gy ≤ wr.heap.size := by have := hb.size; have := Hgy.out; omega
          clear hO hN hb
          by_cases hlt : k < k1
          · obtain rfl := Haw.out (by omega)
            have q1 : (0 : Int) ≤ (k : Int) := by omega
            have q2 : (k : Int) < (k1 : Int) := by omega
            have x0 := Cd.out wr HB.out k hlt
            have Hbad := qh (fun (hn : numP ((cutP 32 l).tail[k]?.getD []) = none) => (show numsP (cutP 32 l).tail = none from by
              have hkl : k < (cutP 32 l).tail.length := by have := htl.out; omega
              refine nums_bad (w := (cutP 32 l).tail[k]) (List.getElem_mem hkl) ?_
              rw [List.getElem?_eq_getElem hkl] at hn; exact hn))
            have Hgood := qh (fun (n : Int) (hn : numP ((cutP 32 l).tail[k]?.getD []) = some n) => (show numsP ((cutP 32 l).tail.take (k + 1)) = some (ns ++ [n]) from by
              have hkl : k < (cutP 32 l).tail.length := by have := htl.out; omega
              rw [List.getElem?_eq_getElem hkl] at hn
              rw [List.take_add_one, List.getElem?_eq_getElem hkl]
              exact nums_snoc HN.out hn))
            have Hnw := qh (numberWord_any (bs ((cutP 32 l).tail[k]?.getD [])) wr)
            rw [bs_list] at Hnw
            generalize numP ((cutP 32 l).tail[k]?.getD []) = np at *
            generalize bs ((cutP 32 l).tail[k]?.getD []) = sw at *
            go_wp2_with fail
            refine Hnw.out.mono ?_; rintro e w9 ⟨hnw, hw9⟩
            rw [hw9]
            clear hw9 w9
            rcases hnw with ⟨n, hn, rfl⟩ | ⟨hn, rfl⟩
            · have Nx := qh (Hgood.out n hn)
              have al := alloc_up wr (.cells #[.int .i64 n] 3)
              have O9 := qh (own_up' HO.out al)
              have B9 := qh (HB.out.trans (al.mono lz))
              have S9 := qh (lit1c wr 3 (.int .i64 n))
              have l9 : gy ≤ (wr.alloc (.cells #[.int .i64 n] 3)).heap.size := by simp; omega
              clear al hn Hbad
              go_wp2_with (at_builtin; refine wpList_append_src _ rfl _ _ 32 rfl gy 3 i0 _ 1 8 Tryz.underlying32 hi0 hz0 hz1 hz2 rfl (by omega) (.slice Ab k cc) k _ rfl O9.out (some ⟨wr.heap.size, 0, none⟩) 1 1 [.int .i64 n] rfl S9.out (by simp [Value.oneCell']) (by unfold maxLen; omega) (by omega) l9 ?_; intro v' wn hown6 hgrow6 hat6; obtain ⟨A8, c8, rfl⟩ := own_shape hown6)
              have BF := qh (B9.out.grown hgrow6 l9 (fun a e => (O9.out.lt a e).1))
              have OF := qh hown6
              clear hown6 hgrow6 hat6
              go_wp2_with fail
              go_roundw
              case measure => simp [intOf]; omega
              case rel =>
                exact ⟨k + 1, c8, A8, ns ++ [n], by go_num, rfl, by omega, by rw [List.map_append]; exact OF.out, Nx.out, BF.out⟩
            · have El := qh (line_bad (us := us) (Hbad.out hn))
              clear hn Hgood
              simp only [badP]
              go_wp2_with fail
              refine leaves_cons (f := 41) (args := #[.pointer (some ⟨gr, 0, none⟩)]) (by simp) (by simp [go_sem]) ?_
              refine (catch_bad gr wr _ HW.out.r.lt (HW.out.r.cell 0) (HW.out.r.frozen 0)).mono ?_
              rintro e u' w'' ⟨rfl, rfl, rfl⟩
              have z0 := ((HW.out.r.set_ 0 (.string ⟨#[119, 104, 97, 116, 10]⟩)).alloc (.cells #[] 69)).cell 0
              refine ⟨.string ⟨#[119, 104, 97, 116, 10]⟩, by simp [results, Tryz.results24, go_sem, z0], ?_⟩
              rw [Hgr.out]
              exact ans_same (t := tWhat) El.out E.out ((HW.out.b.setCell (Nat.le_refl gr) _).alloc (by have := HW.out.r.lt; simp; omega) _) Hgr.out
          · obtain rfl : k = k1 := by omega
            have R1 := qh (own_rdI HO.out (own_le HO.out))
            have hkc := own_cap' HO.out
            have Lns := qh (show ns.length = k from by have := HO.out.1; simpa using this)
            have Nall := qh (show numsP (cutP 32 l).tail = some ns from by
              have h1 := HN.out
              rw [List.take_of_length_le (by have := htl.out; omega)] at h1; exact h1)
            have x0 : wr.cell? ⟨gw, 0, none⟩ = some (.string (bs ((cutP 32 l).head?.getD []))) := (HB.out.cell (p := ⟨gw, 0, none⟩) (by have := C1.out.lt; have := Hgy.out; show gw < gy; omega)).trans (by rw [Cc.out 0 (by omega), Hw0.out])
            have Hcase := cmd_cases ((cutP 32 l).head?.getD []) ns b0 b1 b2 b3 b4 b5
            have Hnone := qh (fun (hn : cmdP ((cutP 32 l).head?.getD []) ns = none) => line_none (us := us) Hnsh.out Nall.out hn)
            have Hreq := qh (fun (r : Rq) (hn : cmdP ((cutP 32 l).head?.getD []) ns = some r) => line_req (us := us) Hnsh.out Nall.out hn)
            have q1 : (0 : Int) ≤ 0 ∧ (0 : Int) < ((k : Int) + 1) := by omega
            clear HO HN HB Cd C1 Cc Haw Hnn htl Hw0 hlt hk hp1 Nall
            generalize cmdP ((cutP 32 l).head?.getD []) ns = cp at *
            generalize bs ((cutP 32 l).head?.getD []) = sw at *
            rcases Hcase with ⟨hlk, hc⟩ | ⟨n, f, bc, hlk, hn4, hlen, hc⟩ | ⟨n, f, bc, r, hlk, hn4, hlen, hc, hen, hmk⟩
            · have El := qh (Hnone.out hc)
              have Hlk := qh hlk
              clear hlk hc Hnone Hreq
              have WA := qh (HW.out.up (alloc_up wr (.cells #[.int .i64 0, .nilFunc] 64)))
              go_wp2_with (refine wpList_looks rfl _ _ 67 rfl 9 64 Tryz.underlying67 Tryz.underlying9 (.agg #[.int .i64 0, .nilFunc]) (Tryz.zeroValue64 _) (gr + 1) _ rfl HW.out.c.m sw rfl (.agg #[.int .i64 0, .nilFunc]) false (by rw [Hlk.out]; rfl) (by rw [Hlk.out]; rfl) ?_)
              go_wp2_with fail
              refine leaves_cons (f := 41) (args := #[.pointer (some ⟨gr, 0, none⟩)]) (by simp) (by simp [go_sem]) ?_
              refine (catch_bad gr (wr.alloc (.cells #[.int .i64 0, .nilFunc] 64)) _ WA.out.r.lt (WA.out.r.cell 0) (WA.out.r.frozen 0)).mono ?_
              rintro e u' w'' ⟨rfl, rfl, rfl⟩
              have z0 := ((WA.out.r.set_ 0 (.string ⟨#[119, 104, 97, 116, 10]⟩)).alloc (.cells #[] 69)).cell 0
              refine ⟨.string ⟨#[119, 104, 97, 116, 10]⟩, by simp [results, Tryz.results24, go_sem, z0], ?_⟩
              rw [Hgr.out]
              exact ans_same (t := tWhat) El.out E.out ((WA.out.b.setCell (Nat.le_refl gr) _).alloc (Nat.le_of_lt (WA.out.r.set_ 0 (.string ⟨#[119, 104, 97, 116, 10]⟩)).lt) _) Hgr.out
            · have El := qh (Hnone.out hc)
              have Hlk := qh hlk
              have t1 : ((k : Int) != (n : Int)) = true := by have := Lns.out; simp; omega
              clear hlk hc Hnone Hreq
              have WA := qh (HW.out.up (alloc_up wr (.cells #[.int .i64 (n : Int), .func (.func f) #[] #[.pointer (some ⟨bc, 0, none⟩)]] 64)))
              go_wp2_with (refine wpList_looks rfl _ _ 67 rfl 9 64 Tryz.underlying67 Tryz.underlying9 (.agg #[.int .i64 0, .nilFunc]) (Tryz.zeroValue64 _) (gr + 1) _ rfl HW.out.c.m sw rfl (.agg #[.int .i64 (n : Int), .func (.func f) #[] #[.pointer (some ⟨bc, 0, none⟩)]]) true (by rw [Hlk.out]; rfl) (by rw [Hlk.out]; rfl) ?_)
              go_wp2_with fail
              refine leaves_cons (f := 41) (args := #[.pointer (some ⟨gr, 0, none⟩)]) (by simp) (by simp [go_sem]) ?_
              refine (catch_bad gr (wr.alloc (.cells #[.int .i64 (n : Int), .func (.func f) #[] #[.pointer (some ⟨bc, 0, none⟩)]] 64)) _ WA.out.r.lt (WA.out.r.cell 0) (WA.out.r.frozen 0)).mono ?_
              rintro e u' w'' ⟨rfl, rfl, rfl⟩
              have z0 := ((WA.out.r.set_ 0 (.string ⟨#[119, 104, 97, 116, 10]⟩)).alloc (.cells #[] 69)).cell 0
              refine ⟨.string ⟨#[119, 104, 97, 116, 10]⟩, by simp [results, Tryz.results24, go_sem, z0], ?_⟩
              rw [Hgr.out]
              exact ans_same (t := tWhat) El.out E.out ((WA.out.b.setCell (Nat.le_refl gr) _).alloc (Nat.le_of_lt (WA.out.r.set_ 0 (.string ⟨#[119, 104, 97, 116, 10]⟩)).lt) _) Hgr.out
            · have El := qh (Hreq.out r hc)
              have Hlk := qh hlk
              obtain rfl : k = n := by have := Lns.out; omega
              have t1 : ((k : Int) != (k : Int)) = false := by simp
              clear hlk hc Hnone Hreq
              have WA := qh (HW.out.up (alloc_up wr (.cells #[.int .i64 (k : Int), .func (.func f) #[] #[.pointer (some ⟨bc, 0, none⟩)]] 64)))
              go_wp2_with (refine wpList_looks rfl _ _ 67 rfl 9 64 Tryz.underlying67 Tryz.underlying9 (.agg #[.int .i64 0, .nilFunc]) (Tryz.zeroValue64 _) (gr + 1) _ rfl HW.out.c.m sw rfl (.agg #[.int .i64 (k : Int), .func (.func f) #[] #[.pointer (some ⟨bc, 0, none⟩)]]) true (by rw [Hlk.out]; rfl) (by rw [Hlk.out]; rfl) ?_)
              go_upto_region 15 with fail
              have Efac := req_facts (r := r) Hok.out
              have Hmk := qh hmk
              clear hmk t1 Hlk
              have TA := qh (Blk.new wr 64 #[.int .i64 (k : Int), .func (.func f) #[] #[.pointer (some ⟨bc, 0, none⟩)]])
              have RA := qh (R1.out.up (alloc_up wr (.cells #[.int .i64 (k : Int), .func (.func f) #[] #[.pointer (some ⟨bc, 0, none⟩)]] 64)))
              generalize wr.heap.size = gt at TA ⊢
              generalize wr.alloc (.cells #[.int .i64 (k : Int), .func (.func f) #[] #[.pointer (some ⟨bc, 0, none⟩)]] 64) = wa at TA WA RA ⊢
              go_cut [12, 13] from 71 to 81 (fun x y wx => ∃ gz A6 A7 m7 c6 c7 base, x = .pointer (some ⟨gz, 0, none⟩) ∧ y = .int .i64 (reqP [10, 10, 10] us r).2.2 ∧ EndW u wx gr gz base A6 A7 m7 c6 c7 (reqP [10, 10, 10] us r).2.1)
              case first =>
                refine wp_region_mix (.take 0 (.take 1 (.take 2 (.take 3 (.take 4 (.take 5 (.fork 6 (.fork 7 (.take 8 (.take 9 (.take 10 (.bar 11 (.bar 12 (.take 13 .nil)))))) 11 (.bar 7 (.take 8 (.take 9 (.take 10 (.bar 12 (.take 13 .nil))))))) 11 (.bar 6 (.bar 7 (.take 8 (.take 9 (.take 10 (.bar 12 (.take 13 .nil))))))))))))))
                  (fun w' => (w'.cell? ⟨g, 0, none⟩ = some (.slice A4 3 c4) ∧ w'.cell? ⟨g, 1, none⟩ = some (.slice A5 m5 c5)) ∧ w'.cell? ⟨gt, 1, none⟩ = some (.func (.func f) #[] #[.pointer (some ⟨bc, 0, none⟩)])) (by kernel_rfl) (by kernel_rfl) ?_ (fun _ => ?_)
                · have hE := E.out.up (u' := wa) (by rw [Hgr.out]; exact WA.out.b)
                  exact ⟨⟨hE.q.cell 0, hE.q.cell 1⟩, TA.out.cell 1⟩
                have W0 := qh (WA.out.up (Below.refl wa.heap.size wa).drew)
                have E0 := qh (E.out.up (u' := wa.drew) (by rw [Hgr.out]; exact W0.out.b))
                have T0 := qh (show Blk wa.drew gt 64 _ from TA.out)
                have R0 := qh (show RdI wa.drew wa.drew.heap.size Ab k ns from RA.out)
                clear WA TA RA
                generalize wa.drew = u0 at W0 E0 T0 R0 ⊢
                (refine mxT (v := ?_) (by rfl) (by rfl) (fun z y => ?_) ?_; rotate_left; (focus ((try dsimp only at y); (go_simp <;> with_reducible rfl); done)); (try simp only [Act.put,pS,pZ,pC]))
                (refine mxT (v := ?_) (by rfl) (by rfl) (fun z y => ?_) ?_; rotate_left; (focus ((try dsimp only at y); (go_simp <;> with_reducible rfl); done)); (try simp only [Act.put,pS,pZ,pC]))
                (refine mxT (v := ?_) (by rfl) (by rfl) (fun z y => ?_) ?_; rotate_left; (focus ((try dsimp only at y); (go_simp <;> with_reducible rfl); done)); (try simp only [Act.put,pS,pZ,pC]))
                (refine mxT (v := ?_) (by rfl) (by rfl) (fun z y => ?_) ?_; rotate_left; (focus ((try dsimp only at y); (go_simp <;> with_reducible rfl); done)); (try simp only [Act.put,pS,pZ,pC]))
                (refine mxT (v := ?_) (by rfl) (by rfl) (fun z y => ?_) ?_; rotate_left; (focus ((try dsimp only at y); (go_simp <;> with_reducible rfl); done)); (try simp only [Act.put,pS,pZ,pC]))
                (refine mxT (v := ?_) (by rfl) (by rfl) (fun z y => ?_) ?_; rotate_left; (focus ((try dsimp only at y); (go_simp <;> with_reducible rfl); done)); (try simp only [Act.put,pS,pZ,pC]))
                refine wpMix_fork (by rfl) (by rfl) (fun K hK => ?_) (fun K hK => ?_)
                · go_simp
                  refine (show Calls Tryz.prog f #[.slice Ab k cc, .pointer (some ⟨bc, 0, none⟩)] u0 _ from Hmk.out u0 (gr + 1) Ab cc W0.out.c (R0.out) hkc).mono ?_
                  rintro e u1 ⟨A9, n9, c9, rfl, hr9, hc9, hb⟩
                  have W1 := qh (W0.out.up hb)
                  have R1 := qh (hr9.up hb)
                  have T1 := qh (T0.out.below hb T0.out.lt)
                  have E1 := qh (E0.out.up hb)
                  clear hr9 hb
                  ((try dsimp only); refine nxK hK _ _ (⟨⟨E1.out.q.cell 0, E1.out.q.cell 1⟩, T1.out.cell 1⟩) ?_; clear hK K; (try simp only [Act.put,pS,pZ,pC]))
                  refine wpMix_fork (by rfl) (by rfl) (fun K hK => ?_) (fun K hK => ?_)
                  · go_simp
                    refine (requestDoI_any A4 A5 A9 3 c4 m5 c5 n9 c9 [10, 10, 10] us r u1 E1.out.rd (sh_of Hok.out) R1.out hc9).mono ?_
                    rintro e u2 ⟨A6, m6, c6, A7, m7, c7, rfl, hOC, hb⟩
                    rw [Efac.1] at hOC
                    have hCW := OwnCW.of (OwnCR.of hOC)
                    obtain ⟨hl4, hl5, _, _⟩ := hCW.len
                    obtain rfl : m6 = 3 := by simpa using hl4.symm
                    have W2 := qh (W1.out.up hb)
                    have T2 := qh (T1.out.below hb T1.out.lt)
                    have E2 := qh (E1.out.up hb)
                    have CW2 := qh hCW
                    clear hOC hb hCW hl4 hl5
                    ((try dsimp only); refine nxK hK _ _ (⟨⟨E2.out.q.cell 0, E2.out.q.cell 1⟩, T2.out.cell 1⟩) ?_; clear hK K; (try simp only [Act.put,pS,pZ,pC]))
                    (refine mxT (v := ?_) (by rfl) (by rfl) (fun z y => ?_) ?_; rotate_left; (focus ((try dsimp only at y); (go_simp <;> with_reducible rfl); done)); (try simp only [Act.put,pS,pZ,pC]))
                    (refine mxT (v := ?_) (by rfl) (by rfl) (fun z y => ?_) ?_; rotate_left; (focus ((try dsimp only at y); (go_simp <;> with_reducible rfl); done)); (try simp only [Act.put,pS,pZ,pC]))
                    (refine mxT (v := ?_) (by rfl) (by rfl) (fun z y => ?_) ?_; rotate_left; (focus ((try dsimp only at y); (go_simp <;> with_reducible rfl); done)); (try simp only [Act.put,pS,pZ,pC]))
                    (refine mxB (by rfl) (fun K hK => ?_); go_simp)
                    have W3 := qh (W2.out.up (alloc_up u2 (.cells #[.slice none 0 0, .slice none 0 0] 35)))
                    have T3 := qh (T2.out.alloc (.cells #[.slice none 0 0, .slice none 0 0] 35))
                    have E3 := qh (E2.out.up (alloc_up u2 (.cells #[.slice none 0 0, .slice none 0 0] 35)))
                    have Z3 := qh (Blk.new u2 35 #[.slice none 0 0, .slice none 0 0])
                    have CW3 := qh (CW2.out.up (alloc_up u2 (.cells #[.slice none 0 0, .slice none 0 0] 35)))
                    have lgz3 : gr < u2.heap.size := W2.out.r.lt
                    have lgg3 : g < u2.heap.size := E2.out.q.lt
                    have lgt3 : gt < u2.heap.size := T2.out.lt
                    generalize hgz : u2.heap.size = gz at Z3 lgz3 lgg3 lgt3 ⊢
                    generalize u2.alloc (.cells #[.slice none 0 0, .slice none 0 0] 35) = u3 at W3 T3 E3 Z3 CW3 ⊢
                    ((try dsimp only); refine nxK hK _ _ (⟨⟨E3.out.q.cell 0, E3.out.q.cell 1⟩, T3.out.cell 1⟩) ?_; clear hK K; (try simp only [Act.put,pS,pZ,pC]))
                    have y0 := Z3.out.cell 0
                    have y1 := Z3.out.cell 1
                    simp only [gT, gZ, gS] at y0 y1
                    have f0 := Z3.out.frozen 0
                    have f1 := Z3.out.frozen 1
                    (refine mxB (by rfl) (fun K hK => ?_); go_simp)
                    clear y0 y1 f0 f1
                    have Fin := qh (show EndW u ((u3.setCell ⟨gz, 0, none⟩ (.slice A6 3 c6)).setCell ⟨gz, 1, none⟩ (.slice A7 m7 c7)) gr gz _ A6 A7 m7 c6 c7 (reqP [10, 10, 10] us r).2.1 from
                      ⟨(W3.out.b.setCell (p := ⟨gz, 0, none⟩) (Nat.le_of_lt lgz3) _).setCell (p := ⟨gz, 1, none⟩) (Nat.le_of_lt lgz3) _, (far2 _ gz _ _ gr (Nat.ne_of_lt lgz3)).trans W3.out.r, (Z3.out.set_ 0 _).set_ 1 _, CW3.out.keepTU ((KeepTU.set_ Z3.out (by decide) (by decide) (by decide) 0 _).trans (KeepTU.set_ (Z3.out.set_ 0 _) (by decide) (by decide) (by decide) 1 _)), lgz3⟩)
                    have Ff := qh (show ((u3.setCell ⟨gz, 0, none⟩ (.slice A6 3 c6)).setCell ⟨gz, 1, none⟩ (.slice A7 m7 c7)).cell? ⟨g, 0, none⟩ = some (.slice A4 3 c4) ∧ ((u3.setCell ⟨gz, 0, none⟩ (.slice A6 3 c6)).setCell ⟨gz, 1, none⟩ (.slice A7 m7 c7)).cell? ⟨g, 1, none⟩ = some (.slice A5 m5 c5) ∧ ((u3.setCell ⟨gz, 0, none⟩ (.slice A6 3 c6)).setCell ⟨gz, 1, none⟩ (.slice A7 m7 c7)).cell? ⟨gt, 1, none⟩ = some (.func (.func f) #[] #[.pointer (some ⟨bc, 0, none⟩)]) from by
                      have hG : Blk ((u3.setCell ⟨gz, 0, none⟩ (.slice A6 3 c6)).setCell ⟨gz, 1, none⟩ (.slice A7 m7 c7)) g 35 #[.slice A4 3 c4, .slice A5 m5 c5] := (far2 _ gz _ _ g (Nat.ne_of_lt lgg3)).trans E3.out.q
                      have hT : Blk ((u3.setCell ⟨gz, 0, none⟩ (.slice A6 3 c6)).setCell ⟨gz, 1, none⟩ (.slice A7 m7 c7)) gt 64 #[.int .i64 (k : Int), .func (.func f) #[] #[.pointer (some ⟨bc, 0, none⟩)]] := (far2 _ gz _ _ gt (Nat.ne_of_lt lgt3)).trans T3.out
                      exact ⟨hG.cell 0, hG.cell 1, hT.cell 1⟩)
                    generalize (u3.setCell ⟨gz, 0, none⟩ (.slice A6 3 c6)).setCell ⟨gz, 1, none⟩ (.slice A7 m7 c7) = uf at Fin Ff ⊢
                    ((try dsimp only); refine nxK hK _ _ (⟨⟨Ff.out.1, Ff.out.2.1⟩, Ff.out.2.2⟩) ?_; clear hK K; (try simp only [Act.put,pS,pZ,pC]))
                    (refine mxT (v := ?_) (by rfl) (by rfl) (fun z y => ?_) ?_; rotate_left; (focus ((try dsimp only at y); (go_simp <;> with_reducible rfl); done)); (try simp only [Act.put,pS,pZ,pC]))
                    refine wpMix_nil ?_
                    go_wp2_with fail
                    go_meet
                    case rel => exact ⟨gz, A6, A7, m7, c6, c7, _, rfl, rfl, Fin.out⟩
                  · go_simp
                    have W2 := qh (W1.out.up (alloc_up u1 (.cells #[.slice none 0 0, .slice none 0 0] 35)))
                    have T2 := qh (T1.out.alloc (.cells #[.slice none 0 0, .slice none 0 0] 35))
                    have E2 := qh (E1.out.up (alloc_up u1 (.cells #[.slice none 0 0, .slice none 0 0] 35)))
                    have Z2 := qh (Blk.new u1 35 #[.slice none 0 0, .slice none 0 0])
                    have R2 := qh (R1.out.up (alloc_up u1 (.cells #[.slice none 0 0, .slice none 0 0] 35)))
                    have lgz2 : gr < u1.heap.size := W1.out.r.lt
                    have lgg2 : g < u1.heap.size := E1.out.q.lt
                    have lgt2 : gt < u1.heap.size := T1.out.lt
                    generalize hgz : u1.heap.size = gz at Z2 lgz2 lgg2 lgt2 ⊢
                    generalize u1.alloc (.cells #[.slice none 0 0, .slice none 0 0] 35) = u2 at W2 T2 E2 Z2 R2 ⊢
                    ((try dsimp only); refine nxK hK _ _ (⟨⟨E2.out.q.cell 0, E2.out.q.cell 1⟩, T2.out.cell 1⟩) ?_; clear hK K; (try simp only [Act.put,pS,pZ,pC]))
                    (refine mxB (by rfl) (fun K hK => ?_); go_simp)
                    refine (requestDoI_any A4 A5 A9 3 c4 m5 c5 n9 c9 [10, 10, 10] us r u2 E2.out.rd (sh_of Hok.out) R2.out hc9).mono ?_
                    rintro e u3 ⟨A6, m6, c6, A7, m7, c7, rfl, hOC, hb⟩
                    rw [Efac.1] at hOC
                    have hCW := OwnCW.of (OwnCR.of hOC)
                    obtain ⟨hl4, hl5, _, _⟩ := hCW.len
                    obtain rfl : m6 = 3 := by simpa using hl4.symm
                    have W3 := qh (W2.out.up hb)
                    have T3 := qh (T2.out.below hb T2.out.lt)
                    have E3 := qh (E2.out.up hb)
                    have CW3 := qh hCW
                    have hbZ := hb
                    clear hOC hb hCW hl4 hl5
                    have Z3 := qh (Z2.out.below (show Below u2.heap.size u2 u3 from hbZ) Z2.out.lt)
                    ((try dsimp only); refine nxK hK _ _ (⟨⟨E3.out.q.cell 0, E3.out.q.cell 1⟩, T3.out.cell 1⟩) ?_; clear hK K; (try simp only [Act.put,pS,pZ,pC]))
                    (refine mxT (v := ?_) (by rfl) (by rfl) (fun z y => ?_) ?_; rotate_left; (focus ((try dsimp only at y); (go_simp <;> with_reducible rfl); done)); (try simp only [Act.put,pS,pZ,pC]))
                    (refine mxT (v := ?_) (by rfl) (by rfl) (fun z y => ?_) ?_; rotate_left; (focus ((try dsimp only at y); (go_simp <;> with_reducible rfl); done)); (try simp only [Act.put,pS,pZ,pC]))
                    (refine mxT (v := ?_) (by rfl) (by rfl) (fun z y => ?_) ?_; rotate_left; (focus ((try dsimp only at y); (go_simp <;> with_reducible rfl); done)); (try simp only [Act.put,pS,pZ,pC]))
                    have y0 := Z3.out.cell 0
                    have y1 := Z3.out.cell 1
                    simp only [gT, gZ, gS] at y0 y1
                    have f0 := Z3.out.frozen 0
                    have f1 := Z3.out.frozen 1
                    (refine mxB (by rfl) (fun K hK => ?_); go_simp)
                    clear y0 y1 f0 f1
                    have Fin := qh (show EndW u ((u3.setCell ⟨gz, 0, none⟩ (.slice A6 3 c6)).setCell ⟨gz, 1, none⟩ (.slice A7 m7 c7)) gr gz _ A6 A7 m7 c6 c7 (reqP [10, 10, 10] us r).2.1 from
                      ⟨(W3.out.b.setCell (p := ⟨gz, 0, none⟩) (Nat.le_of_lt lgz2) _).setCell (p := ⟨gz, 1, none⟩) (Nat.le_of_lt lgz2) _, (far2 _ gz _ _ gr (Nat.ne_of_lt lgz2)).trans W3.out.r, (Z3.out.set_ 0 _).set_ 1 _, CW3.out.keepTU ((KeepTU.set_ Z3.out (by decide) (by decide) (by decide) 0 _).trans (KeepTU.set_ (Z3.out.set_ 0 _) (by decide) (by decide) (by decide) 1 _)), lgz2⟩)
                    have Ff := qh (show ((u3.setCell ⟨gz, 0, none⟩ (.slice A6 3 c6)).setCell ⟨gz, 1, none⟩ (.slice A7 m7 c7)).cell? ⟨g, 0, none⟩ = some (.slice A4 3 c4) ∧ ((u3.setCell ⟨gz, 0, none⟩ (.slice A6 3 c6)).setCell ⟨gz, 1, none⟩ (.slice A7 m7 c7)).cell? ⟨g, 1, none⟩ = some (.slice A5 m5 c5) ∧ ((u3.setCell ⟨gz, 0, none⟩ (.slice A6 3 c6)).setCell ⟨gz, 1, none⟩ (.slice A7 m7 c7)).cell? ⟨gt, 1, none⟩ = some (.func (.func f) #[] #[.pointer (some ⟨bc, 0, none⟩)]) from by
                      have hG : Blk ((u3.setCell ⟨gz, 0, none⟩ (.slice A6 3 c6)).setCell ⟨gz, 1, none⟩ (.slice A7 m7 c7)) g 35 #[.slice A4 3 c4, .slice A5 m5 c5] := (far2 _ gz _ _ g (Nat.ne_of_lt lgg2)).trans E3.out.q
                      have hT : Blk ((u3.setCell ⟨gz, 0, none⟩ (.slice A6 3 c6)).setCell ⟨gz, 1, none⟩ (.slice A7 m7 c7)) gt 64 #[.int .i64 (k : Int), .func (.func f) #[] #[.pointer (some ⟨bc, 0, none⟩)]] := (far2 _ gz _ _ gt (Nat.ne_of_lt lgt2)).trans T3.out
                      exact ⟨hG.cell 0, hG.cell 1, hT.cell 1⟩)
                    generalize (u3.setCell ⟨gz, 0, none⟩ (.slice A6 3 c6)).setCell ⟨gz, 1, none⟩ (.slice A7 m7 c7) = uf at Fin Ff ⊢
                    ((try dsimp only); refine nxK hK _ _ (⟨⟨Ff.out.1, Ff.out.2.1⟩, Ff.out.2.2⟩) ?_; clear hK K; (try simp only [Act.put,pS,pZ,pC]))
                    (refine mxT (v := ?_) (by rfl) (by rfl) (fun z y => ?_) ?_; rotate_left; (focus ((try dsimp only at y); (go_simp <;> with_reducible rfl); done)); (try simp only [Act.put,pS,pZ,pC]))
                    refine wpMix_nil ?_
                    go_wp2_with fail
                    go_meet
                    case rel => exact ⟨gz, A6, A7, m7, c6, c7, _, rfl, rfl, Fin.out⟩
                · go_simp
                  have W1 := qh (W0.out.up (alloc_up u0 (.cells #[.slice none 0 0, .slice none 0 0] 35)))
                  have T1 := qh (T0.out.alloc (.cells #[.slice none 0 0, .slice none 0 0] 35))
                  have E1 := qh (E0.out.up (alloc_up u0 (.cells #[.slice none 0 0, .slice none 0 0] 35)))
                  have Z1 := qh (Blk.new u0 35 #[.slice none 0 0, .slice none 0 0])
                  have R1 := qh (R0.out.up (alloc_up u0 (.cells #[.slice none 0 0, .slice none 0 0] 35)))
                  have lgz1 : gr < u0.heap.size := W0.out.r.lt
                  have lgg1 : g < u0.heap.size := E0.out.q.lt
                  have lgt1 : gt < u0.heap.size := T0.out.lt
                  generalize hgz : u0.heap.size = gz at Z1 lgz1 lgg1 lgt1 ⊢
                  generalize u0.alloc (.cells #[.slice none 0 0, .slice none 0 0] 35) = u1 at W1 T1 E1 Z1 R1 ⊢
                  ((try dsimp only); refine nxK hK _ _ (⟨⟨E1.out.q.cell 0, E1.out.q.cell 1⟩, T1.out.cell 1⟩) ?_; clear hK K; (try simp only [Act.put,pS,pZ,pC]))
                  (refine mxB (by rfl) (fun K hK => ?_); go_simp)
                  refine (show Calls Tryz.prog f #[.slice Ab k cc, .pointer (some ⟨bc, 0, none⟩)] u1 _ from Hmk.out u1 (gr + 1) Ab cc W1.out.c (R1.out) hkc).mono ?_
                  rintro e u2 ⟨A9, n9, c9, rfl, hr9, hc9, hb⟩
                  have W2 := qh (W1.out.up hb)
                  have R2 := qh (hr9.up hb)
                  have T2 := qh (T1.out.below hb T1.out.lt)
                  have E2 := qh (E1.out.up hb)
                  have Z2 := qh (Z1.out.below hb Z1.out.lt)
                  clear hr9 hb
                  ((try dsimp only); refine nxK hK _ _ (⟨⟨E2.out.q.cell 0, E2.out.q.cell 1⟩, T2.out.cell 1⟩) ?_; clear hK K; (try simp only [Act.put,pS,pZ,pC]))
                  (refine mxB (by rfl) (fun K hK => ?_); go_simp)
                  refine (requestDoI_any A4 A5 A9 3 c4 m5 c5 n9 c9 [10, 10, 10] us r u2 E2.out.rd (sh_of Hok.out) R2.out hc9).mono ?_
                  rintro e u3 ⟨A6, m6, c6, A7, m7, c7, rfl, hOC, hb⟩
                  rw [Efac.1] at hOC
                  have hCW := OwnCW.of (OwnCR.of hOC)
                  obtain ⟨hl4, hl5, _, _⟩ := hCW.len
                  obtain rfl : m6 = 3 := by simpa using hl4.symm
                  have W3 := qh (W2.out.up hb)
                  have T3 := qh (T2.out.below hb T2.out.lt)
                  have E3 := qh (E2.out.up hb)
                  have CW3 := qh hCW
                  have Z3 := qh (Z2.out.below hb Z2.out.lt)
                  clear hOC hb hCW hl4 hl5
                  ((try dsimp only); refine nxK hK _ _ (⟨⟨E3.out.q.cell 0, E3.out.q.cell 1⟩, T3.out.cell 1⟩) ?_; clear hK K; (try simp only [Act.put,pS,pZ,pC]))
                  (refine mxT (v := ?_) (by rfl) (by rfl) (fun z y => ?_) ?_; rotate_left; (focus ((try dsimp only at y); (go_simp <;> with_reducible rfl); done)); (try simp only [Act.put,pS,pZ,pC]))
                  (refine mxT (v := ?_) (by rfl) (by rfl) (fun z y => ?_) ?_; rotate_left; (focus ((try dsimp only at y); (go_simp <;> with_reducible rfl); done)); (try simp only [Act.put,pS,pZ,pC]))
                  (refine mxT (v := ?_) (by rfl) (by rfl) (fun z y => ?_) ?_; rotate_left; (focus ((try dsimp only at y); (go_simp <;> with_reducible rfl); done)); (try simp only [Act.put,pS,pZ,pC]))
                  have y0 := Z3.out.cell 0
                  have y1 := Z3.out.cell 1
                  simp only [gT, gZ, gS] at y0 y1
                  have f0 := Z3.out.frozen 0
                  have f1 := Z3.out.frozen 1
                  (refine mxB (by rfl) (fun K hK => ?_); go_simp)
                  clear y0 y1 f0 f1
                  have Fin := qh (show EndW u ((u3.setCell ⟨gz, 0, none⟩ (.slice A6 3 c6)).setCell ⟨gz, 1, none⟩ (.slice A7 m7 c7)) gr gz _ A6 A7 m7 c6 c7 (reqP [10, 10, 10] us r).2.1 from
                    ⟨(W3.out.b.setCell (p := ⟨gz, 0, none⟩) (Nat.le_of_lt lgz1) _).setCell (p := ⟨gz, 1, none⟩) (Nat.le_of_lt lgz1) _, (far2 _ gz _ _ gr (Nat.ne_of_lt lgz1)).trans W3.out.r, (Z3.out.set_ 0 _).set_ 1 _, CW3.out.keepTU ((KeepTU.set_ Z3.out (by decide) (by decide) (by decide) 0 _).trans (KeepTU.set_ (Z3.out.set_ 0 _) (by decide) (by decide) (by decide) 1 _)), lgz1⟩)
                  have Ff := qh (show ((u3.setCell ⟨gz, 0, none⟩ (.slice A6 3 c6)).setCell ⟨gz, 1, none⟩ (.slice A7 m7 c7)).cell? ⟨g, 0, none⟩ = some (.slice A4 3 c4) ∧ ((u3.setCell ⟨gz, 0, none⟩ (.slice A6 3 c6)).setCell ⟨gz, 1, none⟩ (.slice A7 m7 c7)).cell? ⟨g, 1, none⟩ = some (.slice A5 m5 c5) ∧ ((u3.setCell ⟨gz, 0, none⟩ (.slice A6 3 c6)).setCell ⟨gz, 1, none⟩ (.slice A7 m7 c7)).cell? ⟨gt, 1, none⟩ = some (.func (.func f) #[] #[.pointer (some ⟨bc, 0, none⟩)]) from by
                    have hG : Blk ((u3.setCell ⟨gz, 0, none⟩ (.slice A6 3 c6)).setCell ⟨gz, 1, none⟩ (.slice A7 m7 c7)) g 35 #[.slice A4 3 c4, .slice A5 m5 c5] := (far2 _ gz _ _ g (Nat.ne_of_lt lgg1)).trans E3.out.q
                    have hT : Blk ((u3.setCell ⟨gz, 0, none⟩ (.slice A6 3 c6)).setCell ⟨gz, 1, none⟩ (.slice A7 m7 c7)) gt 64 #[.int .i64 (k : Int), .func (.func f) #[] #[.pointer (some ⟨bc, 0, none⟩)]] := (far2 _ gz _ _ gt (Nat.ne_of_lt lgt1)).trans T3.out
                    exact ⟨hG.cell 0, hG.cell 1, hT.cell 1⟩)
                  generalize (u3.setCell ⟨gz, 0, none⟩ (.slice A6 3 c6)).setCell ⟨gz, 1, none⟩ (.slice A7 m7 c7) = uf at Fin Ff ⊢
                  ((try dsimp only); refine nxK hK _ _ (⟨⟨Ff.out.1, Ff.out.2.1⟩, Ff.out.2.2⟩) ?_; clear hK K; (try simp only [Act.put,pS,pZ,pC]))
                  (refine mxT (v := ?_) (by rfl) (by rfl) (fun z y => ?_) ?_; rotate_left; (focus ((try dsimp only at y); (go_simp <;> with_reducible rfl); done)); (try simp only [Act.put,pS,pZ,pC]))
                  refine wpMix_nil ?_
                  go_wp2_with fail
                  go_meet
                  case rel => exact ⟨gz, A6, A7, m7, c6, c7, _, rfl, rfl, Fin.out⟩
              case rest =>
                obtain ⟨gz, A6, A7, m7, c6, c7, base, rfl, rfl, hF⟩ := hcut
                have Ecode := req_code [10, 10, 10] us r
                generalize (reqP [10, 10, 10] us r).2.1 = us' at *
                obtain ⟨kc, hkc'⟩ := Int.eq_ofNat_of_zero_le Ecode.1
                rw [hkc'] at Ecode El ⊢
                have hk5 : kc ≤ 5 := by omega
                have hidx := index_code kc hk5
                have hcwl := codeW_len (kc : Int)
                generalize codeW (kc : Int) = cw at *
                have a1 : ∀ W, (Op.stringOp .add (bs cw) ⟨#[10]⟩).run Tryz.prog W = .ok (.string (bs (cw ++ [10]))) W := add_run cw [10] (by simp; omega)
                have F := qh hF
                have EF := qh (E.out.up (u' := wc) (by rw [Hgr.out]; exact hF.b))
                clear hF Efac Hmk
                have q0 := F.out.q.cell 0
                have q1' := F.out.q.cell 1
                have y0 := EF.out.q.cell 0
                have y1' := EF.out.q.cell 1
                simp only [gT, gZ, gS] at q0 q1' y0 y1'
                have f0 := EF.out.q.frozen 0
                have f1 := EF.out.q.frozen 1
                go_wp2_with fail
                clear q0 q1' y0 y1' f0 f1
                have X := qh (EF.out.put F.out.cw)
                have RX := qh (show Blk ((wc.setCell ⟨g, 0, none⟩ (.slice A6 3 c6)).setCell ⟨g, 1, none⟩ (.slice A7 m7 c7)) gr 9 #[.string ⟨#[]⟩] from (far2 _ g _ _ gr (Nat.ne_of_gt lg)).trans F.out.r)
                have KX := qh (show ∀ i, i < gr → i ≠ g → ((wc.setCell ⟨g, 0, none⟩ (.slice A6 3 c6)).setCell ⟨g, 1, none⟩ (.slice A7 m7 c7)).heap[i]? = u.heap[i]? from fun i hi hne => (far2 _ g _ _ i hne).trans (F.out.b.block i hi))
                generalize (wc.setCell ⟨g, 0, none⟩ (.slice A6 3 c6)).setCell ⟨g, 1, none⟩ (.slice A7 m7 c7) = wx at X RX KX ⊢
                refine (codeWords_any wx).mono ?_; rintro e wy ⟨rfl, hb⟩
                have Y := qh (X.out.up hb)
                have RY := qh (RX.out.below hb RX.out.lt)
                have KY := qh (show ∀ i, i < gr → i ≠ g → wy.heap[i]? = u.heap[i]? from fun i hi hne => (hb.block i (Nat.lt_trans hi RX.out.lt)).trans (KX.out i hi hne))
                clear hb X RX KX F EF
                have r0 := RY.out.cell 0
                have fr0 := RY.out.frozen 0
                simp only [gT, gZ, gS] at r0
                go_wp2_with fail
                clear r0 fr0
                refine leaves_cons (f := 41) (args := #[.pointer (some ⟨gr, 0, none⟩)]) (by simp) (by simp [go_sem]) ?_
                refine (catch_idle ⟨gr, 0, none⟩ _).mono ?_
                rintro e u' w'' ⟨rfl, rfl, rfl⟩
                have z0 := (RY.out.set_ 0 (.string (bs (cw ++ [10])))).cell 0
                refine ⟨.string (bs (cw ++ [10])), by simp [results, Tryz.results24, go_sem, z0], ?_⟩
                rw [El.out, Hgr.out]
                refine ⟨A6, A7, m7, c6, c7, rfl, ?_, fun i hi hne => (Below.heap_setCell _ _ _ i (Nat.ne_of_lt hi)).trans (KY.out i hi hne)⟩
                obtain ⟨bse, hcw⟩ := Y.out.cw
                exact ⟨Y.out.b.setCell (p := ⟨gr, 0, none⟩) (by show w.heap.size ≤ gr; have := Y.out.lo; omega) _, (Below.heap_setCell _ _ _ g (Nat.ne_of_lt lg)).trans Y.out.q, ⟨bse, hcw.keepTU (KeepTU.set_ RY.out (by decide) (by decide) (by decide) 0 _)⟩, Y.out.lo⟩

