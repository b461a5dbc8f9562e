/- Walks: the program's BatchAll and BatchNeed. -/
import Derived.Test.YtjjnbbkdjimcoaaGreatBatchI
namespace Go.Proofs.YtjjnbbkdjimcoaaGreat
set_option linter.unusedSimpArgs false
set_option linter.unusedVariables false
open Go Go.RowKit
attribute [local go_sem ↓] Go.wp_at_zero Go.wp_at_succ

set_option maxRecDepth 100000 in
set_option maxHeartbeats 6400000 in
theorem batchAllI_any (A1 A2 A : Option Addr) (n1 c1 n2 c2 n c : Nat) (g : Int) (room : List Int) (us : List Un) (ts : List Tk) (w : World) (h : RdC w A1 A2 n1 n2 room us) (hs : ShV us) (ht : RdT w w.heap.size A n ts) :
    Calls Tryz.prog 19 #[.agg #[.slice A1 n1 c1, .slice A2 n2 c2], .slice A n c, .int .i64 g] w fun e w' => ∃ A3 m3 c3 A4 m4 c4, e = .returned (.tuple #[.agg #[.slice A3 m3 c3, .slice A4 m4 c4], .bool (ballP room us ts g).2.2]) ∧
      OwnC w' w.heap.size (.slice A3 m3 c3) (.slice A4 m4 c4) m3 m4 (ballP room us ts g).1 (ballP room us ts g).2.1 ∧ Below w.heap.size w w' := by
  have al0 := alloc_up w (.cells #[.slice A1 n1 c1, .slice A2 n2 c2] 26)
  have B0 := qh (al0.alloc al0.size (.cells #[.slice none 0 0, .slice none 0 0] 26))
  have X0 := qh ((Blk.new w 26 #[.slice A1 n1 c1, .slice A2 n2 c2]).alloc (.cells #[.slice none 0 0, .slice none 0 0] 26))
  have r0 := Blk.new (w.alloc (.cells #[.slice A1 n1 c1, .slice A2 n2 c2] 26)) 26 #[.slice none 0 0, .slice none 0 0]
  rw [World.size_alloc] at r0
  have R0 := qh r0
  have C0 := qh (h.up B0.out)
  have T0 := qh (ht.up B0.out)
  have Hs := qh hs
  have Hl := qh ht.len
  clear al0 r0 h hs ht
  have x0 := X0.out.cell 0
  have x1 := X0.out.cell 1
  simp only [gT, gZ, gS] at x0 x1
  go_enter Tryz.func19, Tryz.ntmps19
  go_wp2_with fail
  have ls0 := B0.out.size
  generalize (w.alloc (.cells #[.slice A1 n1 c1, .slice A2 n2 c2] 26)).alloc (.cells #[.slice none 0 0, .slice none 0 0] 26) = w0 at B0 X0 R0 C0 T0 x0 x1 ls0 ⊢
  refine (batchValid_any A1 A2 A n1 c1 n2 c2 n c g room us ts w0 C0.out Hs.out T0.out).mono ?_; rintro e w1 ⟨rfl, hb1⟩
  have B1 := qh (B0.out.trans (hb1.mono ls0))
  have X1 := qh (X0.out.below hb1 X0.out.lt)
  have R1 := qh (R0.out.below hb1 R0.out.lt)
  have C1 := qh (C0.out.up hb1)
  have T1 := qh (T0.out.up hb1)
  have ls1 := B1.out.size
  clear hb1 B0 X0 R0 C0 T0 x0 x1 ls0
  cases hok : bokP room us ts g with
  | false =>
    have Hbat := qh (show ballP room us ts g = ([], [], false) from by unfold ballP; rw [if_neg (by rw [hok]; simp)])
    clear hok
    have r1 := R1.out.cell 0
    have r2 := R1.out.cell 1
    simp only [gT, gZ, gS] at r1 r2
    have f0 := R1.out.frozen 0
    have f1 := R1.out.frozen 1
    have R9 := qh ((R1.out.set_ 0 (.slice none 0 0)).set_ 1 (.slice none 0 0))
    have z0 := R9.out.cell 0
    have z1 := R9.out.cell 1
    simp only [pS, pZ, pC, gT, gZ, gS] at z0 z1
    have B9 := qh (show Below w.heap.size w ((w1.setCell ⟨w.heap.size + 1, 0, none⟩ (.slice none 0 0)).setCell ⟨w.heap.size + 1, 1, none⟩ (.slice none 0 0)) from (B1.out.setCell (by show w.heap.size ≤ w.heap.size + 1; omega) _).setCell (by show w.heap.size ≤ w.heap.size + 1; omega) _)
    have K9 := qh ((KeepTU.set_ R1.out (by decide) (by decide) (by decide) 0 (.slice none 0 0)).trans (KeepTU.set_ (R1.out.set_ 0 (.slice none 0 0)) (by decide) (by decide) (by decide) 1 (.slice none 0 0)))
    go_wp2_with fail
    refine bodyPost_ret (v := .tuple #[.agg #[.slice none 0 0, .slice none 0 0], .bool false]) (by simp [results, Tryz.results19, go_sem, z0, z1]) rfl ?_
    rw [Hbat.out]
    exact ⟨none, 0, 0, none, 0, 0, rfl, OwnC.none B9.out.size, B9.out⟩
  | true =>
    have Hok := qh hok
    have hcok := (bok_iff.1 hok).1
    have HS := qh (clOk_sh hcok)
    have hr3 : room.length = 3 := (clOk_facts hcok).1
    have x0 := X1.out.cell 0
    have x1 := X1.out.cell 1
    simp only [gT, gZ, gS] at x0 x1
    have hn1 := C1.out.a.len
    clear hok hcok
    go_wp2_with fail
    refine (copyOfC_any A1 A2 n1 c1 n2 c2 room us w1 C1.out HS.out (by omega)).mono ?_; rintro e w2 ⟨A3, c3, A4, c4, rfl, hoc, hb2⟩
    have B2 := qh (B1.out.trans (hb2.mono ls1))
    have X2 := qh (X1.out.below hb2 X1.out.lt)
    have R2 := qh (R1.out.below hb2 R1.out.lt)
    have C2 := qh (C1.out.up hb2)
    have T2 := qh (T1.out.up hb2)
    have O2 := qh (hoc.low ls1)
    have ls2 := B2.out.size
    clear hoc hb2 B1 X1 R1 C1 T1 x0 x1
    go_wp2_with fail
    refine (batch_any w.heap.size A3 A4 A n1 c3 n2 c4 n c g room us ts w2 ls2 O2.out T2.out Hok.out).mono ?_; rintro e w3 ⟨A5, m5, c5, A6, m6, c6, bm, l, rfl, hoc, hm, hlk, hlb, hb3⟩
    have B3 := qh (B2.out.trans (hb3.mono ls2))
    have X3 := qh (X2.out.below hb3 X2.out.lt)
    have R3 := qh (R2.out.below hb3 R2.out.lt)
    have C3 := qh (C2.out.up hb3)
    have O3 := qh hoc
    have ls3 := B3.out.size
    clear hoc hm hlk hb3 B2 X2 R2 C2 T2 O2
    have al := alloc_up w3 (.cells #[.slice A5 m5 c5, .slice A6 m6 c6] 26)
    have B4 := qh (B3.out.trans (al.mono ls3))
    have X4 := qh (X3.out.below al X3.out.lt)
    have R4 := qh (R3.out.below al R3.out.lt)
    have C4 := qh (C3.out.up al)
    have O4 := qh (O3.out.keepTU (KeepTU.up al))
    have Z4 := qh (Blk.new w3 26 #[.slice A5 m5 c5, .slice A6 m6 c6])
    have ls4 := B4.out.size
    clear al B3 X3 R3 C3 O3
    go_upto_region 4 with fail
    generalize w3.heap.size = bz at Z4 ls3 ⊢
    generalize w3.alloc (.cells #[.slice A5 m5 c5, .slice A6 m6 c6] 26) = w4 at B4 X4 R4 C4 O4 Z4 ls4 ⊢
    cases hz : zeroP (batR room us ts g).2 with
    | true =>
      have Hbat := qh (show ballP room us ts g = (room, (batR room us ts g).1, true) from by unfold ballP; rw [if_pos Hok.out, if_pos hz])
      clear hz
      have y0 := Z4.out.cell 0
      have y1 := Z4.out.cell 1
      simp only [gT, gZ, gS] at y0 y1
      have r1 := R4.out.cell 0
      have r2 := R4.out.cell 1
      simp only [gT, gZ, gS] at r1 r2
      have f0 := R4.out.frozen 0
      have f1 := R4.out.frozen 1
      have R9 := qh ((R4.out.set_ 0 (.slice A5 m5 c5)).set_ 1 (.slice A6 m6 c6))
      have z0 := R9.out.cell 0
      have z1 := R9.out.cell 1
      simp only [pS, pZ, pC, gT, gZ, gS] at z0 z1
      have B9 := qh (show Below w.heap.size w ((w4.setCell ⟨w.heap.size + 1, 0, none⟩ (.slice A5 m5 c5)).setCell ⟨w.heap.size + 1, 1, none⟩ (.slice A6 m6 c6)) from (B4.out.setCell (by show w.heap.size ≤ w.heap.size + 1; omega) _).setCell (by show w.heap.size ≤ w.heap.size + 1; omega) _)
      have K9 := qh ((KeepTU.set_ R4.out (by decide) (by decide) (by decide) 0 (.slice A5 m5 c5)).trans (KeepTU.set_ (R4.out.set_ 0 (.slice A5 m5 c5)) (by decide) (by decide) (by decide) 1 (.slice A6 m6 c6)))
      go_wp2_with fail
      refine bodyPost_ret (v := .tuple #[.agg #[.slice A5 m5 c5, .slice A6 m6 c6], .bool true]) (by simp [results, Tryz.results19, go_sem, z0, z1]) rfl ?_
      rw [Hbat.out]
      exact ⟨A5, m5, c5, A6, m6, c6, rfl, O4.out.keepTU K9.out, B9.out⟩
    | false =>
      have Hbat := qh (show ballP room us ts g = (room, us, false) from by unfold ballP; rw [if_pos Hok.out, if_neg (by rw [hz]; simp)])
      clear hz
      have y0 := X4.out.cell 0
      have y1 := X4.out.cell 1
      simp only [gT, gZ, gS] at y0 y1
      go_wp2_with fail
      refine (copyOfC_any A1 A2 n1 c1 n2 c2 room us w4 C4.out HS.out (by omega)).mono ?_; rintro e w5 ⟨A7, c7, A8, c8, rfl, hoc, hb5⟩
      have B5 := qh (B4.out.trans (hb5.mono ls4))
      have R5 := qh (R4.out.below hb5 R4.out.lt)
      have O5 := qh (hoc.low ls4)
      clear hoc hb5 B4 X4 R4 C4 O4 y0 y1 Z4
      have r1 := R5.out.cell 0
      have r2 := R5.out.cell 1
      simp only [gT, gZ, gS] at r1 r2
      have f0 := R5.out.frozen 0
      have f1 := R5.out.frozen 1
      have R9 := qh ((R5.out.set_ 0 (.slice A7 n1 c7)).set_ 1 (.slice A8 n2 c8))
      have z0 := R9.out.cell 0
      have z1 := R9.out.cell 1
      simp only [pS, pZ, pC, gT, gZ, gS] at z0 z1
      have B9 := qh (show Below w.heap.size w ((w5.setCell ⟨w.heap.size + 1, 0, none⟩ (.slice A7 n1 c7)).setCell ⟨w.heap.size + 1, 1, none⟩ (.slice A8 n2 c8)) from (B5.out.setCell (by show w.heap.size ≤ w.heap.size + 1; omega) _).setCell (by show w.heap.size ≤ w.heap.size + 1; omega) _)
      have K9 := qh ((KeepTU.set_ R5.out (by decide) (by decide) (by decide) 0 (.slice A7 n1 c7)).trans (KeepTU.set_ (R5.out.set_ 0 (.slice A7 n1 c7)) (by decide) (by decide) (by decide) 1 (.slice A8 n2 c8)))
      go_wp2_with fail
      refine bodyPost_ret (v := .tuple #[.agg #[.slice A7 n1 c7, .slice A8 n2 c8], .bool false]) (by simp [results, Tryz.results19, go_sem, z0, z1]) rfl ?_
      rw [Hbat.out]
      exact ⟨A7, n1, c7, A8, n2, c8, rfl, O5.out.keepTU K9.out, B9.out⟩

set_option maxRecDepth 100000 in
set_option maxHeartbeats 6400000 in
theorem batchNeedI_any (A1 A2 A : Option Addr) (n1 c1 n2 c2 n c : Nat) (room : List Int) (us : List Un) (ts : List Tk) (w : World) (h : RdC w A1 A2 n1 n2 room us) (hs : ShV us) (ht : RdT w w.heap.size A n ts) :
    Calls Tryz.prog 15 #[.agg #[.slice A1 n1 c1, .slice A2 n2 c2], .slice A n c] w fun e w' => e = .returned (.int .i64 (needP room us ts)) ∧ Below w.heap.size w w' := by
  have al0 := alloc_up w (.cells #[.slice A1 n1 c1, .slice A2 n2 c2] 26)
  have B0 := qh al0
  have X0 := qh (Blk.new w 26 #[.slice A1 n1 c1, .slice A2 n2 c2])
  have C0 := qh (h.up al0)
  have T0 := qh (ht.up al0)
  have Hs := qh hs
  have hn1 := h.a.len
  clear al0 h hs ht
  have x0 := X0.out.cell 0
  have x1 := X0.out.cell 1
  simp only [gT, gZ, gS] at x0 x1
  go_enter Tryz.func15, Tryz.ntmps15
  go_wp2_with fail
  have ls0 := B0.out.size
  generalize hgb : w.heap.size = gb at X0 ⊢
  generalize w.alloc (.cells #[.slice A1 n1 c1, .slice A2 n2 c2] 26) = w0 at B0 X0 C0 T0 x0 x1 ls0 ⊢
  refine (batchValid_any A1 A2 A n1 c1 n2 c2 n c 0 room us ts w0 C0.out Hs.out T0.out).mono ?_; rintro e w1 ⟨rfl, hb1⟩
  have B1 := qh (B0.out.trans (hb1.mono ls0))
  have X1 := qh (X0.out.below hb1 X0.out.lt)
  have C1 := qh (C0.out.up hb1)
  have T1 := qh (T0.out.up hb1)
  have ls1 := B1.out.size
  clear hb1 B0 X0 C0 T0 x0 x1 ls0
  cases hok : bokP room us ts 0 with
  | false =>
    have Hn := qh (show needP room us ts = -1 from by unfold needP; rw [if_neg (by rw [hok]; simp)])
    clear hok
    go_wp2_with fail
    go_ret
    exact ⟨ret_int Hn.out.symm, B1.out⟩
  | true =>
    have Hn := qh (show needP room us ts = needF room us ts 11 0 from by unfold needP; rw [if_pos hok])
    have hcok := (bok_iff.1 hok).1
    have hto := qh (bok_iff.1 hok).2.1
    have HS := qh (clOk_sh hcok)
    have HC := qh hcok
    have hr3 : room.length = 3 := (clOk_facts hcok).1
    clear hok hcok
    go_wp2_with fail
    go_loopw [13] (fun kv wr => ∃ k : Nat, kv = .int .i64 (k : Nat) ∧ k ≤ 11 ∧ needF room us ts (11 - k) k = needF room us ts 11 0 ∧ Below w.heap.size w wr ∧ Blk wr gb 26 #[.slice A1 n1 c1, .slice A2 n2 c2] ∧ RdC wr A1 A2 n1 n2 room us ∧ RdT wr wr.heap.size A n ts) (fun kv _ => 11 - (intOf kv).toNat)
    case atStart => exact ⟨0, rfl, by omega, rfl, B1.out, X1.out, C1.out, T1.out⟩
    case round =>
      clear B1 X1 C1 T1 ls1
      obtain ⟨k, rfl, hk, hnf, hb, hx, hc, ht⟩ := hrel
      have B := qh hb
      have X := qh hx
      have C := qh hc
      have TT := qh ht
      have NF := qh hnf
      have ls := hb.size
      clear hb hx hc ht hnf
      by_cases hlt : k < 11
      · have t1 : decide ((k : Int) < 11) = true := decide_eq_true (by omega)
        have v1 : IntKind.i64.wrap ((k : Int) + 1) = (k : Int) + 1 := wr64 (by omega) (by omega)
        have x0 := X.out.cell 0
        have x1 := X.out.cell 1
        simp only [gT, gZ, gS] at x0 x1
        obtain ⟨r, hr⟩ : ∃ r, 11 - k = r + 1 := ⟨10 - k, by omega⟩
        have Hr := qh hr
        clear hr
        go_wp2_with fail
        refine (copyOfC_any A1 A2 n1 c1 n2 c2 room us wr C.out HS.out (by omega)).mono ?_; rintro e w2 ⟨A3, c3, A4, c4, rfl, hoc, hb2⟩
        have B2 := qh (B.out.trans (hb2.mono ls))
        have X2 := qh (X.out.below hb2 X.out.lt)
        have C2 := qh (C.out.up hb2)
        have T2 := qh (TT.out.up hb2)
        have O2 := qh (hoc.low ls)
        have ls2 := B2.out.size
        clear hoc hb2 B X C TT x0 x1 ls
        go_wp2_with fail
        refine (batch_any w.heap.size A3 A4 A n1 c3 n2 c4 n c (k : Int) room us ts w2 ls2 O2.out T2.out (bok_iff.2 ⟨HC.out, hto.out, by omega, by omega⟩)).mono ?_; rintro e w3 ⟨A5, m5, c5, A6, m6, c6, bm, l, rfl, hoc, hm, hlk, hlb, hb3⟩
        have B3 := qh (B2.out.trans (hb3.mono ls2))
        have X3 := qh (X2.out.below hb3 X2.out.lt)
        have C3 := qh (C2.out.up hb3)
        have T3 := qh (T2.out.up hb3)
        have ls3 := B3.out.size
        clear hoc hm hlk hb3 B2 X2 C2 T2 O2
        have al := alloc_up w3 (.cells #[.slice A5 m5 c5, .slice A6 m6 c6] 26)
        have B4 := qh (B3.out.trans (al.mono ls3))
        have X4 := qh (X3.out.below al X3.out.lt)
        have C4 := qh (C3.out.up al)
        have T4 := qh (T3.out.up al)
        clear al B3 X3 C3 T3
        cases hz : zeroP (batR room us ts (k : Int)).2 with
        | true =>
          have Hz := qh (show needF room us ts 11 0 = (k : Int) from by rw [← NF.out, Hr.out, needF, if_pos hz])
          clear hz
          go_wp2_with fail
          go_ret
          exact ⟨ret_int (by rw [Hn.out, Hz.out]), B4.out⟩
        | false =>
          have Hz := qh (show needF room us ts (11 - (k + 1)) (k + 1) = needF room us ts 11 0 from by
            rw [← NF.out, Hr.out, needF, if_neg (by rw [hz]; simp)]
            congr 1
            have := Hr.out
            omega)
          clear hz
          go_wp2_with fail
          go_roundw
          case measure => simp [intOf]; omega
          case rel => exact ⟨k + 1, by go_num, by omega, Hz.out, B4.out, X4.out, C4.out, T4.out⟩
      · obtain rfl : k = 11 := by omega
        have Hz := qh (show needF room us ts 11 0 = -1 from by rw [← NF.out]; rfl)
        clear NF
        go_wp2_with fail
        go_ret
        exact ⟨ret_int (by rw [Hn.out, Hz.out]), B.out⟩
end Go.Proofs.YtjjnbbkdjimcoaaGreat
