/- Walks (the reference): BatchAll and BatchNeed. -/
import Derived.Test.YtjjnbbkdjimcoaaGreatBatchT
namespace Go.Proofs.YtjjnbbkdjimcoaaGreat
set_option linter.unusedSimpArgs false
set_option linter.unusedVariables false
open Go Go.RowKit
attribute [local go_sem ↓] Go.wp_at_zero Go.wp_at_succ

theorem zero_at {cs : List Int} {k : Nat} (hk : k < cs.length) (h : cs[k]?.getD 0 ≠ 0) : zeroP cs = false := by
  rw [Bool.eq_false_iff]
  intro hz
  exact h (by rw [List.getElem?_eq_getElem hk]; exact zero_iff.1 hz _ (List.getElem_mem hk))
theorem zero_all {cs : List Int} (h : ∀ j, j < cs.length → cs[j]?.getD 0 = 0) : zeroP cs = true := zero_iff.2 (fun c hc => by
  obtain ⟨j, hj, he⟩ := List.getElem_of_mem hc
  have := h j hj
  rw [List.getElem?_eq_getElem hj, he] at this
  exact this)

set_option maxRecDepth 100000 in
set_option maxHeartbeats 3200000 in
theorem batchAllS_any (A1 A2 A : Option Addr) (n1 c1 n2 c2 n c : Nat) (g : Int) (room : List Int) (us : List Un) (ts : List Tk) (w : World) (h : RdC w A1 A2 n1 n2 room us) (hs : ShV us) (ht : RdT w w.heap.size A n ts) :
    Calls Tryz.prog 34 #[.agg #[.slice A1 n1 c1, .slice A2 n2 c2], .slice A n c, .int .i64 g] w fun e w' => ∃ A3 m3 c3 A4 m4 c4, e = .returned (.tuple #[.agg #[.slice A3 m3 c3, .slice A4 m4 c4], .bool (ballP room us ts g).2.2]) ∧
      OwnCR w' w.heap.size (.slice A3 m3 c3) (.slice A4 m4 c4) m3 m4 (ballP room us ts g).1 (ballP room us ts g).2.1 ∧ Below w.heap.size w w' := by
  have al0 := alloc_up w (.cells #[.slice A1 n1 c1, .slice A2 n2 c2] 26)
  have B0 := qh (al0.alloc al0.size (.cells #[.slice none 0 0, .slice none 0 0] 26))
  have X0 := qh ((Blk.new w 26 #[.slice A1 n1 c1, .slice A2 n2 c2]).alloc (.cells #[.slice none 0 0, .slice none 0 0] 26))
  have r0 := Blk.new (w.alloc (.cells #[.slice A1 n1 c1, .slice A2 n2 c2] 26)) 26 #[.slice none 0 0, .slice none 0 0]
  rw [World.size_alloc] at r0
  have R0 := qh r0
  have C0 := qh (h.up B0.out)
  have T0 := qh (ht.up B0.out)
  have Hs := qh hs
  have Hl := qh ht.len
  clear al0 r0 h hs ht
  have x0 := X0.out.cell 0
  have x1 := X0.out.cell 1
  simp only [gT, gZ, gS] at x0 x1
  go_enter Tryz.func34, Tryz.ntmps34
  go_wp2_with fail
  have ls0 := B0.out.size
  generalize (w.alloc (.cells #[.slice A1 n1 c1, .slice A2 n2 c2] 26)).alloc (.cells #[.slice none 0 0, .slice none 0 0] 26) = w0 at B0 X0 R0 C0 T0 x0 x1 ls0 ⊢
  refine (l22Ok_any A1 A2 A n1 c1 n2 c2 n c g room us ts w0 C0.out Hs.out T0.out).mono ?_; rintro e w1 ⟨rfl, hb1⟩
  have B1 := qh (B0.out.trans (hb1.mono ls0))
  have X1 := qh (X0.out.below hb1 X0.out.lt)
  have R1 := qh (R0.out.below hb1 R0.out.lt)
  have C1 := qh (C0.out.up hb1)
  have T1 := qh (T0.out.up hb1)
  have ls1 := B1.out.size
  clear hb1 B0 X0 R0 C0 T0 x0 x1 ls0
  cases hok : bokP room us ts g with
  | false =>
    have Hbat := qh (show ballP room us ts g = ([], [], false) from by unfold ballP; rw [if_neg (by rw [hok]; simp)])
    clear hok
    have r1 := R1.out.cell 0
    have r2 := R1.out.cell 1
    simp only [gT, gZ, gS] at r1 r2
    have f0 := R1.out.frozen 0
    have f1 := R1.out.frozen 1
    have R9 := qh ((R1.out.set_ 0 (.slice none 0 0)).set_ 1 (.slice none 0 0))
    have z0 := R9.out.cell 0
    have z1 := R9.out.cell 1
    simp only [pS, pZ, pC, gT, gZ, gS] at z0 z1
    have B9 := qh (show Below w.heap.size w ((w1.setCell ⟨w.heap.size + 1, 0, none⟩ (.slice none 0 0)).setCell ⟨w.heap.size + 1, 1, none⟩ (.slice none 0 0)) from (B1.out.setCell (by show w.heap.size ≤ w.heap.size + 1; omega) _).setCell (by show w.heap.size ≤ w.heap.size + 1; omega) _)
    go_wp2_with fail
    refine bodyPost_ret (v := .tuple #[.agg #[.slice none 0 0, .slice none 0 0], .bool false]) (by simp [results, Tryz.results34, go_sem, z0, z1]) rfl ?_
    rw [Hbat.out]
    exact ⟨none, 0, 0, none, 0, 0, rfl, OwnCR.none, B9.out⟩
  | true =>
    have Hok := qh hok
    have hcok := (bok_iff.1 hok).1
    have hto := (bok_iff.1 hok).2.1
    have Hbd := qh (show batP room us ts g = (room, (batR room us ts g).1, toldP ts (sortP ts) (batR room us ts g).2) from by unfold batP; rw [if_pos hok])
    have Hz := qh (bat_zero (us := us) (g := g) hto)
    have HS := qh (clOk_sh hcok)
    have hr3 : room.length = 3 := (clOk_facts hcok).1
    have hn14 : n ≤ 14 := by rw [← Hl.out]; unfold tasksOk at hto; simp only [Bool.and_eq_true, decide_eq_true_eq] at hto; exact hto.1.1.2
    have hn1 := C1.out.a.len
    clear hok hcok hto
    have x0 := X1.out.cell 0
    have x1 := X1.out.cell 1
    simp only [gT, gZ, gS] at x0 x1
    go_wp2_with fail
    refine (batchDoS_any A1 A2 A n1 c1 n2 c2 n c g room us ts w1 C1.out Hs.out T1.out).mono ?_; rintro e w2 ⟨A3, m3, c3, A4, m4, c4, A5, m5, c5, rfl, hrc, hri, hb2⟩
    rw [Hbd.out] at hrc hri
    dsimp only at hrc hri
    have B2 := qh (B1.out.trans (hb2.mono ls1))
    have X2 := qh (X1.out.below hb2 X1.out.lt)
    have R2 := qh (R1.out.below hb2 R1.out.lt)
    have C2 := qh (C1.out.up hb2)
    have O2 := qh (hrc.low ls1)
    have I2 := qh hri
    have ls2 := B2.out.size
    have hm5 : m5 = n := by rw [← hri.len, told_len]; exact Hl.out
    subst hm5
    clear hrc hri hb2 B1 X1 R1 C1 T1 x0 x1
    have al := alloc_up w2 (.cells #[.slice A3 m3 c3, .slice A4 m4 c4] 26)
    have B4 := qh (B2.out.trans (al.mono ls2))
    have X4 := qh (X2.out.below al X2.out.lt)
    have R4 := qh (R2.out.below al R2.out.lt)
    have C4 := qh (C2.out.up al)
    have O4 := qh (O2.out.keepTU (KeepTU.up al))
    have I4 := qh (I2.out.up al)
    have Z4 := qh (Blk.new w2 26 #[.slice A3 m3 c3, .slice A4 m4 c4])
    have ls4 := B4.out.size
    clear al B2 X2 R2 C2 O2 I2
    generalize htold : toldP ts (sortP ts) (batR room us ts g).2 = told at Hz I4
    have lt : told.length = m5 := by rw [← htold, told_len]; exact Hl.out
    have Ht := qh htold
    have Lt := qh lt
    clear htold lt
    go_upto_region 4 with fail
    generalize w2.heap.size = bz at Z4 ls2 ⊢
    generalize w2.alloc (.cells #[.slice A3 m3 c3, .slice A4 m4 c4] 26) = w4 at B4 X4 R4 C4 O4 I4 Z4 ls4 ⊢
    go_wp2_with fail
    go_loop [10] (fun kv => ∃ k : Nat, kv = .int .i64 (k : Nat) ∧ k ≤ m5 ∧ ∀ j, j < k → told[j]?.getD 0 = 0) (fun kv => m5 - (intOf kv).toNat)
    case atStart => exact ⟨0, rfl, Nat.zero_le _, fun j hj => by omega⟩
    case round =>
      obtain ⟨k, rfl, hk, hall⟩ := hrel
      have Hall := qh hall
      clear hall
      by_cases hlt : k < m5
      · have q1 : (0 : Int) ≤ (k : Int) := by omega
        have q2 : (k : Int) < (m5 : Int) := by omega
        have v1 : IntKind.i64.wrap ((k : Int) + 1) = (k : Int) + 1 := wr64 (by omega) (by omega)
        obtain ⟨b, o, rfl, lb, d1⟩ := I4.out.at_ hlt
        by_cases hz : told[k]?.getD 0 = 0
        · have HZ := qh hz
          rw [hz] at d1
          have t1 : ((0 : Int) != 0) = false := by simp
          clear hz
          go_wp2_with fail
          go_round
          case rel => exact ⟨k + 1, by go_num, by omega, fun j hj => by
            by_cases e : j = k
            · rw [e]; exact HZ.out
            · exact Hall.out j (by omega)⟩
          case measure => simp [intOf]; omega
        · have hzf : zeroP (batR room us ts g).2 = false := by rw [← Hz.out]; exact zero_at (by have := Lt.out; omega) hz
          have Hbat := qh (show ballP room us ts g = (room, us, false) from by unfold ballP; rw [if_pos Hok.out, if_neg (by rw [hzf]; simp)])
          have t1 : (told[k]?.getD 0 != 0) = true := by simpa using hz
          clear hz hzf
          generalize told[k]?.getD 0 = tk at *
          have y0 := X4.out.cell 0
          have y1 := X4.out.cell 1
          simp only [gT, gZ, gS] at y0 y1
          go_wp2_with fail
          refine (l21Copy_any A1 A2 n1 c1 n2 c2 room us w4 C4.out HS.out (by omega)).mono ?_; rintro e w5 ⟨A7, c7, A8, c8, rfl, hoc, hb5⟩
          have B5 := qh (B4.out.trans (hb5.mono ls4))
          have R5 := qh (R4.out.below hb5 R4.out.lt)
          have O5 := qh (OwnCR.of hoc)
          have ls5 := ls4
          clear hoc hb5 B4 X4 R4 C4 O4 y0 y1 Z4 I4
          have O9 := qh (O5.out.keepTU ((KeepTU.set_ R5.out (by decide) (by decide) (by decide) 0 (.slice A7 n1 c7)).trans (KeepTU.set_ (R5.out.set_ 0 (.slice A7 n1 c7)) (by decide) (by decide) (by decide) 1 (.slice A8 n2 c8))))
          have r1 := R5.out.cell 0
          have r2 := R5.out.cell 1
          simp only [gT, gZ, gS] at r1 r2
          have f0 := R5.out.frozen 0
          have f1 := R5.out.frozen 1
          have R9 := qh ((R5.out.set_ 0 (.slice A7 n1 c7)).set_ 1 (.slice A8 n2 c8))
          have z0 := R9.out.cell 0
          have z1 := R9.out.cell 1
          simp only [pS, pZ, pC, gT, gZ, gS] at z0 z1
          have B9 := qh (show Below w.heap.size w ((w5.setCell ⟨w.heap.size + 1, 0, none⟩ (.slice A7 n1 c7)).setCell ⟨w.heap.size + 1, 1, none⟩ (.slice A8 n2 c8)) from (B5.out.setCell (by show w.heap.size ≤ w.heap.size + 1; omega) _).setCell (by show w.heap.size ≤ w.heap.size + 1; omega) _)
          go_wp2_with fail
          refine bodyPost_ret (v := .tuple #[.agg #[.slice A7 n1 c7, .slice A8 n2 c8], .bool false]) (by simp [results, Tryz.results34, go_sem, z0, z1]) rfl ?_
          rw [Hbat.out]
          exact ⟨A7, n1, c7, A8, n2, c8, rfl, O9.out.low ls5, B9.out⟩
      · obtain rfl : k = m5 := by omega
        have hzt : zeroP (batR room us ts g).2 = true := by rw [← Hz.out]; exact zero_all (fun j hj => Hall.out j (by have := Lt.out; omega))
        have Hbat := qh (show ballP room us ts g = (room, (batR room us ts g).1, true) from by unfold ballP; rw [if_pos Hok.out, if_pos hzt])
        clear hzt
        have y0 := Z4.out.cell 0
        have y1 := Z4.out.cell 1
        simp only [gT, gZ, gS] at y0 y1
        have r1 := R4.out.cell 0
        have r2 := R4.out.cell 1
        simp only [gT, gZ, gS] at r1 r2
        have f0 := R4.out.frozen 0
        have f1 := R4.out.frozen 1
        have R9 := qh ((R4.out.set_ 0 (.slice A3 m3 c3)).set_ 1 (.slice A4 m4 c4))
        have z0 := R9.out.cell 0
        have z1 := R9.out.cell 1
        simp only [pS, pZ, pC, gT, gZ, gS] at z0 z1
        have B9 := qh (show Below w.heap.size w ((w4.setCell ⟨w.heap.size + 1, 0, none⟩ (.slice A3 m3 c3)).setCell ⟨w.heap.size + 1, 1, none⟩ (.slice A4 m4 c4)) from (B4.out.setCell (by show w.heap.size ≤ w.heap.size + 1; omega) _).setCell (by show w.heap.size ≤ w.heap.size + 1; omega) _)
        go_wp2_with fail
        refine bodyPost_ret (v := .tuple #[.agg #[.slice A3 m3 c3, .slice A4 m4 c4], .bool true]) (by simp [results, Tryz.results34, go_sem, z0, z1]) rfl ?_
        rw [Hbat.out]
        exact ⟨A3, m3, c3, A4, m4, c4, rfl, O4.out.keepTU ((KeepTU.set_ R4.out (by decide) (by decide) (by decide) 0 (.slice A3 m3 c3)).trans (KeepTU.set_ (R4.out.set_ 0 (.slice A3 m3 c3)) (by decide) (by decide) (by decide) 1 (.slice A4 m4 c4))), B9.out⟩

set_option maxRecDepth 100000 in
set_option maxHeartbeats 3200000 in
theorem batchNeedS_any (A1 A2 A : Option Addr) (n1 c1 n2 c2 n c : Nat) (room : List Int) (us : List Un) (ts : List Tk) (w : World) (h : RdC w A1 A2 n1 n2 room us) (hs : ShV us) (ht : RdT w w.heap.size A n ts) :
    Calls Tryz.prog 16 #[.agg #[.slice A1 n1 c1, .slice A2 n2 c2], .slice A n c] w fun e w' => e = .returned (.int .i64 (needP room us ts)) ∧ Below w.heap.size w w' := by
  have al0 := alloc_up w (.cells #[.slice A1 n1 c1, .slice A2 n2 c2] 26)
  have B0 := qh al0
  have X0 := qh (Blk.new w 26 #[.slice A1 n1 c1, .slice A2 n2 c2])
  have C0 := qh (h.up al0)
  have T0 := qh (ht.up al0)
  have Hs := qh hs
  clear al0 h hs ht
  go_enter Tryz.func16, Tryz.ntmps16
  go_wp2_with fail
  generalize hgb : w.heap.size = gb at X0 ⊢
  generalize w.alloc (.cells #[.slice A1 n1 c1, .slice A2 n2 c2] 26) = w0 at B0 X0 C0 T0 ⊢
  go_loopw [5] (fun kv wr => ∃ k : Nat, kv = .int .i64 (k : Nat) ∧ k ≤ 11 ∧ (k = 0 ∨ bokP room us ts 0 = true) ∧ needF room us ts (11 - k) k = needF room us ts 11 0 ∧ Below w.heap.size w wr ∧ Blk wr gb 26 #[.slice A1 n1 c1, .slice A2 n2 c2] ∧ RdC wr A1 A2 n1 n2 room us ∧ RdT wr wr.heap.size A n ts) (fun kv _ => 11 - (intOf kv).toNat)
  case atStart => exact ⟨0, rfl, by omega, .inl rfl, rfl, B0.out, X0.out, C0.out, T0.out⟩
  case round =>
    clear B0 X0 C0 T0
    obtain ⟨k, rfl, hk, hk0, hnf, hb, hx, hc, ht⟩ := hrel
    have B := qh hb
    have X := qh hx
    have C := qh hc
    have TT := qh ht
    have NF := qh hnf
    have HK := qh hk0
    have ls := hb.size
    clear hb hx hc ht hnf hk0
    by_cases hlt : k < 11
    · have t1 : decide ((k : Int) ≤ 10) = true := decide_eq_true (by omega)
      have v1 : IntKind.i64.wrap ((k : Int) + 1) = (k : Int) + 1 := wr64 (by omega) (by omega)
      have x0 := X.out.cell 0
      have x1 := X.out.cell 1
      simp only [gT, gZ, gS] at x0 x1
      have hbk : bokP room us ts (k : Int) = bokP room us ts 0 := by
        unfold bokP inR
        rw [decide_eq_true (show (0 : Int) ≤ (k : Int) by omega), decide_eq_true (show (k : Int) ≤ 10 by omega)]
        simp
      have HBK := qh hbk
      clear hbk
      go_wp2_with fail
      refine (l22Ok_any A1 A2 A n1 c1 n2 c2 n c (k : Int) room us ts wr C.out Hs.out TT.out).mono ?_; rintro e w1 ⟨rfl, hb1⟩
      rw [HBK.out]
      have B1 := qh (B.out.trans (hb1.mono ls))
      have X1 := qh (X.out.below hb1 X.out.lt)
      have C1 := qh (C.out.up hb1)
      have T1 := qh (TT.out.up hb1)
      have ls1 := B1.out.size
      clear hb1 B X C TT x0 x1 ls
      cases hok : bokP room us ts 0 with
      | false =>
        have Hn := qh (show needP room us ts = -1 from by unfold needP; rw [if_neg (by rw [hok]; simp)])
        clear hok
        go_wp2_with fail
        go_ret
        exact ⟨ret_int Hn.out.symm, B1.out⟩
      | true =>
        have Hn := qh (show needP room us ts = needF room us ts 11 0 from by unfold needP; rw [if_pos hok])
        have Hb := qh (show ballP room us ts (k : Int) = if zeroP (batR room us ts (k : Int)).2 = true then (room, (batR room us ts (k : Int)).1, true) else (room, us, false) from by unfold ballP; rw [if_pos (by rw [HBK.out]; exact hok)])
        have Hok := qh hok
        clear hok
        obtain ⟨r, hr⟩ : ∃ r, 11 - k = r + 1 := ⟨10 - k, by omega⟩
        have Hr := qh hr
        clear hr
        have x0 := X1.out.cell 0
        have x1 := X1.out.cell 1
        simp only [gT, gZ, gS] at x0 x1
        go_wp2_with fail
        refine (batchAllS_any A1 A2 A n1 c1 n2 c2 n c (k : Int) room us ts w1 C1.out Hs.out T1.out).mono ?_; rintro e w3 ⟨A3, m3, c3, A4, m4, c4, he, hoc, hb3⟩
        have B3 := qh (B1.out.trans (hb3.mono ls1))
        have X3 := qh (X1.out.below hb3 X1.out.lt)
        have C3 := qh (C1.out.up hb3)
        have T3 := qh (T1.out.up hb3)
        have ls3 := B3.out.size
        clear hoc hb3 B1 X1 C1 T1 x0 x1
        have al := alloc_up w3 (.cells #[.slice A3 m3 c3, .slice A4 m4 c4] 26)
        have B4 := qh (B3.out.trans (al.mono ls3))
        have X4 := qh (X3.out.below al X3.out.lt)
        have C4 := qh (C3.out.up al)
        have T4 := qh (T3.out.up al)
        clear al B3 X3 C3 T3
        rw [Hb.out] at he
        cases hz : zeroP (batR room us ts (k : Int)).2 with
        | true =>
          rw [hz, if_pos rfl] at he
          obtain rfl := he
          have Hz := qh (show needF room us ts 11 0 = (k : Int) from by rw [← NF.out, Hr.out, needF, if_pos hz])
          clear hz
          go_wp2_with fail
          go_ret
          exact ⟨ret_int (by rw [Hn.out, Hz.out]), B4.out⟩
        | false =>
          rw [hz, if_neg (by simp)] at he
          obtain rfl := he
          have Hz := qh (show needF room us ts (11 - (k + 1)) (k + 1) = needF room us ts 11 0 from by
            rw [← NF.out, Hr.out, needF, if_neg (by rw [hz]; simp)]
            congr 1
            have := Hr.out
            omega)
          clear hz
          go_wp2_with fail
          go_roundw
          case measure => simp [intOf]; omega
          case rel => exact ⟨k + 1, by go_num, by omega, .inr Hok.out, Hz.out, B4.out, X4.out, C4.out, T4.out⟩
    · obtain rfl : k = 11 := by omega
      have hok : bokP room us ts 0 = true := HK.out.resolve_left (by omega)
      have Hn := qh (show needP room us ts = -1 from by
        unfold needP
        rw [if_pos hok, ← NF.out]
        rfl)
      clear hok NF HK
      go_wp2_with fail
      go_ret
      exact ⟨ret_int Hn.out.symm, B.out⟩
end Go.Proofs.YtjjnbbkdjimcoaaGreat
