/- Walks: the program's BatchDo. -/
import Derived.Test.YtjjnbbkdjimcoaaGreatBatchI
namespace Go.Proofs.YtjjnbbkdjimcoaaGreat
set_option linter.unusedSimpArgs false
set_option linter.unusedVariables false
open Go Go.RowKit
attribute [local go_sem ↓] Go.wp_at_zero Go.wp_at_succ

theorem told_at {ts ss : List Tk} {cs : List Int} {k : Nat} (hk : k < ts.length) : (toldP ts ss cs)[k]? = some (lkP ss cs (gTk ts k).1) := by
  unfold toldP gTk
  rw [List.getElem?_map, List.getElem?_eq_getElem hk]
  rfl
theorem told_take {ts ss : List Tk} {cs : List Int} {k : Nat} (hk : k < ts.length) : ((toldP ts ss cs).take (k + 1)).map (Value.int .i64) = ((toldP ts ss cs).take k).map (Value.int .i64) ++ [.int .i64 (lkP ss cs (gTk ts k).1)] := by
  rw [List.take_add_one, told_at hk, List.map_append]
  rfl

theorem zeroInt (w : World) : (zeroValue 3).run Tryz.prog w = .ok (.int .i64 0) w := by kernel_rfl
set_option maxRecDepth 100000 in
set_option maxHeartbeats 6400000 in
theorem batchDoI_any (A1 A2 A : Option Addr) (n1 c1 n2 c2 n c : Nat) (g : Int) (room : List Int) (us : List Un) (ts : List Tk) (w : World) (h : RdC w A1 A2 n1 n2 room us) (hs : ShV us) (ht : RdT w w.heap.size A n ts) :
    Calls Tryz.prog 21 #[.agg #[.slice A1 n1 c1, .slice A2 n2 c2], .slice A n c, .int .i64 g] w fun e w' => ∃ A3 m3 c3 A4 m4 c4 A5 m5 c5 hi, e = .returned (.tuple #[.agg #[.slice A3 m3 c3, .slice A4 m4 c4], .slice A5 m5 c5]) ∧
      OwnC w' w.heap.size (.slice A3 m3 c3) (.slice A4 m4 c4) m3 m4 (batP room us ts g).1 (batP room us ts g).2.1 ∧ w'.ownsRow hi 3 1 (.slice A5 m5 c5) m5 ((batP room us ts g).2.2.map (Value.int .i64)) ∧ Below w.heap.size w w' ∧
      w.heap.size ≤ hi ∧ hi ≤ w'.heap.size ∧ (∃ w1, w1.heap.size = hi ∧ OwnC w1 w.heap.size (.slice A3 m3 c3) (.slice A4 m4 c4) m3 m4 (batP room us ts g).1 (batP room us ts g).2.1 ∧ KeepTU w1 w') := by
  obtain ⟨j0, hj0, jz0, jz1, jz2⟩ := info_parts ownI_info
  have al0 := alloc_up w (.cells #[.slice A1 n1 c1, .slice A2 n2 c2] 26)
  have B0 := qh (al0.alloc al0.size (.cells #[.slice none 0 0, .slice none 0 0] 26))
  have X0 := qh ((Blk.new w 26 #[.slice A1 n1 c1, .slice A2 n2 c2]).alloc (.cells #[.slice none 0 0, .slice none 0 0] 26))
  have r0 := Blk.new (w.alloc (.cells #[.slice A1 n1 c1, .slice A2 n2 c2] 26)) 26 #[.slice none 0 0, .slice none 0 0]
  rw [World.size_alloc] at r0
  have R0 := qh r0
  have C0 := qh (h.up B0.out)
  have T0 := qh (ht.up B0.out)
  have Hs := qh hs
  have Hl := qh ht.len
  clear al0 r0 h hs ht
  have x0 := X0.out.cell 0
  have x1 := X0.out.cell 1
  simp only [gT, gZ, gS] at x0 x1
  go_enter Tryz.func21, Tryz.ntmps21
  go_wp2_with fail
  have ls0 := B0.out.size
  generalize (w.alloc (.cells #[.slice A1 n1 c1, .slice A2 n2 c2] 26)).alloc (.cells #[.slice none 0 0, .slice none 0 0] 26) = w0 at B0 X0 R0 C0 T0 x0 x1 ls0 ⊢
  refine (batchValid_any A1 A2 A n1 c1 n2 c2 n c g room us ts w0 C0.out Hs.out T0.out).mono ?_; rintro e w1 ⟨rfl, hb1⟩
  have B1 := qh (B0.out.trans (hb1.mono ls0))
  have X1 := qh (X0.out.below hb1 X0.out.lt)
  have R1 := qh (R0.out.below hb1 R0.out.lt)
  have C1 := qh (C0.out.up hb1)
  have T1 := qh (T0.out.up hb1)
  have ls1 := B1.out.size
  clear hb1 B0 X0 R0 C0 T0 x0 x1 ls0
  cases hok : bokP room us ts g with
  | false =>
    have Hbat := qh (show batP room us ts g = ([], [], []) from by unfold batP; rw [if_neg (by rw [hok]; simp)])
    clear hok
    have r1 := R1.out.cell 0
    have r2 := R1.out.cell 1
    simp only [gT, gZ, gS] at r1 r2
    have f0 := R1.out.frozen 0
    have f1 := R1.out.frozen 1
    have R9 := qh ((R1.out.set_ 0 (.slice none 0 0)).set_ 1 (.slice none 0 0))
    have z0 := R9.out.cell 0
    have z1 := R9.out.cell 1
    simp only [pS, pZ, pC, gT, gZ, gS] at z0 z1
    have B9 := qh (show Below w.heap.size w ((w1.setCell ⟨w.heap.size + 1, 0, none⟩ (.slice none 0 0)).setCell ⟨w.heap.size + 1, 1, none⟩ (.slice none 0 0)) from (B1.out.setCell (by show w.heap.size ≤ w.heap.size + 1; omega) _).setCell (by show w.heap.size ≤ w.heap.size + 1; omega) _)
    go_wp2_with fail
    refine bodyPost_ret (v := .tuple #[.agg #[.slice none 0 0, .slice none 0 0], .slice none 0 0]) (by simp [results, Tryz.results21, go_sem, z0, z1]) rfl ?_
    rw [Hbat.out]
    exact ⟨none, 0, 0, none, 0, 0, none, 0, 0, w.heap.size, rfl, OwnC.none B9.out.size, ⟨rfl, .inl ⟨rfl, rfl⟩⟩, B9.out, Nat.le_refl _, B9.out.size, w, rfl, OwnC.none (Nat.le_refl _), fun b hb => by
      obtain ⟨t, cs, ht, hc⟩ := hb
      exact B9.out.block b hc.lt⟩
  | true =>
    have Hok := qh hok
    have hcok := (bok_iff.1 hok).1
    have hto := (bok_iff.1 hok).2.1
    have hn14 : n ≤ 14 := by rw [← Hl.out]; unfold tasksOk at hto; simp only [Bool.and_eq_true, decide_eq_true_eq] at hto; exact hto.1.1.2
    have Hbat := qh (show batP room us ts g = (room, (batR room us ts g).1, toldP ts (sortP ts) (batR room us ts g).2) from by unfold batP; rw [if_pos hok])
    have hSm := qh (sm_ok hto)
    have HS := qh (clOk_sh hcok)
    have hr3 : room.length = 3 := (clOk_facts hcok).1
    have x0 := X1.out.cell 0
    have x1 := X1.out.cell 1
    simp only [gT, gZ, gS] at x0 x1
    have hn1 := C1.out.a.len
    clear hok hto hcok
    go_wp2_with fail
    refine (copyOfC_any A1 A2 n1 c1 n2 c2 room us w1 C1.out HS.out (by omega)).mono ?_; rintro e w2 ⟨A3, c3, A4, c4, rfl, hoc, hb2⟩
    have B2 := qh (B1.out.trans (hb2.mono ls1))
    have R2 := qh (R1.out.below hb2 R1.out.lt)
    have T2 := qh (T1.out.up hb2)
    have O2 := qh (hoc.low ls1)
    have ls2 := B2.out.size
    clear hoc hb2 B1 X1 R1 C1 T1 x0 x1
    go_wp2_with fail
    refine (batch_any w.heap.size A3 A4 A n1 c3 n2 c4 n c g room us ts w2 ls2 O2.out T2.out Hok.out).mono ?_; rintro e w3 ⟨A5, m5, c5, A6, m6, c6, bm, l, rfl, hoc, hm, hlk, hlb, hb3⟩
    have B3 := qh (B2.out.trans (hb3.mono ls2))
    have R3 := qh (R2.out.below hb3 R2.out.lt)
    have T3 := qh (T2.out.up hb3)
    have O3 := qh hoc
    have M3 := qh hm
    have Hlk := qh hlk
    have ls3 := B3.out.size
    clear hoc hm hlk hb3 B2 R2 T2 O2
    -- the box of the result, the row of codes
    have al := alloc_up w3 (.cells #[.slice A5 m5 c5, .slice A6 m6 c6] 26)
    have B4 := qh (B3.out.trans (al.mono ls3))
    have R4 := qh (R3.out.below al R3.out.lt)
    have T4 := qh (T3.out.up al)
    have O4 := qh (O3.out.keepTU (KeepTU.up al))
    have M4 := qh (M3.out.below al M3.out.lt)
    have Z4 := qh (Blk.new w3 26 #[.slice A5 m5 c5, .slice A6 m6 c6])
    have s4 : (w3.alloc (.cells #[.slice A5 m5 c5, .slice A6 m6 c6] 26)).heap.size = w3.heap.size + 1 := World.size_alloc _ _
    have hmk := fun W : World => run_make (P := Tryz.prog) W 23 3 j0 _ Tryz.underlying23 hj0 jz0 .i64 .i64 0 n (by omega) (by omega) (by rw [jz2]; omega) (by omega)
    simp only [Int.toNat_natCast, Int.toNat_zero, jz1] at hmk
    have hcells : (madeCells (Value.int .i64 0).cells (n * 1)).size = n * 1 := size_madeCells _ _
    generalize madeCells (Value.int .i64 0).cells (n * 1) = mc at hmk hcells
    go_upto_region 5 with fail
    clear al B3 R3 T3 O3 M3
    obtain ⟨w4, hw4⟩ : ∃ w4, w4 = w3.alloc (.cells #[.slice A5 m5 c5, .slice A6 m6 c6] 26) := ⟨_, rfl⟩
    rw [← hw4] at B4 R4 T4 O4 M4 Z4 s4 ⊢
    have lz3 : w3.heap.size < w4.heap.size := by omega
    clear hw4
    generalize w3.heap.size = bz at Z4 lz3 ls3 s4 ⊢
    have al := alloc_up w4 (.cells mc 3)
    have hO5 := World.ownsRow_made (base := w4.heap.size) (e := 3) (size := 1) w4 mc n (Nat.le_refl _) (by unfold maxLen; omega) hcells
    rw [s4] at al hO5
    have O5 := qh hO5
    have F5 := qh al
    have S4 := qh s4
    have T4' := qh (show RdT w4 (bz + 1) A n ts from by have := T4.out; rwa [s4] at this)
    have hR4 : w.heap.size + 1 < bz + 1 := by have := R4.out.lt; omega
    have hM4 : bm < bz + 1 := by have := M4.out.lt; omega
    clear al hcells hmk hO5 s4 lz3 T4
    generalize w4.alloc (.cells mc 3) = w5 at O5 F5 ⊢
    go_wp2_with fail
    generalize htold : toldP ts (sortP ts) (batR room us ts g).2 = told at Hbat
    have HT := qh htold
    have lt : told.length = n := by rw [← htold, told_len]; exact Hl.out
    have LT := qh lt
    clear htold lt
    go_loopw [11, 34] (fun v kv wr => ∃ (k : Nat) (Ac : Option Addr) (cc : Nat), kv = .int .i64 (k : Nat) ∧ k ≤ n ∧ v = .slice Ac k cc ∧ wr.ownsRow (bz + 1) 3 1 (.slice Ac k cc) k ((told.take k).map (Value.int .i64)) ∧ Below (bz + 1) w4 wr ∧ bz + 1 ≤ wr.heap.size) (fun _ kv _ => n - (intOf kv).toNat)
    case atStart => exact ⟨0, _, _, rfl, Nat.zero_le _, rfl, O5.out, F5.out, by have := F5.out.size; have := S4.out; omega⟩
    case round =>
      clear O5 F5
      obtain ⟨k, Ac, cc, rfl, hk, rfl, ho, hb, lz⟩ := hrel
      have O := qh ho
      have B := qh hb
      clear ho hb
      by_cases hlt : k < n
      · have q1 : (0 : Int) ≤ (k : Int) := by omega
        have q2 : (k : Int) < (n : Int) := by omega
        have q3 : 0 ≤ (k : Int) * 2 := by omega
        have v1 : IntKind.i64.wrap ((k : Int) + 1) = (k : Int) + 1 := wr64 (by omega) (by omega)
        have hkl : k < ts.length := by have := Hl.out; omega
        obtain ⟨b, o, An, mn, cn, rfl, lb, d1, d2, hmn, hnd⟩ := (T4'.out.below B.out).at_ hlt
        change wr.cell? _ = some (.int .i64 (gTk ts k).1) at d1
        have Hlook := qh (Hlk.out (gTk ts k) (by unfold gTk; rw [List.getElem?_eq_getElem hkl]; exact List.getElem_mem hkl))
        have Et := qh (show (told.take (k + 1)).map (Value.int .i64) = (told.take k).map (Value.int .i64) ++ [.int .i64 (lkP (sortP ts) (batR room us ts g).2 (gTk ts k).1)] from by rw [← HT.out]; exact told_take hkl)
        clear hmn hnd
        generalize lkP (sortP ts) (batR room us ts g).2 (gTk ts k).1 = cd at *
        generalize (gTk ts k).1 = idk at *
        have al6 := alloc_up wr (.cells #[.int .i64 idk, .slice An mn cn] 43)
        have X6 := qh (Blk.new wr 43 #[.int .i64 idk, .slice An mn cn])
        have B6 := qh (B.out.trans (al6.mono lz))
        have O6 := qh (own_up' O.out al6)
        have l6 : bz + 1 ≤ (wr.alloc (.cells #[.int .i64 idk, .slice An mn cn] 43)).heap.size := by have := al6.size; omega
        clear al6 O B
        go_upto_region 8 with fail
        clear d1 d2
        generalize wr.heap.size = bx at X6 lz ⊢
        generalize wr.alloc (.cells #[.int .i64 idk, .slice An mn cn] 43) = w6 at X6 B6 O6 l6 ⊢
        have x0 := X6.out.cell 0
        simp only [gT, gZ] at x0
        have M6 := qh (M4.out.below B6.out hM4)
        have al7 := alloc_up w6 (.cells #[.int .i64 cd] 3)
        have B7 := qh (B6.out.trans (al7.mono l6))
        have O7 := qh (own_up' O6.out al7)
        have Xs := qh (lit1 w6 3 (.int .i64 cd))
        have l7 : bz + 1 ≤ (w6.alloc (.cells #[.int .i64 cd] 3)).heap.size := by have := al7.size; omega
        clear al7 B6 O6
        go_wp2_with (first
          | (at_lookup; go_loud (refine wpList_look rfl _ _ 67 rfl 3 3 Tryz.underlying67 Tryz.underlying3 _ (zeroInt w6) bm l rfl M6.out idk rfl (.int .i64 cd) (by rw [Hlook.out]; rfl) ?_))
          | (at_builtin; refine wpList_append_src _ rfl _ _ 23 rfl (bz + 1) 3 j0 _ 1 8 Tryz.underlying23 hj0 jz0 jz1 jz2 rfl (by omega) (.slice Ac k cc) k _ rfl O7.out (some ⟨w6.heap.size, 0, none⟩) 1 1 [.int .i64 cd] rfl Xs.out (one1 _ rfl) (by unfold maxLen; omega) (by omega) l7 ?_; intro v' w8 hown8 hgrow8 hat8; obtain ⟨Ac, cc, rfl⟩ := own_shape hown8))
        have B8 := qh (B7.out.grown hgrow8 l7 (fun r e => (O7.out.lt r e).1))
        have O8 := qh hown8
        have l8 : bz + 1 ≤ w8.heap.size := by have := hgrow8.size; omega
        clear hown8 hgrow8 hat8 B7 O7 Xs M6 x0 X6
        go_wp2_with fail
        go_roundw
        case measure => simp [intOf]; omega
        case rel => exact ⟨k + 1, Ac, cc, by go_num, by omega, rfl, by rw [Et.out]; exact O8.out, B8.out, l8⟩
      · obtain rfl : k = n := by omega
        have hte : told.take k = told := List.take_of_length_le (by have := LT.out; omega)
        have O5 := qh (show wr.ownsRow (bz + 1) 3 1 (.slice Ac k cc) k (told.map (Value.int .i64)) from by have := O.out; rwa [hte] at this)
        have lbz : bz < bz + 1 := by omega
        have Z5 := qh (Z4.out.below B.out lbz)
        have R5 := qh (R4.out.below B.out hR4)
        have C5 := qh (O4.out.keepTU (KeepTU.up (B.out.mono (by have := S4.out; omega))))
        have B5 := qh (B4.out.trans (B.out.mono (by omega)))
        have K5 := qh (show KeepTU w4 wr from KeepTU.up (B.out.mono (by have := S4.out; omega)))
        have y0 := Z5.out.cell 0
        have y1 := Z5.out.cell 1
        have r1 := R5.out.cell 0
        have r2 := R5.out.cell 1
        simp only [gT, gZ, gS] at y0 y1 r1 r2
        have f0 := R5.out.frozen 0
        have f1 := R5.out.frozen 1
        have R9 := qh ((R5.out.set_ 0 (.slice A5 m5 c5)).set_ 1 (.slice A6 m6 c6))
        have z0 := R9.out.cell 0
        have z1 := R9.out.cell 1
        simp only [pS, pZ, pC, gT, gZ, gS] at z0 z1
        have KS := (KeepTU.set_ R5.out (by decide) (by decide) (by decide) 0 (.slice A5 m5 c5)).trans (KeepTU.set_ (R5.out.set_ 0 (.slice A5 m5 c5)) (by decide) (by decide) (by decide) 1 (.slice A6 m6 c6))
        have K9 := qh KS
        have C9 := qh (C5.out.keepTU KS)
        have B9 := qh (show Below w.heap.size w ((wr.setCell ⟨w.heap.size + 1, 0, none⟩ (.slice A5 m5 c5)).setCell ⟨w.heap.size + 1, 1, none⟩ (.slice A6 m6 c6)) from (B5.out.setCell (by show w.heap.size ≤ w.heap.size + 1; omega) _).setCell (by show w.heap.size ≤ w.heap.size + 1; omega) _)
        have O9 := qh (own_keepTI O5.out (.inl rfl) KS.ti)
        have s9 : ((wr.setCell ⟨w.heap.size + 1, 0, none⟩ (.slice A5 m5 c5)).setCell ⟨w.heap.size + 1, 1, none⟩ (.slice A6 m6 c6)).heap.size = wr.heap.size := by simp [World.setCell]
        have S9 := qh s9
        clear KS s9
        go_wp2_with fail
        refine bodyPost_ret (v := .tuple #[.agg #[.slice A5 m5 c5, .slice A6 m6 c6], .slice Ac k cc]) (by simp [results, Tryz.results21, go_sem, z0, z1]) rfl ?_
        rw [Hbat.out]
        exact ⟨A5, m5, c5, A6, m6, c6, Ac, k, cc, bz + 1, rfl, C9.out, O9.out, B9.out, by omega, by rw [S9.out]; exact lz, w4, S4.out, O4.out, K5.out.trans K9.out⟩
end Go.Proofs.YtjjnbbkdjimcoaaGreat
