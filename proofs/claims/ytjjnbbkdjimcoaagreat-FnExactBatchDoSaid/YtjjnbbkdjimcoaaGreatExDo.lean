/- Walk: the exact law FnExactBatchDo. (Printed by gen_exba.py.) -/
import Derived.Test.YtjjnbbkdjimcoaaGreatExPlKitB
import Derived.Test.YtjjnbbkdjimcoaaGreatBaKit
import Derived.Test.YtjjnbbkdjimcoaaGreatBatchT
import Derived.Test.YtjjnbbkdjimcoaaGreatBatchD
import Derived.Deep.CutBlock
import Derived.Deep.DeepCutAuto
import Derived.Test.YtjjnbbkdjimcoaaGreatClMarkH
namespace Go.Proofs.YtjjnbbkdjimcoaaGreat
set_option linter.unusedVariables false
open Go Go.RowKit
attribute [local go_sem ↓] Go.wp_at_zero Go.wp_at_succ

theorem bat_sm {room : List Int} {us : List Un} {ts : List Tk} {g : Int} : SmU (batP room us ts g).2.1 ∧ (batP room us ts g).1.length ≤ 3 ∧ (batP room us ts g).2.2.length ≤ ts.length := by
  by_cases h : bokP room us ts g = true
  · obtain ⟨hc, ht, h0, h1⟩ := bok_iff.1 h
    rw [bat_yes hc ht h0 h1]
    exact ⟨smU_ok (bat_ok hc), Nat.le_of_eq (clOk_facts hc).1, Nat.le_of_eq (told_len ..)⟩
  · unfold batP
    rw [if_neg h]
    exact ⟨⟨by simp, fun u hu => by simp at hu⟩, by simp, by simp⟩

set_option maxRecDepth 100000 in
set_option maxHeartbeats 12800000 in
theorem exactBatchDo_walk (A1 A2 A3 : Option Addr) (n1 c1 n2 c2 n3 c3 : Nat) (gv : Int) (room : List Int) (us : List Un) (ts : List Tk) (w : World) (h : RdC w A1 A2 n1 n2 room us) (hq : RdT w w.heap.size A3 n3 ts) :
    Calls Tryz.prog 12 #[.agg #[.slice A1 n1 c1, .slice A2 n2 c2], .slice A3 n3 c3, .int .i64 gv] w fun e w' => e = .returned (.bool true) ∧ Below w.heap.size w w' := by
  have B_1 := qh (alloc_up w (.cells #[.slice A1 n1 c1, .slice A2 n2 c2] 49))
  have PC_1 := qh (Blk.new w 49 #[.slice A1 n1 c1, .slice A2 n2 c2])
  have Hl1 := qh h.a.len
  have Hl2 := qh h.b.len
  have Hl3 := qh hq.1
  have le1 := h.a.le
  have le2 := h.b.le
  have Hh := qh h
  have Hq0 := qh hq
  obtain ⟨po, pu, pc, hp⟩ : ∃ po pu pc, batP room us ts gv = (po, pu, pc) := ⟨_, _, _, rfl⟩
  have Hp := qh hp
  have hsm := bat_sm (room := room) (us := us) (ts := ts) (g := gv)
  rw [hp] at hsm
  obtain ⟨hsm, hq3, hpl⟩ := hsm
  dsimp only at hsm hq3 hpl
  have Hsm := qh hsm
  have Hq := qh (show ShU pu ∧ po.length ≤ 3 from ⟨hsm.sh, hq3⟩)
  have Hpl := qh hpl
  clear hp hsm hq3 hpl
  clear h hq
  go_enter Tryz.func12, Tryz.ntmps12
  have yPC0 := PC_1.out.cell 0
  have yPC1 := PC_1.out.cell 1
  simp only [gT, gZ, gS] at yPC0 yPC1
  go_wp2_with fail
  generalize w.alloc (.cells #[.slice A1 n1 c1, .slice A2 n2 c2] 49) = z1 at B_1 PC_1 yPC0 yPC1 ⊢
  refine (szCluster_any A1 A2 n1 c1 n2 c2 room us 1048576 z1 (Hh.out.up B_1.out) (by omega) (by omega)).mono ?_; rintro e v2 ⟨r1, rfl, hr1, hb⟩
  have B_2 := qh (below_to B_1.out hb)
  have PC_2 := qh (PC_1.out.below hb PC_1.out.lt)
  clear hb yPC0 yPC1 B_1 PC_1
  rcases hr1 with rfl | ⟨hr1, he1⟩
  · skip
    have yPC0 := PC_2.out.cell 0
    have yPC1 := PC_2.out.cell 1
    simp only [gT, gZ, gS] at yPC0 yPC1
    go_wp2_with fail
    go_ret
    exact ⟨rfl, B_2.out⟩
  have hr1n : ¬ r1 < 0 := by omega
  have hr1m : r1 ≤ 1048576 := by omega
  have He1 := qh he1
  clear he1
  have yPC0 := PC_2.out.cell 0
  have yPC1 := PC_2.out.cell 1
  simp only [gT, gZ, gS] at yPC0 yPC1
  go_wp2_with fail
  refine (szTaskS_any A3 n3 c3 ts r1 v2 (Hq0.out.up B_2.out) hr1 hr1m).mono ?_; rintro e v3 ⟨r2, rfl, hr2, hb⟩
  have B_3 := qh (below_to B_2.out hb)
  have PC_3 := qh (PC_2.out.below hb PC_2.out.lt)
  clear hb yPC0 yPC1 B_2 PC_2
  rcases hr2 with rfl | ⟨hr2, he2⟩
  · skip
    have yPC0 := PC_3.out.cell 0
    have yPC1 := PC_3.out.cell 1
    simp only [gT, gZ, gS] at yPC0 yPC1
    go_wp2_with fail
    go_ret
    exact ⟨rfl, B_3.out⟩
  have hr2n : ¬ r2 < 0 := by omega
  have Ht := qh (show n1 + totB (us.map (·.2)) ≤ 1048576 by have := He1.out; omega)
  have HtQ := qh (show totT ts ≤ 1048576 by omega)
  have ln1 : n1 ≤ 1048576 := by have := Ht.out; omega
  have ln3 : n3 ≤ 1048576 := by have := totT_ge ts; have := HtQ.out; have := Hl3.out; omega
  have hfl := totB_flat (us.map (·.2))
  have hml : (us.map (·.2)).length = us.length := List.length_map _
  have Hv := qh (show ShV us from ⟨by have := Ht.out; omega, by have := Ht.out; omega⟩)
  have ln2 : n2 ≤ 1048576 := by have := Hv.out.1; have := Hl2.out; omega
  clear he2 hfl hml
  have yPC0 := PC_3.out.cell 0
  have yPC1 := PC_3.out.cell 1
  simp only [gT, gZ, gS] at yPC0 yPC1
  go_wp2_with fail
  refine (toCluster_any A1 A2 n1 c1 n2 c2 room us v3 (Hh.out.up B_3.out) Ht.out).mono ?_; rintro e v4 ⟨k1, k2, rfl, o1, o2, hb⟩
  have B_4 := qh (below_to B_3.out hb)
  have PC_4 := qh (PC_3.out.below hb PC_3.out.lt)
  have M_4 := qh (show RdC v4 (some ⟨k1, 0, none⟩) (some ⟨k2, 0, none⟩) n1 n2 room us from ⟨o1.rd' Hl1.out (by omega), o2.rd Hl2.out (by omega)⟩)
  clear hb yPC0 yPC1 B_3 PC_3
  clear o1 o2
  have yPC0 := PC_4.out.cell 0
  have yPC1 := PC_4.out.cell 1
  simp only [gT, gZ, gS] at yPC0 yPC1
  go_wp2_with fail
  refine (toTaskS_any A3 n3 c3 ts v4 (Hq0.out.up B_4.out) HtQ.out).mono ?_; rintro e v5 ⟨rfl, o3, hb⟩
  have B_5 := qh (below_to B_4.out hb)
  have PC_5 := qh (PC_4.out.below hb PC_4.out.lt)
  have M_5 := qh (M_4.out.up hb)
  have N_5 := qh (o3.rd2 Hl3.out (by omega))
  clear hb yPC0 yPC1 B_4 PC_4 M_4
  clear o3
  have yPC0 := PC_5.out.cell 0
  have yPC1 := PC_5.out.cell 1
  simp only [gT, gZ, gS] at yPC0 yPC1
  go_wp2_with fail
  refine (batchDoS_any (some ⟨k1, 0, none⟩) (some ⟨k2, 0, none⟩) (some ⟨v4.heap.size, 0, none⟩) n1 n1 n2 n2 n3 n3 gv room us ts v5 M_5.out Hv.out N_5.out).mono ?_; rintro e v6 ⟨Aw1, p1, cw1, Aw2, p2, cw2, At, mt, ct, he, hoc, hco, hb⟩
  simp only [Hp.out] at hoc hco
  subst he
  have B_6 := qh (below_to B_5.out hb)
  have PC_6 := qh (PC_5.out.below hb PC_5.out.lt)
  have M_6 := qh (M_5.out.up hb)
  have N_6 := qh (N_5.out.up hb)
  have W_6 := qh (hoc.rd.toW)
  have V_6 := qh (RdV.mk hco (Nat.le_refl _))
  clear hb yPC0 yPC1 B_5 PC_5 M_5 N_5
  obtain ⟨lp1, lp2, _, _⟩ := hoc.len
  have lt := hco.len
  have Lp1 := qh lp1
  have Lp2 := qh lp2
  have Lt := qh lt
  clear hoc hco lp1 lp2 lt
  clear M_6 N_6
  have lvw : w.heap.size < v6.heap.size := PC_6.out.lt
  have al := alloc_up v6 (.cells #[.slice Aw1 p1 cw1, .slice Aw2 p2 cw2] 26)
  have B_7 := qh (below_to B_6.out al)
  have PC_7 := qh (PC_6.out.below al PC_6.out.lt)
  have W_7 := qh (W_6.out.up al)
  have V_7 := qh (V_6.out.up al)
  have hq := Blk.new v6 26 #[.slice Aw1 p1 cw1, .slice Aw2 p2 cw2]
  have PW_7 := qh hq
  clear al hq B_6 PC_6 W_6 V_6
  have yPC0 := PC_7.out.cell 0
  have yPC1 := PC_7.out.cell 1
  have yPW0 := PW_7.out.cell 0
  have yPW1 := PW_7.out.cell 1
  simp only [gT, gZ, gS] at yPC0 yPC1 yPW0 yPW1
  go_wp2_with fail
  generalize v6.alloc (.cells #[.slice Aw1 p1 cw1, .slice Aw2 p2 cw2] 26) = z7 at B_7 PC_7 W_7 V_7 PW_7 yPC0 yPC1 yPW0 yPW1 ⊢
  refine (toCluster_any A1 A2 n1 c1 n2 c2 room us z7 (Hh.out.up B_7.out) Ht.out).mono ?_; rintro e v8 ⟨g1, g2, rfl, o1, o2, hb⟩
  have lgw := PW_7.out.lt
  have l34 := hb.size
  have B_8 := qh (below_to B_7.out hb)
  have PC_8 := qh (PC_7.out.below hb PC_7.out.lt)
  have W_8 := qh (W_7.out.up hb)
  have V_8 := qh (V_7.out.up hb)
  have PW_8 := qh (PW_7.out.below hb PW_7.out.lt)
  have XI_8 := qh (Hl1.out ▸ o1.sw)
  have XN_8 := qh (Hl2.out ▸ o2.sw (by have := Ht.out; omega))
  have M_8 := qh (show RdC v8 (some ⟨g1, 0, none⟩) (some ⟨g2, 0, none⟩) n1 n2 room us from ⟨o1.rd' Hl1.out (by omega), o2.rd Hl2.out (by omega)⟩)
  clear hb yPC0 yPC1 yPW0 yPW1 B_7 PC_7 W_7 V_7 PW_7
  clear o1 o2
  have al := alloc_up v8 (.cells #[.slice (some ⟨g1, 0, none⟩) n1 n1, .slice (some ⟨g2, 0, none⟩) n2 n2] 26)
  have B_9 := qh (below_to B_8.out al)
  have PC_9 := qh (PC_8.out.below al PC_8.out.lt)
  have W_9 := qh (W_8.out.up al)
  have V_9 := qh (V_8.out.up al)
  have PW_9 := qh (PW_8.out.below al PW_8.out.lt)
  have XI_9 := qh (XI_8.out.up al)
  have XN_9 := qh (XN_8.out.up al)
  have M_9 := qh (M_8.out.up al)
  have hq := Blk.new v8 26 #[.slice (some ⟨g1, 0, none⟩) n1 n1, .slice (some ⟨g2, 0, none⟩) n2 n2]
  have Q0_9 := qh hq
  clear al hq B_8 PC_8 W_8 V_8 PW_8 XI_8 XN_8 M_8
  have yPC0 := PC_9.out.cell 0
  have yPC1 := PC_9.out.cell 1
  have yPW0 := PW_9.out.cell 0
  have yPW1 := PW_9.out.cell 1
  have yQ00 := Q0_9.out.cell 0
  have yQ01 := Q0_9.out.cell 1
  simp only [gT, gZ, gS] at yPC0 yPC1 yPW0 yPW1 yQ00 yQ01
  go_wp2_with fail
  generalize v8.alloc (.cells #[.slice (some ⟨g1, 0, none⟩) n1 n1, .slice (some ⟨g2, 0, none⟩) n2 n2] 26) = z9 at B_9 PC_9 W_9 V_9 PW_9 XI_9 XN_9 M_9 Q0_9 yPC0 yPC1 yPW0 yPW1 yQ00 yQ01 ⊢
  refine (toTaskS_any A3 n3 c3 ts z9 (Hq0.out.up B_9.out) HtQ.out).mono ?_; rintro e v10 ⟨rfl, o3, hb⟩
  have l56 := Q0_9.out.lt
  have l5 := hb.size
  have B_10 := qh (below_to B_9.out hb)
  have PC_10 := qh (PC_9.out.below hb PC_9.out.lt)
  have W_10 := qh (W_9.out.up hb)
  have V_10 := qh (V_9.out.up hb)
  have PW_10 := qh (PW_9.out.below hb PW_9.out.lt)
  have XI_10 := qh (XI_9.out.up hb)
  have XN_10 := qh (XN_9.out.up hb)
  have M_10 := qh (M_9.out.up hb)
  have Q0_10 := qh (Q0_9.out.below hb Q0_9.out.lt)
  have XT_10 := qh (Hl3.out ▸ o3.sw (fun j hj => Nat.le_trans (totT_need hj) HtQ.out))
  have N_10 := qh (o3.rd2 Hl3.out (by omega))
  clear hb yPC0 yPC1 yPW0 yPW1 yQ00 yQ01 B_9 PC_9 W_9 V_9 PW_9 XI_9 XN_9 M_9 Q0_9
  clear o3
  have yPC0 := PC_10.out.cell 0
  have yPC1 := PC_10.out.cell 1
  have yPW0 := PW_10.out.cell 0
  have yPW1 := PW_10.out.cell 1
  have yQ00 := Q0_10.out.cell 0
  have yQ01 := Q0_10.out.cell 1
  simp only [gT, gZ, gS] at yPC0 yPC1 yPW0 yPW1 yQ00 yQ01
  go_wp2_with fail
  refine (batchDoI_any (some ⟨g1, 0, none⟩) (some ⟨g2, 0, none⟩) (some ⟨z9.heap.size, 0, none⟩) n1 n1 n2 n2 n3 n3 gv room us ts v10 M_10.out Hv.out N_10.out).mono ?_; rintro e v11 ⟨Ag1, m1, cg1, Ag2, m2, cg2, Ak, mk, ck, hi, he, hoc, hown, hb, hh1, hh2, u1, hu1, hu2, hu3⟩
  simp only [Hp.out] at hoc hown hu2
  subst he
  obtain rfl : m1 = p1 := by have := hoc.len; have := Lp1.out; omega
  obtain rfl : m2 = p2 := by have := hoc.lenU; have := Lp2.out; omega
  obtain rfl : mk = mt := by have := own_len hown; have := Lt.out; omega
  have hbs := hb.size
  have hoh := (hu2.toH (by omega)).keepTU hu3
  rw [hu1] at hoh
  have B_11 := qh (below_to B_10.out hb)
  have PC_11 := qh (PC_10.out.below hb PC_10.out.lt)
  have W_11 := qh (W_10.out.up hb)
  have V_11 := qh (V_10.out.up hb)
  have PW_11 := qh (PW_10.out.below hb PW_10.out.lt)
  have XI_11 := qh (XI_10.out.up hb)
  have XN_11 := qh (XN_10.out.up hb)
  have M_11 := qh (M_10.out.up hb)
  have Q0_11 := qh (Q0_10.out.below hb Q0_10.out.lt)
  have XT_11 := qh (XT_10.out.up hb)
  have N_11 := qh (N_10.out.up hb)
  have O_11 := qh (OwWH.mk hoh hbs hh2)
  have K_11 := qh (OwR.mk hown hh2)
  clear hb yPC0 yPC1 yPW0 yPW1 yQ00 yQ01 B_10 PC_10 W_10 V_10 PW_10 XI_10 XN_10 M_10 Q0_10 XT_10 N_10
  clear hoc hown hoh hu1 hu2 hu3
  have al := alloc_up v11 (.cells #[.slice Ag1 m1 cg1, .slice Ag2 m2 cg2] 26)
  have B_12 := qh (below_to B_11.out al)
  have PC_12 := qh (PC_11.out.below al PC_11.out.lt)
  have W_12 := qh (W_11.out.up al)
  have V_12 := qh (V_11.out.up al)
  have PW_12 := qh (PW_11.out.below al PW_11.out.lt)
  have XI_12 := qh (XI_11.out.up al)
  have XN_12 := qh (XN_11.out.up al)
  have M_12 := qh (M_11.out.up al)
  have Q0_12 := qh (Q0_11.out.below al Q0_11.out.lt)
  have XT_12 := qh (XT_11.out.up al)
  have N_12 := qh (N_11.out.up al)
  have O_12 := qh (O_11.out.up al)
  have K_12 := qh (K_11.out.up al)
  have hq := Blk.new v11 26 #[.slice Ag1 m1 cg1, .slice Ag2 m2 cg2]
  have PG_12 := qh hq
  clear al hq B_11 PC_11 W_11 V_11 PW_11 XI_11 XN_11 M_11 Q0_11 XT_11 N_11 O_11 K_11
  have hp3 : m1 ≤ 3 := by have := Lp1.out; have := Hq.out.2; omega
  have lmk : mk ≤ 1048576 := by have := Lt.out; have := Hpl.out; have := Hl3.out; omega
  have yPC0 := PC_12.out.cell 0
  have yPC1 := PC_12.out.cell 1
  have yPW0 := PW_12.out.cell 0
  have yPW1 := PW_12.out.cell 1
  have yQ00 := Q0_12.out.cell 0
  have yQ01 := Q0_12.out.cell 1
  have yPG0 := PG_12.out.cell 0
  have yPG1 := PG_12.out.cell 1
  simp only [gT, gZ, gS] at yPC0 yPC1 yPW0 yPW1 yQ00 yQ01 yPG0 yPG1
  go_wp2_with fail
  generalize v11.alloc (.cells #[.slice Ag1 m1 cg1, .slice Ag2 m2 cg2] 26) = z12 at B_12 PC_12 W_12 V_12 PW_12 XI_12 XN_12 M_12 Q0_12 XT_12 N_12 O_12 K_12 PG_12 yPC0 yPC1 yPW0 yPW1 yQ00 yQ01 yPG0 yPG1 ⊢
  refine (eqCluster_any Ag1 Ag2 Aw1 Aw2 m1 m2 cg1 cg2 cw1 cw2 po pu z12 (O_12.out.o.rd (by omega) Hq.out.1) W_12.out.rd).mono ?_; rintro e v13 ⟨rfl, hb⟩
  have B_13 := qh (below_to B_12.out hb)
  have PC_13 := qh (PC_12.out.below hb PC_12.out.lt)
  have W_13 := qh (W_12.out.up hb)
  have V_13 := qh (V_12.out.up hb)
  have PW_13 := qh (PW_12.out.below hb PW_12.out.lt)
  have XI_13 := qh (XI_12.out.up hb)
  have XN_13 := qh (XN_12.out.up hb)
  have M_13 := qh (M_12.out.up hb)
  have Q0_13 := qh (Q0_12.out.below hb Q0_12.out.lt)
  have XT_13 := qh (XT_12.out.up hb)
  have N_13 := qh (N_12.out.up hb)
  have O_13 := qh (O_12.out.up hb)
  have K_13 := qh (K_12.out.up hb)
  have PG_13 := qh (PG_12.out.below hb PG_12.out.lt)
  clear hb yPC0 yPC1 yPW0 yPW1 yQ00 yQ01 yPG0 yPG1 B_12 PC_12 W_12 V_12 PW_12 XI_12 XN_12 M_12 Q0_12 XT_12 N_12 O_12 K_12 PG_12
  have yPC0 := PC_13.out.cell 0
  have yPC1 := PC_13.out.cell 1
  have yPW0 := PW_13.out.cell 0
  have yPW1 := PW_13.out.cell 1
  have yQ00 := Q0_13.out.cell 0
  have yQ01 := Q0_13.out.cell 1
  have yPG0 := PG_13.out.cell 0
  have yPG1 := PG_13.out.cell 1
  simp only [gT, gZ, gS] at yPC0 yPC1 yPW0 yPW1 yQ00 yQ01 yPG0 yPG1
  go_wp2_with fail
  refine (eqIntS_any Ak At mk ck ct _ _ pc v13 K_13.out.rd V_13.out.a).mono ?_; rintro e v14 ⟨rfl, mq, hw⟩
  have hb := drew_below v13 mq
  rw [hw] at hb
  clear hw
  have B_14 := qh (below_to B_13.out hb)
  have PC_14 := qh (PC_13.out.below hb PC_13.out.lt)
  have W_14 := qh (W_13.out.up hb)
  have V_14 := qh (V_13.out.up hb)
  have PW_14 := qh (PW_13.out.below hb PW_13.out.lt)
  have XI_14 := qh (XI_13.out.up hb)
  have XN_14 := qh (XN_13.out.up hb)
  have M_14 := qh (M_13.out.up hb)
  have Q0_14 := qh (Q0_13.out.below hb Q0_13.out.lt)
  have XT_14 := qh (XT_13.out.up hb)
  have N_14 := qh (N_13.out.up hb)
  have O_14 := qh (O_13.out.up hb)
  have K_14 := qh (K_13.out.up hb)
  have PG_14 := qh (PG_13.out.below hb PG_13.out.lt)
  clear hb yPC0 yPC1 yPW0 yPW1 yQ00 yQ01 yPG0 yPG1 B_13 PC_13 W_13 V_13 PW_13 XI_13 XN_13 M_13 Q0_13 XT_13 N_13 O_13 K_13 PG_13
  go_upto_region 14 with fail
  have U0 := (Below.refl v14.heap.size v14).drew
  have B_15 := qh (below_to B_14.out U0)
  have PC_15 := qh (PC_14.out.below U0 PC_14.out.lt)
  have W_15 := qh (W_14.out.up U0)
  have V_15 := qh (V_14.out.up U0)
  have PW_15 := qh (PW_14.out.below U0 PW_14.out.lt)
  have XI_15 := qh (XI_14.out.up U0)
  have XN_15 := qh (XN_14.out.up U0)
  have M_15 := qh (M_14.out.up U0)
  have Q0_15 := qh (Q0_14.out.below U0 Q0_14.out.lt)
  have XT_15 := qh (XT_14.out.up U0)
  have N_15 := qh (N_14.out.up U0)
  have O_15 := qh (O_14.out.up U0)
  have K_15 := qh (K_14.out.up U0)
  have PG_15 := qh (PG_14.out.below U0 PG_14.out.lt)
  have K0 : v14.drew.cell? ⟨v8.heap.size, 0, none⟩ = some (.slice (some ⟨g1, 0, none⟩) n1 n1) ∧ v14.drew.cell? ⟨v8.heap.size, 1, none⟩ = some (.slice (some ⟨g2, 0, none⟩) n2 n2) ∧ v14.drew.cell? ⟨w.heap.size, 0, none⟩ = some (.slice A1 n1 c1) ∧ v14.drew.cell? ⟨w.heap.size, 1, none⟩ = some (.slice A2 n2 c2) := ⟨Q0_15.out.cell 0, Q0_15.out.cell 1, PC_15.out.cell 0, PC_15.out.cell 1⟩
  refine wp_region_mix (.take 0 (.take 1 (.bar 2 (.bar 3 (.take 4 .nil))))) (fun w' => w'.cell? ⟨v8.heap.size, 0, none⟩ = some (.slice (some ⟨g1, 0, none⟩) n1 n1) ∧ w'.cell? ⟨v8.heap.size, 1, none⟩ = some (.slice (some ⟨g2, 0, none⟩) n2 n2) ∧ w'.cell? ⟨w.heap.size, 0, none⟩ = some (.slice A1 n1 c1) ∧ w'.cell? ⟨w.heap.size, 1, none⟩ = some (.slice A2 n2 c2)) (by kernel_rfl) (by kernel_rfl) K0 (fun _ => ?_)
  clear K0 U0 B_14 PC_14 W_14 V_14 PW_14 XI_14 XN_14 M_14 Q0_14 XT_14 N_14 O_14 K_14 PG_14
  generalize v14.drew = d15 at B_15 PC_15 W_15 V_15 PW_15 XI_15 XN_15 M_15 Q0_15 XT_15 N_15 O_15 K_15 PG_15 ⊢
  repeat ((first | refine wpMix_skip (by rfl) (by rfl) ?_ | (refine wpMix_take (v := ?_) (by rfl) (by rfl) (fun wS hSt => ?_) ?_; rotate_left; (focus ((try dsimp only at hSt); (go_simp <;> with_reducible rfl); done)))); (try simp only [Act.put, pS, pZ, pC]))
  (refine wpMix_bar (by rfl) (fun K hK => ?_); go_simp)
  refine (toCluster_any A1 A2 n1 c1 n2 c2 room us d15 (Hh.out.up B_15.out) Ht.out).mono ?_; rintro e v16 ⟨k3, k4, rfl, o1, o2, hb⟩
  have B_16 := qh (below_to B_15.out hb)
  have PC_16 := qh (PC_15.out.below hb PC_15.out.lt)
  have W_16 := qh (W_15.out.up hb)
  have V_16 := qh (V_15.out.up hb)
  have PW_16 := qh (PW_15.out.below hb PW_15.out.lt)
  have XI_16 := qh (XI_15.out.up hb)
  have XN_16 := qh (XN_15.out.up hb)
  have M_16 := qh (M_15.out.up hb)
  have Q0_16 := qh (Q0_15.out.below hb Q0_15.out.lt)
  have XT_16 := qh (XT_15.out.up hb)
  have N_16 := qh (N_15.out.up hb)
  have O_16 := qh (O_15.out.up hb)
  have K_16 := qh (K_15.out.up hb)
  have PG_16 := qh (PG_15.out.below hb PG_15.out.lt)
  have T_16 := qh (show RdC v16 (some ⟨k3, 0, none⟩) (some ⟨k4, 0, none⟩) n1 n2 room us from ⟨o1.rd' Hl1.out (by omega), o2.rd Hl2.out (by omega)⟩)
  clear o1 o2
  ((try dsimp only); refine nxK hK _ _ (⟨Q0_16.out.cell 0, Q0_16.out.cell 1, PC_16.out.cell 0, PC_16.out.cell 1⟩) ?_; clear hK K; (try simp only [Act.put, pS, pZ, pC]))
  clear hb B_15 PC_15 W_15 V_15 PW_15 XI_15 XN_15 M_15 Q0_15 XT_15 N_15 O_15 K_15 PG_15
  (refine wpMix_bar (by rfl) (fun K hK => ?_); go_simp)
  refine (eqCluster_any (some ⟨g1, 0, none⟩) (some ⟨g2, 0, none⟩) (some ⟨k3, 0, none⟩) (some ⟨k4, 0, none⟩) n1 n2 n1 n2 n1 n2 room us v16 M_16.out T_16.out).mono ?_; rintro e v17 ⟨rfl, hb⟩
  have B_17 := qh (below_to B_16.out hb)
  have PC_17 := qh (PC_16.out.below hb PC_16.out.lt)
  have W_17 := qh (W_16.out.up hb)
  have V_17 := qh (V_16.out.up hb)
  have PW_17 := qh (PW_16.out.below hb PW_16.out.lt)
  have XI_17 := qh (XI_16.out.up hb)
  have XN_17 := qh (XN_16.out.up hb)
  have M_17 := qh (M_16.out.up hb)
  have Q0_17 := qh (Q0_16.out.below hb Q0_16.out.lt)
  have XT_17 := qh (XT_16.out.up hb)
  have N_17 := qh (N_16.out.up hb)
  have O_17 := qh (O_16.out.up hb)
  have K_17 := qh (K_16.out.up hb)
  have PG_17 := qh (PG_16.out.below hb PG_16.out.lt)
  have T_17 := qh (T_16.out.up hb)
  ((try dsimp only); refine nxK hK _ _ (⟨Q0_17.out.cell 0, Q0_17.out.cell 1, PC_17.out.cell 0, PC_17.out.cell 1⟩) ?_; clear hK K; (try simp only [Act.put, pS, pZ, pC]))
  clear hb B_16 PC_16 W_16 V_16 PW_16 XI_16 XN_16 M_16 Q0_16 XT_16 N_16 O_16 K_16 PG_16 T_16
  repeat ((first | refine wpMix_skip (by rfl) (by rfl) ?_ | (refine wpMix_take (v := ?_) (by rfl) (by rfl) (fun wS hSt => ?_) ?_; rotate_left; (focus ((try dsimp only at hSt); (go_simp <;> with_reducible rfl); done)))); (try simp only [Act.put, pS, pZ, pC]))
  refine wpMix_nil ?_
  clear M_17 T_17
  have yPC0 := PC_17.out.cell 0
  have yPC1 := PC_17.out.cell 1
  have yPW0 := PW_17.out.cell 0
  have yPW1 := PW_17.out.cell 1
  have yQ00 := Q0_17.out.cell 0
  have yQ01 := Q0_17.out.cell 1
  have yPG0 := PG_17.out.cell 0
  have yPG1 := PG_17.out.cell 1
  simp only [gT, gZ, gS] at yPC0 yPC1 yPW0 yPW1 yQ00 yQ01 yPG0 yPG1
  go_wp2_with fail
  refine (toTaskS_any A3 n3 c3 ts v17 (Hq0.out.up B_17.out) HtQ.out).mono ?_; rintro e v18 ⟨rfl, o3, hb⟩
  have B_18 := qh (below_to B_17.out hb)
  have PC_18 := qh (PC_17.out.below hb PC_17.out.lt)
  have W_18 := qh (W_17.out.up hb)
  have V_18 := qh (V_17.out.up hb)
  have PW_18 := qh (PW_17.out.below hb PW_17.out.lt)
  have XI_18 := qh (XI_17.out.up hb)
  have XN_18 := qh (XN_17.out.up hb)
  have Q0_18 := qh (Q0_17.out.below hb Q0_17.out.lt)
  have XT_18 := qh (XT_17.out.up hb)
  have N_18 := qh (N_17.out.up hb)
  have O_18 := qh (O_17.out.up hb)
  have K_18 := qh (K_17.out.up hb)
  have PG_18 := qh (PG_17.out.below hb PG_17.out.lt)
  have T_18 := qh (o3.rd2 Hl3.out (by omega))
  clear hb yPC0 yPC1 yPW0 yPW1 yQ00 yQ01 yPG0 yPG1 B_17 PC_17 W_17 V_17 PW_17 XI_17 XN_17 Q0_17 XT_17 N_17 O_17 K_17 PG_17
  clear o3
  have yPC0 := PC_18.out.cell 0
  have yPC1 := PC_18.out.cell 1
  have yPW0 := PW_18.out.cell 0
  have yPW1 := PW_18.out.cell 1
  have yQ00 := Q0_18.out.cell 0
  have yQ01 := Q0_18.out.cell 1
  have yPG0 := PG_18.out.cell 0
  have yPG1 := PG_18.out.cell 1
  simp only [gT, gZ, gS] at yPC0 yPC1 yPW0 yPW1 yQ00 yQ01 yPG0 yPG1
  go_wp2_with fail
  refine (eqTaskS_any (some ⟨z9.heap.size, 0, none⟩) _ n3 n3 n3 ts v18 N_18.out T_18.out).mono ?_; rintro e v19 ⟨rfl, hb⟩
  have B_19 := qh (below_to B_18.out hb)
  have PC_19 := qh (PC_18.out.below hb PC_18.out.lt)
  have W_19 := qh (W_18.out.up hb)
  have V_19 := qh (V_18.out.up hb)
  have PW_19 := qh (PW_18.out.below hb PW_18.out.lt)
  have XI_19 := qh (XI_18.out.up hb)
  have XN_19 := qh (XN_18.out.up hb)
  have Q0_19 := qh (Q0_18.out.below hb Q0_18.out.lt)
  have XT_19 := qh (XT_18.out.up hb)
  have N_19 := qh (N_18.out.up hb)
  have O_19 := qh (O_18.out.up hb)
  have K_19 := qh (K_18.out.up hb)
  have PG_19 := qh (PG_18.out.below hb PG_18.out.lt)
  have T_19 := qh (T_18.out.up hb)
  clear hb yPC0 yPC1 yPW0 yPW1 yQ00 yQ01 yPG0 yPG1 B_18 PC_18 W_18 V_18 PW_18 XI_18 XN_18 Q0_18 XT_18 N_18 O_18 K_18 PG_18 T_18
  clear N_19 T_19
  have hlo := XI_19.out
  obtain ⟨hg1, hg2, ys, hy1, hy2⟩ := hlo
  have Hy2 := qh hy2
  clear hy2
  have yQ00 := Q0_19.out.cell 0
  have yQ01 := Q0_19.out.cell 1
  simp only [gT, gZ, gS] at yQ00 yQ01
  go_wp2_with fail
  refine (argCluster_any z7.heap.size v8.heap.size g1 g2 n1 n2 n1 n2 1 ys v19 Hy2.out hg1 hg2 hy1 XN_19.out ln1 ln2 (by omega) (by omega)).mono ?_; rintro e v20 ⟨q1, rfl, hk1, hk2, hk⟩
  have B_20 := qh (B_19.out.trans (hk.low (show w.heap.size ≤ _ by omega) B_19.out.size))
  have PC_20 := qh (PC_19.out.koLo hk (by omega))
  have PW_20 := qh (PW_19.out.koLo hk (by omega))
  have Q0_20 := qh (Q0_19.out.koHi hk (by omega))
  have PG_20 := qh (PG_19.out.koHi hk (by omega))
  have W_20 := qh (W_19.out.ko hk (by omega))
  have V_20 := qh (V_19.out.ko hk (by omega))
  have O_20 := qh (O_19.out.ko hk (by omega))
  have K_20 := qh (K_19.out.ko hk (by omega))
  have XT_20 := qh (XT_19.out.ko hk (by omega))
  clear hk Hy2 hy1 hg1 hg2 yQ00 yQ01 B_19 PC_19 W_19 V_19 PW_19 XI_19 XN_19 Q0_19 XT_19 O_19 K_19 PG_19
  go_wp2_with fail
  refine (markTaskS_any z9.heap.size v10.heap.size z9.heap.size n3 n3 q1 v20 XT_20.out ln3 (by omega) (by omega)).mono ?_; rintro e v21 ⟨q2, rfl, hk3, hk4, _, hk⟩
  have B_21 := qh (B_20.out.trans (hk.low (show w.heap.size ≤ _ by omega) B_20.out.size))
  have PC_21 := qh (PC_20.out.koLo hk (by omega))
  have PW_21 := qh (PW_20.out.koLo hk (by omega))
  have PG_21 := qh (PG_20.out.koHi hk (by omega))
  have W_21 := qh (W_20.out.ko hk (by omega))
  have V_21 := qh (V_20.out.ko hk (by omega))
  have O_21 := qh (O_20.out.ko hk (by omega))
  have K_21 := qh (K_20.out.ko hk (by omega))
  clear hk   B_20 PC_20 PW_20 Q0_20 PG_20 W_20 V_20 O_20 K_20 XT_20
  have kn : ¬ q2 < 0 := by omega
  have yPC0 := PC_21.out.cell 0
  have yPC1 := PC_21.out.cell 1
  have yPW0 := PW_21.out.cell 0
  have yPW1 := PW_21.out.cell 1
  have yPG0 := PG_21.out.cell 0
  have yPG1 := PG_21.out.cell 1
  simp only [gT, gZ, gS] at yPC0 yPC1 yPW0 yPW1 yPG0 yPG1
  go_wp2_with fail
  refine (eqCluster_any Ag1 Ag2 Aw1 Aw2 m1 m2 cg1 cg2 cw1 cw2 po pu v21 (O_21.out.o.rd (by omega) Hq.out.1) W_21.out.rd).mono ?_; rintro e v22 ⟨rfl, hb⟩
  have B_22 := qh (below_to B_21.out hb)
  have PC_22 := qh (PC_21.out.below hb PC_21.out.lt)
  have PW_22 := qh (PW_21.out.below hb PW_21.out.lt)
  have PG_22 := qh (PG_21.out.below hb PG_21.out.lt)
  have W_22 := qh (W_21.out.up hb)
  have V_22 := qh (V_21.out.up hb)
  have O_22 := qh (O_21.out.up hb)
  have K_22 := qh (K_21.out.up hb)
  clear hb yPC0 yPC1 yPW0 yPW1 yPG0 yPG1 B_21 PC_21 PW_21 PG_21 W_21 V_21 O_21 K_21
  have yPC0 := PC_22.out.cell 0
  have yPC1 := PC_22.out.cell 1
  have yPW0 := PW_22.out.cell 0
  have yPW1 := PW_22.out.cell 1
  have yPG0 := PG_22.out.cell 0
  have yPG1 := PG_22.out.cell 1
  simp only [gT, gZ, gS] at yPC0 yPC1 yPW0 yPW1 yPG0 yPG1
  go_wp2_with fail
  refine (eqIntS_any Ak At mk ck ct _ _ pc v22 K_22.out.rd V_22.out.a).mono ?_; rintro e v23 ⟨rfl, mq, hw⟩
  have hb := drew_below v22 mq
  rw [hw] at hb
  clear hw
  have B_23 := qh (below_to B_22.out hb)
  have PC_23 := qh (PC_22.out.below hb PC_22.out.lt)
  have PW_23 := qh (PW_22.out.below hb PW_22.out.lt)
  have PG_23 := qh (PG_22.out.below hb PG_22.out.lt)
  have W_23 := qh (W_22.out.up hb)
  have V_23 := qh (V_22.out.up hb)
  have O_23 := qh (O_22.out.up hb)
  have K_23 := qh (K_22.out.up hb)
  clear hb yPC0 yPC1 yPW0 yPW1 yPG0 yPG1 B_22 PC_22 PW_22 PG_22 W_22 V_22 O_22 K_22
  have yPW0 := PW_23.out.cell 0
  have yPW1 := PW_23.out.cell 1
  have yPG0 := PG_23.out.cell 0
  have yPG1 := PG_23.out.cell 1
  simp only [gT, gZ, gS] at yPW0 yPW1 yPG0 yPG1
  go_wp2_with fail
  refine (markClH_any v10.heap.size hi Ag1 Ag2 m1 cg1 m2 cg2 1 po pu v23 O_23.out.h Hsm.out (by omega) (by omega) (by omega) O_23.out.le O_23.out.lh).mono ?_; rintro e m9 ⟨rfl, hom, hbm, hkc, hkh⟩
  have B_50 := qh (B_23.out.trans (hbm.mono (show w.heap.size ≤ v10.heap.size by omega)))
  have PC_50 := qh (show Blk m9 w.heap.size _ _ from (hbm.block w.heap.size (by omega)).trans PC_23.out)
  have PW_50 := qh (hkc _ _ PW_23.out)
  have PG_50 := qh (hkc _ _ PG_23.out)
  have W_50 := qh (W_23.out.low (hbm.mono (show v6.heap.size ≤ v10.heap.size by omega)))
  have V_50 := qh (V_23.out.low (hbm.mono (show v6.heap.size ≤ v10.heap.size by omega)))
  have KX := qh (own_keep K_23.out.o (w' := m9) (fun b hb => hkh b (K_23.out.o.lt b hb).1 (K_23.out.o.lt b hb).2))
  have OM := qh hom
  have HSm := qh (mkUL_short (1 + (m1 : Int)) Hsm.out m2)
  have hsq := seqI_len 1 m1
  have lm9 : hi ≤ m9.heap.size := by have := hbm.size; have := O_23.out.lh; omega
  have hpb := posU_bd (1 + (m1 : Int)) Hsm.out m2
  have hm2 : m2 ≤ 10 := by have := Hsm.out.1; have := Lp2.out; omega
  obtain ⟨qq, hqq⟩ : ∃ qq, posU (1 + (m1 : Int)) pu m2 = qq := ⟨_, rfl⟩
  have Hqq := qh hqq
  rw [hqq] at hpb
  rw [hqq]
  have hq0 : ¬ qq < 0 := by omega
  have hq5 : ¬ qq + (mk : Int) < 0 := by omega
  have hqne : (qq + (mk : Int) != qq + (mk : Int)) = false := by simp
  clear hqq hom hbm hkc hkh yPW0 yPW1 yPG0 yPG1 B_23 PC_23 PW_23 PG_23 W_23 V_23 O_23 K_23
  go_wp2_with fail
  refine (markCodes_any hi Ak mk ck qq pc m9 (fun _ => KX.out) (by omega) (by omega)).mono ?_; rintro e m10 ⟨rfl, hri, hkv⟩
  have hlw := hkv.low (B := hi) (fun hp b hb => (KX.out.lt b hb).1) (by omega)
  have B_51 := qh (B_50.out.trans (hlw.mono (show w.heap.size ≤ hi by omega)))
  have PC_51 := qh (show Blk m10 w.heap.size _ _ from (hlw.block w.heap.size (by omega)).trans PC_50.out)
  have PW_51 := qh (show Blk m10 v6.heap.size _ _ from (hlw.block v6.heap.size (by omega)).trans PW_50.out)
  have PG_51 := qh (show Blk m10 v11.heap.size _ _ from (hkv.block v11.heap.size PG_50.out.lt (fun hp => own_blk_ne KX.out PG_50.out (by decide))).trans PG_50.out)
  have W_51 := qh (W_50.out.low (hlw.mono (show v6.heap.size ≤ hi by omega)))
  have V_51 := qh (V_50.out.low (hlw.mono (show v6.heap.size ≤ hi by omega)))
  have OM_51 := qh (show OwWH m10 v10.heap.size hi (.slice Ag1 m1 cg1) (.slice Ag2 m2 cg2) m1 m2 (seqI 1 m1) (mkUL (1 + (m1 : Int)) pu m2) from ⟨OM.out.keepin (fun b hb hb2 hlt => hkv.block b hlt (fun hp e => by have := (KX.out.lt b e).1; omega)), by have := hkv.size; omega, by have := hkv.size; omega⟩)
  have VK_51 := qh (RdV.mk hri (Nat.le_refl _))
  clear hri hkv hlw B_50 PC_50 PW_50 PG_50 W_50 V_50 KX OM
  have hcall := qh (heldCl_any Ag1 Ag2 m1 cg1 m2 cg2 1 pu m10 (OM_51.out.o.rd (by omega) HSm.out).a (OM_51.out.o.rd (by omega) HSm.out).b Hsm.out (by omega) (by omega) (by omega))
  rw [Hqq.out] at hcall
  have yPG0 := PG_51.out.cell 0
  have yPG1 := PG_51.out.cell 1
  simp only [gT, gZ, gS] at yPG0 yPG1
  go_wp2_with fail
  refine hcall.out.mono ?_; rintro e v52 ⟨rfl, hb⟩
  have B_52 := qh (below_to B_51.out hb)
  have PC_52 := qh (PC_51.out.below hb PC_51.out.lt)
  have PW_52 := qh (PW_51.out.below hb PW_51.out.lt)
  have PG_52 := qh (PG_51.out.below hb PG_51.out.lt)
  have W_52 := qh (W_51.out.up hb)
  have V_52 := qh (V_51.out.up hb)
  have OM_52 := qh (OM_51.out.up hb)
  have VK_52 := qh (VK_51.out.up hb)
  clear hb hcall yPG0 yPG1 B_51 PC_51 PW_51 PG_51 W_51 V_51 OM_51 VK_51
  go_wp2_with fail
  refine (heldIntS_any Ak mk ck _ qq v52 VK_52.out.a (by omega) (by omega)).mono ?_; rintro e w9 ⟨rfl, hw9⟩
  subst hw9
  have yPC0 := PC_52.out.cell 0
  have yPC1 := PC_52.out.cell 1
  have yPW0 := PW_52.out.cell 0
  have yPW1 := PW_52.out.cell 1
  have yPG0 := PG_52.out.cell 0
  have yPG1 := PG_52.out.cell 1
  simp only [gT, gZ, gS] at yPC0 yPC1 yPW0 yPW1 yPG0 yPG1
  go_wp2_with fail
  refine (toCluster_any A1 A2 n1 c1 n2 c2 room us v52 (Hh.out.up B_52.out) Ht.out).mono ?_; rintro e v53 ⟨k5, k6, rfl, o1, o2, hb⟩
  have B_53 := qh (below_to B_52.out hb)
  have PC_53 := qh (PC_52.out.below hb PC_52.out.lt)
  have PW_53 := qh (PW_52.out.below hb PW_52.out.lt)
  have PG_53 := qh (PG_52.out.below hb PG_52.out.lt)
  have W_53 := qh (W_52.out.up hb)
  have V_53 := qh (V_52.out.up hb)
  have OM_53 := qh (OM_52.out.up hb)
  have VK_53 := qh (VK_52.out.up hb)
  have M_53 := qh (show RdC v53 (some ⟨k5, 0, none⟩) (some ⟨k6, 0, none⟩) n1 n2 room us from ⟨o1.rd' Hl1.out (by omega), o2.rd Hl2.out (by omega)⟩)
  clear hb yPC0 yPC1 yPW0 yPW1 yPG0 yPG1 B_52 PC_52 PW_52 PG_52 W_52 V_52 OM_52 VK_52
  clear o1 o2
  have yPC0 := PC_53.out.cell 0
  have yPC1 := PC_53.out.cell 1
  have yPW0 := PW_53.out.cell 0
  have yPW1 := PW_53.out.cell 1
  have yPG0 := PG_53.out.cell 0
  have yPG1 := PG_53.out.cell 1
  simp only [gT, gZ, gS] at yPC0 yPC1 yPW0 yPW1 yPG0 yPG1
  go_wp2_with fail
  refine (toTaskS_any A3 n3 c3 ts v53 (Hq0.out.up B_53.out) HtQ.out).mono ?_; rintro e v54 ⟨rfl, o3, hb⟩
  have B_54 := qh (below_to B_53.out hb)
  have PC_54 := qh (PC_53.out.below hb PC_53.out.lt)
  have PW_54 := qh (PW_53.out.below hb PW_53.out.lt)
  have PG_54 := qh (PG_53.out.below hb PG_53.out.lt)
  have W_54 := qh (W_53.out.up hb)
  have V_54 := qh (V_53.out.up hb)
  have OM_54 := qh (OM_53.out.up hb)
  have VK_54 := qh (VK_53.out.up hb)
  have M_54 := qh (M_53.out.up hb)
  have N_54 := qh (o3.rd2 Hl3.out (by omega))
  clear hb yPC0 yPC1 yPW0 yPW1 yPG0 yPG1 B_53 PC_53 PW_53 PG_53 W_53 V_53 OM_53 VK_53 M_53
  clear o3
  have yPC0 := PC_54.out.cell 0
  have yPC1 := PC_54.out.cell 1
  have yPW0 := PW_54.out.cell 0
  have yPW1 := PW_54.out.cell 1
  have yPG0 := PG_54.out.cell 0
  have yPG1 := PG_54.out.cell 1
  simp only [gT, gZ, gS] at yPC0 yPC1 yPW0 yPW1 yPG0 yPG1
  go_wp2_with fail
  refine (batchDoI_any (some ⟨k5, 0, none⟩) (some ⟨k6, 0, none⟩) (some ⟨v53.heap.size, 0, none⟩) n1 n1 n2 n2 n3 n3 gv room us ts v54 M_54.out Hv.out N_54.out).mono ?_; rintro e v55 ⟨Ah1, p3, ch1, Ah2, p4, ch2, Au, mu, cu, hi2, he, hoc, hown, hb, _, _, _⟩
  simp only [Hp.out] at hoc hown
  subst he
  obtain rfl : m1 = p3 := by have := hoc.len; have := Lp1.out; omega
  obtain rfl : m2 = p4 := by have := hoc.lenU; have := Lp2.out; omega
  obtain rfl : mk = mu := by have := own_len hown; have := Lt.out; omega
  have B_55 := qh (below_to B_54.out hb)
  have PC_55 := qh (PC_54.out.below hb PC_54.out.lt)
  have PW_55 := qh (PW_54.out.below hb PW_54.out.lt)
  have PG_55 := qh (PG_54.out.below hb PG_54.out.lt)
  have W_55 := qh (W_54.out.up hb)
  have V_55 := qh (V_54.out.up hb)
  have OM_55 := qh (OM_54.out.up hb)
  have VK_55 := qh (VK_54.out.up hb)
  have M_55 := qh (M_54.out.up hb)
  have N_55 := qh (N_54.out.up hb)
  have HC_55 := qh (hoc.rd (by omega) Hq.out.1)
  have HI_55 := qh (own_rdI hown (own_le hown))
  clear hb yPC0 yPC1 yPW0 yPW1 yPG0 yPG1 B_54 PC_54 PW_54 PG_54 W_54 V_54 OM_54 VK_54 M_54 N_54
  clear hoc hown
  clear M_55 N_55
  have al := alloc_up v55 (.cells #[.slice Ah1 m1 ch1, .slice Ah2 m2 ch2] 26)
  have B_56 := qh (below_to B_55.out al)
  have PC_56 := qh (PC_55.out.below al PC_55.out.lt)
  have PW_56 := qh (PW_55.out.below al PW_55.out.lt)
  have PG_56 := qh (PG_55.out.below al PG_55.out.lt)
  have W_56 := qh (W_55.out.up al)
  have V_56 := qh (V_55.out.up al)
  have OM_56 := qh (OM_55.out.up al)
  have VK_56 := qh (VK_55.out.up al)
  have HC_56 := qh (HC_55.out.up al)
  have HI_56 := qh (HI_55.out.up al)
  have hq := Blk.new v55 26 #[.slice Ah1 m1 ch1, .slice Ah2 m2 ch2]
  have PH_56 := qh hq
  clear al hq B_55 PC_55 PW_55 PG_55 W_55 V_55 OM_55 VK_55 HC_55 HI_55
  have yPC0 := PC_56.out.cell 0
  have yPC1 := PC_56.out.cell 1
  have yPW0 := PW_56.out.cell 0
  have yPW1 := PW_56.out.cell 1
  have yPG0 := PG_56.out.cell 0
  have yPG1 := PG_56.out.cell 1
  have yPH0 := PH_56.out.cell 0
  have yPH1 := PH_56.out.cell 1
  simp only [gT, gZ, gS] at yPC0 yPC1 yPW0 yPW1 yPG0 yPG1 yPH0 yPH1
  go_wp2_with fail
  generalize v55.alloc (.cells #[.slice Ah1 m1 ch1, .slice Ah2 m2 ch2] 26) = z56 at B_56 PC_56 PW_56 PG_56 W_56 V_56 OM_56 VK_56 HC_56 HI_56 PH_56 yPC0 yPC1 yPW0 yPW1 yPG0 yPG1 yPH0 yPH1 ⊢
  refine (eqCluster_any Ah1 Ah2 Aw1 Aw2 m1 m2 ch1 ch2 cw1 cw2 po pu z56 HC_56.out W_56.out.rd).mono ?_; rintro e v57 ⟨rfl, hb⟩
  have B_57 := qh (below_to B_56.out hb)
  have PC_57 := qh (PC_56.out.below hb PC_56.out.lt)
  have PW_57 := qh (PW_56.out.below hb PW_56.out.lt)
  have PG_57 := qh (PG_56.out.below hb PG_56.out.lt)
  have W_57 := qh (W_56.out.up hb)
  have V_57 := qh (V_56.out.up hb)
  have OM_57 := qh (OM_56.out.up hb)
  have VK_57 := qh (VK_56.out.up hb)
  have HC_57 := qh (HC_56.out.up hb)
  have HI_57 := qh (HI_56.out.up hb)
  have PH_57 := qh (PH_56.out.below hb PH_56.out.lt)
  clear hb yPC0 yPC1 yPW0 yPW1 yPG0 yPG1 yPH0 yPH1 B_56 PC_56 PW_56 PG_56 W_56 V_56 OM_56 VK_56 HC_56 HI_56 PH_56
  have yPC0 := PC_57.out.cell 0
  have yPC1 := PC_57.out.cell 1
  have yPW0 := PW_57.out.cell 0
  have yPW1 := PW_57.out.cell 1
  have yPG0 := PG_57.out.cell 0
  have yPG1 := PG_57.out.cell 1
  have yPH0 := PH_57.out.cell 0
  have yPH1 := PH_57.out.cell 1
  simp only [gT, gZ, gS] at yPC0 yPC1 yPW0 yPW1 yPG0 yPG1 yPH0 yPH1
  go_wp2_with fail
  refine (eqIntS_any Au At mk cu ct _ _ pc v57 HI_57.out V_57.out.a).mono ?_; rintro e v58 ⟨rfl, mq, hw⟩
  have hb := drew_below v57 mq
  rw [hw] at hb
  clear hw
  have B_58 := qh (below_to B_57.out hb)
  have PC_58 := qh (PC_57.out.below hb PC_57.out.lt)
  have PW_58 := qh (PW_57.out.below hb PW_57.out.lt)
  have PG_58 := qh (PG_57.out.below hb PG_57.out.lt)
  have W_58 := qh (W_57.out.up hb)
  have V_58 := qh (V_57.out.up hb)
  have OM_58 := qh (OM_57.out.up hb)
  have VK_58 := qh (VK_57.out.up hb)
  have HC_58 := qh (HC_57.out.up hb)
  have HI_58 := qh (HI_57.out.up hb)
  have PH_58 := qh (PH_57.out.below hb PH_57.out.lt)
  clear hb yPC0 yPC1 yPW0 yPW1 yPG0 yPG1 yPH0 yPH1 B_57 PC_57 PW_57 PG_57 W_57 V_57 OM_57 VK_57 HC_57 HI_57 PH_57
  have hcall := qh (heldCl_any Ag1 Ag2 m1 cg1 m2 cg2 1 pu v58 (OM_58.out.o.rd (by omega) HSm.out).a (OM_58.out.o.rd (by omega) HSm.out).b Hsm.out (by omega) (by omega) (by omega))
  rw [Hqq.out] at hcall
  have yPG0 := PG_58.out.cell 0
  have yPG1 := PG_58.out.cell 1
  simp only [gT, gZ, gS] at yPG0 yPG1
  go_wp2_with fail
  refine hcall.out.mono ?_; rintro e v59 ⟨rfl, hb⟩
  have B_59 := qh (below_to B_58.out hb)
  have PC_59 := qh (PC_58.out.below hb PC_58.out.lt)
  have PW_59 := qh (PW_58.out.below hb PW_58.out.lt)
  have PG_59 := qh (PG_58.out.below hb PG_58.out.lt)
  have W_59 := qh (W_58.out.up hb)
  have V_59 := qh (V_58.out.up hb)
  have OM_59 := qh (OM_58.out.up hb)
  have VK_59 := qh (VK_58.out.up hb)
  have HC_59 := qh (HC_58.out.up hb)
  have HI_59 := qh (HI_58.out.up hb)
  have PH_59 := qh (PH_58.out.below hb PH_58.out.lt)
  clear hb hcall yPG0 yPG1 B_58 PC_58 PW_58 PG_58 W_58 V_58 OM_58 VK_58 HC_58 HI_58 PH_58
  go_wp2_with fail
  refine (heldIntS_any Ak mk ck _ qq v59 VK_59.out.a (by omega) (by omega)).mono ?_; rintro e w9 ⟨rfl, hw9⟩
  subst hw9
  go_wp2_with fail
  go_ret
  exact ⟨rfl, B_59.out⟩
end Go.Proofs.YtjjnbbkdjimcoaaGreat
