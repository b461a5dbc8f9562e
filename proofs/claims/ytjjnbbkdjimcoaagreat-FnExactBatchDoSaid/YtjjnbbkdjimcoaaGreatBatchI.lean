/- Walk: the program's batch: a channel is filled, closed and ranged over in one goroutine. (Printed by gen_batchi.py.) -/
import Derived.Test.YtjjnbbkdjimcoaaGreatBatchR
namespace Go.Proofs.YtjjnbbkdjimcoaaGreat
set_option linter.unusedSimpArgs false
set_option linter.unusedVariables false
open Go Go.RowKit Go.Conc
attribute [local go_sem ↓] Go.wp_at_zero Go.wp_at_succ

theorem sm_ok {room : List Int} {ts : List Tk} (h : tasksOk room ts = true) : SmT ts := fun t ht => by
  have hv := tasksOk_vec h ht
  refine ⟨by rw [vecOk_len hv]; omega, fun x hx => ?_⟩
  obtain ⟨j, hj, he⟩ := List.getElem_of_mem hx
  have := vecOk_bd hv j
  rw [List.getElem?_eq_getElem hj, he] at this
  simp only [Option.getD_some] at this
  omega
set_option maxRecDepth 200000 in
set_option maxHeartbeats 12800000 in
theorem batch_any (base : Nat) (A1 A2 A : Option Addr) (n1 c1 n2 c2 n c : Nat) (g : Int) (room : List Int) (us : List Un) (ts : List Tk) (w : World) (hbs : base ≤ w.heap.size) (h : OwnC w base (.slice A1 n1 c1) (.slice A2 n2 c2) n1 n2 room us) (ht : RdT w w.heap.size A n ts) (hok : bokP room us ts g = true) :
    Calls Tryz.prog 47 #[.agg #[.slice A1 n1 c1, .slice A2 n2 c2], .slice A n c, .int .i64 g] w fun e w' =>
      ∃ A3 m3 c3 A4 m4 c4 bm l, e = .returned (.tuple #[.agg #[.slice A3 m3 c3, .slice A4 m4 c4], .map (some bm), .bool (zeroP (batR room us ts g).2)]) ∧
        OwnC w' base (.slice A3 m3 c3) (.slice A4 m4 c4) m3 m4 room (batR room us ts g).1 ∧ IMap w' bm l ∧ (∀ t ∈ ts, lookL l t.1 = some (.int .i64 (lkP (sortP ts) (batR room us ts g).2 t.1))) ∧ w.heap.size ≤ bm ∧ Below w.heap.size w w' := by
  obtain ⟨hc, hto, hg0, hg1⟩ := bok_iff.1 hok
  have hsm := sm_ok hto
  have hl := ht.len
  have hn14 : n ≤ 14 := by rw [← hl]; unfold tasksOk at hto; simp only [Bool.and_eq_true, decide_eq_true_eq] at hto; exact hto.1.1.2
  obtain ⟨t0, ht0, htz0, htz1, htz2⟩ := info_parts task_info
  have hmc : ∀ W : World, (Instr.makeChan 107 (.int .i64 (n : Int))).run Tryz.prog W = .ok (.chan (some W.heap.size)) (W.alloc (.chan n #[] false 0 0 false)) := fun W => run_makeChan (P := Tryz.prog) (w := W) Tryz.underlying107 ht0 .i64 n (by omega) (by rw [htz2]; omega)
  have al0 := alloc_up w (.cells #[.slice A1 n1 c1, .slice A2 n2 c2] 26)
  have B0 := qh (al0.alloc al0.size (.cells #[.slice none 0 0, .slice none 0 0] 26))
  have X0 := qh ((Blk.new w 26 #[.slice A1 n1 c1, .slice A2 n2 c2]).alloc (.cells #[.slice none 0 0, .slice none 0 0] 26))
  have r0 := Blk.new (w.alloc (.cells #[.slice A1 n1 c1, .slice A2 n2 c2] 26)) 26 #[.slice none 0 0, .slice none 0 0]
  rw [World.size_alloc] at r0
  have R0 := qh r0
  have C0 := qh (h.keepTU (KeepTU.up B0.out))
  have T0 := qh (ht.up B0.out)
  have sz0 : ((w.alloc (.cells #[.slice A1 n1 c1, .slice A2 n2 c2] 26)).alloc (.cells #[.slice none 0 0, .slice none 0 0] 26)).heap.size = w.heap.size + 2 := by rw [World.size_alloc, World.size_alloc]
  have Hsm := qh hsm
  have Hto := qh hto
  have Hc := qh hc
  have Hl := qh hl
  clear al0 r0 h ht hok hc hto hsm hl
  refine calls_of_wpN Tryz.func47 rfl (fun w' h => by obtain ⟨_, _, _, _, _, _, _, _, h, _⟩ := h; cases h) ?_
  simp only [Tryz.ntmps47, List.size_toArray, List.length_cons, List.length_nil, Nat.reduceAdd, Nat.reduceSub, Array.replicate_succ, Array.replicate_zero, List.push_toArray, List.append_toArray, List.nil_append, List.cons_append]
  refine wpN_seq_k (fun K hK => ?_)
  go_wp2_with fail
  generalize (w.alloc (.cells #[.slice A1 n1 c1, .slice A2 n2 c2] 26)).alloc (.cells #[.slice none 0 0, .slice none 0 0] 26) = w0 at B0 X0 R0 C0 T0 sz0 ⊢
  have al1 := alloc_up w0 (.chan n #[] false 0 0 false)
  have B1 := qh (B0.out.trans (al1.mono B0.out.size))
  have X1 := qh (X0.out.below al1 X0.out.lt)
  have R1 := qh (R0.out.below al1 R0.out.lt)
  have C1 := qh (C0.out.keepTU (KeepTU.up al1))
  have T1 := qh (T0.out.up al1)
  have H1 := qh (show ChV (w0.alloc (.chan n #[] false 0 0 false)) (w.heap.size + 2) n [] false from ⟨0, 0, false, by rw [← sz0]; exact heap_alloc_new w0 _⟩)
  clear al1 B0 X0 R0 C0 T0
  refine wpN_seq_k (fun K hK => ?_)
  go_wp2_with fail
  clear hmc
  try simp only [sz0]
  clear sz0
  generalize w0.alloc (.chan n #[] false 0 0 false) = w1 at B1 X1 R1 C1 T1 H1 ⊢
  refine wpN_ctl_k (fun K hK => ?_)
  refine wpN_seq_k (fun K2 hK2 => ?_)
  go_wp2_with fail
  refine (sorted_any A n c ts w1 T1.out Hsm.out (by omega)).mono ?_; rintro e w2 ⟨As, cs, vs0, rfl, hos, hns, hb2⟩
  rw [heap_sort (tasks_nodup Hto.out)] at hns
  have HNS := qh hns
  have HOS := qh hos
  have hsl := hns.1
  have B2 := qh (B1.out.trans (hb2.mono B1.out.size))
  have X2 := qh (X1.out.below hb2 X1.out.lt)
  have R2 := qh (R1.out.below hb2 R1.out.lt)
  have C2 := qh (C1.out.keepTU (KeepTU.up hb2))
  have H2 := qh (H1.out.up hb2)
  clear hos hns hb2 B1 X1 R1 C1 T1 H1
  go_wp2_with fail
  generalize hss : sortP ts = ss at HNS hsl
  have HSS := qh hss
  clear hss
  have Lss := qh hsl
  clear hsl
  refine wpN_block ?_
  obtain ⟨I1, hI1⟩ : ∃ I : Act → World → Prop, I = (fun a wr => ∃ (k : Nat) (vs : List Value), SL a [(2, .int .i64 g), (3, .pointer (some ⟨w.heap.size, 0, none⟩)), (6, .pointer (some ⟨w.heap.size + 1, 0, none⟩)), (9, .chan (some (w.heap.size + 2))), (22, .slice As n cs), (23, .int .i64 (n : Int)), (24, .int .i64 (k : Int))] ∧ k ≤ n ∧ ChV wr (w.heap.size + 2) n vs false ∧ TkV wr vs (ss.take k) ∧ (∀ b, b < w2.heap.size → b ≠ w.heap.size + 2 → wr.heap[b]? = w2.heap[b]?) ∧ Below w.heap.size w wr ∧ w2.heap.size ≤ wr.heap.size) := ⟨_, rfl⟩
  have HI1 := qh hI1
  clear hI1
  refine wpN_loop I1 (fun a _ => n - (intOf (a.tmps.getD 24 undef)).toNat) ?_ ?_
  · rw [HI1.out]
    exact ⟨0, [], ⟨rfl, rfl, List.forall_mem_cons.2 ⟨rfl, List.forall_mem_cons.2 ⟨rfl, List.forall_mem_cons.2 ⟨rfl, List.forall_mem_cons.2 ⟨rfl, List.forall_mem_cons.2 ⟨rfl, List.forall_mem_cons.2 ⟨rfl, List.forall_mem_cons.2 ⟨rfl, fun p hp => by cases hp⟩⟩⟩⟩⟩⟩⟩⟩, Nat.zero_le _, H2.out, ⟨rfl, fun j hj => by simp at hj⟩, fun b _ _ => rfl, B2.out, Nat.le_refl _⟩
  · intro a wr hI
    rw [HI1.out] at hI
    obtain ⟨k, vs, hsl, hk, hch, htk, hbk, hbw, hsz⟩ := hI
    obtain ⟨u, rfl, hu⟩ := hsl.lit
    simp only [List.forall_mem_cons] at hu
    obtain ⟨s2, s3, s6, s9, s22, s23, s24, _⟩ := hu
    rw [s2, s3, s6, s9, s22, s23, s24]
    clear hsl s2 s3 s6 s9 s22 s23 s24
    have HC := qh hch
    have HT := qh htk
    have HK := qh hbk
    have HB := qh hbw
    have CE := qh (cell_chan H2.out hbk hch)
    clear hch htk hbk hbw
    by_cases hlt : k < n
    · have q1 : (0 : Int) ≤ (k : Int) := by omega
      have q2 : (k : Int) < (n : Int) := by omega
      have q3 : 0 ≤ (k : Int) * 2 := by omega
      have v1 : IntKind.i64.wrap ((k : Int) + 1) = (k : Int) + 1 := wr64 (by omega) (by omega)
      have hks : k < ss.length := by have := Lss.out; omega
      have et := qh (take_tk hks)
      obtain ⟨gs, rfl⟩ : ∃ gs, As = some ⟨gs, 0, none⟩ := by
        rcases HOS.out.2 with ⟨e, hz⟩ | ⟨g', cap, cur, e, _⟩
        · exfalso; injection e; omega
        · injection e with e1; exact ⟨g', e1⟩
      obtain ⟨An, mn, cn, b0, b1, hnd⟩ := HNS.out.2.2 k hlt
      have p0 := HOS.out.cells (g := gs) rfl _ _ b0
      have p1 := HOS.out.cells (g := gs) rfl _ _ b1
      rw [addr_add, Nat.zero_add] at p0 p1
      have lgs := (HOS.out.lt gs rfl).2
      have d1 : wr.cell? ⟨gs, k * 2, none⟩ = some (.int .i64 (gTk ss k).1) := (CE.out ⟨gs, k * 2, none⟩ lgs).trans p0
      have d2 : wr.cell? ⟨gs, k * 2 + 1, none⟩ = some (.slice An mn cn) := (CE.out ⟨gs, k * 2 + 1, none⟩ lgs).trans p1
      have HND := qh (show wr.ownsRow 0 3 1 (.slice An mn cn) mn ((gTk ss k).2.map (Value.int .i64)) from own_keepTI (own_lo hnd (Nat.zero_le _)) (.inl rfl) (H2.out.ti HK.out))
      clear b0 b1 p0 p1 hnd
      have et' := qh (show ss.take (k + 1) = ss.take k ++ [((gTk ss k).1, (gTk ss k).2)] from et.out)
      clear et
      generalize (gTk ss k).1 = idk at *
      generalize (gTk ss k).2 = xk at *
      refine wpN_seq_k (fun K2 hK2 => ?_)
      go_wp2_with fail
      refine wpN_seq_k (fun K2 hK2 => ?_)
      go_wp2_with fail
      refine wpN_ctl_k (fun K2 hK2 => ?_)
      refine wpN_block ?_
      refine wpN_seq_k (fun K3 hK3 => ?_)
      have al4 := alloc_up wr (.cells #[.int .i64 idk, .slice An mn cn] 43)
      have Z4 := qh (Blk.new wr 43 #[.int .i64 idk, .slice An mn cn])
      have HC4 := qh (HC.out.up al4)
      have B4 := qh (HB.out.trans (al4.mono HB.out.size))
      have K4 := qh (show ∀ b, b < w2.heap.size → b ≠ w.heap.size + 2 → (wr.alloc (.cells #[.int .i64 idk, .slice An mn cn] 43)).heap[b]? = w2.heap[b]? from fun b hb hne => (al4.block b (by omega)).trans (HK.out b hb hne))
      have sz4 : wr.heap.size ≤ (wr.alloc (.cells #[.int .i64 idk, .slice An mn cn] 43)).heap.size := al4.size
      have T4 := qh (HT.out.keep (KeepTI.up al4))
      have N4 := qh (own_up' HND.out al4)
      clear al4
      go_wp2_with fail
      clear d1 d2
      generalize wr.heap.size = gx at Z4 sz4 hsz ⊢
      generalize wr.alloc (.cells #[.int .i64 idk, .slice An mn cn] 43) = w4 at Z4 HC4 B4 K4 sz4 T4 N4 ⊢
      have z0 := Z4.out.cell 0
      have z1 := Z4.out.cell 1
      simp only [gT, gZ, gS] at z0 z1
      obtain ⟨sc, rc, tm, hchan⟩ := HC4.out
      refine wpN_region (show OpsN _ _ _ [0, 1, 2] _ _ from ?_)
      refine opsN_value (v := .chan (some (w.heap.size + 2))) (w' := w4) rfl rfl (by simp [go_sem]) ?_
      simp only [Act.put, pS, pZ, pC]
      refine opsN_value (v := .agg #[.int .i64 idk, .slice An mn cn]) (w' := w4) rfl rfl (by simp [go_sem, z0, z1]) ?_
      simp only [Act.put, pS, pZ, pC]
      refine opsN_send (ch := w.heap.size + 2) (cap := n) (buf := vs.toArray) (v := .agg #[.int .i64 idk, .slice An mn cn]) (z := .tuple #[]) (w1 := w4) rfl rfl (by simp [go_sem, scase]) hchan (by have := HT.out.1; simp at this ⊢; omega) ?_
      simp only [Act.put, pS, pZ, pC]
      refine opsN_nil ?_
      have H5 := qh (show ChV (w4.setChan (w.heap.size + 2) n (vs.toArray.push (.agg #[.int .i64 idk, .slice An mn cn])) false (sc + 1) rc tm) (w.heap.size + 2) n (vs ++ [.agg #[.int .i64 idk, .slice An mn cn]]) false from by
        have := set_chan HC4.out (vs ++ [.agg #[.int .i64 idk, .slice An mn cn]]) false (sc + 1) rc tm
        rw [← List.push_toArray] at this
        exact this)
      have sb := set_block HC4.out (vs.toArray.push (.agg #[.int .i64 idk, .slice An mn cn])) false (sc + 1) rc tm
      have ss5 := size_setChan w4 (w.heap.size + 2) n (vs.toArray.push (.agg #[.int .i64 idk, .slice An mn cn])) false (sc + 1) rc tm
      have KT5 := HC4.out.ti sb
      have K5 := qh (show ∀ b, b < w2.heap.size → b ≠ w.heap.size + 2 → (w4.setChan (w.heap.size + 2) n (vs.toArray.push (.agg #[.int .i64 idk, .slice An mn cn])) false (sc + 1) rc tm).heap[b]? = w2.heap[b]? from fun b hb hne => (sb b (by omega) hne).trans (K4.out b hb hne))
      have B5 := qh (below_setChan B4.out (show w.heap.size ≤ w.heap.size + 2 by omega) n (vs.toArray.push (.agg #[.int .i64 idk, .slice An mn cn])) false (sc + 1) rc tm)
      have T5 := qh ((T4.out.keep KT5).snoc (id := idk) (own_keepTI N4.out (.inl rfl) KT5))
      clear sb hchan z0 z1 KT5
      generalize w4.setChan (w.heap.size + 2) n (vs.toArray.push (.agg #[.int .i64 idk, .slice An mn cn])) false (sc + 1) rc tm = w5 at H5 ss5 K5 B5 T5 ⊢
      refine hK2 _ _ ?_
      clear hK2 K2
      refine wpN_of ?_
      go_wp2_with fail
      refine ⟨by rw [HI1.out]; exact ⟨k + 1, _, by rw [show ((k + 1 : Nat) : Int) = (k : Int) + 1 from by omega]; exact ⟨rfl, rfl, List.forall_mem_cons.2 ⟨rfl, List.forall_mem_cons.2 ⟨rfl, List.forall_mem_cons.2 ⟨rfl, List.forall_mem_cons.2 ⟨rfl, List.forall_mem_cons.2 ⟨rfl, List.forall_mem_cons.2 ⟨rfl, List.forall_mem_cons.2 ⟨rfl, fun p hp => by cases hp⟩⟩⟩⟩⟩⟩⟩⟩, by omega, H5.out, by rw [et'.out]; exact T5.out, K5.out, B5.out, by omega⟩, ?_⟩
      simp [intOf]
      omega
    · obtain rfl : k = n := by omega
      refine wpN_seq_k (fun K2 hK2 => ?_)
      go_wp2_with fail
      refine wpN_seq_k (fun K2 hK2 => ?_)
      go_wp2_with fail
      clear hK2 K2
      have hts : TkV wr vs ss := by
        have := HT.out
        rwa [List.take_of_length_le (by have := Lss.out; omega)] at this
      have HT3 := qh hts
      have C3 := qh (C2.out.keepTU (H2.out.tu HK.out))
      have X3 := qh (show Blk wr w.heap.size 26 #[.slice A1 n1 c1, .slice A2 n2 c2] from (HK.out w.heap.size X2.out.lt (by omega)).trans X2.out)
      have R3 := qh (show Blk wr (w.heap.size + 1) 26 #[.slice none 0 0, .slice none 0 0] from (HK.out (w.heap.size + 1) R2.out.lt (by omega)).trans R2.out)
      clear hts HT HK CE HNS HOS C2 X2 R2 H2 B2
      obtain ⟨sc, rc, tm, hchan⟩ := HC.out
      have hcl := fun ats ty => run_close_open (P := Tryz.prog) (w := wr) ats ty hchan
      refine wpN_seq_k (fun K2 hK2 => ?_)
      go_wp2_with fail
      clear hcl
      have sb := set_block HC.out vs.toArray true sc rc tm
      have ss4 := size_setChan wr (w.heap.size + 2) k vs.toArray true sc rc tm
      have H4 := qh (set_chan HC.out vs true sc rc tm)
      have B4 := qh (below_setChan HB.out (show w.heap.size ≤ w.heap.size + 2 by omega) k vs.toArray true sc rc tm)
      have C4 := qh (C3.out.keepTU (HC.out.tu sb))
      have X4 := qh (show Blk (wr.setChan (w.heap.size + 2) k vs.toArray true sc rc tm) w.heap.size 26 #[.slice A1 n1 c1, .slice A2 n2 c2] from (sb w.heap.size X3.out.lt (by omega)).trans X3.out)
      have R4 := qh (show Blk (wr.setChan (w.heap.size + 2) k vs.toArray true sc rc tm) (w.heap.size + 1) 26 #[.slice none 0 0, .slice none 0 0] from (sb (w.heap.size + 1) R3.out.lt (by omega)).trans R3.out)
      have T4 := qh (HT3.out.keep (HC.out.ti sb))
      change WpN _ _ _ _ (wr.setChan (w.heap.size + 2) k vs.toArray true sc rc tm)
      clear sb C3 X3 R3 HT3 HC HB hchan
      generalize wr.setChan (w.heap.size + 2) k vs.toArray true sc rc tm = w4 at ss4 H4 B4 C4 X4 R4 T4 ⊢
      have al5 := alloc_up w4 (.map #[] 0)
      have M5 := qh (IMap.made w4)
      have H5 := qh (H4.out.up al5)
      have B5 := qh (B4.out.trans (al5.mono B4.out.size))
      have C5 := qh (C4.out.keepTU (KeepTU.up al5))
      have X5 := qh (X4.out.below al5 X4.out.lt)
      have R5 := qh (R4.out.below al5 R4.out.lt)
      have T5 := qh (T4.out.keep (KeepTI.up al5))
      have lbm : w.heap.size + 2 < w4.heap.size := H4.out.lt
      have sz5 : w2.heap.size ≤ (w4.alloc (.map #[] 0)).heap.size := by have := al5.size; omega
      clear al5 H4 B4 C4 X4 R4 T4 ss4
      have hmm := @run_makeMap Tryz.prog
      refine wpN_seq_k (fun K2 hK2 => ?_)
      go_wp2_with fail
      clear hmm
      generalize w4.heap.size = bm at M5 lbm ⊢
      generalize w4.alloc (.map #[] 0) = w5 at M5 H5 B5 C5 X5 R5 T5 sz5 ⊢
      refine wpN_ctl_k (fun K hK => ?_)
      refine wpN_seq_k (fun K2 hK2 => ?_)
      go_wp2_with fail
      refine batchRecv_any _ _ _ _ _ _ _ _ _ _ _ _ _ _ _ _ _ _ _ _ _ _ _ _ _ _ _ _ _ _ _ _ _ _ _ _ _ _ _ _ _ _ _ _ _ _ _ _ _ _ _ _ _ _ _ _ _ _ _ _ w.heap.size base bm k g A1 n1 c1 A2 n2 c2 room us ss vs w5 _ _ hg0 hg1 Hc.out (by rw [← HSS.out]; exact (List.Perm.nodup_iff ((sort_perm ts).map _)).2 (tasks_nodup Hto.out)) M5.out H5.out T5.out X5.out R5.out C5.out (by have := B5.out.size; omega) lbm ?_
      intro t0 t1 t2 t3 t4 t5 t6 t7 t8 t9 t10 t11 t12 t13 t14 t15 t16 t17 t18 t19 t20 t21 t22 t23 t24 t25 t26 t27 t28 t29 t30 t31 t32 t33 t34 t35 t36 t37 t38 t39 t40 t41 t42 t43 t44 t45 t46 t47 t48 t49 t50 t51 t52 t53 t54 t55 t56 t57 t58 t59 gi dc usi A3 m3 c3 A4 m4 c4 w6 hrun hdl hm6 hx6 hr6 ho6 hb6
      have hbw := B5.out.trans hb6
      have HB6 := qh (hbw)
      clear hbw
      refine hK _ _ ?_
      refine wpN_of ?_
      refine batchEnd_any _ _ _ _ _ _ _ _ _ _ _ _ _ _ _ _ _ _ _ _ _ _ _ _ _ _ _ _ _ _ _ _ _ _ _ _ _ _ _ _ _ _ _ _ _ _ _ _ _ _ _ _ _ _ _ _ _ _ _ _ w.heap.size (w.heap.size + 1) bm (w.heap.size + 2) gi (zeroP dc) A3 A4 m3 c3 m4 c4 w6 _ hx6 hr6 ?_
      have hb : batR room us ts g = (usi, dc) := by unfold batR; rw [HSS.out]; exact hrun
      rw [hb]
      refine ⟨A3, m3, c3, A4, m4, c4, bm, _, rfl, ho6.keepTU ((KeepTU.set_ hr6 (by decide) (by decide) (by decide) 0 (.slice A3 m3 c3)).trans (KeepTU.set_ (hr6.set_ 0 (.slice A3 m3 c3)) (by decide) (by decide) (by decide) 1 (.slice A4 m4 c4))),
        (hm6.setCell (p := ⟨w.heap.size + 1, 0, none⟩) (by show bm ≠ w.heap.size + 1; omega) (.slice A3 m3 c3)).setCell (p := ⟨w.heap.size + 1, 1, none⟩) (by show bm ≠ w.heap.size + 1; omega) (.slice A4 m4 c4), fun t ht => ?_, by omega,
        (HB6.out.setCell (by show w.heap.size ≤ w.heap.size + 1; omega) _).setCell (by show w.heap.size ≤ w.heap.size + 1; omega) _⟩
      rw [HSS.out]
      exact zip_look hdl (by rw [← HSS.out]; exact (sort_perm ts).symm.subset ht)
end Go.Proofs.YtjjnbbkdjimcoaaGreat
