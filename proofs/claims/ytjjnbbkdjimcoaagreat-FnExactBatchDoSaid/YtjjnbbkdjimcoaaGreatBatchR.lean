/- Walk: the program's batch receives what waits in the channel. (Printed by gen_batchr.py.) -/
import Derived.Test.YtjjnbbkdjimcoaaGreatBatchB
import Derived.Test.YtjjnbbkdjimcoaaGreatChanV
namespace Go.Proofs.YtjjnbbkdjimcoaaGreat
set_option linter.unusedSimpArgs false
set_option linter.unusedVariables false
open Go Go.RowKit Go.Conc
attribute [local go_sem ↓] Go.wp_at_zero Go.wp_at_succ

theorem zero_snoc (dc : List Int) (c : Int) : (zeroP dc && (c == 0)) = zeroP (dc ++ [c]) := by simp [zeroP, List.all_append]
/-- Codes by numbers. -/
def zipL (ts : List Tk) (cs : List Int) : List (Int × Value) := List.zipWith (fun t c => (t.1, Value.int .i64 c)) ts cs
theorem zip_snoc {ts : List Tk} {cs : List Int} {t : Tk} {c : Int} (h : cs.length = ts.length) : zipL (ts ++ [t]) (cs ++ [c]) = zipL ts cs ++ [(t.1, .int .i64 c)] := by
  unfold zipL
  rw [List.zipWith_append h.symm]
  rfl
theorem zip_keys : ∀ {ts : List Tk} {cs : List Int} {p : Int × Value}, p ∈ zipL ts cs → ∃ t ∈ ts, t.1 = p.1
  | [], _, p, h => by simp [zipL] at h
  | t :: ts, [], p, h => by simp [zipL] at h
  | t :: ts, c :: cs, p, h => by
    unfold zipL at h
    rw [List.zipWith_cons_cons] at h
    rcases List.mem_cons.1 h with rfl | h
    · exact ⟨t, List.mem_cons_self .., rfl⟩
    · obtain ⟨t', h1, h2⟩ := zip_keys (ts := ts) (cs := cs) h
      exact ⟨t', List.mem_cons_of_mem _ h1, h2⟩
theorem zip_look : ∀ {ts : List Tk} {cs : List Int} {t : Tk}, cs.length = ts.length → t ∈ ts → lookL (zipL ts cs) t.1 = some (.int .i64 (lkP ts cs t.1))
  | [], _, t, _, h => by simp at h
  | s :: ts, [], t, h, _ => by simp at h
  | s :: ts, c :: cs, t, h, ht => by
    by_cases e : s.1 = t.1
    · simp [zipL, lookL, lkP, e]
    · have ht' : t ∈ ts := (List.mem_cons.1 ht).resolve_left (fun x => e (by rw [x]))
      have ih := zip_look (ts := ts) (cs := cs) (by simpa using h) ht'
      have e' : (s.1 == t.1) = false := by simpa using e
      unfold lookL zipL at ih ⊢
      rw [List.zipWith_cons_cons, List.find?_cons]
      simp only [e', lkP, if_neg e]
      exact ih
set_option maxRecDepth 200000 in
set_option maxHeartbeats 6400000 in
theorem batchRecv_any (s0 s1 s4 s5 s7 s8 s9 s10 s11 s14 s15 s16 s17 s18 s19 s20 s21 s22 s23 s24 s25 s26 s27 s28 s29 s30 s31 s32 s34 s35 s36 s37 s38 s39 s40 s41 s42 s43 s44 s45 s46 s47 s48 s49 s50 s51 s52 s53 s54 s55 s56 s57 s58 s59 s60 s61 s62 s63 s64 s65 : Value) (b0 base bm k : Nat) (g : Int) (A1 : Option Addr) (n1 c1 : Nat) (A2 : Option Addr) (n2 c2 : Nat) (room : List Int) (us : List Un) (ss : List Tk) (vs : List Value) (w5 : World) (K : Act → World → Prop) (Q0 : Exit → Act → World → Prop)
    (hg0 : 0 ≤ g) (hg1 : g ≤ 10) (hc : clOk room us = true) (hnd : (ss.map (·.1)).Nodup) (hm : IMap w5 bm []) (hch : ChV w5 (b0 + 2) k vs true) (ht : TkV w5 vs ss) (hx : Blk w5 b0 26 #[.slice A1 n1 c1, .slice A2 n2 c2]) (hr : Blk w5 (b0 + 1) 26 #[.slice none 0 0, .slice none 0 0])
    (ho : OwnC w5 base (.slice A1 n1 c1) (.slice A2 n2 c2) n1 n2 room us) (hbs : base ≤ w5.heap.size) (hbm : b0 + 2 < bm)
    (hK : ∀ (t0 t1 t4 t5 t7 t8 t9 t10 t11 t14 t15 t16 t17 t18 t19 t20 t21 t22 t23 t24 t25 t26 t27 t28 t29 t30 t31 t32 t34 t35 t36 t37 t38 t39 t40 t41 t42 t43 t44 t45 t46 t47 t48 t49 t50 t51 t52 t53 t54 t55 t56 t57 t58 t59 t60 t61 t62 t63 t64 t65 : Value) (gi : Int) (dc : List Int) (usi : List Un) (A3 : Option Addr) (m3 c3 : Nat) (A4 : Option Addr) (m4 c4 : Nat) (w' : World), runB room ss us g = (usi, dc) → dc.length = ss.length → IMap w' bm (zipL ss dc) → Blk w' b0 26 #[.slice A3 m3 c3, .slice A4 m4 c4] → Blk w' (b0 + 1) 26 #[.slice none 0 0, .slice none 0 0] →
      OwnC w' base (.slice A3 m3 c3) (.slice A4 m4 c4) m3 m4 room usi → Below b0 w5 w' → K ⟨#[t0, t1, .int .i64 gi, .pointer (some ⟨b0, 0, none⟩), t4, t5, .pointer (some ⟨b0 + 1, 0, none⟩), t7, t8, t9, t10, t11, .map (some bm), .bool (zeroP dc), t14, t15, t16, t17, t18, t19, t20, t21, t22, t23, t24, t25, t26, t27, t28, t29, t30, t31, t32, .chan (some (b0 + 2)), t34, t35, t36, t37, t38, t39, t40, t41, t42, t43, t44, t45, t46, t47, t48, t49, t50, t51, t52, t53, t54, t55, t56, t57, t58, t59, t60, t61, t62, t63, t64, t65], []⟩ w') :
    WpN Tryz.prog (sndC (fstC (sndC (sndC (sndC (sndC (sndC (Tryz.f47.body.getD .skip)))))))) (Exit.then K Q0) ⟨#[s0, s1, .int .i64 g, .pointer (some ⟨b0, 0, none⟩), s4, s5, .pointer (some ⟨b0 + 1, 0, none⟩), s7, s8, s9, s10, s11, .map (some bm), .bool true, s14, s15, s16, s17, s18, s19, s20, s21, s22, s23, s24, s25, s26, s27, s28, s29, s30, s31, s32, .chan (some (b0 + 2)), s34, s35, s36, s37, s38, s39, s40, s41, s42, s43, s44, s45, s46, s47, s48, s49, s50, s51, s52, s53, s54, s55, s56, s57, s58, s59, s60, s61, s62, s63, s64, s65], []⟩ w5 := by
  have Hnd := qh hnd
  simp only [sndC, fstC, inC, Tryz.f47, Option.getD_some]
  refine wpN_block ?_
  obtain ⟨I2, hI2⟩ : ∃ I : Act → World → Prop, I = (fun a wr => ∃ (gi : Int) (dn rest : List Tk) (dc : List Int) (usi : List Un) (vs : List Value) (A3 : Option Addr) (m3 c3 : Nat) (A4 : Option Addr) (m4 c4 : Nat), SL a [(2, .int .i64 gi), (3, .pointer (some ⟨b0, 0, none⟩)), (6, .pointer (some ⟨b0 + 1, 0, none⟩)), (12, .map (some bm)), (13, .bool (zeroP dc)), (33, .chan (some (b0 + 2)))] ∧ 0 ≤ gi ∧ gi ≤ 10 ∧ dn ++ rest = ss ∧ dc.length = dn.length ∧ clOk room usi = true ∧
    runB room ss us g = ((runB room rest usi gi).1, dc ++ (runB room rest usi gi).2) ∧ IMap wr bm (zipL dn dc) ∧ ChV wr (b0 + 2) k vs true ∧ TkV wr vs rest ∧ Blk wr b0 26 #[.slice A3 m3 c3, .slice A4 m4 c4] ∧ Blk wr (b0 + 1) 26 #[.slice none 0 0, .slice none 0 0] ∧
    OwnC wr base (.slice A3 m3 c3) (.slice A4 m4 c4) m3 m4 room usi ∧ Below b0 w5 wr ∧ base ≤ wr.heap.size) := ⟨_, rfl⟩
  have HI2 := qh hI2
  clear hI2
  refine wpN_loop I2 (fun _ wr => chN wr (b0 + 2)) ?_ ?_
  · rw [HI2.out]
    exact ⟨g, [], ss, [], us, vs, A1, n1, c1, A2, n2, c2, ⟨rfl, rfl, List.forall_mem_cons.2 ⟨rfl, List.forall_mem_cons.2 ⟨rfl, List.forall_mem_cons.2 ⟨rfl, List.forall_mem_cons.2 ⟨rfl, List.forall_mem_cons.2 ⟨rfl, List.forall_mem_cons.2 ⟨rfl, fun p hp => by cases hp⟩⟩⟩⟩⟩⟩⟩, hg0, hg1, rfl, rfl, hc, rfl, hm, hch, ht, hx, hr, ho, Below.refl _ _, hbs⟩
  · clear hm hch ht hx hr ho hbs hc hnd
    intro a wr hI
    rw [HI2.out] at hI
    obtain ⟨gi, dn, rest, dc, usi, vs, A3, m3, c3, A4, m4, c4, hsl, hgi0, hgi1, hdr, hdl, hcu, hrun, hm, hch, htk, hx, hr, hoc, hbw, hsz⟩ := hI
    obtain ⟨u, rfl, hu⟩ := hsl.lit
    simp only [List.forall_mem_cons] at hu
    obtain ⟨s2, s3, s6, s12, s13, s33, _⟩ := hu
    rw [s2, s3, s6, s12, s13, s33]
    clear hsl s2 s3 s6 s12 s13 s33
    have HM := qh hm
    have HCh := qh hch
    have HT := qh htk
    have HX := qh hx
    have HR := qh hr
    have HO := qh hoc
    have HB := qh hbw
    have HRun := qh hrun
    have HDR := qh hdr
    have HDL := qh hdl
    have HCu := qh hcu
    have lrc := HR.out.lt
    have lch := HCh.out.lt
    have lmb := HM.out.lt
    clear hm hch htk hx hr hoc hbw hrun hdr hdl hcu
    cases rest with
    | nil =>
      have hvs : vs = [] := List.eq_nil_of_length_eq_zero (by have := HT.out.1; simpa using this)
      subst hvs
      obtain ⟨sc, rc, tm, hchan⟩ := HCh.out
      refine wpN_ctl_k (fun K2 hK2 => ?_)
      refine wpN_region (show OpsN _ _ _ [0, 1] _ _ from ?_)
      refine opsN_shut (ch := b0 + 2) (cap := k) (s := sc) (r := rc) (tm := tm) (z := .agg #[.int .i64 0, .slice none 0 0]) (ok := true) (w1 := wr) rfl rfl (by simp [go_sem, rcase]) hchan ?_
      simp only [Act.put, pS, pZ, pC]
      refine opsN_value (v := .bool false) (w' := wr) rfl rfl (by simp [go_sem, got]) ?_
      simp only [Act.put, pS, pZ, pC]
      refine opsN_nil ?_
      refine hK2 _ _ ?_
      clear hK2 K2 hchan
      refine wpN_of ?_
      go_wp2_with fail
      have hdn : dn = ss := by have := HDR.out; rwa [List.append_nil] at this
      subst hdn
      have hr := HRun.out
      rw [runB] at hr
      dsimp only at hr
      rw [List.append_nil] at hr
      exact hK _ _ _ _ _ _ _ _ _ _ _ _ _ _ _ _ _ _ _ _ _ _ _ _ _ _ _ _ _ _ _ _ _ _ _ _ _ _ _ _ _ _ _ _ _ _ _ _ _ _ _ _ _ _ _ _ _ _ _ _ gi dc usi A3 m3 c3 A4 m4 c4 wr hr HDL.out HM.out HX.out HR.out HO.out HB.out
    | cons t rest =>
      obtain ⟨An, mn, cn, vs', rfl, hnd, htk'⟩ := HT.out.cons
      have HND := qh hnd
      have HT' := qh htk'
      clear hnd htk' HT
      obtain ⟨sc, rc, tm, hchan⟩ := HCh.out
      refine wpN_ctl_k (fun K2 hK2 => ?_)
      refine wpN_region (show OpsN _ _ _ [0, 1] _ _ from ?_)
      refine opsN_recv (ch := b0 + 2) (cap := k) (s := sc) (r := rc) (tm := tm) (z := .agg #[.int .i64 0, .slice none 0 0]) (ok := true) (closed := true) (w1 := wr) rfl rfl (by simp [go_sem, rcase]) hchan (by simp) ?_
      have eg : (List.toArray (Value.agg #[.int .i64 t.1, .slice An mn cn] :: vs')).getD 0 undef = .agg #[.int .i64 t.1, .slice An mn cn] := by simp
      have ee : (List.toArray (Value.agg #[.int .i64 t.1, .slice An mn cn] :: vs')).extract 1 (List.toArray (Value.agg #[.int .i64 t.1, .slice An mn cn] :: vs')).size = vs'.toArray := by simp
      rw [eg, ee]
      simp only [Act.put, pS, pZ, pC]
      refine opsN_value (v := .bool true) (w' := wr.setChan (b0 + 2) k vs'.toArray true sc (rc + 1) tm) rfl rfl (by simp [go_sem, got]) ?_
      simp only [Act.put, pS, pZ, pC]
      refine opsN_nil ?_
      refine hK2 _ _ ?_
      have sb := set_block HCh.out vs'.toArray true sc (rc + 1) tm
      have H6 := qh (set_chan HCh.out vs' true sc (rc + 1) tm)
      have C6 := qh (HO.out.keepTU (HCh.out.tu sb))
      have T6 := qh (HT'.out.keep (HCh.out.ti sb))
      have N6 := qh (own_keepTI HND.out (.inl rfl) (HCh.out.ti sb))
      have X6 := qh (show Blk (wr.setChan (b0 + 2) k vs'.toArray true sc (rc + 1) tm) b0 26 #[.slice A3 m3 c3, .slice A4 m4 c4] from (sb b0 HX.out.lt (by omega)).trans HX.out)
      have R6 := qh (show Blk (wr.setChan (b0 + 2) k vs'.toArray true sc (rc + 1) tm) (b0 + 1) 26 #[.slice none 0 0, .slice none 0 0] from (sb (b0 + 1) HR.out.lt (by omega)).trans HR.out)
      have hbmn : bm ≠ b0 + 2 := by omega
      have M6 := qh (HM.out.of_block (sb bm HM.out.lt hbmn))
      have B6 := qh (below_setChan HB.out (show b0 ≤ b0 + 2 by omega) k vs'.toArray true sc (rc + 1) tm)
      have s6 := size_setChan wr (b0 + 2) k vs'.toArray true sc (rc + 1) tm
      have hN6 := HCh.out.num
      rw [List.length_cons] at hN6
      have hbs6 : base ≤ (wr.setChan (b0 + 2) k vs'.toArray true sc (rc + 1) tm).heap.size := by omega
      clear hK2 K2 eg ee sb HCh HO HT' HND HX HR HM HB hchan
      generalize wr.setChan (b0 + 2) k vs'.toArray true sc (rc + 1) tm = w6 at H6 C6 T6 N6 X6 R6 M6 B6 s6 hbs6 ⊢
      refine wpN_seq_k (fun K2 hK2 => ?_)
      go_wp2_with fail
      refine wpN_of ?_
      have hnl : lookL (zipL dn dc) t.1 = none := lookL_none (fun p hp he => by
        obtain ⟨t', h1, h2⟩ := zip_keys hp
        have hnd := Hnd.out
        rw [← HDR.out, List.map_append, List.nodup_append] at hnd
        exact hnd.2.2 t'.1 (List.mem_map_of_mem h1) t.1 (by simp) (h2.trans he))
      refine batchRound_any _ _ _ _ _ _ _ _ _ _ _ _ _ _ _ _ _ _ _ _ _ _ _ _ _ _ _ _ _ _ _ _ _ _ _ _ _ _ _ _ _ _ _ _ _ _ _ _ _ _ _ _ _ _ _ _ _ _ b0 (b0 + 1) bm (b0 + 2) base gi (zeroP dc) t.1 t.2 An mn cn A3 A4 m3 c3 m4 c4 room usi (zipL dn dc) w6 _ _ X6.out C6.out M6.out N6.out hbs6 HCu.out hnl hgi0 hgi1 ?_
      intro v0 v1 v2 v3 v4 v5 v6 v7 v8 v9 v10 v11 v12 v13 v14 v15 v16 v17 v18 v19 v20 v21 v22 v23 v24 v25 v26 v27 v28 v29 v30 v31 v32 v33 v34 v35 v36 v37 v38 v39 v40 v41 v42 v43 v44 v45 v46 v47 v48 v49 v50 v51 v52 v53 v54 v55 v56 v57 v58 v59 A5 m5 c5 A6 m6 c6 w7 hx7 ho7 hm7 hf7
      have hcu7 := (cav_facts (id := t.1) (xs := t.2) (g := decide (0 < gi)) HCu.out).2.1
      have hop := cav_open (id := t.1) (xs := t.2) (g := decide (0 < gi)) HCu.out
      have lch6 := H6.out.lt
      have lr6 := R6.out.lt
      have H7 := qh (H6.out.of_block (hf7.block (b0 + 2) lch6 (by omega) (fun e => hbmn e.symm)))
      refine ⟨?_, ?_⟩
      · rw [HI2.out]
        refine ⟨(gi - ((openN (cavP room usi t.1 t.2 (decide (0 < gi))).2.1 : Int) - openN usi)), dn ++ [t], rest, dc ++ [(cavP room usi t.1 t.2 (decide (0 < gi))).2.2], (cavP room usi t.1 t.2 (decide (0 < gi))).2.1, vs', A5, m5, c5, A6, m6, c6, ?_, ?_, ?_, ?_, ?_, hcu7, ?_, ?_, H7.out, T6.out.keep (fun b hb => ?_), hx7, ?_, ho7, ?_, ?_⟩
        · rw [zero_snoc]
          exact ⟨rfl, rfl, List.forall_mem_cons.2 ⟨rfl, List.forall_mem_cons.2 ⟨rfl, List.forall_mem_cons.2 ⟨rfl, List.forall_mem_cons.2 ⟨rfl, List.forall_mem_cons.2 ⟨rfl, List.forall_mem_cons.2 ⟨rfl, fun p hp => by cases hp⟩⟩⟩⟩⟩⟩⟩
        · rcases hop with h | ⟨h1, h2, h3⟩
          · omega
          · have := of_decide_eq_true h1; omega
        · rcases hop with h | ⟨h1, h2, h3⟩ <;> omega
        · rw [List.append_assoc]; exact HDR.out
        · simp [HDL.out]
        · rw [HRun.out, runB, List.append_assoc]; rfl
        · rw [zip_snoc HDL.out]; exact hm7
        · obtain ⟨t', cs', ht', hc⟩ := hb
          refine hf7.block b hc.lt (fun e => blk_ne hc X6.out (by rcases ht' with rfl | rfl <;> decide) e) (fun e => ?_)
          obtain ⟨es, clock, h1, _⟩ := M6.out
          unfold Blk at hc
          rw [e, h1] at hc
          cases hc
        · exact (hf7.block (b0 + 1) lr6 (by omega) (fun e => by omega)).trans R6.out
        · exact OnlyQ.to_below B6.out hf7 (Nat.le_refl _) (by omega) (by omega)
        · have := hf7.size; omega
      · simp only [H7.out.num]
        omega
end Go.Proofs.YtjjnbbkdjimcoaaGreat
