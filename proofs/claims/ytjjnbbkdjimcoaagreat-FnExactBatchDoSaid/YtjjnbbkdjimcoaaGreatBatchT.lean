/- Walk (the reference): BatchDo. -/
import Derived.Test.YtjjnbbkdjimcoaaGreatBatchS
import Derived.Test.YtjjnbbkdjimcoaaGreatJ6
import Derived.Test.YtjjnbbkdjimcoaaGreatJ3
import Derived.Test.YtjjnbbkdjimcoaaGreatDone
namespace Go.Proofs.YtjjnbbkdjimcoaaGreat
set_option linter.unusedSimpArgs false
set_option linter.unusedVariables false
open Go Go.RowKit
attribute [local go_sem ↓] Go.wp_at_zero Go.wp_at_succ

theorem OwnCR.keepge {w w' : World} {base m1 m2 : Nat} {v1 v2 : Value} {room : List Int} {us : List Un} (h : OwnCR w base v1 v2 m1 m2 room us) (hk : ∀ b, base ≤ b → b < w.heap.size → w'.heap[b]? = w.heap[b]?) : OwnCR w' base v1 v2 m1 m2 room us := by
  obtain ⟨h1, vs, tk, h2, h3⟩ := h
  have kp : ∀ {t : TypeId} {s n : Nat} {v : Value} {xs : List Value}, w.ownsRow base t s v n xs → w'.ownsRow base t s v n xs := fun ho => own_keep ho (fun b hb => hk b (ho.lt b hb).1 (ho.lt b hb).2)
  refine ⟨kp h1, vs, tk, kp h2, h3.1, h3.2.1, fun j hj => ?_, h3.2.2.2⟩
  obtain ⟨e1, e2, A, m, c, vt, e3, e4, e5⟩ := h3.2.2.1 j hj
  refine ⟨e1, e2, A, m, c, vt, e3, kp e4, e5.1, e5.2.1, fun i hi => ?_⟩
  obtain ⟨A', k, c', g1, g2, g3⟩ := e5.2.2 i hi
  exact ⟨A', k, c', g1, g2, kp g3⟩

theorem OwnTs.keepTI {w w' : World} {base n : Nat} {v : Value} {ts : List Tk} (h : OwnTs w base v n ts) (hk : KeepTI w w') : OwnTs w' base v n ts := by
  obtain ⟨vs, nd, h1, h2⟩ := h
  refine ⟨vs, nd, own_keepTI h1 (.inr rfl) hk, h2.1, fun j hj => ?_, h2.2.2⟩
  obtain ⟨e1, e2, A, m, c, e3, e4⟩ := h2.2.1 j hj
  exact ⟨e1, e2, A, m, c, e3, own_keepTI e4 (.inl rfl) hk⟩
theorem lk_none : ∀ {ss : List Tk} {cs : List Int} {id : Int}, (∀ t ∈ ss, t.1 ≠ id) → lkP ss cs id = 0
  | [], _, _, _ => rfl
  | s :: ss, [], _, _ => rfl
  | s :: ss, c :: cs, id, h => by rw [lkP, if_neg (h s (List.mem_cons_self ..)), lk_none (fun t ht => h t (List.mem_cons_of_mem _ ht))]
theorem lk_snoc_ne : ∀ {ss : List Tk} {cs : List Int} {s : Tk} {c id : Int}, cs.length = ss.length → s.1 ≠ id → lkP (ss ++ [s]) (cs ++ [c]) id = lkP ss cs id
  | [], [], s, c, id, _, h => by rw [List.nil_append, List.nil_append, lkP, if_neg h]
  | [], _ :: _, _, _, _, h, _ => by simp at h
  | t :: ss, [], _, _, _, h, _ => by simp at h
  | t :: ss, d :: cs, s, c, id, h, hn => by
    rw [List.cons_append, List.cons_append, lkP, lkP, lk_snoc_ne (by simpa using h) hn]
theorem lk_snoc_eq : ∀ {ss : List Tk} {cs : List Int} {s : Tk} {c : Int}, cs.length = ss.length → (∀ t ∈ ss, t.1 ≠ s.1) → lkP (ss ++ [s]) (cs ++ [c]) s.1 = c
  | [], [], s, c, _, _ => by rw [List.nil_append, List.nil_append, lkP, if_pos rfl]
  | [], _ :: _, _, _, h, _ => by simp at h
  | t :: ss, [], _, _, h, _ => by simp at h
  | t :: ss, d :: cs, s, c, h, hn => by
    rw [List.cons_append, List.cons_append, lkP, if_neg (hn t (List.mem_cons_self ..)), lk_snoc_eq (by simpa using h) (fun x hx => hn x (List.mem_cons_of_mem _ hx))]
theorem told_atS {ts ss : List Tk} {cs : List Int} {k : Nat} (hk : k < ts.length) : (toldP ts ss cs)[k]? = some (lkP ss cs (gTk ts k).1) := by
  unfold toldP gTk
  rw [List.getElem?_map, List.getElem?_eq_getElem hk]
  rfl
theorem told_set {ts ss : List Tk} {cs : List Int} {s : Tk} {c : Int} {j : Nat} (hl : cs.length = ss.length) (hn : ∀ t ∈ ss, t.1 ≠ s.1) (hd : (ts.map (·.1)).Nodup) (hj : j < ts.length) (he : (gTk ts j).1 = s.1) : (toldP ts ss cs).set j c = toldP ts (ss ++ [s]) (cs ++ [c]) := by
  have hej : (ts[j]'hj).1 = s.1 := by unfold gTk at he; rwa [List.getElem?_eq_getElem hj] at he
  refine List.ext_getElem? (fun i => ?_)
  rw [List.getElem?_set]
  by_cases e : j = i
  · subst e
    rw [if_pos rfl, if_pos (by rw [told_len]; exact hj), told_atS hj, he, lk_snoc_eq hl hn]
  · rw [if_neg e]
    by_cases hi : i < ts.length
    · have hne : s.1 ≠ (gTk ts i).1 := fun h => by
        have hp := List.pairwise_iff_getElem.1 hd
        have hgi : (gTk ts i).1 = (ts[i]'hi).1 := by unfold gTk; rw [List.getElem?_eq_getElem hi]; rfl
        rw [hgi] at h
        rcases Nat.lt_or_ge i j with hlt | hge
        · have := hp i j (by rw [List.length_map]; exact hi) (by rw [List.length_map]; exact hj) hlt
          rw [List.getElem_map, List.getElem_map] at this
          exact this (by rw [← h, hej])
        · have := hp j i (by rw [List.length_map]; exact hj) (by rw [List.length_map]; exact hi) (by omega)
          rw [List.getElem_map, List.getElem_map] at this
          exact this (by rw [← h, hej])
      rw [told_atS hi, told_atS hi, lk_snoc_ne hl hne]
    · rw [List.getElem?_eq_none (by rw [told_len]; omega), List.getElem?_eq_none (by rw [told_len]; omega)]
theorem told_nil (ts : List Tk) : toldP ts [] [] = List.replicate ts.length 0 := by
  refine List.ext_getElem? (fun i => ?_)
  by_cases hi : i < ts.length
  · rw [told_atS hi, List.getElem?_replicate, if_pos hi]; rfl
  · rw [List.getElem?_eq_none (by rw [told_len]; omega), List.getElem?_eq_none (by rw [List.length_replicate]; omega)]
theorem madeInts (n : Nat) : madeCells (Value.int .i64 0).cells (n * 1) = ((List.replicate n (0 : Int)).map (Value.int .i64)).toArray := by
  rw [Nat.mul_one]
  have h : (madeCells (Value.int .i64 0).cells n).toList = List.replicate n (Value.int .i64 0) := toList_madeCells_one _ _
  rw [List.map_replicate, ← h]
theorem openN_leS (us : List Un) : openN us ≤ us.length := List.length_filter_le _ _

set_option maxRecDepth 100000 in
set_option maxHeartbeats 6400000 in
theorem batchDoS_any (A1 A2 A : Option Addr) (n1 c1 n2 c2 n c : Nat) (g : Int) (room : List Int) (us : List Un) (ts : List Tk) (w : World) (h : RdC w A1 A2 n1 n2 room us) (hs : ShV us) (ht : RdT w w.heap.size A n ts) :
    Calls Tryz.prog 22 #[.agg #[.slice A1 n1 c1, .slice A2 n2 c2], .slice A n c, .int .i64 g] w fun e w' => ∃ A3 m3 c3 A4 m4 c4 A5 m5 c5, e = .returned (.tuple #[.agg #[.slice A3 m3 c3, .slice A4 m4 c4], .slice A5 m5 c5]) ∧
      OwnCR w' w.heap.size (.slice A3 m3 c3) (.slice A4 m4 c4) m3 m4 (batP room us ts g).1 (batP room us ts g).2.1 ∧ RdI w' w'.heap.size A5 m5 (batP room us ts g).2.2 ∧ Below w.heap.size w w' := by
  obtain ⟨j0, hj0, jz0, jz1, jz2⟩ := info_parts ownI_info
  have al0 := alloc_up w (.cells #[.slice A1 n1 c1, .slice A2 n2 c2] 26)
  have B0 := qh (al0.alloc al0.size (.cells #[.slice none 0 0, .slice none 0 0] 26))
  have X0 := qh ((Blk.new w 26 #[.slice A1 n1 c1, .slice A2 n2 c2]).alloc (.cells #[.slice none 0 0, .slice none 0 0] 26))
  have r0 := Blk.new (w.alloc (.cells #[.slice A1 n1 c1, .slice A2 n2 c2] 26)) 26 #[.slice none 0 0, .slice none 0 0]
  rw [World.size_alloc] at r0
  have R0 := qh r0
  have C0 := qh (h.up B0.out)
  have T0 := qh (ht.up B0.out)
  have HT0 := qh ht
  have Hs := qh hs
  have Hl := qh ht.len
  clear al0 r0 h hs ht
  have x0 := X0.out.cell 0
  have x1 := X0.out.cell 1
  simp only [gT, gZ, gS] at x0 x1
  go_enter Tryz.func22, Tryz.ntmps22
  go_wp2_with fail
  have ls0 := B0.out.size
  generalize (w.alloc (.cells #[.slice A1 n1 c1, .slice A2 n2 c2] 26)).alloc (.cells #[.slice none 0 0, .slice none 0 0] 26) = w0 at B0 X0 R0 C0 T0 x0 x1 ls0 ⊢
  refine (l22Ok_any A1 A2 A n1 c1 n2 c2 n c g room us ts w0 C0.out Hs.out T0.out).mono ?_; rintro e w1 ⟨rfl, hb1⟩
  have B1 := qh (B0.out.trans (hb1.mono ls0))
  have X1 := qh (X0.out.below hb1 X0.out.lt)
  have R1 := qh (R0.out.below hb1 R0.out.lt)
  have C1 := qh (C0.out.up hb1)
  have T1 := qh (T0.out.up hb1)
  have ls1 := B1.out.size
  clear hb1 B0 X0 R0 C0 T0 x0 x1 ls0
  cases hok : bokP room us ts g with
  | false =>
    have Hbat := qh (show batP room us ts g = ([], [], []) from by unfold batP; rw [if_neg (by rw [hok]; simp)])
    clear hok
    have al := alloc_up w1 (.cells #[] 3)
    have B2 := qh (B1.out.trans (al.mono ls1))
    have R2 := qh (R1.out.below al R1.out.lt)
    have r1 := R2.out.cell 0
    have r2 := R2.out.cell 1
    simp only [gT, gZ, gS] at r1 r2
    have f0 := R2.out.frozen 0
    have f1 := R2.out.frozen 1
    clear al
    have R9 := qh ((R2.out.set_ 0 (.slice none 0 0)).set_ 1 (.slice none 0 0))
    have z0 := R9.out.cell 0
    have z1 := R9.out.cell 1
    simp only [pS, pZ, pC, gT, gZ, gS] at z0 z1
    have B9 := qh (show Below w.heap.size w (((w1.alloc (.cells #[] 3)).setCell ⟨w.heap.size + 1, 0, none⟩ (.slice none 0 0)).setCell ⟨w.heap.size + 1, 1, none⟩ (.slice none 0 0)) from (B2.out.setCell (by show w.heap.size ≤ w.heap.size + 1; omega) _).setCell (by show w.heap.size ≤ w.heap.size + 1; omega) _)
    go_wp2_with fail
    refine bodyPost_ret (v := .tuple #[.agg #[.slice none 0 0, .slice none 0 0], .slice (some ⟨w1.heap.size, 0, none⟩) 0 0]) (by simp [results, Tryz.results22, go_sem, z0, z1]) rfl ?_
    rw [Hbat.out]
    exact ⟨none, 0, 0, none, 0, 0, _, 0, 0, rfl, OwnCR.none, RdI.nil, B9.out⟩
  | true =>
    have Hok := qh hok
    have hcok := (bok_iff.1 hok).1
    have hto := (bok_iff.1 hok).2.1
    have hg0 := (bok_iff.1 hok).2.2.1
    have hg1 := (bok_iff.1 hok).2.2.2
    have hn14 : n ≤ 14 := by rw [← Hl.out]; unfold tasksOk at hto; simp only [Bool.and_eq_true, decide_eq_true_eq] at hto; exact hto.1.1.2
    have Hbat := qh (show batP room us ts g = (room, (batR room us ts g).1, toldP ts (sortP ts) (batR room us ts g).2) from by unfold batP; rw [if_pos hok])
    have HSm := qh (sm_okS hto)
    have Hto := qh hto
    have Hcl := qh hcok
    have HS := qh (clOk_sh hcok)
    have hr3 : room.length = 3 := (clOk_facts hcok).1
    have hn1 := C1.out.a.len
    have Hnd := qh (tasks_nodup hto)
    clear hok hto hcok
    have hmk := fun W : World => run_make_n (P := Tryz.prog) 23 3 j0 _ Tryz.underlying23 hj0 jz0 n (by rw [jz2]; omega) (by omega) W
    simp only [jz1] at hmk
    have hmc : madeCells (Value.int .i64 0).cells (n * 1) = ((toldP ts [] []).map (Value.int .i64)).toArray := by
      rw [told_nil, Hl.out]
      exact madeInts n
    rw [hmc] at hmk
    clear hmc
    have x0 := X1.out.cell 0
    have x1 := X1.out.cell 1
    simp only [gT, gZ, gS] at x0 x1
    have al := alloc_up w1 (.cells ((toldP ts [] []).map (Value.int .i64)).toArray 3)
    have B2 := qh (B1.out.trans (al.mono ls1))
    have X2 := qh (X1.out.below al X1.out.lt)
    have R2 := qh (R1.out.below al R1.out.lt)
    have C2 := qh (C1.out.up al)
    have T2 := qh (T1.out.up al)
    have D2 := qh (Blk.new w1 3 ((toldP ts [] []).map (Value.int .i64)).toArray)
    have ls2 := B2.out.size
    have lrg := R1.out.lt
    clear al B1 X1 R1 C1 T1 x0 x1
    go_upto_region 4 with fail
    generalize hgcn : w1.heap.size = gc at D2 ls1 lrg ⊢
    generalize w1.alloc (.cells ((toldP ts [] []).map (Value.int .i64)).toArray 3) = w2 at B2 X2 R2 C2 T2 D2 ls2 ⊢
    clear hgcn hmk
    have x0 := X2.out.cell 0
    have x1 := X2.out.cell 1
    simp only [gT, gZ, gS] at x0 x1
    go_wp2_with fail
    refine (l21Copy_any A1 A2 n1 c1 n2 c2 room us w2 C2.out HS.out (by omega)).mono ?_; rintro e w3 ⟨A3, c3, A4, c4, rfl, hoc, hb3⟩
    have lgc2 : gc + 1 ≤ w2.heap.size := D2.out.lt
    have B3 := qh (B2.out.trans (hb3.mono ls2))
    have X3 := qh (X2.out.below hb3 X2.out.lt)
    have R3 := qh (R2.out.below hb3 R2.out.lt)
    have C3 := qh (C2.out.up hb3)
    have T3 := qh (T2.out.up hb3)
    have D3 := qh (D2.out.below hb3 D2.out.lt)
    have O3 := qh ((OwnCR.of hoc).low lgc2)
    have ls3 := B3.out.size
    clear hoc hb3 B2 X2 R2 C2 T2 D2 x0 x1 ls2
    have al := alloc_up w3 (.cells #[.slice A3 n1 c3, .slice A4 n2 c4] 26)
    have B4 := qh (B3.out.trans (al.mono ls3))
    have X4 := qh (X3.out.below al X3.out.lt)
    have R4 := qh (R3.out.below al R3.out.lt)
    have C4 := qh (C3.out.up al)
    have T4 := qh (T3.out.up al)
    have D4 := qh (D3.out.below al D3.out.lt)
    have O4 := qh (O3.out.keepTU (KeepTU.up al))
    have Z4 := qh (Blk.new w3 26 #[.slice A3 n1 c3, .slice A4 n2 c4])
    have ls4 := B4.out.size
    have lgc3 := D3.out.lt
    clear al B3 X3 R3 C3 T3 D3 O3
    go_upto_region 5 with fail
    generalize hgx : w3.heap.size = gx at Z4 lgc3 ⊢
    generalize w3.alloc (.cells #[.slice A3 n1 c3, .slice A4 n2 c4] 26) = w4 at B4 X4 R4 C4 T4 D4 O4 Z4 ls4 ⊢
    clear hgx ls3
    have x0 := X4.out.cell 0
    simp only [gT, gZ] at x0
    go_wp2_with fail
    refine (tasksSort_any A1 A n1 c1 n c room ts w4 C4.out.a T4.out Hto.out).mono ?_; rintro e w5 ⟨As, cs, rfl, hts, hb5⟩
    have lgc4 : gc + 1 ≤ w4.heap.size := by have := Z4.out.lt; omega
    have HTS := qh (show OwnTs w5 (gc + 1) (.slice As n cs) n (sortP ts) from by
      obtain ⟨vs, nd, ho, hn⟩ := hts
      exact ⟨vs, nd, own_lo ho lgc4, hn.down lgc4⟩)
    have B5 := qh (B4.out.trans (hb5.mono ls4))
    have R5 := qh (R4.out.below hb5 R4.out.lt)
    have T5 := qh (T4.out.up hb5)
    have D5 := qh (D4.out.below hb5 D4.out.lt)
    have O5 := qh (O4.out.keepTU (KeepTU.up hb5))
    have Z5 := qh (Z4.out.below hb5 Z4.out.lt)
    have ls5 := B5.out.size
    have HSs := qh (HSm.out.perm (sort_perm ts))
    have hsl : (sortP ts).length = n := by rw [sort_len]; exact Hl.out
    have HPm := qh (sort_perm ts)
    have HNs := qh ((List.Perm.nodup_iff ((sort_perm ts).map (·.1))).2 Hnd.out)
    have hruneq : batR room us ts g = runB room (sortP ts) us g := rfl
    have HRe := qh hruneq
    clear hts hb5 B4 X4 R4 C4 T4 D4 O4 Z4 x0 ls4 hruneq
    generalize hss : sortP ts = ss at HTS HSs hsl HPm HNs HRe Hbat
    have Hsl := qh hsl
    clear hss hsl
    -- the loop
    go_wp2_with fail
    go_loopw [2, 11] (fun gv kv wr => ∃ (k : Nat) (gi : Int) (usi : List Un) (dc : List Int) (A3 : Option Addr) (m3 c3 : Nat) (A4 : Option Addr) (m4 c4 : Nat), kv = .int .i64 (k : Nat) ∧ k ≤ n ∧ gv = .int .i64 gi ∧ 0 ≤ gi ∧ gi ≤ 10 ∧ clOk room usi = true ∧ dc.length = k ∧
      runB room ss us g = ((runB room (ss.drop k) usi gi).1, dc ++ (runB room (ss.drop k) usi gi).2) ∧ Below w.heap.size w wr ∧ Blk wr gc 3 ((toldP ts (ss.take k) dc).map (Value.int .i64)).toArray ∧ Blk wr gx 26 #[.slice A3 m3 c3, .slice A4 m4 c4] ∧ Blk wr (w.heap.size + 1) 26 #[.slice none 0 0, .slice none 0 0] ∧
      OwnCR wr (gc + 1) (.slice A3 m3 c3) (.slice A4 m4 c4) m3 m4 room usi ∧ OwnTs wr (gc + 1) (.slice As n cs) n ss) (fun _ kv _ => n - (intOf kv).toNat)
    case atStart => exact ⟨0, g, us, [], A3, n1, c3, A4, n2, c4, rfl, Nat.zero_le _, rfl, hg0, hg1, Hcl.out, rfl, rfl, B5.out, D5.out, Z5.out, R5.out, O5.out, HTS.out⟩
    case round =>
      clear B5 D5 Z5 R5 O5 HTS ls5 T5
      obtain ⟨k, gi, usi, dc, A3, m3, c3, A4, m4, c4, rfl, hk, rfl, hgi0, hgi1, hcu, hdl, hrun, hb, hd, hz, hr, ho, hts⟩ := hrel
      have B0 := qh hb
      have D0 := qh hd
      have Z0 := qh hz
      have R0 := qh hr
      have O0 := qh ho
      have TS0 := qh hts
      have HRun := qh hrun
      have HDL := qh hdl
      have HCu := qh hcu
      have lb0 := hb.size
      have hul := ho.len.2.1
      have hu10 := (clOk_facts hcu).2.2.1
      have hm3 : m3 ≤ 1000 := by have := ho.len.1; have := (clOk_facts hcu).1; omega
      clear hb hd hz hr ho hts hrun hdl hcu
      by_cases hlt : k < n
      · have q1 : (0 : Int) ≤ (k : Int) := by omega
        have q2 : (k : Int) < (n : Int) := by omega
        have q3 : 0 ≤ (k : Int) * 2 := by omega
        have v1 : IntKind.i64.wrap ((k : Int) + 1) = (k : Int) + 1 := wr64 (by omega) (by omega)
        have hks : k < ss.length := by have := Hsl.out; omega
        have hmem : gTk ss k ∈ ss := by unfold gTk; rw [List.getElem?_eq_getElem hks]; exact List.getElem_mem hks
        have hdr : ss.drop k = gTk ss k :: ss.drop (k + 1) := by rw [List.drop_eq_getElem_cons hks]; unfold gTk; rw [List.getElem?_eq_getElem hks]; rfl
        have htk : ss.take (k + 1) = ss.take k ++ [gTk ss k] := by rw [List.take_succ_eq_append_getElem hks]; unfold gTk; rw [List.getElem?_eq_getElem hks]; rfl
        have hno : ∀ t ∈ ss.take k, t.1 ≠ (gTk ss k).1 := by
          have hn := HNs.out
          rw [← List.take_append_drop k ss, hdr, List.map_append, List.nodup_append] at hn
          intro t ht he
          exact hn.2.2 t.1 (List.mem_map_of_mem ht) (gTk ss k).1 (by simp) he
        obtain ⟨j, hj, hje⟩ : ∃ j, j < ts.length ∧ gTk ts j = gTk ss k := by
          obtain ⟨j, hj, he⟩ := List.getElem_of_mem (HPm.out.subset hmem)
          refine ⟨j, hj, ?_⟩
          rw [← he]
          unfold gTk
          rw [List.getElem?_eq_getElem hj]
          rfl
        have Hdr := qh hdr
        have Htk := qh htk
        have Hno := qh hno
        have Hje := qh hje
        have hjn : j < n := by have := Hl.out; omega
        have hnd : (gTk ss k).2.length ≤ 1000 := (HSs.out (gTk ss k) hmem).1
        have rdS := OwnTs.rd TS0.out (by omega) (fun t ht => by have := (HSs.out t ht).1; omega)
        obtain ⟨b, o, An, mn, cn, hAs, lbs, d1, d2, hmn, hrd⟩ := rdS.at_ hlt
        change wr.cell? _ = some (.int .i64 (gTk ss k).1) at d1
        change RdI wr wr.heap.size An mn (gTk ss k).2 at hrd
        obtain ⟨bs, hbs⟩ : ∃ vs nd, wr.ownsRow (gc + 1) 43 2 (.slice As n cs) n vs ∧ NdTs wr (gc + 1) n vs nd ss := TS0.out
        subst hAs
        have lbg : gc + 1 ≤ b := by
          obtain ⟨nd, ho, _⟩ := hbs
          exact (ho.lt b rfl).1
        have HRD := qh hrd
        have HMN := qh hmn
        clear hbs hdr htk hno hje hmem rdS hrd hmn bs
        have x0 := Z0.out.cell 0
        have x1 := Z0.out.cell 1
        simp only [gT, gZ, gS] at x0 x1
        have C0 := qh O0.out.rd
        have HSc := qh (clOk_sh HCu.out)
        generalize hs : gTk ss k = s at *
        obtain ⟨ids, xss⟩ := s
        have Hs' := qh hs
        clear hs
        dsimp only at d1 HRD hnd
        go_wp2_with fail
        refine (l22Open_any A3 A4 m3 c3 m4 c4 room usi wr C0.out (by omega)).mono ?_; rintro e w1 ⟨rfl, hb1⟩
        have B1 := qh (B0.out.trans (hb1.mono lb0))
        have D1 := qh (D0.out.below hb1 D0.out.lt)
        have R1 := qh (R0.out.below hb1 R0.out.lt)
        have Z1 := qh (Z0.out.below hb1 Z0.out.lt)
        have O1 := qh (O0.out.keepTU (KeepTU.up hb1))
        have TS1 := qh (OwnTs.below TS0.out hb1)
        have lb1 := B1.out.size
        have d1' : w1.cell? ⟨b, o + k * 2, none⟩ = some (.int .i64 ids) := (hb1.cell (p := ⟨b, o + k * 2, none⟩) lbs).trans d1
        have d2' : w1.cell? ⟨b, o + k * 2 + 1, none⟩ = some (.slice An mn cn) := (hb1.cell (p := ⟨b, o + k * 2 + 1, none⟩) lbs).trans d2
        have HRD1 := qh (HRD.out.up hb1)
        have lbs1 : b < w1.heap.size := by have := hb1.size; omega
        clear hb1 B0 D0 R0 Z0 O0 TS0 x0 x1 d1 d2 C0 HRD lb0 lbs
        go_wp2_with fail
        have hbd := (Below.refl w1.heap.size w1).drew
        have B2 := qh (B1.out.trans (hbd.mono lb1))
        have D2 := qh (D1.out.below hbd D1.out.lt)
        have R2 := qh (R1.out.below hbd R1.out.lt)
        have Z2 := qh (Z1.out.below hbd Z1.out.lt)
        have O2 := qh (O1.out.keepTU (KeepTU.up hbd))
        have TS2 := qh (OwnTs.below TS1.out hbd)
        have lb2 := B2.out.size
        have e1 : w1.drew.cell? ⟨b, o + k * 2, none⟩ = some (.int .i64 ids) := d1'
        have e2 : w1.drew.cell? ⟨b, o + k * 2 + 1, none⟩ = some (.slice An mn cn) := d2'
        have HRD2 := qh (show RdI w1.drew w1.drew.heap.size An mn xss from HRD1.out)
        have lbs2 : b < w1.drew.heap.size := lbs1
        have x0 : w1.drew.cell? ⟨gx, 0, none⟩ = some (.slice A3 m3 c3) := Z1.out.cell 0
        have x1 : w1.drew.cell? ⟨gx, 1, none⟩ = some (.slice A4 m4 c4) := Z1.out.cell 1
        refine wp_region_mix (.take 0 (.take 1 (.take 2 (.take 3 (.take 4 (.take 5 (.take 6 (.fork 7 (.take 8 (.take 9 (.take 10 (.bar 11 (.bar 12 (.take 13 .nil)))))) 11 (.bar 7 (.take 8 (.take 9 (.take 10 (.bar 12 (.take 13 .nil)))))))))))))) (fun w' => w'.cell? ⟨gx, 0, none⟩ = some (.slice A3 m3 c3) ∧ w'.cell? ⟨gx, 1, none⟩ = some (.slice A4 m4 c4) ∧ w'.cell? ⟨b, o + k * 2, none⟩ = some (.int .i64 ids) ∧ w'.cell? ⟨b, o + k * 2 + 1, none⟩ = some (.slice An mn cn)) (by kernel_rfl) (by kernel_rfl) ⟨x0, x1, e1, e2⟩ (fun _ => ?_)
        have KS := qh (show ∀ W : World, Below w1.drew.heap.size w1.drew W → W.cell? ⟨gx, 0, none⟩ = some (.slice A3 m3 c3) ∧ W.cell? ⟨gx, 1, none⟩ = some (.slice A4 m4 c4) ∧ W.cell? ⟨b, o + k * 2, none⟩ = some (.int .i64 ids) ∧ W.cell? ⟨b, o + k * 2 + 1, none⟩ = some (.slice An mn cn) from
          fun W hW => ⟨(hW.cell (p := ⟨gx, 0, none⟩) Z2.out.lt).trans x0, (hW.cell (p := ⟨gx, 1, none⟩) Z2.out.lt).trans x1, (hW.cell (p := ⟨b, o + k * 2, none⟩) lbs2).trans e1, (hW.cell (p := ⟨b, o + k * 2 + 1, none⟩) lbs2).trans e2⟩)
        clear B1 D1 R1 Z1 O1 TS1 lb1 hbd d1' d2' HRD1 lbs1 x0 x1 e1 e2
        generalize w1.drew = u0 at B2 D2 R2 Z2 O2 TS2 lb2 HRD2 lbs2 KS ⊢
        have GX0 := qh Z2.out.lt
        have GR0 := qh R2.out.lt
        have U0 := qh (Below.refl u0.heap.size u0)
        have lgu : gc + 1 ≤ u0.heap.size := D2.out.lt
        repeat ((first | refine wpMix_skip (by rfl) (by rfl) ?_ | (refine wpMix_take (v := ?_) (by rfl) (by rfl) (fun wS hSt => ?_) ?_; rotate_left; (focus ((try dsimp only at hSt); (go_simp <;> with_reducible rfl); done)))); (try simp only [Act.put, pS, pZ, pC]))
        refine wpMix_fork (by rfl) (by rfl) (fun K hK => ?_) (fun K hK => ?_)
        · go_simp
          refine (clusterArrive_any A3 A4 An m3 c3 m4 c4 mn cn room usi ids xss (decide (0 < gi)) u0 O2.out.rd HSc.out (by omega) (HRD2.out) HMN.out).mono ?_; rintro e u1 ⟨A5, m5, c5, A6, m6, c6, rfl, hoc, hbn⟩
          obtain ⟨e1, hcu7, _, _⟩ := cav_facts (id := ids) (xs := xss) (g := decide (0 < gi)) HCu.out
          rw [e1] at hoc
          have HCn := qh hcu7
          clear e1 hcu7
          have B3 := qh (B2.out.trans (hbn.mono lb2))
          have D3 := qh (D2.out.below hbn D2.out.lt)
          have R3 := qh (R2.out.below hbn R2.out.lt)
          have Z3 := qh (Z2.out.below hbn Z2.out.lt)
          have O3 := qh (O2.out.keepTU (KeepTU.up hbn))
          have TS3 := qh (OwnTs.below TS2.out hbn)
          have lb3 := B3.out.size
          have ON3 := qh (hoc.low lgu)
          have U1 := qh hbn
          ((try dsimp only); refine nxK hK _ _ (KS.out _ U1.out) ?_; clear hK K; (try simp only [Act.put, pS, pZ, pC]))
          clear hoc hbn
          repeat ((first | refine wpMix_skip (by rfl) (by rfl) ?_ | (refine wpMix_take (v := ?_) (by rfl) (by rfl) (fun wS hSt => ?_) ?_; rotate_left; (focus ((try dsimp only at hSt); (go_simp <;> with_reducible rfl); done)))); (try simp only [Act.put, pS, pZ, pC]))
          (refine wpMix_bar (by rfl) (fun K hK => ?_); go_simp)
          have al := alloc_up u1 (.cells #[.slice none 0 0, .slice none 0 0] 26)
          have U2 := qh (U1.out.trans (al.mono U1.out.size))
          have B4 := qh (B3.out.trans (al.mono lb3))
          have D4 := qh (D3.out.below al D3.out.lt)
          have R4 := qh (R3.out.below al R3.out.lt)
          have Z4 := qh (Z3.out.below al Z3.out.lt)
          have O4 := qh (O3.out.keepTU (KeepTU.up al))
          have TS4 := qh (OwnTs.below TS3.out al)
          have lb4 := B4.out.size
          have ON4 := qh (ON3.out.keepTU (KeepTU.up al))
          have BX4 := qh (Blk.new u1 26 #[.slice none 0 0, .slice none 0 0])
          have lu1 : u0.heap.size ≤ u1.heap.size := U1.out.size
          ((try dsimp only); refine nxK hK _ _ (KS.out _ U2.out) ?_; clear hK K; (try simp only [Act.put, pS, pZ, pC]))
          clear al B2 D2 R2 Z2 O2 TS2 B3 D3 R3 Z3 O3 TS3 ON3 U1 lb2 lb3
          generalize u1.heap.size = bn at BX4 lu1 ⊢
          generalize u1.alloc (.cells #[.slice none 0 0, .slice none 0 0] 26) = u2 at U2 B4 D4 R4 Z4 O4 TS4 ON4 BX4 lb4 ⊢
          have y0 := BX4.out.cell 0
          have y1 := BX4.out.cell 1
          simp only [gT, gZ, gS] at y0 y1
          have f0 := BX4.out.frozen 0
          have f1 := BX4.out.frozen 1
          (refine wpMix_bar (by rfl) (fun K hK => ?_); go_simp)
          have hkb : ∀ bb, bb ≠ bn → ((u2.setCell ⟨bn, 0, none⟩ (.slice A5 m5 c5)).setCell ⟨bn, 1, none⟩ (.slice A6 m6 c6)).heap[bb]? = u2.heap[bb]? := fun bb hb => (Below.heap_setCell _ _ _ bb hb).trans (Below.heap_setCell _ _ _ bb hb)
          have KT := (KeepTU.set_ BX4.out (by decide) (by decide) (by decide) 0 (.slice A5 m5 c5)).trans (KeepTU.set_ (BX4.out.set_ 0 (.slice A5 m5 c5)) (by decide) (by decide) (by decide) 1 (.slice A6 m6 c6))
          have BX := qh (show Blk ((u2.setCell ⟨bn, 0, none⟩ (.slice A5 m5 c5)).setCell ⟨bn, 1, none⟩ (.slice A6 m6 c6)) bn 26 #[.slice A5 m5 c5, .slice A6 m6 c6] from (BX4.out.set_ 0 _).set_ 1 _)
          have ON := qh (ON4.out.keepTU KT)
          have TS7 := qh (OwnTs.keepTI TS4.out KT.ti)
          have KU := qh (show Below u0.heap.size u0 ((u2.setCell ⟨bn, 0, none⟩ (.slice A5 m5 c5)).setCell ⟨bn, 1, none⟩ (.slice A6 m6 c6)) from (U2.out.setCell (by show u0.heap.size ≤ bn; omega) _).setCell (by show u0.heap.size ≤ bn; omega) _)
          have ln0 : gc < u0.heap.size := by omega
          have ln1 : gx < u0.heap.size := GX0.out
          have ln2 : w.heap.size + 1 < u0.heap.size := GR0.out
          have B7 := qh (show Below w.heap.size w ((u2.setCell ⟨bn, 0, none⟩ (.slice A5 m5 c5)).setCell ⟨bn, 1, none⟩ (.slice A6 m6 c6)) from (B4.out.setCell (by show w.heap.size ≤ bn; omega) _).setCell (by show w.heap.size ≤ bn; omega) _)
          have D7 := qh (show Blk ((u2.setCell ⟨bn, 0, none⟩ (.slice A5 m5 c5)).setCell ⟨bn, 1, none⟩ (.slice A6 m6 c6)) gc 3 ((toldP ts (ss.take k) dc).map (Value.int .i64)).toArray from (hkb gc (by omega)).trans D4.out)
          have R7 := qh (show Blk ((u2.setCell ⟨bn, 0, none⟩ (.slice A5 m5 c5)).setCell ⟨bn, 1, none⟩ (.slice A6 m6 c6)) (w.heap.size + 1) 26 #[.slice none 0 0, .slice none 0 0] from (hkb (w.heap.size + 1) (by omega)).trans R4.out)
          have Z7 := qh (show Blk ((u2.setCell ⟨bn, 0, none⟩ (.slice A5 m5 c5)).setCell ⟨bn, 1, none⟩ (.slice A6 m6 c6)) gx 26 #[.slice A3 m3 c3, .slice A4 m4 c4] from (hkb gx (by omega)).trans Z4.out)
          have lb7 := B7.out.size
          ((try dsimp only); refine nxK hK _ _ (KS.out _ KU.out) ?_; clear hK K; (try simp only [Act.put, pS, pZ, pC]))
          clear hkb KT y0 y1 f0 f1 B4 D4 R4 Z4 O4 TS4 ON4 BX4 lb4 U2
          generalize (u2.setCell ⟨bn, 0, none⟩ (.slice A5 m5 c5)).setCell ⟨bn, 1, none⟩ (.slice A6 m6 c6) = u3 at B7 D7 R7 Z7 TS7 BX ON KU lb7 ⊢
          repeat ((first | refine wpMix_skip (by rfl) (by rfl) ?_ | (refine wpMix_take (v := ?_) (by rfl) (by rfl) (fun wS hSt => ?_) ?_; rotate_left; (focus ((try dsimp only at hSt); (go_simp <;> with_reducible rfl); done)))); (try simp only [Act.put, pS, pZ, pC]))
          refine wpMix_nil ?_
          have hop := cav_open (id := ids) (xs := xss) (g := decide (0 < gi)) HCu.out
          have hfin := qh (show (runB room (ss.drop k) usi gi) = ((runB room (ss.drop (k + 1)) (cavP room usi ids xss (decide (0 < gi))).2.1 (gi - ((openN (cavP room usi ids xss (decide (0 < gi))).2.1 : Int) - openN usi))).1, (cavP room usi ids xss (decide (0 < gi))).2.2 :: (runB room (ss.drop (k + 1)) (cavP room usi ids xss (decide (0 < gi))).2.1 (gi - ((openN (cavP room usi ids xss (decide (0 < gi))).2.1 : Int) - openN usi))).2) from by rw [Hdr.out, runB])
          generalize (cavP room usi ids xss (decide (0 < gi))).2.2 = cd at *
          generalize (cavP room usi ids xss (decide (0 < gi))).2.1 = un at *
          have on1 := openN_leS usi
          have on2 := openN_leS un
          have hu3 := (clOk_facts HCn.out).2.2.1
          have onb : openN un ≤ openN usi + 1 ∧ openN usi ≤ openN un := by rcases hop with h | ⟨_, _, h⟩ <;> omega
          have ong : (0 : Int) ≤ gi - ((openN un : Int) - openN usi) ∧ gi - ((openN un : Int) - openN usi) ≤ 10 := by
            rcases hop with h | ⟨h1, _, h⟩
            · omega
            · have := of_decide_eq_true h1; omega
          have v3 : IntKind.i64.wrap ((openN un : Int) - (openN usi : Int)) = (openN un : Int) - (openN usi : Int) := wr64 (by omega) (by omega)
          have v4 : IntKind.i64.wrap (gi - ((openN un : Int) - (openN usi : Int))) = gi - ((openN un : Int) - (openN usi : Int)) := wr64 (by omega) (by omega)
          have HOng := qh ong
          clear hop ong
          have y0 := BX.out.cell 0
          have y1 := BX.out.cell 1
          simp only [gT, gZ, gS] at y0 y1
          go_upto_region 11 with fail
          go_wp2_with fail
          refine (l22Open_any A5 A6 m5 c5 m6 c6 room un u3 ON.out.rd (by have := ON.out.len.2.1; omega)).mono ?_; rintro e wq ⟨rfl, hbq⟩
          have Bq := qh (B7.out.trans (hbq.mono lb7))
          have Dq := qh (D7.out.below hbq D7.out.lt)
          have Rq := qh (R7.out.below hbq R7.out.lt)
          have Zq := qh (Z7.out.below hbq Z7.out.lt)
          have TSq := qh (OwnTs.below TS7.out hbq)
          have BXq := qh (BX.out.below hbq BX.out.lt)
          have ONq := qh (ON.out.keepTU (KeepTU.up hbq))
          have KSq := KS.out _ (KU.out.trans (hbq.mono KU.out.size))
          have lbq := Bq.out.size
          have HTq := qh ((HT0.out.below Bq.out).more lbq)
          have z0 := BXq.out.cell 0
          have z1 := BXq.out.cell 1
          have x0 := Zq.out.cell 0
          have x1 := Zq.out.cell 1
          simp only [gT, gZ, gS] at z0 z1 x0 x1
          have f0 := Zq.out.frozen 0
          have f1 := Zq.out.frozen 1
          clear hbq y0 y1 B7 D7 R7 Z7 TS7 BX ON
          go_upto_region 13 with fail
          have hk5 : ∀ bb, bb ≠ gx → ((wq.setCell ⟨gx, 0, none⟩ (.slice A5 m5 c5)).setCell ⟨gx, 1, none⟩ (.slice A6 m6 c6)).heap[bb]? = wq.heap[bb]? := fun bb hb => (Below.heap_setCell _ _ _ bb hb).trans (Below.heap_setCell _ _ _ bb hb)
          have KT := (KeepTU.set_ Zq.out (by decide) (by decide) (by decide) 0 (.slice A5 m5 c5)).trans (KeepTU.set_ (Zq.out.set_ 0 (.slice A5 m5 c5)) (by decide) (by decide) (by decide) 1 (.slice A6 m6 c6))
          have Z5 := qh (show Blk ((wq.setCell ⟨gx, 0, none⟩ (.slice A5 m5 c5)).setCell ⟨gx, 1, none⟩ (.slice A6 m6 c6)) gx 26 #[.slice A5 m5 c5, .slice A6 m6 c6] from (Zq.out.set_ 0 _).set_ 1 _)
          have lgx : w.heap.size ≤ gx := by omega
          have B5 := qh (show Below w.heap.size w ((wq.setCell ⟨gx, 0, none⟩ (.slice A5 m5 c5)).setCell ⟨gx, 1, none⟩ (.slice A6 m6 c6)) from (Bq.out.setCell (by show w.heap.size ≤ gx; omega) _).setCell (by show w.heap.size ≤ gx; omega) _)
          have D5 := qh (show Blk ((wq.setCell ⟨gx, 0, none⟩ (.slice A5 m5 c5)).setCell ⟨gx, 1, none⟩ (.slice A6 m6 c6)) gc 3 ((toldP ts (ss.take k) dc).map (Value.int .i64)).toArray from (hk5 gc (by omega)).trans Dq.out)
          have R5 := qh (show Blk ((wq.setCell ⟨gx, 0, none⟩ (.slice A5 m5 c5)).setCell ⟨gx, 1, none⟩ (.slice A6 m6 c6)) (w.heap.size + 1) 26 #[.slice none 0 0, .slice none 0 0] from (hk5 (w.heap.size + 1) (by omega)).trans Rq.out)
          have O5 := qh (ONq.out.keepTU KT)
          have TS5 := qh (OwnTs.keepTI TSq.out KT.ti)
          have HT5 := qh (show RdT ((wq.setCell ⟨gx, 0, none⟩ (.slice A5 m5 c5)).setCell ⟨gx, 1, none⟩ (.slice A6 m6 c6)) w.heap.size A n ts from HT0.out.below B5.out)
          have s5 : ((wq.setCell ⟨gx, 0, none⟩ (.slice A5 m5 c5)).setCell ⟨gx, 1, none⟩ (.slice A6 m6 c6)).heap.size = wq.heap.size := by simp [World.setCell]
          have hbgx : b ≠ gx := fun e => by
            obtain ⟨vs, nd, ho, _⟩ := TSq.out
            exact own_blk_ne ho Zq.out (by decide) (by rw [e]; rfl)
          have d3 : ((wq.setCell ⟨gx, 0, none⟩ (.slice A5 m5 c5)).setCell ⟨gx, 1, none⟩ (.slice A6 m6 c6)).cell? ⟨b, o + k * 2, none⟩ = some (.int .i64 ids) := (World.cell?_of_block (hk5 b hbgx)).trans KSq.2.2.1
          clear hk5 KT KSq z0 z1 x0 x1 f0 f1 Bq Dq Rq Zq TSq BXq ONq HTq
          generalize (wq.setCell ⟨gx, 0, none⟩ (.slice A5 m5 c5)).setCell ⟨gx, 1, none⟩ (.slice A6 m6 c6) = w5 at Z5 B5 D5 R5 O5 TS5 HT5 s5 d3 ⊢
          have lb5 := B5.out.size
          go_wp2_with fail
          rw [show ids = (gTk ts j).1 from by rw [Hje.out]]
          refine (l22Place_any A n c j ts w5 (HT5.out.more lb5) Hnd.out hjn).mono ?_; rintro e w6 ⟨rfl, rfl⟩
          have j0' : (0 : Int) ≤ (j : Int) := by omega
          have j1' : (j : Int) < (n : Int) := by omega
          have lt5 : (toldP ts (ss.take k) dc).length = n := by rw [told_len]; exact Hl.out
          have c0 : w5.cell? ⟨gc, j, none⟩ = some (.int .i64 (lkP (ss.take k) dc (gTk ts j).1)) := by
            rw [D5.out.cell j, gT, List.getElem?_map, told_atS (by have := Hl.out; omega)]
            rfl
          have fr := D5.out.frozen j
          have D6 := qh (show Blk (w5.setCell ⟨gc, j, none⟩ (.int .i64 cd)) gc 3 ((toldP ts (ss.take (k + 1)) (dc ++ [cd])).map (Value.int .i64)).toArray from by
            have h := D5.out.set_ j (.int .i64 cd)
            rw [pS, ← List.map_set, told_set (by rw [List.length_take, HDL.out]; have := Hsl.out; omega) Hno.out Hnd.out (by have := Hl.out; omega) (by rw [Hje.out]), ← Htk.out] at h
            exact h)
          have hk6 : ∀ bb, bb ≠ gc → (w5.setCell ⟨gc, j, none⟩ (.int .i64 cd)).heap[bb]? = w5.heap[bb]? := fun bb hb => Below.heap_setCell _ _ _ bb hb
          have Z6 := qh (show Blk (w5.setCell ⟨gc, j, none⟩ (.int .i64 cd)) gx 26 #[.slice A5 m5 c5, .slice A6 m6 c6] from (hk6 gx (by omega)).trans Z5.out)
          have R6 := qh (show Blk (w5.setCell ⟨gc, j, none⟩ (.int .i64 cd)) (w.heap.size + 1) 26 #[.slice none 0 0, .slice none 0 0] from (hk6 (w.heap.size + 1) (by omega)).trans R5.out)
          have B6 := qh (show Below w.heap.size w (w5.setCell ⟨gc, j, none⟩ (.int .i64 cd)) from B5.out.setCell (by show w.heap.size ≤ gc; omega) _)
          have O6 := qh (O5.out.keepge (w' := w5.setCell ⟨gc, j, none⟩ (.int .i64 cd)) (fun bb h1 h2 => hk6 bb (by omega)))
          have TS6 := qh (OwnTs.keep TS5.out (w' := w5.setCell ⟨gc, j, none⟩ (.int .i64 cd)) (fun bb h1 h2 => hk6 bb (by omega)))
          clear hk6 D5 Z5 R5 B5 O5 TS5 HT5 s5 d3
          go_wp2_with fail
          go_roundw
          case measure => simp [intOf]; omega
          case rel => exact ⟨k + 1, _, un, dc ++ [cd], A5, m5, c5, A6, m6, c6, by go_num, by omega, rfl, HOng.out.1, HOng.out.2, HCn.out, by simp [HDL.out], by rw [HRun.out, hfin.out, List.append_assoc]; rfl, B6.out, D6.out, Z6.out, R6.out, O6.out, TS6.out⟩
        · go_simp
          have al := alloc_up u0 (.cells #[.slice none 0 0, .slice none 0 0] 26)
          have U1 := qh al
          have B3 := qh (B2.out.trans (al.mono lb2))
          have D3 := qh (D2.out.below al D2.out.lt)
          have R3 := qh (R2.out.below al R2.out.lt)
          have Z3 := qh (Z2.out.below al Z2.out.lt)
          have O3 := qh (O2.out.keepTU (KeepTU.up al))
          have TS3 := qh (OwnTs.below TS2.out al)
          have lb3 := B3.out.size
          have BX3 := qh (Blk.new u0 26 #[.slice none 0 0, .slice none 0 0])
          have HRD3 := qh (HRD2.out.up al)
          ((try dsimp only); refine nxK hK _ _ (KS.out _ U1.out) ?_; clear hK K; (try simp only [Act.put, pS, pZ, pC]))
          clear al
          have lu1 : u0.heap.size ≤ u0.heap.size := Nat.le_refl _
          have lgu1 : gc + 1 ≤ (u0.alloc (.cells #[.slice none 0 0, .slice none 0 0] 26)).heap.size := by have := U1.out.size; omega
          clear B2 D2 R2 Z2 O2 TS2 HRD2 lb2
          obtain ⟨bn, hbn0⟩ : ∃ bn, bn = u0.heap.size := ⟨_, rfl⟩
          rw [← hbn0] at BX3
          simp only [← hbn0]
          have lub : u0.heap.size ≤ bn := by omega
          clear hbn0 lu1
          have lu1 := lub
          clear lub
          generalize u0.alloc (.cells #[.slice none 0 0, .slice none 0 0] 26) = u1 at U1 B3 D3 R3 Z3 O3 TS3 BX3 HRD3 lb3 lgu1 ⊢
          (refine wpMix_bar (by rfl) (fun K hK => ?_); go_simp)
          refine (clusterArrive_any A3 A4 An m3 c3 m4 c4 mn cn room usi ids xss (decide (0 < gi)) u1 O3.out.rd HSc.out (by omega) (HRD3.out) HMN.out).mono ?_; rintro e u2 ⟨A5, m5, c5, A6, m6, c6, rfl, hoc, hbn⟩
          obtain ⟨e1, hcu7, _, _⟩ := cav_facts (id := ids) (xs := xss) (g := decide (0 < gi)) HCu.out
          rw [e1] at hoc
          have HCn := qh hcu7
          clear e1 hcu7
          have B4 := qh (B3.out.trans (hbn.mono lb3))
          have D4 := qh (D3.out.below hbn D3.out.lt)
          have R4 := qh (R3.out.below hbn R3.out.lt)
          have Z4 := qh (Z3.out.below hbn Z3.out.lt)
          have O4 := qh (O3.out.keepTU (KeepTU.up hbn))
          have TS4 := qh (OwnTs.below TS3.out hbn)
          have lb4 := B4.out.size
          have ON4 := qh (hoc.low lgu1)
          have BX4 := qh (BX3.out.below hbn BX3.out.lt)
          have U2 := qh (U1.out.trans (hbn.mono U1.out.size))
          ((try dsimp only); refine nxK hK _ _ (KS.out _ U2.out) ?_; clear hK K; (try simp only [Act.put, pS, pZ, pC]))
          clear hoc hbn B3 D3 R3 Z3 O3 TS3 BX3 HRD3 U1 lb3 lgu1
          repeat ((first | refine wpMix_skip (by rfl) (by rfl) ?_ | (refine wpMix_take (v := ?_) (by rfl) (by rfl) (fun wS hSt => ?_) ?_; rotate_left; (focus ((try dsimp only at hSt); (go_simp <;> with_reducible rfl); done)))); (try simp only [Act.put, pS, pZ, pC]))
          have y0 := BX4.out.cell 0
          have y1 := BX4.out.cell 1
          simp only [gT, gZ, gS] at y0 y1
          have f0 := BX4.out.frozen 0
          have f1 := BX4.out.frozen 1
          (refine wpMix_bar (by rfl) (fun K hK => ?_); go_simp)
          have hkb : ∀ bb, bb ≠ bn → ((u2.setCell ⟨bn, 0, none⟩ (.slice A5 m5 c5)).setCell ⟨bn, 1, none⟩ (.slice A6 m6 c6)).heap[bb]? = u2.heap[bb]? := fun bb hb => (Below.heap_setCell _ _ _ bb hb).trans (Below.heap_setCell _ _ _ bb hb)
          have KT := (KeepTU.set_ BX4.out (by decide) (by decide) (by decide) 0 (.slice A5 m5 c5)).trans (KeepTU.set_ (BX4.out.set_ 0 (.slice A5 m5 c5)) (by decide) (by decide) (by decide) 1 (.slice A6 m6 c6))
          have BX := qh (show Blk ((u2.setCell ⟨bn, 0, none⟩ (.slice A5 m5 c5)).setCell ⟨bn, 1, none⟩ (.slice A6 m6 c6)) bn 26 #[.slice A5 m5 c5, .slice A6 m6 c6] from (BX4.out.set_ 0 _).set_ 1 _)
          have ON := qh (ON4.out.keepTU KT)
          have TS7 := qh (OwnTs.keepTI TS4.out KT.ti)
          have KU := qh (show Below u0.heap.size u0 ((u2.setCell ⟨bn, 0, none⟩ (.slice A5 m5 c5)).setCell ⟨bn, 1, none⟩ (.slice A6 m6 c6)) from (U2.out.setCell (by show u0.heap.size ≤ bn; omega) _).setCell (by show u0.heap.size ≤ bn; omega) _)
          have ln0 : gc < u0.heap.size := by omega
          have ln1 : gx < u0.heap.size := GX0.out
          have ln2 : w.heap.size + 1 < u0.heap.size := GR0.out
          have B7 := qh (show Below w.heap.size w ((u2.setCell ⟨bn, 0, none⟩ (.slice A5 m5 c5)).setCell ⟨bn, 1, none⟩ (.slice A6 m6 c6)) from (B4.out.setCell (by show w.heap.size ≤ bn; omega) _).setCell (by show w.heap.size ≤ bn; omega) _)
          have D7 := qh (show Blk ((u2.setCell ⟨bn, 0, none⟩ (.slice A5 m5 c5)).setCell ⟨bn, 1, none⟩ (.slice A6 m6 c6)) gc 3 ((toldP ts (ss.take k) dc).map (Value.int .i64)).toArray from (hkb gc (by omega)).trans D4.out)
          have R7 := qh (show Blk ((u2.setCell ⟨bn, 0, none⟩ (.slice A5 m5 c5)).setCell ⟨bn, 1, none⟩ (.slice A6 m6 c6)) (w.heap.size + 1) 26 #[.slice none 0 0, .slice none 0 0] from (hkb (w.heap.size + 1) (by omega)).trans R4.out)
          have Z7 := qh (show Blk ((u2.setCell ⟨bn, 0, none⟩ (.slice A5 m5 c5)).setCell ⟨bn, 1, none⟩ (.slice A6 m6 c6)) gx 26 #[.slice A3 m3 c3, .slice A4 m4 c4] from (hkb gx (by omega)).trans Z4.out)
          have lb7 := B7.out.size
          ((try dsimp only); refine nxK hK _ _ (KS.out _ KU.out) ?_; clear hK K; (try simp only [Act.put, pS, pZ, pC]))
          clear hkb KT y0 y1 f0 f1 B4 D4 R4 Z4 O4 TS4 ON4 BX4 lb4 U2
          generalize (u2.setCell ⟨bn, 0, none⟩ (.slice A5 m5 c5)).setCell ⟨bn, 1, none⟩ (.slice A6 m6 c6) = u3 at B7 D7 R7 Z7 TS7 BX ON KU lb7 ⊢
          repeat ((first | refine wpMix_skip (by rfl) (by rfl) ?_ | (refine wpMix_take (v := ?_) (by rfl) (by rfl) (fun wS hSt => ?_) ?_; rotate_left; (focus ((try dsimp only at hSt); (go_simp <;> with_reducible rfl); done)))); (try simp only [Act.put, pS, pZ, pC]))
          refine wpMix_nil ?_
          have hop := cav_open (id := ids) (xs := xss) (g := decide (0 < gi)) HCu.out
          have hfin := qh (show (runB room (ss.drop k) usi gi) = ((runB room (ss.drop (k + 1)) (cavP room usi ids xss (decide (0 < gi))).2.1 (gi - ((openN (cavP room usi ids xss (decide (0 < gi))).2.1 : Int) - openN usi))).1, (cavP room usi ids xss (decide (0 < gi))).2.2 :: (runB room (ss.drop (k + 1)) (cavP room usi ids xss (decide (0 < gi))).2.1 (gi - ((openN (cavP room usi ids xss (decide (0 < gi))).2.1 : Int) - openN usi))).2) from by rw [Hdr.out, runB])
          generalize (cavP room usi ids xss (decide (0 < gi))).2.2 = cd at *
          generalize (cavP room usi ids xss (decide (0 < gi))).2.1 = un at *
          have on1 := openN_leS usi
          have on2 := openN_leS un
          have hu3 := (clOk_facts HCn.out).2.2.1
          have onb : openN un ≤ openN usi + 1 ∧ openN usi ≤ openN un := by rcases hop with h | ⟨_, _, h⟩ <;> omega
          have ong : (0 : Int) ≤ gi - ((openN un : Int) - openN usi) ∧ gi - ((openN un : Int) - openN usi) ≤ 10 := by
            rcases hop with h | ⟨h1, _, h⟩
            · omega
            · have := of_decide_eq_true h1; omega
          have v3 : IntKind.i64.wrap ((openN un : Int) - (openN usi : Int)) = (openN un : Int) - (openN usi : Int) := wr64 (by omega) (by omega)
          have v4 : IntKind.i64.wrap (gi - ((openN un : Int) - (openN usi : Int))) = gi - ((openN un : Int) - (openN usi : Int)) := wr64 (by omega) (by omega)
          have HOng := qh ong
          clear hop ong
          have y0 := BX.out.cell 0
          have y1 := BX.out.cell 1
          simp only [gT, gZ, gS] at y0 y1
          go_upto_region 11 with fail
          go_wp2_with fail
          refine (l22Open_any A5 A6 m5 c5 m6 c6 room un u3 ON.out.rd (by have := ON.out.len.2.1; omega)).mono ?_; rintro e wq ⟨rfl, hbq⟩
          have Bq := qh (B7.out.trans (hbq.mono lb7))
          have Dq := qh (D7.out.below hbq D7.out.lt)
          have Rq := qh (R7.out.below hbq R7.out.lt)
          have Zq := qh (Z7.out.below hbq Z7.out.lt)
          have TSq := qh (OwnTs.below TS7.out hbq)
          have BXq := qh (BX.out.below hbq BX.out.lt)
          have ONq := qh (ON.out.keepTU (KeepTU.up hbq))
          have KSq := KS.out _ (KU.out.trans (hbq.mono KU.out.size))
          have lbq := Bq.out.size
          have HTq := qh ((HT0.out.below Bq.out).more lbq)
          have z0 := BXq.out.cell 0
          have z1 := BXq.out.cell 1
          have x0 := Zq.out.cell 0
          have x1 := Zq.out.cell 1
          simp only [gT, gZ, gS] at z0 z1 x0 x1
          have f0 := Zq.out.frozen 0
          have f1 := Zq.out.frozen 1
          clear hbq y0 y1 B7 D7 R7 Z7 TS7 BX ON
          go_upto_region 13 with fail
          have hk5 : ∀ bb, bb ≠ gx → ((wq.setCell ⟨gx, 0, none⟩ (.slice A5 m5 c5)).setCell ⟨gx, 1, none⟩ (.slice A6 m6 c6)).heap[bb]? = wq.heap[bb]? := fun bb hb => (Below.heap_setCell _ _ _ bb hb).trans (Below.heap_setCell _ _ _ bb hb)
          have KT := (KeepTU.set_ Zq.out (by decide) (by decide) (by decide) 0 (.slice A5 m5 c5)).trans (KeepTU.set_ (Zq.out.set_ 0 (.slice A5 m5 c5)) (by decide) (by decide) (by decide) 1 (.slice A6 m6 c6))
          have Z5 := qh (show Blk ((wq.setCell ⟨gx, 0, none⟩ (.slice A5 m5 c5)).setCell ⟨gx, 1, none⟩ (.slice A6 m6 c6)) gx 26 #[.slice A5 m5 c5, .slice A6 m6 c6] from (Zq.out.set_ 0 _).set_ 1 _)
          have lgx : w.heap.size ≤ gx := by omega
          have B5 := qh (show Below w.heap.size w ((wq.setCell ⟨gx, 0, none⟩ (.slice A5 m5 c5)).setCell ⟨gx, 1, none⟩ (.slice A6 m6 c6)) from (Bq.out.setCell (by show w.heap.size ≤ gx; omega) _).setCell (by show w.heap.size ≤ gx; omega) _)
          have D5 := qh (show Blk ((wq.setCell ⟨gx, 0, none⟩ (.slice A5 m5 c5)).setCell ⟨gx, 1, none⟩ (.slice A6 m6 c6)) gc 3 ((toldP ts (ss.take k) dc).map (Value.int .i64)).toArray from (hk5 gc (by omega)).trans Dq.out)
          have R5 := qh (show Blk ((wq.setCell ⟨gx, 0, none⟩ (.slice A5 m5 c5)).setCell ⟨gx, 1, none⟩ (.slice A6 m6 c6)) (w.heap.size + 1) 26 #[.slice none 0 0, .slice none 0 0] from (hk5 (w.heap.size + 1) (by omega)).trans Rq.out)
          have O5 := qh (ONq.out.keepTU KT)
          have TS5 := qh (OwnTs.keepTI TSq.out KT.ti)
          have HT5 := qh (show RdT ((wq.setCell ⟨gx, 0, none⟩ (.slice A5 m5 c5)).setCell ⟨gx, 1, none⟩ (.slice A6 m6 c6)) w.heap.size A n ts from HT0.out.below B5.out)
          have s5 : ((wq.setCell ⟨gx, 0, none⟩ (.slice A5 m5 c5)).setCell ⟨gx, 1, none⟩ (.slice A6 m6 c6)).heap.size = wq.heap.size := by simp [World.setCell]
          have hbgx : b ≠ gx := fun e => by
            obtain ⟨vs, nd, ho, _⟩ := TSq.out
            exact own_blk_ne ho Zq.out (by decide) (by rw [e]; rfl)
          have d3 : ((wq.setCell ⟨gx, 0, none⟩ (.slice A5 m5 c5)).setCell ⟨gx, 1, none⟩ (.slice A6 m6 c6)).cell? ⟨b, o + k * 2, none⟩ = some (.int .i64 ids) := (World.cell?_of_block (hk5 b hbgx)).trans KSq.2.2.1
          clear hk5 KT KSq z0 z1 x0 x1 f0 f1 Bq Dq Rq Zq TSq BXq ONq HTq
          generalize (wq.setCell ⟨gx, 0, none⟩ (.slice A5 m5 c5)).setCell ⟨gx, 1, none⟩ (.slice A6 m6 c6) = w5 at Z5 B5 D5 R5 O5 TS5 HT5 s5 d3 ⊢
          have lb5 := B5.out.size
          go_wp2_with fail
          rw [show ids = (gTk ts j).1 from by rw [Hje.out]]
          refine (l22Place_any A n c j ts w5 (HT5.out.more lb5) Hnd.out hjn).mono ?_; rintro e w6 ⟨rfl, rfl⟩
          have j0' : (0 : Int) ≤ (j : Int) := by omega
          have j1' : (j : Int) < (n : Int) := by omega
          have lt5 : (toldP ts (ss.take k) dc).length = n := by rw [told_len]; exact Hl.out
          have c0 : w5.cell? ⟨gc, j, none⟩ = some (.int .i64 (lkP (ss.take k) dc (gTk ts j).1)) := by
            rw [D5.out.cell j, gT, List.getElem?_map, told_atS (by have := Hl.out; omega)]
            rfl
          have fr := D5.out.frozen j
          have D6 := qh (show Blk (w5.setCell ⟨gc, j, none⟩ (.int .i64 cd)) gc 3 ((toldP ts (ss.take (k + 1)) (dc ++ [cd])).map (Value.int .i64)).toArray from by
            have h := D5.out.set_ j (.int .i64 cd)
            rw [pS, ← List.map_set, told_set (by rw [List.length_take, HDL.out]; have := Hsl.out; omega) Hno.out Hnd.out (by have := Hl.out; omega) (by rw [Hje.out]), ← Htk.out] at h
            exact h)
          have hk6 : ∀ bb, bb ≠ gc → (w5.setCell ⟨gc, j, none⟩ (.int .i64 cd)).heap[bb]? = w5.heap[bb]? := fun bb hb => Below.heap_setCell _ _ _ bb hb
          have Z6 := qh (show Blk (w5.setCell ⟨gc, j, none⟩ (.int .i64 cd)) gx 26 #[.slice A5 m5 c5, .slice A6 m6 c6] from (hk6 gx (by omega)).trans Z5.out)
          have R6 := qh (show Blk (w5.setCell ⟨gc, j, none⟩ (.int .i64 cd)) (w.heap.size + 1) 26 #[.slice none 0 0, .slice none 0 0] from (hk6 (w.heap.size + 1) (by omega)).trans R5.out)
          have B6 := qh (show Below w.heap.size w (w5.setCell ⟨gc, j, none⟩ (.int .i64 cd)) from B5.out.setCell (by show w.heap.size ≤ gc; omega) _)
          have O6 := qh (O5.out.keepge (w' := w5.setCell ⟨gc, j, none⟩ (.int .i64 cd)) (fun bb h1 h2 => hk6 bb (by omega)))
          have TS6 := qh (OwnTs.keep TS5.out (w' := w5.setCell ⟨gc, j, none⟩ (.int .i64 cd)) (fun bb h1 h2 => hk6 bb (by omega)))
          clear hk6 D5 Z5 R5 B5 O5 TS5 HT5 s5 d3
          go_wp2_with fail
          go_roundw
          case measure => simp [intOf]; omega
          case rel => exact ⟨k + 1, _, un, dc ++ [cd], A5, m5, c5, A6, m6, c6, by go_num, by omega, rfl, HOng.out.1, HOng.out.2, HCn.out, by simp [HDL.out], by rw [HRun.out, hfin.out, List.append_assoc]; rfl, B6.out, D6.out, Z6.out, R6.out, O6.out, TS6.out⟩
      · obtain rfl : k = n := by omega
        have hdr : ss.drop k = [] := List.drop_of_length_le (by have := Hsl.out; omega)
        have hte : ss.take k = ss := List.take_of_length_le (by have := Hsl.out; omega)
        have hrun := HRun.out
        rw [hdr, runB] at hrun
        dsimp only at hrun
        rw [List.append_nil] at hrun
        have D1 := qh (show Blk wr gc 3 ((toldP ts ss dc).map (Value.int .i64)).toArray from by have := D0.out; rwa [hte] at this)
        have HB2 := qh (show batP room us ts g = (room, usi, toldP ts ss dc) from by rw [Hbat.out, HRe.out, hrun])
        clear hdr hte hrun HRun Hbat HRe D0
        have x0 := Z0.out.cell 0
        have x1 := Z0.out.cell 1
        have r1 := R0.out.cell 0
        have r2 := R0.out.cell 1
        simp only [gT, gZ, gS] at x0 x1 r1 r2
        have f0 := R0.out.frozen 0
        have f1 := R0.out.frozen 1
        have R9 := qh ((R0.out.set_ 0 (.slice A3 m3 c3)).set_ 1 (.slice A4 m4 c4))
        have z0 := R9.out.cell 0
        have z1 := R9.out.cell 1
        simp only [pS, pZ, pC, gT, gZ, gS] at z0 z1
        have KT := (KeepTU.set_ R0.out (by decide) (by decide) (by decide) 0 (.slice A3 m3 c3)).trans (KeepTU.set_ (R0.out.set_ 0 (.slice A3 m3 c3)) (by decide) (by decide) (by decide) 1 (.slice A4 m4 c4))
        have B9 := qh (show Below w.heap.size w ((wr.setCell ⟨w.heap.size + 1, 0, none⟩ (.slice A3 m3 c3)).setCell ⟨w.heap.size + 1, 1, none⟩ (.slice A4 m4 c4)) from (B0.out.setCell (by show w.heap.size ≤ w.heap.size + 1; omega) _).setCell (by show w.heap.size ≤ w.heap.size + 1; omega) _)
        have O9 := qh (O0.out.keepTU KT)
        have D9 := qh (show Blk ((wr.setCell ⟨w.heap.size + 1, 0, none⟩ (.slice A3 m3 c3)).setCell ⟨w.heap.size + 1, 1, none⟩ (.slice A4 m4 c4)) gc 3 ((toldP ts ss dc).map (Value.int .i64)).toArray from
          ((Below.heap_setCell _ _ _ gc (by show gc ≠ w.heap.size + 1; omega)).trans (Below.heap_setCell _ _ _ gc (by show gc ≠ w.heap.size + 1; omega))).trans D1.out)
        clear KT
        go_wp2_with fail
        refine bodyPost_ret (v := .tuple #[.agg #[.slice A3 m3 c3, .slice A4 m4 c4], .slice (some ⟨gc, 0, none⟩) k k]) (by simp [results, Tryz.results22, go_sem, z0, z1]) rfl ?_
        rw [HB2.out]
        refine ⟨A3, m3, c3, A4, m4, c4, some ⟨gc, 0, none⟩, k, k, rfl, O9.out.low (by omega), ?_, B9.out⟩
        have hlen : (toldP ts ss dc).length = k := by rw [told_len]; exact Hl.out
        have := RdI.of_blk D9.out rfl (by omega)
        rw [hlen] at this
        exact this
      end Go.Proofs.YtjjnbbkdjimcoaaGreat
