/- Walk: the reference's l15Take at one node. -/
import Derived.Test.YtlegpecjoaklnaaGreatDoorClOwnR
namespace Go.Proofs.YtlegpecjoaklnaaGreatDoor
open Go Go.RowKit
attribute [local go_sem ↓] Go.wp_at_zero Go.wp_at_succ

/-- The tasks but those with a number. -/
def takeP (ts : List Tk) (id : Int) : List Tk := ts.filter (fun t => !(t.1 == id))
theorem takeP_yes {ts : List Tk} {id : Int} {k : Nat} (h : k < ts.length) (he : (ts[k]?.getD (0, [])).1 = id) : takeP (ts.take (k + 1)) id = takeP (ts.take k) id := by
  rw [List.getElem?_eq_getElem h] at he
  rw [takeP, List.take_succ_eq_append_getElem h, List.filter_append]
  simp only [Option.getD_some] at he
  simp [takeP, he]
theorem takeP_no {ts : List Tk} {id : Int} {k : Nat} (h : k < ts.length) (he : (ts[k]?.getD (0, [])).1 ≠ id) : takeP (ts.take (k + 1)) id = takeP (ts.take k) id ++ [((ts[k]?.getD (0, [])).1, (ts[k]?.getD (0, [])).2)] := by
  rw [List.getElem?_eq_getElem h] at he ⊢
  rw [takeP, List.take_succ_eq_append_getElem h, List.filter_append]
  simp only [Option.getD_some] at he ⊢
  simp [takeP, he]
theorem takeP_len (ts : List Tk) (id : Int) : (takeP ts id).length ≤ ts.length := List.length_filter_le _ _
theorem takeP_mem {ts : List Tk} {id : Int} {t : Tk} (h : t ∈ takeP ts id) : t ∈ ts := (List.mem_filter.1 h).1

set_option maxRecDepth 100000 in
set_option maxHeartbeats 3200000 in
theorem l15Take1_any (gb base : Nat) (At : Option Addr) (m ct : Nat) (vt : List Value) (ts : List Tk) (id : Int) (w : World) (hb : Blk w gb 50 #[.slice At m ct]) (ho : w.ownsRow base 33 2 (.slice At m ct) m vt) (hn : NdR w base m vt ts) (hm : m ≤ 1000) :
    Calls Tryz.prog 139 #[.slice (some ⟨gb, 0, none⟩) 1 1, .int .i64 id] w fun e w' => ∃ g' c' Ar mr cr vr xi Ax mx cx, e = .returned (.tuple #[.slice (some ⟨g', 0, none⟩) 1 c', .agg #[.int .i64 xi, .slice Ax mx cx]]) ∧ w'.cell? ⟨g', 0, none⟩ = some (.slice Ar mr cr) ∧ w.heap.size ≤ g' ∧ g' < w'.heap.size ∧
      w'.ownsRow w.heap.size 33 2 (.slice Ar mr cr) mr vr ∧ NdR w' base mr vr (takeP ts id) ∧ Below w.heap.size w w' := by
  obtain ⟨t0, ht0, htz0, htz1, htz2⟩ := info_parts task_info
  obtain ⟨s0, hs0, hsz0, hsz1, hsz2⟩ := info_parts slice_info'
  have Hb := Lib.hid hb
  have Ho := Lib.hid ho
  have Hn := Lib.hid hn
  have Hl := Lib.hid hn.1
  have HKn := Lib.hid (fun w' (k : Below w.heap.size w w') => hn.keepTI (KeepTI.up k))
  have HKo := Lib.hid (fun w' (k : Below w.heap.size w w') => own_up' ho k)
  clear hb ho hn
  have sz1 : (w.alloc (.cells #[.int .i64 0, .slice none 0 0] 33)).heap.size = w.heap.size + 1 := World.size_alloc _ _
  have sz2 : ((w.alloc (.cells #[.int .i64 0, .slice none 0 0] 33)).alloc (.cells #[] 50)).heap.size = w.heap.size + 2 := by rw [World.size_alloc, sz1]
  have sz3 : (((w.alloc (.cells #[.int .i64 0, .slice none 0 0] 33)).alloc (.cells #[] 50)).alloc (.cells #[.int .i64 0, .slice none 0 0] 33)).heap.size = w.heap.size + 3 := by rw [World.size_alloc, sz2]
  have B3 := Lib.hid (((alloc_up w (.cells #[.int .i64 0, .slice none 0 0] 33)).alloc (by rw [sz1]; omega) (.cells #[] 50)).alloc (by rw [sz2]; omega) (.cells #[.int .i64 0, .slice none 0 0] 33))
  have Z3 := Lib.hid (((Blk.new w 33 #[.int .i64 0, .slice none 0 0]).alloc (.cells #[] 50)).alloc (.cells #[.int .i64 0, .slice none 0 0] 33))
  have hO := own_alloc (World.ownsRow_lit (base := w.heap.size) (e := 50) (size := 1) (w.alloc (.cells #[.int .i64 0, .slice none 0 0] 33)) #[] 0 (by rw [sz1]; omega) (by unfold maxLen; omega) rfl) (.cells #[.int .i64 0, .slice none 0 0] 33)
  rw [sz1] at hO
  have O3 := Lib.hid (show (((w.alloc (.cells #[.int .i64 0, .slice none 0 0] 33)).alloc (.cells #[] 50)).alloc (.cells #[.int .i64 0, .slice none 0 0] 33)).ownsRow w.heap.size 50 1 (.slice (some ⟨w.heap.size + 1, 0, none⟩) 0 0) 0 [] from hO)
  have hX := Blk.new ((w.alloc (.cells #[.int .i64 0, .slice none 0 0] 33)).alloc (.cells #[] 50)) 33 #[.int .i64 0, .slice none 0 0]
  rw [sz2] at hX
  have X3 := Lib.hid hX
  clear hO hX sz1 sz2
  go_enter Tryz.func139, Tryz.ntmps139
  go_wp2_with fail
  generalize ((w.alloc (.cells #[.int .i64 0, .slice none 0 0] 33)).alloc (.cells #[] 50)).alloc (.cells #[.int .i64 0, .slice none 0 0] 33) = w3 at sz3 B3 Z3 O3 X3 ⊢
  refine wp_loop_rounds 2 ?_
  rw [rounds_succ]
  have hR := World.ownsRow_lit (base := w.heap.size + 3) (e := 33) (size := 2) w3 #[] 0 (by omega) (by unfold maxLen; omega) rfl
  rw [sz3] at hR
  have R4 := Lib.hid (show (w3.alloc (.cells #[] 33)).ownsRow (w.heap.size + 3) 33 2 (.slice (some ⟨w.heap.size + 3, 0, none⟩) 0 0) 0 [] from hR)
  have B4 := Lib.hid (B3.out.alloc (by omega) (.cells #[] 33))
  have Z4 := Lib.hid (Z3.out.alloc (.cells #[] 33))
  have X4 := Lib.hid (X3.out.alloc (.cells #[] 33))
  have O4 := Lib.hid (own_alloc O3.out (.cells #[] 33))
  have lgb : gb < w.heap.size := Hb.out.lt
  clear hR B3 Z3 X3 O3
  go_wp2_with fail
  generalize w3.alloc (.cells #[] 33) = w4 at R4 B4 Z4 X4 O4 ⊢
  clear sz3
  go_loopw [9, 10] (fun v i wr => ∃ (j : Nat) (Ar : Option Addr) (mr cr : Nat) (vr : List Value) (xi : Int) (Ax : Option Addr) (mx cx : Nat), i = .int .i64 j ∧ j ≤ m ∧ v = .slice Ar mr cr ∧ Below w.heap.size w wr ∧ Blk wr w.heap.size 33 #[.int .i64 0, .slice none 0 0] ∧ Blk wr (w.heap.size + 2) 33 #[.int .i64 xi, .slice Ax mx cx] ∧
    wr.ownsRow w.heap.size 50 1 (.slice (some ⟨w.heap.size + 1, 0, none⟩) 0 0) 0 [] ∧ wr.ownsRow (w.heap.size + 3) 33 2 (.slice Ar mr cr) mr vr ∧ NdR wr base mr vr (takeP (ts.take j) id)) (fun _ i _ => m - (intOf i).toNat)
  case atStart => exact ⟨0, _, _, _, [], _, _, _, _, rfl, Nat.zero_le _, rfl, B4.out, Z4.out, X4.out, O4.out, R4.out, NdR.nil⟩
  case round =>
    clear B4 Z4 X4 O4 R4
    obtain ⟨j, Ar, mr, cr, vr, xi, Ax, mx, cx, rfl, hj, rfl, hbel, hz, hx, hob, hr, hnr⟩ := hrel
    have HB := Lib.hid hbel
    have HZ := Lib.hid hz
    have HX := Lib.hid hx
    have HO := Lib.hid hob
    have HR := Lib.hid hr
    have HN := Lib.hid hnr
    have lz := hbel.size
    have lx : w.heap.size + 2 < wr.heap.size := hx.lt
    have Hb' := Lib.hid (Hb.out.below hbel lgb)
    have hgb := (Hb.out.below hbel lgb).cell 0
    simp only [List.getElem?_toArray, List.getElem?_cons_zero] at hgb
    have lmr : mr ≤ 1000 := by have := hnr.1; have := takeP_len (ts.take j) id; have : (ts.take j).length ≤ m := by rw [List.length_take]; omega
                               omega
    clear hbel hz hx hob hr hnr
    by_cases hlt : j < m
    · have k1 : (0 : Int) ≤ (j : Int) := by omega
      have k2 : (j : Int) < (m : Int) := by omega
      have k3 : 0 ≤ (j : Int) * 2 := by omega
      obtain ⟨An, mn, cn, e1, e2, e3⟩ := (HKn.out wr HB.out).2.2 j hlt
      obtain ⟨gt, hAt, _, _⟩ : ∃ gt, At = some ⟨gt, 0, none⟩ ∧ base ≤ gt ∧ gt < w.heap.size := by
        obtain ⟨g, cap, hv, h1, h2⟩ := Ho.out.form (by omega)
        injection hv with hv
        exact ⟨g, hv, h1, h2⟩
      subst hAt
      have d1 := (HKo.out wr HB.out).cells (g := gt) rfl _ _ e1
      have d2 := (HKo.out wr HB.out).cells (g := gt) rfl _ _ e2
      rw [addr_add, Nat.zero_add] at d1 d2
      have hjl : Hid (j < ts.length) := by have := Hl.out; show _ < _; omega
      have E3 := Lib.hid e3
      clear e1 e2 e3
      by_cases hid : (ts[j]?.getD (0, [])).1 = id
      · have Ht := Lib.hid (takeP_yes hjl.out hid)
        rw [hid] at d1
        have x0 := HX.out.cell 0
        have x1 := HX.out.cell 1
        simp only [List.getElem?_toArray, List.getElem?_cons_zero, List.getElem?_cons_succ] at x0 x1
        have x2 := HX.out.frozen 0
        have x3 := HX.out.frozen 1
        clear hid
        go_wp2_with fail
        have hk : ∀ b, b ≠ w.heap.size + 2 → ((wr.setCell ⟨w.heap.size + 2, 0, none⟩ (.int .i64 id)).setCell ⟨w.heap.size + 2, 1, none⟩ (.slice An mn cn)).heap[b]? = wr.heap[b]? := fun b hb => (Below.heap_setCell _ _ _ b hb).trans (Below.heap_setCell _ _ _ b hb)
        have B5 := Lib.hid ((HB.out.setCell (p := ⟨w.heap.size + 2, 0, none⟩) (by show w.heap.size ≤ w.heap.size + 2; omega) (.int .i64 id)).setCell (p := ⟨w.heap.size + 2, 1, none⟩) (by show w.heap.size ≤ w.heap.size + 2; omega) (.slice An mn cn))
        have Z5 := Lib.hid ((HZ.out.far (p := ⟨w.heap.size + 2, 0, none⟩) (by show w.heap.size ≠ w.heap.size + 2; omega) (.int .i64 id)).far (p := ⟨w.heap.size + 2, 1, none⟩) (by show w.heap.size ≠ w.heap.size + 2; omega) (.slice An mn cn))
        have X5 := Lib.hid ((HX.out.set_ 0 (.int .i64 id)).set_ 1 (.slice An mn cn))
        have O5 := Lib.hid (own_keep HO.out (w' := (wr.setCell ⟨w.heap.size + 2, 0, none⟩ (.int .i64 id)).setCell ⟨w.heap.size + 2, 1, none⟩ (.slice An mn cn)) (fun b hb => hk b (by simp [Value.ownBlock] at hb; omega)))
        have R5' := Lib.hid (own_keep HR.out (w' := (wr.setCell ⟨w.heap.size + 2, 0, none⟩ (.int .i64 id)).setCell ⟨w.heap.size + 2, 1, none⟩ (.slice An mn cn)) (fun b hb => hk b (by have := (HR.out.lt b hb).1; omega)))
        have N5 := Lib.hid (show NdR ((wr.setCell ⟨w.heap.size + 2, 0, none⟩ (.int .i64 id)).setCell ⟨w.heap.size + 2, 1, none⟩ (.slice An mn cn)) base mr vr (takeP (ts.take j) id) from ⟨HN.out.1, HN.out.2.1, fun i hi => by
          obtain ⟨A', m', c', q1, q2, q3⟩ := HN.out.2.2 i hi
          exact ⟨A', m', c', q1, q2, own_keep q3 (fun b hb => hk b (fun e => own_blk_ne q3 HX.out (by decide) (by rw [hb, e])))⟩⟩)
        clear hk
        go_roundw
        case measure => simp [intOf]; omega
        case rel => exact ⟨j + 1, Ar, mr, cr, vr, id, An, mn, cn, by go_num, by omega, rfl, B5.out, Z5.out, X5.out, O5.out, R5'.out, by rw [Ht.out]; exact N5.out⟩
      · have Ht := Lib.hid (takeP_no hjl.out hid)
        have hne : ((ts[j]?.getD (0, [])).1 == id) = false := by simpa using hid
        clear hid
        generalize (ts[j]?.getD (0, [])).1 = ti at *
        generalize (ts[j]?.getD (0, [])).2 = nd at *
        have Own7 := Lib.hid (own_alloc HR.out (.cells #[.int .i64 ti, .slice An mn cn] 33))
        have X7 := Lib.hid (lit2 wr 33 (.int .i64 ti) (.slice An mn cn))
        have lz7 : w.heap.size + 3 ≤ (wr.alloc (.cells #[.int .i64 ti, .slice An mn cn] 33)).heap.size := by rw [World.size_alloc]; omega
        go_wp2_with (at_builtin; refine wpList_append_src _ rfl _ _ 50 rfl (w.heap.size + 3) 33 t0 _ 2 32 Tryz.underlying50 ht0 htz0 htz1 htz2 rfl (by omega) (.slice Ar mr cr) mr vr rfl Own7.out (some ⟨wr.heap.size, 0, none⟩) 1 1 [.int .i64 ti, .slice An mn cn] rfl X7.out (one2 _ _ rfl rfl) (by unfold maxLen; omega) (by omega) lz7 ?_; intro v' w8 hown8 hgrow8 hat8; obtain ⟨A8, c8, rfl⟩ := own_shape hown8)
        have ne8 : ∀ b, b < w.heap.size + 3 → some b ≠ (Value.slice Ar mr cr).ownBlock := fun b hb e => by have := (Own7.out.lt b e.symm).1; omega
        have B8 := Lib.hid ((HB.out.alloc lz (.cells #[.int .i64 ti, .slice An mn cn] 33)).grown hgrow8 (by omega) (fun r e => by have := (Own7.out.lt r e).1; omega))
        have Z8 := Lib.hid ((HZ.out.alloc (.cells #[.int .i64 ti, .slice An mn cn] 33)).grown hgrow8 (ne8 _ (by omega)))
        have X8 := Lib.hid ((HX.out.alloc (.cells #[.int .i64 ti, .slice An mn cn] 33)).grown hgrow8 (ne8 _ (by omega)))
        have O8 := Lib.hid (own_keep (own_alloc HO.out (.cells #[.int .i64 ti, .slice An mn cn] 33)) (fun b hb => hgrow8.block b (by simp [Value.ownBlock] at hb; subst hb; rw [World.size_alloc]; omega) (ne8 b (by simp [Value.ownBlock] at hb; omega))))
        have R8 := Lib.hid hown8
        have N8 := Lib.hid (((HN.out.keepTI (KeepTI.up (alloc_up wr (.cells #[.int .i64 ti, .slice An mn cn] 33)))).grown Own7.out (by decide) hgrow8).snoc (id := ti) (xs := nd) (own_keep (own_alloc E3.out (.cells #[.int .i64 ti, .slice An mn cn] 33)) (fun b hb => hgrow8.block b ((own_alloc E3.out (.cells #[.int .i64 ti, .slice An mn cn] 33)).lt b hb).2 (fun e => own_types Own7.out (own_alloc E3.out (.cells #[.int .i64 ti, .slice An mn cn] 33)) (by decide) e.symm hb))))
        clear hown8 hgrow8 hat8 Own7 X7 ne8
        go_wp2_with fail
        go_roundw
        case measure => simp [intOf]; omega
        case rel => exact ⟨j + 1, A8, mr + 1, c8, _, xi, Ax, mx, cx, by go_num, by omega, rfl, B8.out, Z8.out, X8.out, O8.out, R8.out, by rw [Ht.out]; exact N8.out⟩
    · obtain rfl : j = m := by omega
      have Hts := Lib.hid (show ts.take j = ts from List.take_of_length_le (by rw [Hl.out]; exact Nat.le_refl _))
      have Own7 := Lib.hid (own_alloc HO.out (.cells #[.slice Ar mr cr] 50))
      have X7 := Lib.hid (lit1 wr 50 (.slice Ar mr cr))
      have lz7 : w.heap.size ≤ (wr.alloc (.cells #[.slice Ar mr cr] 50)).heap.size := by rw [World.size_alloc]; omega
      have R7 := Lib.hid (own_alloc HR.out (.cells #[.slice Ar mr cr] 50))
      have N7 := Lib.hid (HN.out.keepTI (KeepTI.up (alloc_up wr (.cells #[.slice Ar mr cr] 50))))
      have Z7 := Lib.hid (HZ.out.alloc (.cells #[.slice Ar mr cr] 50))
      have X7' := Lib.hid (HX.out.alloc (.cells #[.slice Ar mr cr] 50))
      have B7 := Lib.hid (HB.out.alloc lz (.cells #[.slice Ar mr cr] 50))
      go_wp2_with (at_builtin; refine wpList_append_src _ rfl _ _ 84 rfl w.heap.size 50 s0 _ 1 24 Tryz.underlying84 hs0 hsz0 hsz1 hsz2 rfl (by omega) (.slice (some ⟨w.heap.size + 1, 0, none⟩) 0 0) 0 [] rfl Own7.out (some ⟨wr.heap.size, 0, none⟩) 1 1 [.slice Ar mr cr] rfl X7.out (one1 _ rfl) (by unfold maxLen; omega) (by omega) lz7 ?_; intro v' w8 hown8 hgrow8 hat8; rw [Nat.zero_add, List.nil_append] at hown8; obtain ⟨A8, c8, rfl⟩ := own_shape hown8)
      have B8 := Lib.hid (B7.out.grown hgrow8 lz7 (fun r e => (Own7.out.lt r e).1))
      have Z8 := Lib.hid (Z7.out.grown hgrow8 (fun e => own_blk_ne Own7.out Z7.out (by decide) e.symm))
      have X8 := Lib.hid (X7'.out.grown hgrow8 (fun e => own_blk_ne Own7.out X7'.out (by decide) e.symm))
      have R8 := Lib.hid (own_keep R7.out (fun b hb => hgrow8.block b (R7.out.lt b hb).2 (fun e => own_types Own7.out R7.out (by decide) e.symm hb)))
      have N8 := Lib.hid (N7.out.grown Own7.out (by decide) hgrow8)
      have O8 := Lib.hid hown8
      clear hown8 hgrow8 hat8 Own7 X7 R7 N7 Z7 X7' B7 HB HZ HX HO HR HN
      rw [rounds_succ]
      go_wp2_with fail
      have K0 : w8.drew.cell? ⟨w.heap.size + 2, 0, none⟩ = some (.int .i64 xi) ∧ w8.drew.cell? ⟨w.heap.size + 2, 1, none⟩ = some (.slice Ax mx cx) := ⟨X8.out.cell 0, X8.out.cell 1⟩
      have B9 := Lib.hid B8.out.drew
      have Z9 := Lib.hid Z8.out.drew
      have X9 := Lib.hid X8.out.drew
      have R9 := Lib.hid (World.ownsRow.drew R8.out)
      have N9 := Lib.hid (N8.out.keepTI (KeepTI.drew w8))
      have O9 := Lib.hid (World.ownsRow.drew O8.out)
      clear B8 Z8 X8 R8 N8 O8
      refine wp_region_mix (.take 0 (.take 1 (.take 2 (.bar 3 .nil)))) (fun w' => w'.cell? ⟨w.heap.size + 2, 0, none⟩ = some (.int .i64 xi) ∧ w'.cell? ⟨w.heap.size + 2, 1, none⟩ = some (.slice Ax mx cx)) (by kernel_rfl) (by kernel_rfl) K0 (fun _ => ?_)
      clear K0
      repeat (first | (refine wpMix_skip (by rfl) (by rfl) ?_; (try simp only [Act.put, List.setIfInBounds_toArray, List.set_cons_zero, List.set_cons_succ])) | (refine wpMix_take (v := ?_) (by rfl) (by rfl) (fun wS hSt => ?_) ?_; rotate_left; (focus ((try dsimp only at hSt); (go_simp <;> with_reducible rfl); done)); (try simp only [Act.put, List.setIfInBounds_toArray, List.set_cons_zero, List.set_cons_succ])))
      generalize w8.drew = u0 at B9 Z9 X9 R9 N9 O9 ⊢
      have x0 := Z9.out.cell 0
      have x1 := Z9.out.cell 1
      simp only [List.getElem?_toArray, List.getElem?_cons_zero, List.getElem?_cons_succ] at x0 x1
      have x2 := Z9.out.frozen 0
      have x3 := Z9.out.frozen 1
      (refine wpMix_bar (by rfl) (fun K hK => ?_); go_simp)
      have hk : ∀ b, b ≠ w.heap.size → ((u0.setCell ⟨w.heap.size, 0, none⟩ (.int .i64 xi)).setCell ⟨w.heap.size, 1, none⟩ (.slice Ax mx cx)).heap[b]? = u0.heap[b]? := fun b hb => (Below.heap_setCell _ _ _ b hb).trans (Below.heap_setCell _ _ _ b hb)
      have EQ := Lib.hid ((Z9.out.set_ 0 (.int .i64 xi)).set_ 1 (.slice Ax mx cx))
      have Xa := Lib.hid ((X9.out.far (p := ⟨w.heap.size, 0, none⟩) (by show w.heap.size + 2 ≠ w.heap.size; omega) (.int .i64 xi)).far (p := ⟨w.heap.size, 1, none⟩) (by show w.heap.size + 2 ≠ w.heap.size; omega) (.slice Ax mx cx))
      have Ba := Lib.hid ((B9.out.setCell (p := ⟨w.heap.size, 0, none⟩) (by simp) (.int .i64 xi)).setCell (p := ⟨w.heap.size, 1, none⟩) (by simp) (.slice Ax mx cx))
      have Ra := Lib.hid (own_keep R9.out (w' := (u0.setCell ⟨w.heap.size, 0, none⟩ (.int .i64 xi)).setCell ⟨w.heap.size, 1, none⟩ (.slice Ax mx cx)) (fun b hb => hk b (by have := (R9.out.lt b hb).1; omega)))
      have Oa := Lib.hid (own_keep O9.out (w' := (u0.setCell ⟨w.heap.size, 0, none⟩ (.int .i64 xi)).setCell ⟨w.heap.size, 1, none⟩ (.slice Ax mx cx)) (fun b hb => hk b (fun e => own_blk_ne O9.out Z9.out (by decide) (by rw [hb, e]))))
      have Na := Lib.hid (show NdR ((u0.setCell ⟨w.heap.size, 0, none⟩ (.int .i64 xi)).setCell ⟨w.heap.size, 1, none⟩ (.slice Ax mx cx)) base mr vr (takeP (ts.take j) id) from ⟨N9.out.1, N9.out.2.1, fun i hi => by
        obtain ⟨A', m', c', q1, q2, q3⟩ := N9.out.2.2 i hi
        exact ⟨A', m', c', q1, q2, own_keep q3 (fun b hb => hk b (fun e => own_blk_ne q3 Z9.out (by decide) (by rw [hb, e])))⟩⟩)
      clear hk x0 x1 x2 x3
      ((try dsimp only); refine hK.out _ _ (⟨Xa.out.cell 0, Xa.out.cell 1⟩) (fun hSw => ?_); (try clear hSw); clear hK K; (try simp only [Act.put, List.setIfInBounds_toArray, List.set_cons_zero, List.set_cons_succ]))
      generalize (u0.setCell ⟨w.heap.size, 0, none⟩ (.int .i64 xi)).setCell ⟨w.heap.size, 1, none⟩ (.slice Ax mx cx) = w9 at EQ Xa Ba Ra Oa Na ⊢
      refine wpMix_nil ?_
      obtain ⟨g', rfl, lg1, lg2, hcell⟩ : ∃ g', A8 = some ⟨g', 0, none⟩ ∧ w.heap.size ≤ g' ∧ g' < w9.heap.size ∧ w9.cell? ⟨g', 0, none⟩ = some (.slice Ar mr cr) := by
        obtain ⟨g, cap, hv, h1, h2⟩ := Oa.out.form (by omega)
        injection hv with hv
        subst hv
        have := Oa.out.cells (g := g) rfl 0 (.slice Ar mr cr) rfl
        rw [addr_add, Nat.zero_add] at this
        exact ⟨g, rfl, h1, h2, this⟩
      have z0 : w9.cell? ⟨w.heap.size, 0, none⟩ = some (.int .i64 xi) := EQ.out.cell 0
      have z1 : w9.cell? ⟨w.heap.size, 1, none⟩ = some (.slice Ax mx cx) := EQ.out.cell 1
      go_wp2_with fail
      refine bodyPost_ret (v := .tuple #[.slice (some ⟨g', 0, none⟩) 1 c8, .agg #[.int .i64 xi, .slice Ax mx cx]]) (by simp [results, Tryz.results139, go_sem, z0, z1]) rfl ⟨g', c8, Ar, mr, cr, vr, xi, Ax, mx, cx, rfl, hcell, lg1, lg2, own_lo Ra.out (by omega), ?_, Ba.out⟩
      have := Na.out
      rwa [Hts.out] at this
end Go.Proofs.YtlegpecjoaklnaaGreatDoor
