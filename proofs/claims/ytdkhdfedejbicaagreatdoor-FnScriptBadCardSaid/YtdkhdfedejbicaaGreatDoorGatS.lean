/- Words: a cluster of the call's own, whose units' rows may be shared. Walk: l32Gather of the reference. -/
import Derived.Test.YtdkhdfedejbicaaGreatDoorJ17
import Derived.Test.YtdkhdfedejbicaaGreatDoorDone
namespace Go.Proofs.YtdkhdfedejbicaaGreatDoor
set_option linter.unusedSimpArgs false
set_option linter.unusedVariables false
open Go Go.RowKit
attribute [local go_sem ↓] Go.wp_at_zero Go.wp_at_succ

def UnT (w : World) (base n : Nat) (vs : List Value) (us : List Un) : Prop :=
  us.length = n ∧ vs.length = n * 2 ∧ ∀ j, j < n → ∃ A m c vt, vs[j * 2]? = some (.bool (us[j]?.getD (false, [])).1) ∧ vs[j * 2 + 1]? = some (.slice A m c) ∧ w.ownsRow base 75 2 (.slice A m c) m vt ∧ NdR w base m vt (us[j]?.getD (false, [])).2
def OwnCW (w : World) (base : Nat) (v1 v2 : Value) (m1 m2 : Nat) (room : List Int) (us : List Un) : Prop := w.ownsRow base 3 1 v1 m1 (room.map (Value.int .i64)) ∧ ∃ vs, w.ownsRow base 83 2 v2 m2 vs ∧ UnT w base m2 vs us
section
variable {w w' : World} {base base' n m1 m2 : Nat} {v1 v2 : Value} {vs : List Value} {tk : Nat → Value} {us : List Un} {room : List Int}
theorem UnT.of (h : NdUR w base n vs tk us) : UnT w base n vs us := ⟨h.1, h.2.1, fun j hj => by
  obtain ⟨h1, h2, A, m, c, vt, h3, h4, h5⟩ := h.2.2.1 j hj
  exact ⟨A, m, c, vt, h1, by rw [h2, h3], h4, h5⟩⟩
theorem UnT.keepTI (h : UnT w base n vs us) (hk : KeepTI w w') : UnT w' base n vs us := ⟨h.1, h.2.1, fun j hj => by
  obtain ⟨A, m, c, vt, h1, h2, h3, h4⟩ := h.2.2 j hj
  exact ⟨A, m, c, vt, h1, h2, own_keepTI h3 (.inr rfl) hk, h4.keepTI hk⟩⟩
theorem UnT.low (h : UnT w base n vs us) (hb : base' ≤ base) : UnT w base' n vs us := ⟨h.1, h.2.1, fun j hj => by
  obtain ⟨A, m, c, vt, h1, h2, h3, h4⟩ := h.2.2 j hj
  exact ⟨A, m, c, vt, h1, h2, own_lo h3 hb, h4.low hb⟩⟩
theorem NdR.keepR {ts : List Tk} (h : NdR w base n vs ts) (hk : ∀ b, base ≤ b → b < w.heap.size → w'.heap[b]? = w.heap[b]?) : NdR w' base n vs ts := ⟨h.1, h.2.1, fun j hj => by
  obtain ⟨A, m, c, h1, h2, h3⟩ := h.2.2 j hj
  exact ⟨A, m, c, h1, h2, own_keep h3 (fun b hb => hk b (h3.lt b hb).1 (h3.lt b hb).2)⟩⟩
theorem UnT.keepR (h : UnT w base n vs us) (hk : ∀ b, base ≤ b → b < w.heap.size → w'.heap[b]? = w.heap[b]?) : UnT w' base n vs us := ⟨h.1, h.2.1, fun j hj => by
  obtain ⟨A, m, c, vt, h1, h2, h3, h4⟩ := h.2.2 j hj
  exact ⟨A, m, c, vt, h1, h2, own_keep h3 (fun b hb => hk b (h3.lt b hb).1 (h3.lt b hb).2), h4.keepR hk⟩⟩
theorem UnT.put {j m c : Nat} {A : Option Addr} {vt : List Value} {ts : List Tk} (h : UnT w base n vs us) (hj : j < n) (ho : w.ownsRow base 75 2 (.slice A m c) m vt) (hn : NdR w base m vt ts) :
    UnT w base n (vs.set (j * 2 + 1) (.slice A m c)) (us.set j ((us[j]?.getD (false, [])).1, ts)) := by
  have hl := h.1
  have hv := h.2.1
  refine ⟨by rw [List.length_set]; exact hl, by rw [List.length_set]; exact hv, fun i hi => ?_⟩
  obtain ⟨A', m', c', vt', e1, e2, e3, e4⟩ := h.2.2 i hi
  by_cases e : i = j
  · subst e
    have g3 : (us.set i ((us[i]?.getD (false, [])).1, ts))[i]? = some ((us[i]?.getD (false, [])).1, ts) := List.getElem?_set_self (by omega)
    exact ⟨A, m, c, vt, by rw [List.getElem?_set_ne (by omega), g3]; exact e1, List.getElem?_set_self (by omega), ho, by rw [g3]; exact hn⟩
  · have g3 : (us.set j ((us[j]?.getD (false, [])).1, ts))[i]? = us[i]? := List.getElem?_set_ne (fun x => e x.symm)
    exact ⟨A', m', c', vt', by rw [List.getElem?_set_ne (by omega), g3]; exact e1, by rw [List.getElem?_set_ne (by omega)]; exact e2, e3, by rw [g3]; exact e4⟩
theorem UnT.cells (h : UnT w base n vs us) : UnCells w w.heap.size vs us := ⟨by rw [h.2.1, h.1], fun j hj => by
  obtain ⟨A, m, c, vt, h1, h2, h3, h4⟩ := h.2.2 j (by rw [← h.1]; exact hj)
  exact ⟨A, m, c, h1, h2, own_cap' h3, h4.rd h3⟩⟩
theorem OwnCW.of (h : OwnCR w base v1 v2 m1 m2 room us) : OwnCW w base v1 v2 m1 m2 room us := by
  obtain ⟨h1, vs, tk, h2, h3⟩ := h
  exact ⟨h1, vs, h2, UnT.of h3⟩
theorem OwnCW.low (h : OwnCW w base v1 v2 m1 m2 room us) (hb : base' ≤ base) : OwnCW w base' v1 v2 m1 m2 room us := by
  obtain ⟨h1, vs, h2, h3⟩ := h
  exact ⟨own_lo h1 hb, vs, own_lo h2 hb, h3.low hb⟩
theorem OwnCW.keepTU (h : OwnCW w base v1 v2 m1 m2 room us) (hk : KeepTU w w') : OwnCW w' base v1 v2 m1 m2 room us := by
  obtain ⟨h1, vs, h2, h3⟩ := h
  exact ⟨own_keepTI h1 (.inl rfl) hk.ti, vs, own_keepB h2 (fun b cs _ hc => hk b ⟨_, cs, .inr (.inr rfl), hc⟩), h3.keepTI hk.ti⟩
theorem OwnCW.keepR (h : OwnCW w base v1 v2 m1 m2 room us) (hk : ∀ b, base ≤ b → b < w.heap.size → w'.heap[b]? = w.heap[b]?) : OwnCW w' base v1 v2 m1 m2 room us := by
  obtain ⟨h1, vs, h2, h3⟩ := h
  exact ⟨own_keep h1 (fun b hb => hk b (h1.lt b hb).1 (h1.lt b hb).2), vs, own_keep h2 (fun b hb => hk b (h2.lt b hb).1 (h2.lt b hb).2), h3.keepR hk⟩
theorem OwnCW.up (h : OwnCW w base v1 v2 m1 m2 room us) (hb : Below w.heap.size w w') : OwnCW w' base v1 v2 m1 m2 room us := h.keepR (fun b _ hlt => hb.block b hlt)
theorem OwnCW.rd {c1 c2 : Nat} {A1 A2 : Option Addr} (h : OwnCW w base (.slice A1 m1 c1) (.slice A2 m2 c2) m1 m2 room us) : RdC w A1 A2 m1 m2 room us := by
  obtain ⟨h1, vs, h2, h3⟩ := h
  exact ⟨own_rdI h1 (own_le h1), RdN.of_own h2 h3.cells (Nat.le_refl _) (own_le h2)⟩
theorem OwnCW.len {c1 c2 : Nat} {A1 A2 : Option Addr} (h : OwnCW w base (.slice A1 m1 c1) (.slice A2 m2 c2) m1 m2 room us) : room.length = m1 ∧ us.length = m2 ∧ m1 ≤ c1 ∧ m2 ≤ c2 := by
  obtain ⟨h1, vs, h2, h3⟩ := h
  exact ⟨own_len h1, h3.1, own_cap' h1, own_cap' h2⟩
end
theorem openB_take {us : List Un} {k : Nat} (h : k < us.length) : openB (us.take (k + 1)) = openB (us.take k) ++ (if (us[k]?.getD (false, [])).1 = true then [(us[k]?.getD (false, [])).2] else []) := by
  unfold openB
  rw [List.take_succ_eq_append_getElem h, List.filter_append, List.map_append, List.getElem?_eq_getElem h, Option.getD_some]
  congr 1
  by_cases e : us[k].1 = true
  · rw [if_pos e]; simp [e]
  · rw [if_neg e]; simp [e]
theorem openB_le (us : List Un) : (openB us).length ≤ us.length := by unfold openB; rw [List.length_map]; exact List.length_filter_le _ _

set_option maxRecDepth 100000 in
set_option maxHeartbeats 6400000 in
theorem l32Gather_any (A1 A2 : Option Addr) (n1 c1 n2 c2 most : Nat) (room : List Int) (us : List Un) (w : World) (h : RdC w A1 A2 n1 n2 room us) (hok : clOk room us = true) (hm : most ≤ 20) :
    Calls Tryz.prog 87 #[.agg #[.slice A1 n1 c1, .slice A2 n2 c2], .int .i64 (most : Int)] w fun e w' => ∃ A3 m3 c3 A4 m4 c4, e = .returned (.agg #[.slice A3 m3 c3, .slice A4 m4 c4]) ∧ OwnCW w' w.heap.size (.slice A3 m3 c3) (.slice A4 m4 c4) m3 m4 room (gatherU room us (most : Int)) ∧ Below w.heap.size w w' := by
  obtain ⟨ib, hib, hbz0, hbz1, hbz2⟩ := info_parts row_info
  have hsh := clOk_sh hok
  obtain ⟨f1, f2, f3, f4⟩ := clOk_facts hok
  have hl := h.b.len
  have hn1 : n1 ≤ 1048576 := by have := h.a.len; omega
  have ln : n2 ≤ 10 := by omega
  have H := qh h
  have Hl := qh hl
  have Hob := qh (open_ok hok)
  have Hsh := qh hsh
  clear h hl f1 f2 f3 f4 hok hsh
  have sz : (w.alloc (.cells #[.slice A1 n1 c1, .slice A2 n2 c2] 35)).heap.size = w.heap.size + 1 := World.size_alloc _ _
  have B1 := qh ((alloc_up w (.cells #[.slice A1 n1 c1, .slice A2 n2 c2] 35)).alloc (by rw [sz]; omega) (.cells #[.slice none 0 0, .slice none 0 0] 35))
  have P1 := qh ((Blk.new w 35 #[.slice A1 n1 c1, .slice A2 n2 c2]).alloc (.cells #[.slice none 0 0, .slice none 0 0] 35))
  have hZ := Blk.new (w.alloc (.cells #[.slice A1 n1 c1, .slice A2 n2 c2] 35)) 35 #[.slice none 0 0, .slice none 0 0]
  rw [sz] at hZ
  have Z1 := qh hZ
  clear hZ sz
  have y0 := (P1.out).cell 0
  have y1 := (P1.out).cell 1
  simp only [gT, gZ, gS] at y0 y1
  go_enter Tryz.func87, Tryz.ntmps87
  go_wp2_with fail
  generalize (w.alloc (.cells #[.slice A1 n1 c1, .slice A2 n2 c2] 35)).alloc (.cells #[.slice none 0 0, .slice none 0 0] 35) = w1 at B1 P1 Z1 y0 y1 ⊢
  refine (l21Copy_any A1 A2 n1 c1 n2 c2 room us w1 (H.out.up B1.out) Hsh.out hn1).mono ?_; rintro e w2 ⟨A3, c3, A4, c4, rfl, hoc, hb2⟩
  have al := alloc_up w2 (.cells #[.slice A3 n1 c3, .slice A4 n2 c4] 35)
  have oc := (OwnCR.of hoc).low B1.out.size
  obtain ⟨o1, vs0, tk0, o2, o3⟩ := oc
  have b2 := below_to B1.out hb2
  have B3 := qh (b2.trans (al.mono b2.size))
  have P3 := qh ((P1.out.below hb2 P1.out.lt).below al (by have := P1.out.lt; have := hb2.size; omega))
  have Z3 := qh ((Z1.out.below hb2 Z1.out.lt).below al (by have := Z1.out.lt; have := hb2.size; omega))
  have D3 := qh (Blk.new w2 35 #[.slice A3 n1 c3, .slice A4 n2 c4])
  have M3 := qh (own_up' o1 al)
  have U3 := qh (own_up' o2 al)
  have T3 := qh ((UnT.of o3).keepTI (KeepTI.up al))
  have sz3 : (w2.alloc (.cells #[.slice A3 n1 c3, .slice A4 n2 c4] 35)).heap.size = w2.heap.size + 1 := World.size_alloc _ _
  have ho := World.ownsRow_lit (w2.alloc (.cells #[.slice A3 n1 c3, .slice A4 n2 c4] 35)) #[] 0 (base := w2.heap.size + 1) (e := 81) (size := 1) (by rw [sz3]; omega) (by unfold maxLen; omega) rfl
  rw [sz3] at ho
  have O4 := qh (show ((w2.alloc (.cells #[.slice A3 n1 c3, .slice A4 n2 c4] 35)).alloc (.cells #[] 81)).ownsRow (w2.heap.size + 1) 81 1 (.slice (some ⟨w2.heap.size + 1, 0, none⟩) 0 0) 0 [] from ho)
  have B4 := qh (show Below (w2.heap.size + 1) (w2.alloc (.cells #[.slice A3 n1 c3, .slice A4 n2 c4] 35)) ((w2.alloc (.cells #[.slice A3 n1 c3, .slice A4 n2 c4] 35)).alloc (.cells #[] 81)) from by have := alloc_up (w2.alloc (.cells #[.slice A3 n1 c3, .slice A4 n2 c4] 35)) (.cells #[] 81); rwa [sz3] at this)
  clear al hoc o1 o2 o3 b2 hb2 B1 P1 Z1 y0 y1 ho
  go_wp2_with fail
  generalize hg3 : w2.heap.size = gd at D3 O4 B4 sz3 ⊢
  generalize hw4 : (w2.alloc (.cells #[.slice A3 n1 c3, .slice A4 n2 c4] 35)).alloc (.cells #[] 81) = w4 at O4 B4 ⊢
  generalize w2.alloc (.cells #[.slice A3 n1 c3, .slice A4 n2 c4] 35) = w3 at B3 P3 Z3 D3 M3 U3 T3 B4 sz3 hw4
  clear hw4 hg3
  have ls3 : w.heap.size ≤ gd := by have h1 := Z3.out.lt; have h2 := D3.out.lt; have := B3.out.size; omega
  go_loopw [6, 7] (fun v kv wr => ∃ (k : Nat) (A6 : Option Addr) (m6 c6 : Nat) (vs6 : List Value), kv = .int .i64 (k : Nat) ∧ k ≤ n2 ∧ v = .slice A6 m6 c6 ∧ wr.ownsRow (gd + 1) 81 1 (.slice A6 m6 c6) m6 vs6 ∧ BnCells wr w.heap.size vs6 (openB (us.take k)) ∧ Below (gd + 1) w3 wr) (fun _ kv _ => n2 - (intOf kv).toNat)
  case atStart => exact ⟨0, _, 0, 0, [], rfl, Nat.zero_le _, rfl, O4.out, BnCells.nil, B4.out⟩
  case round =>
    clear O4 B4
    obtain ⟨k, A6, m6, c6, vs6, rfl, hk, rfl, ho, hbn, hb⟩ := hrel
    have Ho := qh ho
    have Hbn := qh hbn
    have Hb := qh hb
    have BW := qh (B3.out.trans (hb.mono (by omega)))
    have P4 := qh (P3.out.below hb (by have := P3.out.lt; omega))
    have lzr : gd + 1 ≤ wr.heap.size := by have := hb.size; omega
    have hm6 : m6 ≤ 10 := by
      have e1 := ho.1
      have e2 := hbn.1
      have e3 := openB_le (us.take k)
      rw [List.length_take] at e3
      omega
    clear ho hbn hb
    have y1 := (P4.out).cell 1
    simp only [gT, gZ, gS] at y1
    by_cases hlt : k < n2
    · have k1 : (0 : Int) ≤ (k : Int) := by omega
      have k2 : (k : Int) < (n2 : Int) := by omega
      have k3 : 0 ≤ (k : Int) * 2 := by omega
      have vk : IntKind.i64.wrap ((k : Int) + 1) = (k : Int) + 1 := wr64 (by omega) (by omega)
      have hkl : Hid (k < us.length) := by have := Hl.out; show _ < _; omega
      obtain ⟨b, o, A', m', c', rfl, lb, hc0, hc1, hmc, hrd⟩ := (H.out.b.below BW.out).at_ hlt
      have Hrd := qh hrd
      have Htk := qh (openB_take hkl.out)
      clear hrd
      cases hop : (us[k]?.getD (false, [])).1 with
      | true =>
        rw [hop] at hc0
        have Hop := qh hop
        have Own7 := qh (own_alloc Ho.out (.cells #[.slice A' m' c'] 81))
        have X7 := qh (lit1 wr 81 (.slice A' m' c'))
        have lz7 : gd + 1 ≤ (wr.alloc (.cells #[.slice A' m' c'] 81)).heap.size := by rw [World.size_alloc]; omega
        have B7 := qh (Hb.out.alloc lzr (.cells #[.slice A' m' c'] 81))
        clear hop
        go_wp2_with (at_builtin; refine wpList_append_src _ rfl _ _ 91 rfl (gd + 1) 81 ib _ 1 24 Tryz.underlying91 hib hbz0 hbz1 hbz2 rfl (by omega) (.slice A6 m6 c6) m6 vs6 rfl Own7.out (some ⟨wr.heap.size, 0, none⟩) 1 1 [.slice A' m' c'] rfl X7.out (one1 _ rfl) (by unfold maxLen; omega) (by omega) lz7 ?_; intro v' w8 hown8 hgrow8 hat8; obtain ⟨A8, c8, rfl⟩ := own_shape hown8)
        have B8 := qh (B7.out.grown hgrow8 lz7 (fun r e => (Own7.out.lt r e).1))
        have hlow : ∀ p : Addr, p.block < w.heap.size → w8.cell? p = wr.cell? p := fun p hp => World.cell?_of_block ((hgrow8.block p.block (by rw [World.size_alloc]; omega) (fun e => by have := (Own7.out.lt _ e.symm).1; omega)).trans (Below.heap_alloc _ _ _ (by omega)))
        have N8 := qh ((Hbn.out.keep hlow (Nat.le_refl _)).snoc (Hrd.out.keep hlow (Nat.le_refl _)) hmc)
        have O8 := qh hown8
        clear hown8 hgrow8 hat8 hlow Own7 X7
        go_roundw
        case measure => simp [intOf]; omega
        case rel => exact ⟨k + 1, A8, m6 + 1, c8, _, by go_num, by omega, rfl, O8.out, by rw [Htk.out, if_pos Hop.out]; exact N8.out, B8.out⟩
      | false =>
        rw [hop] at hc0
        have Hop := qh hop
        clear hop
        go_wp2_with fail
        go_roundw
        case measure => simp [intOf]; omega
        case rel => exact ⟨k + 1, A6, m6, c6, vs6, by go_num, by omega, rfl, Ho.out, by rw [Htk.out, if_neg (by rw [Hop.out]; simp), List.append_nil]; exact Hbn.out, Hb.out⟩
    · obtain rfl : k = n2 := by omega
      have HG : Hid (gatherU room us (most : Int) = backU us (gathP room most (openB us))) := by show _ = _; unfold gatherU; rw [Int.toNat_natCast]
      have hbn := Hbn.out
      rw [List.take_of_length_le (by rw [Hl.out]; exact Nat.le_refl _)] at hbn
      have R6 := qh (RdB.of_own Ho.out hbn (by omega) (own_le Ho.out))
      have hc6 := own_cap' Ho.out
      have Rm := qh ((H.out.a.below BW.out).more (show w.heap.size ≤ wr.heap.size by omega))
      have K0 : wr.drew.cell? ⟨w.heap.size, 0, none⟩ = some (.slice A1 n1 c1) := P4.out.cell 0
      have lP : w.heap.size < wr.drew.heap.size := by show w.heap.size < wr.heap.size; omega
      clear hbn Hbn Ho
      go_wp2_with fail
      clear y1
      have R6' := qh (show RdB wr.drew wr.drew.heap.size A6 m6 (openB us) from R6.out)
      have Rm' := qh (show RdI wr.drew wr.drew.heap.size A1 n1 room from Rm.out)
      have B6 := qh (show Below (gd + 1) w3 wr.drew from Hb.out.drew)
      have ld : gd + 1 ≤ wr.drew.heap.size := lzr
      clear R6 Rm Hb
      refine wp_region_mixL (.take 0 (.take 1 (.take 2 (.take 3 (.take 4 (.take 5 (.take 6 (.bar 7 (.bar 8 (.take 9 (.take 10 (.take 11 (.take 12 .nil))))))))))))) [] (fun w' => w'.cell? ⟨w.heap.size, 0, none⟩ = some (.slice A1 n1 c1)) (by kernel_rfl) (by kernel_rfl) K0 (fun _ => ?_)
      generalize wr.drew = u0 at K0 lP R6' Rm' B6 ld ⊢
      have hS := qh (fun w' (hb : Below u0.heap.size u0 w') => ((hb.cell (p := ⟨w.heap.size, 0, none⟩) lP).trans K0 : w'.cell? ⟨w.heap.size, 0, none⟩ = some (.slice A1 n1 c1)))
      repeat ((first | refine lxS (by rfl) (by rfl) ?_ | (refine lxT (v := ?_) (by rfl) (by rfl) (fun z y => ?_) ?_; rotate_left; (focus ((try dsimp only at y); (go_simp <;> with_reducible rfl); done)))); (try simp only [Act.put,pS,pZ,pC]))
      (refine lxB (by rfl) (fun K hK => ?_); go_simp)
      refine (gatherPlan_any A1 A6 n1 c1 m6 c6 most room (openB us) u0 Rm'.out R6'.out hc6 Hob.out hm).mono ?_; rintro e u1 ⟨A9, m9, c9, rfl, r9, hb9⟩
      have R9 := qh r9
      have D9 := qh hb9
      clear r9 hb9
      ((try dsimp only); refine nxK hK _ _ (hS.out _ D9.out) ?_; clear hK K; (try simp only [Act.put,pS,pZ,pC]))
      (refine lxB (by rfl) (fun K hK => ?_); go_simp)
      refine (movesDo_any A1 A6 A9 n1 c1 m6 c6 m9 c9 most room (openB us) u1 (Rm'.out.up D9.out) (R6'.out.up D9.out) R9.out Hob.out hm).mono ?_; rintro e w7 ⟨A7, c7, kk, rfl, o7, hb7⟩
      have D10 := qh (below_to D9.out hb7)
      ((try dsimp only); refine nxK hK _ _ (hS.out _ D10.out) ?_; clear hK K; (try simp only [Act.put,pS,pZ,pC]))
      repeat ((first | refine lxS (by rfl) (by rfl) ?_ | (refine lxT (v := ?_) (by rfl) (by rfl) (fun z y => ?_) ?_; rotate_left; (focus ((try dsimp only at y); (go_simp <;> with_reducible rfl); done)))); (try simp only [Act.put,pS,pZ,pC]))
      refine wpMixL_nil ?_
      have B7 := qh (B6.out.trans (D10.out.mono ld))
      have N7 := qh (o7.low (base' := w.heap.size) (by have := D9.out.size; omega))
      have W7 := qh (B3.out.trans (B7.out.mono (by omega)))
      have D7 := qh (D3.out.below B7.out (by omega))
      have Z7 := qh (Z3.out.below B7.out (by have := Z3.out.lt; omega))
      have M7 := qh (own_keep M3.out (fun b hb => B7.out.block b (by have := (M3.out.lt b hb).2; omega)))
      have U7 := qh (own_keep U3.out (fun b hb => B7.out.block b (by have := (U3.out.lt b hb).2; omega)))
      have T7 := qh (T3.out.keepTI (fun b hb => B7.out.block b (by have := hb.lt; omega)))
      have hgl : Hid ((gathP room most (openB us)).length = m6) := o7.len
      have hol : Hid ((openB us).length = m6) := R6'.out.len
      clear hS K0 lP R6' Rm' B6 ld R9 D9 D10 hb7 o7 B7 BW P4 hm6 lzr B3 P3 Z3 D3 M3 U3 T3 sz3
      generalize gathP room most (openB us) = G at N7 HG hgl
      go_wp2_with fail
      go_loopw [8, 9] (fun kv iv wr => ∃ (i : Nat) (vs' : List Value) (us' : List Un), iv = .int .i64 (i : Nat) ∧ kv = .int .i64 (rankU us i : Nat) ∧ i ≤ k ∧ Below w.heap.size w wr ∧ Blk wr gd 35 #[.slice A3 n1 c3, .slice A4 k c4] ∧ Blk wr (w.heap.size + 1) 35 #[.slice none 0 0, .slice none 0 0] ∧ wr.ownsRow w.heap.size 3 1 (.slice A3 n1 c3) n1 (room.map (Value.int .i64)) ∧
        wr.ownsRow w.heap.size 83 2 (.slice A4 k c4) k vs' ∧ UnT wr w.heap.size k vs' us' ∧ OwnBR wr w.heap.size (.slice A7 m6 c7) m6 G ∧ (∀ j, j < i → us'[j]?.getD (false, []) = (backU us G)[j]?.getD (false, [])) ∧ (∀ j, i ≤ j → us'[j]?.getD (false, []) = us[j]?.getD (false, []))) (fun _ iv _ => k - (intOf iv).toNat)
      case atStart => exact ⟨0, vs0, us, rfl, by rw [rank_zero]; rfl, Nat.zero_le _, W7.out, D7.out, Z7.out, M7.out, U7.out, T7.out, N7.out, fun j hj => by omega, fun j _ => rfl⟩
      case round =>
        clear W7 D7 Z7 M7 U7 T7 N7
        obtain ⟨i, vs', us', rfl, rfl, hi, hb, hd, hz, hmm, hu, ht, hn, hlo, hhi⟩ := hrel
        have HB := qh hb
        have HD := qh hd
        have HZ := qh hz
        have HM := qh hmm
        have HU := qh hu
        have HT := qh ht
        have HN := qh hn
        have Hlo := qh hlo
        have Hhi := qh hhi
        clear hb hd hz hmm hu ht hn hlo hhi
        have d1 := HD.out.cell 1
        simp only [gT, gZ, gS] at d1
        by_cases hlt : i < k
        · have i1 : (0 : Int) ≤ (i : Int) := by omega
          have i2 : (i : Int) < (k : Int) := by omega
          have i3 : 0 ≤ (i : Int) * 2 := by omega
          have vi : IntKind.i64.wrap ((i : Int) + 1) = (i : Int) + 1 := wr64 (by omega) (by omega)
          have hil : Hid (i < us.length) := by have := Hl.out; show _ < _; omega
          obtain ⟨gu, cap, hv, hgu1, hgu2⟩ := HU.out.form (by omega)
          injection hv with hv1 hv2 hv3
          subst hv1 hv3
          obtain ⟨Aj, mj, cj, vj, e1, e2, e3, e4⟩ := HT.out.2.2 i hlt
          have u0 := HU.out.cells (g := gu) rfl _ _ e1
          have u1 := HU.out.cells (g := gu) rfl _ _ e2
          rw [addr_add, Nat.zero_add] at u0 u1
          rw [Hhi.out i (Nat.le_refl _)] at u0
          have Hrk := qh (rank_succ hil.out)
          have Hba := qh (back_at (bs := G) hil.out)
          clear e1 e2 e3 e4
          cases hop : (us[i]?.getD (false, [])).1 with
          | true =>
            rw [hop] at u0
            have Hop := qh hop
            have hrl : rankU us i < m6 := by
              have := (List.getElem?_eq_some_iff.1 (open_at hil.out hop)).1
              have := hol.out; omega
            obtain ⟨vb, ob, nb⟩ := HN.out
            obtain ⟨Ab, mb, cb, vt, q1, q2, q3⟩ := nb.2.2.1 _ hrl
            obtain ⟨gb, cap2, hv, hgb1, hgb2⟩ := ob.form (by omega)
            injection hv with hv1 hv2 hv3
            subst hv1 hv3
            have b0 := ob.cells (g := gb) rfl _ _ q1
            rw [addr_add, Nat.zero_add] at b0
            have Ob := qh ob
            have Nb := qh nb
            have Q2 := qh q2
            have Q3 := qh q3
            have f1 := HU.out.frozenAt (i * 2 + 1)
            obtain ⟨_, curU, eU, _, hbU⟩ := own_row HU.out (by omega)
            injection eU with eU
            injection eU with eU
            subst eU
            have HbU := qh hbU
            obtain ⟨q, hq⟩ : ∃ q, q = rankU us i := ⟨_, rfl⟩
            rw [← hq] at b0 hrl Hrk Q3 ⊢
            have Hq := qh hq
            have j1 : (0 : Int) ≤ (q : Int) := by omega
            have j2 : (q : Int) < (m6 : Int) := by omega
            have vq : IntKind.i64.wrap ((q : Int) + 1) = (q : Int) + 1 := wr64 (by omega) (by have := hol.out; have := openB_le us; have := Hl.out; omega)
            clear ob nb q1 q2 q3 hop hbU hq
            go_wp2_with fail
            refine wp_region_mixL (.take 0 (.take 1 (.take 2 (.take 3 (.take 4 (.take 5 (.take 6 (.take 7 (.take 8 (.last 9 .nil)))))))))) [9] (fun w' => w'.cell? ⟨gd, 1, none⟩ = some (.slice (some ⟨gu, 0, none⟩) k c4) ∧ w'.cell? ⟨gb, q, none⟩ = some (.slice Ab mb cb)) (by kernel_rfl) (by kernel_rfl) ⟨d1, b0⟩ (fun _ => ?_)
            have s1 : wr.drew.cell? ⟨gu, i * 2 + 1, none⟩ = some (.slice Aj mj cj) := u1
            have s2 : wr.drew.frozen? ⟨gu, i * 2 + 1, none⟩ = false := f1
            have HB' := qh HB.out.drew
            have HD' := qh HD.out.drew
            have HZ' := qh HZ.out.drew
            have HM' := qh (World.ownsRow.drew HM.out)
            have HU' := qh (World.ownsRow.drew HU.out)
            have HT' := qh (HT.out.keepTI (KeepTI.drew wr))
            have Ob' := qh (World.ownsRow.drew Ob.out)
            have Nb' := qh (Nb.out.keepTI (KeepTI.drew wr))
            have Q2' := qh (World.ownsRow.drew Q2.out)
            have Q3' := qh (Q3.out.keepTI (KeepTI.drew wr))
            have HbU' := qh HbU.out.drew
            clear d1 u0 u1 f1 b0 HB HD HZ HM HU Ob Nb Q2 Q3 HbU HN
            generalize wr.drew = z at s1 s2 HB' HD' HZ' HM' HU' HT' Ob' Nb' Q2' Q3' HbU' ⊢
            repeat ((first | refine lxS (by rfl) (by rfl) ?_ | (refine lxT (v := ?_) (by rfl) (by rfl) (fun z y => ?_) ?_; rotate_left; (focus ((try dsimp only at y); (go_simp <;> with_reducible rfl); done)))); (try simp only [Act.put,pS,pZ,pC]))
            (refine wpMixL_last (by rfl) (fun K hK => ?_); go_simp)
            ((try dsimp only); refine hK.out _ _ ?_; clear hK K; (try simp only [Act.put,pS,pZ,pC]))
            refine wpMixL_nil ?_
            clear s1 s2
            have KT : KeepTI z (z.setCell ⟨gu, i * 2 + 1, none⟩ (.slice Ab mb cb)) := KeepTI.set_ HbU'.out (by decide) (by decide) (i * 2 + 1) (.slice Ab mb cb)
            have B9 := qh (HB'.out.setCell (p := ⟨gu, i * 2 + 1, none⟩) (by show w.heap.size ≤ gu; omega) (.slice Ab mb cb))
            have D9 := qh (HD'.out.far (p := ⟨gu, i * 2 + 1, none⟩) (fun e => own_blk_ne HU'.out HD'.out (by decide) (by rw [e]; rfl)) (.slice Ab mb cb))
            have Z9 := qh (HZ'.out.far (p := ⟨gu, i * 2 + 1, none⟩) (fun e => own_blk_ne HU'.out HZ'.out (by decide) (by rw [e]; rfl)) (.slice Ab mb cb))
            have M9 := qh (own_keepTI HM'.out (.inl rfl) KT)
            have U9 := qh (own_set HU'.out (i * 2 + 1) (.slice Ab mb cb))
            have T9 := qh ((HT'.out.keepTI KT).put hlt (own_keepTI Q2'.out (.inr rfl) KT) (Q3'.out.keepTI KT))
            have N9 := qh (show OwnBR (z.setCell ⟨gu, i * 2 + 1, none⟩ (.slice Ab mb cb)) w.heap.size (.slice (some ⟨gb, 0, none⟩) m6 c7) m6 G from ⟨vb, own_keepB Ob'.out (fun b cs _ hc => Below.heap_setCell z _ _ b (by
              show b ≠ gu
              rintro rfl
              exact own_blk_ne HU'.out hc (by decide) rfl)), Nb'.out.keepTI KT⟩)
            clear KT HB' HD' HZ' HM' HU' Ob' Nb' Q2' Q3' HbU'
            generalize z.setCell ⟨gu, i * 2 + 1, none⟩ (.slice Ab mb cb) = w9 at B9 D9 Z9 M9 U9 T9 N9 ⊢
            go_wp2_with fail
            go_roundw
            case measure => simp [intOf]; omega
            case rel =>
              refine ⟨i + 1, _, _, by go_num, ?_, by omega, B9.out, D9.out, Z9.out, M9.out, U9.out, T9.out, N9.out, fun j hj => ?_, fun j hj => ?_⟩
              · rw [Hrk.out, if_pos Hop.out]; go_num
              · by_cases e : j = i
                · subst e
                  have hl' := HT.out.1
                  rw [List.getElem?_set_self (by omega), Hba.out, if_pos Hop.out, Hhi.out j (Nat.le_refl _), Hop.out, Hq.out]
                  rfl
                · rw [List.getElem?_set_ne (fun x => e x.symm)]
                  exact Hlo.out j (by omega)
              · rw [List.getElem?_set_ne (by omega)]
                exact Hhi.out j (by omega)
          | false =>
            rw [hop] at u0
            have Hop := qh hop
            clear hop
            go_wp2_with fail
            go_roundw
            case measure => simp [intOf]; omega
            case rel =>
              refine ⟨i + 1, _, us', by go_num, ?_, by omega, HB.out, HD.out, HZ.out, HM.out, HU.out, HT.out, HN.out, fun j hj => ?_, fun j hj => Hhi.out j (by omega)⟩
              · rw [Hrk.out, if_neg (by rw [Hop.out]; simp), Nat.add_zero]
              · by_cases e : j = i
                · subst e
                  rw [Hba.out, if_neg (by rw [Hop.out]; simp)]
                  exact Hhi.out j (Nat.le_refl _)
                · exact Hlo.out j (by omega)
        · obtain rfl : i = k := by omega
          have Heq : Hid (us' = gatherU room us (most : Int)) := by
            show _ = _
            rw [HG.out]
            have l1 := HT.out.1
            have l2 := back_len us G
            refine List.ext_getElem (by have := Hl.out; omega) (fun j h1 h2 => ?_)
            have := Hlo.out j (by omega)
            rw [List.getElem?_eq_getElem h1, List.getElem?_eq_getElem h2] at this
            exact this
          have d0 := HD.out.cell 0
          have x0 := (HZ.out).cell 0
          have x1 := (HZ.out).cell 1
          simp only [gT, gZ, gS] at d0 x0 x1
          have x2 := (HZ.out).frozen 0
          have x3 := (HZ.out).frozen 1
          go_wp2_with fail
          have KT := (KeepTU.set_ (HZ.out) (by decide) (by decide) (by decide) 0 (.slice A3 n1 c3)).trans (KeepTU.set_ ((HZ.out).set_ 0 (.slice A3 n1 c3)) (by decide) (by decide) (by decide) 1 (.slice A4 i c4))
          have EQ := qh (((HZ.out).set_ 0 (.slice A3 n1 c3)).set_ 1 (.slice A4 i c4))
          have B9 := qh (((HB.out).setCell (p := ⟨w.heap.size + 1, 0, none⟩) (by show w.heap.size ≤ w.heap.size + 1; omega) (.slice A3 n1 c3)).setCell (p := ⟨w.heap.size + 1, 1, none⟩) (by show w.heap.size ≤ w.heap.size + 1; omega) (.slice A4 i c4))
          have OC := qh ((show OwnCW wr w.heap.size (.slice A3 n1 c3) (.slice A4 i c4) n1 i room us' from ⟨HM.out, vs', HU.out, HT.out⟩).keepTU KT)
          clear KT
          generalize World.setCell (World.setCell wr ⟨w.heap.size + 1, 0, none⟩ (.slice A3 n1 c3)) ⟨w.heap.size + 1, 1, none⟩ (.slice A4 i c4) = w9 at EQ B9 OC ⊢
          have z0 : w9.cell? ⟨w.heap.size + 1, 0, none⟩ = some (.slice A3 n1 c3) := EQ.out.cell 0
          have z1 : w9.cell? ⟨w.heap.size + 1, 1, none⟩ = some (.slice A4 i c4) := EQ.out.cell 1
          refine bodyPost_ret (v := .agg #[.slice A3 n1 c3, .slice A4 i c4]) (by simp [results, Tryz.results87, go_sem, z0, z1]) rfl ⟨_, _, _, _, _, _, rfl, by rw [← Heq.out]; exact OC.out, B9.out⟩
end Go.Proofs.YtdkhdfedejbicaaGreatDoor
