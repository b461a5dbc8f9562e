/- Several texts in one. -/
import Derived.Test.YtdkhdfedejbicaaGreatDoorJ16
namespace Go.Proofs.YtdkhdfedejbicaaGreatDoor
set_option linter.unusedSimpArgs false
set_option linter.unusedVariables false
open Go Go.RowKit
attribute [local go_sem ↓] Go.wp_at_zero Go.wp_at_succ

def TkBR (w : World) (lo B n : Nat) (vs : List Value) (bs : List (List Tk)) : Prop :=
  bs.length = n ∧ vs.length = n ∧ ∀ j, j < n → ∃ A m c vt, vs[j]? = some (.slice A m c) ∧ w.ownsRow lo 75 2 (.slice A m c) m vt ∧ TkCells w B vt (bs[j]?.getD [])
section
variable {w w' : World} {lo B n : Nat} {vs : List Value} {bs : List (List Tk)}
theorem TkBR.nil : TkBR w lo B 0 [] [] := ⟨rfl, rfl, fun j hj => by omega⟩
theorem TkBR.keep (h : TkBR w lo B n vs bs) (hB : ∀ p : Addr, p.block < B → w'.cell? p = w.cell? p) (hk : ∀ A m c vt, w.ownsRow lo 75 2 (.slice A m c) m vt → w'.ownsRow lo 75 2 (.slice A m c) m vt) : TkBR w' lo B n vs bs :=
  ⟨h.1, h.2.1, fun j hj => by
    obtain ⟨A, m, c, vt, h1, h2, h3⟩ := h.2.2 j hj
    exact ⟨A, m, c, vt, h1, hk _ _ _ _ h2, h3.keep hB (Nat.le_refl _)⟩⟩
theorem TkBR.snoc {A : Option Addr} {m c : Nat} {vt : List Value} {ts : List Tk} (h : TkBR w lo B n vs bs) (ho : w.ownsRow lo 75 2 (.slice A m c) m vt) (ht : TkCells w B vt ts) : TkBR w lo B (n + 1) (vs ++ [.slice A m c]) (bs ++ [ts]) := by
  have h1 := h.1
  have h2 := h.2.1
  refine ⟨by simp [h1], by simp [h2], fun j hj => ?_⟩
  by_cases e : j = n
  · subst e
    exact ⟨A, m, c, vt, by rw [List.getElem?_append_right (by omega), h2, Nat.sub_self]; rfl, ho, by rw [List.getElem?_append_right (by omega), h1, Nat.sub_self]; exact ht⟩
  · obtain ⟨A', m', c', vt', e1, e2, e3⟩ := h.2.2 j (by omega)
    exact ⟨A', m', c', vt', by rw [List.getElem?_append_left (by omega)]; exact e1, e2, by rw [List.getElem?_append_left (by omega)]; exact e3⟩
theorem TkBR.cells (h : TkBR w lo B n vs bs) (hB : B ≤ w.heap.size) : BnCells w w.heap.size vs bs := ⟨by rw [h.2.1, h.1], fun j hj => by
  obtain ⟨A, m, c, vt, h1, h2, h3⟩ := h.2.2 j (by rw [← h.1]; exact hj)
  exact ⟨A, m, c, h1, own_cap' h2, RdT.of_own h2 h3 hB (own_le h2)⟩⟩
end
theorem last_take {l ts : List Tk} {j : Nat} (h : j < ts.length) : l ++ ts.take (j + 1) = (l ++ ts.take j) ++ [((ts[j]?.getD (0, [])).1, (ts[j]?.getD (0, [])).2)] := by
  rw [List.take_succ_eq_append_getElem h, List.getElem?_eq_getElem h, List.append_assoc]; rfl
theorem flat_take {bs : List (List Tk)} {k : Nat} (h : k < bs.length) : (bs.take (k + 1)).flatten = (bs.take k).flatten ++ bs[k]?.getD [] := by
  rw [List.take_succ_eq_append_getElem h, List.getElem?_eq_getElem h, List.flatten_append]; simp
theorem map_take {bs : List (List Tk)} {k : Nat} {id : Int} (h : k < bs.length) : (bs.take (k + 1)).map (takeP · id) = (bs.take k).map (takeP · id) ++ [takeP (bs[k]?.getD []) id] := by
  rw [List.take_succ_eq_append_getElem h, List.getElem?_eq_getElem h, List.map_append]; rfl

set_option maxRecDepth 100000 in
set_option maxHeartbeats 3200000 in
theorem l15Take_any (A : Option Addr) (n c : Nat) (bs : List (List Tk)) (id : Int) (w : World) (h : RdB w w.heap.size A n bs) (hn : n ≤ 1000) (hb : ∀ j, j < n → (bs[j]?.getD []).length ≤ 1048576) :
    Calls Tryz.prog 118 #[.slice A n c, .int .i64 id] w fun e w' => ∃ A' c' A3 m3 c3, e = .returned (.tuple #[.slice A' n c', .agg #[.int .i64 (takenP bs id).1, .slice A3 m3 c3]]) ∧ RdB w' w'.heap.size A' n (bs.map (takeP · id)) ∧ RdI w' w'.heap.size A3 m3 (takenP bs id).2 ∧ m3 ≤ c3 ∧ Below w.heap.size w w' := by
  obtain ⟨t0, ht0, htz0, htz1, htz2⟩ := info_parts task_info
  obtain ⟨s0, hs0, hsz0, hsz1, hsz2⟩ := info_parts slice_info'
  have Hl := qh h.len
  have H := qh h
  have Hb := qh hb
  clear h hb
  have sz1 : (w.alloc (.cells #[.int .i64 0, .slice none 0 0] 75)).heap.size = w.heap.size + 1 := World.size_alloc _ _
  have sz2 : ((w.alloc (.cells #[.int .i64 0, .slice none 0 0] 75)).alloc (.cells #[] 81)).heap.size = w.heap.size + 2 := by rw [World.size_alloc, sz1]
  have sz3 : (((w.alloc (.cells #[.int .i64 0, .slice none 0 0] 75)).alloc (.cells #[] 81)).alloc (.cells #[.int .i64 0, .slice none 0 0] 75)).heap.size = w.heap.size + 3 := by rw [World.size_alloc, sz2]
  have B3 := qh (((alloc_up w (.cells #[.int .i64 0, .slice none 0 0] 75)).alloc (by rw [sz1]; omega) (.cells #[] 81)).alloc (by rw [sz2]; omega) (.cells #[.int .i64 0, .slice none 0 0] 75))
  have Z3 := qh (((Blk.new w 75 #[.int .i64 0, .slice none 0 0]).alloc (.cells #[] 81)).alloc (.cells #[.int .i64 0, .slice none 0 0] 75))
  have hO := own_alloc (World.ownsRow_lit (base := w.heap.size) (e := 81) (size := 1) (w.alloc (.cells #[.int .i64 0, .slice none 0 0] 75)) #[] 0 (by rw [sz1]; omega) (by unfold maxLen; omega) rfl) (.cells #[.int .i64 0, .slice none 0 0] 75)
  rw [sz1] at hO
  have O3 := qh (show (((w.alloc (.cells #[.int .i64 0, .slice none 0 0] 75)).alloc (.cells #[] 81)).alloc (.cells #[.int .i64 0, .slice none 0 0] 75)).ownsRow w.heap.size 81 1 (.slice (some ⟨w.heap.size + 1, 0, none⟩) 0 0) 0 [] from hO)
  have hX := Blk.new ((w.alloc (.cells #[.int .i64 0, .slice none 0 0] 75)).alloc (.cells #[] 81)) 75 #[.int .i64 0, .slice none 0 0]
  rw [sz2] at hX
  have X3 := qh hX
  clear hO hX sz1 sz2
  go_enter Tryz.func118, Tryz.ntmps118
  go_wp2_with fail
  generalize ((w.alloc (.cells #[.int .i64 0, .slice none 0 0] 75)).alloc (.cells #[] 81)).alloc (.cells #[.int .i64 0, .slice none 0 0] 75) = w3 at sz3 B3 Z3 O3 X3 ⊢
  go_loopw [6, 8] (fun v kv wr => ∃ (k : Nat) (A3 : Option Addr) (c3 : Nat) (vs : List Value) (xi : Int) (Ax : Option Addr) (mx cx : Nat), kv = .int .i64 (k : Nat) ∧ k ≤ n ∧ v = .slice A3 k c3 ∧ Below w.heap.size w wr ∧ w.heap.size + 3 ≤ wr.heap.size ∧ Blk wr w.heap.size 75 #[.int .i64 0, .slice none 0 0] ∧ Blk wr (w.heap.size + 2) 75 #[.int .i64 xi, .slice Ax mx cx] ∧
    xi = (lastP (bs.take k).flatten id).1 ∧ RdI wr w.heap.size Ax mx (lastP (bs.take k).flatten id).2 ∧ mx ≤ cx ∧ wr.ownsRow w.heap.size 81 1 (.slice A3 k c3) k vs ∧ TkBR wr (w.heap.size + 3) w.heap.size k vs ((bs.take k).map (takeP · id))) (fun _ kv _ => n - (intOf kv).toNat)
  case atStart => exact ⟨0, _, _, [], 0, none, 0, 0, rfl, Nat.zero_le _, rfl, B3.out, by omega, Z3.out, X3.out, rfl, RdI.nil, Nat.le_refl _, O3.out, TkBR.nil⟩
  case round =>
    clear B3 Z3 X3 O3 sz3
    obtain ⟨k, A3, c3, vs, xi, Ax, mx, cx, rfl, hk, rfl, hbel, l3, hz, hx, hxi, hxr, hxc, hob, hnr⟩ := hrel
    have HB := qh hbel
    have HZ := qh hz
    have HX := qh hx
    have HXI := qh hxi
    have HXR := qh hxr
    have HXC := qh hxc
    have HO := qh hob
    have HN := qh hnr
    clear hbel hz hx hxi hxr hxc hob hnr
    by_cases hlt : k < n
    · have q1 : (0 : Int) ≤ (k : Int) := by omega
      have q2 : (k : Int) < (n : Int) := by omega
      have v1 : IntKind.i64.wrap ((k : Int) + 1) = (k : Int) + 1 := wr64 (by omega) (by omega)
      obtain ⟨b, o, At, m, ct, rfl, lb, hc1, hmc, hrd⟩ := (H.out.below HB.out).at_ hlt
      have hkl : Hid (k < bs.length) := by have := Hl.out; show _ < _; omega
      have Hrd := qh hrd
      have Hc1 := qh hc1
      have Hts := qh hrd.len
      have hm1 : m ≤ 1048576 := by have := (Hb.out k hlt); have := hrd.len; omega
      have Fk := qh (flat_take hkl.out)
      have Mk := qh (map_take (id := id) hkl.out)
      clear hrd hc1
      obtain ⟨wo, hwo⟩ : ∃ wo, wo = wr := ⟨_, rfl⟩
      rw [← hwo] at HB HZ HX HXR HO HN Hrd Hc1 l3 ⊢
      clear hwo
      have hR := World.ownsRow_lit (base := wo.heap.size) (e := 75) (size := 2) wo #[] 0 (Nat.le_refl _) (by unfold maxLen; omega) rfl
      have R4 := qh (show (wo.alloc (.cells #[] 75)).ownsRow wo.heap.size 75 2 (.slice (some ⟨wo.heap.size, 0, none⟩) 0 0) 0 [] from hR)
      have G4 := qh ((OnlyG.refl wo (w.heap.size + 2)).alloc (.cells #[] 75))
      have X4 := qh (HX.out.alloc (.cells #[] 75))
      have XR4 := qh (HXR.out.keep (w' := wo.alloc (.cells #[] 75)) (fun p hp => G4.out.cell (by omega) (by omega)) (Nat.le_refl _))
      clear hR
      go_wp2_with fail
      generalize wo.alloc (.cells #[] 75) = w4 at R4 G4 X4 XR4 ⊢
      go_loopw [9, 10] (fun v i wr => ∃ (j : Nat) (Ar : Option Addr) (mr cr : Nat) (vr : List Value) (xi : Int) (Ax : Option Addr) (mx cx : Nat), i = .int .i64 j ∧ j ≤ m ∧ v = .slice Ar mr cr ∧ mr ≤ j ∧ OnlyG wo wr (w.heap.size + 2) ∧ Blk wr (w.heap.size + 2) 75 #[.int .i64 xi, .slice Ax mx cx] ∧
        xi = (lastP ((bs.take k).flatten ++ (bs[k]?.getD []).take j) id).1 ∧ RdI wr w.heap.size Ax mx (lastP ((bs.take k).flatten ++ (bs[k]?.getD []).take j) id).2 ∧ mx ≤ cx ∧ wr.ownsRow wo.heap.size 75 2 (.slice Ar mr cr) mr vr ∧ TkCells wr w.heap.size vr (takeP ((bs[k]?.getD []).take j) id)) (fun _ i _ => m - (intOf i).toNat)
      case atStart => exact ⟨0, _, _, _, [], xi, Ax, mx, cx, rfl, Nat.zero_le _, rfl, Nat.le_refl _, G4.out, X4.out, by rw [List.take_zero, List.append_nil]; exact HXI.out, by rw [List.take_zero, List.append_nil]; exact XR4.out, HXC.out, R4.out, TkCells.nil⟩
      case round =>
        clear R4 G4 X4 XR4 HXI HXR HXC
        obtain ⟨j, Ar, mr, cr, vr, xi, Ax, mx, cx, rfl, hj, rfl, hmr, hg, hx, hxi, hxr, hxc, hr, hnr⟩ := hrel
        have HG := qh hg
        have HX1 := qh hx
        have HXI := qh hxi
        have HXR := qh hxr
        have HXC := qh hxc
        have HR := qh hr
        have HC := qh hnr
        have lz := hg.size
        have hgb : wr.cell? ⟨b, o + k, none⟩ = some (.slice At m ct) := (hg.cell (p := ⟨b, o + k, none⟩) (by show b < _; omega) (by show b ≠ _; omega)).trans Hc1.out
        clear hg hx hxi hxr hxc hr hnr
        have Hrw := qh (Hrd.out.keep (w' := wr) (fun p hp => HG.out.cell (by omega) (by omega)) (Nat.le_refl _))
        by_cases hjl : j < m
        · have k1 : (0 : Int) ≤ (j : Int) := by omega
          have k2 : (j : Int) < (m : Int) := by omega
          have k3 : 0 ≤ (j : Int) * 2 := by omega
          have vj : IntKind.i64.wrap ((j : Int) + 1) = (j : Int) + 1 := wr64 (by omega) (by omega)
          obtain ⟨bt, ot, An, mn, cn, rfl, lbt, d1, d2, hmn, hnd⟩ := Hrw.out.at_ hjl
          have HND := qh hnd
          have HMN := qh hmn
          have hjt : Hid (j < (bs[k]?.getD []).length) := by have := Hts.out; show _ < _; omega
          have Lt := qh (last_take (l := (bs.take k).flatten) hjt.out)
          clear hnd hmn
          by_cases hid : ((bs[k]?.getD [])[j]?.getD (0, [])).1 = id
          · have Ht := qh (takeP_yes hjt.out hid)
            have Hla := qh ((congrArg (lastP · id) Lt.out).trans (last_yes hid))
            have Hid1 := qh hid
            rw [hid] at d1
            have x0 := HX1.out.cell 0
            have x1 := HX1.out.cell 1
            simp only [gT, gZ, gS] at x0 x1
            have x2 := HX1.out.frozen 0
            have x3 := HX1.out.frozen 1
            clear hid
            go_wp2_with fail
            have hk2 : ∀ b, b ≠ w.heap.size + 2 → ((wr.setCell ⟨w.heap.size + 2, 0, none⟩ (.int .i64 id)).setCell ⟨w.heap.size + 2, 1, none⟩ (.slice An mn cn)).heap[b]? = wr.heap[b]? := fun b hb => (Below.heap_setCell _ _ _ b hb).trans (Below.heap_setCell _ _ _ b hb)
            have G5 := qh ((HG.out.set_g 0 (.int .i64 id)).set_g 1 (.slice An mn cn))
            have X5 := qh ((HX1.out.set_ 0 (.int .i64 id)).set_ 1 (.slice An mn cn))
            have R5 := qh (own_keep HR.out (w' := (wr.setCell ⟨w.heap.size + 2, 0, none⟩ (.int .i64 id)).setCell ⟨w.heap.size + 2, 1, none⟩ (.slice An mn cn)) (fun b hb => hk2 b (by have := (HR.out.lt b hb).1; omega)))
            have C5 := qh (HC.out.keep (w' := (wr.setCell ⟨w.heap.size + 2, 0, none⟩ (.int .i64 id)).setCell ⟨w.heap.size + 2, 1, none⟩ (.slice An mn cn)) (fun p hp => World.cell?_of_block (hk2 p.block (by omega))) (Nat.le_refl _))
            have N5 := qh (HND.out.keep (w' := (wr.setCell ⟨w.heap.size + 2, 0, none⟩ (.int .i64 id)).setCell ⟨w.heap.size + 2, 1, none⟩ (.slice An mn cn)) (fun p hp => World.cell?_of_block (hk2 p.block (by omega))) (Nat.le_refl _))
            clear hk2
            go_roundw
            case measure => simp [intOf]; omega
            case rel => exact ⟨j + 1, Ar, mr, cr, vr, id, An, mn, cn, by go_num, by omega, rfl, by omega, G5.out, X5.out, by rw [Hla.out]; exact Hid1.out.symm, by rw [Hla.out]; exact N5.out, HMN.out, R5.out, by rw [Ht.out]; exact C5.out⟩
          · have Ht := qh (takeP_no hjt.out hid)
            have Hla := qh ((congrArg (lastP · id) Lt.out).trans (last_no hid))
            have hne : (((bs[k]?.getD [])[j]?.getD (0, [])).1 == id) = false := by simpa using hid
            clear hid Lt
            generalize ((bs[k]?.getD [])[j]?.getD (0, [])).1 = ti at *
            generalize ((bs[k]?.getD [])[j]?.getD (0, [])).2 = nd at *
            have Own7 := qh (own_alloc HR.out (.cells #[.int .i64 ti, .slice An mn cn] 75))
            have X7 := qh (lit2 wr 75 (.int .i64 ti) (.slice An mn cn))
            have lz7 : wo.heap.size ≤ (wr.alloc (.cells #[.int .i64 ti, .slice An mn cn] 75)).heap.size := by rw [World.size_alloc]; omega
            go_wp2_with (at_builtin; refine wpList_append_src _ rfl _ _ 81 rfl (wo.heap.size) 75 t0 _ 2 32 Tryz.underlying81 ht0 htz0 htz1 htz2 rfl (by omega) (.slice Ar mr cr) mr vr rfl Own7.out (some ⟨wr.heap.size, 0, none⟩) 1 1 [.int .i64 ti, .slice An mn cn] rfl X7.out (one2 _ _ rfl rfl) (by unfold maxLen; omega) (by omega) lz7 ?_; intro v' w8 hown8 hgrow8 hat8; obtain ⟨A8, c8, rfl⟩ := own_shape hown8)
            have G8 := qh ((HG.out.alloc (.cells #[.int .i64 ti, .slice An mn cn] 75)).grown hgrow8 (fun r e => (Own7.out.lt r e).1))
            have ne8 : ∀ b, b < wo.heap.size → some b ≠ (Value.slice Ar mr cr).ownBlock := fun b hb e => by have := (Own7.out.lt b e.symm).1; omega
            have hk8 : ∀ b, b < wo.heap.size → w8.heap[b]? = wr.heap[b]? := fun b hb => (hgrow8.block b (by rw [World.size_alloc]; omega) (ne8 b hb)).trans (Below.heap_alloc _ _ _ (by omega))
            have X8 := qh (show Blk w8 (w.heap.size + 2) 75 #[.int .i64 xi, .slice Ax mx cx] from (hk8 _ (by omega)).trans HX1.out)
            have XR8 := qh (HXR.out.keep (w' := w8) (fun p hp => World.cell?_of_block (hk8 p.block (by omega))) (Nat.le_refl _))
            have R8 := qh hown8
            have C8 := qh ((HC.out.keep (w' := w8) (fun p hp => World.cell?_of_block (hk8 p.block (by omega))) (Nat.le_refl _)).append (tkOne (id := ti) (HND.out.keep (w' := w8) (fun p hp => World.cell?_of_block (hk8 p.block (by omega))) (Nat.le_refl _)) HMN.out))
            clear hown8 hgrow8 hat8 Own7 X7 ne8 hk8
            go_wp2_with fail
            go_roundw
            case measure => simp [intOf]; omega
            case rel => exact ⟨j + 1, A8, mr + 1, c8, _, xi, Ax, mx, cx, by go_num, by omega, rfl, by omega, G8.out, X8.out, by rw [Hla.out]; exact HXI.out, by rw [Hla.out]; exact XR8.out, HXC.out, R8.out, by rw [Ht.out]; exact C8.out⟩
        · obtain rfl : j = m := by omega
          have ets : (bs[k]?.getD []).take j = bs[k]?.getD [] := List.take_of_length_le (by rw [Hts.out]; exact Nat.le_refl _)
          rw [ets, ← Fk.out] at HXI HXR
          rw [ets] at HC
          clear ets
          have BW := qh (OnlyG.to_below HB.out HG.out (by omega))
          have HOr := qh (own_keep HO.out (w' := wr) (fun b hb => HG.out.block b (HO.out.lt b hb).2 (fun e => own_blk_ne HO.out HX.out (by decide) (by rw [hb, e]))))
          have HZr := qh (HG.out.blk HZ.out (by omega))
          have HNr := qh (HN.out.keep (w' := wr) (fun p hp => HG.out.cell (by omega) (by omega)) (fun A' m' c' vt h => own_keep h (fun b hb => HG.out.block b (h.lt b hb).2 (by have := (h.lt b hb).1; omega))))
          have Own7 := qh (own_alloc HOr.out (.cells #[.slice Ar mr cr] 81))
          have X7 := qh (lit1 wr 81 (.slice Ar mr cr))
          have lz7 : w.heap.size ≤ (wr.alloc (.cells #[.slice Ar mr cr] 81)).heap.size := by rw [World.size_alloc]; omega
          have R7 := qh (own_alloc HR.out (.cells #[.slice Ar mr cr] 81))
          have N7 := qh (HNr.out.keep (w' := wr.alloc (.cells #[.slice Ar mr cr] 81)) (fun p hp => World.cell?_of_block (Below.heap_alloc _ _ _ (by omega))) (fun A' m' c' vt h => own_alloc h _))
          have Z7 := qh (HZr.out.alloc (.cells #[.slice Ar mr cr] 81))
          have X7' := qh (HX1.out.alloc (.cells #[.slice Ar mr cr] 81))
          have XR7 := qh (HXR.out.keep (w' := wr.alloc (.cells #[.slice Ar mr cr] 81)) (fun p hp => World.cell?_of_block (Below.heap_alloc _ _ _ (by omega))) (Nat.le_refl _))
          have C7 := qh (HC.out.keep (w' := wr.alloc (.cells #[.slice Ar mr cr] 81)) (fun p hp => World.cell?_of_block (Below.heap_alloc _ _ _ (by omega))) (Nat.le_refl _))
          have B7 := qh (BW.out.alloc (by omega) (.cells #[.slice Ar mr cr] 81))
          go_wp2_with (at_builtin; refine wpList_append_src _ rfl _ _ 91 rfl w.heap.size 81 s0 _ 1 24 Tryz.underlying91 hs0 hsz0 hsz1 hsz2 rfl (by omega) (.slice A3 k c3) k vs rfl Own7.out (some ⟨wr.heap.size, 0, none⟩) 1 1 [.slice Ar mr cr] rfl X7.out (one1 _ rfl) (by unfold maxLen; omega) (by omega) lz7 ?_; intro v' w8 hown8 hgrow8 hat8; obtain ⟨A8, c8, rfl⟩ := own_shape hown8)
          have B8 := qh (B7.out.grown hgrow8 lz7 (fun r e => (Own7.out.lt r e).1))
          have Z8 := qh (Z7.out.grown hgrow8 (fun e => own_blk_ne Own7.out Z7.out (by decide) e.symm))
          have X8 := qh (X7'.out.grown hgrow8 (fun e => own_blk_ne Own7.out X7'.out (by decide) e.symm))
          have hlow : ∀ p : Addr, p.block < w.heap.size → w8.cell? p = (wr.alloc (.cells #[.slice Ar mr cr] 81)).cell? p := fun p hp => World.cell?_of_block (hgrow8.block p.block (by omega) (fun e => by have := (Own7.out.lt _ e.symm).1; omega))
          have R8 := qh (own_keep R7.out (w' := w8) (fun b hb => hgrow8.block b (R7.out.lt b hb).2 (fun e => own_types Own7.out R7.out (by decide) e.symm hb)))
          have N8 := qh (N7.out.keep (w' := w8) hlow (fun A' m' c' vt h => own_keep h (fun b hb => hgrow8.block b (h.lt b hb).2 (fun e => own_types Own7.out h (by decide) e.symm hb))))
          have C8 := qh (C7.out.keep (w' := w8) hlow (Nat.le_refl _))
          have XR8 := qh (XR7.out.keep (w' := w8) hlow (Nat.le_refl _))
          have l8 := hgrow8.size
          have O8 := qh hown8
          clear hown8 hgrow8 hat8 Own7 X7 R7 N7 Z7 X7' B7 hlow HZ HX HO HR HN HB HZr HOr HNr C7 XR7
          go_wp2_with fail
          go_roundw
          case measure => simp [intOf]; omega
          case rel =>
            rw [World.size_alloc] at l8
            refine ⟨k + 1, A8, c8, _, xi, Ax, mx, cx, by go_num, by omega, rfl, B8.out, by omega, Z8.out, X8.out, HXI.out, XR8.out, HXC.out, O8.out, ?_⟩
            rw [Mk.out]
            exact N8.out.snoc (own_lo R8.out l3) C8.out
    · obtain rfl : k = n := by omega
      have ets : bs.take k = bs := List.take_of_length_le (by rw [Hl.out]; exact Nat.le_refl _)
      rw [ets, ← taken_last] at HXI HXR
      rw [ets] at HN
      clear ets
      go_wp2_with fail
      have K0 : wr.drew.cell? ⟨w.heap.size + 2, 0, none⟩ = some (.int .i64 xi) ∧ wr.drew.cell? ⟨w.heap.size + 2, 1, none⟩ = some (.slice Ax mx cx) := ⟨HX.out.cell 0, HX.out.cell 1⟩
      have B9 := qh HB.out.drew
      have Z9 := qh HZ.out.drew
      have X9 := qh HX.out.drew
      have N9 := qh (show TkBR wr.drew (w.heap.size + 3) w.heap.size k vs (bs.map (takeP · id)) from HN.out)
      have O9 := qh (World.ownsRow.drew HO.out)
      have XR9 := qh (show RdI wr.drew w.heap.size Ax mx (takenP bs id).2 from HXR.out)
      clear HB HZ HX HN HO HXR
      refine wp_region_mix (.take 0 (.take 1 (.take 2 (.bar 3 .nil)))) (fun w' => w'.cell? ⟨w.heap.size + 2, 0, none⟩ = some (.int .i64 xi) ∧ w'.cell? ⟨w.heap.size + 2, 1, none⟩ = some (.slice Ax mx cx)) (by kernel_rfl) (by kernel_rfl) K0 (fun _ => ?_)
      clear K0
      repeat ((first | refine mxS (by rfl) (by rfl) ?_ | (refine mxT (v := ?_) (by rfl) (by rfl) (fun z y => ?_) ?_; rotate_left; (focus ((try dsimp only at y); (go_simp <;> with_reducible rfl); done)))); (try simp only [Act.put,pS,pZ,pC]))
      have l9 : w.heap.size + 3 ≤ wr.drew.heap.size := l3
      generalize wr.drew = u0 at B9 Z9 X9 N9 O9 XR9 l9 ⊢
      have x0 := Z9.out.cell 0
      have x1 := Z9.out.cell 1
      simp only [gT, gZ, gS] at x0 x1
      have x2 := Z9.out.frozen 0
      have x3 := Z9.out.frozen 1
      (refine mxB (by rfl) (fun K hK => ?_); go_simp)
      have hk9 : ∀ b, b ≠ w.heap.size → ((u0.setCell ⟨w.heap.size, 0, none⟩ (.int .i64 xi)).setCell ⟨w.heap.size, 1, none⟩ (.slice Ax mx cx)).heap[b]? = u0.heap[b]? := fun b hb => (Below.heap_setCell _ _ _ b hb).trans (Below.heap_setCell _ _ _ b hb)
      have EQ := qh ((Z9.out.set_ 0 (.int .i64 xi)).set_ 1 (.slice Ax mx cx))
      have Xa := qh ((X9.out.far (p := ⟨w.heap.size, 0, none⟩) (by show w.heap.size + 2 ≠ w.heap.size; omega) (.int .i64 xi)).far (p := ⟨w.heap.size, 1, none⟩) (by show w.heap.size + 2 ≠ w.heap.size; omega) (.slice Ax mx cx))
      have Ba := qh ((B9.out.setCell (p := ⟨w.heap.size, 0, none⟩) (by simp) (.int .i64 xi)).setCell (p := ⟨w.heap.size, 1, none⟩) (by simp) (.slice Ax mx cx))
      have Oa := qh (own_keep O9.out (w' := (u0.setCell ⟨w.heap.size, 0, none⟩ (.int .i64 xi)).setCell ⟨w.heap.size, 1, none⟩ (.slice Ax mx cx)) (fun b hb => hk9 b (fun e => own_blk_ne O9.out Z9.out (by decide) (by rw [hb, e]))))
      have Na := qh (N9.out.keep (w' := (u0.setCell ⟨w.heap.size, 0, none⟩ (.int .i64 xi)).setCell ⟨w.heap.size, 1, none⟩ (.slice Ax mx cx)) (fun p hp => World.cell?_of_block (hk9 p.block (by omega))) (fun A' m' c' vt h => own_keep h (fun b hb => hk9 b (by have := (h.lt b hb).1; omega))))
      have Ra := qh (XR9.out.keep (w' := (u0.setCell ⟨w.heap.size, 0, none⟩ (.int .i64 xi)).setCell ⟨w.heap.size, 1, none⟩ (.slice Ax mx cx)) (fun p hp => World.cell?_of_block (hk9 p.block (by omega))) (Nat.le_refl _))
      have la := Ba.out.size
      clear hk9 x0 x1 x2 x3
      ((try dsimp only); refine nxK hK _ _ (⟨Xa.out.cell 0, Xa.out.cell 1⟩) ?_; clear hK K; (try simp only [Act.put,pS,pZ,pC]))
      generalize (u0.setCell ⟨w.heap.size, 0, none⟩ (.int .i64 xi)).setCell ⟨w.heap.size, 1, none⟩ (.slice Ax mx cx) = w9 at EQ Xa Ba Oa Na Ra la ⊢
      refine wpMix_nil ?_
      have z0 : w9.cell? ⟨w.heap.size, 0, none⟩ = some (.int .i64 xi) := EQ.out.cell 0
      have z1 : w9.cell? ⟨w.heap.size, 1, none⟩ = some (.slice Ax mx cx) := EQ.out.cell 1
      go_wp2_with fail
      refine bodyPost_ret (v := .tuple #[.slice A3 k c3, .agg #[.int .i64 xi, .slice Ax mx cx]]) (by simp [results, Tryz.results118, go_sem, z0, z1]) rfl ⟨A3, c3, Ax, mx, cx, by rw [HXI.out], RdB.of_own Oa.out (Na.out.cells la) (Nat.le_refl _) (own_le Oa.out), Ra.out.more la, HXC.out, Ba.out⟩
end Go.Proofs.YtdkhdfedejbicaaGreatDoor

namespace Go.Proofs.YtdkhdfedejbicaaGreatDoor
set_option linter.unusedSimpArgs false
set_option linter.unusedVariables false
open Go Go.RowKit
attribute [local go_sem ↓] Go.wp_at_zero Go.wp_at_succ

set_option maxRecDepth 100000 in
set_option maxHeartbeats 3200000 in
theorem l11Put_any (A A3 : Option Addr) (n c m3 c3 k : Nat) (bs : List (List Tk)) (id : Int) (xs : List Int) (w : World) (h : RdB w w.heap.size A n bs) (hn : n ≤ 1000) (hb : ∀ j, j < n → (bs[j]?.getD []).length ≤ 1048576 ∧ ∀ a, a < (bs[j]?.getD []).length → ((bs[j]?.getD [])[a]?.getD (0, [])).2.length ≤ 1048576)
    (hk : k < n) (hx : RdI w w.heap.size A3 m3 xs) (hm : m3 ≤ 1000) :
    Calls Tryz.prog 181 #[.slice A n c, .int .i64 (k : Int), .agg #[.int .i64 id, .slice A3 m3 c3]] w fun e w' => ∃ A' c', e = .returned (.slice A' n c') ∧ OwnBR w' w.heap.size (.slice A' n c') n (putAt bs k (id, xs)) ∧ Below w.heap.size w w' := by
  obtain ⟨i0, hi0, hz0, hz1, hz2⟩ := info_parts ownI_info
  obtain ⟨t0, ht0, htz0, htz1, htz2⟩ := info_parts task_info
  have B1 := qh (alloc_up w (.cells #[.int .i64 id, .slice A3 m3 c3] 75))
  have P1 := qh (Blk.new w 75 #[.int .i64 id, .slice A3 m3 c3])
  have R1 := qh (h.up B1.out)
  have X1 := qh (hx.up B1.out)
  have Hb := qh hb
  have s1 : (w.alloc (.cells #[.int .i64 id, .slice A3 m3 c3] 75)).heap.size = w.heap.size + 1 := World.size_alloc _ _
  clear h hx hb
  have k1 : (0 : Int) ≤ (k : Int) := by omega
  have k2 : (k : Int) < (n : Int) := by omega
  go_enter Tryz.func181, Tryz.ntmps181
  go_wp2_with fail
  generalize w.alloc (.cells #[.int .i64 id, .slice A3 m3 c3] 75) = w1 at B1 P1 R1 X1 s1 ⊢
  refine (l2Bins_any A n c bs w1 R1.out hn Hb.out).mono ?_; rintro e w2 ⟨A2, c2, rfl, ⟨vs, ho2, hn2⟩, hb2⟩
  have B2 := qh (B1.out.trans (hb2.mono B1.out.size))
  have P2 := qh (P1.out.below hb2 P1.out.lt)
  have X2 := qh (X1.out.up hb2)
  have l2 := hb2.size
  have O0 := qh (World.ownsRow.drew ho2)
  have N0 := qh (hn2.keepTI (KeepTI.drew w2))
  have B0 := qh B2.out.drew
  have P0 := qh P2.out.drew
  have HX0 := qh (show RdI w2.drew w2.drew.heap.size A3 m3 xs from X2.out)
  clear ho2 hn2 hb2 R1 X1 B1 P1 B2 P2 X2
  go_wp2_with fail
  have l0 : w1.heap.size ≤ w2.drew.heap.size := l2
  have K0 : w2.drew.cell? ⟨w.heap.size, 0, none⟩ = some (.int .i64 id) ∧ w2.drew.cell? ⟨w.heap.size, 1, none⟩ = some (.slice A3 m3 c3) := ⟨P0.out.cell 0, P0.out.cell 1⟩
  refine wp_region_mix (.take 0 (.take 1 (.take 3 (.take 4 (.fork 2 (.fork 5 (.take 6 (.bar 7 (.bar 8 .nil))) 7 (.bar 5 (.take 6 (.bar 8 .nil)))) 7 (.bar 2 (.bar 5 (.take 6 (.bar 8 .nil))))))))) (fun w' => w'.cell? ⟨w.heap.size, 0, none⟩ = some (.int .i64 id) ∧ w'.cell? ⟨w.heap.size, 1, none⟩ = some (.slice A3 m3 c3)) (by kernel_rfl) (by kernel_rfl) K0 (fun _ => ?_)
  repeat ((first | refine mxS (by rfl) (by rfl) ?_ | (refine mxT (v := ?_) (by rfl) (by rfl) (fun z y => ?_) ?_; rotate_left; (focus ((try dsimp only at y); (go_simp <;> with_reducible rfl); done)))); (try simp only [Act.put,pS,pZ,pC]))
  generalize w2.drew = u0 at K0 O0 N0 B0 P0 HX0 l0 ⊢
  have lP := P0.out.lt
  have hS := qh (fun w' (hb : Below u0.heap.size u0 w') => (⟨(hb.cell (p := ⟨w.heap.size, 0, none⟩) lP).trans K0.1, (hb.cell (p := ⟨w.heap.size, 1, none⟩) lP).trans K0.2⟩ : w'.cell? ⟨w.heap.size, 0, none⟩ = some (.int .i64 id) ∧ w'.cell? ⟨w.heap.size, 1, none⟩ = some (.slice A3 m3 c3)))
  have HB0 := qh (Below.refl u0.heap.size u0)
  refine wpMix_fork (by rfl) (by rfl) (fun K hK => ?_) (fun K hK => ?_)
  go_simp
  have HB1 := qh (HB0.out.alloc HB0.out.size (.cells #[] 3))
  have HE := qh (show (u0.alloc (.cells #[] 3)).ownsRow u0.heap.size 3 1 (.slice (some ⟨u0.heap.size, 0, none⟩) 0 0) 0 [] from World.ownsRow_lit (base := u0.heap.size) (e := 3) (size := 1) u0 #[] 0 HB0.out.size (by unfold maxLen; omega) rfl)
  ((try dsimp only); refine nxK hK _ _ (hS.out _ HB1.out) ?_; clear hK K; (try simp only [Act.put,pS,pZ,pC]))
  generalize u0.alloc (.cells #[] 3) = u1 at HB1 HE ⊢
  refine wpMix_fork (by rfl) (by rfl) (fun K hK => ?_) (fun K hK => ?_)
  rw [if_pos (by rfl)]
  have S1 := qh (srcOfI (HX0.out.below HB1.out))
  refine wp_append_src _ _ _ 32 (by rfl) u0.heap.size 3 i0 _ 1 8 Tryz.underlying32 hi0 hz0 hz1 hz2 rfl (by omega) (.slice (some ⟨u0.heap.size, 0, none⟩) 0 0) 0 [] (by rfl) HE.out A3 m3 c3 _ (by rfl) S1.out (ints_cell1 xs) (by unfold maxLen; omega) (by omega) HB1.out.size ?_
  intro v6 u2 hown6 hgrow6 hrow6
  rw [Nat.zero_add, List.nil_append] at hown6
  obtain ⟨A6, c6, rfl⟩ := own_shape hown6
  have HB2 := qh (HB1.out.grown hgrow6 HB1.out.size (fun j e => (HE.out.lt j e).1))
  have HI := qh hown6
  clear hown6 hgrow6 hrow6 S1 HE
  ((try dsimp only); refine nxK hK _ _ (hS.out _ HB2.out) ?_; clear hK K; (try simp only [Act.put,pS,pZ,pC]))
  repeat ((first | refine mxS (by rfl) (by rfl) ?_ | (refine mxT (v := ?_) (by rfl) (by rfl) (fun z y => ?_) ?_; rotate_left; (focus ((try dsimp only at y); (go_simp <;> with_reducible rfl); done)))); (try simp only [Act.put,pS,pZ,pC]))
  (refine mxB (by rfl) (fun K hK => ?_); go_simp)
  have HB3 := qh (HB2.out.alloc HB2.out.size (.cells #[.int .i64 0, .slice none 0 0] 75))
  have HY := qh (Blk.new u2 75 #[.int .i64 0, .slice none 0 0])
  have ly0 := HB2.out.size
  replace HI := qh (own_alloc HI.out (.cells #[.int .i64 0, .slice none 0 0] 75))
  ((try dsimp only); refine nxK hK _ _ (hS.out _ HB3.out) ?_; clear hK K; (try simp only [Act.put,pS,pZ,pC]))
  generalize hgy : u2.heap.size = gy at HY ⊢
  have ly : u0.heap.size ≤ gy := by rw [← hgy]; exact ly0
  clear hgy ly0
  generalize u2.alloc (.cells #[.int .i64 0, .slice none 0 0] 75) = u3 at HB3 HY HI ⊢
  have x0 := HY.out.cell 0
  have x1 := HY.out.cell 1
  simp only [gT, gZ, gS] at x0 x1
  have x2 := HY.out.frozen 0
  have x3 := HY.out.frozen 1
  (refine mxB (by rfl) (fun K hK => ?_); go_simp)
  have HYz := qh ((HY.out.set_ 0 (.int .i64 id)).set_ 1 (.slice A6 m3 c6))
  have HBz := qh ((HB3.out.setCell (p := ⟨gy, 0, none⟩) (by show u0.heap.size ≤ gy; omega) (.int .i64 id)).setCell (p := ⟨gy, 1, none⟩) (by show u0.heap.size ≤ gy; omega) (.slice A6 m3 c6))
  have HIz := qh (own_keep HI.out (w' := (u3.setCell ⟨gy, 0, none⟩ (.int .i64 id)).setCell ⟨gy, 1, none⟩ (.slice A6 m3 c6)) (fun b hb => (Below.heap_setCell _ _ _ b (fun e => own_blk_ne HI.out HY.out (by decide) (by rw [hb, e]))).trans (Below.heap_setCell _ _ _ b (fun e => own_blk_ne HI.out HY.out (by decide) (by rw [hb, e])))))
  clear x0 x1 x2 x3 HY HI HB0 HB1 HB2 HB3
  ((try dsimp only); refine nxK hK _ _ (hS.out _ HBz.out) ?_; clear hK K; (try simp only [Act.put,pS,pZ,pC]))
  generalize (u3.setCell ⟨gy, 0, none⟩ (.int .i64 id)).setCell ⟨gy, 1, none⟩ (.slice A6 m3 c6) = wz at HYz HBz HIz ⊢
  refine wpMix_nil ?_
  rotate_left
  go_simp
  have HB2 := qh (HB1.out.alloc HB1.out.size (.cells #[.int .i64 0, .slice none 0 0] 75))
  have HY := qh (Blk.new u1 75 #[.int .i64 0, .slice none 0 0])
  have ly0 := HB1.out.size
  replace HE := qh (own_alloc HE.out (.cells #[.int .i64 0, .slice none 0 0] 75))
  ((try dsimp only); refine nxK hK _ _ (hS.out _ HB2.out) ?_; clear hK K; (try simp only [Act.put,pS,pZ,pC]))
  generalize hgy : u1.heap.size = gy at HY ⊢
  have ly : u0.heap.size ≤ gy := by rw [← hgy]; exact ly0
  clear hgy ly0
  generalize u1.alloc (.cells #[.int .i64 0, .slice none 0 0] 75) = u2 at HB2 HY HE ⊢
  refine mxB (by rfl) (fun K hK => ?_)
  rw [if_pos (by rfl)]
  have S1 := qh (srcOfI (HX0.out.below HB2.out))
  refine wp_append_src _ _ _ 32 (by rfl) u0.heap.size 3 i0 _ 1 8 Tryz.underlying32 hi0 hz0 hz1 hz2 rfl (by omega) (.slice (some ⟨u0.heap.size, 0, none⟩) 0 0) 0 [] (by rfl) HE.out A3 m3 c3 _ (by rfl) S1.out (ints_cell1 xs) (by unfold maxLen; omega) (by omega) HB2.out.size ?_
  intro v6 u3 hown6 hgrow6 hrow6
  rw [Nat.zero_add, List.nil_append] at hown6
  obtain ⟨A6, c6, rfl⟩ := own_shape hown6
  have HB3 := qh (HB2.out.grown hgrow6 HB2.out.size (fun j e => (HE.out.lt j e).1))
  replace HY := qh (HY.out.grown hgrow6 (fun e => own_blk_ne HE.out HY.out (by decide) e.symm))
  have HI := qh hown6
  clear hown6 hgrow6 hrow6 S1 HE
  ((try dsimp only); refine nxK hK _ _ (hS.out _ HB3.out) ?_; clear hK K; (try simp only [Act.put,pS,pZ,pC]))
  repeat ((first | refine mxS (by rfl) (by rfl) ?_ | (refine mxT (v := ?_) (by rfl) (by rfl) (fun z y => ?_) ?_; rotate_left; (focus ((try dsimp only at y); (go_simp <;> with_reducible rfl); done)))); (try simp only [Act.put,pS,pZ,pC]))
  have x0 := HY.out.cell 0
  have x1 := HY.out.cell 1
  simp only [gT, gZ, gS] at x0 x1
  have x2 := HY.out.frozen 0
  have x3 := HY.out.frozen 1
  (refine mxB (by rfl) (fun K hK => ?_); go_simp)
  have HYz := qh ((HY.out.set_ 0 (.int .i64 id)).set_ 1 (.slice A6 m3 c6))
  have HBz := qh ((HB3.out.setCell (p := ⟨gy, 0, none⟩) (by show u0.heap.size ≤ gy; omega) (.int .i64 id)).setCell (p := ⟨gy, 1, none⟩) (by show u0.heap.size ≤ gy; omega) (.slice A6 m3 c6))
  have HIz := qh (own_keep HI.out (w' := (u3.setCell ⟨gy, 0, none⟩ (.int .i64 id)).setCell ⟨gy, 1, none⟩ (.slice A6 m3 c6)) (fun b hb => (Below.heap_setCell _ _ _ b (fun e => own_blk_ne HI.out HY.out (by decide) (by rw [hb, e]))).trans (Below.heap_setCell _ _ _ b (fun e => own_blk_ne HI.out HY.out (by decide) (by rw [hb, e])))))
  clear x0 x1 x2 x3 HY HI HB0 HB1 HB2 HB3
  ((try dsimp only); refine nxK hK _ _ (hS.out _ HBz.out) ?_; clear hK K; (try simp only [Act.put,pS,pZ,pC]))
  generalize (u3.setCell ⟨gy, 0, none⟩ (.int .i64 id)).setCell ⟨gy, 1, none⟩ (.slice A6 m3 c6) = wz at HYz HBz HIz ⊢
  refine wpMix_nil ?_
  rotate_left
  go_simp
  have HB1 := qh (HB0.out.alloc HB0.out.size (.cells #[.int .i64 0, .slice none 0 0] 75))
  have HY := qh (Blk.new u0 75 #[.int .i64 0, .slice none 0 0])
  have ly0 := HB0.out.size
  ((try dsimp only); refine nxK hK _ _ (hS.out _ HB1.out) ?_; clear hK K; (try simp only [Act.put,pS,pZ,pC]))
  generalize hgy : u0.heap.size = gy at HY ⊢
  have ly : u0.heap.size ≤ gy := by rw [← hgy]; exact ly0
  clear hgy ly0
  generalize u0.alloc (.cells #[.int .i64 0, .slice none 0 0] 75) = u1 at HB1 HY ⊢
  (refine mxB (by rfl) (fun K hK => ?_); go_simp)
  have HB2 := qh (HB1.out.alloc HB1.out.size (.cells #[] 3))
  have HE := qh (show (u1.alloc (.cells #[] 3)).ownsRow u0.heap.size 3 1 (.slice (some ⟨u1.heap.size, 0, none⟩) 0 0) 0 [] from World.ownsRow_lit (base := u0.heap.size) (e := 3) (size := 1) u1 #[] 0 HB1.out.size (by unfold maxLen; omega) rfl)
  replace HY := qh (HY.out.alloc (.cells #[] 3))
  ((try dsimp only); refine nxK hK _ _ (hS.out _ HB2.out) ?_; clear hK K; (try simp only [Act.put,pS,pZ,pC]))
  generalize u1.heap.size = ge at HE ⊢
  generalize u1.alloc (.cells #[] 3) = u2 at HB2 HE HY ⊢
  refine mxB (by rfl) (fun K hK => ?_)
  rw [if_pos (by rfl)]
  have S1 := qh (srcOfI (HX0.out.below HB2.out))
  refine wp_append_src _ _ _ 32 (by rfl) u0.heap.size 3 i0 _ 1 8 Tryz.underlying32 hi0 hz0 hz1 hz2 rfl (by omega) (.slice (some ⟨ge, 0, none⟩) 0 0) 0 [] (by rfl) HE.out A3 m3 c3 _ (by rfl) S1.out (ints_cell1 xs) (by unfold maxLen; omega) (by omega) HB2.out.size ?_
  intro v6 u3 hown6 hgrow6 hrow6
  rw [Nat.zero_add, List.nil_append] at hown6
  obtain ⟨A6, c6, rfl⟩ := own_shape hown6
  have HB3 := qh (HB2.out.grown hgrow6 HB2.out.size (fun j e => (HE.out.lt j e).1))
  replace HY := qh (HY.out.grown hgrow6 (fun e => own_blk_ne HE.out HY.out (by decide) e.symm))
  have HI := qh hown6
  clear hown6 hgrow6 hrow6 S1 HE
  ((try dsimp only); refine nxK hK _ _ (hS.out _ HB3.out) ?_; clear hK K; (try simp only [Act.put,pS,pZ,pC]))
  repeat ((first | refine mxS (by rfl) (by rfl) ?_ | (refine mxT (v := ?_) (by rfl) (by rfl) (fun z y => ?_) ?_; rotate_left; (focus ((try dsimp only at y); (go_simp <;> with_reducible rfl); done)))); (try simp only [Act.put,pS,pZ,pC]))
  have x0 := HY.out.cell 0
  have x1 := HY.out.cell 1
  simp only [gT, gZ, gS] at x0 x1
  have x2 := HY.out.frozen 0
  have x3 := HY.out.frozen 1
  (refine mxB (by rfl) (fun K hK => ?_); go_simp)
  have HYz := qh ((HY.out.set_ 0 (.int .i64 id)).set_ 1 (.slice A6 m3 c6))
  have HBz := qh ((HB3.out.setCell (p := ⟨gy, 0, none⟩) (by show u0.heap.size ≤ gy; omega) (.int .i64 id)).setCell (p := ⟨gy, 1, none⟩) (by show u0.heap.size ≤ gy; omega) (.slice A6 m3 c6))
  have HIz := qh (own_keep HI.out (w' := (u3.setCell ⟨gy, 0, none⟩ (.int .i64 id)).setCell ⟨gy, 1, none⟩ (.slice A6 m3 c6)) (fun b hb => (Below.heap_setCell _ _ _ b (fun e => own_blk_ne HI.out HY.out (by decide) (by rw [hb, e]))).trans (Below.heap_setCell _ _ _ b (fun e => own_blk_ne HI.out HY.out (by decide) (by rw [hb, e])))))
  clear x0 x1 x2 x3 HY HI HB0 HB1 HB2 HB3
  ((try dsimp only); refine nxK hK _ _ (hS.out _ HBz.out) ?_; clear hK K; (try simp only [Act.put,pS,pZ,pC]))
  generalize (u3.setCell ⟨gy, 0, none⟩ (.int .i64 id)).setCell ⟨gy, 1, none⟩ (.slice A6 m3 c6) = wz at HYz HBz HIz ⊢
  refine wpMix_nil ?_
  rotate_left
  all_goals
    clear hS K0 lP HX0
    have Hold := qh (N0.out.old k)
    have q1 : ((k : Int) < 0) = False := by simp
    have O1 := qh (own_up' O0.out HBz.out)
    have N1 := qh (N0.out.keepTI (KeepTI.up HBz.out))
    have Bz := qh (B0.out.trans (HBz.out.mono (by have := B0.out.size; omega)))
    have lz := HBz.out.size
    have li := HIz.out.lt
    clear O0 N0 B0 P0 HBz
    obtain ⟨At, mt, ct, vt, e3, e4, e5⟩ := N1.out.2.2.1 k hk
    have hlt : mt ≤ 1048576 := by have := (Hb.out k hk).1; have := e5.1; omega
    obtain ⟨gb, cap, hv, hgb1, hgb2⟩ := O1.out.form (by omega)
    injection hv with hv1 hv2 hv3
    subst hv1 hv3
    have u1 := O1.out.cells (g := gb) rfl k _ e3
    rw [addr_add, Nat.zero_add] at u1
    obtain ⟨_, curU, eU, _, hbU⟩ := own_row O1.out (by omega)
    injection eU with eU
    injection eU with eU
    subst eU
    have E3 := qh e3
    have hdist := qh (show (Value.slice At mt ct).ownBlock ≠ some gy from fun e => by have := Hold.out _ e3 gy e; omega)
    have O8 := qh (World.ownsRow.drew O1.out)
    have N8 := qh (N1.out.keepTI (KeepTI.drew wz))
    have R8 := qh (World.ownsRow.drew e4)
    have V8 := qh (e5.keepTI (KeepTI.drew wz))
    have I8 := qh (World.ownsRow.drew HIz.out)
    have Y8 := qh HYz.out.drew
    have B8 := qh Bz.out.drew
    have U8 := qh (show Blk wz.drew gb _ _ from hbU)
    have K1 : wz.drew.cell? ⟨gb, k, none⟩ = some (.slice At mt ct) ∧ wz.drew.cell? ⟨gy, 0, none⟩ = some (.int .i64 id) ∧ wz.drew.cell? ⟨gy, 1, none⟩ = some (.slice A6 m3 c6) := ⟨u1, Y8.out.cell 0, Y8.out.cell 1⟩
    have l8 : w1.heap.size ≤ wz.drew.heap.size := by show w1.heap.size ≤ wz.heap.size; omega
    have lg8 : gb < wz.drew.heap.size := hgb2
    have ly8 : gy < wz.drew.heap.size := Y8.out.lt
    clear e3 e4 e5 u1 hbU O1 N1 HIz HYz Bz
    go_wp2_with fail
    refine wp_region_mixL (.take 0 (.take 1 (.take 2 (.take 3 (.take 4 (.take 6 (.take 5 (.bar 7 (.bar 8 (.take 9 (.last 10 .nil))))))))))) [10] (fun w' => w'.cell? ⟨gb, k, none⟩ = some (.slice At mt ct) ∧ w'.cell? ⟨gy, 0, none⟩ = some (.int .i64 id) ∧ w'.cell? ⟨gy, 1, none⟩ = some (.slice A6 m3 c6)) (by kernel_rfl) (by kernel_rfl) K1 (fun _ => ?_)
    repeat ((first | refine lxS (by rfl) (by rfl) ?_ | (refine lxT (v := ?_) (by rfl) (by rfl) (fun z y => ?_) ?_; rotate_left; (focus ((try dsimp only at y); (go_simp <;> with_reducible rfl); done)))); (try simp only [Act.put,pS,pZ,pC]))
    generalize wz.drew = z0 at K1 O8 N8 R8 V8 I8 Y8 B8 U8 l8 lg8 ly8 ⊢
    have hS := qh (fun (w' : World) (hb : ∀ b, b = gb ∨ b = gy → w'.heap[b]? = z0.heap[b]?) => (⟨(World.cell?_of_block (a := ⟨gb, k, none⟩) (hb gb (.inl rfl))).trans K1.1, (World.cell?_of_block (a := ⟨gy, 0, none⟩) (hb gy (.inr rfl))).trans K1.2.1, (World.cell?_of_block (a := ⟨gy, 1, none⟩) (hb gy (.inr rfl))).trans K1.2.2⟩ : w'.cell? ⟨gb, k, none⟩ = some (.slice At mt ct) ∧ w'.cell? ⟨gy, 0, none⟩ = some (.int .i64 id) ∧ w'.cell? ⟨gy, 1, none⟩ = some (.slice A6 m3 c6)))
    clear K1
    (refine lxB (by rfl) (fun K hK => ?_); go_simp)
    have D2 := qh (alloc_up z0 (.cells #[.int .i64 id, .slice A6 m3 c6] 75))
    have X2 := qh (lit2 z0 75 (.int .i64 id) (.slice A6 m3 c6))
    have O2 := qh (own_up' O8.out D2.out)
    have N2 := qh (N8.out.keepTI (KeepTI.up D2.out))
    have R2 := qh (own_up' R8.out D2.out)
    have V2 := qh (V8.out.keepTI (KeepTI.up D2.out))
    have I2 := qh (own_up' I8.out D2.out)
    have U2 := qh (U8.out.below D2.out lg8)
    have Y2 := qh (Y8.out.below D2.out ly8)
    have B2 := qh (B8.out.trans (D2.out.mono (by have := B8.out.size; omega)))
    have hS2 := qh (fun b (hb : b = gb ∨ b = gy) => D2.out.block b (by rcases hb with rfl | rfl <;> omega))
    have l2' : w1.heap.size ≤ (z0.alloc (.cells #[.int .i64 id, .slice A6 m3 c6] 75)).heap.size := by have := D2.out.size; omega
    ((try dsimp only); refine nxK hK _ _ (hS.out _ hS2.out) ?_; clear hK K; (try simp only [Act.put,pS,pZ,pC]))
    clear D2 O8 N8 R8 V8 I8 U8 Y8 B8
    generalize z0.heap.size = gx at X2 ⊢
    generalize z0.alloc (.cells #[.int .i64 id, .slice A6 m3 c6] 75) = z1 at X2 O2 N2 R2 V2 I2 U2 Y2 B2 hS2 l2' ⊢
    refine lxB (by rfl) (fun K hK => ?_)
    rw [if_pos (by rfl)]
    refine wp_append_src _ _ _ 81 (by rfl) w1.heap.size 75 t0 _ 2 32 Tryz.underlying81 ht0 htz0 htz1 htz2 rfl (by omega) (.slice At mt ct) mt vt (by rfl) R2.out (some ⟨gx, 0, none⟩) 1 1 [.int .i64 id, .slice A6 m3 c6] (by rfl) X2.out (one2 _ _ rfl rfl) (by unfold maxLen; omega) (by omega) l2' ?_
    intro v6 z2 hown6 hgrow6 hrow6
    obtain ⟨A7, c7, rfl⟩ := own_shape hown6
    have I3 := qh (own_keep I2.out (w' := z2) (fun b hb => hgrow6.block b (I2.out.lt b hb).2 (fun e => own_types R2.out I2.out (by decide) e.symm hb)))
    have O3 := qh (own_keep O2.out (w' := z2) (fun b hb => hgrow6.block b (O2.out.lt b hb).2 (fun e => own_types R2.out O2.out (by decide) e.symm hb)))
    have U3 := qh (U2.out.grown hgrow6 (fun e => own_blk_ne R2.out U2.out (by decide) e.symm))
    have B3 := qh (B2.out.grown hgrow6 (by have := B2.out.size; omega) (fun j e => by have := (R2.out.lt j e).1; omega))
    have V3 := qh (((V2.out.grown R2.out (by decide) hgrow6).low (base' := w1.heap.size) (Nat.le_refl _)).snoc (id := id) (own_lo I3.out (by have := B2.out.size; omega)))
    have N3 := qh (N2.out.grow hk E3.out R2.out hgrow6 hown6 V3.out hrow6)
    have hS3 := qh (show ∀ b, b = gb ∨ b = gy → z2.heap[b]? = z0.heap[b]? from fun b hb => (hgrow6.block b (hb.elim (fun e => e ▸ U2.out.lt) (fun e => e ▸ Y2.out.lt)) (fun e => by
      rcases hb with rfl | rfl
      · exact own_blk_ne R2.out U2.out (by decide) e.symm
      · exact (hdist.out) e.symm)).trans (hS2.out b hb))
    ((try dsimp only); refine nxK hK _ _ (hS.out _ hS3.out) ?_; clear hK K; (try simp only [Act.put,pS,pZ,pC]))
    repeat ((first | refine lxS (by rfl) (by rfl) ?_ | (refine lxT (v := ?_) (by rfl) (by rfl) (fun z y => ?_) ?_; rotate_left; (focus ((try dsimp only at y); (go_simp <;> with_reducible rfl); done)))); (try simp only [Act.put,pS,pZ,pC]))
    have s0 : z2.cell? ⟨gb, k, none⟩ = some (.slice At mt ct) := (hS.out _ hS3.out).1
    have f0 := U3.out.frozen k
    (refine wpMixL_last (by rfl) (fun K hK => ?_); go_simp)
    ((try dsimp only); refine hK.out _ _ ?_; clear hK K; (try simp only [Act.put,pS,pZ,pC]))
    refine wpMixL_nil ?_
    have OF := qh (own_set O3.out k (.slice A7 (mt + 1) c7))
    have NF := qh (N3.out.keepTI (KeepTI.set_ U3.out (by decide) (by decide) k (.slice A7 (mt + 1) c7)))
    have BF := qh (B3.out.setCell (p := ⟨gb, k, none⟩) (by show w.heap.size ≤ gb; omega) (.slice A7 (mt + 1) c7))
    clear s0 f0
    go_wp2_with fail
    go_ret
    exact ⟨_, _, rfl, ⟨_, own_lo OF.out (by omega), NF.out.low (by omega)⟩, BF.out⟩
end Go.Proofs.YtdkhdfedejbicaaGreatDoor

namespace Go.Proofs.YtdkhdfedejbicaaGreatDoor
set_option linter.unusedSimpArgs false
set_option linter.unusedVariables false
open Go Go.RowKit
attribute [local go_sem ↓] Go.wp_at_zero Go.wp_at_succ

set_option maxRecDepth 100000 in
set_option maxHeartbeats 1600000 in
theorem l11At_any (A1 A2 A5 : Option Addr) (n1 c1 n2 c2 c5 : Nat) (room : List Int) (bs : List (List Tk)) (id : Int) (xs : List Int) (w : World) (h1 : RdI w w.heap.size A1 n1 room) (h2 : RdB w w.heap.size A2 n2 bs) (h5 : RdI w w.heap.size A5 3 xs)
    (hn1 : 3 ≤ n1) (hbs : ∀ k, k < n2 → (bs[k]?.getD []).length ≤ 900 ∧ ∀ t ∈ bs[k]?.getD [], vecOk t.2 = true) (hx : ∀ j, j < 3 → -1000000 ≤ xs[j]?.getD 0 ∧ xs[j]?.getD 0 ≤ 1000000) :
    Calls Tryz.prog 182 #[.slice A1 n1 c1, .slice A2 n2 c2, .agg #[.int .i64 id, .slice A5 3 c5]] w fun e w' => e = .returned (.int .i64 (firstP room bs xs)) ∧ Below w.heap.size w w' := by
  have B0 := qh (alloc_up w (.cells #[.int .i64 id, .slice A5 3 c5] 75))
  have P0 := qh (Blk.new w 75 #[.int .i64 id, .slice A5 3 c5])
  have I0 := qh (h1.up B0.out)
  have N0 := qh (h2.up B0.out)
  have X0 := qh (h5.up B0.out)
  have Hl := qh h2.len
  have hnm := h2.2.1
  have Hbs := qh hbs
  have Hx := qh hx
  clear h1 h2 h5 hbs hx
  go_enter Tryz.func182, Tryz.ntmps182
  go_wp2_with fail
  generalize hgx : w.heap.size = gx at P0 ⊢
  generalize w.alloc (.cells #[.int .i64 id, .slice A5 3 c5] 75) = w1 at B0 P0 I0 N0 X0 ⊢
  have lgx := P0.out.lt
  go_loopw [7] (fun i wr => ∃ k : Nat, i = .int .i64 (k : Nat) ∧ k ≤ n2 ∧ Below w1.heap.size w1 wr ∧ roomsTo room bs xs k = []) (fun i _ => n2 - (intOf i).toNat)
  case atStart => exact ⟨0, rfl, Nat.zero_le _, Below.refl _ _, rfl⟩
  case round =>
    obtain ⟨k, rfl, hk, hup, hno⟩ := hrel
    have Hup := qh hup
    have Hno := qh hno
    have lzr : w1.heap.size ≤ wr.heap.size := hup.size
    clear hup hno
    by_cases hlt : k < n2
    · have q1 : (0 : Int) ≤ (k : Int) := by omega
      have q2 : (k : Int) < (n2 : Int) := by omega
      have v1 : IntKind.i64.wrap ((k : Int) + 1) = (k : Int) + 1 := wr64 (by omega) (by omega)
      obtain ⟨b, o, A', m', c', rfl, lb, hc1, hmc, hrd⟩ := N0.out.at_ hlt
      have hm9 : m' ≤ 900 := by have := (Hbs.out k hlt).1; have := hrd.len; omega
      have Hrd := qh hrd
      have Hop := qh (show ∀ W : World, Below w1.heap.size w1 W → W.cell? ⟨b, o + k, none⟩ = some (.slice A' m' c') ∧ W.cell? ⟨gx, 0, none⟩ = some (.int .i64 id) ∧ W.cell? ⟨gx, 1, none⟩ = some (.slice A5 3 c5) from fun W hW =>
        ⟨(hW.cell (p := ⟨b, o + k, none⟩) lb).trans hc1, (P0.out.below hW P0.out.lt).cell 0, (P0.out.below hW P0.out.lt).cell 1⟩)
      clear hc1 hrd
      go_wp2_with fail
      refine wp_region_mixL (.take 0 (.take 1 (.take 2 (.take 3 (.take 4 (.take 5 (.bar 6 .nil))))))) [] (fun w' => w'.cell? ⟨b, o + k, none⟩ = some (.slice A' m' c') ∧ w'.cell? ⟨gx, 0, none⟩ = some (.int .i64 id) ∧ w'.cell? ⟨gx, 1, none⟩ = some (.slice A5 3 c5)) (by kernel_rfl) (by kernel_rfl) (Hop.out _ Hup.out.drew) (fun _ => ?_)
      have U2 := qh Hup.out.drew
      have lz2 : w1.heap.size ≤ wr.drew.heap.size := lzr
      generalize wr.drew = w2 at U2 lz2 ⊢
      repeat ((first | refine lxS (by rfl) (by rfl) ?_ | (refine lxT (v := ?_) (by rfl) (by rfl) (fun z y => ?_) ?_; rotate_left; (focus ((try dsimp only at y); (go_simp <;> with_reducible rfl); done)))); (try simp only [Act.put,pS,pZ,pC]))
      (refine lxB (by rfl) (fun K hK => ?_); go_simp)
      have hvt : ∀ a, a < m' → vecOk ((bs[k]?.getD [])[a]?.getD (0, [])).2 = true := fun a ha => by
        have hla : a < (bs[k]?.getD []).length := by have := Hrd.out.len; omega
        refine (Hbs.out k hlt).2 _ ?_
        rw [List.getElem?_eq_getElem hla]
        exact List.getElem_mem hla
      refine (l11Fits_any A1 A' A5 n1 c1 m' c' c5 room (bs[k]?.getD []) id xs w2 (I0.out.up U2.out) (Hrd.out.up U2.out) (X0.out.up U2.out) hn1 hm9 (fun a ha => vecOk_len (hvt a ha)) (fun a x => ?_) Hx.out).mono ?_
      · rcases Nat.lt_or_ge a m' with ha | ha
        · have := vecOk_bd (hvt a ha) x; omega
        · have hna : (bs[k]?.getD [])[a]? = none := List.getElem?_eq_none (by have := Hrd.out.len; omega)
          rw [hna]; simp
      rintro e w3 ⟨rfl, hb3⟩
      have U3 := qh (U2.out.trans (hb3.mono lz2))
      ((try dsimp only); refine nxK hK _ _ (Hop.out _ U3.out) ?_; clear hK K; (try simp only [Act.put,pS,pZ,pC]))
      refine wpMixL_nil ?_
      clear hb3 U2 lz2 hvt
      cases hf : fits3 (add3 (loadP (bs[k]?.getD [])) xs) room with
      | false =>
        have Hf := qh (show roomB room bs xs k = false from hf)
        clear hf
        go_wp2_with fail
        go_roundw
        case measure => simp [intOf]; omega
        case rel => exact ⟨k + 1, by go_num, by omega, U3.out, by rw [roomsTo_no Hf.out]; exact Hno.out⟩
      | true =>
        have Hf := qh (show roomB room bs xs k = true from hf)
        clear hf
        go_wp2_with fail
        go_ret
        have e : firstP room bs xs = (k : Int) := rooms_head (k := k) (by have := Hl.out; omega) (by rw [roomsTo_yes Hf.out, Hno.out]; rfl)
        rw [e]
        exact ⟨rfl, B0.out.trans (U3.out.mono (by omega))⟩
    · obtain rfl : k = n2 := by omega
      go_wp2_with fail
      go_ret
      have e : firstP room bs xs = -1 := first_neg.2 (by rw [Hl.out]; exact Hno.out)
      rw [e]
      exact ⟨rfl, B0.out.trans (Hup.out.mono (by omega))⟩
end Go.Proofs.YtdkhdfedejbicaaGreatDoor

namespace Go.Proofs.YtdkhdfedejbicaaGreatDoor
set_option linter.unusedSimpArgs false
set_option linter.unusedVariables false
open Go Go.RowKit
attribute [local go_sem ↓] Go.wp_at_zero Go.wp_at_succ

set_option maxRecDepth 100000 in
set_option maxHeartbeats 3200000 in
theorem l16Next_any (A1 A2 : Option Addr) (n1 c1 n2 c2 : Nat) (room : List Int) (bs : List (List Tk)) (w : World) (h1 : RdI w w.heap.size A1 n1 room) (h2 : RdB w w.heap.size A2 n2 bs) (hc2 : n2 ≤ c2) (hok : binsOk room bs = true) :
    Calls Tryz.prog 156 #[.slice A1 n1 c1, .slice A2 n2 c2] w fun e w' => NextE (nextP room bs) e ∧ Below w.heap.size w w' := by
  obtain ⟨b1, b2, b3⟩ := binsOk_iff.1 hok
  have hl := h2.len
  have hn14 : n2 ≤ 14 := by omega
  have hr3 : 3 ≤ n1 := by
    have h3 : room.length = 3 := by
      simp only [tasksOk, roomOk, Bool.and_eq_true] at b2
      exact vecOk_len b2.1.1.1.1
    have := h1.len; omega
  have hfl := tasksOk_len b2
  have Hvec := qh (fun t ht => tasksOk_vec (t := t) b2 ht)
  have Hbin := qh (fun j (hj : j < n2) => show (bs[j]?.getD []).length ≤ 14 from by have := (bin_sub (bs := bs) (i := j) (by omega)).length_le; omega)
  have Hl := qh hl
  have Z1 := qh (Blk.new w 167 #[.int .i64 0, .int .i64 0])
  have B1 := qh (alloc_up w (.cells #[.int .i64 0, .int .i64 0] 167))
  have I1 := qh (h1.up B1.out)
  have N1 := qh (h2.up B1.out)
  have v0 : IntKind.i64.wrap ((n2 : Int) - 1) = (n2 : Int) - 1 := wr64 (by omega) (by omega)
  clear h1 h2 b1 b2 b3 hok hfl hl
  go_enter Tryz.func156, Tryz.ntmps156
  go_wp2_with fail
  clear v0
  generalize hgz : w.heap.size = gz at Z1 ⊢
  generalize w.alloc (.cells #[.int .i64 0, .int .i64 0] 167) = w1 at Z1 B1 I1 N1 ⊢
  have lz1 := Z1.out.lt
  go_loopw [6] (fun iv wr => ∃ k : Nat, iv = .int .i64 ((k : Int) - 1) ∧ k ≤ n2 ∧ Below w1.heap.size w1 wr ∧ nextTo room bs k = nextP room bs) (fun iv _ => (intOf iv + 1).toNat)
  case atStart => exact ⟨n2, rfl, Nat.le_refl _, Below.refl _ _, by unfold nextP; rw [Hl.out]⟩
  case round =>
    obtain ⟨k, rfl, hk, hup, hnx⟩ := hrel
    have Hup := qh hup
    have Hnx := qh hnx
    have lzr : w1.heap.size ≤ wr.heap.size := hup.size
    clear hup hnx
    by_cases hlt : 2 ≤ k
    · obtain ⟨q, rfl⟩ : ∃ q, k = q + 1 := ⟨k - 1, by omega⟩
      have ei : (((q + 1 : Nat) : Int) - 1) = (q : Int) := by omega
      rw [ei]
      have q0 : (0 : Int) < (q : Int) := by omega
      have q1 : (0 : Int) ≤ (q : Int) := by omega
      have q2 : (q : Int) < (n2 : Int) := by omega
      have q3 : (q : Int) ≤ (c2 : Int) := by omega
      have hqn : q < n2 := by omega
      have v1 : IntKind.i64.wrap ((q : Int) - 1) = (q : Int) - 1 := wr64 (by omega) (by omega)
      clear ei
      obtain ⟨b, o, A', m', c', rfl, lb, hc1, hmc, hrd⟩ := N1.out.at_ hqn
      have hm14 : m' ≤ 14 := by have := Hbin.out q hqn; have := hrd.len; omega
      have Hrd := qh hrd
      have Hc1 := qh hc1
      clear hc1 hrd
      obtain ⟨wo, hwo⟩ : ∃ wo, wo = wr := ⟨_, rfl⟩
      rw [← hwo] at Hup lzr ⊢
      clear hwo
      go_wp2_with fail
      go_loopw [7] (fun jv wr => ∃ j : Nat, jv = .int .i64 (j : Nat) ∧ j ≤ m' ∧ Below w1.heap.size w1 wr ∧ (∀ a, a < j → candM room bs q ((bs[q]?.getD [])[a]?.getD (0, [])) = none)) (fun jv _ => m' - (intOf jv).toNat)
      case atStart => exact ⟨0, rfl, Nat.zero_le _, Hup.out, by intro a ha; omega⟩
      case round =>
        clear Hup lzr
        obtain ⟨j, rfl, hj, hup, hall⟩ := hrel
        have Hup := qh hup
        have Hall := qh hall
        have lzr : w1.heap.size ≤ wr.heap.size := hup.size
        have d1 : wr.cell? ⟨b, o + q, none⟩ = some (.slice A' m' c') := (hup.cell (p := ⟨b, o + q, none⟩) lb).trans Hc1.out
        clear hup hall
        have hml : (bs[q]?.getD []).length = m' := Hrd.out.len
        by_cases hjl : j < m'
        · have j1 : (0 : Int) ≤ (j : Int) := by omega
          have j2 : (j : Int) < (m' : Int) := by omega
          have j5 : 0 ≤ (j : Int) * 2 := by omega
          obtain ⟨b', o', A3, m3, c3, rfl, lb', e0, e1, hm3c, hr3'⟩ := Hrd.out.at_ hjl
          have hmem : ((bs[q]?.getD [])[j]?.getD (0, [])) ∈ bs.flatten := by
            have hjq : j < (bs[q]?.getD []).length := by omega
            refine (bin_sub (bs := bs) (i := q) (by have := Hl.out; omega)).mem ?_
            rw [List.getElem?_eq_getElem hjq]
            exact List.getElem_mem hjq
          have hv3 := Hvec.out _ hmem
          have hm : m3 = 3 := by have := hr3'.len; have := vecOk_len hv3; omega
          subst hm
          have Hv3 := qh hv3
          have HR3 := qh hr3'
          have Hml := qh hml
          obtain ⟨tj, htj⟩ : ∃ tj, tj = (bs[q]?.getD [])[j]?.getD (0, []) := ⟨_, rfl⟩
          have Htj := qh htj
          rw [← htj] at e0 HR3 Hv3
          have Hop := qh (show ∀ W : World, Below w1.heap.size w1 W → W.cell? ⟨b, o + q, none⟩ = some (.slice (some ⟨b', o', none⟩) m' c') ∧ W.cell? ⟨b', o' + j * 2, none⟩ = some (.int .i64 tj.1) ∧ W.cell? ⟨b', o' + j * 2 + 1, none⟩ = some (.slice A3 3 c3) from fun W hW =>
            ⟨(hW.cell (p := ⟨b, o + q, none⟩) lb).trans Hc1.out, (hW.cell (p := ⟨b', o' + j * 2, none⟩) lb').trans e0, (hW.cell (p := ⟨b', o' + j * 2 + 1, none⟩) lb').trans e1⟩)
          clear e0 e1 hmem hv3 hr3' htj hml
          go_wp2_with fail
          refine wp_region_mixL (.take 0 (.take 1 (.take 2 (.take 3 (.take 4 (.take 5 (.take 6 (.take 7 (.take 8 (.take 9 (.take 10 (.bar 11 (.take 12 .nil))))))))))))) [] (fun w' => w'.cell? ⟨b, o + q, none⟩ = some (.slice (some ⟨b', o', none⟩) m' c') ∧ w'.cell? ⟨b', o' + j * 2, none⟩ = some (.int .i64 tj.1) ∧ w'.cell? ⟨b', o' + j * 2 + 1, none⟩ = some (.slice A3 3 c3)) (by kernel_rfl) (by kernel_rfl) (Hop.out _ Hup.out.drew) (fun _ => ?_)
          have U2 := qh Hup.out.drew
          have lz2 : w1.heap.size ≤ wr.drew.heap.size := lzr
          generalize wr.drew = w2 at U2 lz2 ⊢
          repeat ((first | refine lxS (by rfl) (by rfl) ?_ | (refine lxT (v := ?_) (by rfl) (by rfl) (fun z y => ?_) ?_; rotate_left; (focus ((try dsimp only at y); (go_simp <;> with_reducible rfl); done)))); (try simp only [Act.put,pS,pZ,pC]))
          (refine lxB (by rfl) (fun K hK => ?_); go_simp)
          refine (l11At_any A1 (some ⟨b, o, none⟩) A3 n1 c1 q c2 c3 room (bs.take q) tj.1 tj.2 w2 (I1.out.up U2.out) ((N1.out.up U2.out).takeB (by omega)) (HR3.out.up U2.out) hr3 (fun a ha => ?_) (fun x _ => by have := vecOk_bd Hv3.out x; omega)).mono ?_
          · rw [List.getElem?_take, if_pos ha]
            have hb14 := Hbin.out a (by omega)
            refine ⟨by omega, fun t ht => Hvec.out t ?_⟩
            exact (bin_sub (bs := bs) (i := a) (by have := Hl.out; omega)).mem ht
          rintro e w3 ⟨rfl, hb3⟩
          have U3 := qh (U2.out.trans (hb3.mono lz2))
          ((try dsimp only); refine nxK hK _ _ (Hop.out _ U3.out) ?_; clear hK K; (try simp only [Act.put,pS,pZ,pC]))
          repeat ((first | refine lxS (by rfl) (by rfl) ?_ | (refine lxT (v := ?_) (by rfl) (by rfl) (fun z y => ?_) ?_; rotate_left; (focus ((try dsimp only at y); (go_simp <;> with_reducible rfl); done)))); (try simp only [Act.put,pS,pZ,pC]))
          refine wpMixL_nil ?_
          clear hb3 U2 lz2
          obtain ⟨f, hf⟩ : ∃ f, f = firstP room (bs.take q) tj.2 := ⟨_, rfl⟩
          rw [← hf]
          have hjq : j < (bs[q]?.getD []).length := by have := Hml.out; omega
          by_cases hf0 : 0 ≤ f
          · have Hcd := qh (show candM room bs q tj = some (tj.1, f) from by unfold candM; rw [if_pos (by rw [← hf]; exact hf0), ← hf])
            clear hf
            have Z5 := qh (Z1.out.below U3.out Z1.out.lt)
            have BE := qh (B1.out.trans (U3.out.mono (by omega)))
            obtain ⟨d1, d2, d3⟩ := Hop.out _ U3.out
            have x0 := Z5.out.cell 0
            have x1 := Z5.out.cell 1
            simp only [gT, gZ, gS] at x0 x1
            have x2 := Z5.out.frozen 0
            have x3 := Z5.out.frozen 1
            go_wp2_with fail
            have EQ := qh ((Z5.out.set_ 0 (.int .i64 tj.1)).set_ 1 (.int .i64 f))
            have B9 := qh ((BE.out.setCell (p := ⟨gz, 0, none⟩) (by show w.heap.size ≤ gz; omega) (.int .i64 tj.1)).setCell (p := ⟨gz, 1, none⟩) (by show w.heap.size ≤ gz; omega) (.int .i64 f))
            generalize World.setCell (World.setCell w3 ⟨gz, 0, none⟩ (.int .i64 tj.1)) ⟨gz, 1, none⟩ (.int .i64 f) = w9 at EQ B9 ⊢
            have z0 : w9.cell? ⟨gz, 0, none⟩ = some (.int .i64 tj.1) := EQ.out.cell 0
            have z1 : w9.cell? ⟨gz, 1, none⟩ = some (.int .i64 f) := EQ.out.cell 1
            refine bodyPost_ret (v := .tuple #[.agg #[.int .i64 tj.1, .int .i64 f], .bool true]) (by simp [results, Tryz.results156, go_sem, z0, z1]) rfl ⟨?_, by first | exact B9.out | exact (qh hgz).out ▸ B9.out⟩
            have en : nextP room bs = some (tj.1, f) := by
              rw [← Hnx.out, nextTo]
              rw [find_some (d := ((0, []) : Tk)) (k := j) hjq (by rw [← Htj.out]; exact Hcd.out) Hall.out]
              rfl
            rw [en]
            rfl
          · have Hcd := qh (show candM room bs q tj = none from by unfold candM; rw [if_neg (by rw [← hf]; exact hf0)])
            clear hf
            have vj : IntKind.i64.wrap ((j : Int) + 1) = (j : Int) + 1 := wr64 (by omega) (by omega)
            go_wp2_with fail
            go_roundw
            case measure => first | (simp [intOf]; done) | (simp [intOf]; omega)
            case rel =>
              refine ⟨j + 1, by go_num, by omega, U3.out, fun a ha => ?_⟩
              by_cases e : a < j
              · exact Hall.out a e
              · obtain rfl : a = j := by omega
                rw [← Htj.out]; exact Hcd.out
        · obtain rfl : j = m' := by omega
          go_wp2_with fail
          go_roundw
          case measure => first | (simp [intOf]; done) | (simp [intOf]; omega)
          case rel =>
            refine ⟨q, by rfl, by omega, Hup.out, ?_⟩
            rw [← Hnx.out, nextTo, find_none (d := ((0, []) : Tk)) (fun a ha => Hall.out a (by omega))]
            rfl
    · have qz : ¬ (0 : Int) < (k : Int) - 1 := by omega
      have Z5 := qh (Z1.out.below Hup.out Z1.out.lt)
      have BE := qh (B1.out.trans (Hup.out.mono (by omega)))
      have x0 := Z5.out.cell 0
      have x1 := Z5.out.cell 1
      simp only [gT, gZ, gS] at x0 x1
      have x2 := Z5.out.frozen 0
      have x3 := Z5.out.frozen 1
      go_wp2_with fail
      have EQ := qh ((Z5.out.set_ 0 (.int .i64 0)).set_ 1 (.int .i64 0))
      have B9 := qh ((BE.out.setCell (p := ⟨gz, 0, none⟩) (by show w.heap.size ≤ gz; omega) (.int .i64 0)).setCell (p := ⟨gz, 1, none⟩) (by show w.heap.size ≤ gz; omega) (.int .i64 0))
      generalize World.setCell (World.setCell wr ⟨gz, 0, none⟩ (.int .i64 0)) ⟨gz, 1, none⟩ (.int .i64 0) = w9 at EQ B9 ⊢
      have z0 : w9.cell? ⟨gz, 0, none⟩ = some (.int .i64 0) := EQ.out.cell 0
      have z1 : w9.cell? ⟨gz, 1, none⟩ = some (.int .i64 0) := EQ.out.cell 1
      refine bodyPost_ret (v := .tuple #[.agg #[.int .i64 0, .int .i64 0], .bool false]) (by simp [results, Tryz.results156, go_sem, z0, z1]) rfl ⟨?_, by first | exact B9.out | exact (qh hgz).out ▸ B9.out⟩
      have en : nextP room bs = none := by
        rw [← Hnx.out]
        rcases (show k = 0 ∨ k = 1 by omega) with rfl | rfl
        · rfl
        · exact next_one room bs
      rw [en]
      rfl
end Go.Proofs.YtdkhdfedejbicaaGreatDoor

namespace Go.Proofs.YtdkhdfedejbicaaGreatDoor
set_option linter.unusedSimpArgs false
set_option linter.unusedVariables false
open Go Go.RowKit
attribute [local go_sem ↓] Go.wp_at_zero Go.wp_at_succ

/-! ### Plain facts -/
theorem bins_sizes {room : List Int} {bs : List (List Tk)} (hok : binsOk room bs = true) : bs.length ≤ 14 ∧ room.length = 3 ∧ (∀ j, j < bs.length → (bs[j]?.getD []).length ≤ 14 ∧ ∀ t ∈ bs[j]?.getD [], vecOk t.2 = true) ∧ ∀ t ∈ bs.flatten, vecOk t.2 = true := by
  obtain ⟨b1, b2, b3⟩ := binsOk_iff.1 hok
  have h3 : room.length = 3 := by
    simp only [tasksOk, roomOk, Bool.and_eq_true] at b2
    exact vecOk_len b2.1.1.1.1
  have hfl := tasksOk_len b2
  have hv : ∀ t ∈ bs.flatten, vecOk t.2 = true := fun t ht => tasksOk_vec (t := t) b2 ht
  refine ⟨b1, h3, fun j hj => ⟨?_, fun t ht => hv t ?_⟩, hv⟩
  · have := (bin_sub (bs := bs) (i := j) hj).length_le; omega
  · exact (bin_sub (bs := bs) (i := j) hj).mem ht
theorem bins_lens {room : List Int} {bs : List (List Tk)} (hok : binsOk room bs = true) : ∀ j, j < bs.length → (bs[j]?.getD []).length ≤ 1048576 ∧ ∀ a, a < (bs[j]?.getD []).length → ((bs[j]?.getD [])[a]?.getD (0, [])).2.length ≤ 1048576 := fun j hj => by
  obtain ⟨_, _, h, _⟩ := bins_sizes hok
  obtain ⟨h1, h2⟩ := h j hj
  refine ⟨by omega, fun a ha => ?_⟩
  have := vecOk_len (h2 _ (tk_mem ha))
  omega
theorem taken_mem {bs : List (List Tk)} {id : Int} (h : 0 ≤ whereP bs id) : takenP bs id ∈ bs.flatten := by
  rcases whereP_cases bs id with ⟨h1, _⟩ | ⟨k, hk, _, hh, _⟩
  · omega
  · unfold hasP at hh
    rw [List.any_eq_true] at hh
    obtain ⟨t, ht, he⟩ := hh
    have hin : t ∈ bs.flatten := by
      rw [List.getElem?_eq_getElem hk, Option.getD_some] at ht
      exact List.mem_flatten.2 ⟨_, List.getElem_mem hk, ht⟩
    unfold takenP
    cases hl : (bs.flatten.filter (fun t => t.1 == id)).getLast? with
    | none =>
      rw [List.getLast?_eq_none_iff] at hl
      have : t ∈ bs.flatten.filter (fun t => t.1 == id) := List.mem_filter.2 ⟨hin, he⟩
      rw [hl] at this; simp at this
    | some u => exact (List.mem_filter.1 (List.mem_of_getLast? hl)).1
def MvC (vs : List Value) (ms : List (Int × Int)) : Prop := vs.length = ms.length * 2 ∧ ∀ j, j < ms.length → vs[j * 2]? = some (.int .i64 (ms[j]?.getD (0, 0)).1) ∧ vs[j * 2 + 1]? = some (.int .i64 (ms[j]?.getD (0, 0)).2)
theorem MvC.nil : MvC [] [] := ⟨rfl, fun j hj => by simp at hj⟩
theorem MvC.snoc {vs : List Value} {ms : List (Int × Int)} (h : MvC vs ms) (a b : Int) : MvC (vs ++ [.int .i64 a, .int .i64 b]) (ms ++ [(a, b)]) := by
  have h1 := h.1
  refine ⟨by simp [h1]; omega, fun j hj => ?_⟩
  rw [List.length_append, List.length_singleton] at hj
  by_cases e : j = ms.length
  · subst e
    rw [List.getElem?_append_right (by omega), List.getElem?_append_right (by omega), List.getElem?_append_right (by omega), h1, Nat.sub_self, Nat.sub_self, show ms.length * 2 + 1 - ms.length * 2 = 1 by omega]
    exact ⟨rfl, rfl⟩
  · rw [List.getElem?_append_left (by omega), List.getElem?_append_left (by omega), List.getElem?_append_left (by omega)]
    exact h.2 j (by omega)
def RdM (w : World) (B : Nat) (A : Option Addr) (n : Nat) (ms : List (Int × Int)) : Prop :=
  ms.length = n ∧ (0 < n → ∃ b o, A = some ⟨b, o, none⟩ ∧ b < B ∧ ∀ j, j < n → w.cell? ⟨b, o + j * 2, none⟩ = some (.int .i64 (ms[j]?.getD (0, 0)).1) ∧ w.cell? ⟨b, o + j * 2 + 1, none⟩ = some (.int .i64 (ms[j]?.getD (0, 0)).2))
theorem RdM.up {w w' : World} {A : Option Addr} {n : Nat} {ms : List (Int × Int)} (h : RdM w w.heap.size A n ms) (hb : Below w.heap.size w w') : RdM w' w'.heap.size A n ms := ⟨h.1, fun hn => by
  obtain ⟨b, o, e, hl, hc⟩ := h.2 hn
  have := hb.size
  exact ⟨b, o, e, by omega, fun j hj => ⟨(hb.cell (p := ⟨b, o + j * 2, none⟩) hl).trans (hc j hj).1, (hb.cell (p := ⟨b, o + j * 2 + 1, none⟩) hl).trans (hc j hj).2⟩⟩⟩
theorem RdM.of_own {w : World} {base : Nat} {A : Option Addr} {n c : Nat} {vs : List Value} {ms : List (Int × Int)} (h : w.ownsRow base 167 2 (.slice A n c) n vs) (hm : MvC vs ms) : RdM w w.heap.size A n ms := by
  have hl : ms.length = n := by have := h.1; have := hm.1; omega
  refine ⟨hl, fun hp => ?_⟩
  obtain ⟨g, cap, hv, _, hlt⟩ := h.form hp
  have hA : A = some ⟨g, 0, none⟩ := by injection hv
  subst hA
  refine ⟨g, 0, rfl, hlt, fun j hj => ?_⟩
  obtain ⟨h1, h2⟩ := hm.2 j (by omega)
  have e1 := h.cells (g := g) rfl _ _ h1
  have e2 := h.cells (g := g) rfl _ _ h2
  rw [addr_add] at e1 e2
  exact ⟨e1, by rw [Nat.add_assoc]; exact e2⟩

section
variable {w w' : World} {base base' n c : Nat} {v : Value} {A : Option Addr} {bs : List (List Tk)}
theorem OwnBR.low (h : OwnBR w base v n bs) (hb : base' ≤ base) : OwnBR w base' v n bs := by
  obtain ⟨vs, h1, h2⟩ := h
  exact ⟨vs, own_lo h1 hb, h2.low hb⟩
theorem OwnBR.up (h : OwnBR w base v n bs) (hb : Below w.heap.size w w') : OwnBR w' base v n bs := by
  obtain ⟨vs, h1, h2⟩ := h
  exact ⟨vs, own_up' h1 hb, h2.keepTI (KeepTI.up hb)⟩
theorem OwnBR.grown {r : Value} {s m : Nat} {t : TypeId} {xs : List Value} (h : OwnBR w base v n bs) (ho : w.ownsRow base' t s r m xs) (hg : w.grownBy w' r.ownBlock) (h1 : t ≠ 3) (h2 : t ≠ 75) (h3 : t ≠ 81) : OwnBR w' base v n bs := by
  obtain ⟨vs, k1, k2⟩ := h
  exact ⟨vs, own_keepB k1 (fun b cs _ hc => hg.block b hc.lt (fun e => own_blk_ne ho hc h3 e.symm)), k2.keepTI (KeepTI.grown ho hg h1 h2)⟩
theorem OwnBR.len (h : OwnBR w base v n bs) : bs.length = n := by
  obtain ⟨vs, k1, k2⟩ := h
  exact k2.1
theorem OwnBR.cap (h : OwnBR w base (.slice A n c) n bs) : n ≤ c := by
  obtain ⟨vs, k1, k2⟩ := h
  exact own_cap' k1
def NowB (w : World) (base : Nat) (A : Option Addr) (n c : Nat) (bs : List (List Tk)) : Prop := n ≤ c ∧ (RdB w base A n bs ∨ OwnBR w base (.slice A n c) n bs)
theorem NowB.rd (h : NowB w base A n c bs) (hb : base ≤ w.heap.size) : RdB w w.heap.size A n bs := by
  rcases h.2 with h | h
  · exact h.more hb
  · exact h.rd
theorem NowB.up (h : NowB w base A n c bs) (hb : Below w.heap.size w w') (hz : base ≤ w.heap.size) : NowB w' base A n c bs := ⟨h.1, by
  rcases h.2 with h | h
  · exact .inl (h.below (hb.mono hz))
  · exact .inr (h.up hb)⟩
theorem NowB.grown {r : Value} {s m : Nat} {t : TypeId} {xs : List Value} (h : NowB w base A n c bs) (ho : w.ownsRow base t s r m xs) (hg : w.grownBy w' r.ownBlock) (hz : base ≤ w.heap.size) (h1 : t ≠ 3) (h2 : t ≠ 75) (h3 : t ≠ 81) : NowB w' base A n c bs := ⟨h.1, by
  rcases h.2 with h | h
  · exact .inl (h.keep (fun p hp => World.cell?_of_block (hg.block p.block (by omega) (fun e => by have := (ho.lt _ e.symm).1; omega))) (Nat.le_refl _))
  · exact .inr (h.grown ho hg h1 h2 h3)⟩
end

/-! ### l15Can -/
set_option maxRecDepth 100000 in
set_option maxHeartbeats 3200000 in
theorem l15Can_any (A1 A2 : Option Addr) (n1 c1 n2 c2 k : Nat) (room : List Int) (bs : List (List Tk)) (id : Int) (w : World) (h1 : RdI w w.heap.size A1 n1 room) (h2 : RdB w w.heap.size A2 n2 bs) (hok : binsOk room bs = true) (hc : canP room bs (id, (k : Int)) = true) :
    Calls Tryz.prog 154 #[.slice A1 n1 c1, .slice A2 n2 c2, .agg #[.int .i64 id, .int .i64 (k : Int)]] w fun e w' => e = .returned (.bool true) ∧ Below w.heap.size w w' := by
  obtain ⟨z1, z2, z3, z4⟩ := bins_sizes hok
  simp only [canP, Bool.and_eq_true, decide_eq_true_eq, Bool.not_eq_true'] at hc
  obtain ⟨⟨⟨c1', c2'⟩, c3'⟩, c4'⟩ := hc
  have hl := h2.len
  obtain rfl : n1 = 3 := by have := h1.len; omega
  have hk : k < n2 := by have := inR_iff.1 c2'; omega
  have htv := z4 _ (taken_mem c1')
  have B1 := qh (alloc_up w (.cells #[.int .i64 id, .int .i64 (k : Int)] 167))
  have P1 := qh (Blk.new w 167 #[.int .i64 id, .int .i64 (k : Int)])
  have R1 := qh (h1.up B1.out)
  have S1 := qh (h2.up B1.out)
  have Hl := qh hl
  have Z3 := qh z3
  have Htv := qh htv
  have C4 := qh c4'
  have C2 := qh c2'
  obtain ⟨f, hf⟩ : ∃ f, f = whereP bs id := ⟨_, rfl⟩
  rw [← hf] at c1' c3'
  have e1 : (f < 0) = False := by simp; omega
  have v1 : IntKind.i64.wrap ((n2 : Int) - 1) = (n2 : Int) - 1 := wr64 (by omega) (by omega)
  have e2 : inR 0 ((n2 : Int) - 1) (k : Int) = true := by rw [← hl]; exact c2'
  have e3 : ((k : Int) == f) = false := c3'
  have HF := qh hf
  have hn14 : n2 ≤ 14 := by omega
  clear h1 h2 hl c2' z1 z2 z3 z4 htv c4' hf c3' hok
  have x0 := P1.out.cell 0
  have x1 := P1.out.cell 1
  simp only [gT, gZ, gS] at x0 x1
  go_enter Tryz.func154, Tryz.ntmps154
  go_wp2_with fail
  generalize w.alloc (.cells #[.int .i64 id, .int .i64 (k : Int)] 167) = w1 at B1 P1 R1 S1 x0 x1 ⊢
  refine (l2Where_any A2 n2 c2 bs id w1 S1.out).mono ?_; rintro e w2 ⟨rfl, m2, rfl⟩
  rw [← HF.out]
  have B2 := qh (below_drewN B1.out m2)
  have P2 := qh (P1.out.drewN m2)
  have R2 := qh (show RdI (w1.drewN m2) (w1.drewN m2).heap.size A1 3 room from R1.out)
  have S2 := qh (show RdB (w1.drewN m2) (w1.drewN m2).heap.size A2 n2 bs from S1.out)
  generalize w1.drewN m2 = w2 at B2 P2 R2 S2 ⊢
  clear B1 P1 R1 S1 x0 x1
  have x0 := P2.out.cell 0
  have x1 := P2.out.cell 1
  simp only [gT, gZ, gS] at x0 x1
  go_wp2_with fail
  refine (l6In_any _ _ _ _).mono ?_; rintro e w3 ⟨rfl, rfl⟩
  rw [e2]
  go_wp2_with fail
  refine (l15Take_any A2 n2 c2 bs id w2 S2.out (by omega) (fun j hj => by have := (Z3.out j (by have := Hl.out; omega)).1; omega)).mono ?_; rintro e w3 ⟨A5, c5, A3, m3, c3, rfl, _, i3, hm3, hb3⟩
  have hm : m3 = 3 := by have := i3.len; have := vecOk_len Htv.out; omega
  subst hm
  have al := alloc_up w3 (.cells #[.int .i64 (takenP bs id).1, .slice A3 3 c3] 75)
  have B3 := qh (B2.out.trans (hb3.mono B2.out.size))
  have B4 := qh (B3.out.trans (al.mono B3.out.size))
  have P4 := qh ((P2.out.below hb3 P2.out.lt).alloc (.cells #[.int .i64 (takenP bs id).1, .slice A3 3 c3] 75))
  have R4 := qh ((R2.out.up hb3).up al)
  have S4 := qh ((S2.out.up hb3).up al)
  have I4 := qh (i3.up al)
  have T4 := qh (Blk.new w3 75 #[.int .i64 (takenP bs id).1, .slice A3 3 c3])
  clear al i3 hb3 B2 P2 R2 S2 B3 x0 x1
  have x0 := P4.out.cell 0
  have x1 := P4.out.cell 1
  simp only [gT, gZ, gS] at x0 x1
  have q1 : (0 : Int) ≤ (k : Int) := by omega
  have q2 : (k : Int) < (n2 : Int) := by omega
  go_wp2_with fail
  generalize w3.heap.size = gx at T4 ⊢
  generalize w3.alloc (.cells #[.int .i64 (takenP bs id).1, .slice A3 3 c3] 75) = w4 at B4 P4 R4 S4 I4 T4 x0 x1 ⊢
  obtain ⟨b, o, A', m', c', rfl, lb, hc1, hmc, hrd⟩ := S4.out.at_ hk
  have Hrd := qh hrd
  have Hop := qh (show ∀ W : World, Below w4.heap.size w4 W → W.cell? ⟨w.heap.size, 1, none⟩ = some (.int .i64 (k : Int)) ∧ W.cell? ⟨b, o + k, none⟩ = some (.slice A' m' c') ∧ W.cell? ⟨gx, 0, none⟩ = some (.int .i64 (takenP bs id).1) ∧ W.cell? ⟨gx, 1, none⟩ = some (.slice A3 3 c3) from fun W hW =>
    ⟨(hW.cell (p := ⟨w.heap.size, 1, none⟩) P4.out.lt).trans x1, (hW.cell (p := ⟨b, o + k, none⟩) lb).trans hc1, (hW.cell (p := ⟨gx, 0, none⟩) T4.out.lt).trans (T4.out.cell 0), (hW.cell (p := ⟨gx, 1, none⟩) T4.out.lt).trans (T4.out.cell 1)⟩)
  clear x0 x1 hc1 hrd
  refine wp_region_mixL (.take 0 (.take 1 (.take 2 (.take 3 (.take 4 (.take 5 (.take 6 (.bar 7 (.take 8 .nil))))))))) [] (fun w' => w'.cell? ⟨w.heap.size, 1, none⟩ = some (.int .i64 (k : Int)) ∧ w'.cell? ⟨b, o + k, none⟩ = some (.slice A' m' c') ∧ w'.cell? ⟨gx, 0, none⟩ = some (.int .i64 (takenP bs id).1) ∧ w'.cell? ⟨gx, 1, none⟩ = some (.slice A3 3 c3)) (by kernel_rfl) (by kernel_rfl) (Hop.out _ ((Below.refl _ _).drew)) (fun _ => ?_)
  have U5 := qh ((Below.refl w4.heap.size w4).drew)
  generalize w4.drew = w5 at U5 ⊢
  repeat ((first | refine lxS (by rfl) (by rfl) ?_ | (refine lxT (v := ?_) (by rfl) (by rfl) (fun z y => ?_) ?_; rotate_left; (focus ((try dsimp only at y); (go_simp <;> with_reducible rfl); done)))); (try simp only [Act.put,pS,pZ,pC]))
  (refine lxB (by rfl) (fun K hK => ?_); go_simp)
  have hz := Z3.out k (by have := Hl.out; omega)
  refine (l11Fits_any A1 A' A3 3 c1 m' c' c3 room (bs[k]?.getD []) (takenP bs id).1 (takenP bs id).2 w5 (R4.out.up U5.out) (Hrd.out.up U5.out) (I4.out.up U5.out) (by omega) (by have := Hrd.out.len; omega) (fun j hj => vecOk_len (hz.2 _ (tk_mem (by have := Hrd.out.len; omega)))) (fun j i => by
    rcases Nat.lt_or_ge j (bs[k]?.getD []).length with hjl | hjl
    · have := vecOk_bd (hz.2 _ (tk_mem hjl)) i; omega
    · rw [List.getElem?_eq_none hjl]; simp) (fun x _ => by have := vecOk_bd Htv.out x; omega)).mono ?_
  rintro e w6 ⟨rfl, hb6⟩
  have e4 : fits3 (add3 (loadP (bs[k]?.getD [])) (takenP bs id).2) room = true := by have := C4.out; simpa using this
  rw [e4]
  have U6 := qh (below_to U5.out hb6)
  ((try dsimp only); refine nxK hK _ _ (Hop.out _ U6.out) ?_; clear hK K; (try simp only [Act.put,pS,pZ,pC]))
  repeat ((first | refine lxS (by rfl) (by rfl) ?_ | (refine lxT (v := ?_) (by rfl) (by rfl) (fun z y => ?_) ?_; rotate_left; (focus ((try dsimp only at y); (go_simp <;> with_reducible rfl); done)))); (try simp only [Act.put,pS,pZ,pC]))
  refine wpMixL_nil ?_
  go_wp2_with fail
  go_ret
  exact ⟨rfl, B4.out.trans (U6.out.mono B4.out.size)⟩

/-! ### l15Do -/
set_option maxRecDepth 100000 in
set_option maxHeartbeats 1600000 in
theorem l15Do_any (A2 : Option Addr) (n2 c2 k : Nat) (room : List Int) (bs : List (List Tk)) (id : Int) (w : World) (h2 : RdB w w.heap.size A2 n2 bs) (hok : binsOk room bs = true) (hk : k < n2) (hw : 0 ≤ whereP bs id) :
    Calls Tryz.prog 155 #[.slice A2 n2 c2, .agg #[.int .i64 id, .int .i64 (k : Int)]] w fun e w' => ∃ A' c', e = .returned (.slice A' n2 c') ∧ OwnBR w' w.heap.size (.slice A' n2 c') n2 (doP bs (id, (k : Int))) ∧ Below w.heap.size w w' := by
  obtain ⟨z1, z2, z3, z4⟩ := bins_sizes hok
  have hl := h2.len
  have Htv := qh (z4 _ (taken_mem hw))
  have Hl := qh hl
  have B1 := qh (alloc_up w (.cells #[.int .i64 id, .int .i64 (k : Int)] 167))
  have P1 := qh (Blk.new w 167 #[.int .i64 id, .int .i64 (k : Int)])
  have S1 := qh (h2.up B1.out)
  have Z3 := qh z3
  have hn14 : n2 ≤ 14 := by omega
  clear h2 hl z1 z2 z3 z4 hok hw
  have x0 := P1.out.cell 0
  have x1 := P1.out.cell 1
  simp only [gT, gZ, gS] at x0 x1
  go_enter Tryz.func155, Tryz.ntmps155
  go_wp2_with fail
  generalize w.alloc (.cells #[.int .i64 id, .int .i64 (k : Int)] 167) = w1 at B1 P1 S1 x0 x1 ⊢
  refine (l15Take_any A2 n2 c2 bs id w1 S1.out (by omega) (fun j hj => by have := (Z3.out j (by have := Hl.out; omega)).1; omega)).mono ?_; rintro e w3 ⟨A5, c5, A3, m3, c3, rfl, r3, i3, hm3, hb3⟩
  have hm : m3 = 3 := by have := i3.len; have := vecOk_len Htv.out; omega
  subst hm
  have al := alloc_up w3 (.cells #[.int .i64 (takenP bs id).1, .slice A3 3 c3] 75)
  have B3 := qh (B1.out.trans (hb3.mono B1.out.size))
  have B4 := qh (B3.out.trans (al.mono B3.out.size))
  have P4 := qh ((P1.out.below hb3 P1.out.lt).alloc (.cells #[.int .i64 (takenP bs id).1, .slice A3 3 c3] 75))
  have S4 := qh (r3.up al)
  have I4 := qh (i3.up al)
  have T4 := qh (Blk.new w3 75 #[.int .i64 (takenP bs id).1, .slice A3 3 c3])
  clear al i3 r3 hb3 B1 P1 S1 B3 x0 x1
  have x0 := P4.out.cell 0
  have x1 := P4.out.cell 1
  have t0 := T4.out.cell 0
  have t1 := T4.out.cell 1
  simp only [gT, gZ, gS] at x0 x1 t0 t1
  go_wp2_with fail
  generalize w3.alloc (.cells #[.int .i64 (takenP bs id).1, .slice A3 3 c3] 75) = w4 at B4 P4 S4 I4 T4 x0 x1 t0 t1 ⊢
  refine (l11Put_any A5 A3 n2 c5 3 c3 k (bs.map (takeP · id)) (takenP bs id).1 (takenP bs id).2 w4 S4.out (by omega) (fun j hj => ?_) hk I4.out (by omega)).mono ?_
  · have hj : j < bs.length := by have := Hl.out; omega
    have e : (bs.map (takeP · id))[j]?.getD [] = takeP (bs[j]?.getD []) id := by rw [List.getElem?_map, List.getElem?_eq_getElem hj]; rfl
    rw [e]
    have hz := Z3.out j hj
    refine ⟨by have := takeP_len (bs[j]?.getD []) id; omega, fun a ha => ?_⟩
    have := vecOk_len (hz.2 _ (takeP_mem (tk_mem ha)))
    omega
  rintro e w5 ⟨A', c', rfl, r5, hb5⟩
  have B5 := qh (B4.out.trans (hb5.mono B4.out.size))
  have R5 := qh (r5.low B4.out.size)
  clear r5 hb5 x0 x1 t0 t1
  go_wp2_with fail
  go_ret
  refine ⟨A', c', rfl, ?_, B5.out⟩
  have := R5.out
  unfold doP
  dsimp only
  rw [Int.toNat_natCast]
  exact this

/-! ### GatherPlan -/
theorem plan_len {room : List Int} : ∀ (q : Nat) (bs : List (List Tk)), (planP room q bs).length ≤ q
  | 0, _ => Nat.le_refl _
  | q + 1, bs => by
    unfold planP
    cases nextP room bs with
    | none => simp
    | some m => have := plan_len (room := room) q (doP bs m); simp only [List.length_cons]; omega

set_option maxRecDepth 100000 in
set_option maxHeartbeats 3200000 in
theorem gatherPlan_any (A1 A2 : Option Addr) (n1 c1 n2 c2 most : Nat) (room : List Int) (bs : List (List Tk)) (w : World) (h1 : RdI w w.heap.size A1 n1 room) (h2 : RdB w w.heap.size A2 n2 bs) (hc2 : n2 ≤ c2) (hok : binsOk room bs = true) (hm : most ≤ 20) :
    Calls Tryz.prog 120 #[.slice A1 n1 c1, .slice A2 n2 c2, .int .i64 (most : Int)] w fun e w' => ∃ A' n' c', e = .returned (.slice A' n' c') ∧ RdM w' w'.heap.size A' n' (planP room most bs) ∧ Below w.heap.size w w' := by
  obtain ⟨i0, hi0, hz0, hz1, hz2⟩ := info_parts move_info
  have O1 := qh (show (w.alloc (.cells #[] 167)).ownsRow w.heap.size 167 2 (.slice (some ⟨w.heap.size, 0, none⟩) 0 0) 0 [] from World.ownsRow_lit w #[] 0 (Nat.le_refl _) (by unfold maxLen; omega) rfl)
  have B1 := qh (alloc_up w (.cells #[] 167))
  have R1 := qh (h1.up B1.out)
  have S1 := qh (h2.up B1.out)
  have H1 := qh h1
  have H2 := qh h2
  have Hok := qh hok
  have hflat : bs.flatten.length ≤ 1048576 := by
    obtain ⟨_, b2, _⟩ := binsOk_iff.1 hok
    have := tasksOk_len b2; omega
  have hmo : inR 0 20 (most : Int) = true := inR_iff.2 ⟨by omega, by omega⟩
  have HC := qh (binsValidS_any A1 A2 n1 c1 n2 c2 room bs (w.alloc (.cells #[] 167)) R1.out S1.out hflat)
  clear h1 h2 hok hflat R1 S1
  go_enter Tryz.func120, Tryz.ntmps120
  go_wp2_with fail
  generalize w.alloc (.cells #[] 167) = w1 at O1 B1 HC ⊢
  refine HC.out.mono ?_; rintro e w2 ⟨rfl, hb2⟩
  rw [Hok.out]
  have O2 := qh (own_up' O1.out hb2)
  have B2 := qh (B1.out.trans (hb2.mono B1.out.size))
  clear O1 B1 HC hb2
  go_wp2_with fail
  refine (l6In_any _ _ _ _).mono ?_; rintro e w3 ⟨rfl, rfl⟩
  rw [hmo]
  clear hmo
  go_wp2_with fail
  go_loopw [7, 8] (fun v u wr => ∃ (q : Nat) (A7 A8 : Option Addr) (c7 c8 : Nat) (vs7 : List Value) (ms : List (Int × Int)) (bs' : List (List Tk)), v = .slice A7 q c7 ∧ u = .slice A8 n2 c8 ∧ q ≤ most ∧ wr.ownsRow w.heap.size 167 2 (.slice A7 q c7) q vs7 ∧ MvC vs7 ms ∧ NowB wr w.heap.size A8 n2 c8 bs' ∧ binsOk room bs' = true ∧
    planP room most bs = ms ++ planP room (most - q) bs' ∧ Below w.heap.size w wr) (fun v _ _ => match v with | .slice _ k _ => most - k | _ => 0)
  case atStart => exact ⟨0, _, _, _, _, [], [], bs, rfl, rfl, Nat.zero_le _, O2.out, MvC.nil, ⟨hc2, .inl (H2.out.below B2.out)⟩, Hok.out, rfl, B2.out⟩
  case round =>
    clear O2 B2 Hok
    obtain ⟨q, A7, A8, c7, c8, vs7, ms, bs', rfl, rfl, hq, hown, hmv, hs, hok, hp, hb⟩ := hrel
    have Hown := qh hown
    have Hmv := qh hmv
    have Hs := qh hs
    have Hok := qh hok
    have Hp := qh hp
    have Hb := qh hb
    have lz := hb.size
    clear hown hmv hs hok hp hb
    by_cases hlt : q < most
    · have q1 : (q : Int) < (most : Int) := by omega
      go_wp2_with fail
      refine (l16Next_any A1 A8 n1 c1 n2 c8 room bs' wr ((H1.out.below Hb.out).more lz) (Hs.out.rd lz) Hs.out.1 Hok.out).mono ?_; rintro e w2 ⟨hne, hb2⟩
      have O2 := qh (own_up' Hown.out hb2)
      have B2 := qh (Hb.out.trans (hb2.mono Hb.out.size))
      have S2 := qh (Hs.out.up hb2 lz)
      have lz2 := B2.out.size
      clear Hown Hb Hs hb2 lz
      cases hnx : nextP room bs' with
      | none =>
        rw [hnx] at hne
        obtain rfl := hne
        have Hnx := qh hnx
        have al := alloc_up w2 (.cells #[.int .i64 0, .int .i64 0] 167)
        have O3 := qh (own_up' O2.out al)
        have B3 := qh (B2.out.trans (al.mono B2.out.size))
        clear hnx al
        go_wp2_with fail
        go_ret
        refine ⟨_, _, _, rfl, ?_, B3.out⟩
        have e : planP room most bs = ms := by
          rw [Hp.out]
          obtain ⟨r, hr⟩ : ∃ r, most - q = r + 1 := ⟨most - q - 1, by omega⟩
          rw [hr, planP, Hnx.out, List.append_nil]
        rw [e]
        exact RdM.of_own O3.out Hmv.out
      | some m =>
        rw [hnx] at hne
        obtain rfl := hne
        obtain ⟨i, k, j, t, hs⟩ := next_step Hok.out hnx
        have Hnx := qh hnx
        have em := hs.mv
        subst em
        have Hst := qh hs
        have hjn : j < n2 := by have := hs.hi; have := hs.hj; have := (S2.out.rd lz2).len; omega
        have hwh : 0 ≤ whereP bs' t.1 := by have := hs.where_; omega
        have al := alloc_up w2 (.cells #[.int .i64 t.1, .int .i64 (j : Int)] 167)
        have gp_ne := qh (show (Value.slice A7 q c7).ownBlock ≠ some w2.heap.size from fun e => by have := (O2.out.lt _ e).2; omega)
        have O3 := qh (own_up' O2.out al)
        have B3 := qh (B2.out.trans (al.mono B2.out.size))
        have S3 := qh (S2.out.up al lz2)
        have P3 := qh (Blk.new w2 167 #[.int .i64 t.1, .int .i64 (j : Int)])
        have lz3 := B3.out.size
        clear hnx hs al O2 B2 S2
        have p0 := P3.out.cell 0
        have p1 := P3.out.cell 1
        simp only [gT, gZ, gS] at p0 p1
        have al5 := alloc_up (w2.alloc (.cells #[.int .i64 t.1, .int .i64 (j : Int)] 167)) (.cells #[.int .i64 t.1, .int .i64 (j : Int)] 167)
        have O5 := qh (own_up' O3.out al5)
        have s5 := (lit2 (w2.alloc (.cells #[.int .i64 t.1, .int .i64 (j : Int)] 167)) 167 (.int .i64 t.1) (.int .i64 (j : Int)))
        rw [World.size_alloc] at s5
        have S5 := qh s5
        have B5 := qh (B3.out.trans (al5.mono B3.out.size))
        have P5 := qh (P3.out.below al5 P3.out.lt)
        have N5 := qh (S3.out.up al5 lz3)
        clear al5 O3 B3 S3 s5
        dsimp only
        go_wp2_with (at_builtin; refine wpList_append_src _ rfl _ _ 136 rfl w.heap.size 167 i0 _ 2 16 Tryz.underlying136 hi0 hz0 hz1 hz2 rfl (by omega) (.slice A7 q c7) q vs7 rfl O5.out (some ⟨w2.heap.size + 1, 0, none⟩) 1 1 [.int .i64 t.1, .int .i64 (j : Int)] rfl S5.out (one2 _ _ rfl rfl) (by unfold maxLen; omega) (by omega) B5.out.size ?_; intro v' wn hown6 hgrow6 hat6; obtain ⟨A9, c9, rfl⟩ := own_shape hown6; have P6 := qh (P5.out.grown hgrow6 (fun e => gp_ne.out e.symm)); have N6 := qh (N5.out.grown O5.out hgrow6 B5.out.size (by decide) (by decide) (by decide)); have B6 := qh (B5.out.grown hgrow6 B5.out.size (fun a e => (O5.out.lt a e).1)); have O6 := qh hown6; clear hown6 hgrow6 hat6 p0 p1; have y0 := P6.out.cell 0; have y1 := P6.out.cell 1; simp only [gT, gZ, gS] at y0 y1)
        refine (l15Do_any A8 n2 c8 j room bs' t.1 wn (N6.out.rd B6.out.size) Hok.out hjn hwh).mono ?_; rintro e w7 ⟨A10, c10, rfl, o7, hb7⟩
        have N7 := qh (show NowB w7 w.heap.size A10 n2 c10 (doP bs' (t.1, (j : Int))) from ⟨o7.cap, .inr (o7.low B6.out.size)⟩)
        have O7 := qh (own_up' O6.out hb7)
        have B7 := qh (B6.out.trans (hb7.mono B6.out.size))
        clear o7 hb7 y0 y1
        go_wp2_with fail
        go_roundw
        case measure => show most - (q + 1) < most - q; omega
        case rel =>
          refine ⟨q + 1, A9, A10, c9, c10, _, ms ++ [(t.1, (j : Int))], _, rfl, rfl, by omega, O7.out, Hmv.out.snoc _ _, N7.out, Hst.out.ok Hok.out, ?_, B7.out⟩
          rw [Hp.out, List.append_assoc]
          obtain ⟨r, hr⟩ : ∃ r, most - q = r + 1 := ⟨most - q - 1, by omega⟩
          rw [hr, planP, Hnx.out, show most - (q + 1) = r by omega]
          rfl
    · obtain rfl : q = most := by omega
      go_wp2_with fail
      go_ret
      refine ⟨_, _, _, rfl, ?_, Hb.out⟩
      rw [Hp.out, Nat.sub_self]
      show RdM _ _ _ _ (ms ++ [])
      rw [List.append_nil]
      exact RdM.of_own Hown.out Hmv.out

/-! ### MovesDo -/
set_option maxRecDepth 100000 in
set_option maxHeartbeats 3200000 in
theorem movesDo_any (A1 A2 A3 : Option Addr) (n1 c1 n2 c2 n3 c3 most : Nat) (room : List Int) (bs : List (List Tk)) (w : World) (h1 : RdI w w.heap.size A1 n1 room) (h2 : RdB w w.heap.size A2 n2 bs) (h3 : RdM w w.heap.size A3 n3 (planP room most bs)) (hok : binsOk room bs = true) (hm : most ≤ 20) :
    Calls Tryz.prog 119 #[.slice A1 n1 c1, .slice A2 n2 c2, .slice A3 n3 c3] w fun e w' => ∃ A' c' k, e = .returned (.tuple #[.slice A' n2 c', .int .i64 k]) ∧ OwnBR w' w.heap.size (.slice A' n2 c') n2 (gathP room most bs) ∧ Below w.heap.size w w' := by
  have hz := bins_sizes hok
  have hn14 : n2 ≤ 14 := by have := h2.len; omega
  have hn3 : n3 ≤ 20 := by have := h3.1; have := plan_len (room := room) most bs; omega
  have H1 := qh h1
  have H2 := qh h2
  have H3 := qh h3
  have Hok := qh hok
  have Hl := qh h3.1
  have hflat : bs.flatten.length ≤ 1048576 := by
    obtain ⟨_, b2, _⟩ := binsOk_iff.1 hok
    have := tasksOk_len b2; omega
  have HC := qh (binsValidS_any A1 A2 n1 c1 n2 c2 room bs w h1 h2 hflat)
  clear h1 h2 h3 hok hflat hz
  go_enter Tryz.func119, Tryz.ntmps119
  go_wp2_with fail
  refine HC.out.mono ?_; rintro e w2 ⟨rfl, hb2⟩
  rw [Hok.out]
  have B2 := qh hb2
  have lz2 := hb2.size
  have g20 : ¬ (20 : Int) < (n3 : Int) := by omega
  clear HC hb2
  go_wp2_with fail
  refine (l2Bins_any A2 n2 c2 bs w2 (H2.out.up B2.out) (by omega) (fun j hj => bins_lens Hok.out j (by have := H2.out.len; omega))).mono ?_; rintro e w3 ⟨A4, c4, rfl, o3, hb3⟩
  have B3 := qh (B2.out.trans (hb3.mono lz2))
  have O3 := qh (o3.low lz2)
  clear o3 hb3 B2
  go_wp2_with fail
  go_loopw [8, 9] (fun v i wr => ∃ (k r : Nat) (A8 : Option Addr) (c8 : Nat) (bs' : List (List Tk)), v = .slice A8 n2 c8 ∧ i = .int .i64 (k : Nat) ∧ k ≤ n3 ∧ OwnBR wr w.heap.size (.slice A8 n2 c8) n2 bs' ∧ binsOk room bs' = true ∧ (planP room most bs).drop k = planP room r bs' ∧ gathP room r bs' = gathP room most bs ∧ Below w.heap.size w wr) (fun _ i _ => n3 - (intOf i).toNat)
  case atStart => exact ⟨0, most, A4, c4, bs, rfl, rfl, Nat.zero_le _, O3.out, Hok.out, rfl, rfl, B3.out⟩
  case round =>
    clear O3 B3 Hok
    obtain ⟨k, r, A8, c8, bs', rfl, rfl, hk, ho, hok, hd, hg, hb⟩ := hrel
    have Ho := qh ho
    have Hok := qh hok
    have Hd := qh hd
    have Hg := qh hg
    have Hb := qh hb
    have lz := hb.size
    clear ho hok hd hg hb
    by_cases hlt : k < n3
    · have q1 : (0 : Int) ≤ (k : Int) := by omega
      have q2 : (k : Int) < (n3 : Int) := by omega
      have q3 : 0 ≤ (k : Int) * 2 := by omega
      have vk : IntKind.i64.wrap ((k : Int) + 1) = (k : Int) + 1 := wr64 (by omega) (by omega)
      have hkl : k < (planP room most bs).length := by have := Hl.out; omega
      have hcons : (planP room most bs).drop k = (planP room most bs)[k] :: (planP room most bs).drop (k + 1) := List.drop_eq_getElem_cons hkl
      obtain ⟨q, rfl⟩ : ∃ q, r = q + 1 := by
        cases r with
        | zero => exact (List.cons_ne_nil _ _ (hcons.symm.trans Hd.out)).elim
        | succ q => exact ⟨q, rfl⟩
      have hpl := Hd.out
      rw [hcons, planP] at hpl
      have hgl := Hg.out
      rw [gathP] at hgl
      cases hnx : nextP room bs' with
      | none => rw [hnx] at hpl; cases hpl
      | some m =>
        rw [hnx] at hpl hgl
        dsimp only at hpl hgl
        injection hpl with hp1 hp2
        obtain ⟨i, k2, j, t, hs⟩ := next_step Hok.out hnx
        have em := hs.mv
        subst em
        have Hst := qh hs
        have Hp2 := qh hp2
        have Hg2 := qh hgl
        have hjn : j < n2 := by have := hs.hi; have := hs.hj; have := Ho.out.len; omega
        have hwh : 0 ≤ whereP bs' t.1 := by have := hs.where_; omega
        have H3r := (H3.out.up (w' := wr)) 
        obtain ⟨b, o, rfl, lb, hcell⟩ := H3.out.2 (by omega)
        have hmk : (planP room most bs)[k]?.getD (0, 0) = (t.1, (j : Int)) := by rw [List.getElem?_eq_getElem hkl]; exact hp1
        obtain ⟨e0, e1⟩ := hcell k hlt
        rw [hmk] at e0 e1
        have E := qh (fun (W : World) (hW : Below w.heap.size w W) => (⟨(hW.cell (p := ⟨b, o + k * 2, none⟩) lb).trans e0, (hW.cell (p := ⟨b, o + k * 2 + 1, none⟩) lb).trans e1⟩ : W.cell? ⟨b, o + k * 2, none⟩ = some (.int .i64 t.1) ∧ W.cell? ⟨b, o + k * 2 + 1, none⟩ = some (.int .i64 (j : Int))))
        clear hnx hs hp1 hp2 hgl hmk e0 e1 hcell hcons hkl H3r
        obtain ⟨y0, y1⟩ := E.out wr Hb.out
        go_wp2_with fail
        refine (l15Can_any A1 A8 n1 c1 n2 c8 j room bs' t.1 wr ((H1.out.below Hb.out).more lz) Ho.out.rd Hok.out Hst.out.can).mono ?_; rintro e w4 ⟨rfl, hb4⟩
        have B4 := qh (Hb.out.trans (hb4.mono lz))
        have O4 := qh (Ho.out.up hb4)
        clear y0 y1 Hb Ho hb4
        obtain ⟨y0, y1⟩ := E.out w4 B4.out
        go_wp2_with fail
        refine (l15Do_any A8 n2 c8 j room bs' t.1 w4 O4.out.rd Hok.out hjn hwh).mono ?_; rintro e w7 ⟨A10, c10, rfl, o7, hb7⟩
        have B7 := qh (B4.out.trans (hb7.mono B4.out.size))
        have O7 := qh (o7.low B4.out.size)
        clear y0 y1 o7 hb7
        go_wp2_with fail
        go_roundw
        case measure => simp [intOf]; omega
        case rel => exact ⟨k + 1, q, A10, c10, _, rfl, by go_num, by omega, O7.out, Hst.out.ok Hok.out, Hp2.out, Hg2.out, B7.out⟩
    · obtain rfl : k = n3 := by omega
      have hpl := Hd.out
      rw [List.drop_of_length_le (by have := Hl.out; omega)] at hpl
      have he : gathP room most bs = bs' := by
        rw [← Hg.out]
        cases r with
        | zero => rfl
        | succ q =>
          rw [gathP]
          cases hnx : nextP room bs' with
          | none => rfl
          | some m => rw [planP, hnx] at hpl; cases hpl
      have He := qh he
      clear hpl he
      go_wp2_with fail
      refine bodyPost_ret (v := .tuple #[.slice A8 n2 c8, .int .i64 (k : Int)]) (by simp [results, Tryz.results119, go_sem]) rfl ⟨A8, c8, _, rfl, by rw [He.out]; exact Ho.out, Hb.out⟩
end Go.Proofs.YtdkhdfedejbicaaGreatDoor
