/- Several texts in one. -/
import Derived.Test.YtjjnbbkdjimcoaaGreatJ16
import Derived.Test.YtjjnbbkdjimcoaaGreatJ9
import Derived.Test.YtjjnbbkdjimcoaaGreatJ3
import Derived.Test.YtjjnbbkdjimcoaaGreatJ10
namespace Go.Proofs.YtjjnbbkdjimcoaaGreat
set_option linter.unusedSimpArgs false
set_option linter.unusedVariables false
open Go Go.RowKit
attribute [local go_sem ↓] Go.wp_at_zero Go.wp_at_succ

/-- Rows of tasks of the call's own, whose needs lie below a block. -/
def TkBR (w : World) (lo B n : Nat) (vs : List Value) (bs : List (List Tk)) : Prop :=
  bs.length = n ∧ vs.length = n ∧ ∀ j, j < n → ∃ A m c vt, vs[j]? = some (.slice A m c) ∧ w.ownsRow lo 43 2 (.slice A m c) m vt ∧ TkCells w B vt (bs[j]?.getD [])
section
variable {w w' : World} {lo B n : Nat} {vs : List Value} {bs : List (List Tk)}
theorem TkBR.nil : TkBR w lo B 0 [] [] := ⟨rfl, rfl, fun j hj => by omega⟩
theorem TkBR.keep (h : TkBR w lo B n vs bs) (hB : ∀ p : Addr, p.block < B → w'.cell? p = w.cell? p) (hk : ∀ A m c vt, w.ownsRow lo 43 2 (.slice A m c) m vt → w'.ownsRow lo 43 2 (.slice A m c) m vt) : TkBR w' lo B n vs bs :=
  ⟨h.1, h.2.1, fun j hj => by
    obtain ⟨A, m, c, vt, h1, h2, h3⟩ := h.2.2 j hj
    exact ⟨A, m, c, vt, h1, hk _ _ _ _ h2, h3.keep hB (Nat.le_refl _)⟩⟩
theorem TkBR.snoc {A : Option Addr} {m c : Nat} {vt : List Value} {ts : List Tk} (h : TkBR w lo B n vs bs) (ho : w.ownsRow lo 43 2 (.slice A m c) m vt) (ht : TkCells w B vt ts) : TkBR w lo B (n + 1) (vs ++ [.slice A m c]) (bs ++ [ts]) := by
  have h1 := h.1
  have h2 := h.2.1
  refine ⟨by simp [h1], by simp [h2], fun j hj => ?_⟩
  by_cases e : j = n
  · subst e
    exact ⟨A, m, c, vt, by rw [List.getElem?_append_right (by omega), h2, Nat.sub_self]; rfl, ho, by rw [List.getElem?_append_right (by omega), h1, Nat.sub_self]; exact ht⟩
  · obtain ⟨A', m', c', vt', e1, e2, e3⟩ := h.2.2 j (by omega)
    exact ⟨A', m', c', vt', by rw [List.getElem?_append_left (by omega)]; exact e1, e2, by rw [List.getElem?_append_left (by omega)]; exact e3⟩
theorem TkBR.cells (h : TkBR w lo B n vs bs) (hB : B ≤ w.heap.size) : BnCells w w.heap.size vs bs := ⟨by rw [h.2.1, h.1], fun j hj => by
  obtain ⟨A, m, c, vt, h1, h2, h3⟩ := h.2.2 j (by rw [← h.1]; exact hj)
  exact ⟨A, m, c, h1, own_cap' h2, RdT.of_own h2 h3 hB (own_le h2)⟩⟩
end
theorem last_take {l ts : List Tk} {j : Nat} (h : j < ts.length) : l ++ ts.take (j + 1) = (l ++ ts.take j) ++ [((ts[j]?.getD (0, [])).1, (ts[j]?.getD (0, [])).2)] := by
  rw [List.take_succ_eq_append_getElem h, List.getElem?_eq_getElem h, List.append_assoc]; rfl
theorem flat_take {bs : List (List Tk)} {k : Nat} (h : k < bs.length) : (bs.take (k + 1)).flatten = (bs.take k).flatten ++ bs[k]?.getD [] := by
  rw [List.take_succ_eq_append_getElem h, List.getElem?_eq_getElem h, List.flatten_append]; simp
theorem map_take {bs : List (List Tk)} {k : Nat} {id : Int} (h : k < bs.length) : (bs.take (k + 1)).map (takeP · id) = (bs.take k).map (takeP · id) ++ [takeP (bs[k]?.getD []) id] := by
  rw [List.take_succ_eq_append_getElem h, List.getElem?_eq_getElem h, List.map_append]; rfl

set_option maxRecDepth 100000 in
set_option maxHeartbeats 3200000 in
theorem l15Take_any (A : Option Addr) (n c : Nat) (bs : List (List Tk)) (id : Int) (w : World) (h : RdB w w.heap.size A n bs) (hn : n ≤ 1000) (hb : ∀ j, j < n → (bs[j]?.getD []).length ≤ 1048576) :
    Calls Tryz.prog 120 #[.slice A n c, .int .i64 id] w fun e w' => ∃ A' c' A3 m3 c3, e = .returned (.tuple #[.slice A' n c', .agg #[.int .i64 (takenP bs id).1, .slice A3 m3 c3]]) ∧ RdB w' w'.heap.size A' n (bs.map (takeP · id)) ∧ RdI w' w'.heap.size A3 m3 (takenP bs id).2 ∧ m3 ≤ c3 ∧ Below w.heap.size w w' := by
  obtain ⟨t0, ht0, htz0, htz1, htz2⟩ := info_parts task_info
  obtain ⟨s0, hs0, hsz0, hsz1, hsz2⟩ := info_parts slice_info'
  have Hl := qh h.len
  have H := qh h
  have Hb := qh hb
  clear h hb
  have sz1 : (w.alloc (.cells #[.int .i64 0, .slice none 0 0] 43)).heap.size = w.heap.size + 1 := World.size_alloc _ _
  have sz2 : ((w.alloc (.cells #[.int .i64 0, .slice none 0 0] 43)).alloc (.cells #[] 27)).heap.size = w.heap.size + 2 := by rw [World.size_alloc, sz1]
  have sz3 : (((w.alloc (.cells #[.int .i64 0, .slice none 0 0] 43)).alloc (.cells #[] 27)).alloc (.cells #[.int .i64 0, .slice none 0 0] 43)).heap.size = w.heap.size + 3 := by rw [World.size_alloc, sz2]
  have B3 := qh (((alloc_up w (.cells #[.int .i64 0, .slice none 0 0] 43)).alloc (by rw [sz1]; omega) (.cells #[] 27)).alloc (by rw [sz2]; omega) (.cells #[.int .i64 0, .slice none 0 0] 43))
  have Z3 := qh (((Blk.new w 43 #[.int .i64 0, .slice none 0 0]).alloc (.cells #[] 27)).alloc (.cells #[.int .i64 0, .slice none 0 0] 43))
  have hO := own_alloc (World.ownsRow_lit (base := w.heap.size) (e := 27) (size := 1) (w.alloc (.cells #[.int .i64 0, .slice none 0 0] 43)) #[] 0 (by rw [sz1]; omega) (by unfold maxLen; omega) rfl) (.cells #[.int .i64 0, .slice none 0 0] 43)
  rw [sz1] at hO
  have O3 := qh (show (((w.alloc (.cells #[.int .i64 0, .slice none 0 0] 43)).alloc (.cells #[] 27)).alloc (.cells #[.int .i64 0, .slice none 0 0] 43)).ownsRow w.heap.size 27 1 (.slice (some ⟨w.heap.size + 1, 0, none⟩) 0 0) 0 [] from hO)
  have hX := Blk.new ((w.alloc (.cells #[.int .i64 0, .slice none 0 0] 43)).alloc (.cells #[] 27)) 43 #[.int .i64 0, .slice none 0 0]
  rw [sz2] at hX
  have X3 := qh hX
  clear hO hX sz1 sz2
  go_enter Tryz.func120, Tryz.ntmps120
  go_wp2_with fail
  generalize ((w.alloc (.cells #[.int .i64 0, .slice none 0 0] 43)).alloc (.cells #[] 27)).alloc (.cells #[.int .i64 0, .slice none 0 0] 43) = w3 at sz3 B3 Z3 O3 X3 ⊢
  go_loopw [6, 8] (fun v kv wr => ∃ (k : Nat) (A3 : Option Addr) (c3 : Nat) (vs : List Value) (xi : Int) (Ax : Option Addr) (mx cx : Nat), kv = .int .i64 (k : Nat) ∧ k ≤ n ∧ v = .slice A3 k c3 ∧ Below w.heap.size w wr ∧ w.heap.size + 3 ≤ wr.heap.size ∧ Blk wr w.heap.size 43 #[.int .i64 0, .slice none 0 0] ∧ Blk wr (w.heap.size + 2) 43 #[.int .i64 xi, .slice Ax mx cx] ∧
    xi = (lastP (bs.take k).flatten id).1 ∧ RdI wr w.heap.size Ax mx (lastP (bs.take k).flatten id).2 ∧ mx ≤ cx ∧ wr.ownsRow w.heap.size 27 1 (.slice A3 k c3) k vs ∧ TkBR wr (w.heap.size + 3) w.heap.size k vs ((bs.take k).map (takeP · id))) (fun _ kv _ => n - (intOf kv).toNat)
  case atStart => exact ⟨0, _, _, [], 0, none, 0, 0, rfl, Nat.zero_le _, rfl, B3.out, by omega, Z3.out, X3.out, rfl, RdI.nil, Nat.le_refl _, O3.out, TkBR.nil⟩
  case round =>
    clear B3 Z3 X3 O3 sz3
    obtain ⟨k, A3, c3, vs, xi, Ax, mx, cx, rfl, hk, rfl, hbel, l3, hz, hx, hxi, hxr, hxc, hob, hnr⟩ := hrel
    have HB := qh hbel
    have HZ := qh hz
    have HX := qh hx
    have HXI := qh hxi
    have HXR := qh hxr
    have HXC := qh hxc
    have HO := qh hob
    have HN := qh hnr
    clear hbel hz hx hxi hxr hxc hob hnr
    by_cases hlt : k < n
    · have q1 : (0 : Int) ≤ (k : Int) := by omega
      have q2 : (k : Int) < (n : Int) := by omega
      have v1 : IntKind.i64.wrap ((k : Int) + 1) = (k : Int) + 1 := wr64 (by omega) (by omega)
      obtain ⟨b, o, At, m, ct, rfl, lb, hc1, hmc, hrd⟩ := (H.out.below HB.out).at_ hlt
      have hkl : Hid (k < bs.length) := by have := Hl.out; show _ < _; omega
      have Hrd := qh hrd
      have Hc1 := qh hc1
      have Hts := qh hrd.len
      have hm1 : m ≤ 1048576 := by have := (Hb.out k hlt); have := hrd.len; omega
      have Fk := qh (flat_take hkl.out)
      have Mk := qh (map_take (id := id) hkl.out)
      clear hrd hc1
      obtain ⟨wo, hwo⟩ : ∃ wo, wo = wr := ⟨_, rfl⟩
      rw [← hwo] at HB HZ HX HXR HO HN Hrd Hc1 l3 ⊢
      clear hwo
      have hR := World.ownsRow_lit (base := wo.heap.size) (e := 43) (size := 2) wo #[] 0 (Nat.le_refl _) (by unfold maxLen; omega) rfl
      have R4 := qh (show (wo.alloc (.cells #[] 43)).ownsRow wo.heap.size 43 2 (.slice (some ⟨wo.heap.size, 0, none⟩) 0 0) 0 [] from hR)
      have G4 := qh ((OnlyG.refl wo (w.heap.size + 2)).alloc (.cells #[] 43))
      have X4 := qh (HX.out.alloc (.cells #[] 43))
      have XR4 := qh (HXR.out.keep (w' := wo.alloc (.cells #[] 43)) (fun p hp => G4.out.cell (by omega) (by omega)) (Nat.le_refl _))
      clear hR
      go_wp2_with fail
      generalize wo.alloc (.cells #[] 43) = w4 at R4 G4 X4 XR4 ⊢
      go_loopw [9, 10] (fun v i wr => ∃ (j : Nat) (Ar : Option Addr) (mr cr : Nat) (vr : List Value) (xi : Int) (Ax : Option Addr) (mx cx : Nat), i = .int .i64 j ∧ j ≤ m ∧ v = .slice Ar mr cr ∧ mr ≤ j ∧ OnlyG wo wr (w.heap.size + 2) ∧ Blk wr (w.heap.size + 2) 43 #[.int .i64 xi, .slice Ax mx cx] ∧
        xi = (lastP ((bs.take k).flatten ++ (bs[k]?.getD []).take j) id).1 ∧ RdI wr w.heap.size Ax mx (lastP ((bs.take k).flatten ++ (bs[k]?.getD []).take j) id).2 ∧ mx ≤ cx ∧ wr.ownsRow wo.heap.size 43 2 (.slice Ar mr cr) mr vr ∧ TkCells wr w.heap.size vr (takeP ((bs[k]?.getD []).take j) id)) (fun _ i _ => m - (intOf i).toNat)
      case atStart => exact ⟨0, _, _, _, [], xi, Ax, mx, cx, rfl, Nat.zero_le _, rfl, Nat.le_refl _, G4.out, X4.out, by rw [List.take_zero, List.append_nil]; exact HXI.out, by rw [List.take_zero, List.append_nil]; exact XR4.out, HXC.out, R4.out, TkCells.nil⟩
      case round =>
        clear R4 G4 X4 XR4 HXI HXR HXC
        obtain ⟨j, Ar, mr, cr, vr, xi, Ax, mx, cx, rfl, hj, rfl, hmr, hg, hx, hxi, hxr, hxc, hr, hnr⟩ := hrel
        have HG := qh hg
        have HX1 := qh hx
        have HXI := qh hxi
        have HXR := qh hxr
        have HXC := qh hxc
        have HR := qh hr
        have HC := qh hnr
        have lz := hg.size
        have hgb : wr.cell? ⟨b, o + k, none⟩ = some (.slice At m ct) := (hg.cell (p := ⟨b, o + k, none⟩) (by show b < _; omega) (by show b ≠ _; omega)).trans Hc1.out
        clear hg hx hxi hxr hxc hr hnr
        have Hrw := qh (Hrd.out.keep (w' := wr) (fun p hp => HG.out.cell (by omega) (by omega)) (Nat.le_refl _))
        by_cases hjl : j < m
        · have k1 : (0 : Int) ≤ (j : Int) := by omega
          have k2 : (j : Int) < (m : Int) := by omega
          have k3 : 0 ≤ (j : Int) * 2 := by omega
          have vj : IntKind.i64.wrap ((j : Int) + 1) = (j : Int) + 1 := wr64 (by omega) (by omega)
          obtain ⟨bt, ot, An, mn, cn, rfl, lbt, d1, d2, hmn, hnd⟩ := Hrw.out.at_ hjl
          have HND := qh hnd
          have HMN := qh hmn
          have hjt : Hid (j < (bs[k]?.getD []).length) := by have := Hts.out; show _ < _; omega
          have Lt := qh (last_take (l := (bs.take k).flatten) hjt.out)
          clear hnd hmn
          by_cases hid : ((bs[k]?.getD [])[j]?.getD (0, [])).1 = id
          · have Ht := qh (takeP_yes hjt.out hid)
            have Hla := qh ((congrArg (lastP · id) Lt.out).trans (last_yes hid))
            have Hid1 := qh hid
            rw [hid] at d1
            have x0 := HX1.out.cell 0
            have x1 := HX1.out.cell 1
            simp only [gT, gZ, gS] at x0 x1
            have x2 := HX1.out.frozen 0
            have x3 := HX1.out.frozen 1
            clear hid
            go_wp2_with fail
            have hk2 : ∀ b, b ≠ w.heap.size + 2 → ((wr.setCell ⟨w.heap.size + 2, 0, none⟩ (.int .i64 id)).setCell ⟨w.heap.size + 2, 1, none⟩ (.slice An mn cn)).heap[b]? = wr.heap[b]? := fun b hb => (Below.heap_setCell _ _ _ b hb).trans (Below.heap_setCell _ _ _ b hb)
            have G5 := qh ((HG.out.set_g 0 (.int .i64 id)).set_g 1 (.slice An mn cn))
            have X5 := qh ((HX1.out.set_ 0 (.int .i64 id)).set_ 1 (.slice An mn cn))
            have R5 := qh (own_keep HR.out (w' := (wr.setCell ⟨w.heap.size + 2, 0, none⟩ (.int .i64 id)).setCell ⟨w.heap.size + 2, 1, none⟩ (.slice An mn cn)) (fun b hb => hk2 b (by have := (HR.out.lt b hb).1; omega)))
            have C5 := qh (HC.out.keep (w' := (wr.setCell ⟨w.heap.size + 2, 0, none⟩ (.int .i64 id)).setCell ⟨w.heap.size + 2, 1, none⟩ (.slice An mn cn)) (fun p hp => World.cell?_of_block (hk2 p.block (by omega))) (Nat.le_refl _))
            have N5 := qh (HND.out.keep (w' := (wr.setCell ⟨w.heap.size + 2, 0, none⟩ (.int .i64 id)).setCell ⟨w.heap.size + 2, 1, none⟩ (.slice An mn cn)) (fun p hp => World.cell?_of_block (hk2 p.block (by omega))) (Nat.le_refl _))
            clear hk2
            go_roundw
            case measure => simp [intOf]; omega
            case rel => exact ⟨j + 1, Ar, mr, cr, vr, id, An, mn, cn, by go_num, by omega, rfl, by omega, G5.out, X5.out, by rw [Hla.out]; exact Hid1.out.symm, by rw [Hla.out]; exact N5.out, HMN.out, R5.out, by rw [Ht.out]; exact C5.out⟩
          · have Ht := qh (takeP_no hjt.out hid)
            have Hla := qh ((congrArg (lastP · id) Lt.out).trans (last_no hid))
            have hne : (((bs[k]?.getD [])[j]?.getD (0, [])).1 == id) = false := by simpa using hid
            clear hid Lt
            generalize ((bs[k]?.getD [])[j]?.getD (0, [])).1 = ti at *
            generalize ((bs[k]?.getD [])[j]?.getD (0, [])).2 = nd at *
            have Own7 := qh (own_alloc HR.out (.cells #[.int .i64 ti, .slice An mn cn] 43))
            have X7 := qh (lit2 wr 43 (.int .i64 ti) (.slice An mn cn))
            have lz7 : wo.heap.size ≤ (wr.alloc (.cells #[.int .i64 ti, .slice An mn cn] 43)).heap.size := by rw [World.size_alloc]; omega
            go_wp2_with (at_builtin; refine wpList_append_src _ rfl _ _ 27 rfl (wo.heap.size) 43 t0 _ 2 32 Tryz.underlying27 ht0 htz0 htz1 htz2 rfl (by omega) (.slice Ar mr cr) mr vr rfl Own7.out (some ⟨wr.heap.size, 0, none⟩) 1 1 [.int .i64 ti, .slice An mn cn] rfl X7.out (one2 _ _ rfl rfl) (by unfold maxLen; omega) (by omega) lz7 ?_; intro v' w8 hown8 hgrow8 hat8; obtain ⟨A8, c8, rfl⟩ := own_shape hown8)
            have G8 := qh ((HG.out.alloc (.cells #[.int .i64 ti, .slice An mn cn] 43)).grown hgrow8 (fun r e => (Own7.out.lt r e).1))
            have ne8 : ∀ b, b < wo.heap.size → some b ≠ (Value.slice Ar mr cr).ownBlock := fun b hb e => by have := (Own7.out.lt b e.symm).1; omega
            have hk8 : ∀ b, b < wo.heap.size → w8.heap[b]? = wr.heap[b]? := fun b hb => (hgrow8.block b (by rw [World.size_alloc]; omega) (ne8 b hb)).trans (Below.heap_alloc _ _ _ (by omega))
            have X8 := qh (show Blk w8 (w.heap.size + 2) 43 #[.int .i64 xi, .slice Ax mx cx] from (hk8 _ (by omega)).trans HX1.out)
            have XR8 := qh (HXR.out.keep (w' := w8) (fun p hp => World.cell?_of_block (hk8 p.block (by omega))) (Nat.le_refl _))
            have R8 := qh hown8
            have C8 := qh ((HC.out.keep (w' := w8) (fun p hp => World.cell?_of_block (hk8 p.block (by omega))) (Nat.le_refl _)).append (tkOne (id := ti) (HND.out.keep (w' := w8) (fun p hp => World.cell?_of_block (hk8 p.block (by omega))) (Nat.le_refl _)) HMN.out))
            clear hown8 hgrow8 hat8 Own7 X7 ne8 hk8
            go_wp2_with fail
            go_roundw
            case measure => simp [intOf]; omega
            case rel => exact ⟨j + 1, A8, mr + 1, c8, _, xi, Ax, mx, cx, by go_num, by omega, rfl, by omega, G8.out, X8.out, by rw [Hla.out]; exact HXI.out, by rw [Hla.out]; exact XR8.out, HXC.out, R8.out, by rw [Ht.out]; exact C8.out⟩
        · obtain rfl : j = m := by omega
          have ets : (bs[k]?.getD []).take j = bs[k]?.getD [] := List.take_of_length_le (by rw [Hts.out]; exact Nat.le_refl _)
          rw [ets, ← Fk.out] at HXI HXR
          rw [ets] at HC
          clear ets
          have BW := qh (OnlyG.to_below HB.out HG.out (by omega))
          have HOr := qh (own_keep HO.out (w' := wr) (fun b hb => HG.out.block b (HO.out.lt b hb).2 (fun e => own_blk_ne HO.out HX.out (by decide) (by rw [hb, e]))))
          have HZr := qh (HG.out.blk HZ.out (by omega))
          have HNr := qh (HN.out.keep (w' := wr) (fun p hp => HG.out.cell (by omega) (by omega)) (fun A' m' c' vt h => own_keep h (fun b hb => HG.out.block b (h.lt b hb).2 (by have := (h.lt b hb).1; omega))))
          have Own7 := qh (own_alloc HOr.out (.cells #[.slice Ar mr cr] 27))
          have X7 := qh (lit1 wr 27 (.slice Ar mr cr))
          have lz7 : w.heap.size ≤ (wr.alloc (.cells #[.slice Ar mr cr] 27)).heap.size := by rw [World.size_alloc]; omega
          have R7 := qh (own_alloc HR.out (.cells #[.slice Ar mr cr] 27))
          have N7 := qh (HNr.out.keep (w' := wr.alloc (.cells #[.slice Ar mr cr] 27)) (fun p hp => World.cell?_of_block (Below.heap_alloc _ _ _ (by omega))) (fun A' m' c' vt h => own_alloc h _))
          have Z7 := qh (HZr.out.alloc (.cells #[.slice Ar mr cr] 27))
          have X7' := qh (HX1.out.alloc (.cells #[.slice Ar mr cr] 27))
          have XR7 := qh (HXR.out.keep (w' := wr.alloc (.cells #[.slice Ar mr cr] 27)) (fun p hp => World.cell?_of_block (Below.heap_alloc _ _ _ (by omega))) (Nat.le_refl _))
          have C7 := qh (HC.out.keep (w' := wr.alloc (.cells #[.slice Ar mr cr] 27)) (fun p hp => World.cell?_of_block (Below.heap_alloc _ _ _ (by omega))) (Nat.le_refl _))
          have B7 := qh (BW.out.alloc (by omega) (.cells #[.slice Ar mr cr] 27))
          go_wp2_with (at_builtin; refine wpList_append_src _ rfl _ _ 75 rfl w.heap.size 27 s0 _ 1 24 Tryz.underlying75 hs0 hsz0 hsz1 hsz2 rfl (by omega) (.slice A3 k c3) k vs rfl Own7.out (some ⟨wr.heap.size, 0, none⟩) 1 1 [.slice Ar mr cr] rfl X7.out (one1 _ rfl) (by unfold maxLen; omega) (by omega) lz7 ?_; intro v' w8 hown8 hgrow8 hat8; obtain ⟨A8, c8, rfl⟩ := own_shape hown8)
          have B8 := qh (B7.out.grown hgrow8 lz7 (fun r e => (Own7.out.lt r e).1))
          have Z8 := qh (Z7.out.grown hgrow8 (fun e => own_blk_ne Own7.out Z7.out (by decide) e.symm))
          have X8 := qh (X7'.out.grown hgrow8 (fun e => own_blk_ne Own7.out X7'.out (by decide) e.symm))
          have hlow : ∀ p : Addr, p.block < w.heap.size → w8.cell? p = (wr.alloc (.cells #[.slice Ar mr cr] 27)).cell? p := fun p hp => World.cell?_of_block (hgrow8.block p.block (by omega) (fun e => by have := (Own7.out.lt _ e.symm).1; omega))
          have R8 := qh (own_keep R7.out (w' := w8) (fun b hb => hgrow8.block b (R7.out.lt b hb).2 (fun e => own_types Own7.out R7.out (by decide) e.symm hb)))
          have N8 := qh (N7.out.keep (w' := w8) hlow (fun A' m' c' vt h => own_keep h (fun b hb => hgrow8.block b (h.lt b hb).2 (fun e => own_types Own7.out h (by decide) e.symm hb))))
          have C8 := qh (C7.out.keep (w' := w8) hlow (Nat.le_refl _))
          have XR8 := qh (XR7.out.keep (w' := w8) hlow (Nat.le_refl _))
          have l8 := hgrow8.size
          have O8 := qh hown8
          clear hown8 hgrow8 hat8 Own7 X7 R7 N7 Z7 X7' B7 hlow HZ HX HO HR HN HB HZr HOr HNr C7 XR7
          go_wp2_with fail
          go_roundw
          case measure => simp [intOf]; omega
          case rel =>
            rw [World.size_alloc] at l8
            refine ⟨k + 1, A8, c8, _, xi, Ax, mx, cx, by go_num, by omega, rfl, B8.out, by omega, Z8.out, X8.out, HXI.out, XR8.out, HXC.out, O8.out, ?_⟩
            rw [Mk.out]
            exact N8.out.snoc (own_lo R8.out l3) C8.out
    · obtain rfl : k = n := by omega
      have ets : bs.take k = bs := List.take_of_length_le (by rw [Hl.out]; exact Nat.le_refl _)
      rw [ets, ← taken_last] at HXI HXR
      rw [ets] at HN
      clear ets
      go_wp2_with fail
      have K0 : wr.drew.cell? ⟨w.heap.size + 2, 0, none⟩ = some (.int .i64 xi) ∧ wr.drew.cell? ⟨w.heap.size + 2, 1, none⟩ = some (.slice Ax mx cx) := ⟨HX.out.cell 0, HX.out.cell 1⟩
      have B9 := qh HB.out.drew
      have Z9 := qh HZ.out.drew
      have X9 := qh HX.out.drew
      have N9 := qh (show TkBR wr.drew (w.heap.size + 3) w.heap.size k vs (bs.map (takeP · id)) from HN.out)
      have O9 := qh (World.ownsRow.drew HO.out)
      have XR9 := qh (show RdI wr.drew w.heap.size Ax mx (takenP bs id).2 from HXR.out)
      clear HB HZ HX HN HO HXR
      refine wp_region_mix (.take 0 (.take 1 (.take 2 (.bar 3 .nil)))) (fun w' => w'.cell? ⟨w.heap.size + 2, 0, none⟩ = some (.int .i64 xi) ∧ w'.cell? ⟨w.heap.size + 2, 1, none⟩ = some (.slice Ax mx cx)) (by kernel_rfl) (by kernel_rfl) K0 (fun _ => ?_)
      clear K0
      repeat ((first | refine wpMix_skip (by rfl) (by rfl) ?_ | (refine wpMix_take (v := ?_) (by rfl) (by rfl) (fun wS hSt => ?_) ?_; rotate_left; (focus ((try dsimp only at hSt); (go_simp <;> with_reducible rfl); done)))); (try simp only [Act.put, pS, pZ, pC]))
      have l9 : w.heap.size + 3 ≤ wr.drew.heap.size := l3
      generalize wr.drew = u0 at B9 Z9 X9 N9 O9 XR9 l9 ⊢
      have x0 := Z9.out.cell 0
      have x1 := Z9.out.cell 1
      simp only [gT, gZ, gS] at x0 x1
      have x2 := Z9.out.frozen 0
      have x3 := Z9.out.frozen 1
      (refine wpMix_bar (by rfl) (fun K hK => ?_); go_simp)
      have hk9 : ∀ b, b ≠ w.heap.size → ((u0.setCell ⟨w.heap.size, 0, none⟩ (.int .i64 xi)).setCell ⟨w.heap.size, 1, none⟩ (.slice Ax mx cx)).heap[b]? = u0.heap[b]? := fun b hb => (Below.heap_setCell _ _ _ b hb).trans (Below.heap_setCell _ _ _ b hb)
      have EQ := qh ((Z9.out.set_ 0 (.int .i64 xi)).set_ 1 (.slice Ax mx cx))
      have Xa := qh ((X9.out.far (p := ⟨w.heap.size, 0, none⟩) (by show w.heap.size + 2 ≠ w.heap.size; omega) (.int .i64 xi)).far (p := ⟨w.heap.size, 1, none⟩) (by show w.heap.size + 2 ≠ w.heap.size; omega) (.slice Ax mx cx))
      have Ba := qh ((B9.out.setCell (p := ⟨w.heap.size, 0, none⟩) (by simp) (.int .i64 xi)).setCell (p := ⟨w.heap.size, 1, none⟩) (by simp) (.slice Ax mx cx))
      have Oa := qh (own_keep O9.out (w' := (u0.setCell ⟨w.heap.size, 0, none⟩ (.int .i64 xi)).setCell ⟨w.heap.size, 1, none⟩ (.slice Ax mx cx)) (fun b hb => hk9 b (fun e => own_blk_ne O9.out Z9.out (by decide) (by rw [hb, e]))))
      have Na := qh (N9.out.keep (w' := (u0.setCell ⟨w.heap.size, 0, none⟩ (.int .i64 xi)).setCell ⟨w.heap.size, 1, none⟩ (.slice Ax mx cx)) (fun p hp => World.cell?_of_block (hk9 p.block (by omega))) (fun A' m' c' vt h => own_keep h (fun b hb => hk9 b (by have := (h.lt b hb).1; omega))))
      have Ra := qh (XR9.out.keep (w' := (u0.setCell ⟨w.heap.size, 0, none⟩ (.int .i64 xi)).setCell ⟨w.heap.size, 1, none⟩ (.slice Ax mx cx)) (fun p hp => World.cell?_of_block (hk9 p.block (by omega))) (Nat.le_refl _))
      have la := Ba.out.size
      clear hk9 x0 x1 x2 x3
      ((try dsimp only); refine nxK hK _ _ (⟨Xa.out.cell 0, Xa.out.cell 1⟩) ?_; clear hK K; (try simp only [Act.put, pS, pZ, pC]))
      generalize (u0.setCell ⟨w.heap.size, 0, none⟩ (.int .i64 xi)).setCell ⟨w.heap.size, 1, none⟩ (.slice Ax mx cx) = w9 at EQ Xa Ba Oa Na Ra la ⊢
      refine wpMix_nil ?_
      have z0 : w9.cell? ⟨w.heap.size, 0, none⟩ = some (.int .i64 xi) := EQ.out.cell 0
      have z1 : w9.cell? ⟨w.heap.size, 1, none⟩ = some (.slice Ax mx cx) := EQ.out.cell 1
      go_wp2_with fail
      refine bodyPost_ret (v := .tuple #[.slice A3 k c3, .agg #[.int .i64 xi, .slice Ax mx cx]]) (by simp [results, Tryz.results120, go_sem, z0, z1]) rfl ⟨A3, c3, Ax, mx, cx, by rw [HXI.out], RdB.of_own Oa.out (Na.out.cells la) (Nat.le_refl _) (own_le Oa.out), Ra.out.more la, HXC.out, Ba.out⟩
end Go.Proofs.YtjjnbbkdjimcoaaGreat

namespace Go.Proofs.YtjjnbbkdjimcoaaGreat
set_option linter.unusedSimpArgs false
set_option linter.unusedVariables false
open Go Go.RowKit
attribute [local go_sem ↓] Go.wp_at_zero Go.wp_at_succ

end Go.Proofs.YtjjnbbkdjimcoaaGreat

namespace Go.Proofs.YtjjnbbkdjimcoaaGreat
set_option linter.unusedSimpArgs false
set_option linter.unusedVariables false
open Go Go.RowKit
attribute [local go_sem ↓] Go.wp_at_zero Go.wp_at_succ

end Go.Proofs.YtjjnbbkdjimcoaaGreat

namespace Go.Proofs.YtjjnbbkdjimcoaaGreat
set_option linter.unusedSimpArgs false
set_option linter.unusedVariables false
open Go Go.RowKit
attribute [local go_sem ↓] Go.wp_at_zero Go.wp_at_succ

end Go.Proofs.YtjjnbbkdjimcoaaGreat

namespace Go.Proofs.YtjjnbbkdjimcoaaGreat
set_option linter.unusedSimpArgs false
set_option linter.unusedVariables false
open Go Go.RowKit
attribute [local go_sem ↓] Go.wp_at_zero Go.wp_at_succ

/-! ### Plain facts -/
theorem bins_sizes {room : List Int} {bs : List (List Tk)} (hok : binsOk room bs = true) : bs.length ≤ 14 ∧ room.length = 3 ∧ (∀ j, j < bs.length → (bs[j]?.getD []).length ≤ 14 ∧ ∀ t ∈ bs[j]?.getD [], vecOk t.2 = true) ∧ ∀ t ∈ bs.flatten, vecOk t.2 = true := by
  obtain ⟨b1, b2, b3⟩ := binsOk_iff.1 hok
  have h3 : room.length = 3 := by
    simp only [tasksOk, roomOk, Bool.and_eq_true] at b2
    exact vecOk_len b2.1.1.1.1
  have hfl := tasksOk_len b2
  have hv : ∀ t ∈ bs.flatten, vecOk t.2 = true := fun t ht => tasksOk_vec (t := t) b2 ht
  refine ⟨b1, h3, fun j hj => ⟨?_, fun t ht => hv t ?_⟩, hv⟩
  · have := (bin_sub (bs := bs) (i := j) hj).length_le; omega
  · exact (bin_sub (bs := bs) (i := j) hj).mem ht
theorem bins_lens {room : List Int} {bs : List (List Tk)} (hok : binsOk room bs = true) : ∀ j, j < bs.length → (bs[j]?.getD []).length ≤ 1048576 ∧ ∀ a, a < (bs[j]?.getD []).length → ((bs[j]?.getD [])[a]?.getD (0, [])).2.length ≤ 1048576 := fun j hj => by
  obtain ⟨_, _, h, _⟩ := bins_sizes hok
  obtain ⟨h1, h2⟩ := h j hj
  refine ⟨by omega, fun a ha => ?_⟩
  have := vecOk_len (h2 _ (tk_mem ha))
  omega
theorem taken_mem {bs : List (List Tk)} {id : Int} (h : 0 ≤ whereP bs id) : takenP bs id ∈ bs.flatten := by
  rcases whereP_cases bs id with ⟨h1, _⟩ | ⟨k, hk, _, hh, _⟩
  · omega
  · unfold hasP at hh
    rw [List.any_eq_true] at hh
    obtain ⟨t, ht, he⟩ := hh
    have hin : t ∈ bs.flatten := by
      rw [List.getElem?_eq_getElem hk, Option.getD_some] at ht
      exact List.mem_flatten.2 ⟨_, List.getElem_mem hk, ht⟩
    unfold takenP
    cases hl : (bs.flatten.filter (fun t => t.1 == id)).getLast? with
    | none =>
      rw [List.getLast?_eq_none_iff] at hl
      have : t ∈ bs.flatten.filter (fun t => t.1 == id) := List.mem_filter.2 ⟨hin, he⟩
      rw [hl] at this; simp at this
    | some u => exact (List.mem_filter.1 (List.mem_of_getLast? hl)).1
/-- The cells of moves. -/
def MvC (vs : List Value) (ms : List (Int × Int)) : Prop := vs.length = ms.length * 2 ∧ ∀ j, j < ms.length → vs[j * 2]? = some (.int .i64 (ms[j]?.getD (0, 0)).1) ∧ vs[j * 2 + 1]? = some (.int .i64 (ms[j]?.getD (0, 0)).2)
theorem MvC.nil : MvC [] [] := ⟨rfl, fun j hj => by simp at hj⟩
theorem MvC.snoc {vs : List Value} {ms : List (Int × Int)} (h : MvC vs ms) (a b : Int) : MvC (vs ++ [.int .i64 a, .int .i64 b]) (ms ++ [(a, b)]) := by
  have h1 := h.1
  refine ⟨by simp [h1]; omega, fun j hj => ?_⟩
  rw [List.length_append, List.length_singleton] at hj
  by_cases e : j = ms.length
  · subst e
    rw [List.getElem?_append_right (by omega), List.getElem?_append_right (by omega), List.getElem?_append_right (by omega), h1, Nat.sub_self, Nat.sub_self, show ms.length * 2 + 1 - ms.length * 2 = 1 by omega]
    exact ⟨rfl, rfl⟩
  · rw [List.getElem?_append_left (by omega), List.getElem?_append_left (by omega), List.getElem?_append_left (by omega)]
    exact h.2 j (by omega)
/-- A slice of moves. -/
def RdM (w : World) (B : Nat) (A : Option Addr) (n : Nat) (ms : List (Int × Int)) : Prop :=
  ms.length = n ∧ (0 < n → ∃ b o, A = some ⟨b, o, none⟩ ∧ b < B ∧ ∀ j, j < n → w.cell? ⟨b, o + j * 2, none⟩ = some (.int .i64 (ms[j]?.getD (0, 0)).1) ∧ w.cell? ⟨b, o + j * 2 + 1, none⟩ = some (.int .i64 (ms[j]?.getD (0, 0)).2))
theorem RdM.up {w w' : World} {A : Option Addr} {n : Nat} {ms : List (Int × Int)} (h : RdM w w.heap.size A n ms) (hb : Below w.heap.size w w') : RdM w' w'.heap.size A n ms := ⟨h.1, fun hn => by
  obtain ⟨b, o, e, hl, hc⟩ := h.2 hn
  have := hb.size
  exact ⟨b, o, e, by omega, fun j hj => ⟨(hb.cell (p := ⟨b, o + j * 2, none⟩) hl).trans (hc j hj).1, (hb.cell (p := ⟨b, o + j * 2 + 1, none⟩) hl).trans (hc j hj).2⟩⟩⟩
section
variable {w w' : World} {base base' n c : Nat} {v : Value} {A : Option Addr} {bs : List (List Tk)}
theorem OwnBR.low (h : OwnBR w base v n bs) (hb : base' ≤ base) : OwnBR w base' v n bs := by
  obtain ⟨vs, h1, h2⟩ := h
  exact ⟨vs, own_lo h1 hb, h2.low hb⟩
theorem OwnBR.up (h : OwnBR w base v n bs) (hb : Below w.heap.size w w') : OwnBR w' base v n bs := by
  obtain ⟨vs, h1, h2⟩ := h
  exact ⟨vs, own_up' h1 hb, h2.keepTI (KeepTI.up hb)⟩
theorem OwnBR.grown {r : Value} {s m : Nat} {t : TypeId} {xs : List Value} (h : OwnBR w base v n bs) (ho : w.ownsRow base' t s r m xs) (hg : w.grownBy w' r.ownBlock) (h1 : t ≠ 3) (h2 : t ≠ 43) (h3 : t ≠ 27) : OwnBR w' base v n bs := by
  obtain ⟨vs, k1, k2⟩ := h
  exact ⟨vs, own_keepB k1 (fun b cs _ hc => hg.block b hc.lt (fun e => own_blk_ne ho hc h3 e.symm)), k2.keepTI (KeepTI.grown ho hg h1 h2)⟩
theorem OwnBR.len (h : OwnBR w base v n bs) : bs.length = n := by
  obtain ⟨vs, k1, k2⟩ := h
  exact k2.1
theorem OwnBR.cap (h : OwnBR w base (.slice A n c) n bs) : n ≤ c := by
  obtain ⟨vs, k1, k2⟩ := h
  exact own_cap' k1
/-- Nodes that read below the start, or that are the call's own. -/
def NowB (w : World) (base : Nat) (A : Option Addr) (n c : Nat) (bs : List (List Tk)) : Prop := n ≤ c ∧ (RdB w base A n bs ∨ OwnBR w base (.slice A n c) n bs)
theorem NowB.rd (h : NowB w base A n c bs) (hb : base ≤ w.heap.size) : RdB w w.heap.size A n bs := by
  rcases h.2 with h | h
  · exact h.more hb
  · exact h.rd
theorem NowB.up (h : NowB w base A n c bs) (hb : Below w.heap.size w w') (hz : base ≤ w.heap.size) : NowB w' base A n c bs := ⟨h.1, by
  rcases h.2 with h | h
  · exact .inl (h.below (hb.mono hz))
  · exact .inr (h.up hb)⟩
theorem NowB.grown {r : Value} {s m : Nat} {t : TypeId} {xs : List Value} (h : NowB w base A n c bs) (ho : w.ownsRow base t s r m xs) (hg : w.grownBy w' r.ownBlock) (hz : base ≤ w.heap.size) (h1 : t ≠ 3) (h2 : t ≠ 43) (h3 : t ≠ 27) : NowB w' base A n c bs := ⟨h.1, by
  rcases h.2 with h | h
  · exact .inl (h.keep (fun p hp => World.cell?_of_block (hg.block p.block (by omega) (fun e => by have := (ho.lt _ e.symm).1; omega))) (Nat.le_refl _))
  · exact .inr (h.grown ho hg h1 h2 h3)⟩
end

/-! ### l15Can -/
/-! ### l15Do -/
/-! ### GatherPlan -/
theorem plan_len {room : List Int} : ∀ (q : Nat) (bs : List (List Tk)), (planP room q bs).length ≤ q
  | 0, _ => Nat.le_refl _
  | q + 1, bs => by
    unfold planP
    cases nextP room bs with
    | none => simp
    | some m => have := plan_len (room := room) q (doP bs m); simp only [List.length_cons]; omega

/-! ### MovesDo -/
end Go.Proofs.YtjjnbbkdjimcoaaGreat
