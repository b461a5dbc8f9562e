/- Several texts in one. -/
import Derived.Test.YtlcgbnmmbheleaaGreatVD
import Derived.Test.YtlcgbnmmbheleaaGreatVE
namespace Go.Proofs.YtlcgbnmmbheleaaGreat
set_option linter.unusedSimpArgs false
set_option linter.unusedVariables false
open Go Go.RowKit
attribute [local go_sem ↓] Go.wp_at_zero Go.wp_at_succ

set_option maxRecDepth 100000 in
set_option maxHeartbeats 1600000 in
theorem copyTasks_any (A : Option Addr) (n c : Nat) (ts : List Tk) (w : World) (h : RdT w w.heap.size A n ts) (hn : n ≤ 1000) (hm : ∀ j, j < n → (ts[j]?.getD (0, [])).2.length ≤ 1048576) :
    Calls Tryz.prog 116 #[.slice A n c] w fun e w' => ∃ A' c', e = .returned (.slice A' n c') ∧ OwnTs w' w.heap.size (.slice A' n c') n ts ∧ Below w.heap.size w w' := by
  obtain ⟨i0, hi0, hz0, hz1, hz2⟩ := info_parts task_info
  have hl := qh h.len
  have H := qh h
  have Hm := qh hm
  clear h hm
  have hmk := fun W : World => run_make (P := Tryz.prog) W 30 40 i0 _ Tryz.underlying30 hi0 hz0 .i64 .i64 0 n (by omega) (by omega) (by rw [hz2]; omega) (by omega)
  simp only [Int.toNat_natCast, Int.toNat_zero, hz1] at hmk
  have hcells : (madeCells (Value.agg #[.int .i64 0, .slice none 0 0]).cells (n * 2)).size = n * 2 := size_madeCells _ _
  generalize madeCells (Value.agg #[.int .i64 0, .slice none 0 0]).cells (n * 2) = mc at hmk hcells
  have O0 := qh (World.ownsRow_made (base := w.heap.size) (e := 40) (size := 2) w mc n (Nat.le_refl _) (by unfold maxLen; omega) hcells)
  have B0 := qh (alloc_up w (.cells mc 40))
  clear hcells
  go_enter Tryz.func116, Tryz.ntmps116
  go_wp2_with fail
  generalize w.alloc (.cells mc 40) = w0 at O0 B0 ⊢
  go_loopw [3, 11] (fun v i wr => ∃ (k : Nat) (A0 : Option Addr) (c0 : Nat) (vs : List Value) (nd : Nat → Value), i = .int .i64 k ∧ k ≤ n ∧ v = .slice A0 k c0 ∧ Below w.heap.size w wr ∧
    wr.ownsRow w.heap.size 40 2 (.slice A0 k c0) k vs ∧ NdTs wr w.heap.size k vs nd (ts.take k)) (fun _ i _ => n - (intOf i).toNat)
  case atStart => exact ⟨0, _, _, [], _, rfl, Nat.zero_le _, rfl, B0.out, O0.out, NdTs.nil⟩
  case round =>
    clear O0 B0
    obtain ⟨k, A0, c0, vs, nd, rfl, hk, rfl, hbel, hown, hnd⟩ := hrel
    by_cases hlt : k < n
    · obtain ⟨b1, o1, A3', m3, c3', rfl, lb1, hc1, hc3, hle3, hr3⟩ := (H.out.below hbel).at_ hlt
      have k1 : (0 : Int) ≤ (k : Int) := by omega
      have k2 : (k : Int) < (n : Int) := by omega
      have k3 : 0 ≤ (k : Int) * 2 := by omega
      have hkl : k < ts.length := by have := hl.out; omega
      have Hs := qh (show ts.take (k + 1) = ts.take k ++ [((ts[k]?.getD (0, [])).1, (ts[k]?.getD (0, [])).2)] from by rw [List.take_succ_eq_append_getElem hkl, List.getElem?_eq_getElem hkl]; rfl)
      have em : m3 ≤ 1048576 := by have := Hm.out k hlt; have := hr3.len; omega
      have lzr := hbel.size
      have hal := alloc_up wr (.cells #[.int .i64 (ts[k]?.getD (0, [])).1, .slice A3' m3 c3'] 40)
      have Hbel := qh (hbel.alloc lzr (.cells #[.int .i64 (ts[k]?.getD (0, [])).1, .slice A3' m3 c3'] 40))
      have Hown := qh (own_keep hown (w' := wr.alloc (.cells #[.int .i64 (ts[k]?.getD (0, [])).1, .slice A3' m3 c3'] 40)) (fun b hb => Below.heap_alloc _ _ _ (hown.lt b hb).2))
      have Hnd := qh (hnd.keep (w' := wr.alloc (.cells #[.int .i64 (ts[k]?.getD (0, [])).1, .slice A3' m3 c3'] 40)) (fun b _ hlt => Below.heap_alloc _ _ _ hlt))
      have Hr3 := qh ((hr3.more lzr).up hal)
      have Px := qh (Blk.new wr 40 #[.int .i64 (ts[k]?.getD (0, [])).1, .slice A3' m3 c3'])
      have lz : w.heap.size ≤ (wr.alloc (.cells #[.int .i64 (ts[k]?.getD (0, [])).1, .slice A3' m3 c3'] 40)).heap.size := by rw [World.size_alloc]; omega
      clear hal hbel hown hnd hr3
      generalize (ts[k]?.getD (0, [])).1 = idk at *
      generalize (ts[k]?.getD (0, [])).2 = xk at *
      have p0 := Px.out.cell 0
      have p1 := Px.out.cell 1
      simp only [gT, gZ, gS] at p0 p1
      go_wp2_with fail
      clear hc1 hc3
      generalize wr.heap.size = gx at Px p0 p1 ⊢
      generalize wr.alloc (.cells #[.int .i64 idk, .slice A3' m3 c3'] 40) = W3 at Hbel Hown Hnd Hr3 Px lz p0 p1 ⊢
      refine (copyOf_any A3' m3 c3' idk xk W3 Hr3.out em).mono ?_; rintro e w4 ⟨A4', c4', rfl, hx4, hb4⟩
      have Ho4 := qh (own_keep Hown.out (fun b hb => hb4.block b (Hown.out.lt b hb).2))
      have Hn4 := qh (Hnd.out.keep (w' := w4) (fun b _ hlt => hb4.block b hlt))
      have sz4 := hb4.size
      have Ho5 := qh (own_keep Ho4.out (w' := w4.alloc (.cells #[.int .i64 idk, .slice A4' m3 c4'] 40)) (fun b hb => Below.heap_alloc _ _ _ (Ho4.out.lt b hb).2))
      have Hx5 := qh (own_keep hx4 (w' := w4.alloc (.cells #[.int .i64 idk, .slice A4' m3 c4'] 40)) (fun b hb => Below.heap_alloc _ _ _ (hx4.lt b hb).2))
      have Hn5 := qh ((Hn4.out.keep (w' := w4.alloc (.cells #[.int .i64 idk, .slice A4' m3 c4'] 40)) (fun b _ hlt => Below.heap_alloc _ _ _ hlt)).snoc (w0 := W3) (id := idk) Ho4.out.1 Hnd.out.old Hx5.out lz)
      have Hs5 := qh (lit2 w4 40 (.int .i64 idk) (.slice A4' m3 c4'))
      have lz5 : w.heap.size ≤ (w4.alloc (.cells #[.int .i64 idk, .slice A4' m3 c4'] 40)).heap.size := by rw [World.size_alloc]; omega
      have Hb5 := qh (((Hbel.out.trans (hb4.mono lz))).alloc (by omega) (.cells #[.int .i64 idk, .slice A4' m3 c4'] 40))
      clear hx4 hb4 p0 p1
      go_wp2_with (at_builtin; refine wpList_append_src _ rfl _ _ 30 rfl w.heap.size 40 i0 _ 2 32 Tryz.underlying30 hi0 hz0 hz1 hz2 rfl (by omega) (.slice A0 k c0) k vs rfl Ho5.out (some ⟨w4.heap.size, 0, none⟩) 1 1 [.int .i64 idk, .slice A4' m3 c4'] rfl Hs5.out (by simp [Value.oneCell']) (by unfold maxLen; omega) (by omega) lz5 ?_; intro v' w6 hown6 hgrow6 hat6)
      have Hn6 := qh (Hn5.out.grown Ho5.out hgrow6)
      have Hb6 := qh (Hb5.out.grown hgrow6 lz5 (fun j e => (Ho5.out.lt j e).1))
      obtain ⟨A6, c6, rfl⟩ := own_shape hown6
      have Ho6 := qh hown6
      clear hown6 hgrow6 hat6 Ho4 Hn4 Ho5 Hx5 Hn5 Hs5 Hb5
      go_wp2_with fail
      go_roundw
      case measure => simp [intOf]; omega
      case rel => exact ⟨k + 1, A6, c6, _, _, by go_num, by omega, rfl, Hb6.out, Ho6.out, by rw [Hs.out]; exact Hn6.out⟩
    · obtain rfl : k = n := by omega
      have Hbel := qh hbel
      have Hown := qh hown
      have Hnd := qh hnd
      clear hbel hown hnd
      go_wp2_with fail
      go_ret
      have hnn := Hnd.out
      rw [List.take_of_length_le (by have := hl.out; omega)] at hnn
      exact ⟨A0, c0, rfl, ⟨vs, nd, Hown.out, hnn⟩, Hbel.out⟩

set_option maxRecDepth 100000 in
set_option maxHeartbeats 3200000 in
theorem copyOfC_any (A1 A2 : Option Addr) (n1 c1 n2 c2 : Nat) (room : List Int) (us : List Un) (w : World) (h : RdC w A1 A2 n1 n2 room us) (hs : ShU us) (hn1 : n1 ≤ 1048576) :
    Calls Tryz.prog 96 #[.agg #[.slice A1 n1 c1, .slice A2 n2 c2]] w fun e w' => ∃ A3 c3 A4 c4, e = .returned (.agg #[.slice A3 n1 c3, .slice A4 n2 c4]) ∧ OwnC w' w.heap.size (.slice A3 n1 c3) (.slice A4 n2 c4) n1 n2 room us ∧ Below w.heap.size w w' := by
  obtain ⟨ui0, hu0, huz0, huz1, huz2⟩ := info_parts unit_info
  have hl := qh h.b.len
  have Hsh := qh hs
  have ln : n2 ≤ 1000 := by have := h.b.len; have := hs.1; omega
  -- the argument's box, the result's cells
  have sz : (w.alloc (.cells #[.slice A1 n1 c1, .slice A2 n2 c2] 26)).heap.size = w.heap.size + 1 := World.size_alloc _ _
  have hZ := Blk.new (w.alloc (.cells #[.slice A1 n1 c1, .slice A2 n2 c2] 26)) 26 #[.slice none 0 0, .slice none 0 0]
  rw [sz] at hZ
  have B1 := qh ((alloc_up w (.cells #[.slice A1 n1 c1, .slice A2 n2 c2] 26)).alloc (by rw [sz]; omega) (.cells #[.slice none 0 0, .slice none 0 0] 26))
  have P1 := qh ((Blk.new w 26 #[.slice A1 n1 c1, .slice A2 n2 c2]).alloc (.cells #[.slice none 0 0, .slice none 0 0] 26))
  have Z1 := qh hZ
  have H1 := qh (h.up B1.out)
  clear h hs hZ sz
  go_enter Tryz.func96, Tryz.ntmps96
  have x0 := P1.out.cell 0
  simp only [gT, gZ] at x0
  go_wp2_with fail
  clear x0
  generalize hgb : w.heap.size = gb at P1 Z1 ⊢
  generalize (w.alloc (.cells #[.slice A1 n1 c1, .slice A2 n2 c2] 26)).alloc (.cells #[.slice none 0 0, .slice none 0 0] 26) = w1 at B1 P1 Z1 H1 ⊢
  refine (clone_any A1 n1 c1 room w1 H1.out.a hn1).mono ?_; rintro e w2 ⟨A3, c3, rfl, hown, hb2⟩
  have B2 := qh (below_to B1.out hb2)
  have Z2 := qh (Z1.out.below hb2 Z1.out.lt)
  have P2 := qh (P1.out.below hb2 P1.out.lt)
  have N2 := qh (H1.out.b.up hb2)
  have O2 := qh (own_lo hown B1.out.size)
  have Lo := qh (fun b hb => (hown.lt b hb).2)
  have l12 : w1.heap.size ≤ w2.heap.size := hb2.size
  have lz1 : gb + 1 < w1.heap.size := Z1.out.lt
  have sz : (w2.alloc (.cells #[.slice A3 n1 c3, .slice none 0 0] 26)).heap.size = w2.heap.size + 1 := World.size_alloc _ _
  have hb3 := alloc_up w2 (.cells #[.slice A3 n1 c3, .slice none 0 0] 26)
  have B3 := qh (below_to B2.out hb3)
  have Z3 := qh (Z2.out.alloc (.cells #[.slice A3 n1 c3, .slice none 0 0] 26))
  have P3 := qh (P2.out.alloc (.cells #[.slice A3 n1 c3, .slice none 0 0] 26))
  have C3 := qh (Blk.new w2 26 #[.slice A3 n1 c3, .slice none 0 0])
  have N3 := qh (N2.out.below hb3)
  have O3 := qh (own_alloc O2.out (.cells #[.slice A3 n1 c3, .slice none 0 0] 26))
  have y1 := P3.out.cell 1
  simp only [gT, gZ, gS] at y1
  clear hown hb2 hb3 B1 P1 Z1 H1 B2 Z2 P2 N2 O2
  go_wp2_with fail
  clear y1
  have lg3 : gb + 1 < w2.heap.size := by omega
  generalize hmd : w2.heap.size = md at C3 Lo sz lg3 N3 ⊢
  have lwd : w.heap.size ≤ md := by omega
  generalize w2.alloc (.cells #[.slice A3 n1 c3, .slice none 0 0] 26) = w3 at B3 Z3 C3 N3 O3 sz ⊢
  clear P3 hmd l12 lz1
  go_loopw [13] (fun i wr => ∃ (k : Nat) (A6 : Option Addr) (c6 : Nat) (vs : List Value) (tk : Nat → Value) (f : Nat → Nat), i = .int .i64 k ∧ k ≤ n2 ∧ Below w.heap.size w wr ∧ Blk wr (gb + 1) 26 #[.slice none 0 0, .slice none 0 0] ∧
    Blk wr md 26 #[.slice A3 n1 c3, .slice A6 k c6] ∧ wr.ownsRow w.heap.size 3 1 (.slice A3 n1 c3) n1 (room.map (Value.int .i64)) ∧ wr.ownsRow md 32 2 (.slice A6 k c6) k vs ∧ NdUs wr k vs tk f (us.take k) ∧ md ≤ f 0 ∧ f k ≤ wr.heap.size ∧ Below md w3 wr) (fun i _ => n2 - (intOf i).toNat)
  case atStart => exact ⟨0, none, 0, [], _, _, rfl, Nat.zero_le _, B3.out, Z3.out, C3.out, O3.out, ⟨rfl, .inl ⟨rfl, rfl⟩⟩, NdUs.nil md, Nat.le_refl _, by omega, Below.refl _ _⟩
  case round =>
    clear B3 Z3 C3 O3
    obtain ⟨k, A6, c6, vs, tk, f, rfl, hk, hbel, hzb, hcl, hrm, hun, hnd, hmd, hfk, hup⟩ := hrel
    have Hvl := qh (show vs.length = k * 2 from hun.1)
    by_cases hlt : k < n2
    · have k1 : (0 : Int) ≤ (k : Int) := by omega
      have k2 : (k : Int) < (n2 : Int) := by omega
      have k3 : 0 ≤ (k : Int) * 2 := by omega
      have hkl : Hid (k < us.length) := by have := hl.out; show _ < _; omega
      have Hs := qh (un_succ hkl.out)
      obtain ⟨b, o, A', m1, c', rfl, lb, hc1, hc2, hmc, hrd⟩ := (N3.out.below hup).at_ hlt
      have hu := Hsh.out.2 _ (un_mem hkl.out)
      have hm1 : m1 ≤ 1000 := by have := hrd.len; have := hu.1; omega
      have Hml := qh (fun j (hj : j < m1) => show ((us[k]?.getD (false, [])).2[j]?.getD (0, [])).2.length ≤ 1048576 from by
        have := hu.2 _ (tk_mem (show j < (us[k]?.getD (false, [])).2.length by rw [hrd.len]; exact hj)); omega)
      have lup : md ≤ wr.heap.size := by have := hup.size; omega
      clear hu
      generalize (us[k]?.getD (false, [])).1 = op at *
      generalize (us[k]?.getD (false, [])).2 = ts at *
      have lzr := hbel.size
      have szu : (wr.alloc (.cells #[.bool op, .slice A' m1 c'] 32)).heap.size = wr.heap.size + 1 := World.size_alloc _ _
      have hba := alloc_up wr (.cells #[.bool op, .slice A' m1 c'] 32)
      have HB0 := qh ((hbel.alloc lzr (.cells #[.bool op, .slice A' m1 c'] 32)).drew)
      have HZ0 := qh ((hzb.alloc (.cells #[.bool op, .slice A' m1 c'] 32)).drew)
      have HC0 := qh ((hcl.alloc (.cells #[.bool op, .slice A' m1 c'] 32)).drew)
      have HM0 := qh (World.ownsRow.drew (own_alloc hrm (.cells #[.bool op, .slice A' m1 c'] 32)))
      have HU0 := qh (World.ownsRow.drew (own_alloc hun (.cells #[.bool op, .slice A' m1 c'] 32)))
      have HN0 := qh ((hnd.keepTI (KeepTI.up hba)).keepTI (KeepTI.drew _))
      have HX0 := qh ((Blk.new wr 32 #[.bool op, .slice A' m1 c']).drew)
      have HRt := qh (((hrd.more lup).up hba).up ((Below.refl _ _).drew))
      have HUp0 := qh ((hup.alloc lup (.cells #[.bool op, .slice A' m1 c'] 32)).drew)
      have lfd : f k ≤ (wr.alloc (.cells #[.bool op, .slice A' m1 c'] 32)).drew.heap.size := by show f k ≤ (wr.alloc (.cells #[.bool op, .slice A' m1 c'] 32)).heap.size; omega
      have lmz : md ≤ (wr.alloc (.cells #[.bool op, .slice A' m1 c'] 32)).drew.heap.size := by have := hnd.mono 0 k (by omega) (by omega); show md ≤ (wr.alloc (.cells #[.bool op, .slice A' m1 c'] 32)).heap.size; omega
      have lmr : md < wr.heap.size := hcl.lt
      have Hne := qh (show (Value.slice A6 k c6).ownBlock ≠ some wr.heap.size from fun e => by have := (hun.lt _ e).2; omega)
      clear hbel hzb hcl hrm hun hnd hrd hup hba szu
      have lzr2 : wr.heap.size < (wr.alloc (.cells #[.bool op, .slice A' m1 c'] 32)).drew.heap.size := HX0.out.lt
      go_wp2_with fail
      clear hc1 hc2
      generalize wr.heap.size = g5 at HX0 lmr lzr2 Hne ⊢
      generalize wr.alloc (.cells #[.bool op, .slice A' m1 c'] 32) = wq at HB0 HZ0 HC0 HM0 HU0 HN0 HX0 HRt HUp0 lfd lmz lzr2 ⊢
      refine wp_region_mixL (.take 0 (.take 2 (.take 4 (.take 1 (.take 3 (.take 5 (.bar 6 (.take 7 (.bar 8 (.bar 9 (.take 10 (.last 11 .nil)))))))))))) [11] (fun w' => w'.cell? ⟨md, 1, none⟩ = some (.slice A6 k c6) ∧ w'.cell? ⟨g5, 0, none⟩ = some (.bool op) ∧ w'.cell? ⟨g5, 1, none⟩ = some (.slice A' m1 c')) (by kernel_rfl) (by kernel_rfl) ⟨HC0.out.cell 1, HX0.out.cell 0, HX0.out.cell 1⟩ (fun _ => ?_)
      generalize wq.drew = u0 at HB0 HZ0 HC0 HM0 HU0 HN0 HX0 HRt HUp0 lfd lmz lzr2 ⊢
      repeat ((first | refine lxS (by rfl) (by rfl) ?_ | (refine lxT (v := ?_) (by rfl) (by rfl) (fun z y => ?_) ?_; rotate_left; (focus ((try dsimp only at y); (go_simp <;> with_reducible rfl); done)))); (try simp only [Act.put,pS,pZ,pC]))
      (refine lxB (by rfl) (fun K hK => ?_); go_simp)
      refine (copyTasks_any A' m1 c' ts u0 HRt.out hm1 Hml.out).mono ?_; rintro e u1 ⟨At, ct, rfl, hts, hb1⟩
      have HB1 := qh (below_to HB0.out hb1)
      have HUp1 := qh (HUp0.out.trans (hb1.mono lmz))
      have HZ1 := qh (HZ0.out.below hb1 HZ0.out.lt)
      have HC1 := qh (HC0.out.below hb1 HC0.out.lt)
      have HX1 := qh (HX0.out.below hb1 HX0.out.lt)
      have HU1 := qh (own_up' HU0.out hb1)
      have HM1 := qh (own_up' HM0.out hb1)
      have HN1 := qh (HN0.out.keepTI (KeepTI.up hb1))
      have HT1 := qh hts
      have lu1 := hb1.size
      clear hts hb1
      ((try dsimp only); refine nxK hK _ _ (⟨HC1.out.cell 1, HX1.out.cell 0, HX1.out.cell 1⟩) ?_; clear hK K; (try simp only [Act.put,pS,pZ,pC]))
      repeat ((first | refine lxS (by rfl) (by rfl) ?_ | (refine lxT (v := ?_) (by rfl) (by rfl) (fun z y => ?_) ?_; rotate_left; (focus ((try dsimp only at y); (go_simp <;> with_reducible rfl); done)))); (try simp only [Act.put,pS,pZ,pC]))
      have HB2 := qh (HB1.out.alloc HB1.out.size (.cells #[.bool op, .slice At m1 ct] 32))
      have HUp2 := qh (HUp1.out.alloc (by omega) (.cells #[.bool op, .slice At m1 ct] 32))
      have HZ2 := qh (HZ1.out.alloc (.cells #[.bool op, .slice At m1 ct] 32))
      have HC2 := qh (HC1.out.alloc (.cells #[.bool op, .slice At m1 ct] 32))
      have HX2 := qh (HX1.out.alloc (.cells #[.bool op, .slice At m1 ct] 32))
      have HU2 := qh (own_alloc HU1.out (.cells #[.bool op, .slice At m1 ct] 32))
      have X2 := qh (lit2 u1 32 (.bool op) (.slice At m1 ct))
      have K2 := qh (KeepTI.up (alloc_up u1 (.cells #[.bool op, .slice At m1 ct] 32)))
      have lu2 : u1.heap.size ≤ (u1.alloc (.cells #[.bool op, .slice At m1 ct] 32)).heap.size := by rw [World.size_alloc]; omega
      have lw1 := HB1.out.size
      (refine lxB (by rfl) (fun K hK => ?_); go_simp)
      ((try dsimp only); refine nxK hK _ _ (⟨HC2.out.cell 1, HX2.out.cell 0, HX2.out.cell 1⟩) ?_; clear hK K; (try simp only [Act.put,pS,pZ,pC]))
      generalize hgx : u1.heap.size = gx at X2 ⊢
      rw [hgx] at lu1 lu2 lw1
      generalize u1.alloc (.cells #[.bool op, .slice At m1 ct] 32) = u2 at HB2 HUp2 HZ2 HC2 HX2 HU2 X2 K2 lu2 ⊢
      refine lxB (by rfl) (fun K hK => ?_)
      rw [if_pos (by rfl)]
      refine wp_append_src _ _ _ 24 (by rfl) md 32 ui0 _ 2 32 Tryz.underlying24 hu0 huz0 huz1 huz2 rfl (by omega) (.slice A6 k c6) k vs (by rfl) HU2.out (some ⟨gx, 0, none⟩) 1 1 [.bool op, .slice At m1 ct] (by rfl) X2.out (one2 _ _ rfl rfl) (by unfold maxLen; omega) (by omega) (by omega) ?_
      intro v6 u3 hown6 hgrow6 hrow6
      obtain ⟨A8, c8, rfl⟩ := own_shape hown6
      have HB3 := qh (HB2.out.grown hgrow6 (by omega) (fun r e => by have := (HU2.out.lt r e).1; omega))
      have HUp3 := qh (HUp2.out.grown hgrow6 (by omega) (fun r e => (HU2.out.lt r e).1))
      have HZ3 := qh (HZ2.out.grown hgrow6 (fun e => own_blk_ne HU2.out HZ2.out (by decide) e.symm))
      have HC3 := qh (HC2.out.grown hgrow6 (fun e => own_blk_ne HU2.out HC2.out (by decide) e.symm))
      have HX3 := qh (HX2.out.grown hgrow6 (fun e => Hne.out e.symm))
      have K3 := qh (K2.out.trans (KeepTI.grown HU2.out hgrow6 (by decide) (by decide)))
      have HU3 := qh hown6
      have lu3 := hgrow6.size
      have f3 := HC3.out.frozen 1
      have q3 := HC3.out.cell 1
      simp only [gT, gZ, gS] at q3
      clear hown6 hgrow6 hrow6 HB2 HUp2 HZ2 HC2 HX2 HU2 X2 K2
      ((try dsimp only); refine nxK hK _ _ (⟨HC3.out.cell 1, HX3.out.cell 0, HX3.out.cell 1⟩) ?_; clear hK K; (try simp only [Act.put,pS,pZ,pC]))
      repeat ((first | refine lxS (by rfl) (by rfl) ?_ | (refine lxT (v := ?_) (by rfl) (by rfl) (fun z y => ?_) ?_; rotate_left; (focus ((try dsimp only at y); (go_simp <;> with_reducible rfl); done)))); (try simp only [Act.put,pS,pZ,pC]))
      (refine wpMixL_last (by rfl) (fun K hK => ?_); go_simp)
      ((try dsimp only); refine hK.out _ _ ?_; clear hK K; (try simp only [Act.put,pS,pZ,pC]))
      refine wpMixL_nil ?_
      clear f3 q3
      have KT := qh (K3.out.trans (KeepTI.set_ HC3.out (by decide) (by decide) 1 (.slice A8 (k + 1) c8)))
      have HB4 := qh (HB3.out.setCell (p := ⟨md, 1, none⟩) (by show w.heap.size ≤ md; omega) (.slice A8 (k + 1) c8))
      have HZ4 := qh (HZ3.out.far (p := ⟨md, 1, none⟩) (by show gb + 1 ≠ md; omega) (.slice A8 (k + 1) c8))
      have HC4 := qh (show Blk (u3.setCell ⟨md, 1, none⟩ (.slice A8 (k + 1) c8)) md 26 #[.slice A3 n1 c3, .slice A8 (k + 1) c8] from HC3.out.set_ 1 (.slice A8 (k + 1) c8))
      have HU4 := qh (own_keep HU3.out (w' := u3.setCell ⟨md, 1, none⟩ (.slice A8 (k + 1) c8)) (fun b hb => Below.heap_setCell _ _ _ _ (fun e => own_blk_ne HU3.out HC3.out (by decide) (by rw [hb, e]))))
      have HUp4 := qh (HUp3.out.setCell (p := ⟨md, 1, none⟩) (Nat.le_refl _) (.slice A8 (k + 1) c8))
      have sz4 : gx ≤ (u3.setCell ⟨md, 1, none⟩ (.slice A8 (k + 1) c8)).heap.size := by simp only [World.setCell, Array.size_modify]; omega
      have hx := ((OwnTs.toB HT1.out).wide (show f k ≤ u0.heap.size by omega) (Nat.le_refl _)).keep (fun b _ _ hb => KT.out b hb)
      have hns := (HN1.out.keepTI KT.out).snoc (op := op) (by have := Hvl.out; omega) hx (by omega)
      rw [hgx] at hns
      have HN4 := qh hns
      have HM4 := qh (own_keepTI HM1.out (.inl rfl) KT.out)
      clear hx hns KT K3 HB3 HZ3 HC3 HU3
      go_wp2_with fail
      go_roundw
      case measure => simp [intOf]; omega
      case rel => exact ⟨k + 1, A8, c8, _, _, _, by go_num, by omega, HB4.out, HZ4.out, HC4.out, HM4.out, HU4.out, by rw [Hs.out]; exact HN4.out, by show md ≤ (if 0 = k + 1 then _ else f 0); rw [if_neg (by omega)]; omega, by show (if k + 1 = k + 1 then gx else _) ≤ _; rw [if_pos rfl]; exact sz4, HUp4.out⟩
    · obtain rfl : k = n2 := by omega
      have Hb := qh hbel
      have Hz := qh hzb
      have Hm := qh hrm
      have Hu := qh hun
      have Hn := qh hnd
      have Hmd := qh hmd
      have q0 := hcl.cell 0
      have q1 := hcl.cell 1
      have x0 := hzb.cell 0
      have x1 := hzb.cell 1
      simp only [gT, gZ, gS] at q0 q1 x0 x1
      have x2 := hzb.frozen 0
      have x3 := hzb.frozen 1
      clear hbel hzb hcl hrm hun hnd hmd hup
      go_wp2_with fail
      have KT := qh ((KeepTI.set_ Hz.out (by decide) (by decide) 0 (.slice A3 n1 c3)).trans (KeepTI.set_ (Hz.out.set_ 0 (.slice A3 n1 c3)) (by decide) (by decide) 1 (.slice A6 k c6)))
      have EQ := qh ((Hz.out.set_ 0 (.slice A3 n1 c3)).set_ 1 (.slice A6 k c6))
      have U9 := qh (own_keep Hu.out (w' := (wr.setCell ⟨gb + 1, 0, none⟩ (.slice A3 n1 c3)).setCell ⟨gb + 1, 1, none⟩ (.slice A6 k c6)) (fun b hb => have hbb : b ≠ gb + 1 := fun e => own_blk_ne Hu.out Hz.out (by decide) (by rw [hb, e])
        (Below.heap_setCell _ _ _ b hbb).trans (Below.heap_setCell _ _ _ b hbb)))
      have B9 := qh ((Hb.out.setCell (p := ⟨gb + 1, 0, none⟩) (by show w.heap.size ≤ gb + 1; omega) (.slice A3 n1 c3)).setCell (p := ⟨gb + 1, 1, none⟩) (by show w.heap.size ≤ gb + 1; omega) (.slice A6 k c6))
      generalize (wr.setCell ⟨gb + 1, 0, none⟩ (.slice A3 n1 c3)).setCell ⟨gb + 1, 1, none⟩ (.slice A6 k c6) = w9 at KT EQ U9 B9 ⊢
      have z0 : w9.cell? ⟨gb + 1, 0, none⟩ = some (.slice A3 n1 c3) := EQ.out.cell 0
      have z1 : w9.cell? ⟨gb + 1, 1, none⟩ = some (.slice A6 k c6) := EQ.out.cell 1
      have hus : us.take k = us := List.take_of_length_le (by rw [hl.out]; exact Nat.le_refl _)
      have Hn9 := Hn.out.keepTI KT.out
      rw [hus] at Hn9
      refine bodyPost_ret (v := .agg #[.slice A3 n1 c3, .slice A6 k c6]) (by simp [results, Tryz.results96, go_sem, z0, z1]) rfl ⟨A3, c3, A6, c6, rfl, ⟨own_keepTI Hm.out (.inl rfl) KT.out, md, Lo.out, lwd, vs, tk, f, U9.out, Hn9, Hmd.out⟩, B9.out⟩

theorem field_units {A A' : Option Addr} {n c n' c' : Nat} (W : World) : (Instr.field 26 (.agg #[.slice A n c, .slice A' n' c']) 1).run Tryz.prog W = .ok (.slice A' n' c') W := by kernel_rfl
def zs20 : List Value := [.bool false, .slice none 0 0, .bool false, .slice none 0 0, .bool false, .slice none 0 0, .bool false, .slice none 0 0, .bool false, .slice none 0 0, .bool false, .slice none 0 0, .bool false, .slice none 0 0, .bool false, .slice none 0 0, .bool false, .slice none 0 0, .bool false, .slice none 0 0]
theorem NdUR.ones {w : World} {base n : Nat} {vs : List Value} {tk : Nat → Value} {us : List Un} (h : NdUR w base n vs tk us) : ∀ u ∈ vs, u.oneCell' = true := by
  intro u hu
  obtain ⟨i, hi, rfl⟩ := List.getElem_of_mem hu
  have hl := h.2.1
  obtain ⟨h1, h2, A, m, c, vt, h3, _⟩ := h.2.2.1 (i / 2) (by omega)
  rcases Nat.mod_two_eq_zero_or_one i with e | e
  · rw [show i / 2 * 2 = i from by omega, List.getElem?_eq_getElem hi] at h1
    injection h1 with h1; rw [h1]; rfl
  · rw [show i / 2 * 2 + 1 = i from by omega, List.getElem?_eq_getElem hi, h3] at h2
    injection h2 with h2; rw [h2]; rfl

set_option maxRecDepth 100000 in
set_option maxHeartbeats 3200000 in
theorem hostOf_any (A1 A2 : Option Addr) (n1 c1 n2 c2 : Nat) (room : List Int) (us : List Un) (w : World) (h : RdC w A1 A2 n1 n2 room us) (hok : clOk room us = true) :
    Calls Tryz.prog 54 #[.agg #[.slice A1 n1 c1, .slice A2 n2 c2]] w fun e w' => ∃ hb A3 c3, e = .returned (.pointer (some ⟨hb, 0, none⟩)) ∧ HostR w' w.heap.size hb 0 A3 n1 c3 n2 room us ∧ Below w.heap.size w w' := by
  obtain ⟨f1, f2, f3, f4⟩ := clOk_facts hok
  have hl1 := h.a.len
  have hl2 := h.b.len
  have Hn1 := qh (show n1 = 3 by omega)
  have ln1 : n1 ≤ 1000 := by omega
  have ln2 : 1 ≤ n2 ∧ n2 ≤ 10 := by omega
  have hsh : ShU us := ⟨by omega, fun u hu => ⟨by have := (f4 u hu).1; omega, fun t ht => by have := (f4 u hu).2 t ht; omega⟩⟩
  have Hsh := qh hsh
  have B1 := qh (alloc_up w (.cells #[.slice A1 n1 c1, .slice A2 n2 c2] 26))
  have P1 := qh (Blk.new w 26 #[.slice A1 n1 c1, .slice A2 n2 c2])
  have H1 := qh (h.up B1.out)
  clear h hok f1 f2 f3 f4 hl1 hl2 hsh
  go_enter Tryz.func54, Tryz.ntmps54
  go_wp2_with fail
  generalize hgb : w.heap.size = gb at P1 ⊢
  generalize w.alloc (.cells #[.slice A1 n1 c1, .slice A2 n2 c2] 26) = w1 at B1 P1 H1 ⊢
  have lg := P1.out.lt
  refine wp_region_mixL (.take 0 (.take 3 (.take 1 (.take 4 (.take 5 (.bar 2 (.take 6 (.bar 7 (.take 8 .nil))))))))) [] (fun w' => w'.cell? ⟨gb, 0, none⟩ = some (.slice A1 n1 c1) ∧ w'.cell? ⟨gb, 1, none⟩ = some (.slice A2 n2 c2)) (by kernel_rfl) (by kernel_rfl) ⟨P1.out.cell 0, P1.out.cell 1⟩ (fun _ => ?_)
  repeat ((first | refine lxS (by rfl) (by rfl) ?_ | (refine lxT (v := ?_) (by rfl) (by rfl) (fun z y => ?_) ?_; rotate_left; (focus ((try dsimp only at y); (go_simp <;> with_reducible rfl); done)))); (try simp only [Act.put,pS,pZ,pC]))
  (refine lxB (by rfl) (fun K hK => ?_); go_simp)
  refine (clone_any A1 n1 c1 room w1.drew (H1.out.a.drewN 1) (by omega)).mono ?_; rintro e w2 ⟨A3, c3, rfl, hown, hb2⟩
  have up2 := (Below.refl w1.heap.size w1).drew.trans hb2
  have B2 := qh (below_to B1.out up2)
  have P2 := qh (P1.out.below up2 P1.out.lt)
  have H2 := qh (H1.out.up up2)
  have O2 := qh (own_lo hown B1.out.size)
  ((try dsimp only); refine nxK hK _ _ (⟨P2.out.cell 0, P2.out.cell 1⟩) ?_; clear hK K; (try simp only [Act.put,pS,pZ,pC]))
  clear hown hb2 up2
  repeat ((first | refine lxS (by rfl) (by rfl) ?_ | (refine lxT (v := ?_) (by rfl) (by rfl) (fun z y => ?_) ?_; rotate_left; (focus ((try dsimp only at y); (go_simp <;> with_reducible rfl); done)))); (try simp only [Act.put,pS,pZ,pC]))
  (refine lxB (by rfl) (fun K hK => ?_); go_simp)
  have hb3 := alloc_up w2 (.cells (hostC 0 A3 n1 c3 n2 zs20) 97)
  have B3 := qh (below_to B2.out hb3)
  have P3 := qh (P2.out.below hb3 P2.out.lt)
  have H3 := qh (H2.out.up hb3)
  have O3 := qh (own_alloc O2.out (.cells (hostC 0 A3 n1 c3 n2 zs20) 97))
  have C3 := qh (Blk.new w2 97 (hostC 0 A3 n1 c3 n2 zs20))
  clear hb3 B2 H2 O2
  ((try dsimp only); refine nxK hK _ _ (⟨P3.out.cell 0, P3.out.cell 1⟩) ?_; clear hK K; (try simp only [Act.put,pS,pZ,pC]))
  change wpMixL _ _ _ _ _ _ (w2.alloc (.cells (hostC 0 A3 n1 c3 n2 zs20) 97))
  have l23 : gb < w2.heap.size := P2.out.lt
  have lw2 : w.heap.size ≤ w2.heap.size := by omega
  generalize hgh : w2.heap.size = hb at C3 l23 lw2 ⊢
  generalize w2.alloc (.cells (hostC 0 A3 n1 c3 n2 zs20) 97) = w3 at B3 P3 H3 O3 C3 ⊢
  clear P2 P1 H1 B1 hgh
  repeat ((first | refine lxS (by rfl) (by rfl) ?_ | (refine lxT (v := ?_) (by rfl) (by rfl) (fun z y => ?_) ?_; rotate_left; (focus ((try dsimp only at y); (go_simp <;> with_reducible rfl); done)))); (try simp only [Act.put,pS,pZ,pC]))
  refine wpMixL_nil ?_
  have lh3 := C3.out.lt
  go_wp2_with fail
  refine wp_region_mixL (.take 0 (.take 1 (.take 2 (.take 3 (.take 4 (.bar 5 (.take 6 (.bar 7 .nil)))))))) [] (fun w' => w'.cell? ⟨gb, 0, none⟩ = some (.slice A1 n1 c1) ∧ w'.cell? ⟨gb, 1, none⟩ = some (.slice A2 n2 c2)) (by kernel_rfl) (by kernel_rfl) ⟨P3.out.cell 0, P3.out.cell 1⟩ (fun _ => ?_)
  repeat ((first | refine lxS (by rfl) (by rfl) ?_ | (refine lxT (v := ?_) (by rfl) (by rfl) (fun z y => ?_) ?_; rotate_left; (focus ((try dsimp only at y); (go_simp <;> with_reducible rfl); done)))); (try simp only [Act.put,pS,pZ,pC]))
  (refine lxB (by rfl) (fun K hK => ?_); go_simp)
  refine (copyOfC_any A1 A2 n1 c1 n2 c2 room us w3.drew (H3.out.up (Below.refl _ _).drew) Hsh.out (by omega)).mono ?_; rintro e w4 ⟨A5, c5, A4, c4, rfl, hoc, hb4⟩
  have up4 := (Below.refl w3.heap.size w3).drew.trans hb4
  have B4 := qh (below_to B3.out up4)
  have P4 := qh (P3.out.below up4 P3.out.lt)
  have C4 := qh (C3.out.below up4 C3.out.lt)
  have O4 := qh (own_up' O3.out up4)
  obtain ⟨_, vs, tk, hu, hnd⟩ := ((OwnCR.of hoc).low B3.out.size)
  have Hu := qh hu
  have Hnd := qh hnd
  clear hoc hb4 up4 hu hnd B3 H3 O3
  ((try dsimp only); refine nxK hK _ _ (⟨P4.out.cell 0, P4.out.cell 1⟩) ?_; clear hK K; (try simp only [Act.put,pS,pZ,pC]))
  have hfld := fun W : World => field_units (A := A5) (n := n1) (c := c5) (A' := A4) (n' := n2) (c' := c4) W
  repeat ((first | refine lxS (by rfl) (by rfl) ?_ | (refine lxT (v := ?_) (by rfl) (by rfl) (fun z y => ?_) ?_; rotate_left; (focus ((try dsimp only at y); (go_simp <;> with_reducible rfl); done)))); (try simp only [Act.put,pS,pZ,pC]))
  have hvl : vs.length = n2 * 2 := Hnd.out.2.1
  obtain ⟨g4, cur4, rfl, _, _⟩ := own_row Hu.out (by omega)
  have hmin : Nat.min n2 10 = n2 := Nat.min_eq_left (by omega)
  refine lxB (by rfl) (fun K hK => ?_)
  refine step_copy_rowS (by rfl) (.tmp 15) (.tmp 18) 24 24 (by rfl) 32 2 Tryz.underlying24 unit_size hb 4 10 10 ⟨g4, 0, none⟩ n2 c4 (by rfl) (by rfl) (Value.int .i32 0 :: Value.int .u32 0 :: Value.slice A3 n1 c3 :: Value.int .i64 (n2 : Int) :: zs20) 97
    C4.out vs (by rw [hmin]; exact hvl) (Hu.out.cells (g := g4) rfl) (by rw [hvl]; show 4 + n2 * 2 ≤ 24; omega) (NdUR.ones Hnd.out) ?_
  intro w5 hg5 hoth hbel
  rw [hmin]
  have B5 := qh (hbel w.heap.size w lw2 B4.out)
  have KT := qh (show KeepTI w4 w5 from fun b hti => hoth b (hti.ne C4.out (by decide) (by decide)))
  have C5 := qh (show Blk w5 hb 97 (hostC 0 A3 n1 c3 n2 (vs ++ zs20.drop (n2 * 2))) from by
    have := hg5.out
    unfold splice at this
    rw [hvl] at this
    unfold Blk hostC
    rw [show 4 + n2 * 2 = n2 * 2 + 1 + 1 + 1 + 1 by omega] at this
    exact this)
  have P5 := qh ((hoth gb (by omega)).trans P4.out)
  have X5 := qh (show HostX w5 w.heap.size hb 0 A3 n1 c3 n2 room us vs (zs20.drop (n2 * 2)) tk from ⟨C5.out, lw2, own_keepTI O4.out (.inl rfl) KT.out, Hnd.out.keepTI KT.out, by omega⟩)
  clear hg5 hoth hbel
  have P5' := qh (show Blk w5 gb 26 #[.slice A1 n1 c1, .slice A2 n2 c2] from P5.out)
  ((try dsimp only); refine nxK hK _ _ (⟨P5'.out.cell 0, P5'.out.cell 1⟩) ?_; clear hK K; (try simp only [Act.put,pS,pZ,pC]))
  refine wpMixL_nil ?_
  go_wp2_with fail
  go_ret
  exact ⟨hb, A3, c3, rfl, ⟨vs, _, tk, X5.out⟩, B5.out⟩
end Go.Proofs.YtlcgbnmmbheleaaGreat

namespace Go.Proofs.YtlcgbnmmbheleaaGreat
set_option linter.unusedSimpArgs false
set_option linter.unusedVariables false
open Go Go.RowKit Go.MuLone
attribute [local go_sem ↓] Go.wp_at_zero Go.wp_at_succ

section
variable {w : World} {p : Addr} {l : Int} {v : Value} {B n : Nat} {A : Option Addr}
theorem cell_i32 (hp : w.cell? p = some (.int .i32 l)) {q : Addr} {u : Value} (hq : w.cell? q = some u) (hu : ∀ x, u ≠ .int .i32 x) : (w.setCell p v).cell? q = some u := by
  rw [World.cell?_setCell_other _ _ _ _ (fun e => by subst e; rw [hp] at hq; injection hq with hq; exact hu l hq.symm)]
  exact hq
theorem RdI.lock {xs : List Int} (h : RdI w B A n xs) (hp : w.cell? p = some (.int .i32 l)) : RdI (w.setCell p v) B A n xs :=
  ⟨h.1, h.2.1, fun hn => by
    obtain ⟨b, o, e, hb, hc⟩ := h.2.2 hn
    exact ⟨b, o, e, hb, fun j hj => cell_i32 hp (hc j hj) (fun x e => by cases e)⟩⟩
theorem RdT.lock {ts : List Tk} (h : RdT w B A n ts) (hp : w.cell? p = some (.int .i32 l)) : RdT (w.setCell p v) B A n ts :=
  ⟨h.1, h.2.1, fun hn => by
    obtain ⟨b, o, e, hb, hc⟩ := h.2.2 hn
    refine ⟨b, o, e, hb, fun j hj => ?_⟩
    obtain ⟨A', m, c, h1, h2, h3, h4⟩ := hc j hj
    exact ⟨A', m, c, cell_i32 hp h1 (fun x e => by cases e), cell_i32 hp h2 (fun x e => by cases e), h3, h4.lock hp⟩⟩
theorem RdN.lock {us : List Un} (h : RdN w B A n us) (hp : w.cell? p = some (.int .i32 l)) : RdN (w.setCell p v) B A n us :=
  ⟨h.1, h.2.1, fun hn => by
    obtain ⟨b, o, e, hb, hc⟩ := h.2.2 hn
    refine ⟨b, o, e, hb, fun j hj => ?_⟩
    obtain ⟨A', m, c, h1, h2, h3, h4⟩ := hc j hj
    exact ⟨A', m, c, cell_i32 hp h1 (fun x e => by cases e), cell_i32 hp h2 (fun x e => by cases e), h3, h4.lock hp⟩⟩
theorem HostV.lockV {hb n1 c1 : Nat} {A1 : Option Addr} {room : List Int} {us : List Un} (h : HostV w hb A1 n1 c1 n room us) (hp : w.cell? p = some (.int .i32 l)) : HostV (w.setCell p v) hb A1 n1 c1 n room us :=
  ⟨cell_i32 hp h.c2 (fun x e => by cases e), cell_i32 hp h.c3 (fun x e => by cases e), by simpa [World.setCell] using h.lt, by
    have := h.rm.lock (v := v) hp
    simpa [World.setCell] using this, by
    have := h.un.lock (v := v) hp
    simpa [World.setCell] using this⟩
end

end Go.Proofs.YtlcgbnmmbheleaaGreat
