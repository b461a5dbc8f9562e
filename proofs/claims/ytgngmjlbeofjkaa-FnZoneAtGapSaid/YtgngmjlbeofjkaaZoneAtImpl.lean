/- Walk: the program's ZoneAt. -/
import Derived.Test.YtgngmjlbeofjkaaRoomIter
import Derived.Test.YtgngmjlbeofjkaaRoundRead
import Derived.Test.YtgngmjlbeofjkaaImplZone
namespace Go.Proofs.Ytgngmjlbeofjkaa
open Go Go.RowKit Go.Shelf
attribute [local go_sem] Oper.semAt_some

/-- The count of a node's zone. -/
def zcount (C zones : List Int) (i : Nat) : Int := C[(zones[i]?.getD 0).toNat]?.getD 0
/-- The better one of the best so far and a further node. -/
def bestStep (C zones : List Int) (best : Int) (i : Nat) : Int := if best < 0 ∨ zcount C zones i < zcount C zones best.toNat then (i : Int) else best
def bestP (C zones : List Int) (l : List Nat) : Int := l.foldl (bestStep C zones) (-1)
theorem bestP_snoc (C zones : List Int) (l : List Nat) (i : Nat) : bestP C zones (l ++ [i]) = bestStep C zones (bestP C zones l) i := by simp [bestP]
theorem bestP_bd (C zones : List Int) (n : Nat) : ∀ l : List Nat, (∀ i ∈ l, i < n) → -1 ≤ bestP C zones l ∧ bestP C zones l < n := by
  intro l
  suffices ∀ (l : List Nat) (b : Int), (∀ i ∈ l, i < n) → -1 ≤ b ∧ b < n → -1 ≤ l.foldl (bestStep C zones) b ∧ l.foldl (bestStep C zones) b < n from fun h => this l (-1) h ⟨by omega, by omega⟩
  intro l
  induction l with
  | nil => intro b _ h; exact h
  | cons i l ih =>
    intro b h hb
    rw [List.foldl_cons]
    refine ih _ (fun j hj => h j (List.mem_cons_of_mem _ hj)) ?_
    have := h i (by simp)
    unfold bestStep
    split <;> omega
/-- ZoneAt. -/
def zoneAtP (room : List Int) (bs : List (List Tk)) (zones ids : List Int) (t : Tk) : Int :=
  if zonesOk room bs zones ids = true ∧ comeOk room bs t = true then bestP (countsP bs zones ids) zones (roomsTo room bs t.2 bs.length) else -1

theorem comeOk_bins {room : List Int} {bs : List (List Tk)} {t : Tk} (h : comeOk room bs t = true) : binsOk room bs = true := by simp only [comeOk, Bool.and_eq_true] at h; exact h.1
theorem comeOk_need {room : List Int} {bs : List (List Tk)} {t : Tk} (h : comeOk room bs t = true) : vecOk t.2 = true := by
  simp only [comeOk, Bool.and_eq_true] at h
  exact taskOk_vec (tasksOk_mem h.2 (by simp))
theorem binsOk_room {room : List Int} {bs : List (List Tk)} (h : binsOk room bs = true) : room.length = 3 := vecOk_len (roomOk_vec (tasksOk_room' (binsOk_tasks h)))
theorem binsOk_bin {room : List Int} {bs : List (List Tk)} (h : binsOk room bs = true) {k : Nat} (hk : k < bs.length) : (bs[k]?.getD []).length ≤ 900 ∧ ∀ t ∈ bs[k]?.getD [], vecOk t.2 = true :=
  ⟨by have := bin_len hk; have := tasksOk_len (binsOk_tasks h); omega, fun t ht => tasksOk_vecs (binsOk_tasks h) t (bin_mem hk ht)⟩

set_option maxRecDepth 100000 in
set_option maxHeartbeats 1600000 in
theorem zoneAtI_any (A1 A2 A3 A4 A5 : Option Addr) (n1 c1 n2 c2 n3 c3 n4 c4 n5 c5 : Nat) (room zones ids : List Int) (bs : List (List Tk)) (id : Int) (xs : List Int) (w : World) (h1 : RdI w w.heap.size A1 n1 room) (h2 : RdB w w.heap.size A2 n2 bs)
    (h3 : RdI w w.heap.size A3 n3 zones) (h4 : RdI w w.heap.size A4 n4 ids) (h5 : RdI w w.heap.size A5 n5 xs) (hc5 : n5 ≤ c5) (hz : bs.flatten.length ≤ 1048576) :
    Calls Try.prog 33 #[.slice A1 n1 c1, .slice A2 n2 c2, .slice A3 n3 c3, .slice A4 n4 c4, .agg #[.int .i64 id, .slice A5 n5 c5]] w fun e w' => e = .returned (.int .i64 (zoneAtP room bs zones ids (id, xs))) ∧ Below w.heap.size w w' := by
  have l2 := Lib.hid h2.len
  have l3 := Lib.hid h3.len
  have l5 := Lib.hid h5.len
  have H1 := Lib.hid h1
  have H2 := Lib.hid h2
  have H3 := Lib.hid h3
  have H4 := Lib.hid h4
  have H5 := Lib.hid h5
  clear h1 h2 h3 h4 h5
  have B0 := Lib.hid (show Below w.heap.size w ((w.alloc (.cells #[.slice A3 n3 c3] 22)).alloc (.cells #[.int .i64 id, .slice A5 n5 c5] 46)) from ((Below.refl _ _).alloc (Nat.le_refl _) _).alloc (by simp) _)
  have P0 := Lib.hid (show Blk ((w.alloc (.cells #[.slice A3 n3 c3] 22)).alloc (.cells #[.int .i64 id, .slice A5 n5 c5] 46)) w.heap.size 22 #[.slice A3 n3 c3] from (Blk.new w _ _).alloc _)
  have P1 := Lib.hid (show Blk ((w.alloc (.cells #[.slice A3 n3 c3] 22)).alloc (.cells #[.int .i64 id, .slice A5 n5 c5] 46)) (w.heap.size + 1) 46 #[.int .i64 id, .slice A5 n5 c5] from by
    have := Blk.new (w.alloc (.cells #[.slice A3 n3 c3] 22)) 46 #[.int .i64 id, .slice A5 n5 c5]
    rwa [World.size_alloc] at this)
  refine calls_of_wp_marks Try.func33 rfl ?_
  simp only [Try.ntmps33, List.size_toArray, List.length_cons, List.length_nil, Nat.reduceAdd, Nat.reduceSub, Array.replicate_succ, Array.replicate_zero, List.push_toArray, List.append_toArray, List.nil_append, List.cons_append]
  go_wp2_with fail
  generalize (w.alloc (.cells #[.slice A3 n3 c3] 22)).alloc (.cells #[.int .i64 id, .slice A5 n5 c5] 46) = w0 at B0 P0 P1 ⊢
  have ecall := zonesValid_any A1 A2 A3 A4 n1 c1 n2 c2 n3 c3 n4 c4 room zones ids bs w0 (H1.out.up B0.out) (H2.out.up B0.out) (H3.out.up B0.out) (H4.out.up B0.out) (by omega)
  by_cases hz : zonesOk room bs zones ids = true
  · rw [hz] at ecall
    have HZ := Lib.hid hz
    refine ecall.mono ?_; rintro e w1 ⟨rfl, d1⟩
    have B1 := Lib.hid (below_to B0.out d1)
    have Q0 := Lib.hid (P0.out.below d1 P0.out.lt)
    have Q1 := Lib.hid (P1.out.below d1 P1.out.lt)
    have ecall2 := canCome_any A1 A2 A5 n1 c1 n2 c2 n5 c5 room bs id xs w1 (H1.out.up B1.out) (H2.out.up B1.out) (H5.out.up B1.out) hc5 (by omega)
    have x0 := Q1.out.cell 0
    have x1 := Q1.out.cell 1
    simp only [List.getElem?_toArray, List.getElem?_cons_zero, List.getElem?_cons_succ] at x0 x1
    clear ecall hz d1
    by_cases hcm : comeOk room bs (id, xs) = true
    · rw [hcm] at ecall2
      have HC := Lib.hid hcm
      have Ecall2 := Lib.hid ecall2
      clear ecall2 hcm
      go_wp2_with fail
      refine Ecall2.out.mono ?_; rintro e w2 ⟨rfl, d2⟩
      have B2 := Lib.hid (below_to B1.out d2)
      have R0 := Lib.hid (Q0.out.below d2 Q0.out.lt)
      have R1 := Lib.hid (Q1.out.below d2 Q1.out.lt)
      have y0 := R0.out.cell 0
      simp only [List.getElem?_toArray, List.getElem?_cons_zero] at y0
      clear d2 x0 x1
      go_wp2_with fail
      obtain ⟨c0, c1', c2', c3', HC4, hcall⟩ := countsOf_four A2 A3 A4 n2 c2 n3 c3 n4 c4 zones ids bs w2 (H2.out.up B2.out) (H3.out.up B2.out) (H4.out.up B2.out) (by have := zonesOk_len HZ.out; have := l2.out; have := l3.out; omega) (zonesOk_zone HZ.out)
      refine hcall.mono ?_; rintro e w3 ⟨rfl, d3⟩
      clear hcall y0
      have B3 := Lib.hid (below_to B2.out d3)
      have T1 := Lib.hid (R1.out.below d3 R1.out.lt)
      have T0 := Lib.hid (R0.out.below d3 R0.out.lt)
      have hC1 : Hid (Below w.heap.size w ((w3.alloc (.cells #[.int .i64 c0, .int .i64 c1', .int .i64 c2', .int .i64 c3'] 61)).alloc (.cells #[.int .i64 (-1)] 3))) := Lib.hid ((B3.out.alloc B3.out.size _).alloc (by have := B3.out.size; simp; omega) _)
      have U1 := Lib.hid (show Blk ((w3.alloc (.cells #[.int .i64 c0, .int .i64 c1', .int .i64 c2', .int .i64 c3'] 61)).alloc (.cells #[.int .i64 (-1)] 3)) (w.heap.size + 1) 46 #[.int .i64 id, .slice A5 n5 c5] from (T1.out.alloc _).alloc _)
      have U0 := Lib.hid (show Blk ((w3.alloc (.cells #[.int .i64 c0, .int .i64 c1', .int .i64 c2', .int .i64 c3'] 61)).alloc (.cells #[.int .i64 (-1)] 3)) w.heap.size 22 #[.slice A3 n3 c3] from (T0.out.alloc _).alloc _)
      have UC := Lib.hid (show Blk ((w3.alloc (.cells #[.int .i64 c0, .int .i64 c1', .int .i64 c2', .int .i64 c3'] 61)).alloc (.cells #[.int .i64 (-1)] 3)) w3.heap.size 61 #[.int .i64 c0, .int .i64 c1', .int .i64 c2', .int .i64 c3'] from (Blk.new w3 _ _).alloc _)
      have UB := Lib.hid (show Blk ((w3.alloc (.cells #[.int .i64 c0, .int .i64 c1', .int .i64 c2', .int .i64 c3'] 61)).alloc (.cells #[.int .i64 (-1)] 3)) (w3.heap.size + 1) 3 #[.int .i64 (-1)] from by
        have := Blk.new (w3.alloc (.cells #[.int .i64 c0, .int .i64 c1', .int .i64 c2', .int .i64 c3'] 61)) 3 #[.int .i64 (-1)]
        rwa [World.size_alloc] at this)
      have x0 := U1.out.cell 0
      have x1 := U1.out.cell 1
      simp only [List.getElem?_toArray, List.getElem?_cons_zero, List.getElem?_cons_succ] at x0 x1
      clear d3
      go_wp2_with fail
      have sz5 : ((w3.alloc (.cells #[.int .i64 c0, .int .i64 c1', .int .i64 c2', .int .i64 c3'] 61)).alloc (.cells #[.int .i64 (-1)] 3)).heap.size = w3.heap.size + 2 := by simp
      generalize (w3.alloc (.cells #[.int .i64 c0, .int .i64 c1', .int .i64 c2', .int .i64 c3'] 61)).alloc (.cells #[.int .i64 (-1)] 3) = w5 at hC1 U1 U0 UC UB x0 x1 sz5 ⊢
      have SZ5 := Lib.hid sz5
      clear sz5
      refine (withRoom_any A1 A2 A5 n1 c1 n2 c2 n5 c5 id w5).mono ?_; rintro e w6 ⟨rfl, hw6⟩
      clear x0 x1
      go_wp2_with fail
      have B6 : Below w5.heap.size w5 w6 := by rw [← hw6]; exact (((Below.refl _ _).alloc (Nat.le_refl _) _).alloc (by simp) _).alloc (by simp; omega) _
      have sz6 : w6.heap.size = w5.heap.size + 3 := by rw [← hw6]; simp
      have q1 : w6.cell? ⟨w5.heap.size, 0, none⟩ = some (.slice A1 n1 c1) := by rw [← hw6]; exact (((Blk.new w5 22 #[.slice A1 n1 c1]).alloc _).alloc _).cell 0
      have q2 : w6.cell? ⟨w5.heap.size + 1, 0, none⟩ = some (.slice A2 n2 c2) := by
        rw [← hw6]
        have := Blk.new (w5.alloc (.cells #[.slice A1 n1 c1] 22)) 27 #[.slice A2 n2 c2]
        rw [World.size_alloc] at this
        exact (this.alloc _).cell 0
      have q3 : Blk w6 (w5.heap.size + 2) 46 #[.int .i64 id, .slice A5 n5 c5] := by
        rw [← hw6]
        have := Blk.new ((w5.alloc (.cells #[.slice A1 n1 c1] 22)).alloc (.cells #[.slice A2 n2 c2] 27)) 46 #[.int .i64 id, .slice A5 n5 c5]
        rwa [World.size_alloc, World.size_alloc] at this
      have lw3 := B3.out.size
      have S5 := SZ5.out
      have BW6 := Lib.hid (below_to hC1.out B6)
      have e5 : n5 = 3 := by have := vecOk_len (show vecOk xs = true from comeOk_need HC.out); have := l5.out; omega
      subst e5
      have V0 := Lib.hid (U0.out.below B6 U0.out.lt)
      have VC := Lib.hid (UC.out.below B6 UC.out.lt)
      have VB := Lib.hid (UB.out.below B6 UB.out.lt)
      have BX := Lib.hid (show RoomBox w6 w.heap.size w6.heap.size (w3.heap.size + 1) (w5.heap.size + 1) w5.heap.size (w5.heap.size + 2) A1 n1 c1 A2 n2 c2 A5 c5 room bs id xs from
        ⟨q2, q1, q3.cell 0, q3.cell 1, ⟨by omega, by omega, by omega, by omega, by omega⟩, ⟨by omega, by omega, by omega⟩, H1.out.below BW6.out, H2.out.below BW6.out, H5.out.below BW6.out⟩)
      have HS := Lib.hid (withRoom1_stops 2 (by omega) w.heap.size w6.heap.size (w3.heap.size + 1) (w5.heap.size + 1) w5.heap.size (w5.heap.size + 2) A1 A2 A5 n1 c1 n2 c2 c5 room bs id xs w6 BX.out (Nat.le_refl _)
        (by have := binsOk_room (comeOk_bins HC.out); have := H1.out.len; omega) (fun k hk => binsOk_bin (comeOk_bins HC.out) (by have := l2.out; omega)) (fun j hj => by have := vecOk_bd (show vecOk xs = true from comeOk_need HC.out) j; omega))
      clear q1 q2 q3 hw6
      refine (wpIn_wide (n := 3)).1 ?_
      refine wpIn_rangeFunc_ownF rfl (by omega) (gf := 79) (lb := #[.pointer (some ⟨w5.heap.size + 1, 0, none⟩), .pointer (some ⟨w5.heap.size, 0, none⟩), .pointer (some ⟨w5.heap.size + 2, 0, none⟩)]) rfl trivial (enters_of Try.func79 (by kernel_rfl) rfl)
        HS.out (fun h k => KpG.trans h k) (fun W l o o' hl _ _ _ => KpG.put (Nat.le_refl _) W l o' hl) (Below.refl _ _) (fun _ => rfl)
        (fun (pre : List (IxV n2)) W => W.cell? ⟨w3.heap.size + 1, 0, none⟩ = some (.int .i64 (bestP [c0, c1', c2', c3'] zones (pre.map (·.1.1)))) ∧ W.frozen? ⟨w3.heap.size + 1, 0, none⟩ = false ∧ KpG w6.heap.size (w3.heap.size + 1) w6 W ∧ Below w.heap.size w W)
        (fun _ _ _ => False) ?hI (fun _ _ _ _ _ hs _ _ => hs) ?h0 ?a1 ?assign ?body ?done ?stop
      case hI =>
        rintro pre X Y row ⟨s1, s2, s3, s4⟩ hg hr
        have hlt : w3.heap.size + 1 < X.heap.size := by have := s3.1; omega
        have hne : ∀ b, b < w6.heap.size → some b ≠ row := fun b hb e => by have := (hr b e.symm).1; omega
        have hgk := hg.block (w3.heap.size + 1) hlt (hne _ (by omega))
        exact ⟨(World.cell?_of_block (a := ⟨w3.heap.size + 1, 0, none⟩) hgk).trans s1, (World.frozen?_of_block (a := ⟨w3.heap.size + 1, 0, none⟩) hgk).trans s2,
          ⟨Nat.le_trans s3.1 hg.size, fun b h1 h2 => (hg.block b (by have := s3.1; omega) (hne b h1)).trans (s3.2 b h1 h2)⟩,
          s4.grown hg (by have := s3.1; omega) (fun k e => by have := (hr k e).1; omega)⟩
      case h0 => exact ⟨VB.out.cell 0, VB.out.frozen 0, KpG.refl _ _ _, BW6.out⟩
      case assign =>
        intro l x W K hK
        gi_wp2
        exact hK
      case body =>
        rintro l pre ⟨⟨i, v⟩, hi⟩ W ⟨hc, hf, hkp, hbel⟩ _
        have hi : i < n2 := hi
        have hbd := bestP_bd [c0, c1', c2', c3'] zones n2 (pre.map (·.1.1)) (fun j hj => by obtain ⟨y, _, rfl⟩ := List.mem_map.1 hj; exact y.2)
        have hsn := Lib.hid (bestP_snoc [c0, c1', c2', c3'] zones (pre.map (·.1.1)) i)
        generalize bestP [c0, c1', c2', c3'] zones (pre.map (·.1.1)) = bst at hc hbd hsn
        have hz0 : W.cell? ⟨w.heap.size, 0, none⟩ = some (.slice A3 n3 c3) := (hkp.cell (p := ⟨w.heap.size, 0, none⟩) (by simp; omega) (by simp; omega)).trans (V0.out.cell 0)
        have hcnt := Lib.hid (show ∀ j, W.cell? ⟨w3.heap.size, j, none⟩ = w6.cell? ⟨w3.heap.size, j, none⟩ from fun j => hkp.cell (p := ⟨w3.heap.size, j, none⟩) (by simp; omega) (by simp))
        have hzn := Lib.hid (show n3 = n2 from by have := zonesOk_len HZ.out; have := l2.out; have := l3.out; omega)
        obtain ⟨b3, o3, rfl, hb3, hc3⟩ := (H3.out.below hbel).at_ (k := i) (by have := hzn.out; omega)
        have HBEL := Lib.hid hbel
        have HKP := Lib.hid hkp
        clear hkp hbel
        have k0 : (0 : Int) ≤ (i : Int) := by omega
        have k1 : (i : Int) < (n3 : Int) := by have := hzn.out; omega
        have gsz : w3.heap.size + 1 < W.heap.size := by have := HKP.out.1; omega
        have fin := Lib.hid (show ∀ u : Int, bestStep [c0, c1', c2', c3'] zones bst i = u → ∀ W', W' = (W.setCell ⟨w3.heap.size + 1, 0, none⟩ (.int .i64 u)).drew → KeepsOthers W W' ∧ KpG w6.heap.size (w3.heap.size + 1) W W' ∧
            W'.cell? ⟨w3.heap.size + 1, 0, none⟩ = some (.int .i64 (bestP [c0, c1', c2', c3'] zones ((pre ++ [(⟨(i, v), hi⟩ : IxV n2)]).map (fun y => y.1.1)))) ∧ W'.frozen? ⟨w3.heap.size + 1, 0, none⟩ = false ∧ KpG w6.heap.size (w3.heap.size + 1) w6 W' ∧ Below w.heap.size w W' from fun u hu W' hW' => by
          subst hW'
          have kk : KpG w6.heap.size (w3.heap.size + 1) W (W.setCell ⟨w3.heap.size + 1, 0, none⟩ (.int .i64 u)).drew := ⟨by simp [World.setCell], fun b h1 h2 => Below.heap_setCell W _ _ b h2⟩
          refine ⟨⟨(KeepsOthers.setCell W _ _).size, (KeepsOthers.setCell W _ _).same⟩, kk, ?_, by show (W.setCell _ _).frozen? _ = false; rw [World.frozen?_setCell]; exact hf, HKP.out.trans kk, (HBEL.out.setCell (by simp; omega) _).drew⟩
          rw [List.map_append, List.map_cons, List.map_nil, hsn.out, hu]
          exact World.cell?_setCell_same' _ _ _ (by rw [hc]; rfl))
        have same := Lib.hid (show bestStep [c0, c1', c2', c3'] zones bst i = bst → KeepsOthers W W.drew ∧ KpG w6.heap.size (w3.heap.size + 1) W W.drew ∧
            W.drew.cell? ⟨w3.heap.size + 1, 0, none⟩ = some (.int .i64 (bestP [c0, c1', c2', c3'] zones ((pre ++ [(⟨(i, v), hi⟩ : IxV n2)]).map (fun y => y.1.1)))) ∧ W.drew.frozen? ⟨w3.heap.size + 1, 0, none⟩ = false ∧ KpG w6.heap.size (w3.heap.size + 1) w6 W.drew ∧ Below w.heap.size w W.drew from fun hu => by
          refine ⟨⟨Nat.le_refl _, fun _ _ h _ => h⟩, KpG.refl _ _ _, ?_, hf, HKP.out, HBEL.out.drew⟩
          rw [List.map_append, List.map_cons, List.map_nil, hsn.out, hu]
          exact hc)
        by_cases hb0 : bst < 0
        · have hstep := Lib.hid (show bestStep [c0, c1', c2', c3'] zones bst i = (i : Int) from if_pos (.inl hb0))
          have hb1 : decide (bst < 0) = true := decide_eq_true hb0
          gi_wp2
          refine wpIn_region_reads (by kernel_rfl) (by kernel_rfl) (by kernel_rfl) ?_
          repeat (first | (refine wpRead_skip (by rfl) ?_; (try simp only [Act.put, List.setIfInBounds_toArray, List.set_cons_zero, List.set_cons_succ])) | (refine wpRead_take (v := ?_) (by rfl) ?_ ?_; rotate_left; (focus ((go_simp <;> with_reducible rfl); done)); (try simp only [Act.put, List.setIfInBounds_toArray, List.set_cons_zero, List.set_cons_succ])))
          refine wpRead_nil ?_
          gi_wp2
          exact fin.out _ hstep.out _ rfl
        · obtain ⟨bn, rfl⟩ := Int.eq_ofNat_of_zero_le (Int.not_lt.1 hb0)
          have hbn : bn < n2 := by omega
          obtain ⟨b4, o4, hA4, hb4, hc4⟩ := (H3.out.below HBEL.out).at_ (k := bn) (by have := hzn.out; omega)
          injection hA4 with hA4
          injection hA4 with e1 e2
          subst e1 e2
          obtain ⟨zi, hzi⟩ := Int.eq_ofNat_of_zero_le (zonesOk_zone HZ.out i).1
          obtain ⟨zb, hzb⟩ := Int.eq_ofNat_of_zero_le (zonesOk_zone HZ.out bn).1
          have zi3 : zi ≤ 3 := by have := (zonesOk_zone HZ.out i).2; omega
          have zb3 : zb ≤ 3 := by have := (zonesOk_zone HZ.out bn).2; omega
          have hci := (hcnt.out zi).trans (counts4_cell rfl VC.out zi3)
          have hcb := (hcnt.out zb).trans (counts4_cell rfl VC.out zb3)
          have hst := Lib.hid (show ∀ p q, [c0, c1', c2', c3'][zi]?.getD 0 = p → [c0, c1', c2', c3'][zb]?.getD 0 = q → bestStep [c0, c1', c2', c3'] zones (bn : Int) i = if p < q then (i : Int) else (bn : Int) from fun p q hp hq => by
            unfold bestStep zcount
            rw [hzi, Int.toNat_natCast, Int.toNat_natCast, hzb, Int.toNat_natCast, hp, hq]
            by_cases hpq : p < q
            · rw [if_pos (.inr hpq), if_pos hpq]
            · rw [if_neg (by omega), if_neg hpq])
          rw [hzi] at hc3
          rw [hzb] at hc4
          have Hst := Lib.hid (hst.out _ _ rfl rfl)
          clear hst hzi hzb
          generalize [c0, c1', c2', c3'][zi]?.getD 0 = p at hci Hst
          generalize [c0, c1', c2', c3'][zb]?.getD 0 = q at hcb Hst
          have m0 : (0 : Int) ≤ (bn : Int) := by omega
          have m1 : (bn : Int) < (n3 : Int) := by have := hzn.out; omega
          have m2 : (0 : Int) ≤ (zi : Int) := by omega
          have m3 : (zi : Int) < 4 := by omega
          have m4 : (0 : Int) ≤ (zb : Int) := by omega
          have m5 : (zb : Int) < 4 := by omega
          have m6 : decide ((bn : Int) < 0) = false := by simp
          clear hbd
          by_cases hpq : p < q
          · have hstep := Lib.hid (Hst.out.trans (if_pos hpq))
            have hpq1 : decide (p < q) = true := decide_eq_true hpq
            gi_wp2
            refine wpIn_region_reads (by kernel_rfl) (by kernel_rfl) (by kernel_rfl) ?_
            repeat (first | (refine wpRead_skip (by rfl) ?_; (try simp only [Act.put, List.setIfInBounds_toArray, List.set_cons_zero, List.set_cons_succ])) | (refine wpRead_take (v := ?_) (by rfl) ?_ ?_; rotate_left; (focus ((go_simp <;> with_reducible rfl); done)); (try simp only [Act.put, List.setIfInBounds_toArray, List.set_cons_zero, List.set_cons_succ])))
            refine wpRead_nil ?_
            gi_wp2
            exact fin.out _ hstep.out _ rfl
          · have hstep := Lib.hid (Hst.out.trans (if_neg hpq))
            have hpq1 : decide (p < q) = false := decide_eq_false hpq
            gi_wp2
            refine wpIn_region_reads (by kernel_rfl) (by kernel_rfl) (by kernel_rfl) ?_
            repeat (first | (refine wpRead_skip (by rfl) ?_; (try simp only [Act.put, List.setIfInBounds_toArray, List.set_cons_zero, List.set_cons_succ])) | (refine wpRead_take (v := ?_) (by rfl) ?_ ?_; rotate_left; (focus ((go_simp <;> with_reducible rfl); done)); (try simp only [Act.put, List.setIfInBounds_toArray, List.set_cons_zero, List.set_cons_succ])))
            refine wpRead_nil ?_
            gi_wp2
            exact same.out hstep.out
      case done =>
        rintro D ys W hD hys ⟨s1, _, _, s4⟩ hKD
        have hys : ys.map (·.1.1) = roomsTo room bs xs n2 := hys
        rw [hys] at s1
        have s5 := Lib.hid s4
        clear s4
        go_wp2
        refine markPost_ret (v := .int .i64 (bestP [c0, c1', c2', c3'] zones (roomsTo room bs xs n2))) hKD (by simp [results, Try.results33, go_sem]) ⟨ret_int ?_, s5.out.trans (belowK_b (w := w) (Nat.le_refl _) W D _ _ (by have := BW6.out.size; omega) hKD rfl rfl)⟩
        rw [zoneAtP, if_pos ⟨HZ.out, HC.out⟩, ← HC4.out, l2.out]
      case stop =>
        rintro D c pre W _ _ h _
        exact h.elim
    · have hcm : comeOk room bs (id, xs) = false := by simpa using hcm
      rw [hcm] at ecall2
      have HC := Lib.hid hcm
      have Ecall2 := Lib.hid ecall2
      clear ecall2 hcm
      go_wp2_with fail
      refine Ecall2.out.mono ?_; rintro e w2 ⟨rfl, d2⟩
      have B2 := Lib.hid (below_to B1.out d2)
      clear d2
      go_wp2
      exact plainPost_ret (v := .int .i64 (-1)) (by simp [results, Try.results33, go_sem]) ⟨ret_int (by rw [zoneAtP, if_neg (by rw [HC.out]; simp)]), B2.out⟩
  · have hz : zonesOk room bs zones ids = false := by simpa using hz
    rw [hz] at ecall
    have HZ := Lib.hid hz
    refine ecall.mono ?_; rintro e w1 ⟨rfl, d1⟩
    have B1 := Lib.hid (below_to B0.out d1)
    clear ecall hz d1
    go_wp2
    exact plainPost_ret (v := .int .i64 (-1)) (by simp [results, Try.results33, go_sem]) ⟨ret_int (by rw [zoneAtP, if_neg (by rw [HZ.out]; simp)]), B1.out⟩
end Go.Proofs.Ytgngmjlbeofjkaa
