/- Walks: the first node with room (firstOf, FirstAt). -/
import Derived.Test.YtgngmjlbeofjkaaRoomIter
import Derived.Test.YtgngmjlbeofjkaaRoundRead
import Derived.Test.YtgngmjlbeofjkaaAtPure
namespace Go.Proofs.Ytgngmjlbeofjkaa
open Go Go.RowKit Go.Shelf
attribute [local go_sem] Oper.semAt_some

/-- The first node with room, or -1. -/
def firstP (room : List Int) (bs : List (List Tk)) (xs : List Int) : Int := match (roomsTo room bs xs bs.length).head? with | some i => (i : Int) | none => -1
def firstAtP (room : List Int) (bs : List (List Tk)) (t : Tk) : Int := if comeOk room bs t = true then firstP room bs t.2 else -1
theorem rooms_head {room : List Int} {bs : List (List Tk)} {xs : List Int} {k i : Nat} (hk : k + 1 ≤ bs.length) (h : roomsTo room bs xs (k + 1) = [i]) : firstP room bs xs = (i : Int) := by
  have e : roomsTo room bs xs bs.length = [i] ++ ((List.range' (k + 1) (bs.length - (k + 1))).filter (roomB room bs xs)) := by
    rw [← h]
    unfold roomsTo
    have e2 := List.range'_append_1 (s := 0) (m := k + 1) (n := bs.length - (k + 1))
    rw [Nat.zero_add] at e2
    rw [← List.filter_append, List.range_eq_range', List.range_eq_range', e2]
    congr 2
    omega
  unfold firstP
  rw [e]
  rfl
theorem first_neg {room : List Int} {bs : List (List Tk)} {xs : List Int} : firstP room bs xs = -1 ↔ roomsTo room bs xs bs.length = [] := by
  unfold firstP
  cases roomsTo room bs xs bs.length with
  | nil => simp
  | cons i l => simp

/-- The round has left by a return: the node lies in block b. -/
def LeftAt (b : Nat) (w : World) (n : Nat) (c : Code) (pre : List (IxV n)) (W : World) : Prop :=
  c = .ret ∧ ∃ x : IxV n, pre = [x] ∧ W.cell? ⟨b, 0, none⟩ = some (.int .i64 (x.1.1 : Int)) ∧ b < W.heap.size ∧ Below w.heap.size w W

set_option maxRecDepth 100000 in
set_option maxHeartbeats 1600000 in
theorem firstOf_any (A1 A2 A5 : Option Addr) (n1 c1 n2 c2 c5 : Nat) (room : List Int) (bs : List (List Tk)) (id : Int) (xs : List Int) (w : World) (h1 : RdI w w.heap.size A1 n1 room) (h2 : RdB w w.heap.size A2 n2 bs) (h5 : RdI w w.heap.size A5 3 xs)
    (hn1 : 3 ≤ n1) (hbs : ∀ k, k < n2 → (bs[k]?.getD []).length ≤ 900 ∧ ∀ t ∈ bs[k]?.getD [], vecOk t.2 = true) (hx : ∀ j, j < 3 → -1000000 ≤ xs[j]?.getD 0 ∧ xs[j]?.getD 0 ≤ 1000000) :
    Calls Try.prog 60 #[.slice A1 n1 c1, .slice A2 n2 c2, .agg #[.int .i64 id, .slice A5 3 c5]] w fun e w' => e = .returned (.int .i64 (firstP room bs xs)) ∧ Below w.heap.size w w' := by
  have l2 := Lib.hid h2.len
  have H1 := Lib.hid h1
  have H2 := Lib.hid h2
  have H5 := Lib.hid h5
  have Hbs := Lib.hid hbs
  have Hx := Lib.hid hx
  clear h1 h2 h5 hbs hx
  have B0 := (show Below w.heap.size w ((w.alloc (.cells #[.int .i64 id, .slice A5 3 c5] 46)).alloc (.cells #[.int .i64 0] 3)) from ((Below.refl _ _).alloc (Nat.le_refl _) _).alloc (by simp) _)
  have P0 := (show Blk ((w.alloc (.cells #[.int .i64 id, .slice A5 3 c5] 46)).alloc (.cells #[.int .i64 0] 3)) w.heap.size 46 #[.int .i64 id, .slice A5 3 c5] from (Blk.new w _ _).alloc _)
  have P1 := (show Blk ((w.alloc (.cells #[.int .i64 id, .slice A5 3 c5] 46)).alloc (.cells #[.int .i64 0] 3)) (w.heap.size + 1) 3 #[.int .i64 0] from by
    have := Blk.new (w.alloc (.cells #[.int .i64 id, .slice A5 3 c5] 46)) 3 #[.int .i64 0]
    rwa [World.size_alloc] at this)
  have x0 : ((w.alloc (.cells #[.int .i64 id, .slice A5 3 c5] 46)).alloc (.cells #[.int .i64 0] 3)).cell? ⟨w.heap.size, 0, none⟩ = some (.int .i64 id) := P0.cell 0
  have x1 : ((w.alloc (.cells #[.int .i64 id, .slice A5 3 c5] 46)).alloc (.cells #[.int .i64 0] 3)).cell? ⟨w.heap.size, 1, none⟩ = some (.slice A5 3 c5) := P0.cell 1
  have sz5 : ((w.alloc (.cells #[.int .i64 id, .slice A5 3 c5] 46)).alloc (.cells #[.int .i64 0] 3)).heap.size = w.heap.size + 2 := by simp
  have HB0 := Lib.hid B0
  have HP0 := Lib.hid P0
  have HP1 := Lib.hid P1
  have SZ5 := Lib.hid sz5
  clear B0 P0 P1 sz5
  refine calls_of_wp_marks Try.func60 rfl ?_
  simp only [Try.ntmps60, List.size_toArray, List.length_cons, List.length_nil, Nat.reduceAdd, Nat.reduceSub, Array.replicate_succ, Array.replicate_zero, List.push_toArray, List.append_toArray, List.nil_append, List.cons_append]
  go_wp2_with fail
  generalize (w.alloc (.cells #[.int .i64 id, .slice A5 3 c5] 46)).alloc (.cells #[.int .i64 0] 3) = w5 at HB0 HP0 HP1 SZ5 x0 x1 ⊢
  refine (withRoom_any A1 A2 A5 n1 c1 n2 c2 3 c5 id w5).mono ?_; rintro e w6 ⟨rfl, hw6⟩
  clear x0 x1
  go_wp2_with fail
  have B6 : Below w5.heap.size w5 w6 := by rw [← hw6]; exact (((Below.refl _ _).alloc (Nat.le_refl _) _).alloc (by simp) _).alloc (by simp; omega) _
  have sz6 : w6.heap.size = w5.heap.size + 3 := by rw [← hw6]; simp
  have q1 : w6.cell? ⟨w5.heap.size, 0, none⟩ = some (.slice A1 n1 c1) := by rw [← hw6]; exact (((Blk.new w5 22 #[.slice A1 n1 c1]).alloc _).alloc _).cell 0
  have q2 : w6.cell? ⟨w5.heap.size + 1, 0, none⟩ = some (.slice A2 n2 c2) := by
    rw [← hw6]
    have := Blk.new (w5.alloc (.cells #[.slice A1 n1 c1] 22)) 27 #[.slice A2 n2 c2]
    rw [World.size_alloc] at this
    exact (this.alloc _).cell 0
  have q3 : Blk w6 (w5.heap.size + 2) 46 #[.int .i64 id, .slice A5 3 c5] := by
    rw [← hw6]
    have := Blk.new ((w5.alloc (.cells #[.slice A1 n1 c1] 22)).alloc (.cells #[.slice A2 n2 c2] 27)) 46 #[.int .i64 id, .slice A5 3 c5]
    rwa [World.size_alloc, World.size_alloc] at this
  have S5 := SZ5.out
  have BW6 := Lib.hid (below_to HB0.out B6)
  have VB := Lib.hid (HP1.out.below B6 HP1.out.lt)
  have BX := Lib.hid (show RoomBox w6 w.heap.size w6.heap.size (w.heap.size + 1) (w5.heap.size + 1) w5.heap.size (w5.heap.size + 2) A1 n1 c1 A2 n2 c2 A5 c5 room bs id xs from
    ⟨q2, q1, q3.cell 0, q3.cell 1, ⟨by omega, by omega, by omega, by omega, by omega⟩, ⟨by omega, by omega, by omega⟩, H1.out.below BW6.out, H2.out.below BW6.out, H5.out.below BW6.out⟩)
  have HS := Lib.hid (withRoom1_stops 2 (by omega) w.heap.size w6.heap.size (w.heap.size + 1) (w5.heap.size + 1) w5.heap.size (w5.heap.size + 2) A1 A2 A5 n1 c1 n2 c2 c5 room bs id xs w6 BX.out (Nat.le_refl _) hn1 Hbs.out Hx.out)
  clear q1 q2 q3 hw6
  refine (wpIn_wide (n := 3)).1 ?_
  refine wpIn_rangeFunc_ownF rfl (by omega) (gf := 79) (lb := #[.pointer (some ⟨w5.heap.size + 1, 0, none⟩), .pointer (some ⟨w5.heap.size, 0, none⟩), .pointer (some ⟨w5.heap.size + 2, 0, none⟩)]) rfl trivial (enters_of Try.func79 (by kernel_rfl) rfl)
    HS.out (fun h k => KpG.trans h k) (fun W l o o' hl _ _ _ => KpG.put (Nat.le_refl _) W l o' hl) (Below.refl _ _) (fun _ => rfl)
    (fun (pre : List (IxV n2)) W => pre = [] ∧ W.cell? ⟨w.heap.size + 1, 0, none⟩ = some (.int .i64 0) ∧ W.frozen? ⟨w.heap.size + 1, 0, none⟩ = false ∧ KpG w6.heap.size (w.heap.size + 1) w6 W ∧ Below w.heap.size w W)
    (LeftAt (w.heap.size + 1) w n2) ?hI ?hIx ?h0 ?a1 ?assign ?body ?done ?stop
  case hI =>
    rintro pre X Y row ⟨s0, s1, s2, s3, s4⟩ hg hr
    have hlt : w.heap.size + 1 < X.heap.size := by have := s3.1; omega
    have hne : ∀ b, b < w6.heap.size → some b ≠ row := fun b hb e => by have := (hr b e.symm).1; omega
    have hgk := hg.block (w.heap.size + 1) hlt (hne _ (by omega))
    exact ⟨s0, (World.cell?_of_block (a := ⟨w.heap.size + 1, 0, none⟩) hgk).trans s1, (World.frozen?_of_block (a := ⟨w.heap.size + 1, 0, none⟩) hgk).trans s2,
      ⟨Nat.le_trans s3.1 hg.size, fun b h1 h2 => (hg.block b (by have := s3.1; omega) (hne b h1)).trans (s3.2 b h1 h2)⟩,
      s4.grown hg (by have := s3.1; omega) (fun k e => by have := (hr k e).1; omega)⟩
  case hIx =>
    rintro c pre X Y row ⟨s0, x, s1, s2, s3, s4⟩ hg hr
    have hne : some (w.heap.size + 1) ≠ row := fun e => by have := (hr _ e.symm).1; omega
    have hgk := hg.block (w.heap.size + 1) s3 hne
    exact ⟨s0, x, s1, (World.cell?_of_block (a := ⟨w.heap.size + 1, 0, none⟩) hgk).trans s2, Nat.lt_of_lt_of_le s3 hg.size, s4.grown hg (by omega) (fun k e => by have := (hr k e).1; omega)⟩
  case h0 => exact ⟨rfl, VB.out.cell 0, VB.out.frozen 0, KpG.refl _ _ _, BW6.out⟩
  case assign =>
    intro l x W K hK
    gi_wp2
    exact hK
  case body =>
    rintro l pre ⟨⟨i, v⟩, hi⟩ W ⟨rfl, hc, hf, hkp, hbel⟩ _
    have HBEL := Lib.hid hbel
    have hlt : w.heap.size + 1 < W.heap.size := by have := hkp.1; omega
    clear hkp hbel
    gi_wp2
    exact ⟨KeepsOthers.setCell _ _ _, rfl, ⟨(i, v), hi⟩, rfl, World.cell?_setCell_same' _ _ _ (by rw [hc]; rfl), by simpa [World.setCell] using hlt, HBEL.out.setCell (by simp) _⟩
  case done =>
    rintro D ys W hD hys ⟨rfl, s1, s2, s3, s4⟩ hKD
    have hys : ([] : List Nat) = roomsTo room bs xs n2 := hys
    have HS4 := Lib.hid s4
    have Hys := Lib.hid hys
    have hlt : w.heap.size + 1 < W.heap.size := by have := s3.1; omega
    clear s3 s4 hys
    have hKD2 : (W.setCell ⟨w.heap.size + 1, 0, none⟩ (.int .i64 (-1))).heap[D]? = some (.deferred (some [])) := (Below.heap_setCell _ _ _ _ (by simp; omega)).trans hKD
    have hv : ((W.setCell ⟨w.heap.size + 1, 0, none⟩ (.int .i64 (-1))).putObj D (.deferred none)).cell? ⟨w.heap.size + 1, 0, none⟩ = some (.int .i64 (-1)) :=
      (World.cell?_of_block (a := ⟨w.heap.size + 1, 0, none⟩) (World.putObj_heap_other (by simp; omega))).trans (World.cell?_setCell_same' _ _ _ (by rw [s1]; rfl))
    go_wp2
    refine markPost_ret (v := .int .i64 (-1)) hKD2 (by simp [results, Try.results60, go_sem, hv]) ⟨ret_int ?_, (HS4.out.setCell (by simp) _).trans (belowK_b (w := w) (Nat.le_refl _) _ D _ _ (by have := BW6.out.size; omega) hKD2 rfl rfl)⟩
    exact (first_neg.2 (by rw [l2.out]; exact Hys.out.symm)).symm
  case stop =>
    rintro D c pre W hD ⟨k, hk, hro, hpre⟩ ⟨rfl, x, rfl, s1, s2, s3⟩ hKD
    have HS3 := Lib.hid s3
    have Hpre := Lib.hid (rooms_head (by have := l2.out; omega) (show roomsTo room bs xs (k + 1) = [x.1.1] from hpre.symm))
    clear hpre hro s3
    have hv : (W.putObj D (.deferred none)).cell? ⟨w.heap.size + 1, 0, none⟩ = some (.int .i64 (x.1.1 : Int)) :=
      (World.cell?_of_block (a := ⟨w.heap.size + 1, 0, none⟩) (World.putObj_heap_other (by simp; omega))).trans s1
    gi_wp2
    refine markPost_ret (v := .int .i64 (x.1.1 : Int)) hKD (by simp [results, Try.results60, go_sem, hv]) ⟨ret_int Hpre.out.symm, HS3.out.trans (belowK_b (w := w) (Nat.le_refl _) W D _ _ (by have := BW6.out.size; omega) hKD rfl rfl)⟩

set_option maxRecDepth 100000 in
set_option maxHeartbeats 800000 in
theorem firstAt_any (A1 A2 A5 : Option Addr) (n1 c1 n2 c2 n5 c5 : Nat) (room : List Int) (bs : List (List Tk)) (id : Int) (xs : List Int) (w : World) (h1 : RdI w w.heap.size A1 n1 room) (h2 : RdB w w.heap.size A2 n2 bs) (h5 : RdI w w.heap.size A5 n5 xs) (hc5 : n5 ≤ c5) (hz : bs.flatten.length ≤ 1048576) :
    Calls Try.prog 37 #[.slice A1 n1 c1, .slice A2 n2 c2, .agg #[.int .i64 id, .slice A5 n5 c5]] w fun e w' => e = .returned (.int .i64 (firstAtP room bs (id, xs))) ∧ Below w.heap.size w w' := by
  have B0 := alloc_up w (.cells #[.int .i64 id, .slice A5 n5 c5] 46)
  have P0 := Blk.new w 46 #[.int .i64 id, .slice A5 n5 c5]
  have HP0 := Lib.hid P0
  have x0 := P0.cell 0
  have x1 := P0.cell 1
  simp only [List.getElem?_toArray, List.getElem?_cons_zero, List.getElem?_cons_succ] at x0 x1
  have l2 := Lib.hid h2.len
  have l5 := Lib.hid h5.len
  have H1 := Lib.hid h1
  have H2 := Lib.hid h2
  have H5 := Lib.hid h5
  clear h1 h2 h5 P0
  go_enter Try.func37, Try.ntmps37
  go_wp2_with fail
  generalize w.alloc (.cells #[.int .i64 id, .slice A5 n5 c5] 46) = w0 at B0 HP0 x0 x1 ⊢
  have ecall := canCome_any A1 A2 A5 n1 c1 n2 c2 n5 c5 room bs id xs w0 (H1.out.up B0) (H2.out.up B0) (H5.out.up B0) hc5 (by omega)
  by_cases hcm : comeOk room bs (id, xs) = true
  · rw [hcm] at ecall
    have HC := Lib.hid hcm
    clear hcm
    refine ecall.mono ?_; rintro e w1 ⟨rfl, d1⟩
    have B1 := Lib.hid (below_to B0 d1)
    have HP1 := HP0.out.below d1 HP0.out.lt
    have y0 : w1.cell? ⟨w.heap.size, 0, none⟩ = some (.int .i64 id) := HP1.cell 0
    have y1 : w1.cell? ⟨w.heap.size, 1, none⟩ = some (.slice A5 n5 c5) := HP1.cell 1
    have e5 : n5 = 3 := by have := vecOk_len (show vecOk xs = true from comeOk_need HC.out); have := l5.out; omega
    subst e5
    clear ecall d1 B0 x0 x1 HP1
    go_wp2_with fail
    refine (firstOf_any A1 A2 A5 n1 c1 n2 c2 c5 room bs id xs w1 (H1.out.up B1.out) (H2.out.up B1.out) (H5.out.up B1.out) (by have := binsOk_room (comeOk_bins HC.out); have := H1.out.len; omega) (fun k hk => binsOk_bin (comeOk_bins HC.out) (by have := l2.out; omega)) (fun j hj => by have := vecOk_bd (show vecOk xs = true from comeOk_need HC.out) j; omega)).mono ?_
    rintro e w2 ⟨rfl, d2⟩
    have B2 := Lib.hid (below_to B1.out d2)
    clear d2
    go_wp2
    go_ret
    exact ⟨ret_int (by rw [firstAtP, if_pos HC.out]), B2.out⟩
  · have hcm : comeOk room bs (id, xs) = false := by simpa using hcm
    rw [hcm] at ecall
    have HC := Lib.hid hcm
    clear hcm
    refine ecall.mono ?_; rintro e w1 ⟨rfl, d1⟩
    have B1 := Lib.hid (below_to B0 d1)
    clear ecall d1 B0
    go_wp2
    go_ret
    exact ⟨ret_int (by rw [firstAtP, if_neg (by rw [HC.out]; simp)]), B1.out⟩
end Go.Proofs.Ytgngmjlbeofjkaa
