/- Walks: the draws of a room and of a task. -/
import Derived.Test.YtfkobleefhpggaaDoorDrawPick
namespace Go.Proofs.YtfkobleefhpggaaDoor
open Go.RowKit

theorem pick_at {g p : Nat} (n : Nat) {N : Int} {w : World} (h : Rdr w g p) (hN : N = (n : Int)) (hp : p ≤ 1000000) (hn : 1 ≤ n) (hn2 : n ≤ 1000) :
    Calls Tryd.prog 56 #[.pointer (some ⟨g, 0, none⟩), .int .i64 N] w fun e w' => ∃ r : Nat, e = .returned (.int .i64 (r : Int)) ∧ r < n ∧ Rdr w' g (p + 1) ∧ OnlyG w w' g := by
  subst hN
  exact pick_any g p n w h hp hn hn2

/-- Small integers. -/
def Bd (m : Int) (xs : List Int) : Prop := ∀ j : Nat, 0 ≤ xs[j]?.getD 0 ∧ xs[j]?.getD 0 ≤ m
theorem Bd.three {m a b c : Int} (ha : 0 ≤ a ∧ a ≤ m) (hb : 0 ≤ b ∧ b ≤ m) (hc : 0 ≤ c ∧ c ≤ m) : Bd m [a, b, c] := fun j => by
  match j with
  | 0 => exact ha
  | 1 => exact hb
  | 2 => exact hc
  | k + 3 => simp; omega
theorem Bd.set_ {m v : Int} {xs : List Int} (h : Bd m xs) (i : Nat) (hv : 0 ≤ v ∧ v ≤ m) : Bd m (xs.set i v) := fun j => by
  by_cases e : i = j
  · subst e
    by_cases hi : i < xs.length
    · rw [List.getElem?_set_self hi]; exact hv
    · rw [List.getElem?_eq_none (by simp; omega)]; simp; omega
  · rw [List.getElem?_set_ne e]; exact h j
theorem set_vals (xs : List Int) (i : Nat) (v : Int) : (xs.map (Value.int .i64)).toArray.setIfInBounds i (.int .i64 v) = ((xs.set i v).map (Value.int .i64)).toArray := by
  rw [List.setIfInBounds_toArray, List.map_set]

theorem alloc_up (w : World) (o : Obj) : Below w.heap.size w (w.alloc o) := (Below.refl _ _).alloc (Nat.le_refl _) _
theorem OnlyG.cell {w w' : World} {g : Nat} (h : OnlyG w w' g) {p : Addr} (h1 : p.block < w.heap.size) (h2 : p.block ≠ g) : w'.cell? p = w.cell? p := World.cell?_of_block (h.block p.block h1 h2)
theorem Rdr.drewN {w : World} {g p : Nat} (h : Rdr w g p) (n : Nat) : Rdr (w.drewN n) g p := h
theorem Rdr.drew {w : World} {g p : Nat} (h : Rdr w g p) : Rdr w.drew g p := h
theorem OnlyG.up {w w' : World} {g : Nat} (h : OnlyG w w' g) (o : Obj) : OnlyG w (w'.alloc o) g := h.alloc o

set_option maxRecDepth 100000 in
set_option maxHeartbeats 1600000 in
theorem l91Room_any (g p : Nat) (w : World) (h : Rdr w g p) (hp : p ≤ 900000) :
    Calls Tryd.prog 55 #[.pointer (some ⟨g, 0, none⟩)] w fun e w' => ∃ b xs, e = .returned (.slice (some ⟨b, 0, none⟩) 3 3) ∧ OwI w' w.heap.size b xs ∧ xs.length = 3 ∧ Bd 21 xs ∧ OnlyG w w' g ∧ ∃ q, q ≤ p + 6 ∧ Rdr w' g q := by
  go_enter Tryd.func55, Tryd.ntmps55
  go_wp2_with fail
  refine (pick_at 10 h rfl (by omega) (by omega) (by omega)).mono ?_; rintro e w1 ⟨r1, rfl, hr1, R1, O1⟩
  go_wp2_with fail
  refine (pick_at 10 R1 rfl (by omega) (by omega) (by omega)).mono ?_; rintro e w2 ⟨r2, rfl, hr2, R2, O2⟩
  go_wp2_with fail
  refine (pick_at 10 R2 rfl (by omega) (by omega) (by omega)).mono ?_; rintro e w3 ⟨r3, rfl, hr3, R3, O3⟩
  go_wp2_with fail
  refine (pick_at 50 (R3.below (alloc_up _ _)) rfl (by omega) (by omega) (by omega)).mono ?_; rintro e w4 ⟨r4, rfl, hr4, R4, O4⟩
  have g3 := R3.lt
  have B4 := O4.blk (Blk.new w3 _ _) (by omega)
  have W4 : OnlyG w w4 g := (((O1.trans O2).trans O3).alloc _).trans O4
  have s3 : w.heap.size ≤ w3.heap.size := ((O1.trans O2).trans O3).size
  generalize hb : w3.heap.size = b at B4 g3 s3 ⊢
  have bd : Bd 21 [6 + (r1 : Int), 6 + (r2 : Int), 6 + (r3 : Int)] := Bd.three (by omega) (by omega) (by omega)
  clear O1 O2 O3 O4 R1 R2 R3 h hb
  have H := Lib.hid W4
  clear W4
  by_cases h0 : r4 = 0
  · subst h0
    go_wp2_with fail
    refine (pick_at 3 R4 rfl (by omega) (by omega) (by omega)).mono ?_; rintro e w5 ⟨r5, rfl, hr5, R5, O5⟩
    go_wp2_with fail
    refine (pick_at 4 (R5.below (alloc_up _ _)) rfl (by omega) (by omega) (by omega)).mono ?_; rintro e w6 ⟨r6, rfl, hr6, R6, O6⟩
    have C6 := O6.blk (Blk.new w5 _ _) (by have := R5.lt; omega)
    have B6 := O6.blk ((O5.blk B4 (by omega)).alloc _) (by omega)
    have W6 := Lib.hid (H.out.trans ((O5.alloc _).trans O6))
    have g6 := R6.lt
    have hbg : b ≠ w5.heap.size := by have := O5.size; have := B4.lt; omega
    have f6 : w6.frozen? ⟨b, r5, none⟩ = false := B6.frozen _
    have hcell : ∃ v : Int, w6.cell? ⟨w5.heap.size, r6, none⟩ = some (.int .i64 v) ∧ 0 ≤ v ∧ v ≤ 21 := by
      rw [C6.cell]
      match r6, hr6 with
      | 0, _ => exact ⟨0, rfl, by omega, by omega⟩
      | 1, _ => exact ⟨1, rfl, by omega, by omega⟩
      | 2, _ => exact ⟨20, rfl, by omega, by omega⟩
      | 3, _ => exact ⟨21, rfl, by omega, by omega⟩
    obtain ⟨v, hv, v0, v1⟩ := hcell
    have hold : ∃ u, w6.cell? ⟨b, r5, none⟩ = some u := by
      rw [B6.cell]
      match r5, hr5 with
      | 0, _ => exact ⟨_, rfl⟩
      | 1, _ => exact ⟨_, rfl⟩
      | 2, _ => exact ⟨_, rfl⟩
    obtain ⟨u, hu⟩ := hold
    have hr5' : (r5 : Int) < 3 := by omega
    have hr6' : (r6 : Int) < 4 := by omega
    have H6 := Lib.hid B6
    clear B6 C6 B4 O5 O6
    go_wp2
    go_ret
    refine ⟨b, [6 + (r1 : Int), 6 + (r2 : Int), 6 + (r3 : Int)].set r5 v, rfl, ⟨s3, ?_⟩, by simp, bd.set_ _ ⟨v0, v1⟩, W6.out.set_new s3 _, _, ?_, R6.keep (fun k hk => Below.heap_setCell _ _ _ _ (by simp; omega))⟩
    · rw [← set_vals]; exact H6.out.set_ _ _
    · omega
  · have e4 : ((r4 : Int) == 0) = false := by simp; omega
    go_wp2
    go_ret
    exact ⟨b, [6 + (r1 : Int), 6 + (r2 : Int), 6 + (r3 : Int)], rfl, ⟨s3, B4⟩, rfl, bd, H.out, _, by omega, R4⟩

set_option maxRecDepth 100000 in
set_option maxHeartbeats 1600000 in
theorem l91Task_any (g p : Nat) (id : Int) (w : World) (h : Rdr w g p) (hp : p ≤ 900000) :
    Calls Tryd.prog 60 #[.pointer (some ⟨g, 0, none⟩), .int .i64 id] w fun e w' => ∃ b xs, e = .returned (.agg #[.int .i64 id, .slice (some ⟨b, 0, none⟩) 3 3]) ∧ OwI w' w.heap.size b xs ∧ xs.length = 3 ∧ Bd 21 xs ∧ OnlyG w w' g ∧ ∃ q, q ≤ p + 6 ∧ Rdr w' g q := by
  go_enter Tryd.func60, Tryd.ntmps60
  go_wp2_with fail
  refine (pick_at 6 (h.below (alloc_up _ _)) rfl (by omega) (by omega) (by omega)).mono ?_; rintro e w1 ⟨r1, rfl, hr1, R1, O1⟩
  have B0 := O1.blk (Blk.new w _ _) (by have := h.lt; omega)
  go_wp2_with fail
  refine (pick_at 6 R1 rfl (by omega) (by omega) (by omega)).mono ?_; rintro e w2 ⟨r2, rfl, hr2, R2, O2⟩
  go_wp2_with fail
  refine (pick_at 6 R2 rfl (by omega) (by omega) (by omega)).mono ?_; rintro e w3 ⟨r3, rfl, hr3, R3, O3⟩
  go_wp2_with fail
  refine (pick_at 3 ((R3.below (alloc_up _ _)).below (alloc_up _ _)) rfl (by omega) (by omega) (by omega)).mono ?_; rintro e w4 ⟨r4, rfl, hr4, R4, O4⟩
  have g0 := h.lt
  have g3 := R3.lt
  have s1 : w.heap.size + 1 ≤ w1.heap.size := by have := O1.size; simpa using this
  have s3 : w1.heap.size ≤ w3.heap.size := (O2.trans O3).size
  have Bn := O4.blk ((Blk.new w3 _ _).alloc _) (by omega)
  have Bx := O4.blk (Blk.new (w3.alloc _) _ _) (by simp; omega)
  have Br := O4.blk ((((O3.blk (O2.blk B0 (by omega)) (by omega))).alloc _).alloc _) (by omega)
  have W4 : OnlyG w w4 g := (((((OnlyG.refl w g).alloc _).trans O1).trans (O2.trans O3)).alloc _).alloc _ |>.trans O4
  rw [World.size_alloc] at Bx
  generalize hb : w3.heap.size = b at Bn Bx g3 s3 ⊢
  have bd : Bd 21 [(r1 : Int), (r2 : Int), (r3 : Int)] := Bd.three (by omega) (by omega) (by omega)
  clear O1 O2 O3 O4 R1 R2 R3 h hb B0
  have c0 : w4.cell? ⟨b + 1, 0, none⟩ = some (.int .i64 id) := by rw [Bx.cell]; rfl
  have c1 : w4.cell? ⟨b + 1, 1, none⟩ = some (.slice (some ⟨b, 0, none⟩) 3 3) := by rw [Bx.cell]; rfl
  have d0 : w4.cell? ⟨w.heap.size, 0, none⟩ = some (.int .i64 0) := by rw [Br.cell]; rfl
  have d1 : w4.cell? ⟨w.heap.size, 1, none⟩ = some (.slice none 0 0) := by rw [Br.cell]; rfl
  have f0 : w4.frozen? ⟨w.heap.size, 0, none⟩ = false := Br.frozen _
  have f1 : w4.frozen? ⟨w.heap.size, 1, none⟩ = false := Br.frozen _
  have H := Lib.hid W4
  clear W4
  by_cases h0 : r4 = 0
  · subst h0
    go_wp2_with fail
    have hk := Lib.hid (show ∀ w', OnlyG w4 w' g → w'.cell? ⟨b + 1, 1, none⟩ = some (.slice (some ⟨b, 0, none⟩) 3 3) from fun w' o => (o.cell (p := ⟨b + 1, 1, none⟩) Bx.lt (by simp; omega)).trans c1)
    have hold := Lib.hid (show ∀ (w' : World) (j : Nat), OnlyG w4 w' g → j < 3 → ∃ u, w'.cell? ⟨b, j, none⟩ = some u from fun w' j o hj => by
      rw [(o.blk Bn (by omega)).cell]
      match j, hj with
      | 0, _ => exact ⟨_, rfl⟩
      | 1, _ => exact ⟨_, rfl⟩
      | 2, _ => exact ⟨_, rfl⟩)
    have hfr := Lib.hid (show ∀ (w' : World) (j : Nat), OnlyG w4 w' g → w'.frozen? ⟨b, j, none⟩ = false from fun w' j o => (o.blk Bn (by omega)).frozen j)
    have HBn := Lib.hid Bn
    have HBx := Lib.hid Bx
    have HBr := Lib.hid Br
    have HR4 := Lib.hid R4
    clear Bn Bx Br R4 c0 d0 d1 f0 f1
    go_region_held3 (fun w' => w'.cell? ⟨b + 1, 1, none⟩ = some (.slice (some ⟨b, 0, none⟩) 3 3))
      (first
        | exact c1
        | exact K5
        | exact K6
        | (rw [World.cell?_setCell_other _ _ _ _ (by simp)]; exact K6))
      (first
        | (go_at_call 56; refine (pick_at 4 HR5.out rfl (by omega) (by omega) (by omega)).mono ?_; rintro e w6 ⟨r6, rfl, hr6, R6, O6⟩; have K6 := hk.out w6 (HO5.out.trans O6); have f6 := hfr.out w6 r5 (HO5.out.trans O6); have e6 : IntKind.i64.wrap (4 + (r6 : Int)) = 4 + (r6 : Int) := wr64 (by omega) (by omega); obtain ⟨u6, hu6⟩ := hold.out w6 r5 (HO5.out.trans O6) hr5; have HR6 := Lib.hid R6; have HO6 := Lib.hid O6; clear R6 O6)
        | (go_at_call 56; refine (pick_at 3 (HR4.out.drew) rfl (by omega) (by omega) (by omega)).mono ?_; rintro e w5 ⟨r5, rfl, hr5, R5, O5⟩; have HO5 := Lib.hid ((OnlyG.refl w4 g).drew.trans O5); have K5 := hk.out w5 HO5.out; have HR5 := Lib.hid R5; clear R5 O5; have hr5' : (r5 : Int) < 3 := (by omega)))
    have hOw : OwI (w6.setCell ⟨b, r5, none⟩ (.int .i64 (4 + (r6 : Int)))) w.heap.size b ([(r1 : Int), r2, r3].set r5 (4 + (r6 : Int))) := ⟨by omega, by rw [← set_vals]; exact ((HO5.out.trans HO6.out).blk HBn.out (by omega)).set_ _ _⟩
    have Bx6 := ((HO5.out.trans HO6.out).blk HBx.out (by omega)).far (p := ⟨b, r5, none⟩) (by simp) (.int .i64 (4 + (r6 : Int)))
    have Br6 := ((HO5.out.trans HO6.out).blk HBr.out (by omega)).far (p := ⟨b, r5, none⟩) (by simp; omega) (.int .i64 (4 + (r6 : Int)))
    have O7 : OnlyG w (w6.setCell ⟨b, r5, none⟩ (.int .i64 (4 + (r6 : Int)))) g := (H.out.trans (HO5.out.trans HO6.out)).set_new (by simp; omega) _
    have R7 : Rdr (w6.setCell ⟨b, r5, none⟩ (.int .i64 (4 + (r6 : Int)))) g (p + 1 + 1 + 1 + 1 + 1 + 1) := HR6.out.keep (fun k hk => Below.heap_setCell _ _ _ _ (by simp; omega))
    have bd' : Bd 21 ([(r1 : Int), r2, r3].set r5 (4 + (r6 : Int))) := bd.set_ _ (by omega)
    clear K5 K6 f6 hu6 e6 hk hold hfr bd c1
    generalize w6.setCell ⟨b, r5, none⟩ (.int .i64 (4 + (r6 : Int))) = W at hOw Bx6 Br6 O7 R7 ⊢
    have c0 : W.cell? ⟨b + 1, 0, none⟩ = some (.int .i64 id) := by rw [Bx6.cell]; rfl
    have c1 : W.cell? ⟨b + 1, 1, none⟩ = some (.slice (some ⟨b, 0, none⟩) 3 3) := by rw [Bx6.cell]; rfl
    have d0 : W.cell? ⟨w.heap.size, 0, none⟩ = some (.int .i64 0) := by rw [Br6.cell]; rfl
    have d1 : W.cell? ⟨w.heap.size, 1, none⟩ = some (.slice none 0 0) := by rw [Br6.cell]; rfl
    have f0 : W.frozen? ⟨w.heap.size, 0, none⟩ = false := Br6.frozen _
    have f1 : W.frozen? ⟨w.heap.size, 1, none⟩ = false := Br6.frozen _
    have HB := Lib.hid Br6
    have HO := Lib.hid hOw
    clear Bx6 Br6 hOw
    have ly : ([(r1 : Int), r2, r3].set r5 (4 + (r6 : Int))).length = 3 := by simp
    generalize [(r1 : Int), r2, r3].set r5 (4 + (r6 : Int)) = ys at HO bd' ly
    go_wp2
    refine bodyPost_ret (v := .agg #[.int .i64 id, .slice (some ⟨b, 0, none⟩) 3 3]) ?_ rfl ⟨b, ys, rfl, ⟨by omega, ?_⟩, ?_, bd', (O7.set_new (Nat.le_refl _) _).set_new (Nat.le_refl _) _, _, ?_, (R7.keep (fun k hk => Below.heap_setCell _ _ _ _ (by simp; omega))).keep (fun k hk => Below.heap_setCell _ _ _ _ (by simp; omega))⟩
    · have e0 := ((HB.out.set_ 0 (.int .i64 id)).set_ 1 (.slice (some ⟨b, 0, none⟩) 3 3)).cell 0
      have e1 := ((HB.out.set_ 0 (.int .i64 id)).set_ 1 (.slice (some ⟨b, 0, none⟩) 3 3)).cell 1
      simp [results, Tryd.results60, go_sem, e0, e1]
    · exact (HO.out.2.far (p := ⟨w.heap.size, 0, none⟩) (by simp; omega) _).far (p := ⟨w.heap.size, 1, none⟩) (by simp; omega) _
    · exact ly
    · omega
  · have e4 : ((r4 : Int) == 0) = false := by simp; omega
    have HB := Lib.hid Br
    clear Br
    go_wp2
    refine bodyPost_ret (v := .agg #[.int .i64 id, .slice (some ⟨b, 0, none⟩) 3 3]) ?_ rfl ⟨b, [(r1 : Int), r2, r3], rfl, ⟨by omega, ?_⟩, rfl, bd, (H.out.set_new (Nat.le_refl _) _).set_new (Nat.le_refl _) _, _, ?_, (R4.keep (fun k hk => Below.heap_setCell _ _ _ _ (by simp; omega))).keep (fun k hk => Below.heap_setCell _ _ _ _ (by simp; omega))⟩
    · have e0 := ((HB.out.set_ 0 (.int .i64 id)).set_ 1 (.slice (some ⟨b, 0, none⟩) 3 3)).cell 0
      have e1 := ((HB.out.set_ 0 (.int .i64 id)).set_ 1 (.slice (some ⟨b, 0, none⟩) 3 3)).cell 1
      simp [results, Tryd.results60, go_sem, e0, e1]
    · exact (Bn.far (p := ⟨w.heap.size, 0, none⟩) (by simp; omega) _).far (p := ⟨w.heap.size, 1, none⟩) (by simp; omega) _
    · omega
end Go.Proofs.YtfkobleefhpggaaDoor
