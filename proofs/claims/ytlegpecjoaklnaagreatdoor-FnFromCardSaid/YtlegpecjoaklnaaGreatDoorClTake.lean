/- Walk: the cursor's take. -/
import Derived.Test.YtlegpecjoaklnaaGreatDoorClImplV
namespace Go.Proofs.YtlegpecjoaklnaaGreatDoor
open Go Go.RowKit
attribute [local go_sem ↓] Go.wp_at_zero Go.wp_at_succ

/-- An error of the cursor's. -/
def ErrU (v : Value) : Prop := ∃ a, v = .iface 101 (.pointer (some a))

/-- A part of a slice of integers reads. -/
theorem rdPart {w : World} {B n b o : Nat} {xs : List Int} (h : RdI w B (some ⟨b, o, none⟩) n xs) {i m : Nat} (hi : i + m ≤ n) : RdI w B (some ⟨b, o + i, none⟩) m ((xs.drop i).take m) := by
  have hl := h.len
  have hle := h.le
  refine ⟨by simp [hl]; omega, by omega, fun hp => ?_⟩
  obtain ⟨b', o', e, hb, hc⟩ := h.2.2 (by omega)
  injection e with e
  injection e with e1 e2
  subst e1 e2
  refine ⟨b, o + i, rfl, hb, fun j hj => ?_⟩
  rw [Nat.add_assoc, hc (i + j) (by omega), List.getElem?_take, if_pos hj, List.getElem?_drop]

set_option maxRecDepth 100000 in
set_option maxHeartbeats 1600000 in
theorem take_any (gc b o n c p k : Nat) (zs : List Int) (w : World) (hb : Blk w gc 99 #[.slice (some ⟨b, o, none⟩) n c, .int .i64 p]) (h : RdI w w.heap.size (some ⟨b, o, none⟩) n zs) (hbg : b ≠ gc) (hp : p ≤ n) (hn : n ≤ 1000) (hc : n ≤ c) (hk : 1 ≤ k) (hk2 : k ≤ 100) :
    Calls Tryz.prog 123 #[.pointer (some ⟨gc, 0, none⟩), .int .i64 k] w fun e w' =>
      ((p + k ≤ n ∧ ∃ A' c', e = .returned (.tuple #[.slice A' k c', .nilIface]) ∧ w'.ownsRow w.heap.size 3 1 (.slice A' k c') k (((zs.drop p).take k).map (Value.int .i64)) ∧ Blk w' gc 99 #[.slice (some ⟨b, o, none⟩) n c, .int .i64 ((p + k : Nat) : Int)]) ∨
       (n < p + k ∧ ∃ er, e = .returned (.tuple #[.slice none 0 0, er]) ∧ ErrU er)) ∧ OnlyG w w' gc := by
  have H := Lib.hid h
  have Hb := Lib.hid hb
  have lg := hb.lt
  clear h hb
  have x0 := Hb.out.cell 0
  have x1 := Hb.out.cell 1
  simp only [List.getElem?_toArray, List.getElem?_cons_zero, List.getElem?_cons_succ] at x0 x1
  have x3 := Hb.out.frozen 1
  have v1 : IntKind.i64.wrap ((n : Int) - (p : Int)) = (n : Int) - (p : Int) := wr64 (by omega) (by omega)
  have v2 : IntKind.i64.wrap ((p : Int) + (k : Int)) = (p : Int) + (k : Int) := wr64 (by omega) (by omega)
  by_cases hle : p + k ≤ n
  · have hd : decide ((n : Int) - (p : Int) < (k : Int)) = false := by simp; omega
    go_enter Tryz.func123, Tryz.ntmps123
    go_wp2_with fail
    go_quiet (fail)
    go_wp2_with fail
    -- the cursor behind the store
    obtain ⟨q, hq⟩ : ∃ q : Nat, q = p + k := ⟨_, rfl⟩
    rw [show (p : Int) + (k : Int) = (q : Int) by omega]
    have C2 := Lib.hid (show Blk ((w.drewN nq).setCell ⟨gc, 1, none⟩ (.int .i64 (q : Int))) gc 99 #[.slice (some ⟨b, o, none⟩) n c, .int .i64 (q : Int)] from (Hb.out.drewN nq).set_ 1 (.int .i64 (q : Int)))
    have G2 := Lib.hid (((OnlyG.refl w gc).drewN nq).set_g 1 (.int .i64 (q : Int)))
    have R2 := Lib.hid (show RdI ((w.drewN nq).setCell ⟨gc, 1, none⟩ (.int .i64 (q : Int))) w.heap.size (some ⟨b, o, none⟩) n zs from by
      refine ⟨H.out.len, H.out.le, fun hp' => ?_⟩
      obtain ⟨b', o', e, lb, hcz⟩ := H.out.2.2 hp'
      injection e with e
      injection e with e1 e2
      subst e1 e2
      exact ⟨b, o, rfl, lb, fun j hj => (World.cell?_of_block (Below.heap_setCell (w.drewN nq) ⟨gc, 1, none⟩ _ b hbg)).trans (hcz j hj)⟩)
    have s2 : ((w.drewN nq).setCell ⟨gc, 1, none⟩ (.int .i64 (q : Int))).heap.size = w.heap.size := by simp [World.setCell]
    generalize (w.drewN nq).setCell ⟨gc, 1, none⟩ (.int .i64 (q : Int)) = w2 at C2 G2 R2 s2 ⊢
    clear x0 x1 x3 v1 v2 hd
    have D2 := Lib.hid (G2.out.drew)
    have R3 := Lib.hid (show RdI w2.drew w2.drew.heap.size (some ⟨b, o, none⟩) n zs from R2.out.more (by show w.heap.size ≤ w2.heap.size; omega))
    have K0 : w2.drew.cell? ⟨gc, 0, none⟩ = some (.slice (some ⟨b, o, none⟩) n c) ∧ w2.drew.cell? ⟨gc, 1, none⟩ = some (.int .i64 (q : Int)) := ⟨C2.out.cell 0, C2.out.cell 1⟩
    have v3 : IntKind.i64.wrap ((q : Int) - (k : Int)) = (p : Int) := by rw [wr64 (by omega) (by omega)]; omega
    have k1 : (0 : Int) ≤ (p : Int) := by omega
    have k2 : (p : Int) ≤ (q : Int) := by omega
    have k3 : (q : Int) ≤ (c : Int) := by omega
    have k4 : ¬ c = p := by omega
    have hqp : q - p = k := by omega
    have hpk : p + k ≤ n := hle
    have Hq := Lib.hid hq
    clear hq hle
    refine wp_region_mix (.take 0 (.take 1 (.take 2 (.take 3 (.take 4 (.take 5 (.take 6 (.take 7 (.take 8 (.take 9 (.take 10 (.take 11 (.take 12 (.take 13 (.take 14 (.bar 15 (.take 16 (.take 17 .nil)))))))))))))))))) (fun w' => w'.cell? ⟨gc, 0, none⟩ = some (.slice (some ⟨b, o, none⟩) n c) ∧ w'.cell? ⟨gc, 1, none⟩ = some (.int .i64 (q : Int))) (by kernel_rfl) (by kernel_rfl) K0 (fun _ => ?_)
    clear K0
    repeat (first | (refine wpMix_skip (by rfl) (by rfl) ?_; (try simp only [Act.put, List.setIfInBounds_toArray, List.set_cons_zero, List.set_cons_succ])) | (refine wpMix_take (v := ?_) (by rfl) (by rfl) (fun wS hSt => ?_) ?_; rotate_left; (focus ((try dsimp only at hSt); (go_simp <;> with_reducible rfl); done)); (try simp only [Act.put, List.setIfInBounds_toArray, List.set_cons_zero, List.set_cons_succ])))
    (refine wpMix_bar (by rfl) (fun K hK => ?_); go_simp)
    refine (clone_any (some ⟨b, o + p, none⟩) k (c - p) ((zs.drop p).take k) w2.drew (rdPart R3.out hpk) (by omega)).mono ?_; rintro e w5 ⟨A5, c5, rfl, hown5, hb5⟩
    have C5 := Lib.hid (C2.out.drew.below hb5 C2.out.lt)
    have G5 := Lib.hid (D2.out.below hb5)
    have O5 := Lib.hid (own_lo hown5 (show w.heap.size ≤ w2.drew.heap.size from D2.out.size))
    clear hown5 hb5
    ((try dsimp only); refine hK.out _ _ (⟨C5.out.cell 0, C5.out.cell 1⟩) (fun hSw => ?_); (try clear hSw); clear hK K; (try simp only [Act.put, List.setIfInBounds_toArray, List.set_cons_zero, List.set_cons_succ]))
    repeat (first | (refine wpMix_skip (by rfl) (by rfl) ?_; (try simp only [Act.put, List.setIfInBounds_toArray, List.set_cons_zero, List.set_cons_succ])) | (refine wpMix_take (v := ?_) (by rfl) (by rfl) (fun wS hSt => ?_) ?_; rotate_left; (focus ((try dsimp only at hSt); (go_simp <;> with_reducible rfl); done)); (try simp only [Act.put, List.setIfInBounds_toArray, List.set_cons_zero, List.set_cons_succ])))
    refine wpMix_nil ?_
    go_wp2_with fail
    go_ret2
    exact ⟨.inl ⟨hpk, A5, c5, rfl, O5.out, by rw [← Hq.out]; exact C5.out⟩, G5.out⟩
  · have hd : decide ((n : Int) - (p : Int) < (k : Int)) = true := by simp; omega
    go_enter Tryz.func123, Tryz.ntmps123
    go_wp2_with fail
    go_quiet (fail)
    go_wp2_with fail
    have D0 := Lib.hid (((OnlyG.refl w gc).drewN nq).drew)
    have K0 : (w.drewN nq).drew.cell? ⟨gc, 1, none⟩ = some (.int .i64 (p : Int)) := x1
    have hS := Lib.hid (fun w' (hb : Below w.heap.size (w.drewN nq).drew w') => ((hb.cell (p := ⟨gc, 1, none⟩) lg).trans K0 : w'.cell? ⟨gc, 1, none⟩ = some (.int .i64 (p : Int))))
    refine wp_region_mix (.take 0 (.take 1 (.take 2 (.take 3 (.take 4 (.take 7 (.bar 5 (.take 6 (.take 8 .nil))))))))) (fun w' => w'.cell? ⟨gc, 1, none⟩ = some (.int .i64 (p : Int))) (by kernel_rfl) (by kernel_rfl) K0 (fun _ => ?_)
    clear K0
    repeat (first | (refine wpMix_skip (by rfl) (by rfl) ?_; (try simp only [Act.put, List.setIfInBounds_toArray, List.set_cons_zero, List.set_cons_succ])) | (refine wpMix_take (v := ?_) (by rfl) (by rfl) (fun wS hSt => ?_) ?_; rotate_left; (focus ((try dsimp only at hSt); (go_simp <;> with_reducible rfl); done)); (try simp only [Act.put, List.setIfInBounds_toArray, List.set_cons_zero, List.set_cons_succ])))
    generalize (w.drewN nq).drew = u0 at D0 hS ⊢
    (refine wpMix_bar (by rfl) (fun K hK => ?_); go_simp)
    ((try dsimp only); refine hK.out _ _ (hS.out _ ((Below.refl _ _).alloc D0.out.size _)) (fun hSw => ?_); (try clear hSw); clear hK K; (try simp only [Act.put, List.setIfInBounds_toArray, List.set_cons_zero, List.set_cons_succ]))
    repeat (first | (refine wpMix_skip (by rfl) (by rfl) ?_; (try simp only [Act.put, List.setIfInBounds_toArray, List.set_cons_zero, List.set_cons_succ])) | (refine wpMix_take (v := ?_) (by rfl) (by rfl) (fun wS hSt => ?_) ?_; rotate_left; (focus ((try dsimp only at hSt); (go_simp <;> with_reducible rfl); done)); (try simp only [Act.put, List.setIfInBounds_toArray, List.set_cons_zero, List.set_cons_succ])))
    refine wpMix_nil ?_
    go_wp2_with fail
    go_ret2
    exact ⟨.inr ⟨by omega, _, rfl, _, rfl⟩, D0.out.alloc _⟩
end Go.Proofs.YtlegpecjoaklnaaGreatDoor
