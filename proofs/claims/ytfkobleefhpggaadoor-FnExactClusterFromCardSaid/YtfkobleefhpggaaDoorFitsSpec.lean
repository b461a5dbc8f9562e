/- Walk: l11Fits, whether a task fits onto a node. -/
import Derived.Test.YtfkobleefhpggaaDoorLawKit
import Derived.Test.YtfkobleefhpggaaDoorZoneLaw
namespace Go.Proofs.YtfkobleefhpggaaDoor
open Go.RowKit

theorem new_up (w : World) (o : Obj) : Below w.heap.size w (w.alloc o) := (Below.refl _ _).alloc (Nat.le_refl _) _
theorem new_drew_up (w : World) (o : Obj) : Below w.heap.size w (w.alloc o).drew := (new_up w o).drew

set_option maxRecDepth 100000 in
set_option maxHeartbeats 1600000 in
theorem l11Fits_any (A1 A2 A3 : Option Addr) (n1 c1 n2 c2 c3 : Nat) (room : List Int) (ts : List Tk) (id : Int) (xs : List Int) (w : World) (h1 : RdI w w.heap.size A1 n1 room) (h2 : RdT w w.heap.size A2 n2 ts) (h3 : RdI w w.heap.size A3 3 xs)
    (hn1 : 3 ≤ n1) (hn2 : n2 ≤ 900) (hl : ∀ j, j < n2 → (ts[j]?.getD (0, [])).2.length = 3) (hb : ∀ j i : Nat, 0 ≤ (ts[j]?.getD (0, [])).2[i]?.getD 0 ∧ (ts[j]?.getD (0, [])).2[i]?.getD 0 ≤ 1000)
    (hx : ∀ j, j < 3 → -1000000 ≤ xs[j]?.getD 0 ∧ xs[j]?.getD 0 ≤ 1000000) :
    Calls Tryd.prog 97 #[.slice A1 n1 c1, .slice A2 n2 c2, .agg #[.int .i64 id, .slice A3 3 c3]] w fun e w' => e = .returned (.bool (fits3 (add3 (loadP ts) xs) room)) ∧ Below w.heap.size w w' := by
  have HL := Lib.hid (show ∀ i, i < 3 → -1000000 ≤ (loadP ts)[i]?.getD 0 ∧ (loadP ts)[i]?.getD 0 ≤ 1000000 from fun i hi => by
    have := loadP_bd hb (k := ts.length) (Nat.le_refl _) i hi
    rw [List.take_length] at this
    have := h2.len
    omega)
  have H1 := Lib.hid h1
  have H2 := Lib.hid h2
  have H3 := Lib.hid h3
  have Hl := Lib.hid hl
  have Hb := Lib.hid hb
  have Hx := Lib.hid hx
  clear h1 h2 h3 hl hb hx
  go_enter Tryd.func97, Tryd.ntmps97
  go_wp2_with fail
  have hk := Lib.hid (show ∀ w', Below (w.heap.size + 1) (w.alloc (.cells #[.int .i64 id, .slice A3 3 c3] 66)) w' → w'.cell? ⟨w.heap.size, 1, none⟩ = some (.slice A3 3 c3) from fun w' hb => by
    rw [hb.cell (by simp)]
    exact (Blk.new w _ _).cell 1)
  have B0 := Lib.hid (new_up w (.cells #[.int .i64 id, .slice A3 3 c3] 66))
  have sz : (w.alloc (.cells #[.int .i64 id, .slice A3 3 c3] 66)).heap.size = w.heap.size + 1 := World.size_alloc _ _
  generalize hW : w.alloc (.cells #[.int .i64 id, .slice A3 3 c3] 66) = W at hk B0 sz ⊢
  have HW := Lib.hid hW
  have HS := Lib.hid sz
  have K0 := hk.out W (Below.refl _ _)
  clear hW sz
  go_region_held3 (fun w' => w'.cell? ⟨w.heap.size, 1, none⟩ = some (.slice A3 3 c3))
    (first
      | exact K0
      | exact K1
      | exact K2
      | exact K3)
    (first
      | (go_at_call 79; refine (l1Fits_any A5 A1 3 c5 n1 c1 _ _ _ _ w2 HR2.out (H1.out.below HB2.out) (Nat.le_refl _) hn1).mono ?_; rintro e w3 ⟨rfl, m3, hw3⟩; have HB3 := Lib.hid (show Below w.heap.size w w3 from hw3 ▸ below_drewN HB2.out m3); have K3 : w3.cell? ⟨w.heap.size, 1, none⟩ = some (.slice A3 3 c3) := (by rw [← hw3]; exact K2); clear hw3)
      | (go_at_call 93; go_loud (refine (l1Add_any A4 A3 3 c4 3 c3 _ _ w1 HR1.out ((H3.out.below HB1.out).more HB1.out.size) (Nat.le_refl _) (Nat.le_refl _) HL.out Hx.out).mono ?_; rintro e w2 ⟨A5, c5, rfl, hR2, hB2⟩; have HB2 := Lib.hid (below_to HB1.out hB2); have HR2 := Lib.hid hR2; have K2 := hk.out w2 ((HS.out ▸ HQ1.out).trans (hB2.mono (by have := HQ1.out.size; have := HS.out; omega))); clear hR2 hB2))
      | (go_at_call 80; refine (l2Load_any A2 n2 c2 ts W.drew (H2.out.up B0.out.drew) hn2 Hl.out Hb.out).mono ?_; rintro e w1 ⟨A4, c4, rfl, hR1, hB1⟩; have HB1 := Lib.hid (below_to B0.out.drew hB1); have HR1 := Lib.hid hR1; have HQ1 := Lib.hid (show Below W.heap.size W w1 from below_to (Below.refl _ _).drew hB1); have K1 := hk.out w1 (HS.out ▸ HQ1.out); clear hR1 hB1))
  go_wp2
  go_ret
  exact ⟨rfl, HB3.out⟩
end Go.Proofs.YtfkobleefhpggaaDoor
