/- Several texts in one. -/
import Derived.Test.YtlcgbnmmbheleaaGreatV13
namespace Go.Proofs.YtlcgbnmmbheleaaGreat
open Go.RowKit

theorem own_keep {w w' : World} {base : Nat} {e : TypeId} {size : Nat} {v : Value} {n : Nat} {xs : List Value} (h : w.ownsRow base e size v n xs) (hk : ∀ b, v.ownBlock = some b → w'.heap[b]? = w.heap[b]?) : w'.ownsRow base e size v n xs := by
  refine ⟨h.1, ?_⟩
  rcases h.2 with hn | ⟨g, cap, cur, rfl, hb, hgg, rest⟩
  · exact .inl hn
  · exact .inr ⟨g, cap, cur, rfl, hb, (hk g rfl).trans hgg, rest⟩
theorem own_set {w : World} {base : Nat} {e : TypeId} {size g n c : Nat} {xs : List Value} (h : w.ownsRow base e size (.slice (some ⟨g, 0, none⟩) n c) n xs) (i : Nat) (u : Value) : (w.setCell ⟨g, i, none⟩ u).ownsRow base e size (.slice (some ⟨g, 0, none⟩) n c) n (xs.set i u) := by
  refine ⟨by rw [List.length_set]; exact h.1, ?_⟩
  rcases h.2 with ⟨hn, _⟩ | ⟨g', cap, cur, hv, hb, hgg, h1, h2, h3, h4⟩
  · cases hn
  · injection hv with e1 e2 e3
    injection e1 with e1
    injection e1 with e1
    subst e1 e3
    refine .inr ⟨g, c, cur.setIfInBounds i u, rfl, hb, Blk.set_ (t := e) hgg i u, h1, h2, by simpa using h3, ?_⟩
    rw [Array.toList_setIfInBounds, List.take_set, h4]
theorem own_row {w : World} {base : Nat} {e : TypeId} {size n c : Nat} {A : Option Addr} {xs : List Value} (h : w.ownsRow base e size (.slice A n c) n xs) (hn : 0 < n) : ∃ g cur, A = some ⟨g, 0, none⟩ ∧ base ≤ g ∧ Blk w g e cur := by
  rcases h.2 with ⟨_, h0⟩ | ⟨g, cap, cur, hv, hb, hgg, _⟩
  · omega
  · injection hv with e1 e2 e3
    exact ⟨g, cur, e1, hb, hgg⟩
theorem own_built {w : World} {base : Nat} (e : TypeId) (a b : Value) (hb : base ≤ w.heap.size) : (w.alloc (.cells #[a, b] e)).ownsRow base e 2 (.slice (some ⟨w.heap.size, 0, none⟩) 1 1) 1 [a, b] :=
  ⟨rfl, .inr ⟨w.heap.size, 1, #[a, b], rfl, hb, heap_alloc_new w _, Nat.le_refl _, by unfold maxLen; omega, rfl, rfl⟩⟩
theorem own_src {w : World} {base : Nat} {e : TypeId} {n c : Nat} {A : Option Addr} {xs : List Value} (h : w.ownsRow base e 2 (.slice A n c) n xs) : Src w 2 A n xs := by
  refine ⟨h.1, fun hp => ?_⟩
  obtain ⟨g, cur, rfl, _, _⟩ := own_row h hp
  exact ⟨_, rfl, h.cells (g := g) rfl⟩
section
variable {w w' : World} {lo k k' : Nat} {vs vs' : List Value}
end

end Go.Proofs.YtlcgbnmmbheleaaGreat

namespace Go.Proofs.YtlcgbnmmbheleaaGreat
open Go.RowKit

theorem new_up (w : World) (o : Obj) : Below w.heap.size w (w.alloc o) := (Below.refl _ _).alloc (Nat.le_refl _) _
set_option maxRecDepth 100000 in
set_option maxHeartbeats 1600000 in
theorem l11Fits_any (A1 A2 A3 : Option Addr) (n1 c1 n2 c2 c3 : Nat) (room : List Int) (ts : List Tk) (id : Int) (xs : List Int) (w : World) (h1 : RdI w w.heap.size A1 n1 room) (h2 : RdT w w.heap.size A2 n2 ts) (h3 : RdI w w.heap.size A3 3 xs)
    (hn1 : 3 ≤ n1) (hn2 : n2 ≤ 900) (hl : ∀ j, j < n2 → (ts[j]?.getD (0, [])).2.length = 3) (hb : ∀ j i : Nat, 0 ≤ (ts[j]?.getD (0, [])).2[i]?.getD 0 ∧ (ts[j]?.getD (0, [])).2[i]?.getD 0 ≤ 1000)
    (hx : ∀ j, j < 3 → -1000000 ≤ xs[j]?.getD 0 ∧ xs[j]?.getD 0 ≤ 1000000) :
    Calls Tryz.prog 124 #[.slice A1 n1 c1, .slice A2 n2 c2, .agg #[.int .i64 id, .slice A3 3 c3]] w fun e w' => e = .returned (.bool (fits3 (add3 (loadP ts) xs) room)) ∧ Below w.heap.size w w' := by
  have HL := qh (show ∀ i, i < 3 → -1000000 ≤ (loadP ts)[i]?.getD 0 ∧ (loadP ts)[i]?.getD 0 ≤ 1000000 from fun i hi => by
    have := loadP_bd hb (k := ts.length) (Nat.le_refl _) i hi
    rw [List.take_length] at this
    have := h2.len
    omega)
  have H1 := qh h1
  have H2 := qh h2
  have H3 := qh h3
  have Hl := qh hl
  have Hb := qh hb
  have Hx := qh hx
  clear h1 h2 h3 hl hb hx
  go_enter Tryz.func124, Tryz.ntmps124
  go_wp2_with fail
  have hk := qh (show ∀ w', Below (w.heap.size + 1) (w.alloc (.cells #[.int .i64 id, .slice A3 3 c3] 40)) w' → w'.cell? ⟨w.heap.size, 1, none⟩ = some (.slice A3 3 c3) from fun w' hb => by
    rw [hb.cell (by simp)]
    exact (Blk.new w _ _).cell 1)
  have B0 := qh (new_up w (.cells #[.int .i64 id, .slice A3 3 c3] 40))
  have sz : (w.alloc (.cells #[.int .i64 id, .slice A3 3 c3] 40)).heap.size = w.heap.size + 1 := World.size_alloc _ _
  generalize hW : w.alloc (.cells #[.int .i64 id, .slice A3 3 c3] 40) = W at hk B0 sz ⊢
  have HW := qh hW
  have HS := qh sz
  have K0 := hk.out W (Below.refl _ _)
  clear hW sz
  go_region_held3 (fun w' => w'.cell? ⟨w.heap.size, 1, none⟩ = some (.slice A3 3 c3))
    (first
      | exact K0
      | exact K1
      | exact K2
      | exact K3)
    (first
      | (go_at_call 94; refine (l1Fits_any A5 A1 3 c5 n1 c1 _ _ _ _ w2 HR2.out (H1.out.below HB2.out) (Nat.le_refl _) hn1).mono ?_; rintro e w3 ⟨rfl, m3, hw3⟩; have HB3 := qh (show Below w.heap.size w w3 from hw3 ▸ below_drewN HB2.out m3); have K3 : w3.cell? ⟨w.heap.size, 1, none⟩ = some (.slice A3 3 c3) := (by rw [← hw3]; exact K2); clear hw3)
      | (go_at_call 53; go_loud (refine (l1Add_any A4 A3 3 c4 3 c3 _ _ w1 HR1.out ((H3.out.below HB1.out).more HB1.out.size) (Nat.le_refl _) (Nat.le_refl _) HL.out Hx.out).mono ?_; rintro e w2 ⟨A5, c5, rfl, hR2, hB2⟩; have HB2 := qh (below_to HB1.out hB2); have HR2 := qh hR2; have K2 := hk.out w2 ((HS.out ▸ HQ1.out).trans (hB2.mono (by have := HQ1.out.size; have := HS.out; omega))); clear hR2 hB2))
      | (go_at_call 26; refine (l2Load_any A2 n2 c2 ts W.drew (H2.out.up B0.out.drew) hn2 Hl.out Hb.out).mono ?_; rintro e w1 ⟨A4, c4, rfl, hR1, hB1⟩; have HB1 := qh (below_to B0.out.drew hB1); have HR1 := qh hR1; have HQ1 := qh (show Below W.heap.size W w1 from below_to (Below.refl _ _).drew hB1); have K1 := hk.out w1 (HS.out ▸ HQ1.out); clear hR1 hB1))
  go_wp2
  go_ret
  exact ⟨rfl, HB3.out⟩
end Go.Proofs.YtlcgbnmmbheleaaGreat

namespace Go.Proofs.YtlcgbnmmbheleaaGreat
open Go.RowKit

section
variable {w w' : World} {lo lo2 k M : Nat} {vs : List Value}
end
end Go.Proofs.YtlcgbnmmbheleaaGreat
