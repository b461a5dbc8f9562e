/- Walks: laws.eqUnit, eqUnitS, eqCluster at clusters that read alike. -/
import Derived.Test.YtjjnbbkdjimcoaaGreatJ2
import Derived.Test.YtjjnbbkdjimcoaaGreatJ4
namespace Go.Proofs.YtjjnbbkdjimcoaaGreat
open Go Go.RowKit
attribute [local go_sem ↓] Go.wp_at_zero Go.wp_at_succ

set_option maxHeartbeats 800000 in
theorem eqUnit_any (A1 A2 : Option Addr) (n c1 c2 : Nat) (op : Bool) (ts : List Tk) (w : World) (h1 : RdT w w.heap.size A1 n ts) (h2 : RdT w w.heap.size A2 n ts) :
    Calls Tryz.prog 110 #[.agg #[.bool op, .slice A1 n c1], .agg #[.bool op, .slice A2 n c2]] w fun e w' => e = .returned (.bool true) ∧ Below w.heap.size w w' := by
  have H1 := qh h1
  have H2 := qh h2
  clear h1 h2
  have sz : (w.alloc (.cells #[.bool op, .slice A1 n c1] 72)).heap.size = w.heap.size + 1 := World.size_alloc _ _
  have B2 := qh ((alloc_up w (.cells #[.bool op, .slice A1 n c1] 72)).alloc (by rw [sz]; omega) (.cells #[.bool op, .slice A2 n c2] 72))
  have P := (Blk.new w 72 #[.bool op, .slice A1 n c1]).alloc (.cells #[.bool op, .slice A2 n c2] 72)
  have Q := Blk.new (w.alloc (.cells #[.bool op, .slice A1 n c1] 72)) 72 #[.bool op, .slice A2 n c2]
  rw [sz] at Q
  have x0 := P.cell 0
  have x1 := P.cell 1
  have y0 := Q.cell 0
  have y1 := Q.cell 1
  simp only [gT, gZ, gS] at x0 x1 y0 y1
  clear P Q sz
  have hcall := qh (eqTaskS_any A1 A2 n c1 c2 ts _ (H1.out.up B2.out) (H2.out.up B2.out))
  go_enter Tryz.func110, Tryz.ntmps110
  go_wp2_with (go_at_call 31; refine hcall.out.mono ?_; rintro e w' ⟨rfl, hb⟩)
  go_ret
  exact ⟨rfl, below_to B2.out hb⟩

set_option maxRecDepth 100000 in
set_option maxHeartbeats 800000 in
theorem eqUnitS_any (A1 A2 : Option Addr) (n c1 c2 : Nat) (us : List Un) (w : World) (h1 : RdN w w.heap.size A1 n us) (h2 : RdN w w.heap.size A2 n us) :
    Calls Tryz.prog 72 #[.slice A1 n c1, .slice A2 n c2] w fun e w' => e = .returned (.bool true) ∧ Below w.heap.size w w' := by
  have hn := h1.le
  have H1 := qh h1
  have H2 := qh h2
  clear h1 h2
  go_enter Tryz.func72, Tryz.ntmps72
  go_wp2_with fail
  go_loopw [5] (fun i wr => ∃ k : Nat, i = .int .i64 k ∧ k ≤ n ∧ Below w.heap.size w wr) (fun i _ => n - (intOf i).toNat)
  case atStart => exact ⟨0, rfl, Nat.zero_le _, Below.refl _ _⟩
  case round =>
    obtain ⟨k, rfl, hk, hbel⟩ := hrel
    have Hb := qh hbel
    clear hbel
    by_cases hlt : k < n
    · have Hd := qh (Hb.out.drew)
      obtain ⟨b1, o1, A1', m1, c1', rfl, lb1, ha1, ha2, hac, har⟩ := (H1.out.up Hd.out).at_ hlt
      obtain ⟨b2, o2, A2', m2, c2', rfl, lb2, hd1, hd2, hdc, hdr⟩ := (H2.out.up Hd.out).at_ hlt
      have k1 : (0 : Int) ≤ (k : Int) := by omega
      have k2 : (k : Int) < (n : Int) := by omega
      have k3 : 0 ≤ (k : Int) * 2 := by omega
      obtain rfl : m1 = m2 := by have := har.len; have := hdr.len; omega
      have hcall := qh (fun op => eqUnit_any A1' A2' m1 c1' c2' op _ wr.drew har hdr)
      clear har hdr
      generalize (us[k]?.getD (false, [])).1 = op at *
      have K0 : (wr.drew.cell? ⟨b1, o1 + k * 2, none⟩ = some (.bool op) ∧ wr.drew.cell? ⟨b1, o1 + k * 2 + 1, none⟩ = some (.slice A1' m1 c1')) ∧ wr.drew.cell? ⟨b2, o2 + k * 2, none⟩ = some (.bool op) ∧ wr.drew.cell? ⟨b2, o2 + k * 2 + 1, none⟩ = some (.slice A2' m1 c2') := ⟨⟨ha1, ha2⟩, hd1, hd2⟩
      have HK := qh (fun w' (hb : Below wr.drew.heap.size wr.drew w') => (⟨⟨(hb.cell (p := ⟨b1, o1 + k * 2, none⟩) lb1).trans ha1, (hb.cell (p := ⟨b1, o1 + k * 2 + 1, none⟩) lb1).trans ha2⟩, (hb.cell (p := ⟨b2, o2 + k * 2, none⟩) lb2).trans hd1, (hb.cell (p := ⟨b2, o2 + k * 2 + 1, none⟩) lb2).trans hd2⟩ : (w'.cell? ⟨b1, o1 + k * 2, none⟩ = some (.bool op) ∧ w'.cell? ⟨b1, o1 + k * 2 + 1, none⟩ = some (.slice A1' m1 c1')) ∧ w'.cell? ⟨b2, o2 + k * 2, none⟩ = some (.bool op) ∧ w'.cell? ⟨b2, o2 + k * 2 + 1, none⟩ = some (.slice A2' m1 c2')))
      clear ha1 ha2 hd1 hd2
      go_wp2_with fail
      refine wp_region_mix (.take 0 (.take 1 (.take 2 (.take 3 (.take 4 (.take 5 (.take 6 (.take 7 (.bar 8 (.take 9 .nil)))))))))) (fun w' => (w'.cell? ⟨b1, o1 + k * 2, none⟩ = some (.bool op) ∧ w'.cell? ⟨b1, o1 + k * 2 + 1, none⟩ = some (.slice A1' m1 c1')) ∧ w'.cell? ⟨b2, o2 + k * 2, none⟩ = some (.bool op) ∧ w'.cell? ⟨b2, o2 + k * 2 + 1, none⟩ = some (.slice A2' m1 c2')) (by kernel_rfl) (by kernel_rfl) K0 (fun _ => ?_)
      clear K0
      repeat ((first | refine wpMix_skip (by rfl) (by rfl) ?_ | (refine wpMix_take (v := ?_) (by rfl) (by rfl) (fun wS hSt => ?_) ?_; rotate_left; (focus ((try dsimp only at hSt); (go_simp <;> with_reducible rfl); done)))); (try simp only [Act.put, pS, pZ, pC]))
      (refine wpMix_bar (by rfl) (fun K hK => ?_); go_simp)
      refine (hcall.out op).mono ?_; rintro e w2 ⟨rfl, hb2⟩
      have B2 := qh (below_to Hd.out hb2)
      ((try dsimp only); refine nxK hK _ _ (HK.out _ hb2) ?_; clear hK K; (try simp only [Act.put, pS, pZ, pC]))
      clear hb2
      repeat ((first | refine wpMix_skip (by rfl) (by rfl) ?_ | (refine wpMix_take (v := ?_) (by rfl) (by rfl) (fun wS hSt => ?_) ?_; rotate_left; (focus ((try dsimp only at hSt); (go_simp <;> with_reducible rfl); done)))); (try simp only [Act.put, pS, pZ, pC]))
      refine wpMix_nil ?_
      go_wp2_with fail
      go_roundw
      case rel => exact ⟨k + 1, by go_num, by omega, B2.out⟩
      case measure => simp [intOf]; omega
    · obtain rfl : k = n := by omega
      go_wp2_with fail
      go_ret
      exact ⟨rfl, Hb.out⟩

set_option maxHeartbeats 800000 in
theorem eqCluster_any (A1 A2 A3 A4 : Option Addr) (n1 n2 c1 c2 c3 c4 : Nat) (room : List Int) (us : List Un) (w : World) (h : RdC w A1 A2 n1 n2 room us) (k : RdC w A3 A4 n1 n2 room us) :
    Calls Tryz.prog 30 #[.agg #[.slice A1 n1 c1, .slice A2 n2 c2], .agg #[.slice A3 n1 c3, .slice A4 n2 c4]] w fun e w' => e = .returned (.bool true) ∧ Below w.heap.size w w' := by
  have H := qh h
  have K := qh k
  clear h k
  have sz : (w.alloc (.cells #[.slice A1 n1 c1, .slice A2 n2 c2] 26)).heap.size = w.heap.size + 1 := World.size_alloc _ _
  have B2 := qh ((alloc_up w (.cells #[.slice A1 n1 c1, .slice A2 n2 c2] 26)).alloc (by rw [sz]; omega) (.cells #[.slice A3 n1 c3, .slice A4 n2 c4] 26))
  have P := qh ((Blk.new w 26 #[.slice A1 n1 c1, .slice A2 n2 c2]).alloc (.cells #[.slice A3 n1 c3, .slice A4 n2 c4] 26))
  have hQ := Blk.new (w.alloc (.cells #[.slice A1 n1 c1, .slice A2 n2 c2] 26)) 26 #[.slice A3 n1 c3, .slice A4 n2 c4]
  rw [sz] at hQ
  have Q := qh hQ
  have x0 := P.out.cell 0
  have y0 := Q.out.cell 0
  simp only [gT, gZ] at x0 y0
  clear hQ sz
  go_enter Tryz.func30, Tryz.ntmps30
  go_wp2_with fail
  generalize (w.alloc (.cells #[.slice A1 n1 c1, .slice A2 n2 c2] 26)).alloc (.cells #[.slice A3 n1 c3, .slice A4 n2 c4] 26) = w2 at B2 P Q x0 y0 ⊢
  refine (eqIntS_any A1 A3 n1 c1 c3 _ _ room w2 (H.out.up B2.out).a (K.out.up B2.out).a).mono ?_; rintro e w3 ⟨rfl, m, rfl⟩
  have x1 := (P.out.drewN m).cell 1
  have y1 := (Q.out.drewN m).cell 1
  simp only [gT, gZ, gS] at x1 y1
  have B3 := qh (below_drewN B2.out m)
  have hcall := qh (eqUnitS_any A2 A4 n2 c2 c4 us (w2.drewN m) (H.out.up B3.out).b (K.out.up B3.out).b)
  clear x0 y0
  go_wp2_with (go_at_call 72; refine hcall.out.mono ?_; rintro e w' ⟨rfl, hb⟩)
  go_ret
  exact ⟨rfl, below_to B3.out hb⟩
end Go.Proofs.YtjjnbbkdjimcoaaGreat
