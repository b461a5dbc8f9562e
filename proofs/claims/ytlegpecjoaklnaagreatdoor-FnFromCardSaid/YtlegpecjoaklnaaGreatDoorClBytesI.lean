/- Walks: slices.Clip, the program's ClusterBytes, the draw DrawClusterBytes, laws.sameCluster. -/
import Derived.Test.YtlegpecjoaklnaaGreatDoorClImplB
import Derived.Test.YtlegpecjoaklnaaGreatDoorClImplV
import Derived.Test.YtlegpecjoaklnaaGreatDoorClSpecB
import Derived.Test.YtlegpecjoaklnaaGreatDoorJ4
namespace Go.Proofs.YtlegpecjoaklnaaGreatDoor
open Go Go.RowKit
attribute [local go_sem ↓] Go.wp_at_zero Go.wp_at_succ

theorem clip_any (b o n c : Nat) (w : World) (hc : n ≤ c) :
    Calls Tryz.prog 76 #[.slice (some ⟨b, o, none⟩) n c] w fun e w' => e = .returned (.slice (some ⟨b, o, none⟩) n n) ∧ w = w' := by
  go_enter Tryz.func76, Tryz.ntmps76
  go_wp2
  go_ret
  exact ⟨rfl, rfl⟩

set_option maxRecDepth 100000 in
set_option maxHeartbeats 1600000 in
theorem clusterBytesI_any (A1 A2 : Option Addr) (n1 c1 n2 c2 : Nat) (room : List Int) (us : List Un) (w : World) (h : RdC w A1 A2 n1 n2 room us) (hs : ShU us) (hn1 : n1 ≤ 1048576) :
    Calls Tryz.prog 24 #[.agg #[.slice A1 n1 c1, .slice A2 n2 c2]] w fun e w' => ∃ A m c, e = .returned (.tuple #[.slice A m c, .bool (clOk room us)]) ∧ RdI w' w'.heap.size A m (bytesOr room us) ∧ m ≤ c ∧ Below w.heap.size w w' := by
  have H := Lib.hid h
  have Hs := Lib.hid hs
  clear h hs
  have B1 := Lib.hid (alloc_up w (.cells #[.slice A1 n1 c1, .slice A2 n2 c2] 26))
  have P1 := Lib.hid (Blk.new w 26 #[.slice A1 n1 c1, .slice A2 n2 c2])
  have y0 := P1.out.cell 0
  have y1 := P1.out.cell 1
  simp only [List.getElem?_toArray, List.getElem?_cons_zero, List.getElem?_cons_succ] at y0 y1
  go_enter Tryz.func24, Tryz.ntmps24
  go_wp2_with fail
  generalize w.alloc (.cells #[.slice A1 n1 c1, .slice A2 n2 c2] 26) = w1 at B1 P1 y0 y1 ⊢
  refine (clusterValidI_any A1 A2 n1 c1 n2 c2 room us w1 (H.out.up B1.out) Hs.out).mono ?_; rintro e w2 ⟨rfl, hb2⟩
  have B2 := Lib.hid (below_to B1.out hb2)
  have P2 := Lib.hid (P1.out.below hb2 P1.out.lt)
  clear hb2 y0 y1 B1 P1
  have y0 := P2.out.cell 0
  have y1 := P2.out.cell 1
  simp only [List.getElem?_toArray, List.getElem?_cons_zero, List.getElem?_cons_succ] at y0 y1
  cases hok : clOk room us with
  | false =>
    have hno := Lib.hid (bytesOr_no hok)
    go_wp2_with fail
    refine bodyPost_ret (v := .tuple #[.slice none 0 0, .bool false]) (by simp [results, Tryz.results24, go_sem]) rfl ⟨none, 0, 0, by rw [hok], ?_, Nat.le_refl _, B2.out⟩
    rw [hno.out]
    exact ⟨rfl, by omega, fun h => absurd h (by omega)⟩
  | true =>
    have hyes := Lib.hid (bytesOr_yes hok)
    have Hok := Lib.hid hok
    have hlen := Lib.hid ((bytes_bytes hok).2.2)
    clear hok
    go_wp2_with fail
    refine (bytesOf_any A1 A2 n1 c1 n2 c2 room us w2 (H.out.up B2.out) Hs.out hn1).mono ?_; rintro e w3 ⟨A, m, c, rfl, hown, hb3⟩
    have hm := own_len hown
    obtain ⟨b, _, rfl, _, _⟩ := own_row hown (by have := hlen.out; omega)
    have hcap := own_cap' hown
    have R3 := Lib.hid (own_rdI hown (own_le hown))
    have B3 := Lib.hid (below_to B2.out hb3)
    clear hown hb3 y0 y1
    go_wp2_with fail
    refine (clip_any b 0 m c w3 hcap).mono ?_; rintro e w4 ⟨rfl, rfl⟩
    go_wp2_with fail
    refine bodyPost_ret (v := .tuple #[.slice (some ⟨b, 0, none⟩) m m, .bool true]) (by simp [results, Tryz.results24, go_sem]) rfl ⟨some ⟨b, 0, none⟩, m, m, by rw [Hok.out], ?_, Nat.le_refl _, B3.out⟩
    rw [hyes.out]
    exact R3.out
end Go.Proofs.YtlegpecjoaklnaaGreatDoor
