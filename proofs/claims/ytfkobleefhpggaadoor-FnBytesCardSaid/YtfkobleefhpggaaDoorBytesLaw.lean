/- The walks of the laws FnBytes and FnBytesDamage. -/
import Derived.Test.YtfkobleefhpggaaDoorClDraw
import Derived.Test.YtfkobleefhpggaaDoorClBytesI
import Derived.Test.YtfkobleefhpggaaDoorClSame
import Derived.Test.YtfkobleefhpggaaDoorClImplF
namespace Go.Proofs.YtfkobleefhpggaaDoor
open Go Go.RowKit
attribute [local go_sem ↓] Go.wp_at_zero Go.wp_at_succ

/-- A cluster that a law has drawn. -/
def DrewCl (w w' : World) (e : Ending) : Prop := ∃ A1 m1 c1 A2 m2 c2 room us, e = .returned (.agg #[.slice A1 m1 c1, .slice A2 m2 c2]) ∧ (∀ u, KeepTU w' u → RdC u A1 A2 m1 m2 room us) ∧ ShU us ∧ m1 ≤ 3 ∧ m1 ≤ c1 ∧ m2 ≤ c2 ∧ Below w.heap.size w w'

set_option maxRecDepth 100000 in
set_option maxHeartbeats 1600000 in
theorem drawClusterBytes_any (A : Option Addr) (n c : Nat) (w : World) (h : RdU w w.heap.size A n) (hc : n ≤ c) (hcm : c ≤ 9223372036854775807) :
    Calls Tryd.prog 14 #[.slice A n c] w fun e w' => DrewCl w w' e := by
  have B1 := Lib.hid (alloc_up w (.cells #[.slice none 0 0, .slice none 0 0] 25))
  have Z1 := Lib.hid (Blk.new w 25 #[.slice none 0 0, .slice none 0 0])
  have HU := Lib.hid (h.keep (w' := w.alloc (.cells #[.slice none 0 0, .slice none 0 0] 25)) (fun p hp => B1.out.cell hp))
  clear h
  go_enter Tryd.func14, Tryd.ntmps14
  go_wp2_with fail
  generalize w.alloc (.cells #[.slice none 0 0, .slice none 0 0] 25) = w1 at B1 Z1 HU ⊢
  have lz := Z1.out.lt
  refine (l6Open_any A n c w1 (fun hn => by obtain ⟨b, o, e, hb, hx⟩ := HU.out hn; exact ⟨b, o, e, by omega, hx⟩) hc hcm).mono ?_; rintro e w2 ⟨rfl, R2, hb2⟩
  have B2 := Lib.hid (below_to B1.out hb2)
  have Z2 := Lib.hid (Z1.out.below hb2 Z1.out.lt)
  have HR2 := Lib.hid R2
  clear hb2 R2 HU
  go_wp2_with fail
  refine (l92Cluster_any w1.heap.size 0 w2 HR2.out (by omega)).mono ?_; rintro e w3 hD
  obtain ⟨A1, m1, c1, A2, m2, c2, room, us, rfl, hr, hs, hm1, hc1, hc2, o3, _⟩ := hD
  have B3 := Lib.hid (o3.to_below B2.out (by omega))
  have Z3 := Lib.hid (o3.blk Z2.out (by omega))
  have Hr := Lib.hid hr
  have Hs := Lib.hid hs
  clear hr hs o3 HR2
  have x2 := Z3.out.frozen 0
  have x3 := Z3.out.frozen 1
  have x0 := Z3.out.cell 0
  have x1 := Z3.out.cell 1
  simp only [List.getElem?_toArray, List.getElem?_cons_zero, List.getElem?_cons_succ] at x0 x1
  go_wp2_with fail
  have KT := Lib.hid ((KeepTU.set_ Z3.out (by decide) (by decide) (by decide) 0 (.slice A1 m1 c1)).trans (KeepTU.set_ (Z3.out.set_ 0 (.slice A1 m1 c1)) (by decide) (by decide) (by decide) 1 (.slice A2 m2 c2)))
  have EQ := Lib.hid ((Z3.out.set_ 0 (.slice A1 m1 c1)).set_ 1 (.slice A2 m2 c2))
  have B9 := Lib.hid ((B3.out.setCell (p := ⟨w.heap.size, 0, none⟩) (Nat.le_refl _) (.slice A1 m1 c1)).setCell (p := ⟨w.heap.size, 1, none⟩) (Nat.le_refl _) (.slice A2 m2 c2))
  generalize World.setCell (World.setCell w3 ⟨w.heap.size, 0, none⟩ (.slice A1 m1 c1)) ⟨w.heap.size, 1, none⟩ (.slice A2 m2 c2) = w9 at EQ KT B9 ⊢
  have z0 : w9.cell? ⟨w.heap.size, 0, none⟩ = some (.slice A1 m1 c1) := EQ.out.cell 0
  have z1 : w9.cell? ⟨w.heap.size, 1, none⟩ = some (.slice A2 m2 c2) := EQ.out.cell 1
  refine bodyPost_ret (v := .agg #[.slice A1 m1 c1, .slice A2 m2 c2]) (by simp [results, Tryd.results14, go_sem, z0, z1]) rfl ⟨A1, m1, c1, A2, m2, c2, room, us, rfl, fun u hk => Hr.out u (KT.out.trans hk), Hs.out, hm1, hc1, hc2, B9.out⟩

set_option maxRecDepth 100000 in
set_option maxHeartbeats 3200000 in
theorem bytes_walk (A : Option Addr) (n c : Nat) (w : World) (h : RdU w w.heap.size A n) (hc : n ≤ c) (hcm : c ≤ 9223372036854775807) (hh : HandleMet w) :
    Calls Tryd.prog 5 #[.slice A n c] w fun e w' => e = .returned (.bool true) ∧ Below w.heap.size w w' := by
  by_cases kn : 1048576 < n
  · go_enter Tryd.func5, Tryd.ntmps5
    go_wp2
    go_ret
    exact ⟨rfl, Below.refl _ _⟩
  have lh := hh.lt
  go_enter Tryd.func5, Tryd.ntmps5
  go_wp2_with fail
  refine (drawClusterBytes_any A n c w h hc hcm).mono ?_; rintro e w1 hD
  obtain ⟨A1, m1, c1, A2, m2, c2, room, us, rfl, hr, hs, hm1, hc1, hc2, hb1⟩ := hD
  have d2 := alloc_up w1 (.cells #[.slice A1 m1 c1, .slice A2 m2 c2] 25)
  have B2 := Lib.hid (below_to hb1 d2)
  have P2 := Lib.hid (Blk.new w1 25 #[.slice A1 m1 c1, .slice A2 m2 c2])
  have C2 := Lib.hid (hr _ (KeepTU.up d2))
  have Hs := Lib.hid hs
  clear h hr hs hb1 d2
  have y0 := P2.out.cell 0
  have y1 := P2.out.cell 1
  simp only [List.getElem?_toArray, List.getElem?_cons_zero, List.getElem?_cons_succ] at y0 y1
  go_wp2_with fail
  generalize w1.heap.size = p at P2 y0 y1 ⊢
  generalize w1.alloc (.cells #[.slice A1 m1 c1, .slice A2 m2 c2] 25) = w2 at B2 P2 C2 y0 y1 ⊢
  refine (clusterBytesI_any A1 A2 m1 c1 m2 c2 room us w2 C2.out Hs.out (by omega)).mono ?_; rintro e w3 ⟨A3, m3, c3, rfl, hr3, hc3, hb3⟩
  have B3 := Lib.hid (below_to B2.out hb3)
  have P3 := Lib.hid (P2.out.below hb3 P2.out.lt)
  have C3 := Lib.hid (C2.out.up hb3)
  have R3 := Lib.hid hr3
  clear hr3 hb3 y0 y1 B2 P2 C2
  have y0 := P3.out.cell 0
  have y1 := P3.out.cell 1
  simp only [List.getElem?_toArray, List.getElem?_cons_zero, List.getElem?_cons_succ] at y0 y1
  go_wp2_with fail
  refine (clusterBytesS_any A1 A2 m1 c1 m2 c2 room us w3 C3.out Hs.out (by omega)).mono ?_; rintro e w4 ⟨A4, m4, c4, rfl, hown, hb4⟩
  have em : m4 = m3 := by have := own_len hown; have := R3.out.len; omega
  subst em
  have B4 := Lib.hid (below_to B3.out hb4)
  have P4 := Lib.hid (P3.out.below hb4 P3.out.lt)
  have C4 := Lib.hid (C3.out.up hb4)
  have R4 := Lib.hid (R3.out.up hb4)
  have Q4 := Lib.hid (own_rdI hown (own_le hown))
  clear hown hb4 y0 y1 B3 P3 C3 R3
  cases hok : clOk room us with
  | false =>
    have hne : (false != false) = false := rfl
    go_wp2_with fail
    refine (sameInts_any A3 A4 m4 c3 c4 _ _ _ w4 R4.out Q4.out).mono ?_; rintro e w5 ⟨rfl, m5, rfl⟩
    have B5 := Lib.hid (below_drewN B4.out m5)
    have R5 := Lib.hid (R4.out.drewN m5)
    have Q5 := Lib.hid (Q4.out.drewN m5)
    generalize w4.drewN m5 = w5 at B5 R5 Q5 ⊢
    go_wp2_with fail
    refine (sameInts_any A3 A4 m4 c3 c4 _ _ _ w5 R5.out Q5.out).mono ?_; rintro e w6 ⟨rfl, m6, rfl⟩
    have B6 := Lib.hid (below_drewN B5.out m6)
    go_wp2
    go_ret
    exact ⟨rfl, B6.out⟩
  | true =>
    have hyes := bytesOr_yes hok
    have hfrom := Lib.hid (from_bytes hok)
    rw [hyes] at R4 Q4
    clear hyes hok
    have hne : (true != true) = false := rfl
    go_wp2_with fail
    refine (sameInts_any A3 A4 m4 c3 c4 _ _ _ w4 R4.out Q4.out).mono ?_; rintro e w5 ⟨rfl, m5, rfl⟩
    have B5 := Lib.hid (below_drewN B4.out m5)
    have P5 := Lib.hid (P4.out.drewN m5)
    have C5 := Lib.hid (C4.out.up (drew_below w4 m5))
    have R5 := Lib.hid (show RdI (w4.drewN m5) (w4.drewN m5).heap.size A3 m4 (bytesP room us) from R4.out.drewN m5)
    clear B4 P4 C4 R4 Q4
    generalize w4.drewN m5 = w5 at B5 P5 C5 R5 ⊢
    go_wp2_with fail
    refine (clusterFromI_any A3 m4 c3 (bytesP room us) w5 R5.out hc3 (hh.up B5.out lh)).mono ?_; rintro e w6 ⟨A5, m5, c5, A6, m6, c6, rfl, hoc, hb6⟩
    have hfs : (fromS (bytesP room us)).isSome = true := by rw [hfrom.out]; rfl
    have hfc : fromC (bytesP room us) = (room, us) := by unfold fromC; rw [hfrom.out]; rfl
    rw [hfc] at hoc
    have O6 := Lib.hid (hoc.rd (by have := hoc.len; have := C5.out.a.len; dsimp only at *; omega) Hs.out)
    have B6 := Lib.hid (below_to B5.out hb6)
    have P6 := Lib.hid (P5.out.below hb6 P5.out.lt)
    have C6 := Lib.hid (C5.out.up hb6)
    have e5 : m5 = m1 := by have := O6.out.a.len; have := C6.out.a.len; dsimp only at *; omega
    have e6 : m6 = m2 := by have := O6.out.b.len; have := C6.out.b.len; dsimp only at *; omega
    subst e5 e6
    clear hoc hb6 B5 P5 C5 R5 hfc
    have d7 := alloc_up w6 (.cells #[.slice A5 m5 c5, .slice A6 m6 c6] 25)
    have B7 := Lib.hid (below_to B6.out d7)
    have P7 := Lib.hid (P6.out.below d7 P6.out.lt)
    have C7 := Lib.hid (C6.out.up d7)
    have O7 := Lib.hid (O6.out.up d7)
    have X7 := Lib.hid (Blk.new w6 25 #[.slice A5 m5 c5, .slice A6 m6 c6])
    clear d7 B6 P6 C6 O6
    have y0 := P7.out.cell 0
    have y1 := P7.out.cell 1
    have x0 := X7.out.cell 0
    have x1 := X7.out.cell 1
    simp only [List.getElem?_toArray, List.getElem?_cons_zero, List.getElem?_cons_succ] at y0 y1 x0 x1
    go_wp2_with fail
    generalize w6.alloc (.cells #[.slice A5 m5 c5, .slice A6 m6 c6] 25) = w7 at B7 P7 C7 O7 X7 y0 y1 x0 x1 ⊢
    refine (sameCluster_any A5 A6 A1 A2 m5 c5 m6 c6 c1 c2 room us w7 O7.out C7.out).mono ?_; rintro e w8 ⟨rfl, hb8⟩
    have B8 := Lib.hid (below_to B7.out hb8)
    clear y0 y1 x0 x1
    go_wp2
    go_ret
    exact ⟨rfl, B8.out⟩
end Go.Proofs.YtfkobleefhpggaaDoor
