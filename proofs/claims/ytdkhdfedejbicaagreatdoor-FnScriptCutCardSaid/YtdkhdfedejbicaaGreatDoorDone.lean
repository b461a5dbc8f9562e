/- Walks: the program's done; ClusterArrive, ClusterDepart, ClusterOpen. -/
import Derived.Test.YtdkhdfedejbicaaGreatDoorHostDo
import Derived.Test.YtdkhdfedejbicaaGreatDoorJ14
import Derived.Shelf.Abstract
namespace Go.Proofs.YtdkhdfedejbicaaGreatDoor
set_option linter.unusedSimpArgs false
set_option linter.unusedVariables false
open Go Go.RowKit
attribute [local go_sem ↓] Go.wp_at_zero Go.wp_at_succ

theorem clOk_sh {room : List Int} {us : List Un} (h : clOk room us = true) : ShU us := by
  obtain ⟨_, _, f3, f4⟩ := clOk_facts h
  exact ⟨by omega, fun u hu => ⟨by have := (f4 u hu).1; omega, fun t ht => by have := (f4 u hu).2 t ht; omega⟩⟩

set_option maxRecDepth 100000 in
set_option maxHeartbeats 1600000 in
theorem done_any (F : FuncId) (caps : Array Value) (A1 A2 : Option Addr) (n1 c1 n2 c2 : Nat) (room : List Int) (us : List Un) (R : List Int × List Un × Int) (w : World) (h : RdC w A1 A2 n1 n2 room us) (hs : ShV us)
    (hent : ∀ args W, (callFunc F args).run Tryz.prog W = .ok (.enter F args) W) (hbad : clOk room us = false → R = ([], [], 1)) (hR : clOk room us = true → R.1 = room ∧ clOk room R.2.1 = true)
    (hF : clOk room us = true → ∀ W base hb A3 c3, Below w.heap.size w W → HostR W base hb 0 A3 n1 c3 n2 room us → Calls Tryz.prog F (#[.pointer (some ⟨hb, 0, none⟩)] ++ caps) W fun e W' => e = .returned (.int .i64 R.2.2) ∧ HostP W' hb A3 n1 c3 n2 room R.2.1 ∧ Below base W W') :
    Calls Tryz.prog 67 #[.agg #[.slice A1 n1 c1, .slice A2 n2 c2], .func (.func F) #[] caps] w fun e w' => ∃ A3 m3 c3 A4 m4 c4, e = .returned (.tuple #[.agg #[.slice A3 m3 c3, .slice A4 m4 c4], .int .i64 R.2.2]) ∧ OwnC w' w.heap.size (.slice A3 m3 c3) (.slice A4 m4 c4) m3 m4 R.1 R.2.1 ∧ Below w.heap.size w w' := by
  have sz : (w.alloc (.cells #[.slice A1 n1 c1, .slice A2 n2 c2] 35)).heap.size = w.heap.size + 1 := World.size_alloc _ _
  have hZ := Blk.new (w.alloc (.cells #[.slice A1 n1 c1, .slice A2 n2 c2] 35)) 35 #[.slice none 0 0, .slice none 0 0]
  rw [sz] at hZ
  have B1 := qh ((alloc_up w (.cells #[.slice A1 n1 c1, .slice A2 n2 c2] 35)).alloc (by rw [sz]; omega) (.cells #[.slice none 0 0, .slice none 0 0] 35))
  have P1 := qh ((Blk.new w 35 #[.slice A1 n1 c1, .slice A2 n2 c2]).alloc (.cells #[.slice none 0 0, .slice none 0 0] 35))
  have Z1 := qh hZ
  have H1 := qh (h.up B1.out)
  have HF := qh hF
  have HR := qh hR
  have HB := qh hbad
  clear h hZ sz hF hR hbad
  go_enter Tryz.func67, Tryz.ntmps67
  have x0 := P1.out.cell 0
  have x1 := P1.out.cell 1
  simp only [gT, gZ, gS] at x0 x1
  go_wp2_with fail
  clear x0 x1
  generalize hgb : w.heap.size = gb at P1 Z1 ⊢
  generalize (w.alloc (.cells #[.slice A1 n1 c1, .slice A2 n2 c2] 35)).alloc (.cells #[.slice none 0 0, .slice none 0 0] 35) = w1 at B1 P1 Z1 H1 ⊢
  have lz1 := Z1.out.lt
  refine (clusterValidIV_any A1 A2 n1 c1 n2 c2 room us w1 H1.out hs).mono ?_; rintro e w2 ⟨rfl, hb2⟩
  have B2 := qh (below_to B1.out hb2)
  have P2 := qh (P1.out.below hb2 P1.out.lt)
  have Z2 := qh (Z1.out.below hb2 Z1.out.lt)
  have H2 := qh (H1.out.up hb2)
  have lz2 := Z2.out.lt
  clear hb2 B1 P1 Z1 H1 lz1
  cases hok : clOk room us with
  | false =>
    have hr := HB.out hok
    have y0 := Z2.out.cell 0
    have y1 := Z2.out.cell 1
    simp only [gT, gZ, gS] at y0 y1
    have y2 := Z2.out.frozen 0
    have y3 := Z2.out.frozen 1
    have Hr := qh hr
    clear hr hok
    go_wp2_with fail
    have EQ := qh ((Z2.out.set_ 0 (.slice none 0 0)).set_ 1 (.slice none 0 0))
    have B9 := qh ((B2.out.setCell (p := ⟨gb + 1, 0, none⟩) (by show w.heap.size ≤ gb + 1; omega) (.slice none 0 0)).setCell (p := ⟨gb + 1, 1, none⟩) (by show w.heap.size ≤ gb + 1; omega) (.slice none 0 0))
    generalize (w2.setCell ⟨gb + 1, 0, none⟩ (.slice none 0 0)).setCell ⟨gb + 1, 1, none⟩ (.slice none 0 0) = w9 at EQ B9 ⊢
    have z0 : w9.cell? ⟨gb + 1, 0, none⟩ = some (.slice none 0 0) := EQ.out.cell 0
    have z1 : w9.cell? ⟨gb + 1, 1, none⟩ = some (.slice none 0 0) := EQ.out.cell 1
    refine bodyPost_ret (v := .tuple #[.agg #[.slice none 0 0, .slice none 0 0], .int .i64 1]) (by simp [results, Tryz.results67, go_sem, z0, z1]) rfl ⟨none, 0, 0, none, 0, 0, by rw [Hr.out], ?_, B9.out⟩
    rw [Hr.out]
    exact OwnC.none B9.out.size
  | true =>
    obtain ⟨hr1, hr2⟩ := HR.out hok
    have Hok := qh hok
    have Hr1 := qh hr1
    have Hr2 := qh hr2
    clear hok hr1 hr2
    have x0 := P2.out.cell 0
    have x1 := P2.out.cell 1
    simp only [gT, gZ, gS] at x0 x1
    go_wp2_with fail
    refine (hostOf_any A1 A2 n1 c1 n2 c2 room us w2 H2.out Hok.out).mono ?_; rintro e w3 ⟨hb, A3, c3, rfl, hh, hb3⟩
    have B3 := qh (below_to B2.out hb3)
    have Z3 := qh (Z2.out.below hb3 Z2.out.lt)
    obtain ⟨vs, zs, tk, hX⟩ := hh
    have hge := hX.ge
    have Hx := qh hX
    clear hb3 hX x0 x1
    go_wp2_with fail
    refine (HF.out Hok.out w3 w2.heap.size hb A3 c3 B3.out ⟨vs, zs, tk, Hx.out⟩).mono ?_; rintro e w4 ⟨rfl, hp, hb4⟩
    have B4 := qh (B3.out.trans (hb4.mono (show w.heap.size ≤ w2.heap.size by omega)))
    have Z4 := qh (Z3.out.below hb4 lz2)
    have HP := qh hp
    clear hp hb4 HF
    go_wp2_with fail
    have hl1 := H2.out.a.len
    have hl2 := H2.out.b.len
    have f1 := clOk_facts Hok.out
    refine (cluster_any w2.heap.size hb A3 n1 c3 n2 room R.2.1 w4 HP.out (clOk_sh Hr2.out) (by omega) (by omega) hge).mono ?_; rintro e w5 ⟨A4, c4, A5, c5, rfl, hoc, hb5⟩
    have B5 := qh (B4.out.trans (hb5.mono (show w.heap.size ≤ w2.heap.size by omega)))
    have Z5 := qh (Z4.out.below hb5 lz2)
    have O5 := qh (hoc.low B4.out.size)
    clear hoc hb5 hl1 hl2 f1
    have y0 := Z5.out.cell 0
    have y1 := Z5.out.cell 1
    simp only [gT, gZ, gS] at y0 y1
    have y2 := Z5.out.frozen 0
    have y3 := Z5.out.frozen 1
    go_wp2_with fail
    have KT := qh ((KeepTU.set_ Z5.out (by decide) (by decide) (by decide) 0 (.slice A4 n1 c4)).trans (KeepTU.set_ (Z5.out.set_ 0 (.slice A4 n1 c4)) (by decide) (by decide) (by decide) 1 (.slice A5 n2 c5)))
    have EQ := qh ((Z5.out.set_ 0 (.slice A4 n1 c4)).set_ 1 (.slice A5 n2 c5))
    have B9 := qh ((B5.out.setCell (p := ⟨gb + 1, 0, none⟩) (by show w.heap.size ≤ gb + 1; omega) (.slice A4 n1 c4)).setCell (p := ⟨gb + 1, 1, none⟩) (by show w.heap.size ≤ gb + 1; omega) (.slice A5 n2 c5))
    clear y0 y1 y2 y3
    generalize (w5.setCell ⟨gb + 1, 0, none⟩ (.slice A4 n1 c4)).setCell ⟨gb + 1, 1, none⟩ (.slice A5 n2 c5) = w9 at KT EQ B9 ⊢
    have z0 : w9.cell? ⟨gb + 1, 0, none⟩ = some (.slice A4 n1 c4) := EQ.out.cell 0
    have z1 : w9.cell? ⟨gb + 1, 1, none⟩ = some (.slice A5 n2 c5) := EQ.out.cell 1
    refine bodyPost_ret (v := .tuple #[.agg #[.slice A4 n1 c4, .slice A5 n2 c5], .int .i64 R.2.2]) (by simp [results, Tryz.results67, go_sem, z0, z1]) rfl ⟨A4, n1, c4, A5, n2, c5, rfl, ?_, B9.out⟩
    rw [Hr1.out]
    exact O5.out.keepTU KT.out

/-! ### by program -/

end Go.Proofs.YtdkhdfedejbicaaGreatDoor
