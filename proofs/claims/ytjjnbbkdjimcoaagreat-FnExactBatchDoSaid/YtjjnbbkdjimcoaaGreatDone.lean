/- Walks: the program's done; ClusterArrive, ClusterDepart, ClusterOpen. -/
import Derived.Test.YtjjnbbkdjimcoaaGreatHostDo
import Derived.Test.YtjjnbbkdjimcoaaGreatJ14
import Derived.Shelf.Abstract
namespace Go.Proofs.YtjjnbbkdjimcoaaGreat
set_option linter.unusedSimpArgs false
set_option linter.unusedVariables false
open Go Go.RowKit
attribute [local go_sem ↓] Go.wp_at_zero Go.wp_at_succ

theorem clOk_sh {room : List Int} {us : List Un} (h : clOk room us = true) : ShU us := by
  obtain ⟨_, _, f3, f4⟩ := clOk_facts h
  exact ⟨by omega, fun u hu => ⟨by have := (f4 u hu).1; omega, fun t ht => by have := (f4 u hu).2 t ht; omega⟩⟩

set_option maxRecDepth 100000 in
set_option maxHeartbeats 1600000 in
theorem done_any (F : FuncId) (caps : Array Value) (A1 A2 : Option Addr) (n1 c1 n2 c2 : Nat) (room : List Int) (us : List Un) (R : List Int × List Un × Int) (w : World) (h : RdC w A1 A2 n1 n2 room us) (hs : ShV us)
    (hent : ∀ args W, (callFunc F args).run Tryz.prog W = .ok (.enter F args) W) (hbad : clOk room us = false → R = ([], [], 1)) (hR : clOk room us = true → R.1 = room ∧ clOk room R.2.1 = true)
    (hF : clOk room us = true → ∀ W base hb A3 c3, Below w.heap.size w W → HostR W base hb 0 A3 n1 c3 n2 room us → Calls Tryz.prog F (#[.pointer (some ⟨hb, 0, none⟩)] ++ caps) W fun e W' => e = .returned (.int .i64 R.2.2) ∧ HostP W' hb A3 n1 c3 n2 room R.2.1 ∧ Below base W W') :
    Calls Tryz.prog 63 #[.agg #[.slice A1 n1 c1, .slice A2 n2 c2], .func (.func F) #[] caps] w fun e w' => ∃ A3 m3 c3 A4 m4 c4, e = .returned (.tuple #[.agg #[.slice A3 m3 c3, .slice A4 m4 c4], .int .i64 R.2.2]) ∧ OwnC w' w.heap.size (.slice A3 m3 c3) (.slice A4 m4 c4) m3 m4 R.1 R.2.1 ∧ Below w.heap.size w w' := by
  have sz : (w.alloc (.cells #[.slice A1 n1 c1, .slice A2 n2 c2] 26)).heap.size = w.heap.size + 1 := World.size_alloc _ _
  have hZ := Blk.new (w.alloc (.cells #[.slice A1 n1 c1, .slice A2 n2 c2] 26)) 26 #[.slice none 0 0, .slice none 0 0]
  rw [sz] at hZ
  have B1 := qh ((alloc_up w (.cells #[.slice A1 n1 c1, .slice A2 n2 c2] 26)).alloc (by rw [sz]; omega) (.cells #[.slice none 0 0, .slice none 0 0] 26))
  have P1 := qh ((Blk.new w 26 #[.slice A1 n1 c1, .slice A2 n2 c2]).alloc (.cells #[.slice none 0 0, .slice none 0 0] 26))
  have Z1 := qh hZ
  have H1 := qh (h.up B1.out)
  have HF := qh hF
  have HR := qh hR
  have HB := qh hbad
  clear h hZ sz hF hR hbad
  go_enter Tryz.func63, Tryz.ntmps63
  have x0 := P1.out.cell 0
  have x1 := P1.out.cell 1
  simp only [gT, gZ, gS] at x0 x1
  go_wp2_with fail
  clear x0 x1
  generalize hgb : w.heap.size = gb at P1 Z1 ⊢
  generalize (w.alloc (.cells #[.slice A1 n1 c1, .slice A2 n2 c2] 26)).alloc (.cells #[.slice none 0 0, .slice none 0 0] 26) = w1 at B1 P1 Z1 H1 ⊢
  have lz1 := Z1.out.lt
  refine (clusterValidIV_any A1 A2 n1 c1 n2 c2 room us w1 H1.out hs).mono ?_; rintro e w2 ⟨rfl, hb2⟩
  have B2 := qh (below_to B1.out hb2)
  have P2 := qh (P1.out.below hb2 P1.out.lt)
  have Z2 := qh (Z1.out.below hb2 Z1.out.lt)
  have H2 := qh (H1.out.up hb2)
  have lz2 := Z2.out.lt
  clear hb2 B1 P1 Z1 H1 lz1
  cases hok : clOk room us with
  | false =>
    have hr := HB.out hok
    have y0 := Z2.out.cell 0
    have y1 := Z2.out.cell 1
    simp only [gT, gZ, gS] at y0 y1
    have y2 := Z2.out.frozen 0
    have y3 := Z2.out.frozen 1
    have Hr := qh hr
    clear hr hok
    go_wp2_with fail
    have EQ := qh ((Z2.out.set_ 0 (.slice none 0 0)).set_ 1 (.slice none 0 0))
    have B9 := qh ((B2.out.setCell (p := ⟨gb + 1, 0, none⟩) (by show w.heap.size ≤ gb + 1; omega) (.slice none 0 0)).setCell (p := ⟨gb + 1, 1, none⟩) (by show w.heap.size ≤ gb + 1; omega) (.slice none 0 0))
    generalize (w2.setCell ⟨gb + 1, 0, none⟩ (.slice none 0 0)).setCell ⟨gb + 1, 1, none⟩ (.slice none 0 0) = w9 at EQ B9 ⊢
    have z0 : w9.cell? ⟨gb + 1, 0, none⟩ = some (.slice none 0 0) := EQ.out.cell 0
    have z1 : w9.cell? ⟨gb + 1, 1, none⟩ = some (.slice none 0 0) := EQ.out.cell 1
    refine bodyPost_ret (v := .tuple #[.agg #[.slice none 0 0, .slice none 0 0], .int .i64 1]) (by simp [results, Tryz.results63, go_sem, z0, z1]) rfl ⟨none, 0, 0, none, 0, 0, by rw [Hr.out], ?_, B9.out⟩
    rw [Hr.out]
    exact OwnC.none B9.out.size
  | true =>
    obtain ⟨hr1, hr2⟩ := HR.out hok
    have Hok := qh hok
    have Hr1 := qh hr1
    have Hr2 := qh hr2
    clear hok hr1 hr2
    have x0 := P2.out.cell 0
    have x1 := P2.out.cell 1
    simp only [gT, gZ, gS] at x0 x1
    go_wp2_with fail
    refine (hostOf_any A1 A2 n1 c1 n2 c2 room us w2 H2.out Hok.out).mono ?_; rintro e w3 ⟨hb, A3, c3, rfl, hh, hb3⟩
    have B3 := qh (below_to B2.out hb3)
    have Z3 := qh (Z2.out.below hb3 Z2.out.lt)
    obtain ⟨vs, zs, tk, hX⟩ := hh
    have hge := hX.ge
    have Hx := qh hX
    clear hb3 hX x0 x1
    go_wp2_with fail
    refine (HF.out Hok.out w3 w2.heap.size hb A3 c3 B3.out ⟨vs, zs, tk, Hx.out⟩).mono ?_; rintro e w4 ⟨rfl, hp, hb4⟩
    have B4 := qh (B3.out.trans (hb4.mono (show w.heap.size ≤ w2.heap.size by omega)))
    have Z4 := qh (Z3.out.below hb4 lz2)
    have HP := qh hp
    clear hp hb4 HF
    go_wp2_with fail
    have hl1 := H2.out.a.len
    have hl2 := H2.out.b.len
    have f1 := clOk_facts Hok.out
    refine (cluster_any w2.heap.size hb A3 n1 c3 n2 room R.2.1 w4 HP.out (clOk_sh Hr2.out) (by omega) (by omega) hge).mono ?_; rintro e w5 ⟨A4, c4, A5, c5, rfl, hoc, hb5⟩
    have B5 := qh (B4.out.trans (hb5.mono (show w.heap.size ≤ w2.heap.size by omega)))
    have Z5 := qh (Z4.out.below hb5 lz2)
    have O5 := qh (hoc.low B4.out.size)
    clear hoc hb5 hl1 hl2 f1
    have y0 := Z5.out.cell 0
    have y1 := Z5.out.cell 1
    simp only [gT, gZ, gS] at y0 y1
    have y2 := Z5.out.frozen 0
    have y3 := Z5.out.frozen 1
    go_wp2_with fail
    have KT := qh ((KeepTU.set_ Z5.out (by decide) (by decide) (by decide) 0 (.slice A4 n1 c4)).trans (KeepTU.set_ (Z5.out.set_ 0 (.slice A4 n1 c4)) (by decide) (by decide) (by decide) 1 (.slice A5 n2 c5)))
    have EQ := qh ((Z5.out.set_ 0 (.slice A4 n1 c4)).set_ 1 (.slice A5 n2 c5))
    have B9 := qh ((B5.out.setCell (p := ⟨gb + 1, 0, none⟩) (by show w.heap.size ≤ gb + 1; omega) (.slice A4 n1 c4)).setCell (p := ⟨gb + 1, 1, none⟩) (by show w.heap.size ≤ gb + 1; omega) (.slice A5 n2 c5))
    clear y0 y1 y2 y3
    generalize (w5.setCell ⟨gb + 1, 0, none⟩ (.slice A4 n1 c4)).setCell ⟨gb + 1, 1, none⟩ (.slice A5 n2 c5) = w9 at KT EQ B9 ⊢
    have z0 : w9.cell? ⟨gb + 1, 0, none⟩ = some (.slice A4 n1 c4) := EQ.out.cell 0
    have z1 : w9.cell? ⟨gb + 1, 1, none⟩ = some (.slice A5 n2 c5) := EQ.out.cell 1
    refine bodyPost_ret (v := .tuple #[.agg #[.slice A4 n1 c4, .slice A5 n2 c5], .int .i64 R.2.2]) (by simp [results, Tryz.results63, go_sem, z0, z1]) rfl ⟨A4, n1, c4, A5, n2, c5, rfl, ?_, B9.out⟩
    rw [Hr1.out]
    exact O5.out.keepTU KT.out

/-! ### by program -/

set_option maxRecDepth 100000 in
set_option maxHeartbeats 800000 in
theorem clusterArriveI1_any (base hb gx gg : Nat) (A1 A3 : Option Addr) (n1 c1 n n3 c3 : Nat) (room : List Int) (us : List Un) (id : Int) (xs : List Int) (g : Bool) (w : World) (h : HostR w base hb 0 A1 n1 c1 n room us) (hok : clOk room us = true)
    (hx0 : w.cell? ⟨gx, 0, none⟩ = some (.int .i64 id)) (hx1 : w.cell? ⟨gx, 1, none⟩ = some (.slice A3 n3 c3)) (hg : w.cell? ⟨gg, 0, none⟩ = some (.bool g)) (hx : RdI w w.heap.size A3 n3 xs) (hc3 : n3 ≤ c3) :
    Calls Tryz.prog 64 (#[.pointer (some ⟨hb, 0, none⟩)] ++ #[.pointer (some ⟨gx, 0, none⟩), .pointer (some ⟨gg, 0, none⟩)]) w fun e w' => e = .returned (.int .i64 (cavP room us id xs g).2.2) ∧ HostP w' hb A1 n1 c1 n room (cavP room us id xs g).2.1 ∧ Below base w w' := by
  have H := qh h
  have Hok := qh hok
  have HX := qh hx
  clear h hok hx
  go_enter Tryz.func64, Tryz.ntmps64
  go_wp2_with fail
  refine (arriveH_any base hb A1 A3 n1 c1 n n3 c3 room us id xs g w H.out Hok.out HX.out hc3).mono ?_; rintro e w2 ⟨rfl, hp, hb2⟩
  go_wp2
  go_ret
  exact ⟨rfl, hp, hb2⟩

set_option maxRecDepth 100000 in
set_option maxHeartbeats 1600000 in
theorem clusterArriveI_any  (A1 A2 : Option Addr) (n1 c1 n2 c2 : Nat) (room : List Int) (us : List Un) (A3 : Option Addr) (n3 c3 : Nat) (id : Int) (xs : List Int) (g : Bool) (w : World) (h : RdC w A1 A2 n1 n2 room us) (hs : ShV us) (hx : RdI w w.heap.size A3 n3 xs) (hc3 : n3 ≤ c3) :
    Calls Tryz.prog 25 #[.agg #[.slice A1 n1 c1, .slice A2 n2 c2], .agg #[.int .i64 id, .slice A3 n3 c3], .bool g] w fun e w' => ∃ A4 m4 c4 A5 m5 c5, e = .returned (.tuple #[.agg #[.slice A4 m4 c4, .slice A5 m5 c5], .int .i64 (cavP room us id xs g).2.2]) ∧ OwnC w' w.heap.size (.slice A4 m4 c4) (.slice A5 m5 c5) m4 m5 (cavP room us id xs g).1 (cavP room us id xs g).2.1 ∧ Below w.heap.size w w' := by
  have sz0 : (w.alloc (.cells #[.slice A1 n1 c1, .slice A2 n2 c2] 26)).heap.size = w.heap.size + 1 := World.size_alloc _ _
  have sz1 : ((w.alloc (.cells #[.slice A1 n1 c1, .slice A2 n2 c2] 26)).alloc (.cells #[.int .i64 id, .slice A3 n3 c3] 43)).heap.size = w.heap.size + 2 := by rw [World.size_alloc, sz0]
  have sz2 : (((w.alloc (.cells #[.slice A1 n1 c1, .slice A2 n2 c2] 26)).alloc (.cells #[.int .i64 id, .slice A3 n3 c3] 43)).alloc (.cells #[.bool g] 4)).heap.size = w.heap.size + 3 := by rw [World.size_alloc, sz1]
  have P1 := qh ((((Blk.new w 26 #[.slice A1 n1 c1, .slice A2 n2 c2]).alloc (.cells #[.int .i64 id, .slice A3 n3 c3] 43)).alloc (.cells #[.bool g] 4)).alloc (.cells #[.slice none 0 0, .slice none 0 0] 26))
  have hq1 := ((Blk.new (w.alloc (.cells #[.slice A1 n1 c1, .slice A2 n2 c2] 26)) 43 #[.int .i64 id, .slice A3 n3 c3]).alloc (.cells #[.bool g] 4)).alloc (.cells #[.slice none 0 0, .slice none 0 0] 26)
  rw [sz0] at hq1
  have Q1 := qh hq1
  have hq2 := (Blk.new ((w.alloc (.cells #[.slice A1 n1 c1, .slice A2 n2 c2] 26)).alloc (.cells #[.int .i64 id, .slice A3 n3 c3] 43)) 4 #[.bool g]).alloc (.cells #[.slice none 0 0, .slice none 0 0] 26)
  rw [sz1] at hq2
  have Q2 := qh hq2
  have hZ := Blk.new (((w.alloc (.cells #[.slice A1 n1 c1, .slice A2 n2 c2] 26)).alloc (.cells #[.int .i64 id, .slice A3 n3 c3] 43)).alloc (.cells #[.bool g] 4)) 26 #[.slice none 0 0, .slice none 0 0]
  rw [sz2] at hZ
  have Z1 := qh hZ
  have B1 := qh ((((alloc_up w (.cells #[.slice A1 n1 c1, .slice A2 n2 c2] 26)).alloc (by rw [sz0]; omega) (.cells #[.int .i64 id, .slice A3 n3 c3] 43)).alloc (by rw [sz1]; omega) (.cells #[.bool g] 4)).alloc (by rw [sz2]; omega) (.cells #[.slice none 0 0, .slice none 0 0] 26))
  have H1 := qh (h.up B1.out)
  have X1 := qh (hx.up B1.out)
  clear hx
  clear h hZ hq1 hq2 sz0 sz1 sz2
  go_enter Tryz.func25, Tryz.ntmps25
  have x0 := P1.out.cell 0
  have x1 := P1.out.cell 1
  simp only [gT, gZ, gS] at x0 x1
  go_wp2_with fail
  clear x0 x1
  generalize hgb : w.heap.size = gb at P1 Q1 Q2 Z1 ⊢
  generalize ((((w.alloc (.cells #[.slice A1 n1 c1, .slice A2 n2 c2] 26)).alloc (.cells #[.int .i64 id, .slice A3 n3 c3] 43)).alloc (.cells #[.bool g] 4)).alloc (.cells #[.slice none 0 0, .slice none 0 0] 26)) = w1 at B1 P1 Q1 Q2 Z1 H1 X1 ⊢
  have lz1 := Z1.out.lt
  have lq1 := Q1.out.lt
  have lq2 := Q2.out.lt
  refine (done_any 64 #[.pointer (some ⟨gb + 1, 0, none⟩), .pointer (some ⟨gb + 2, 0, none⟩)] A1 A2 n1 c1 n2 c2 room us (cavP room us id xs g) w1 H1.out hs (enters_of Tryz.func64 (by kernel_rfl) rfl) cavP_bad (fun hok => ⟨(cav_facts hok).1, (cav_facts hok).2.1⟩) (fun hok W base hb A4 c4 hW hH => clusterArriveI1_any base hb (gb + 1) (gb + 2) A4 A3 n1 c4 n2 n3 c3 room us id xs g W hH hok ((Q1.out.below hW lq1).cell 0) ((Q1.out.below hW lq1).cell 1) ((Q2.out.below hW lq2).cell 0) (X1.out.up hW) hc3)).mono ?_
  rintro e w2 ⟨A4, m4, c4, A5, m5, c5, rfl, hoc, hb2⟩
  have B2 := qh (below_to B1.out hb2)
  have Z2 := qh (Z1.out.below hb2 Z1.out.lt)
  have O2 := qh (hoc.low B1.out.size)
  clear hoc hb2
  have y0 := Z2.out.cell 0
  have y1 := Z2.out.cell 1
  simp only [gT, gZ, gS] at y0 y1
  have y2 := Z2.out.frozen 0
  have y3 := Z2.out.frozen 1
  go_wp2_with fail
  have KT := qh ((KeepTU.set_ Z2.out (by decide) (by decide) (by decide) 0 (.slice A4 m4 c4)).trans (KeepTU.set_ (Z2.out.set_ 0 (.slice A4 m4 c4)) (by decide) (by decide) (by decide) 1 (.slice A5 m5 c5)))
  have EQ := qh ((Z2.out.set_ 0 (.slice A4 m4 c4)).set_ 1 (.slice A5 m5 c5))
  have B9 := qh ((B2.out.setCell (p := ⟨gb + 3, 0, none⟩) (by show w.heap.size ≤ gb + 3; omega) (.slice A4 m4 c4)).setCell (p := ⟨gb + 3, 1, none⟩) (by show w.heap.size ≤ gb + 3; omega) (.slice A5 m5 c5))
  clear y0 y1 y2 y3
  generalize (w2.setCell ⟨gb + 3, 0, none⟩ (.slice A4 m4 c4)).setCell ⟨gb + 3, 1, none⟩ (.slice A5 m5 c5) = w9 at KT EQ B9 ⊢
  have z0 : w9.cell? ⟨gb + 3, 0, none⟩ = some (.slice A4 m4 c4) := EQ.out.cell 0
  have z1 : w9.cell? ⟨gb + 3, 1, none⟩ = some (.slice A5 m5 c5) := EQ.out.cell 1
  refine bodyPost_ret (v := .tuple #[.agg #[.slice A4 m4 c4, .slice A5 m5 c5], .int .i64 (cavP room us id xs g).2.2]) (by simp [results, Tryz.results25, go_sem, z0, z1]) rfl ⟨A4, m4, c4, A5, m5, c5, rfl, O2.out.keepTU KT.out, B9.out⟩
end Go.Proofs.YtjjnbbkdjimcoaaGreat
