/- Several texts in one. -/
import Derived.Test.YtlcgbnmmbheleaaClDraw
namespace Go.Proofs.Ytlcgbnmmbheleaa
set_option linter.unusedSimpArgs false
set_option linter.unusedVariables false
open Go Go.RowKit
attribute [local go_sem ↓] Go.wp_at_zero Go.wp_at_succ

theorem rdU_up {w w' : World} {A : Option Addr} {n : Nat} (h : RdU w w.heap.size A n) (hb : Below w.heap.size w w') : RdU w' w'.heap.size A n := fun hn => by
  obtain ⟨b, o, e, hl, hc⟩ := h hn
  refine ⟨b, o, e, by have := hb.size; omega, fun j hj => ?_⟩
  obtain ⟨u, h1, h2, h3⟩ := hc j hj
  exact ⟨u, h1, h2, (hb.cell (p := ⟨b, o + j, none⟩) hl).trans h3⟩


set_option maxRecDepth 100000 in
set_option maxHeartbeats 1600000 in
theorem drawUsageLeft_any (A : Option Addr) (n c : Nat) (w : World) (h : RdU w w.heap.size A n) (hc : n ≤ c) (hcm : c ≤ 9223372036854775807) :
    Calls Try.prog 11 #[.slice A n c] w fun e w' => ∃ A1 m1 c1 A2 m2 c2 room us, e = .returned (.agg #[.slice A1 m1 c1, .slice A2 m2 c2]) ∧ RdC w' A1 A2 m1 m2 room us ∧ ShU us ∧ m1 ≤ 3 ∧ m1 ≤ c1 ∧ m2 ≤ c2 ∧ Below w.heap.size w w' := by
  have B1 := qh (alloc_up w (.cells #[.slice none 0 0, .slice none 0 0] 26))
  have Z1 := qh (Blk.new w 26 #[.slice none 0 0, .slice none 0 0])
  have U1 := qh (show RdU (w.alloc (.cells #[.slice none 0 0, .slice none 0 0] 26)) (w.alloc (.cells #[.slice none 0 0, .slice none 0 0] 26)).heap.size A n from rdU_up h B1.out)
  clear h
  go_enter Try.func11, Try.ntmps11
  go_wp2_with fail
  generalize hgz : w.heap.size = gz at Z1 ⊢
  generalize w.alloc (.cells #[.slice none 0 0, .slice none 0 0] 26) = w1 at B1 Z1 U1 ⊢
  refine (l6Open_any A n c w1 U1.out hc hcm).mono ?_; rintro e w2 ⟨rfl, R2, hb2⟩
  have B2 := qh (B1.out.trans (hb2.mono B1.out.size))
  have Z2 := qh (Z1.out.below hb2 Z1.out.lt)
  have HR2 := qh R2
  have lz := Z1.out.lt
  have lg := B1.out.size
  clear hb2 R2 U1
  go_wp2_with fail
  refine (l92Cluster_any w1.heap.size 0 w2 HR2.out (by omega)).mono ?_; rintro e w3 hD
  obtain ⟨A1, m1, c1, A2, m2, c2, room, us, rfl, hr, hs, hm1, hc1, hc2, o3, q, hq, r3⟩ := hD
  have B3 := qh (B2.out.trans (o3.belowB (B := w.heap.size) lg B2.out.size))
  have Z3 := qh (o3.blk Z2.out (by omega))
  have x0 := Z3.out.cell 0
  have x1 := Z3.out.cell 1
  simp only [gT, gZ, gS] at x0 x1
  have x2 := Z3.out.frozen 0
  have x3 := Z3.out.frozen 1
  have C3 := qh hr
  have Hs := qh hs
  clear hr hs o3 r3 B1 Z1 B2 Z2 HR2
  go_wp2_with fail
  have KT := (KeepTU.set_ (Z3.out) (by decide) (by decide) (by decide) 0 (.slice A1 m1 c1)).trans (KeepTU.set_ ((Z3.out).set_ 0 (.slice A1 m1 c1)) (by decide) (by decide) (by decide) 1 (.slice A2 m2 c2))
  have EQ := qh (((Z3.out).set_ 0 (.slice A1 m1 c1)).set_ 1 (.slice A2 m2 c2))
  have B9 := qh (((B3.out).setCell (p := ⟨gz, 0, none⟩) (by show w.heap.size ≤ gz; omega) (.slice A1 m1 c1)).setCell (p := ⟨gz, 1, none⟩) (by show w.heap.size ≤ gz; omega) (.slice A2 m2 c2))
  have RC := qh (C3.out _ KT)
  clear KT
  generalize World.setCell (World.setCell w3 ⟨gz, 0, none⟩ (.slice A1 m1 c1)) ⟨gz, 1, none⟩ (.slice A2 m2 c2) = w9 at EQ B9 RC ⊢
  have z0 : w9.cell? ⟨gz, 0, none⟩ = some (.slice A1 m1 c1) := EQ.out.cell 0
  have z1 : w9.cell? ⟨gz, 1, none⟩ = some (.slice A2 m2 c2) := EQ.out.cell 1
  subst hgz
  refine bodyPost_ret (v := .agg #[.slice A1 m1 c1, .slice A2 m2 c2]) (by simp [results, Try.results11, go_sem, z0, z1]) rfl ⟨A1, m1, c1, A2, m2, c2, room, us, rfl, RC.out, Hs.out, hm1, hc1, hc2, B9.out⟩

set_option maxRecDepth 100000 in
set_option maxHeartbeats 1600000 in
theorem drawUsageLoosest_any (A : Option Addr) (n c : Nat) (w : World) (h : RdU w w.heap.size A n) (hc : n ≤ c) (hcm : c ≤ 9223372036854775807) :
    Calls Try.prog 6 #[.slice A n c] w fun e w' => ∃ A1 m1 c1 A2 m2 c2 room us, e = .returned (.agg #[.slice A1 m1 c1, .slice A2 m2 c2]) ∧ RdC w' A1 A2 m1 m2 room us ∧ ShU us ∧ m1 ≤ 3 ∧ m1 ≤ c1 ∧ m2 ≤ c2 ∧ Below w.heap.size w w' := by
  have B1 := qh (alloc_up w (.cells #[.slice none 0 0, .slice none 0 0] 26))
  have Z1 := qh (Blk.new w 26 #[.slice none 0 0, .slice none 0 0])
  have U1 := qh (show RdU (w.alloc (.cells #[.slice none 0 0, .slice none 0 0] 26)) (w.alloc (.cells #[.slice none 0 0, .slice none 0 0] 26)).heap.size A n from rdU_up h B1.out)
  clear h
  go_enter Try.func6, Try.ntmps6
  go_wp2_with fail
  generalize hgz : w.heap.size = gz at Z1 ⊢
  generalize w.alloc (.cells #[.slice none 0 0, .slice none 0 0] 26) = w1 at B1 Z1 U1 ⊢
  refine (l6Open_any A n c w1 U1.out hc hcm).mono ?_; rintro e w2 ⟨rfl, R2, hb2⟩
  have B2 := qh (B1.out.trans (hb2.mono B1.out.size))
  have Z2 := qh (Z1.out.below hb2 Z1.out.lt)
  have HR2 := qh R2
  have lz := Z1.out.lt
  have lg := B1.out.size
  clear hb2 R2 U1
  go_wp2_with fail
  refine (l92Cluster_any w1.heap.size 0 w2 HR2.out (by omega)).mono ?_; rintro e w3 hD
  obtain ⟨A1, m1, c1, A2, m2, c2, room, us, rfl, hr, hs, hm1, hc1, hc2, o3, q, hq, r3⟩ := hD
  have B3 := qh (B2.out.trans (o3.belowB (B := w.heap.size) lg B2.out.size))
  have Z3 := qh (o3.blk Z2.out (by omega))
  have x0 := Z3.out.cell 0
  have x1 := Z3.out.cell 1
  simp only [gT, gZ, gS] at x0 x1
  have x2 := Z3.out.frozen 0
  have x3 := Z3.out.frozen 1
  have C3 := qh hr
  have Hs := qh hs
  clear hr hs o3 r3 B1 Z1 B2 Z2 HR2
  go_wp2_with fail
  have KT := (KeepTU.set_ (Z3.out) (by decide) (by decide) (by decide) 0 (.slice A1 m1 c1)).trans (KeepTU.set_ ((Z3.out).set_ 0 (.slice A1 m1 c1)) (by decide) (by decide) (by decide) 1 (.slice A2 m2 c2))
  have EQ := qh (((Z3.out).set_ 0 (.slice A1 m1 c1)).set_ 1 (.slice A2 m2 c2))
  have B9 := qh (((B3.out).setCell (p := ⟨gz, 0, none⟩) (by show w.heap.size ≤ gz; omega) (.slice A1 m1 c1)).setCell (p := ⟨gz, 1, none⟩) (by show w.heap.size ≤ gz; omega) (.slice A2 m2 c2))
  have RC := qh (C3.out _ KT)
  clear KT
  generalize World.setCell (World.setCell w3 ⟨gz, 0, none⟩ (.slice A1 m1 c1)) ⟨gz, 1, none⟩ (.slice A2 m2 c2) = w9 at EQ B9 RC ⊢
  have z0 : w9.cell? ⟨gz, 0, none⟩ = some (.slice A1 m1 c1) := EQ.out.cell 0
  have z1 : w9.cell? ⟨gz, 1, none⟩ = some (.slice A2 m2 c2) := EQ.out.cell 1
  subst hgz
  refine bodyPost_ret (v := .agg #[.slice A1 m1 c1, .slice A2 m2 c2]) (by simp [results, Try.results6, go_sem, z0, z1]) rfl ⟨A1, m1, c1, A2, m2, c2, room, us, rfl, RC.out, Hs.out, hm1, hc1, hc2, B9.out⟩

end Go.Proofs.Ytlcgbnmmbheleaa

namespace Go.Proofs.Ytlcgbnmmbheleaa
set_option linter.unusedSimpArgs false
set_option linter.unusedVariables false
open Go Go.RowKit

theorem tasksOk_sub' {room : List Int} {a b : List Tk} (h : tasksOk room b = true) (hs : a.Sublist b) : tasksOk room a = true := by
  simp only [tasksOk, Bool.and_eq_true, decide_eq_true_eq] at h ⊢
  refine ⟨⟨⟨h.1.1.1, by have := hs.length_le; omega⟩, ?_⟩, h.2.sublist (hs.map _)⟩
  rw [List.all_eq_true] at *
  exact fun x hx => h.1.2 x (hs.subset hx)
theorem unit_ok {room : List Int} {us : List Un} (h : clOk room us = true) {u : Un} (hu : u ∈ us) : tasksOk room u.2 = true := by
  simp only [clOk, binsOk, Bool.and_eq_true] at h
  exact tasksOk_sub' h.1.2.1.2 (List.sublist_flatten_of_mem (List.mem_map.2 ⟨u, hu, rfl⟩))

set_option maxRecDepth 100000 in
set_option maxHeartbeats 800000 in
theorem binLoadI_any (A1 A2 : Option Addr) (n1 c1 n2 c2 : Nat) (room : List Int) (ts : List Tk) (w : World) (h1 : RdI w w.heap.size A1 n1 room) (h2 : RdT w w.heap.size A2 n2 ts) (hok : tasksOk room ts = true) (hn : n2 ≤ 900)
    (h3 : ∀ j, j < n2 → (ts[j]?.getD (0, [])).2.length = 3) (hb : ∀ j i : Nat, 0 ≤ (ts[j]?.getD (0, [])).2[i]?.getD 0 ∧ (ts[j]?.getD (0, [])).2[i]?.getD 0 ≤ 1000) :
    Calls Try.prog 10 #[.slice A1 n1 c1, .slice A2 n2 c2] w fun e w' => ∃ A c, e = .returned (.slice A 3 c) ∧ RdI w' w'.heap.size A 3 (loadP ts) ∧ Below w.heap.size w w' := by
  have Hok := qh hok
  have H1 := qh h1
  have H2 := qh h2
  have H3 := qh h3
  have Hb := qh hb
  clear hok h1 h2 h3 hb
  go_enter Try.func10, Try.ntmps10
  go_wp2_with fail
  refine (tasksValidI_any A1 A2 n1 c1 n2 c2 room ts w H1.out H2.out).mono ?_; rintro e w2 ⟨rfl, hb2⟩
  rw [Hok.out]
  have B2 := qh hb2
  have R2 := qh (H2.out.up hb2)
  clear hb2
  go_wp2_with fail
  refine (loadOf_any A2 n2 c2 ts w2 R2.out hn H3.out Hb.out).mono ?_; rintro e w3 ⟨A3, c3, rfl, hr, hb3⟩
  have B3 := qh (B2.out.trans (hb3.mono B2.out.size))
  have R3 := qh hr
  clear hb3 hr
  go_wp2_with fail
  go_ret
  exact ⟨_, _, rfl, R3.out, B3.out⟩
end Go.Proofs.Ytlcgbnmmbheleaa

namespace Go.Proofs.Ytlcgbnmmbheleaa
open Go.RowKit

end Go.Proofs.Ytlcgbnmmbheleaa
