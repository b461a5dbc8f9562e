/- Several texts in one. -/
import Derived.Test.YtdkhdfedejbicaaGreatDoorS1
import Derived.Deep.Cut
import Derived.Deep.DeepCutAuto
import Derived.Test.YtdkhdfedejbicaaGreatDoorRqDoS
import Derived.Test.YtdkhdfedejbicaaGreatDoorJ8
import Derived.Test.YtdkhdfedejbicaaGreatDoorSpCounts
namespace Go.Proofs.YtdkhdfedejbicaaGreatDoor
set_option linter.unusedSimpArgs false
set_option linter.unusedVariables false
open Go Go.RowKit
attribute [local go_sem ↓] Go.wp_at_zero Go.wp_at_succ

theorem bs_toList (l : Bs) : (bs l).toList = l := by rw [Lib.toList_data, bs_list]
theorem RdI.tail9 {w : World} {B b o n : Nat} {xs : List Int} (h : RdI w B (some ⟨b, o, none⟩) (n + 1) xs) : RdI w B (some ⟨b, o + 1, none⟩) n (xs.drop 1) := by
  refine ⟨by rw [List.length_drop, h.1]; omega, by have := h.2.1; omega, fun hp => ?_⟩
  obtain ⟨b', o', e, hb, hc⟩ := h.2.2 (by omega)
  injection e with e
  injection e with e1 e2
  subst e1 e2
  refine ⟨b, o + 1, rfl, hb, fun j hj => ?_⟩
  have := hc (j + 1) (by omega)
  rw [show o + (j + 1) = o + 1 + j by omega] at this
  rw [this, List.getElem?_drop, Nat.add_comm 1 j]
def ReqRet (wd : Bs) (ns : List Int) (r : Rq) : Prop := cmdP wd ns = some r ∨ (cmdP wd ns = none ∧ r = ⟨0, 0, [], false, 0⟩)
theorem cmd_none {wd : Bs} {ns : List Int} (h1 : (wd = wArrive ∨ wd = wGrant) → ns.length ≠ 4) (h2 : (wd = wDepart ∨ wd = wOpen ∨ wd = wClose ∨ wd = wGather) → ns.length ≠ 1) : cmdP wd ns = none := by
  unfold cmdP
  rw [if_neg (fun h => h1 h.1 h.2), if_neg (fun h => h2 (.inl h.1) h.2), if_neg (fun h => h2 (.inr (.inl h.1)) h.2), if_neg (fun h => h2 (.inr (.inr (.inl h.1))) h.2), if_neg (fun h => h2 (.inr (.inr (.inr h.1))) h.2)]
theorem word_cases (wd : Bs) : wd = wArrive ∨ wd = wGrant ∨ wd = wDepart ∨ wd = wOpen ∨ wd = wClose ∨ wd = wGather ∨ (wd ≠ wArrive ∧ wd ≠ wGrant ∧ wd ≠ wDepart ∧ wd ≠ wOpen ∧ wd ≠ wClose ∧ wd ≠ wGather) := by
  by_cases h1 : wd = wArrive
  · exact .inl h1
  by_cases h2 : wd = wGrant
  · exact .inr (.inl h2)
  by_cases h3 : wd = wDepart
  · exact .inr (.inr (.inl h3))
  by_cases h4 : wd = wOpen
  · exact .inr (.inr (.inr (.inl h4)))
  by_cases h5 : wd = wClose
  · exact .inr (.inr (.inr (.inr (.inl h5))))
  by_cases h6 : wd = wGather
  · exact .inr (.inr (.inr (.inr (.inr (.inl h6)))))
  exact .inr (.inr (.inr (.inr (.inr (.inr ⟨h1, h2, h3, h4, h5, h6⟩)))))

set_option maxRecDepth 100000 in
set_option maxHeartbeats 6400000 in
theorem l51Request_any (wd : Bs) (A : Option Addr) (n c : Nat) (ns : List Int) (w : World) (h : RdI w w.heap.size A n ns) (hc : n ≤ c) :
    Calls Tryz.prog 53 #[.string (bs wd), .slice A n c] w fun e w' => ∃ r A3 n3 c3, e = .returned (rqV r A3 n3 c3) ∧ RdI w' w'.heap.size A3 n3 r.xs ∧ n3 ≤ c3 ∧ ReqRet wd ns r ∧ Below w.heap.size w w' := by
  have H := qh h
  have Hl := qh h.len
  clear h
  have B1 := qh (alloc_up w (.cells #[.int .i64 0, .int .i64 0, .slice none 0 0, .bool false, .int .i64 0] 77))
  have P1 := qh (Blk.new w 77 #[.int .i64 0, .int .i64 0, .slice none 0 0, .bool false, .int .i64 0])
  have H1 := qh (H.out.up B1.out)
  have hT := bs_toList wd
  generalize bs wd = s at hT ⊢
  go_enter Tryz.func53, Tryz.ntmps53
  go_upto_region 1 with fail
  have x0 := P1.out.cell 0
  have x1 := P1.out.cell 1
  have x2 := P1.out.cell 2
  have x3 := P1.out.cell 3
  have x4 := P1.out.cell 4
  simp only [gT, gZ, gS] at x0 x1 x2 x3 x4
  have f0 := P1.out.frozen 0
  have f1 := P1.out.frozen 1
  have f2 := P1.out.frozen 2
  have f3 := P1.out.frozen 3
  have f4 := P1.out.frozen 4
  generalize hgx : w.heap.size = gx at P1 x0 x1 x2 x3 x4 f0 f1 f2 f3 f4 ⊢
  generalize w.alloc (.cells #[.int .i64 0, .int .i64 0, .slice none 0 0, .bool false, .int .i64 0] 77) = w1 at B1 P1 H1 x0 x1 x2 x3 x4 f0 f1 f2 f3 f4 ⊢
  have lgx := P1.out.lt
  have rd0 : ∀ W : World, RdI W W.heap.size none 0 [] := fun W => ⟨rfl, by omega, fun h => absurd h (by omega)⟩
  have Rd0 := qh rd0
  clear rd0
  rcases word_cases wd with hw | hw | hw | hw | hw | hw | hw
  · have hT2 : s.toList = [97, 114, 114, 105, 118, 101] := by rw [hT, hw]; rfl
    clear hT
    by_cases hn : n = 4
    · subst hn
      have Hc := qh hc
      obtain ⟨b, o, rfl, lb, hcw⟩ := H.out.at_ (show 0 < 4 by omega)
      rw [Nat.add_zero] at hcw
      generalize hn0 : ns[0]?.getD 0 = m0 at hcw
      have hc0 : w1.cell? ⟨b, o, none⟩ = some (.int .i64 m0) := (B1.out.cell (p := ⟨b, o, none⟩) lb).trans hcw
      have Hn0 := qh hn0
      have Hcw := qh hcw
      clear hn0 hcw
      have hc1 : ¬ c = 1 := by omega
      go_wp2_with fail
      refine wp_region_mix (.take 0 (.take 1 (.take 2 (.take 3 (.take 4 (.take 5 (.take 6 (.take 7 (.take 8 (.bar 9 .nil)))))))))) (fun w' => w'.cell? ⟨b, o, none⟩ = some (.int .i64 m0)) (by kernel_rfl) (by kernel_rfl) hc0 (fun _ => ?_)
      have Pd := qh P1.out.drew
      have Bd := qh B1.out.drew
      clear x0 x1 x2 x3 x4 f0 f1 f2 f3 f4
      generalize w1.drew = u0 at Pd Bd ⊢
      repeat ((first | refine mxS (by rfl) (by rfl) ?_ | (refine mxT (v := ?_) (by rfl) (by rfl) (fun z y => ?_) ?_; rotate_left; (focus ((try dsimp only at y); (go_simp <;> with_reducible rfl); done)))); (try simp only [Act.put,pS,pZ,pC]))
      have x0 := Pd.out.cell 0
      have x1 := Pd.out.cell 1
      have x2 := Pd.out.cell 2
      have x3 := Pd.out.cell 3
      have x4 := Pd.out.cell 4
      simp only [gT, gZ, gS] at x0 x1 x2 x3 x4
      have f0 := Pd.out.frozen 0
      have f1 := Pd.out.frozen 1
      have f2 := Pd.out.frozen 2
      have f3 := Pd.out.frozen 3
      have f4 := Pd.out.frozen 4
      (refine mxB (by rfl) (fun K hK => ?_); go_simp)
      clear x0 x1 x2 x3 x4 f0 f1 f2 f3 f4
      have EQ := qh (((((Pd.out.set_ 0 (.int .i64 1)).set_ 1 (.int .i64 m0)).set_ 2 (.slice (some ⟨b, o + 1, none⟩) 3 (c - 1))).set_ 3 (.bool false)).set_ 4 (.int .i64 0))
      have B9 := qh (((((Bd.out.setCell (p := ⟨gx, 0, none⟩) (by simp; omega) (.int .i64 1)).setCell (p := ⟨gx, 1, none⟩) (by simp; omega) (.int .i64 m0)).setCell (p := ⟨gx, 2, none⟩) (by simp; omega) (.slice (some ⟨b, o + 1, none⟩) 3 (c - 1))).setCell (p := ⟨gx, 3, none⟩) (by simp; omega) (.bool false)).setCell (p := ⟨gx, 4, none⟩) (by simp; omega) (.int .i64 0))
      generalize (World.setCell (World.setCell (World.setCell (World.setCell (World.setCell u0 ⟨gx, 0, none⟩ (.int .i64 1)) ⟨gx, 1, none⟩ (.int .i64 m0)) ⟨gx, 2, none⟩ (.slice (some ⟨b, o + 1, none⟩) 3 (c - 1))) ⟨gx, 3, none⟩ (.bool false)) ⟨gx, 4, none⟩ (.int .i64 0)) = w9 at EQ B9 ⊢
      ((try dsimp only); refine nxK hK _ _ ((B9.out.cell (p := ⟨b, o, none⟩) lb).trans Hcw.out) ?_; clear hK K; (try simp only [Act.put,pS,pZ,pC]))
      refine wpMix_nil ?_
      go_wp2_with fail
      have z0 := EQ.out.cell 0
      have z1 := EQ.out.cell 1
      have z2 := EQ.out.cell 2
      have z3 := EQ.out.cell 3
      have z4 := EQ.out.cell 4
      simp only [gT, gZ, gS, pS, pZ, pC] at z0 z1 z2 z3 z4
      refine bodyPost_ret (v := rqV ⟨1, m0, ns.drop 1, false, 0⟩ (some ⟨b, o + 1, none⟩) 3 (c - 1)) (by simp [results, Tryz.results53, go_sem, z0, z1, z2, z3, z4, rqV]) rfl ⟨⟨1, m0, ns.drop 1, false, 0⟩, (some ⟨b, o + 1, none⟩), 3, (c - 1), rfl, (H.out.tail9.up B9.out), by omega, .inl (by rw [hw, ← Hn0.out]; unfold cmdP; rw [if_pos ⟨.inl rfl, Hl.out⟩]; rfl), B9.out⟩
    · have tn : ((n : Int) == 4) = false := by simp; omega
      go_wp2_with fail
      clear x0 x1 x2 x3 x4 f0 f1 f2 f3 f4
      have EQ := qh (((((P1.out.set_ 0 (.int .i64 0)).set_ 1 (.int .i64 0)).set_ 2 (.slice none 0 0)).set_ 3 (.bool false)).set_ 4 (.int .i64 0))
      have B9 := qh (((((B1.out.setCell (p := ⟨gx, 0, none⟩) (by simp; omega) (.int .i64 0)).setCell (p := ⟨gx, 1, none⟩) (by simp; omega) (.int .i64 0)).setCell (p := ⟨gx, 2, none⟩) (by simp; omega) (.slice none 0 0)).setCell (p := ⟨gx, 3, none⟩) (by simp; omega) (.bool false)).setCell (p := ⟨gx, 4, none⟩) (by simp; omega) (.int .i64 0))
      generalize (World.setCell (World.setCell (World.setCell (World.setCell (World.setCell w1 ⟨gx, 0, none⟩ (.int .i64 0)) ⟨gx, 1, none⟩ (.int .i64 0)) ⟨gx, 2, none⟩ (.slice none 0 0)) ⟨gx, 3, none⟩ (.bool false)) ⟨gx, 4, none⟩ (.int .i64 0)) = w9 at EQ B9 ⊢
      have z0 := EQ.out.cell 0
      have z1 := EQ.out.cell 1
      have z2 := EQ.out.cell 2
      have z3 := EQ.out.cell 3
      have z4 := EQ.out.cell 4
      simp only [gT, gZ, gS, pS, pZ, pC] at z0 z1 z2 z3 z4
      refine bodyPost_ret (v := rqV ⟨0, 0, [], false, 0⟩ none 0 0) (by simp [results, Tryz.results53, go_sem, z0, z1, z2, z3, z4, rqV]) rfl ⟨⟨0, 0, [], false, 0⟩, none, 0, 0, rfl, Rd0.out _, by omega, .inr ⟨cmd_none (fun h => by have := Hl.out; omega) (fun h => by rw [hw] at h; exact absurd h (by decide)), rfl⟩, B9.out⟩
  · have hT2 : s.toList = [103, 114, 97, 110, 116] := by rw [hT, hw]; rfl
    clear hT
    by_cases hn : n = 4
    · subst hn
      have Hc := qh hc
      obtain ⟨b, o, rfl, lb, hcw⟩ := H.out.at_ (show 0 < 4 by omega)
      rw [Nat.add_zero] at hcw
      generalize hn0 : ns[0]?.getD 0 = m0 at hcw
      have hc0 : w1.cell? ⟨b, o, none⟩ = some (.int .i64 m0) := (B1.out.cell (p := ⟨b, o, none⟩) lb).trans hcw
      have Hn0 := qh hn0
      have Hcw := qh hcw
      clear hn0 hcw
      have hc1 : ¬ c = 1 := by omega
      go_wp2_with fail
      refine wp_region_mix (.take 0 (.take 1 (.take 2 (.take 3 (.take 4 (.take 5 (.take 6 (.take 7 (.take 8 (.bar 9 .nil)))))))))) (fun w' => w'.cell? ⟨b, o, none⟩ = some (.int .i64 m0)) (by kernel_rfl) (by kernel_rfl) hc0 (fun _ => ?_)
      have Pd := qh P1.out.drew
      have Bd := qh B1.out.drew
      clear x0 x1 x2 x3 x4 f0 f1 f2 f3 f4
      generalize w1.drew = u0 at Pd Bd ⊢
      repeat ((first | refine mxS (by rfl) (by rfl) ?_ | (refine mxT (v := ?_) (by rfl) (by rfl) (fun z y => ?_) ?_; rotate_left; (focus ((try dsimp only at y); (go_simp <;> with_reducible rfl); done)))); (try simp only [Act.put,pS,pZ,pC]))
      have x0 := Pd.out.cell 0
      have x1 := Pd.out.cell 1
      have x2 := Pd.out.cell 2
      have x3 := Pd.out.cell 3
      have x4 := Pd.out.cell 4
      simp only [gT, gZ, gS] at x0 x1 x2 x3 x4
      have f0 := Pd.out.frozen 0
      have f1 := Pd.out.frozen 1
      have f2 := Pd.out.frozen 2
      have f3 := Pd.out.frozen 3
      have f4 := Pd.out.frozen 4
      (refine mxB (by rfl) (fun K hK => ?_); go_simp)
      clear x0 x1 x2 x3 x4 f0 f1 f2 f3 f4
      have EQ := qh (((((Pd.out.set_ 0 (.int .i64 1)).set_ 1 (.int .i64 m0)).set_ 2 (.slice (some ⟨b, o + 1, none⟩) 3 (c - 1))).set_ 3 (.bool true)).set_ 4 (.int .i64 0))
      have B9 := qh (((((Bd.out.setCell (p := ⟨gx, 0, none⟩) (by simp; omega) (.int .i64 1)).setCell (p := ⟨gx, 1, none⟩) (by simp; omega) (.int .i64 m0)).setCell (p := ⟨gx, 2, none⟩) (by simp; omega) (.slice (some ⟨b, o + 1, none⟩) 3 (c - 1))).setCell (p := ⟨gx, 3, none⟩) (by simp; omega) (.bool true)).setCell (p := ⟨gx, 4, none⟩) (by simp; omega) (.int .i64 0))
      generalize (World.setCell (World.setCell (World.setCell (World.setCell (World.setCell u0 ⟨gx, 0, none⟩ (.int .i64 1)) ⟨gx, 1, none⟩ (.int .i64 m0)) ⟨gx, 2, none⟩ (.slice (some ⟨b, o + 1, none⟩) 3 (c - 1))) ⟨gx, 3, none⟩ (.bool true)) ⟨gx, 4, none⟩ (.int .i64 0)) = w9 at EQ B9 ⊢
      ((try dsimp only); refine nxK hK _ _ ((B9.out.cell (p := ⟨b, o, none⟩) lb).trans Hcw.out) ?_; clear hK K; (try simp only [Act.put,pS,pZ,pC]))
      refine wpMix_nil ?_
      go_wp2_with fail
      have z0 := EQ.out.cell 0
      have z1 := EQ.out.cell 1
      have z2 := EQ.out.cell 2
      have z3 := EQ.out.cell 3
      have z4 := EQ.out.cell 4
      simp only [gT, gZ, gS, pS, pZ, pC] at z0 z1 z2 z3 z4
      refine bodyPost_ret (v := rqV ⟨1, m0, ns.drop 1, true, 0⟩ (some ⟨b, o + 1, none⟩) 3 (c - 1)) (by simp [results, Tryz.results53, go_sem, z0, z1, z2, z3, z4, rqV]) rfl ⟨⟨1, m0, ns.drop 1, true, 0⟩, (some ⟨b, o + 1, none⟩), 3, (c - 1), rfl, (H.out.tail9.up B9.out), by omega, .inl (by rw [hw, ← Hn0.out]; unfold cmdP; rw [if_pos ⟨.inr rfl, Hl.out⟩]; rfl), B9.out⟩
    · have tn : ((n : Int) == 4) = false := by simp; omega
      go_wp2_with fail
      clear x0 x1 x2 x3 x4 f0 f1 f2 f3 f4
      have EQ := qh (((((P1.out.set_ 0 (.int .i64 0)).set_ 1 (.int .i64 0)).set_ 2 (.slice none 0 0)).set_ 3 (.bool false)).set_ 4 (.int .i64 0))
      have B9 := qh (((((B1.out.setCell (p := ⟨gx, 0, none⟩) (by simp; omega) (.int .i64 0)).setCell (p := ⟨gx, 1, none⟩) (by simp; omega) (.int .i64 0)).setCell (p := ⟨gx, 2, none⟩) (by simp; omega) (.slice none 0 0)).setCell (p := ⟨gx, 3, none⟩) (by simp; omega) (.bool false)).setCell (p := ⟨gx, 4, none⟩) (by simp; omega) (.int .i64 0))
      generalize (World.setCell (World.setCell (World.setCell (World.setCell (World.setCell w1 ⟨gx, 0, none⟩ (.int .i64 0)) ⟨gx, 1, none⟩ (.int .i64 0)) ⟨gx, 2, none⟩ (.slice none 0 0)) ⟨gx, 3, none⟩ (.bool false)) ⟨gx, 4, none⟩ (.int .i64 0)) = w9 at EQ B9 ⊢
      have z0 := EQ.out.cell 0
      have z1 := EQ.out.cell 1
      have z2 := EQ.out.cell 2
      have z3 := EQ.out.cell 3
      have z4 := EQ.out.cell 4
      simp only [gT, gZ, gS, pS, pZ, pC] at z0 z1 z2 z3 z4
      refine bodyPost_ret (v := rqV ⟨0, 0, [], false, 0⟩ none 0 0) (by simp [results, Tryz.results53, go_sem, z0, z1, z2, z3, z4, rqV]) rfl ⟨⟨0, 0, [], false, 0⟩, none, 0, 0, rfl, Rd0.out _, by omega, .inr ⟨cmd_none (fun h => by have := Hl.out; omega) (fun h => by rw [hw] at h; exact absurd h (by decide)), rfl⟩, B9.out⟩
  · have hT2 : s.toList = [100, 101, 112, 97, 114, 116] := by rw [hT, hw]; rfl
    clear hT
    by_cases hn : n = 1
    · subst hn
      have Hc := qh hc
      obtain ⟨b, o, rfl, lb, hcw⟩ := H.out.at_ (show 0 < 1 by omega)
      rw [Nat.add_zero] at hcw
      generalize hn0 : ns[0]?.getD 0 = m0 at hcw
      have hc0 : w1.cell? ⟨b, o, none⟩ = some (.int .i64 m0) := (B1.out.cell (p := ⟨b, o, none⟩) lb).trans hcw
      have Hn0 := qh hn0
      have Hcw := qh hcw
      clear hn0 hcw
      go_wp2_with fail
      clear x0 x1 x2 x3 x4 f0 f1 f2 f3 f4
      have EQ := qh (((((P1.out.set_ 0 (.int .i64 2)).set_ 1 (.int .i64 0)).set_ 2 (.slice none 0 0)).set_ 3 (.bool false)).set_ 4 (.int .i64 m0))
      have B9 := qh (((((B1.out.setCell (p := ⟨gx, 0, none⟩) (by simp; omega) (.int .i64 2)).setCell (p := ⟨gx, 1, none⟩) (by simp; omega) (.int .i64 0)).setCell (p := ⟨gx, 2, none⟩) (by simp; omega) (.slice none 0 0)).setCell (p := ⟨gx, 3, none⟩) (by simp; omega) (.bool false)).setCell (p := ⟨gx, 4, none⟩) (by simp; omega) (.int .i64 m0))
      generalize (World.setCell (World.setCell (World.setCell (World.setCell (World.setCell w1 ⟨gx, 0, none⟩ (.int .i64 2)) ⟨gx, 1, none⟩ (.int .i64 0)) ⟨gx, 2, none⟩ (.slice none 0 0)) ⟨gx, 3, none⟩ (.bool false)) ⟨gx, 4, none⟩ (.int .i64 m0)) = w9 at EQ B9 ⊢
      have z0 := EQ.out.cell 0
      have z1 := EQ.out.cell 1
      have z2 := EQ.out.cell 2
      have z3 := EQ.out.cell 3
      have z4 := EQ.out.cell 4
      simp only [gT, gZ, gS, pS, pZ, pC] at z0 z1 z2 z3 z4
      refine bodyPost_ret (v := rqV ⟨2, 0, [], false, m0⟩ none 0 0) (by simp [results, Tryz.results53, go_sem, z0, z1, z2, z3, z4, rqV]) rfl ⟨⟨2, 0, [], false, m0⟩, none, 0, 0, rfl, Rd0.out _, by omega, .inl (by rw [hw, ← Hn0.out]; unfold cmdP; rw [if_neg (fun h => absurd h.1 (by decide)), if_pos ⟨rfl, Hl.out⟩]; rfl), B9.out⟩
    · have tn : ((n : Int) == 1) = false := by simp; omega
      go_wp2_with fail
      clear x0 x1 x2 x3 x4 f0 f1 f2 f3 f4
      have EQ := qh (((((P1.out.set_ 0 (.int .i64 0)).set_ 1 (.int .i64 0)).set_ 2 (.slice none 0 0)).set_ 3 (.bool false)).set_ 4 (.int .i64 0))
      have B9 := qh (((((B1.out.setCell (p := ⟨gx, 0, none⟩) (by simp; omega) (.int .i64 0)).setCell (p := ⟨gx, 1, none⟩) (by simp; omega) (.int .i64 0)).setCell (p := ⟨gx, 2, none⟩) (by simp; omega) (.slice none 0 0)).setCell (p := ⟨gx, 3, none⟩) (by simp; omega) (.bool false)).setCell (p := ⟨gx, 4, none⟩) (by simp; omega) (.int .i64 0))
      generalize (World.setCell (World.setCell (World.setCell (World.setCell (World.setCell w1 ⟨gx, 0, none⟩ (.int .i64 0)) ⟨gx, 1, none⟩ (.int .i64 0)) ⟨gx, 2, none⟩ (.slice none 0 0)) ⟨gx, 3, none⟩ (.bool false)) ⟨gx, 4, none⟩ (.int .i64 0)) = w9 at EQ B9 ⊢
      have z0 := EQ.out.cell 0
      have z1 := EQ.out.cell 1
      have z2 := EQ.out.cell 2
      have z3 := EQ.out.cell 3
      have z4 := EQ.out.cell 4
      simp only [gT, gZ, gS, pS, pZ, pC] at z0 z1 z2 z3 z4
      refine bodyPost_ret (v := rqV ⟨0, 0, [], false, 0⟩ none 0 0) (by simp [results, Tryz.results53, go_sem, z0, z1, z2, z3, z4, rqV]) rfl ⟨⟨0, 0, [], false, 0⟩, none, 0, 0, rfl, Rd0.out _, by omega, .inr ⟨cmd_none (fun h => by rw [hw] at h; exact absurd h (by decide)) (fun h => by have := Hl.out; omega), rfl⟩, B9.out⟩
  · have hT2 : s.toList = [111, 112, 101, 110] := by rw [hT, hw]; rfl
    clear hT
    by_cases hn : n = 1
    · subst hn
      have Hc := qh hc
      obtain ⟨b, o, rfl, lb, hcw⟩ := H.out.at_ (show 0 < 1 by omega)
      rw [Nat.add_zero] at hcw
      generalize hn0 : ns[0]?.getD 0 = m0 at hcw
      have hc0 : w1.cell? ⟨b, o, none⟩ = some (.int .i64 m0) := (B1.out.cell (p := ⟨b, o, none⟩) lb).trans hcw
      have Hn0 := qh hn0
      have Hcw := qh hcw
      clear hn0 hcw
      go_wp2_with fail
      clear x0 x1 x2 x3 x4 f0 f1 f2 f3 f4
      have EQ := qh (((((P1.out.set_ 0 (.int .i64 3)).set_ 1 (.int .i64 0)).set_ 2 (.slice none 0 0)).set_ 3 (.bool false)).set_ 4 (.int .i64 m0))
      have B9 := qh (((((B1.out.setCell (p := ⟨gx, 0, none⟩) (by simp; omega) (.int .i64 3)).setCell (p := ⟨gx, 1, none⟩) (by simp; omega) (.int .i64 0)).setCell (p := ⟨gx, 2, none⟩) (by simp; omega) (.slice none 0 0)).setCell (p := ⟨gx, 3, none⟩) (by simp; omega) (.bool false)).setCell (p := ⟨gx, 4, none⟩) (by simp; omega) (.int .i64 m0))
      generalize (World.setCell (World.setCell (World.setCell (World.setCell (World.setCell w1 ⟨gx, 0, none⟩ (.int .i64 3)) ⟨gx, 1, none⟩ (.int .i64 0)) ⟨gx, 2, none⟩ (.slice none 0 0)) ⟨gx, 3, none⟩ (.bool false)) ⟨gx, 4, none⟩ (.int .i64 m0)) = w9 at EQ B9 ⊢
      have z0 := EQ.out.cell 0
      have z1 := EQ.out.cell 1
      have z2 := EQ.out.cell 2
      have z3 := EQ.out.cell 3
      have z4 := EQ.out.cell 4
      simp only [gT, gZ, gS, pS, pZ, pC] at z0 z1 z2 z3 z4
      refine bodyPost_ret (v := rqV ⟨3, 0, [], false, m0⟩ none 0 0) (by simp [results, Tryz.results53, go_sem, z0, z1, z2, z3, z4, rqV]) rfl ⟨⟨3, 0, [], false, m0⟩, none, 0, 0, rfl, Rd0.out _, by omega, .inl (by rw [hw, ← Hn0.out]; unfold cmdP; rw [if_neg (fun h => absurd h.1 (by decide)), if_neg (fun h => absurd h.1 (by decide)), if_pos ⟨rfl, Hl.out⟩]; rfl), B9.out⟩
    · have tn : ((n : Int) == 1) = false := by simp; omega
      go_wp2_with fail
      clear x0 x1 x2 x3 x4 f0 f1 f2 f3 f4
      have EQ := qh (((((P1.out.set_ 0 (.int .i64 0)).set_ 1 (.int .i64 0)).set_ 2 (.slice none 0 0)).set_ 3 (.bool false)).set_ 4 (.int .i64 0))
      have B9 := qh (((((B1.out.setCell (p := ⟨gx, 0, none⟩) (by simp; omega) (.int .i64 0)).setCell (p := ⟨gx, 1, none⟩) (by simp; omega) (.int .i64 0)).setCell (p := ⟨gx, 2, none⟩) (by simp; omega) (.slice none 0 0)).setCell (p := ⟨gx, 3, none⟩) (by simp; omega) (.bool false)).setCell (p := ⟨gx, 4, none⟩) (by simp; omega) (.int .i64 0))
      generalize (World.setCell (World.setCell (World.setCell (World.setCell (World.setCell w1 ⟨gx, 0, none⟩ (.int .i64 0)) ⟨gx, 1, none⟩ (.int .i64 0)) ⟨gx, 2, none⟩ (.slice none 0 0)) ⟨gx, 3, none⟩ (.bool false)) ⟨gx, 4, none⟩ (.int .i64 0)) = w9 at EQ B9 ⊢
      have z0 := EQ.out.cell 0
      have z1 := EQ.out.cell 1
      have z2 := EQ.out.cell 2
      have z3 := EQ.out.cell 3
      have z4 := EQ.out.cell 4
      simp only [gT, gZ, gS, pS, pZ, pC] at z0 z1 z2 z3 z4
      refine bodyPost_ret (v := rqV ⟨0, 0, [], false, 0⟩ none 0 0) (by simp [results, Tryz.results53, go_sem, z0, z1, z2, z3, z4, rqV]) rfl ⟨⟨0, 0, [], false, 0⟩, none, 0, 0, rfl, Rd0.out _, by omega, .inr ⟨cmd_none (fun h => by rw [hw] at h; exact absurd h (by decide)) (fun h => by have := Hl.out; omega), rfl⟩, B9.out⟩
  · have hT2 : s.toList = [99, 108, 111, 115, 101] := by rw [hT, hw]; rfl
    clear hT
    by_cases hn : n = 1
    · subst hn
      have Hc := qh hc
      obtain ⟨b, o, rfl, lb, hcw⟩ := H.out.at_ (show 0 < 1 by omega)
      rw [Nat.add_zero] at hcw
      generalize hn0 : ns[0]?.getD 0 = m0 at hcw
      have hc0 : w1.cell? ⟨b, o, none⟩ = some (.int .i64 m0) := (B1.out.cell (p := ⟨b, o, none⟩) lb).trans hcw
      have Hn0 := qh hn0
      have Hcw := qh hcw
      clear hn0 hcw
      go_wp2_with fail
      clear x0 x1 x2 x3 x4 f0 f1 f2 f3 f4
      have EQ := qh (((((P1.out.set_ 0 (.int .i64 4)).set_ 1 (.int .i64 0)).set_ 2 (.slice none 0 0)).set_ 3 (.bool false)).set_ 4 (.int .i64 m0))
      have B9 := qh (((((B1.out.setCell (p := ⟨gx, 0, none⟩) (by simp; omega) (.int .i64 4)).setCell (p := ⟨gx, 1, none⟩) (by simp; omega) (.int .i64 0)).setCell (p := ⟨gx, 2, none⟩) (by simp; omega) (.slice none 0 0)).setCell (p := ⟨gx, 3, none⟩) (by simp; omega) (.bool false)).setCell (p := ⟨gx, 4, none⟩) (by simp; omega) (.int .i64 m0))
      generalize (World.setCell (World.setCell (World.setCell (World.setCell (World.setCell w1 ⟨gx, 0, none⟩ (.int .i64 4)) ⟨gx, 1, none⟩ (.int .i64 0)) ⟨gx, 2, none⟩ (.slice none 0 0)) ⟨gx, 3, none⟩ (.bool false)) ⟨gx, 4, none⟩ (.int .i64 m0)) = w9 at EQ B9 ⊢
      have z0 := EQ.out.cell 0
      have z1 := EQ.out.cell 1
      have z2 := EQ.out.cell 2
      have z3 := EQ.out.cell 3
      have z4 := EQ.out.cell 4
      simp only [gT, gZ, gS, pS, pZ, pC] at z0 z1 z2 z3 z4
      refine bodyPost_ret (v := rqV ⟨4, 0, [], false, m0⟩ none 0 0) (by simp [results, Tryz.results53, go_sem, z0, z1, z2, z3, z4, rqV]) rfl ⟨⟨4, 0, [], false, m0⟩, none, 0, 0, rfl, Rd0.out _, by omega, .inl (by rw [hw, ← Hn0.out]; unfold cmdP; rw [if_neg (fun h => absurd h.1 (by decide)), if_neg (fun h => absurd h.1 (by decide)), if_neg (fun h => absurd h.1 (by decide)), if_pos ⟨rfl, Hl.out⟩]; rfl), B9.out⟩
    · have tn : ((n : Int) == 1) = false := by simp; omega
      go_wp2_with fail
      clear x0 x1 x2 x3 x4 f0 f1 f2 f3 f4
      have EQ := qh (((((P1.out.set_ 0 (.int .i64 0)).set_ 1 (.int .i64 0)).set_ 2 (.slice none 0 0)).set_ 3 (.bool false)).set_ 4 (.int .i64 0))
      have B9 := qh (((((B1.out.setCell (p := ⟨gx, 0, none⟩) (by simp; omega) (.int .i64 0)).setCell (p := ⟨gx, 1, none⟩) (by simp; omega) (.int .i64 0)).setCell (p := ⟨gx, 2, none⟩) (by simp; omega) (.slice none 0 0)).setCell (p := ⟨gx, 3, none⟩) (by simp; omega) (.bool false)).setCell (p := ⟨gx, 4, none⟩) (by simp; omega) (.int .i64 0))
      generalize (World.setCell (World.setCell (World.setCell (World.setCell (World.setCell w1 ⟨gx, 0, none⟩ (.int .i64 0)) ⟨gx, 1, none⟩ (.int .i64 0)) ⟨gx, 2, none⟩ (.slice none 0 0)) ⟨gx, 3, none⟩ (.bool false)) ⟨gx, 4, none⟩ (.int .i64 0)) = w9 at EQ B9 ⊢
      have z0 := EQ.out.cell 0
      have z1 := EQ.out.cell 1
      have z2 := EQ.out.cell 2
      have z3 := EQ.out.cell 3
      have z4 := EQ.out.cell 4
      simp only [gT, gZ, gS, pS, pZ, pC] at z0 z1 z2 z3 z4
      refine bodyPost_ret (v := rqV ⟨0, 0, [], false, 0⟩ none 0 0) (by simp [results, Tryz.results53, go_sem, z0, z1, z2, z3, z4, rqV]) rfl ⟨⟨0, 0, [], false, 0⟩, none, 0, 0, rfl, Rd0.out _, by omega, .inr ⟨cmd_none (fun h => by rw [hw] at h; exact absurd h (by decide)) (fun h => by have := Hl.out; omega), rfl⟩, B9.out⟩
  · have hT2 : s.toList = [103, 97, 116, 104, 101, 114] := by rw [hT, hw]; rfl
    clear hT
    by_cases hn : n = 1
    · subst hn
      have Hc := qh hc
      obtain ⟨b, o, rfl, lb, hcw⟩ := H.out.at_ (show 0 < 1 by omega)
      rw [Nat.add_zero] at hcw
      generalize hn0 : ns[0]?.getD 0 = m0 at hcw
      have hc0 : w1.cell? ⟨b, o, none⟩ = some (.int .i64 m0) := (B1.out.cell (p := ⟨b, o, none⟩) lb).trans hcw
      have Hn0 := qh hn0
      have Hcw := qh hcw
      clear hn0 hcw
      go_wp2_with fail
      clear x0 x1 x2 x3 x4 f0 f1 f2 f3 f4
      have EQ := qh (((((P1.out.set_ 0 (.int .i64 5)).set_ 1 (.int .i64 0)).set_ 2 (.slice none 0 0)).set_ 3 (.bool false)).set_ 4 (.int .i64 m0))
      have B9 := qh (((((B1.out.setCell (p := ⟨gx, 0, none⟩) (by simp; omega) (.int .i64 5)).setCell (p := ⟨gx, 1, none⟩) (by simp; omega) (.int .i64 0)).setCell (p := ⟨gx, 2, none⟩) (by simp; omega) (.slice none 0 0)).setCell (p := ⟨gx, 3, none⟩) (by simp; omega) (.bool false)).setCell (p := ⟨gx, 4, none⟩) (by simp; omega) (.int .i64 m0))
      generalize (World.setCell (World.setCell (World.setCell (World.setCell (World.setCell w1 ⟨gx, 0, none⟩ (.int .i64 5)) ⟨gx, 1, none⟩ (.int .i64 0)) ⟨gx, 2, none⟩ (.slice none 0 0)) ⟨gx, 3, none⟩ (.bool false)) ⟨gx, 4, none⟩ (.int .i64 m0)) = w9 at EQ B9 ⊢
      have z0 := EQ.out.cell 0
      have z1 := EQ.out.cell 1
      have z2 := EQ.out.cell 2
      have z3 := EQ.out.cell 3
      have z4 := EQ.out.cell 4
      simp only [gT, gZ, gS, pS, pZ, pC] at z0 z1 z2 z3 z4
      refine bodyPost_ret (v := rqV ⟨5, 0, [], false, m0⟩ none 0 0) (by simp [results, Tryz.results53, go_sem, z0, z1, z2, z3, z4, rqV]) rfl ⟨⟨5, 0, [], false, m0⟩, none, 0, 0, rfl, Rd0.out _, by omega, .inl (by rw [hw, ← Hn0.out]; unfold cmdP; rw [if_neg (fun h => absurd h.1 (by decide)), if_neg (fun h => absurd h.1 (by decide)), if_neg (fun h => absurd h.1 (by decide)), if_neg (fun h => absurd h.1 (by decide)), if_pos ⟨rfl, Hl.out⟩]; rfl), B9.out⟩
    · have tn : ((n : Int) == 1) = false := by simp; omega
      go_wp2_with fail
      clear x0 x1 x2 x3 x4 f0 f1 f2 f3 f4
      have EQ := qh (((((P1.out.set_ 0 (.int .i64 0)).set_ 1 (.int .i64 0)).set_ 2 (.slice none 0 0)).set_ 3 (.bool false)).set_ 4 (.int .i64 0))
      have B9 := qh (((((B1.out.setCell (p := ⟨gx, 0, none⟩) (by simp; omega) (.int .i64 0)).setCell (p := ⟨gx, 1, none⟩) (by simp; omega) (.int .i64 0)).setCell (p := ⟨gx, 2, none⟩) (by simp; omega) (.slice none 0 0)).setCell (p := ⟨gx, 3, none⟩) (by simp; omega) (.bool false)).setCell (p := ⟨gx, 4, none⟩) (by simp; omega) (.int .i64 0))
      generalize (World.setCell (World.setCell (World.setCell (World.setCell (World.setCell w1 ⟨gx, 0, none⟩ (.int .i64 0)) ⟨gx, 1, none⟩ (.int .i64 0)) ⟨gx, 2, none⟩ (.slice none 0 0)) ⟨gx, 3, none⟩ (.bool false)) ⟨gx, 4, none⟩ (.int .i64 0)) = w9 at EQ B9 ⊢
      have z0 := EQ.out.cell 0
      have z1 := EQ.out.cell 1
      have z2 := EQ.out.cell 2
      have z3 := EQ.out.cell 3
      have z4 := EQ.out.cell 4
      simp only [gT, gZ, gS, pS, pZ, pC] at z0 z1 z2 z3 z4
      refine bodyPost_ret (v := rqV ⟨0, 0, [], false, 0⟩ none 0 0) (by simp [results, Tryz.results53, go_sem, z0, z1, z2, z3, z4, rqV]) rfl ⟨⟨0, 0, [], false, 0⟩, none, 0, 0, rfl, Rd0.out _, by omega, .inr ⟨cmd_none (fun h => by rw [hw] at h; exact absurd h (by decide)) (fun h => by have := Hl.out; omega), rfl⟩, B9.out⟩
  · obtain ⟨h1, h2, h3, h4, h5, h6⟩ := hw
    have t1 : ¬ s.toList = [97, 114, 114, 105, 118, 101] := by rw [hT]; exact h1
    have t2 : ¬ s.toList = [103, 114, 97, 110, 116] := by rw [hT]; exact h2
    have t3 : ¬ s.toList = [100, 101, 112, 97, 114, 116] := by rw [hT]; exact h3
    have t4 : ¬ s.toList = [111, 112, 101, 110] := by rw [hT]; exact h4
    have t5 : ¬ s.toList = [99, 108, 111, 115, 101] := by rw [hT]; exact h5
    have t6 : ¬ s.toList = [103, 97, 116, 104, 101, 114] := by rw [hT]; exact h6
    have Hno := qh (cmd_none (wd := wd) (ns := ns) (fun h => absurd h (fun h => h.elim h1 h2)) (fun h => absurd h (fun h => h.elim h3 (fun h => h.elim h4 (fun h => h.elim h5 h6)))))
    clear h1 h2 h3 h4 h5 h6 hT
    go_wp2_with fail
    clear x0 x1 x2 x3 x4 f0 f1 f2 f3 f4
    have EQ := qh (((((P1.out.set_ 0 (.int .i64 0)).set_ 1 (.int .i64 0)).set_ 2 (.slice none 0 0)).set_ 3 (.bool false)).set_ 4 (.int .i64 0))
    have B9 := qh (((((B1.out.setCell (p := ⟨gx, 0, none⟩) (by simp; omega) (.int .i64 0)).setCell (p := ⟨gx, 1, none⟩) (by simp; omega) (.int .i64 0)).setCell (p := ⟨gx, 2, none⟩) (by simp; omega) (.slice none 0 0)).setCell (p := ⟨gx, 3, none⟩) (by simp; omega) (.bool false)).setCell (p := ⟨gx, 4, none⟩) (by simp; omega) (.int .i64 0))
    generalize (World.setCell (World.setCell (World.setCell (World.setCell (World.setCell w1 ⟨gx, 0, none⟩ (.int .i64 0)) ⟨gx, 1, none⟩ (.int .i64 0)) ⟨gx, 2, none⟩ (.slice none 0 0)) ⟨gx, 3, none⟩ (.bool false)) ⟨gx, 4, none⟩ (.int .i64 0)) = w9 at EQ B9 ⊢
    have z0 := EQ.out.cell 0
    have z1 := EQ.out.cell 1
    have z2 := EQ.out.cell 2
    have z3 := EQ.out.cell 3
    have z4 := EQ.out.cell 4
    simp only [gT, gZ, gS, pS, pZ, pC] at z0 z1 z2 z3 z4
    refine bodyPost_ret (v := rqV ⟨0, 0, [], false, 0⟩ none 0 0) (by simp [results, Tryz.results53, go_sem, z0, z1, z2, z3, z4, rqV]) rfl ⟨⟨0, 0, [], false, 0⟩, none, 0, 0, rfl, Rd0.out _, by omega, .inr ⟨Hno.out, rfl⟩, B9.out⟩
end Go.Proofs.YtdkhdfedejbicaaGreatDoor

namespace Go.Proofs.YtdkhdfedejbicaaGreatDoor
set_option linter.unusedSimpArgs false
set_option linter.unusedVariables false
open Go Go.RowKit
attribute [local go_sem ↓] Go.wp_at_zero Go.wp_at_succ

theorem req_code (room : List Int) (us : List Un) (r : Rq) : 0 ≤ (reqP room us r).2.2 ∧ (reqP room us r).2.2 ≤ 5 := by
  unfold reqP cavP depP opnP arvP
  repeat' split
  all_goals (first | decide | simp)
theorem codeW_len (k : Int) : (codeW k).length ≤ 5 := by
  unfold codeW
  repeat' split
  all_goals decide
theorem line_show {us : List Un} {l : Bs} (h : cutP 32 l = [wShow]) : lineP us l = (us, showT us) := by unfold lineP; rw [h]; rfl
theorem line_bad {us : List Un} {l : Bs} (h : numsP (cutP 32 l).tail = none) : lineP us l = (us, tWhat) := by
  unfold lineP
  dsimp only
  rw [if_neg (fun e => by rw [e] at h; cases h), h]
theorem line_none {us : List Un} {l : Bs} {ns : List Int} (h0 : cutP 32 l ≠ [wShow]) (h : numsP (cutP 32 l).tail = some ns) (h1 : cmdP ((cutP 32 l).head?.getD []) ns = none) : lineP us l = (us, tWhat) := by
  unfold lineP
  dsimp only
  rw [if_neg h0, h]
  dsimp only
  rw [h1]
theorem line_req {us : List Un} {l : Bs} {ns : List Int} {r : Rq} (h0 : cutP 32 l ≠ [wShow]) (h : numsP (cutP 32 l).tail = some ns) (h1 : cmdP ((cutP 32 l).head?.getD []) ns = some r) :
    lineP us l = ((reqP [10, 10, 10] us r).2.1, codeW (reqP [10, 10, 10] us r).2.2 ++ [10]) := by
  unfold lineP
  dsimp only
  rw [if_neg h0, h]
  dsimp only
  rw [h1]
theorem cmd_kind {wd : Bs} {ns : List Int} {r : Rq} (h : cmdP wd ns = some r) : r.kind ≠ 0 := by
  unfold cmdP at h
  repeat' split at h
  all_goals first
    | (injection h with h; subst h; simp [rqN])
    | cases h
theorem sh_of {room : List Int} {us : List Un} (h : clOk room us = true) : ShV us := by
  have h1 : us.length ≤ 10 := by simp only [clOk, Bool.and_eq_true, decide_eq_true_eq] at h; exact h.1.1.2
  have h2 : ((us.map (·.2)).flatten).length ≤ 14 := by simp only [clOk, Bool.and_eq_true] at h; exact tasksOk_len (binsOk_tasks h.1.2)
  exact ⟨by omega, by omega⟩
theorem words_at {l : Bs} {n : Nat} (h : (cutP 32 l).length = n) : 1 ≤ n ∧ (cutP 32 l)[0]?.getD [] = (cutP 32 l).head?.getD [] := by
  cases hc : cutP 32 l with
  | nil => exact absurd hc (cut_ne 32 l)
  | cons a t => rw [hc] at h; simp at h; exact ⟨by omega, rfl⟩
theorem words_show {l : Bs} {ns : List Int} (h1 : (cutP 32 l).head?.getD [] = wShow) (h2 : numsP (cutP 32 l).tail = some ns) (h3 : ns = []) : cutP 32 l = [wShow] := by
  have h4 := nums_len h2
  cases hc : cutP 32 l with
  | nil => exact absurd hc (cut_ne 32 l)
  | cons a t =>
    rw [hc] at h1 h4
    subst h3
    have h5 : t = [] := List.length_eq_zero_iff.1 h4.symm
    have h6 : a = wShow := h1
    rw [h5, h6]
theorem words_no {l : Bs} {ns : List Int} (h2 : numsP (cutP 32 l).tail = some ns) (h : ¬ ((cutP 32 l).head?.getD [] = wShow ∧ ns = [])) : cutP 32 l ≠ [wShow] := fun e => by
  rw [e] at h2 h
  simp only [List.tail_cons, numsP, Option.some.injEq] at h2
  exact h ⟨rfl, h2.symm⟩

def RdCV (w : World) (v : Value) (us : List Un) : Prop := ∃ base A4 c4 A5 m5 c5, v = .agg #[.slice A4 3 c4, .slice A5 m5 c5] ∧ OwnCW w base (.slice A4 3 c4) (.slice A5 m5 c5) 3 m5 [10, 10, 10] us
abbrev wordsC : Array Value := #[.string ⟨#[100, 111, 110, 101]⟩, .string ⟨#[98, 97, 100]⟩, .string ⟨#[116, 119, 105, 99, 101]⟩, .string ⟨#[102, 117, 108, 108]⟩, .string ⟨#[110, 111, 110, 101]⟩, .string ⟨#[98, 117, 115, 121]⟩]
theorem codeW_cell (k : Nat) (h : k ≤ 5) : wordsC[k]? = some (.string (bs (codeW (k : Int)))) := by
  match k, h with
  | 0, _ => rfl
  | 1, _ => rfl
  | 2, _ => rfl
  | 3, _ => rfl
  | 4, _ => rfl
  | 5, _ => rfl
structure LineW (w u : World) (gx g8 base : Nat) (A4 A5 : Option Addr) (m5 c4 c5 : Nat) (us : List Un) (v1 v2 : Value) : Prop where
  b : Below w.heap.size w u
  q : Blk u (gx + 1) 35 #[v1, v2]
  t : Blk u g8 35 #[.slice A4 3 c4, .slice A5 m5 c5]
  cw : OwnCW u base (.slice A4 3 c4) (.slice A5 m5 c5) 3 m5 [10, 10, 10] us
  l1 : gx + 1 < base ∧ base ≤ g8
  l2 : w.heap.size ≤ gx
section
variable {w u u' : World} {gx g8 base m5 c4 c5 : Nat} {A4 A5 : Option Addr} {us : List Un} {v1 v2 : Value}
theorem LineW.up (h : LineW w u gx g8 base A4 A5 m5 c4 c5 us v1 v2) (hb : Below u.heap.size u u') : LineW w u' gx g8 base A4 A5 m5 c4 c5 us v1 v2 :=
  ⟨h.b.trans (hb.mono h.b.size), h.q.below hb h.q.lt, h.t.below hb h.t.lt, h.cw.up hb, h.l1, h.l2⟩
theorem LineW.box (h : LineW w u gx g8 base A4 A5 m5 c4 c5 us v1 v2) : u.cell? ⟨g8, 0, none⟩ = some (.slice A4 3 c4) ∧ u.cell? ⟨g8, 1, none⟩ = some (.slice A5 m5 c5) := ⟨h.t.cell 0, h.t.cell 1⟩
theorem LineW.cells (h : LineW w u gx g8 base A4 A5 m5 c4 c5 us v1 v2) : u.cell? ⟨gx + 1, 0, none⟩ = some v1 ∧ u.cell? ⟨gx + 1, 1, none⟩ = some v2 ∧ u.frozen? ⟨gx + 1, 0, none⟩ = false ∧ u.frozen? ⟨gx + 1, 1, none⟩ = false :=
  ⟨h.q.cell 0, h.q.cell 1, h.q.frozen 0, h.q.frozen 1⟩
theorem far2 (u : World) (g : Nat) (a b : Value) (k : Nat) (hk : k ≠ g) : ((u.setCell ⟨g, 0, none⟩ a).setCell ⟨g, 1, none⟩ b).heap[k]? = u.heap[k]? := (Below.heap_setCell _ _ _ _ hk).trans (Below.heap_setCell _ _ _ _ hk)
theorem LineW.put (h : LineW w u gx g8 base A4 A5 m5 c4 c5 us v1 v2) : LineW w ((u.setCell ⟨gx + 1, 0, none⟩ (.slice A4 3 c4)).setCell ⟨gx + 1, 1, none⟩ (.slice A5 m5 c5)) gx g8 base A4 A5 m5 c4 c5 us (.slice A4 3 c4) (.slice A5 m5 c5) := by
  have l1 := h.l1
  have l2 := h.l2
  refine ⟨(h.b.setCell (p := ⟨gx + 1, 0, none⟩) (by show w.heap.size ≤ gx + 1; omega) _).setCell (p := ⟨gx + 1, 1, none⟩) (by show w.heap.size ≤ gx + 1; omega) _, (h.q.set_ 0 _).set_ 1 _, (far2 u _ _ _ g8 (by omega)).trans h.t, h.cw.keepR (fun b hb _ => far2 u _ _ _ b (by omega)), h.l1, h.l2⟩
theorem LineW.keepW (h : LineW w u gx g8 base A4 A5 m5 c4 c5 us v1 v2) {gw : Nat} {cs : Array Value} (hv : Blk u gw 9 cs) : Blk ((u.setCell ⟨gx + 1, 0, none⟩ (.slice A4 3 c4)).setCell ⟨gx + 1, 1, none⟩ (.slice A5 m5 c5)) gw 9 cs := by
  refine (far2 u _ _ _ gw (fun e => ?_)).trans hv
  have h1 := h.q
  rw [← e] at h1
  have h2 := h1.symm.trans hv
  injection h2 with h2
  injection h2 with _ h3
  exact absurd h3 (by decide)
end

set_option maxRecDepth 100000 in
set_option maxHeartbeats 6400000 in
theorem l51Line_any (base : Nat) (A1 A2 : Option Addr) (c1 n2 c2 : Nat) (us : List Un) (s : ByteArray) (w : World) (hs : s.size ≤ 900) (h : OwnCW w base (.slice A1 3 c1) (.slice A2 n2 c2) 3 n2 [10, 10, 10] us) (hok : clOk [10, 10, 10] us = true) :
    Calls Tryz.prog 30 #[.agg #[.slice A1 3 c1, .slice A2 n2 c2], .string s] w fun e w' => ∃ v4, e = .returned (.tuple #[v4, .string (bs (lineP us s.data.toList).2)]) ∧ RdCV w' v4 (lineP us s.data.toList).1 ∧ Below w.heap.size w w' := by
  have sz0 : (w.alloc (.cells #[.slice A1 3 c1, .slice A2 n2 c2] 35)).heap.size = w.heap.size + 1 := World.size_alloc _ _
  have B1 := qh ((alloc_up w (.cells #[.slice A1 3 c1, .slice A2 n2 c2] 35)).alloc (by rw [sz0]; omega) (.cells #[.slice none 0 0, .slice none 0 0] 35))
  have P1 := qh ((Blk.new w 35 #[.slice A1 3 c1, .slice A2 n2 c2]).alloc (.cells #[.slice none 0 0, .slice none 0 0] 35))
  have hQ := Blk.new (w.alloc (.cells #[.slice A1 3 c1, .slice A2 n2 c2] 35)) 35 #[.slice none 0 0, .slice none 0 0]
  rw [sz0] at hQ
  have Q1 := qh hQ
  have H := qh (h.rd.up B1.out)
  have H0 := qh h
  have Hok := qh hok
  clear hQ h hok sz0
  have cutc := fun W => l51Cut_any s W (by omega)
  have hsl := Lib.size_eq s
  generalize hl : s.data.toList = l at *
  have Cutc := qh cutc
  clear hl cutc
  go_enter Tryz.func30, Tryz.ntmps30
  go_wp2_with fail
  generalize hgx : w.heap.size = gx at P1 Q1 ⊢
  generalize (w.alloc (.cells #[.slice A1 3 c1, .slice A2 n2 c2] 35)).alloc (.cells #[.slice none 0 0, .slice none 0 0] 35) = w1 at B1 P1 Q1 H ⊢
  have lgq := Q1.out.lt
  have lgx := P1.out.lt
  refine (Cutc.out w1).mono ?_; rintro e w2 ⟨A3, m3, c3, rfl, hO, hb⟩
  have B2 := qh hb
  have lm : (cutP 32 l).length = m3 := by have := hO.1; simpa using this
  have hml := cut_len 32 l
  have hm3 : m3 ≤ 1000 := by have := List.count_le_length (a := (32 : UInt8)) (l := l); omega
  have S2 := qh (RdS.of_own hO (by omega))
  obtain ⟨hm1, hw0⟩ := words_at lm
  have Hw0 := qh hw0
  have Lm := qh lm
  clear hO hb hw0 lm hml
  go_wp2_with fail
  refine (l51Numbers_any A3 m3 c3 (cutP 32 l) w2 S2.out hm1 hm3).mono ?_; rintro e w3 ⟨A6, m6, c6, ns, bv, rfl, hO6, hret, hb⟩
  have B3 := qh (B2.out.trans (hb.mono B2.out.size))
  have S3 := qh (S2.out.up hb)
  have hc6 := own_cap' hO6
  have R6 := qh (own_rdI hO6 (own_le hO6))
  have L6 := qh (show ns.length = m6 from by have := hO6.1; simpa using this)
  have lz3 := B3.out.size
  obtain ⟨b, o, rfl, lb, hc0⟩ := S3.out.at_ (show 0 < m3 by omega)
  rw [Nat.add_zero, Hw0.out] at hc0
  have Hret := qh hret
  clear hO6 hb S2 B2 hret
  have P3 := qh (P1.out.below B3.out lgx)
  have Q3 := qh (Q1.out.below B3.out lgq)
  have H3 := qh (H.out.up B3.out)
  clear H P1 Q1
  have x0 := P3.out.cell 0
  have x1 := P3.out.cell 1
  have y0 := Q3.out.cell 0
  have y1 := Q3.out.cell 1
  simp only [gT, gZ, gS] at x0 x1 y0 y1
  have f0 := Q3.out.frozen 0
  have f1 := Q3.out.frozen 1
  generalize hwd : (cutP 32 l).head?.getD [] = wd at hc0
  have Hwd := qh hwd
  clear hwd
  have hT := bs_toList wd
  have HT := qh hT
  rcases Hret.out with ⟨rfl, hns⟩ | ⟨rfl, hns, rfl⟩
  · have Hns := qh hns
    clear hns Hret
    by_cases hsh : wd = wShow ∧ ns = []
    · obtain ⟨rfl, rfl⟩ := hsh
      obtain rfl : m6 = 0 := by have := L6.out; simp at this; omega
      have El := qh (line_show (us := us) (words_show Hwd.out Hns.out rfl))
      have hT2 : (bs wShow).toList = [115, 104, 111, 119] := hT
      clear hT
      generalize bs wShow = sw at *
      go_wp2_with fail
      have K0 : w3.drew.cell? ⟨gx, 0, none⟩ = some (.slice A1 3 c1) ∧ w3.drew.cell? ⟨gx, 1, none⟩ = some (.slice A2 n2 c2) := ⟨x0, x1⟩
      refine wp_region_mix (.take 0 (.take 1 (.bar 2 (.bar 3 (.take 4 .nil))))) (fun w' => w'.cell? ⟨gx, 0, none⟩ = some (.slice A1 3 c1) ∧ w'.cell? ⟨gx, 1, none⟩ = some (.slice A2 n2 c2)) (by kernel_rfl) (by kernel_rfl) K0 (fun _ => ?_)
      clear x0 x1 y0 y1 f0 f1 hc0 K0
      have Bd := qh B3.out.drew
      have Pd := qh P3.out.drew
      have Qd := qh Q3.out.drew
      have Hd := qh (show RdC w3.drew A1 A2 3 n2 [10, 10, 10] us from ⟨H3.out.a, H3.out.b⟩)
      have lgxd : gx < w3.drew.heap.size := P3.out.lt
      have lgqd : gx + 1 < w3.drew.heap.size := Q3.out.lt
      generalize w3.drew = u0 at Bd Pd Qd Hd lgxd lgqd ⊢
      repeat ((first | refine mxS (by rfl) (by rfl) ?_ | (refine mxT (v := ?_) (by rfl) (by rfl) (fun z y => ?_) ?_; rotate_left; (focus ((try dsimp only at y); (go_simp <;> with_reducible rfl); done)))); (try simp only [Act.put,pS,pZ,pC]))
      (refine mxB (by rfl) (fun K hK => ?_); go_simp)
      refine (l51Show_any A1 A2 3 c1 n2 c2 [10, 10, 10] us u0 Hd.out Hok.out).mono ?_; rintro e u1 ⟨rfl, hb⟩
      have U1 := qh (Bd.out.trans (hb.mono (by have := Bd.out.size; omega)))
      have Pe := qh (Pd.out.below hb lgxd)
      have Qe := qh (Qd.out.below hb lgqd)
      have He := qh (Hd.out.up hb)
      ((try dsimp only); refine nxK hK _ _ (⟨Pe.out.cell 0, Pe.out.cell 1⟩) ?_; clear hK K; (try simp only [Act.put,pS,pZ,pC]))
      clear hb
      have y0 := Qe.out.cell 0
      have y1 := Qe.out.cell 1
      simp only [gT, gZ, gS] at y0 y1
      have f0 := Qe.out.frozen 0
      have f1 := Qe.out.frozen 1
      (refine mxB (by rfl) (fun K hK => ?_); go_simp)
      clear y0 y1 f0 f1
      have EQ := qh ((Qe.out.set_ 0 (.slice A1 3 c1)).set_ 1 (.slice A2 n2 c2))
      have PQ := qh ((Pe.out.far (p := ⟨gx + 1, 0, none⟩) (by simp) (.slice A1 3 c1)).far (p := ⟨gx + 1, 1, none⟩) (by simp) (.slice A2 n2 c2))
      have B9 := qh ((B1.out.trans (U1.out.mono (by have := B1.out.size; omega))).setCell (p := ⟨gx + 1, 0, none⟩) (by simp; omega) (.slice A1 3 c1) |>.setCell (p := ⟨gx + 1, 1, none⟩) (by simp; omega) (.slice A2 n2 c2))
      generalize (World.setCell (World.setCell u1 ⟨gx + 1, 0, none⟩ (.slice A1 3 c1)) ⟨gx + 1, 1, none⟩ (.slice A2 n2 c2)) = w9 at EQ PQ B9 ⊢
      ((try dsimp only); refine nxK hK _ _ (⟨PQ.out.cell 0, PQ.out.cell 1⟩) ?_; clear hK K; (try simp only [Act.put,pS,pZ,pC]))
      repeat ((first | refine mxS (by rfl) (by rfl) ?_ | (refine mxT (v := ?_) (by rfl) (by rfl) (fun z y => ?_) ?_; rotate_left; (focus ((try dsimp only at y); (go_simp <;> with_reducible rfl); done)))); (try simp only [Act.put,pS,pZ,pC]))
      refine wpMix_nil ?_
      go_wp2_with fail
      have z0 := EQ.out.cell 0
      have z1 := EQ.out.cell 1
      simp only [gT, gZ, gS, pS, pZ, pC] at z0 z1
      refine bodyPost_ret (v := .tuple #[.agg #[.slice A1 3 c1, .slice A2 n2 c2], .string (bs (showT us))]) (by simp [results, Tryz.results30, go_sem, z0, z1]) rfl ⟨_, by rw [El.out], by rw [El.out]; exact ⟨base, A1, c1, A2, n2, c2, rfl, H0.out.up B9.out⟩, by first | exact B9.out | (rw [← hgx]; exact B9.out)⟩

    · have hnot := qh (words_no Hns.out (by rw [Hwd.out]; exact hsh))
      by_cases hws : wd = wShow
      · have hT2 : (bs wd).toList = [115, 104, 111, 119] := by rw [hT, hws]; rfl
        have hm0 : ((m6 : Int) == 0) = false := by
          have h1 : m6 ≠ 0 := fun e => hsh ⟨hws, List.length_eq_zero_iff.1 (by rw [L6.out]; exact e)⟩
          simp; omega
        clear hsh hT hws
        go_wp2_with fail
        refine (l51Request_any wd A6 m6 c6 _ w3 R6.out hc6).mono ?_; rintro e w4 ⟨r, A7, n7, c7, rfl, hR, hc7, hreq, hb⟩
        have al := alloc_up w4 (.cells (rqC r A7 n7 c7) 77)
        have B4 := B3.out.trans (hb.mono lz3)
        have B5 := qh (B4.trans (al.mono B4.size))
        have lg4 : gx < w4.heap.size ∧ gx + 1 < w4.heap.size := by have := B4.size; omega
        have P5 := qh ((P3.out.below hb P3.out.lt).below al lg4.1)
        have Q5 := qh ((Q3.out.below hb Q3.out.lt).below al lg4.2)
        have H5 := qh ((H3.out.up hb).up al)
        have R5 := qh (hR.up al)
        have T5 := qh (Blk.new w4 77 (rqC r A7 n7 c7))
        have Hreq := qh hreq
        clear al B4 hb hR hreq x0 x1 y0 y1 f0 f1 hc0
        dsimp only [rqV, rqC] at *
        go_upto_region 6 with fail
        generalize hg9 : w4.heap.size = g9 at T5 lg4 ⊢
        generalize w4.alloc (.cells #[.int .i64 r.kind, .int .i64 r.id, .slice A7 n7 c7, .bool r.grant, .int .i64 r.num] 77) = w5 at B5 P5 Q5 H5 R5 T5 ⊢
        have lg5 := T5.out.lt
        have lz5 := B5.out.size
        rcases Hreq.out with hcm | ⟨hcm, rfl⟩
        · have El := qh (line_req (us := us) hnot.out Hns.out (by rw [Hwd.out]; exact hcm))
          have tk : ((r.kind : Int) == 0) = false := by have := cmd_kind hcm; simpa using this
          clear hcm
          have x0 := P5.out.cell 0
          have x1 := P5.out.cell 1
          have y0 := Q5.out.cell 0
          have y1 := Q5.out.cell 1
          simp only [gT, gZ, gS] at x0 x1 y0 y1
          have f0 := Q5.out.frozen 0
          have f1 := Q5.out.frozen 1
          have q0 := T5.out.cell 0
          have q1 := T5.out.cell 1
          have q2 := T5.out.cell 2
          have q3 := T5.out.cell 3
          have q4 := T5.out.cell 4
          simp only [gT, gZ, gS] at q0 q1 q2 q3 q4
          have Ecode := req_code [10, 10, 10] us r
          have Efac := req_facts (r := r) Hok.out
          go_wp2_with fail
          refine (requestDoS_any A1 A2 A7 3 c1 n2 c2 n7 c7 [10, 10, 10] us r w5 H5.out (sh_of Hok.out) (by omega) R5.out hc7).mono ?_; rintro e w6 ⟨A4, m4, c4, A5, m5, c5, rfl, hOC, hb⟩
          rw [Efac.1] at hOC
          obtain ⟨hl4, hl5, _, _⟩ := hOC.len
          obtain rfl : m4 = 3 := by simpa using hl4.symm
          generalize (reqP [10, 10, 10] us r).2.1 = us' at *
          obtain ⟨kc, hkc⟩ := Int.eq_ofNat_of_zero_le Ecode.1
          rw [hkc] at Ecode El ⊢
          have hk5 : kc ≤ 5 := by omega
          have Hkw := qh (codeW_cell kc hk5)
          have hcwl := codeW_len (kc : Int)
          generalize codeW (kc : Int) = cw at *
          have a1 : ∀ W, (Op.stringOp .add (bs cw) ⟨#[10]⟩).run Tryz.prog W = .ok (.string (bs (cw ++ [10]))) W := add_run cw [10] (by simp; omega)
          have Q6 := qh (Q5.out.below hb Q5.out.lt)
          have al := alloc_up w6 (.cells #[.slice A4 3 c4, .slice A5 m5 c5] 35)
          have B6 := B5.out.trans (hb.mono lz5)
          have B7 := qh (B6.trans (al.mono B6.size))
          have Q7 := qh (Q6.out.below al Q6.out.lt)
          have C7 := qh (hOC.up al)
          have T7 := qh (Blk.new w6 35 #[.slice A4 3 c4, .slice A5 m5 c5])
          have lz6 := hb.size
          clear x0 x1 y0 y1 f0 f1 q0 q1 q2 q3 q4 al B6 hb hOC Efac hkc Q6
          go_upto_region 9 with fail
          generalize hg8 : w6.heap.size = g8 at T7 lz6 ⊢
          generalize w6.alloc (.cells #[.slice A4 3 c4, .slice A5 m5 c5] 35) = w7 at B7 Q7 C7 T7 ⊢
          have kc1 : (0 : Int) ≤ (kc : Int) := by omega
          have kc2 : (kc : Int) < 6 := by omega
          have K0 : w7.drew.cell? ⟨g8, 0, none⟩ = some (.slice A4 3 c4) ∧ w7.drew.cell? ⟨g8, 1, none⟩ = some (.slice A5 m5 c5) := ⟨T7.out.cell 0, T7.out.cell 1⟩
          refine wp_region_mix (.take 0 (.take 2 (.fork 1 (.take 3 (.fork 4 (.take 5 (.bar 6 (.take 7 .nil))) 6 (.bar 4 (.take 5 (.take 7 .nil))))) 6 (.bar 1 (.take 3 (.bar 4 (.take 5 (.take 7 .nil)))))))) (fun w' => w'.cell? ⟨g8, 0, none⟩ = some (.slice A4 3 c4) ∧ w'.cell? ⟨g8, 1, none⟩ = some (.slice A5 m5 c5)) (by kernel_rfl) (by kernel_rfl) K0 (fun _ => ?_)
          clear K0
          have D0 := qh (show LineW w w7.drew gx g8 w5.heap.size A4 A5 m5 c4 c5 us' (.slice none 0 0) (.slice none 0 0) from ⟨(B1.out.trans (B7.out.mono B1.out.size)).drew, Q7.out.drew, T7.out.drew, C7.out.keepR (fun _ _ _ => rfl), by omega, by omega⟩)
          generalize w7.drew = u0 at D0 ⊢
          clear B7 Q7 C7 T7
          repeat ((first | refine mxS (by rfl) (by rfl) ?_ | (refine mxT (v := ?_) (by rfl) (by rfl) (fun z y => ?_) ?_; rotate_left; (focus ((try dsimp only at y); (go_simp <;> with_reducible rfl); done)))); (try simp only [Act.put,pS,pZ,pC]))
          refine wpMix_fork (by rfl) (by rfl) (fun K hK => ?_) (fun K hK => ?_)
          · go_simp
            have D1 := qh (D0.out.up (alloc_up u0 (.cells wordsC 9)))
            have V1 := qh (Blk.new u0 9 wordsC)
            ((try dsimp only); refine nxK hK _ _ (D1.out.box) ?_; clear hK K; (try simp only [Act.put,pS,pZ,pC]))
            unfold wordsC at D1 V1
            generalize u0.heap.size = gw at V1 ⊢
            generalize u0.alloc _ = u1 at D1 V1 ⊢
            repeat ((first | refine mxS (by rfl) (by rfl) ?_ | (refine mxT (v := ?_) (by rfl) (by rfl) (fun z y => ?_) ?_; rotate_left; (focus ((try dsimp only at y); (go_simp <;> with_reducible rfl); done)))); (try simp only [Act.put,pS,pZ,pC]))
            refine wpMix_fork (by rfl) (by rfl) (fun K hK => ?_) (fun K hK => ?_)
            · have hcell := (V1.out.cell kc).trans Hkw.out
              go_simp
              ((try dsimp only); refine nxK hK _ _ (D1.out.box) ?_; clear hK K; (try simp only [Act.put,pS,pZ,pC]))
              clear hcell
              repeat ((first | refine mxS (by rfl) (by rfl) ?_ | (refine mxT (v := ?_) (by rfl) (by rfl) (fun z y => ?_) ?_; rotate_left; (focus ((try dsimp only at y); (go_simp <;> with_reducible rfl); done)))); (try simp only [Act.put,pS,pZ,pC]))
              obtain ⟨y0, y1, f0, f1⟩ := D1.out.cells
              (refine mxB (by rfl) (fun K hK => ?_); go_simp)
              clear y0 y1 f0 f1
              have D2 := qh D1.out.put
              generalize (World.setCell (World.setCell u1 ⟨gx + 1, 0, none⟩ (.slice A4 3 c4)) ⟨gx + 1, 1, none⟩ (.slice A5 m5 c5)) = u2 at D2 ⊢
              ((try dsimp only); refine nxK hK _ _ (D2.out.box) ?_; clear hK K; (try simp only [Act.put,pS,pZ,pC]))
              repeat ((first | refine mxS (by rfl) (by rfl) ?_ | (refine mxT (v := ?_) (by rfl) (by rfl) (fun z y => ?_) ?_; rotate_left; (focus ((try dsimp only at y); (go_simp <;> with_reducible rfl); done)))); (try simp only [Act.put,pS,pZ,pC]))
              refine wpMix_nil ?_
              go_wp2_with fail
              obtain ⟨z0, z1, _, _⟩ := D2.out.cells
              refine bodyPost_ret (v := .tuple #[.agg #[.slice A4 3 c4, .slice A5 m5 c5], .string (bs (cw ++ [10]))]) (by simp [results, Tryz.results30, go_sem, z0, z1]) rfl ⟨_, by rw [El.out], by rw [El.out]; exact ⟨_, A4, c4, A5, m5, c5, rfl, D2.out.cw⟩, by first | exact D2.out.b | (rw [← hgx]; exact D2.out.b)⟩
            · obtain ⟨y0, y1, f0, f1⟩ := D1.out.cells
              go_simp
              clear y0 y1 f0 f1
              have D2 := qh D1.out.put
              have V2 := qh (D1.out.keepW V1.out)
              ((try dsimp only); refine nxK hK _ _ (D2.out.box) ?_; clear hK K; (try simp only [Act.put,pS,pZ,pC]))
              generalize (World.setCell (World.setCell u1 ⟨gx + 1, 0, none⟩ (.slice A4 3 c4)) ⟨gx + 1, 1, none⟩ (.slice A5 m5 c5)) = u2 at D2 V2 ⊢
              have hcell := (V2.out.cell kc).trans Hkw.out
              (refine mxB (by rfl) (fun K hK => ?_); go_simp)
              ((try dsimp only); refine nxK hK _ _ (D2.out.box) ?_; clear hK K; (try simp only [Act.put,pS,pZ,pC]))
              clear hcell
              repeat ((first | refine mxS (by rfl) (by rfl) ?_ | (refine mxT (v := ?_) (by rfl) (by rfl) (fun z y => ?_) ?_; rotate_left; (focus ((try dsimp only at y); (go_simp <;> with_reducible rfl); done)))); (try simp only [Act.put,pS,pZ,pC]))
              refine wpMix_nil ?_
              go_wp2_with fail
              obtain ⟨z0, z1, _, _⟩ := D2.out.cells
              refine bodyPost_ret (v := .tuple #[.agg #[.slice A4 3 c4, .slice A5 m5 c5], .string (bs (cw ++ [10]))]) (by simp [results, Tryz.results30, go_sem, z0, z1]) rfl ⟨_, by rw [El.out], by rw [El.out]; exact ⟨_, A4, c4, A5, m5, c5, rfl, D2.out.cw⟩, by first | exact D2.out.b | (rw [← hgx]; exact D2.out.b)⟩
          · obtain ⟨y0, y1, f0, f1⟩ := D0.out.cells
            go_simp
            clear y0 y1 f0 f1
            have D1 := qh D0.out.put
            ((try dsimp only); refine nxK hK _ _ (D1.out.box) ?_; clear hK K; (try simp only [Act.put,pS,pZ,pC]))
            generalize (World.setCell (World.setCell u0 ⟨gx + 1, 0, none⟩ (.slice A4 3 c4)) ⟨gx + 1, 1, none⟩ (.slice A5 m5 c5)) = u1 at D1 ⊢
            (refine mxB (by rfl) (fun K hK => ?_); go_simp)
            have D2 := qh (D1.out.up (alloc_up u1 (.cells wordsC 9)))
            have V2 := qh (Blk.new u1 9 wordsC)
            ((try dsimp only); refine nxK hK _ _ (D2.out.box) ?_; clear hK K; (try simp only [Act.put,pS,pZ,pC]))
            unfold wordsC at D2 V2
            generalize u1.heap.size = gw at V2 ⊢
            generalize u1.alloc _ = u2 at D2 V2 ⊢
            repeat ((first | refine mxS (by rfl) (by rfl) ?_ | (refine mxT (v := ?_) (by rfl) (by rfl) (fun z y => ?_) ?_; rotate_left; (focus ((try dsimp only at y); (go_simp <;> with_reducible rfl); done)))); (try simp only [Act.put,pS,pZ,pC]))
            have hcell := (V2.out.cell kc).trans Hkw.out
            (refine mxB (by rfl) (fun K hK => ?_); go_simp)
            ((try dsimp only); refine nxK hK _ _ (D2.out.box) ?_; clear hK K; (try simp only [Act.put,pS,pZ,pC]))
            clear hcell
            repeat ((first | refine mxS (by rfl) (by rfl) ?_ | (refine mxT (v := ?_) (by rfl) (by rfl) (fun z y => ?_) ?_; rotate_left; (focus ((try dsimp only at y); (go_simp <;> with_reducible rfl); done)))); (try simp only [Act.put,pS,pZ,pC]))
            refine wpMix_nil ?_
            go_wp2_with fail
            obtain ⟨z0, z1, _, _⟩ := D2.out.cells
            refine bodyPost_ret (v := .tuple #[.agg #[.slice A4 3 c4, .slice A5 m5 c5], .string (bs (cw ++ [10]))]) (by simp [results, Tryz.results30, go_sem, z0, z1]) rfl ⟨_, by rw [El.out], by rw [El.out]; exact ⟨_, A4, c4, A5, m5, c5, rfl, D2.out.cw⟩, by first | exact D2.out.b | (rw [← hgx]; exact D2.out.b)⟩
        · have El := qh (line_none (us := us) hnot.out Hns.out (by rw [Hwd.out]; exact hcm))
          clear hcm
          have x0 := P5.out.cell 0
          have x1 := P5.out.cell 1
          have y0 := Q5.out.cell 0
          have y1 := Q5.out.cell 1
          simp only [gT, gZ, gS] at x0 x1 y0 y1
          have f0 := Q5.out.frozen 0
          have f1 := Q5.out.frozen 1
          have q0 := T5.out.cell 0
          have q1 := T5.out.cell 1
          have q2 := T5.out.cell 2
          have q3 := T5.out.cell 3
          have q4 := T5.out.cell 4
          simp only [gT, gZ, gS] at q0 q1 q2 q3 q4
          go_wp2_with fail
          clear x0 x1 y0 y1 f0 f1 q0 q1 q2 q3 q4
          have EQ := qh ((Q5.out.set_ 0 (.slice A1 3 c1)).set_ 1 (.slice A2 n2 c2))
          have B9 := qh ((B1.out.trans (B5.out.mono B1.out.size)).setCell (p := ⟨gx + 1, 0, none⟩) (by simp; omega) (.slice A1 3 c1) |>.setCell (p := ⟨gx + 1, 1, none⟩) (by simp; omega) (.slice A2 n2 c2))
          generalize (World.setCell (World.setCell w5 ⟨gx + 1, 0, none⟩ (.slice A1 3 c1)) ⟨gx + 1, 1, none⟩ (.slice A2 n2 c2)) = w9 at EQ B9 ⊢
          have z0 := EQ.out.cell 0
          have z1 := EQ.out.cell 1
          simp only [gT, gZ, gS, pS, pZ, pC] at z0 z1
          refine bodyPost_ret (v := .tuple #[.agg #[.slice A1 3 c1, .slice A2 n2 c2], .string ⟨#[119, 104, 97, 116, 10]⟩]) (by simp [results, Tryz.results30, go_sem, z0, z1]) rfl ⟨_, by rw [El.out]; rfl, by rw [El.out]; exact ⟨base, A1, c1, A2, n2, c2, rfl, H0.out.up B9.out⟩, by first | exact B9.out | (rw [← hgx]; exact B9.out)⟩
      · have hT2 : ¬ (bs wd).toList = [115, 104, 111, 119] := by rw [hT]; exact hws
        clear hT hsh hws
        go_wp2_with fail
        refine (l51Request_any wd A6 m6 c6 _ w3 R6.out hc6).mono ?_; rintro e w4 ⟨r, A7, n7, c7, rfl, hR, hc7, hreq, hb⟩
        have al := alloc_up w4 (.cells (rqC r A7 n7 c7) 77)
        have B4 := B3.out.trans (hb.mono lz3)
        have B5 := qh (B4.trans (al.mono B4.size))
        have lg4 : gx < w4.heap.size ∧ gx + 1 < w4.heap.size := by have := B4.size; omega
        have P5 := qh ((P3.out.below hb P3.out.lt).below al lg4.1)
        have Q5 := qh ((Q3.out.below hb Q3.out.lt).below al lg4.2)
        have H5 := qh ((H3.out.up hb).up al)
        have R5 := qh (hR.up al)
        have T5 := qh (Blk.new w4 77 (rqC r A7 n7 c7))
        have Hreq := qh hreq
        clear al B4 hb hR hreq x0 x1 y0 y1 f0 f1 hc0
        dsimp only [rqV, rqC] at *
        go_upto_region 6 with fail
        generalize hg9 : w4.heap.size = g9 at T5 lg4 ⊢
        generalize w4.alloc (.cells #[.int .i64 r.kind, .int .i64 r.id, .slice A7 n7 c7, .bool r.grant, .int .i64 r.num] 77) = w5 at B5 P5 Q5 H5 R5 T5 ⊢
        have lg5 := T5.out.lt
        have lz5 := B5.out.size
        rcases Hreq.out with hcm | ⟨hcm, rfl⟩
        · have El := qh (line_req (us := us) hnot.out Hns.out (by rw [Hwd.out]; exact hcm))
          have tk : ((r.kind : Int) == 0) = false := by have := cmd_kind hcm; simpa using this
          clear hcm
          have x0 := P5.out.cell 0
          have x1 := P5.out.cell 1
          have y0 := Q5.out.cell 0
          have y1 := Q5.out.cell 1
          simp only [gT, gZ, gS] at x0 x1 y0 y1
          have f0 := Q5.out.frozen 0
          have f1 := Q5.out.frozen 1
          have q0 := T5.out.cell 0
          have q1 := T5.out.cell 1
          have q2 := T5.out.cell 2
          have q3 := T5.out.cell 3
          have q4 := T5.out.cell 4
          simp only [gT, gZ, gS] at q0 q1 q2 q3 q4
          have Ecode := req_code [10, 10, 10] us r
          have Efac := req_facts (r := r) Hok.out
          go_wp2_with fail
          refine (requestDoS_any A1 A2 A7 3 c1 n2 c2 n7 c7 [10, 10, 10] us r w5 H5.out (sh_of Hok.out) (by omega) R5.out hc7).mono ?_; rintro e w6 ⟨A4, m4, c4, A5, m5, c5, rfl, hOC, hb⟩
          rw [Efac.1] at hOC
          obtain ⟨hl4, hl5, _, _⟩ := hOC.len
          obtain rfl : m4 = 3 := by simpa using hl4.symm
          generalize (reqP [10, 10, 10] us r).2.1 = us' at *
          obtain ⟨kc, hkc⟩ := Int.eq_ofNat_of_zero_le Ecode.1
          rw [hkc] at Ecode El ⊢
          have hk5 : kc ≤ 5 := by omega
          have Hkw := qh (codeW_cell kc hk5)
          have hcwl := codeW_len (kc : Int)
          generalize codeW (kc : Int) = cw at *
          have a1 : ∀ W, (Op.stringOp .add (bs cw) ⟨#[10]⟩).run Tryz.prog W = .ok (.string (bs (cw ++ [10]))) W := add_run cw [10] (by simp; omega)
          have Q6 := qh (Q5.out.below hb Q5.out.lt)
          have al := alloc_up w6 (.cells #[.slice A4 3 c4, .slice A5 m5 c5] 35)
          have B6 := B5.out.trans (hb.mono lz5)
          have B7 := qh (B6.trans (al.mono B6.size))
          have Q7 := qh (Q6.out.below al Q6.out.lt)
          have C7 := qh (hOC.up al)
          have T7 := qh (Blk.new w6 35 #[.slice A4 3 c4, .slice A5 m5 c5])
          have lz6 := hb.size
          clear x0 x1 y0 y1 f0 f1 q0 q1 q2 q3 q4 al B6 hb hOC Efac hkc Q6
          go_upto_region 9 with fail
          generalize hg8 : w6.heap.size = g8 at T7 lz6 ⊢
          generalize w6.alloc (.cells #[.slice A4 3 c4, .slice A5 m5 c5] 35) = w7 at B7 Q7 C7 T7 ⊢
          have kc1 : (0 : Int) ≤ (kc : Int) := by omega
          have kc2 : (kc : Int) < 6 := by omega
          have K0 : w7.drew.cell? ⟨g8, 0, none⟩ = some (.slice A4 3 c4) ∧ w7.drew.cell? ⟨g8, 1, none⟩ = some (.slice A5 m5 c5) := ⟨T7.out.cell 0, T7.out.cell 1⟩
          refine wp_region_mix (.take 0 (.take 2 (.fork 1 (.take 3 (.fork 4 (.take 5 (.bar 6 (.take 7 .nil))) 6 (.bar 4 (.take 5 (.take 7 .nil))))) 6 (.bar 1 (.take 3 (.bar 4 (.take 5 (.take 7 .nil)))))))) (fun w' => w'.cell? ⟨g8, 0, none⟩ = some (.slice A4 3 c4) ∧ w'.cell? ⟨g8, 1, none⟩ = some (.slice A5 m5 c5)) (by kernel_rfl) (by kernel_rfl) K0 (fun _ => ?_)
          clear K0
          have D0 := qh (show LineW w w7.drew gx g8 w5.heap.size A4 A5 m5 c4 c5 us' (.slice none 0 0) (.slice none 0 0) from ⟨(B1.out.trans (B7.out.mono B1.out.size)).drew, Q7.out.drew, T7.out.drew, C7.out.keepR (fun _ _ _ => rfl), by omega, by omega⟩)
          generalize w7.drew = u0 at D0 ⊢
          clear B7 Q7 C7 T7
          repeat ((first | refine mxS (by rfl) (by rfl) ?_ | (refine mxT (v := ?_) (by rfl) (by rfl) (fun z y => ?_) ?_; rotate_left; (focus ((try dsimp only at y); (go_simp <;> with_reducible rfl); done)))); (try simp only [Act.put,pS,pZ,pC]))
          refine wpMix_fork (by rfl) (by rfl) (fun K hK => ?_) (fun K hK => ?_)
          · go_simp
            have D1 := qh (D0.out.up (alloc_up u0 (.cells wordsC 9)))
            have V1 := qh (Blk.new u0 9 wordsC)
            ((try dsimp only); refine nxK hK _ _ (D1.out.box) ?_; clear hK K; (try simp only [Act.put,pS,pZ,pC]))
            unfold wordsC at D1 V1
            generalize u0.heap.size = gw at V1 ⊢
            generalize u0.alloc _ = u1 at D1 V1 ⊢
            repeat ((first | refine mxS (by rfl) (by rfl) ?_ | (refine mxT (v := ?_) (by rfl) (by rfl) (fun z y => ?_) ?_; rotate_left; (focus ((try dsimp only at y); (go_simp <;> with_reducible rfl); done)))); (try simp only [Act.put,pS,pZ,pC]))
            refine wpMix_fork (by rfl) (by rfl) (fun K hK => ?_) (fun K hK => ?_)
            · have hcell := (V1.out.cell kc).trans Hkw.out
              go_simp
              ((try dsimp only); refine nxK hK _ _ (D1.out.box) ?_; clear hK K; (try simp only [Act.put,pS,pZ,pC]))
              clear hcell
              repeat ((first | refine mxS (by rfl) (by rfl) ?_ | (refine mxT (v := ?_) (by rfl) (by rfl) (fun z y => ?_) ?_; rotate_left; (focus ((try dsimp only at y); (go_simp <;> with_reducible rfl); done)))); (try simp only [Act.put,pS,pZ,pC]))
              obtain ⟨y0, y1, f0, f1⟩ := D1.out.cells
              (refine mxB (by rfl) (fun K hK => ?_); go_simp)
              clear y0 y1 f0 f1
              have D2 := qh D1.out.put
              generalize (World.setCell (World.setCell u1 ⟨gx + 1, 0, none⟩ (.slice A4 3 c4)) ⟨gx + 1, 1, none⟩ (.slice A5 m5 c5)) = u2 at D2 ⊢
              ((try dsimp only); refine nxK hK _ _ (D2.out.box) ?_; clear hK K; (try simp only [Act.put,pS,pZ,pC]))
              repeat ((first | refine mxS (by rfl) (by rfl) ?_ | (refine mxT (v := ?_) (by rfl) (by rfl) (fun z y => ?_) ?_; rotate_left; (focus ((try dsimp only at y); (go_simp <;> with_reducible rfl); done)))); (try simp only [Act.put,pS,pZ,pC]))
              refine wpMix_nil ?_
              go_wp2_with fail
              obtain ⟨z0, z1, _, _⟩ := D2.out.cells
              refine bodyPost_ret (v := .tuple #[.agg #[.slice A4 3 c4, .slice A5 m5 c5], .string (bs (cw ++ [10]))]) (by simp [results, Tryz.results30, go_sem, z0, z1]) rfl ⟨_, by rw [El.out], by rw [El.out]; exact ⟨_, A4, c4, A5, m5, c5, rfl, D2.out.cw⟩, by first | exact D2.out.b | (rw [← hgx]; exact D2.out.b)⟩
            · obtain ⟨y0, y1, f0, f1⟩ := D1.out.cells
              go_simp
              clear y0 y1 f0 f1
              have D2 := qh D1.out.put
              have V2 := qh (D1.out.keepW V1.out)
              ((try dsimp only); refine nxK hK _ _ (D2.out.box) ?_; clear hK K; (try simp only [Act.put,pS,pZ,pC]))
              generalize (World.setCell (World.setCell u1 ⟨gx + 1, 0, none⟩ (.slice A4 3 c4)) ⟨gx + 1, 1, none⟩ (.slice A5 m5 c5)) = u2 at D2 V2 ⊢
              have hcell := (V2.out.cell kc).trans Hkw.out
              (refine mxB (by rfl) (fun K hK => ?_); go_simp)
              ((try dsimp only); refine nxK hK _ _ (D2.out.box) ?_; clear hK K; (try simp only [Act.put,pS,pZ,pC]))
              clear hcell
              repeat ((first | refine mxS (by rfl) (by rfl) ?_ | (refine mxT (v := ?_) (by rfl) (by rfl) (fun z y => ?_) ?_; rotate_left; (focus ((try dsimp only at y); (go_simp <;> with_reducible rfl); done)))); (try simp only [Act.put,pS,pZ,pC]))
              refine wpMix_nil ?_
              go_wp2_with fail
              obtain ⟨z0, z1, _, _⟩ := D2.out.cells
              refine bodyPost_ret (v := .tuple #[.agg #[.slice A4 3 c4, .slice A5 m5 c5], .string (bs (cw ++ [10]))]) (by simp [results, Tryz.results30, go_sem, z0, z1]) rfl ⟨_, by rw [El.out], by rw [El.out]; exact ⟨_, A4, c4, A5, m5, c5, rfl, D2.out.cw⟩, by first | exact D2.out.b | (rw [← hgx]; exact D2.out.b)⟩
          · obtain ⟨y0, y1, f0, f1⟩ := D0.out.cells
            go_simp
            clear y0 y1 f0 f1
            have D1 := qh D0.out.put
            ((try dsimp only); refine nxK hK _ _ (D1.out.box) ?_; clear hK K; (try simp only [Act.put,pS,pZ,pC]))
            generalize (World.setCell (World.setCell u0 ⟨gx + 1, 0, none⟩ (.slice A4 3 c4)) ⟨gx + 1, 1, none⟩ (.slice A5 m5 c5)) = u1 at D1 ⊢
            (refine mxB (by rfl) (fun K hK => ?_); go_simp)
            have D2 := qh (D1.out.up (alloc_up u1 (.cells wordsC 9)))
            have V2 := qh (Blk.new u1 9 wordsC)
            ((try dsimp only); refine nxK hK _ _ (D2.out.box) ?_; clear hK K; (try simp only [Act.put,pS,pZ,pC]))
            unfold wordsC at D2 V2
            generalize u1.heap.size = gw at V2 ⊢
            generalize u1.alloc _ = u2 at D2 V2 ⊢
            repeat ((first | refine mxS (by rfl) (by rfl) ?_ | (refine mxT (v := ?_) (by rfl) (by rfl) (fun z y => ?_) ?_; rotate_left; (focus ((try dsimp only at y); (go_simp <;> with_reducible rfl); done)))); (try simp only [Act.put,pS,pZ,pC]))
            have hcell := (V2.out.cell kc).trans Hkw.out
            (refine mxB (by rfl) (fun K hK => ?_); go_simp)
            ((try dsimp only); refine nxK hK _ _ (D2.out.box) ?_; clear hK K; (try simp only [Act.put,pS,pZ,pC]))
            clear hcell
            repeat ((first | refine mxS (by rfl) (by rfl) ?_ | (refine mxT (v := ?_) (by rfl) (by rfl) (fun z y => ?_) ?_; rotate_left; (focus ((try dsimp only at y); (go_simp <;> with_reducible rfl); done)))); (try simp only [Act.put,pS,pZ,pC]))
            refine wpMix_nil ?_
            go_wp2_with fail
            obtain ⟨z0, z1, _, _⟩ := D2.out.cells
            refine bodyPost_ret (v := .tuple #[.agg #[.slice A4 3 c4, .slice A5 m5 c5], .string (bs (cw ++ [10]))]) (by simp [results, Tryz.results30, go_sem, z0, z1]) rfl ⟨_, by rw [El.out], by rw [El.out]; exact ⟨_, A4, c4, A5, m5, c5, rfl, D2.out.cw⟩, by first | exact D2.out.b | (rw [← hgx]; exact D2.out.b)⟩
        · have El := qh (line_none (us := us) hnot.out Hns.out (by rw [Hwd.out]; exact hcm))
          clear hcm
          have x0 := P5.out.cell 0
          have x1 := P5.out.cell 1
          have y0 := Q5.out.cell 0
          have y1 := Q5.out.cell 1
          simp only [gT, gZ, gS] at x0 x1 y0 y1
          have f0 := Q5.out.frozen 0
          have f1 := Q5.out.frozen 1
          have q0 := T5.out.cell 0
          have q1 := T5.out.cell 1
          have q2 := T5.out.cell 2
          have q3 := T5.out.cell 3
          have q4 := T5.out.cell 4
          simp only [gT, gZ, gS] at q0 q1 q2 q3 q4
          go_wp2_with fail
          clear x0 x1 y0 y1 f0 f1 q0 q1 q2 q3 q4
          have EQ := qh ((Q5.out.set_ 0 (.slice A1 3 c1)).set_ 1 (.slice A2 n2 c2))
          have B9 := qh ((B1.out.trans (B5.out.mono B1.out.size)).setCell (p := ⟨gx + 1, 0, none⟩) (by simp; omega) (.slice A1 3 c1) |>.setCell (p := ⟨gx + 1, 1, none⟩) (by simp; omega) (.slice A2 n2 c2))
          generalize (World.setCell (World.setCell w5 ⟨gx + 1, 0, none⟩ (.slice A1 3 c1)) ⟨gx + 1, 1, none⟩ (.slice A2 n2 c2)) = w9 at EQ B9 ⊢
          have z0 := EQ.out.cell 0
          have z1 := EQ.out.cell 1
          simp only [gT, gZ, gS, pS, pZ, pC] at z0 z1
          refine bodyPost_ret (v := .tuple #[.agg #[.slice A1 3 c1, .slice A2 n2 c2], .string ⟨#[119, 104, 97, 116, 10]⟩]) (by simp [results, Tryz.results30, go_sem, z0, z1]) rfl ⟨_, by rw [El.out]; rfl, by rw [El.out]; exact ⟨base, A1, c1, A2, n2, c2, rfl, H0.out.up B9.out⟩, by first | exact B9.out | (rw [← hgx]; exact B9.out)⟩
  · clear Hret hT
    go_wp2_with fail
    refine (l51Request_any wd A6 m6 c6 _ w3 R6.out hc6).mono ?_; rintro e w4 ⟨r, A7, n7, c7, rfl, hR, hc7, hreq, hb⟩
    have al := alloc_up w4 (.cells (rqC r A7 n7 c7) 77)
    have B4 := B3.out.trans (hb.mono lz3)
    have B5 := qh (B4.trans (al.mono B4.size))
    have lg4 : gx < w4.heap.size ∧ gx + 1 < w4.heap.size := by have := B4.size; omega
    have P5 := qh ((P3.out.below hb P3.out.lt).below al lg4.1)
    have Q5 := qh ((Q3.out.below hb Q3.out.lt).below al lg4.2)
    have H5 := qh ((H3.out.up hb).up al)
    have R5 := qh (hR.up al)
    have T5 := qh (Blk.new w4 77 (rqC r A7 n7 c7))
    have Hreq := qh hreq
    clear al B4 hb hR hreq x0 x1 y0 y1 f0 f1 hc0
    dsimp only [rqV, rqC] at *
    go_upto_region 6 with fail
    generalize hg9 : w4.heap.size = g9 at T5 lg4 ⊢
    generalize w4.alloc (.cells #[.int .i64 r.kind, .int .i64 r.id, .slice A7 n7 c7, .bool r.grant, .int .i64 r.num] 77) = w5 at B5 P5 Q5 H5 R5 T5 ⊢
    have lg5 := T5.out.lt
    have lz5 := B5.out.size
    have El := qh (line_bad (us := us) hns)
    have x0 := P5.out.cell 0
    have x1 := P5.out.cell 1
    have y0 := Q5.out.cell 0
    have y1 := Q5.out.cell 1
    simp only [gT, gZ, gS] at x0 x1 y0 y1
    have f0 := Q5.out.frozen 0
    have f1 := Q5.out.frozen 1
    have q0 := T5.out.cell 0
    have q1 := T5.out.cell 1
    have q2 := T5.out.cell 2
    have q3 := T5.out.cell 3
    have q4 := T5.out.cell 4
    simp only [gT, gZ, gS] at q0 q1 q2 q3 q4
    go_wp2_with fail
    clear x0 x1 y0 y1 f0 f1 q0 q1 q2 q3 q4
    have EQ := qh ((Q5.out.set_ 0 (.slice A1 3 c1)).set_ 1 (.slice A2 n2 c2))
    have B9 := qh ((B1.out.trans (B5.out.mono B1.out.size)).setCell (p := ⟨gx + 1, 0, none⟩) (by simp; omega) (.slice A1 3 c1) |>.setCell (p := ⟨gx + 1, 1, none⟩) (by simp; omega) (.slice A2 n2 c2))
    generalize (World.setCell (World.setCell w5 ⟨gx + 1, 0, none⟩ (.slice A1 3 c1)) ⟨gx + 1, 1, none⟩ (.slice A2 n2 c2)) = w9 at EQ B9 ⊢
    have z0 := EQ.out.cell 0
    have z1 := EQ.out.cell 1
    simp only [gT, gZ, gS, pS, pZ, pC] at z0 z1
    refine bodyPost_ret (v := .tuple #[.agg #[.slice A1 3 c1, .slice A2 n2 c2], .string ⟨#[119, 104, 97, 116, 10]⟩]) (by simp [results, Tryz.results30, go_sem, z0, z1]) rfl ⟨_, by rw [El.out]; rfl, by rw [El.out]; exact ⟨base, A1, c1, A2, n2, c2, rfl, H0.out.up B9.out⟩, by first | exact B9.out | (rw [← hgx]; exact B9.out)⟩
end Go.Proofs.YtdkhdfedejbicaaGreatDoor

namespace Go.Proofs.YtdkhdfedejbicaaGreatDoor
set_option linter.unusedSimpArgs false
set_option linter.unusedVariables false
open Go Go.RowKit
attribute [local go_sem ↓] Go.wp_at_zero Go.wp_at_succ

theorem line_len {us : List Un} (l : Bs) (h : clOk [10, 10, 10] us = true) : (lineP us l).2.length ≤ 1800 := by
  have h1 : (showT us).length ≤ 1750 := by
    have h2 := unitsTo_len (us := us) (fun i hi => (cl_unit h hi).1) us.length
    have h3 := (cl_len h).2
    unfold unitsTo at h2
    rw [List.take_length] at h2
    omega
  unfold lineP
  dsimp only
  split
  · show (showT us).length ≤ 1800
    omega
  · split
    · show tWhat.length ≤ 1800
      decide
    · split
      · show tWhat.length ≤ 1800
        decide
      · have := codeW_len (reqP [10, 10, 10] us ‹Rq›).2.2
        simp only [List.length_append, List.length_cons, List.length_nil]; omega
theorem add_big (x y : Bs) (h : x.length + y.length ≤ 1000000000) (W : World) : (Op.stringOp .add (bs x) (bs y)).run Tryz.prog W = .ok (.string (bs (x ++ y))) W := by
  rw [run_string_add_sum _ _ _ (by rw [bs_size, bs_size]; omega), bs_app]
theorem lines_len (ls : List Bs) : (linesP ls us4).2.length ≤ 1800 * ls.length :=
  snoc_ind (P := fun ls => (linesP ls us4).2.length ≤ 1800 * ls.length) (by decide) (fun ls l ih => by
    rw [linesP_snoc]
    have := line_len l (lines_ok ls us4_ok)
    simp only [List.length_append, List.length_cons, List.length_nil]; omega) ls
structure ExW (w u : World) (g : Nat) (A4 A5 : Option Addr) (m5 c4 c5 : Nat) (us : List Un) : Prop where
  b : Below w.heap.size w u
  q : Blk u g 35 #[.slice A4 3 c4, .slice A5 m5 c5]
  cw : ∃ base, OwnCW u base (.slice A4 3 c4) (.slice A5 m5 c5) 3 m5 [10, 10, 10] us
  lo : w.heap.size ≤ g
section
variable {w u u' : World} {g m5 c4 c5 : Nat} {A4 A5 : Option Addr} {us us' : List Un}
theorem ExW.up (h : ExW w u g A4 A5 m5 c4 c5 us) (hb : Below u.heap.size u u') : ExW w u' g A4 A5 m5 c4 c5 us := by
  obtain ⟨base, hc⟩ := h.cw
  exact ⟨h.b.trans (hb.mono h.b.size), h.q.below hb h.q.lt, ⟨base, hc.up hb⟩, h.lo⟩
theorem ExW.drew (h : ExW w u g A4 A5 m5 c4 c5 us) : ExW w u.drew g A4 A5 m5 c4 c5 us := h.up (Below.refl _ _).drew
theorem ExW.box (h : ExW w u g A4 A5 m5 c4 c5 us) : u.cell? ⟨g, 0, none⟩ = some (.slice A4 3 c4) ∧ u.cell? ⟨g, 1, none⟩ = some (.slice A5 m5 c5) := ⟨h.q.cell 0, h.q.cell 1⟩
theorem ExW.rd (h : ExW w u g A4 A5 m5 c4 c5 us) : RdC u A4 A5 3 m5 [10, 10, 10] us := by
  obtain ⟨base, hc⟩ := h.cw
  exact hc.rd
theorem ExW.put {A6 A7 : Option Addr} {m7 c6 c7 base : Nat} (h : ExW w u g A4 A5 m5 c4 c5 us) (hc : OwnCW u base (.slice A6 3 c6) (.slice A7 m7 c7) 3 m7 [10, 10, 10] us') :
    ExW w ((u.setCell ⟨g, 0, none⟩ (.slice A6 3 c6)).setCell ⟨g, 1, none⟩ (.slice A7 m7 c7)) g A6 A7 m7 c6 c7 us' := by
  have lo := h.lo
  refine ⟨(h.b.setCell (p := ⟨g, 0, none⟩) lo _).setCell (p := ⟨g, 1, none⟩) lo _, (h.q.set_ 0 _).set_ 1 _, ⟨base, ?_⟩, h.lo⟩
  exact hc.keepTU ((KeepTU.set_ h.q (by decide) (by decide) (by decide) 0 _).trans (KeepTU.set_ (h.q.set_ 0 _) (by decide) (by decide) (by decide) 1 _))
theorem ExW.fresh {gx : Nat} {cs : Array Value} (h : ExW w u g A4 A5 m5 c4 c5 us) (hg : gx ≠ g) (hv : Blk u gx 35 cs) (a b : Value) (hl : w.heap.size ≤ gx := by omega) : ExW w ((u.setCell ⟨gx, 0, none⟩ a).setCell ⟨gx, 1, none⟩ b) g A4 A5 m5 c4 c5 us := by
  obtain ⟨base, hc⟩ := h.cw
  exact ⟨(h.b.setCell (p := ⟨gx, 0, none⟩) hl _).setCell (p := ⟨gx, 1, none⟩) hl _, (far2 u gx a b g (fun e => hg e.symm)).trans h.q,
    ⟨base, hc.keepTU ((KeepTU.set_ hv (by decide) (by decide) (by decide) 0 _).trans (KeepTU.set_ (hv.set_ 0 _) (by decide) (by decide) (by decide) 1 _))⟩, h.lo⟩
end
theorem sh_of' {room : List Int} {us : List Un} (h : clOk room us = true) : ShU us := by
  have h1 : us.length ≤ 10 := by simp only [clOk, Bool.and_eq_true, decide_eq_true_eq] at h; exact h.1.1.2
  refine ⟨by omega, fun u hu => ?_⟩
  obtain ⟨i, hi, rfl⟩ := List.getElem_of_mem hu
  have h2 := cl_unit h hi
  rw [List.getElem?_eq_getElem hi] at h2
  exact ⟨by have := h2.1; simp only [Option.getD_some] at this; omega, fun t ht => by have := vecOk_len (h2.2 t ht).2; omega⟩
theorem lines_next {l : Bs} {ls : List Bs} {j k : Nat} (h : cutP 10 l = ls ++ cutP 10 (l.drop j)) (hn : ∀ x ∈ (l.drop j).take (k - j), x ≠ 10) (hj : j ≤ k) (hk : k < l.length) (hc : l[k]?.getD 0 = 10) :
    cutP 10 l = (ls ++ [(l.drop j).take (k - j)]) ++ cutP 10 (l.drop (k + 1)) := cut_step h hn hj hk hc

set_option maxRecDepth 100000 in
set_option maxHeartbeats 6400000 in
theorem execS_any (s : ByteArray) (w : World) (hs : s.size ≤ 9223372036854775807) :
    Calls Tryz.prog 14 #[.string s] w fun e w' => e = .returned (.string (bs (execP s.data.toList))) ∧ Below w.heap.size w w' := by
  by_cases hbig : (600 : Int) < (s.size : Int)
  · have E0 := qh (show execP s.data.toList = tLong from by unfold execP; rw [if_pos (by rw [← Lib.size_eq]; omega)])
    go_enter Tryz.func14, Tryz.ntmps14
    go_wp2_with fail
    go_ret
    exact ⟨by rw [E0.out]; rfl, Below.refl _ _⟩
  · have hs6 : s.size ≤ 600 := by omega
    have hsl := qh (Lib.size_eq s)
    have hex := qh (fun (i j : Nat) => Lib.extract_data s i j)
    have hgl := qh (fun (k : Nat) (h : k < s.size) => get_list s h)
    have E0 := qh (show execP s.data.toList = (linesP (cutP 10 s.data.toList).dropLast us4).2 ++ endT (linesP (cutP 10 s.data.toList).dropLast us4).1 from by unfold execP; rw [if_neg (by rw [← Lib.size_eq]; omega)])
    generalize s.data.toList = l at *
    have al0 := alloc_up w (.cells #[.int .i64 10, .int .i64 10, .int .i64 10] 3)
    have R0 := RdI.of_blk (xs := [10, 10, 10]) (n := 3) (Blk.new w 3 #[.int .i64 10, .int .i64 10, .int .i64 10]) rfl (by omega)
    have Hnew := qh (clusterNew_any (some ⟨w.heap.size, 0, none⟩) 3 3 [10, 10, 10] 4 _ R0 (by omega))
    have B0 := qh al0
    have En1 := qh (show newB [10, 10, 10] 4 = true from by decide)
    have En2 := qh (show newP [10, 10, 10] 4 = ([10, 10, 10], us4) from by decide +kernel)
    clear al0 R0
    go_enter Tryz.func14, Tryz.ntmps14
    go_wp2_with fail
    refine Hnew.out.mono ?_; rintro e w2 ⟨A4, m4, c4, A5, m5, c5, rfl, hOC, hb⟩
    rw [En2.out] at hOC
    have hl4 := hOC.len
    obtain rfl : m4 = 3 := by simpa using hl4.symm
    have hcw := OwnCW.of (OwnCR.of hOC)
    have B2 := B0.out.trans (hb.mono B0.out.size)
    have al := alloc_up w2 (.cells #[.slice A4 3 c4, .slice A5 m5 c5] 35)
    have X3 := qh (show ExW w (w2.alloc (.cells #[.slice A4 3 c4, .slice A5 m5 c5] 35)) w2.heap.size A4 A5 m5 c4 c5 us4 from
      ⟨B2.trans (al.mono B2.size), Blk.new w2 _ _, ⟨_, hcw.up al⟩, B2.size⟩)
    clear hOC hb hcw B2 al Hnew B0 hl4
    rw [En1.out]
    go_upto_region 4 with fail
    generalize w2.heap.size = g at X3 ⊢
    generalize w2.alloc (.cells #[.slice A4 3 c4, .slice A5 m5 c5] 35) = w3 at X3 ⊢
    go_wp2_with fail
    go_loopw [5, 6, 7] (fun v f i wr => ∃ (k j : Nat) (ls : List Bs) (A4 A5 : Option Addr) (m5 c4 c5 : Nat), i = .int .i64 (k : Int) ∧ f = .int .i64 (j : Int) ∧ v = .string (bs (linesP ls us4).2) ∧ j ≤ k ∧ k ≤ s.size ∧ ls.length ≤ k ∧
      cutP 10 l = ls ++ cutP 10 (l.drop j) ∧ (∀ x ∈ (l.drop j).take (k - j), x ≠ 10) ∧ ExW w wr g A4 A5 m5 c4 c5 (linesP ls us4).1) (fun _ _ i _ => s.size - (intOf i).toNat)
    case atStart => exact ⟨0, 0, [], A4, A5, m5, c4, c5, rfl, rfl, rfl, Nat.le_refl _, Nat.zero_le _, Nat.le_refl _, rfl, fun x hx => by simp at hx, X3.out⟩
    case round =>
      clear X3
      obtain ⟨k, j, ls, A4, A5, m5, c4, c5, rfl, rfl, rfl, hj, hk, hlk, hc, hn, hX⟩ := hrel
      obtain ⟨wo, rfl⟩ : ∃ wo, wo = wr := ⟨_, rfl⟩
      have HC := qh hc
      have HN := qh hn
      have HX := qh hX
      clear hc hn hX
      have j1 : (0 : Int) ≤ (j : Int) := by omega
      by_cases hlt : k < s.size
      · have k1 : (0 : Int) ≤ (k : Int) := by omega
        have k2 : (k : Int) < (s.size : Int) := by omega
        have j2 : (j : Int) ≤ (k : Int) := by omega
        have hkl : k < l.length := by have := hsl.out; omega
        have eg := hgl.out k hlt
        have w1' : IntKind.i64.wrap ((k : Int) + 1) = (k : Int) + 1 := wr64 (by omega) (by omega)
        by_cases h10 : s[k] = 10
        · have t1 : ((s[k].toNat : Int) == 10) = true := by rw [h10]; rfl
          have Hst := qh (lines_next HC.out HN.out hj hkl (by rw [eg, h10]))
          have hx : s.extract j k = bs ((l.drop j).take (k - j)) := by rw [← bs_of (s.extract j k), hex.out]
          generalize hln : (l.drop j).take (k - j) = ln at *
          have hln6 : ln.length ≤ 600 := by rw [← hln, List.length_take, List.length_drop]; have := hsl.out; omega
          have Hls := qh (linesP_snoc ls ln us4)
          have hol := lines_len ls
          have hll := line_len ln (lines_ok ls us4_ok)
          have hok := qh (lines_ok ls us4_ok)
          have E1 := qh (show (linesP (ls ++ [ln]) us4).2 = (linesP ls us4).2 ++ (lineP (linesP ls us4).1 ln).2 from by rw [Hls.out])
          have E2 := qh (show (linesP (ls ++ [ln]) us4).1 = (lineP (linesP ls us4).1 ln).1 from by rw [Hls.out])
          have hl' : ∀ (u : World) (base : Nat) (A1 A2 : Option Addr) (c1 n2 c2 : Nat) (us : List Un), OwnCW u base (.slice A1 3 c1) (.slice A2 n2 c2) 3 n2 [10, 10, 10] us → clOk [10, 10, 10] us = true → Calls Tryz.prog 30 #[.agg #[.slice A1 3 c1, .slice A2 n2 c2], .string (s.extract j k)] u fun e w' => ∃ v4, e = .returned (.tuple #[v4, .string (bs (lineP us ln).2)]) ∧ RdCV w' v4 (lineP us ln).1 ∧ Below u.heap.size u w' := fun u base A1 A2 c1 n2 c2 us h h2 => by
            have := l51Line_any base A1 A2 c1 n2 c2 us (s.extract j k) u (by rw [hx, bs_size]; omega) h h2
            rw [hx, bs_list] at this
            rw [hx]
            exact this
          have HLine := qh hl'
          have a1 := add_big (linesP ls us4).2 (lineP (linesP ls us4).1 ln).2 (by omega)
          rw [← E1.out] at a1
          clear hl' hx hln eg h10 hol hll
          generalize holn : (lineP (linesP ls us4).1 ln).2 = oln at *
          generalize hun : (lineP (linesP ls us4).1 ln).1 = un at *
          generalize (linesP ls us4).2 = oo at *
          generalize (linesP ls us4).1 = us at *
          generalize hoo2 : (linesP (ls ++ [ln]) us4).2 = oo2 at *
          have HOO := qh hoo2
          have Hun := qh hun
          have Hol := qh holn
          clear hoo2 hun holn
          obtain ⟨x0, x1⟩ := HX.out.box
          go_upto_region 10 with fail
          clear x0 x1
          refine wp_region_mix (.take 0 (.take 1 (.take 2 (.take 3 (.take 4 (.fork 5 (.take 6 (.take 7 (.take 8 (.bar 9 (.bar 10 (.take 11 .nil)))))) 9 (.bar 5 (.take 6 (.take 7 (.take 8 (.bar 10 (.take 11 .nil)))))))))))) (fun w' => w'.cell? ⟨g, 0, none⟩ = some (.slice A4 3 c4) ∧ w'.cell? ⟨g, 1, none⟩ = some (.slice A5 m5 c5)) (by kernel_rfl) (by kernel_rfl) HX.out.drew.box (fun _ => ?_)
          have D0 := qh HX.out.drew
          clear HX
          generalize wo.drew = u0 at D0 ⊢
          repeat ((first | refine mxS (by rfl) (by rfl) ?_ | (refine mxT (v := ?_) (by rfl) (by rfl) (fun z y => ?_) ?_; rotate_left; (focus ((try dsimp only at y); (go_simp <;> with_reducible rfl); done)))); (try simp only [Act.put,pS,pZ,pC]))
          refine wpMix_fork (by rfl) (by rfl) (fun K hK => ?_) (fun K hK => ?_)
          · go_simp
            obtain ⟨base0, hcw0⟩ := D0.out.cw
            refine (HLine.out u0 base0 A4 A5 c4 m5 c5 us hcw0 hok.out).mono ?_; rintro e u1 ⟨v4, rfl, ⟨base, A6, c6, A7, m7, c7, rfl, hcw⟩, hb⟩
            rw [Hol.out]
            have D1 := qh (D0.out.up hb)
            have C1 := qh (Hun.out ▸ hcw)
            ((try dsimp only); refine nxK hK _ _ (D1.out.box) ?_; clear hK K; (try simp only [Act.put,pS,pZ,pC]))
            clear hcw0 hcw hb
            repeat ((first | refine mxS (by rfl) (by rfl) ?_ | (refine mxT (v := ?_) (by rfl) (by rfl) (fun z y => ?_) ?_; rotate_left; (focus ((try dsimp only at y); (go_simp <;> with_reducible rfl); done)))); (try simp only [Act.put,pS,pZ,pC]))
            (refine mxB (by rfl) (fun K hK => ?_); go_simp)
            have al := alloc_up u1 (.cells #[.slice none 0 0, .slice none 0 0] 35)
            have D2 := qh (D1.out.up al)
            have C2 := qh (C1.out.up al)
            have V2 := qh (Blk.new u1 35 #[.slice none 0 0, .slice none 0 0])
            have lgn : g < u1.heap.size := D1.out.q.lt
            ((try dsimp only); refine nxK hK _ _ (D2.out.box) ?_; clear hK K; (try simp only [Act.put,pS,pZ,pC]))
            clear al
            generalize u1.heap.size = gx at V2 lgn ⊢
            generalize u1.alloc (.cells #[.slice none 0 0, .slice none 0 0] 35) = u2 at D2 C2 V2 ⊢
            have v0 := V2.out.cell 0
            have v1 := V2.out.cell 1
            simp only [gT, gZ, gS] at v0 v1
            have f0 := V2.out.frozen 0
            have f1 := V2.out.frozen 1
            (refine mxB (by rfl) (fun K hK => ?_); go_simp)
            clear v0 v1 f0 f1
            have hgx : gx ≠ g := by omega
            have hlo : w.heap.size ≤ gx := by have := D2.out.lo; omega
            have D3 := qh (D2.out.fresh hgx V2.out (.slice A6 3 c6) (.slice A7 m7 c7) hlo)
            have C3 := qh (C2.out.keepTU ((KeepTU.set_ V2.out (by decide) (by decide) (by decide) 0 (.slice A6 3 c6)).trans (KeepTU.set_ (V2.out.set_ 0 (.slice A6 3 c6)) (by decide) (by decide) (by decide) 1 (.slice A7 m7 c7))))
            have V3 := qh ((V2.out.set_ 0 (.slice A6 3 c6)).set_ 1 (.slice A7 m7 c7))
            generalize (World.setCell (World.setCell u2 ⟨gx, 0, none⟩ (.slice A6 3 c6)) ⟨gx, 1, none⟩ (.slice A7 m7 c7)) = u3 at D3 C3 V3 ⊢
            ((try dsimp only); refine nxK hK _ _ (D3.out.box) ?_; clear hK K; (try simp only [Act.put,pS,pZ,pC]))
            clear D2 C2 V2
            repeat ((first | refine mxS (by rfl) (by rfl) ?_ | (refine mxT (v := ?_) (by rfl) (by rfl) (fun z y => ?_) ?_; rotate_left; (focus ((try dsimp only at y); (go_simp <;> with_reducible rfl); done)))); (try simp only [Act.put,pS,pZ,pC]))
            refine wpMix_nil ?_
            have v0 := V3.out.cell 0
            have v1 := V3.out.cell 1
            simp only [gT, gZ, gS, pS, pZ, pC] at v0 v1
            obtain ⟨x0, x1⟩ := D3.out.box
            have f0 := D3.out.q.frozen 0
            have f1 := D3.out.q.frozen 1
            go_wp2_with fail
            clear v0 v1 f0 f1 x0 x1
            have D4 := qh (D3.out.put C3.out)
            generalize (World.setCell (World.setCell u3 ⟨g, 0, none⟩ (.slice A6 3 c6)) ⟨g, 1, none⟩ (.slice A7 m7 c7)) = u4 at D4 ⊢
            go_roundw
            case measure => simp [intOf]; omega
            case rel => exact ⟨k + 1, k + 1, ls ++ [ln], A6, A7, m7, c6, c7, by go_num, by go_num, by rw [HOO.out], Nat.le_refl _, by omega, by simp; omega, Hst.out, fun x hx => by simp at hx, by rw [E2.out]; exact D4.out⟩
          · go_simp
            have al := alloc_up u0 (.cells #[.slice none 0 0, .slice none 0 0] 35)
            have D1 := qh (D0.out.up al)
            have V1 := qh (Blk.new u0 35 #[.slice none 0 0, .slice none 0 0])
            have lgn : g < u0.heap.size := D0.out.q.lt
            ((try dsimp only); refine nxK hK _ _ (D1.out.box) ?_; clear hK K; (try simp only [Act.put,pS,pZ,pC]))
            clear al
            generalize u0.heap.size = gx at V1 lgn ⊢
            generalize u0.alloc (.cells #[.slice none 0 0, .slice none 0 0] 35) = u1 at D1 V1 ⊢
            (refine mxB (by rfl) (fun K hK => ?_); go_simp)
            obtain ⟨base0, hcw0⟩ := D1.out.cw
            refine (HLine.out u1 base0 A4 A5 c4 m5 c5 us hcw0 hok.out).mono ?_; rintro e u2 ⟨v4, rfl, ⟨base, A6, c6, A7, m7, c7, rfl, hcw⟩, hb⟩
            rw [Hol.out]
            have D2 := qh (D1.out.up hb)
            have C2 := qh (Hun.out ▸ hcw)
            have V2 := qh (V1.out.below hb V1.out.lt)
            ((try dsimp only); refine nxK hK _ _ (D2.out.box) ?_; clear hK K; (try simp only [Act.put,pS,pZ,pC]))
            clear hcw0 hcw hb
            repeat ((first | refine mxS (by rfl) (by rfl) ?_ | (refine mxT (v := ?_) (by rfl) (by rfl) (fun z y => ?_) ?_; rotate_left; (focus ((try dsimp only at y); (go_simp <;> with_reducible rfl); done)))); (try simp only [Act.put,pS,pZ,pC]))
            have v0 := V2.out.cell 0
            have v1 := V2.out.cell 1
            simp only [gT, gZ, gS] at v0 v1
            have f0 := V2.out.frozen 0
            have f1 := V2.out.frozen 1
            (refine mxB (by rfl) (fun K hK => ?_); go_simp)
            clear v0 v1 f0 f1
            have hgx : gx ≠ g := by omega
            have hlo : w.heap.size ≤ gx := by have := D2.out.lo; omega
            have D3 := qh (D2.out.fresh hgx V2.out (.slice A6 3 c6) (.slice A7 m7 c7) hlo)
            have C3 := qh (C2.out.keepTU ((KeepTU.set_ V2.out (by decide) (by decide) (by decide) 0 (.slice A6 3 c6)).trans (KeepTU.set_ (V2.out.set_ 0 (.slice A6 3 c6)) (by decide) (by decide) (by decide) 1 (.slice A7 m7 c7))))
            have V3 := qh ((V2.out.set_ 0 (.slice A6 3 c6)).set_ 1 (.slice A7 m7 c7))
            generalize (World.setCell (World.setCell u2 ⟨gx, 0, none⟩ (.slice A6 3 c6)) ⟨gx, 1, none⟩ (.slice A7 m7 c7)) = u3 at D3 C3 V3 ⊢
            ((try dsimp only); refine nxK hK _ _ (D3.out.box) ?_; clear hK K; (try simp only [Act.put,pS,pZ,pC]))
            clear D2 C2 V2
            repeat ((first | refine mxS (by rfl) (by rfl) ?_ | (refine mxT (v := ?_) (by rfl) (by rfl) (fun z y => ?_) ?_; rotate_left; (focus ((try dsimp only at y); (go_simp <;> with_reducible rfl); done)))); (try simp only [Act.put,pS,pZ,pC]))
            refine wpMix_nil ?_
            have v0 := V3.out.cell 0
            have v1 := V3.out.cell 1
            simp only [gT, gZ, gS, pS, pZ, pC] at v0 v1
            obtain ⟨x0, x1⟩ := D3.out.box
            have f0 := D3.out.q.frozen 0
            have f1 := D3.out.q.frozen 1
            go_wp2_with fail
            clear v0 v1 f0 f1 x0 x1
            have D4 := qh (D3.out.put C3.out)
            generalize (World.setCell (World.setCell u3 ⟨g, 0, none⟩ (.slice A6 3 c6)) ⟨g, 1, none⟩ (.slice A7 m7 c7)) = u4 at D4 ⊢
            go_roundw
            case measure => simp [intOf]; omega
            case rel => exact ⟨k + 1, k + 1, ls ++ [ln], A6, A7, m7, c6, c7, by go_num, by go_num, by rw [HOO.out], Nat.le_refl _, by omega, by simp; omega, Hst.out, fun x hx => by simp at hx, by rw [E2.out]; exact D4.out⟩
        · have t1 : ((s[k].toNat : Int) == 10) = false := by
            have : s[k].toNat ≠ 10 := fun e => h10 (UInt8.toNat_inj.1 (by rw [e]; rfl))
            simp; omega
          have Hn := qh (show ∀ x ∈ (l.drop j).take (k + 1 - j), x ≠ 10 from by
            rw [take_snoc l hj hkl]
            intro x hx
            rcases List.mem_append.1 hx with hx | hx
            · exact HN.out x hx
            · rw [List.mem_singleton] at hx; rw [hx, eg]; exact h10)
          clear eg h10
          go_wp2_with fail
          go_roundw
          case measure => simp [intOf]; omega
          case rel => exact ⟨k + 1, j, ls, A4, A5, m5, c4, c5, by go_num, rfl, rfl, by omega, by omega, by omega, HC.out, Hn.out, HX.out⟩
      · obtain rfl : k = s.size := by omega
        have Hst := cut_last HC.out (by rw [← hsl.out]; exact HN.out)
        have hdl : (cutP 10 l).dropLast = ls := by rw [Hst, List.dropLast_concat]
        have hok := lines_ok ls us4_ok
        have hol := lines_len ls
        have hE := E0.out
        rw [hdl] at hE
        have HE := qh hE
        have Hok := qh hok
        obtain ⟨na, nb, nc, hcn, hna, hnb, hnc⟩ := counts_is hok
        have Hcn := qh hcn
        have Hend := qh (show endT (linesP ls us4).1 = tEnd ++ [32] ++ decD na ++ [32] ++ decD nb ++ [32] ++ decD nc ++ [10] from by unfold endT; rw [hcn]; rfl)
        clear hdl hE hok Hst hcn E0
        generalize (linesP ls us4).2 = oo at *
        generalize (linesP ls us4).1 = us at *
        obtain ⟨x0, x1⟩ := HX.out.box
        go_wp2_with fail
        clear x0 x1
        refine (clusterCountsS_any A4 A5 3 c4 m5 c5 [10, 10, 10] us wo HX.out.rd (sh_of' Hok.out)).mono ?_; rintro e u1 ⟨A, m, c, rfl, hO, hb⟩
        rw [Hcn.out] at hO
        obtain rfl : m = 3 := by have := hO.1; simpa using this.symm
        have R1 := qh (own_rdI hO (own_le hO))
        have B1 := qh (HX.out.b.trans (hb.mono HX.out.b.size))
        obtain ⟨b, o, rfl, lb, hc0⟩ := R1.out.at_ (show 0 < 3 by omega)
        have hcs := R1.out.2.2 (by omega)
        obtain ⟨b', o', e', lb', hcc⟩ := hcs
        injection e' with e'
        injection e' with e1 e2
        subst e1 e2
        have c0 := hcc 0 (by omega)
        have c1 := hcc 1 (by omega)
        have c2 := hcc 2 (by omega)
        simp only [gZ, gS, Option.getD_some, Nat.add_zero] at c0 c1 c2
        have HK := qh (show ∀ W : World, Below u1.heap.size u1 W → (W.cell? ⟨b, o, none⟩ = some (.int .i64 na) ∧ W.cell? ⟨b, o + 1, none⟩ = some (.int .i64 nb)) ∧ W.cell? ⟨b, o + 2, none⟩ = some (.int .i64 nc) from fun W hW =>
          ⟨⟨(hW.cell (p := ⟨b, o, none⟩) lb).trans c0, (hW.cell (p := ⟨b, o + 1, none⟩) lb).trans c1⟩, (hW.cell (p := ⟨b, o + 2, none⟩) lb).trans c2⟩)
        clear hO hb hc0 hcc c0 c1 c2 HX
        have d1 := (decD_len na).2
        have d2 := (decD_len nb).2
        have d3 := (decD_len nc).2
        have a1 : ∀ W, (Op.stringOp .add (bs oo) ⟨#[101, 110, 100, 32]⟩).run Tryz.prog W = .ok (.string (bs (oo ++ [101, 110, 100, 32]))) W := add_big oo [101, 110, 100, 32] (by simp; omega)
        have a2 := add_big (oo ++ [101, 110, 100, 32]) (decD na) (by simp only [List.length_append, List.length_cons, List.length_nil]; omega)
        have a3 : ∀ W, (Op.stringOp .add (bs (oo ++ [101, 110, 100, 32] ++ decD na)) ⟨#[32]⟩).run Tryz.prog W = .ok (.string (bs (oo ++ [101, 110, 100, 32] ++ decD na ++ [32]))) W := add_big _ [32] (by simp only [List.length_append, List.length_cons, List.length_nil]; omega)
        have a4 := add_big (oo ++ [101, 110, 100, 32] ++ decD na ++ [32]) (decD nb) (by simp only [List.length_append, List.length_cons, List.length_nil]; omega)
        have a5 : ∀ W, (Op.stringOp .add (bs (oo ++ [101, 110, 100, 32] ++ decD na ++ [32] ++ decD nb)) ⟨#[32]⟩).run Tryz.prog W = .ok (.string (bs (oo ++ [101, 110, 100, 32] ++ decD na ++ [32] ++ decD nb ++ [32]))) W := add_big _ [32] (by simp only [List.length_append, List.length_cons, List.length_nil]; omega)
        have a6 := add_big (oo ++ [101, 110, 100, 32] ++ decD na ++ [32] ++ decD nb ++ [32]) (decD nc) (by simp only [List.length_append, List.length_cons, List.length_nil]; omega)
        have a7 : ∀ W, (Op.stringOp .add (bs (oo ++ [101, 110, 100, 32] ++ decD na ++ [32] ++ decD nb ++ [32] ++ decD nc)) ⟨#[10]⟩).run Tryz.prog W = .ok (.string (bs (oo ++ [101, 110, 100, 32] ++ decD na ++ [32] ++ decD nb ++ [32] ++ decD nc ++ [10]))) W := add_big _ [10] (by simp only [List.length_append, List.length_cons, List.length_nil]; omega)
        have HF := qh (show execP l = oo ++ [101, 110, 100, 32] ++ decD na ++ [32] ++ decD nb ++ [32] ++ decD nc ++ [10] from by
          rw [HE.out, Hend.out]
          show oo ++ ([101, 110, 100] ++ [32] ++ decD na ++ [32] ++ decD nb ++ [32] ++ decD nc ++ [10]) = _
          simp only [List.append_assoc]; rfl)
        have Q1 := qh (fun W => l6Dec_any na hna.1 hna.2 W)
        have Q2 := qh (fun W => l6Dec_any nb hnb.1 hnb.2 W)
        have Q3 := qh (fun W => l6Dec_any nc hnc.1 hnc.2 W)
        generalize oo ++ [101, 110, 100, 32] ++ decD na ++ [32] ++ decD nb ++ [32] ++ decD nc ++ [10] = y8 at *
        generalize oo ++ [101, 110, 100, 32] ++ decD na ++ [32] ++ decD nb ++ [32] ++ decD nc = y7 at *
        generalize oo ++ [101, 110, 100, 32] ++ decD na ++ [32] ++ decD nb ++ [32] = y6 at *
        generalize oo ++ [101, 110, 100, 32] ++ decD na ++ [32] ++ decD nb = y5 at *
        generalize oo ++ [101, 110, 100, 32] ++ decD na ++ [32] = y4 at *
        generalize oo ++ [101, 110, 100, 32] ++ decD na = y3 at *
        generalize oo ++ [101, 110, 100, 32] = y2 at *
        generalize decD na = da at *
        generalize decD nb = db at *
        generalize decD nc = dc at *
        go_wp2_with fail
        refine wp_region_mix (.take 0 (.take 1 (.take 2 (.take 3 (.take 4 (.take 8 (.take 9 (.take 10 (.take 14 (.take 15 (.take 16 (.bar 5 (.take 6 (.take 7 (.bar 11 (.take 12 (.take 13 (.bar 17 (.take 18 (.take 19 (.take 20 .nil))))))))))))))))))))) (fun w' => (w'.cell? ⟨b, o, none⟩ = some (.int .i64 na) ∧ w'.cell? ⟨b, o + 1, none⟩ = some (.int .i64 nb)) ∧ w'.cell? ⟨b, o + 2, none⟩ = some (.int .i64 nc)) (by kernel_rfl) (by kernel_rfl) (HK.out _ (Below.refl _ _).drew) (fun _ => ?_)
        have U0 := qh ((Below.refl u1.heap.size u1).drew)
        have lzu : u1.heap.size ≤ u1.drew.heap.size := Nat.le_refl _
        generalize u1.drew = z0 at U0 lzu ⊢
        repeat ((first | refine mxS (by rfl) (by rfl) ?_ | (refine mxT (v := ?_) (by rfl) (by rfl) (fun z y => ?_) ?_; rotate_left; (focus ((try dsimp only at y); (go_simp <;> with_reducible rfl); done)))); (try simp only [Act.put,pS,pZ,pC]))
        (refine mxB (by rfl) (fun K hK => ?_); go_simp)
        refine (Q1.out z0).mono ?_; rintro e z1 ⟨rfl, hb⟩
        have U1 := qh (U0.out.trans (hb.mono lzu))
        ((try dsimp only); refine nxK hK _ _ (HK.out _ U1.out) ?_; clear hK K; (try simp only [Act.put,pS,pZ,pC]))
        clear hb
        have lzu1 := U1.out.size
        repeat ((first | refine mxS (by rfl) (by rfl) ?_ | (refine mxT (v := ?_) (by rfl) (by rfl) (fun z y => ?_) ?_; rotate_left; (focus ((try dsimp only at y); (go_simp <;> with_reducible rfl); done)))); (try simp only [Act.put,pS,pZ,pC]))
        (refine mxB (by rfl) (fun K hK => ?_); go_simp)
        refine (Q2.out z1).mono ?_; rintro e z2 ⟨rfl, hb⟩
        have U2 := qh (U1.out.trans (hb.mono lzu1))
        ((try dsimp only); refine nxK hK _ _ (HK.out _ U2.out) ?_; clear hK K; (try simp only [Act.put,pS,pZ,pC]))
        clear hb
        have lzu2 := U2.out.size
        repeat ((first | refine mxS (by rfl) (by rfl) ?_ | (refine mxT (v := ?_) (by rfl) (by rfl) (fun z y => ?_) ?_; rotate_left; (focus ((try dsimp only at y); (go_simp <;> with_reducible rfl); done)))); (try simp only [Act.put,pS,pZ,pC]))
        (refine mxB (by rfl) (fun K hK => ?_); go_simp)
        refine (Q3.out z2).mono ?_; rintro e z3 ⟨rfl, hb⟩
        have U3 := qh (U2.out.trans (hb.mono lzu2))
        ((try dsimp only); refine nxK hK _ _ (HK.out _ U3.out) ?_; clear hK K; (try simp only [Act.put,pS,pZ,pC]))
        clear hb
        repeat ((first | refine mxS (by rfl) (by rfl) ?_ | (refine mxT (v := ?_) (by rfl) (by rfl) (fun z y => ?_) ?_; rotate_left; (focus ((try dsimp only at y); (go_simp <;> with_reducible rfl); done)))); (try simp only [Act.put,pS,pZ,pC]))
        refine wpMix_nil ?_
        go_wp2_with fail
        go_ret
        exact ⟨by rw [HF.out]; rfl, B1.out.trans (U3.out.mono B1.out.size)⟩
end Go.Proofs.YtdkhdfedejbicaaGreatDoor
