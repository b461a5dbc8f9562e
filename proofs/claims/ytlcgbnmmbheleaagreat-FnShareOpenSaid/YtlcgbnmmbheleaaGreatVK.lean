/- Several texts in one. -/
import Derived.Test.YtlcgbnmmbheleaaGreatClDraw
import Derived.Test.YtlcgbnmmbheleaaGreatKvShr
namespace Go.Proofs.YtlcgbnmmbheleaaGreat
set_option linter.unusedSimpArgs false
set_option linter.unusedVariables false
open Go Go.RowKit
attribute [local go_sem ↓] Go.wp_at_zero Go.wp_at_succ

theorem rdU_up {w w' : World} {A : Option Addr} {n : Nat} (h : RdU w w.heap.size A n) (hb : Below w.heap.size w w') : RdU w' w'.heap.size A n := fun hn => by
  obtain ⟨b, o, e, hl, hc⟩ := h hn
  refine ⟨b, o, e, by have := hb.size; omega, fun j hj => ?_⟩
  obtain ⟨u, h1, h2, h3⟩ := hc j hj
  exact ⟨u, h1, h2, (hb.cell (p := ⟨b, o + j, none⟩) hl).trans h3⟩


end Go.Proofs.YtlcgbnmmbheleaaGreat

namespace Go.Proofs.YtlcgbnmmbheleaaGreat
set_option linter.unusedSimpArgs false
set_option linter.unusedVariables false
open Go Go.RowKit
attribute [local go_sem ↓] Go.wp_at_zero Go.wp_at_succ

theorem rankU_leS (us : List Un) (i : Nat) : rankU us i ≤ i := Nat.le_trans (List.length_filter_le _ _) (by rw [List.length_take]; omega)
set_option maxRecDepth 100000 in
set_option maxHeartbeats 1600000 in
theorem l22Open_any (A1 A2 : Option Addr) (n1 c1 n2 c2 : Nat) (room : List Int) (us : List Un) (w : World) (h : RdC w A1 A2 n1 n2 room us) (hs : n2 ≤ 1000) :
    Calls Tryz.prog 25 #[.agg #[.slice A1 n1 c1, .slice A2 n2 c2]] w fun e w' => e = .returned (.int .i64 (openN us : Nat)) ∧ Below w.heap.size w w' := by
  have Hl := qh h.b.len
  have B1 := qh (alloc_up w (.cells #[.slice A1 n1 c1, .slice A2 n2 c2] 26))
  have N1 := qh (h.b.below B1.out)
  have Z1 := qh (Blk.new w 26 #[.slice A1 n1 c1, .slice A2 n2 c2])
  have x1 := Z1.out.cell 1
  simp only [gT, gZ, gS] at x1
  clear h
  go_enter Tryz.func25, Tryz.ntmps25
  go_wp2_with fail
  generalize w.alloc (.cells #[.slice A1 n1 c1, .slice A2 n2 c2] 26) = w1 at B1 N1 x1 ⊢
  clear Z1
  go_loop [3, 4] (fun v kv => ∃ k : Nat, kv = .int .i64 (k : Nat) ∧ k ≤ n2 ∧ v = .int .i64 (rankU us k : Nat)) (fun _ kv => n2 - (intOf kv).toNat)
  case atStart => exact ⟨0, rfl, Nat.zero_le _, by rw [rank_zero]; rfl⟩
  case round =>
    obtain ⟨k, rfl, hk, rfl⟩ := hrel
    by_cases hlt : k < n2
    · have q1 : (0 : Int) ≤ (k : Int) := by omega
      have q2 : (k : Int) < (n2 : Int) := by omega
      have q5 : 0 ≤ (k : Int) * 2 := by omega
      have hku : k < us.length := by have := Hl.out; omega
      obtain ⟨b, o, Ak, mk, ck, rfl, lb, e0, e1, hmk, hrd⟩ := N1.out.at_ hlt
      have r1 := rank_succ hku
      have l1 := rankU_leS us k
      have v1 : IntKind.i64.wrap ((rankU us k : Int) + 1) = (rankU us k : Int) + 1 := wr64 (by omega) (by omega)
      have v2 : IntKind.i64.wrap ((k : Int) + 1) = (k : Int) + 1 := wr64 (by omega) (by omega)
      clear hrd hmk
      generalize hop : (us[k]?.getD (false, [])).1 = op at e0 r1
      have R1 := qh r1
      clear r1 hop
      cases op with
      | true =>
        go_wp2_with fail
        go_round
        case rel => exact ⟨k + 1, by go_num, by omega, by rw [R1.out]; rfl⟩
        case measure => simp [intOf]; omega
      | false =>
        go_wp2_with fail
        go_round
        case rel => exact ⟨k + 1, by go_num, by omega, by rw [R1.out]; rfl⟩
        case measure => simp [intOf]; omega
    · obtain rfl : k = n2 := by omega
      go_wp2_with fail
      go_ret
      exact ⟨ret_int (by rw [show rankU us k = openN us from by rw [← openN_rank, Hl.out]]), B1.out⟩

structure DwS (w0 w : World) (g gc q : Nat) (v1 v2 : Value) (R : World → Prop) : Prop where
  b : Below w0.heap.size w0 w
  z : Blk w w0.heap.size 26 #[.slice none 0 0, .slice none 0 0]
  c : Blk w gc 26 #[v1, v2]
  k : ∀ u, KeepTU w u → R u
  r : Rdr w g q
  lg : w0.heap.size < g
  lc : g < gc
section
variable {w0 w w' : World} {g gc q q' : Nat} {v1 v2 : Value} {R : World → Prop}
theorem DwS.only (h : DwS w0 w g gc q v1 v2 R) (o : OnlyG w w' g) (r : Rdr w' g q') : DwS w0 w' g gc q' v1 v2 R :=
  ⟨h.b.trans (o.belowB (B := w0.heap.size) (by have := h.lg; omega) h.b.size), o.blk h.z (by have := h.lg; omega), o.blk h.c (by have := h.lc; omega), fun u hu => h.k u ((keepTU_rdr h.r o).trans hu), r, h.lg, h.lc⟩
theorem DwS.alloc (h : DwS w0 w g gc q v1 v2 R) (o : Obj) : DwS w0 (w.alloc o) g gc q v1 v2 R :=
  have al := alloc_up w o
  ⟨h.b.trans (al.mono h.b.size), h.z.below al h.z.lt, h.c.below al h.c.lt, fun u hu => h.k u ((KeepTU.up al).trans hu), h.r.below al, h.lg, h.lc⟩
theorem DwS.drew (h : DwS w0 w g gc q v1 v2 R) : DwS w0 w.drew g gc q v1 v2 R := ⟨h.b.drew, h.z.drew, h.c.drew, fun u hu => h.k u hu, h.r.keep (fun _ _ => rfl), h.lg, h.lc⟩
theorem DwS.cells (h : DwS w0 w g gc q v1 v2 R) : w.cell? ⟨gc, 0, none⟩ = some v1 ∧ w.cell? ⟨gc, 1, none⟩ = some v2 := ⟨h.c.cell 0, h.c.cell 1⟩
theorem DwS.put (h : DwS w0 w g gc q v1 v2 R) : Below w0.heap.size w0 ((w.setCell ⟨w0.heap.size, 0, none⟩ v1).setCell ⟨w0.heap.size, 1, none⟩ v2) ∧ Blk ((w.setCell ⟨w0.heap.size, 0, none⟩ v1).setCell ⟨w0.heap.size, 1, none⟩ v2) w0.heap.size 26 #[v1, v2] ∧ Blk ((w.setCell ⟨w0.heap.size, 0, none⟩ v1).setCell ⟨w0.heap.size, 1, none⟩ v2) gc 26 #[v1, v2] ∧ ∀ u, KeepTU ((w.setCell ⟨w0.heap.size, 0, none⟩ v1).setCell ⟨w0.heap.size, 1, none⟩ v2) u → R u := by
  have l1 := h.lg
  have l2 := h.lc
  exact ⟨((h.b).setCell (p := ⟨w0.heap.size, 0, none⟩) (Nat.le_refl _) v1).setCell (p := ⟨w0.heap.size, 1, none⟩) (Nat.le_refl _) v2, ((h.z.set_ 0 v1).set_ 1 v2),
    (h.c.far (p := ⟨w0.heap.size, 0, none⟩) (by show gc ≠ w0.heap.size; omega) v1).far (p := ⟨w0.heap.size, 1, none⟩) (by show gc ≠ w0.heap.size; omega) v2,
    fun u hu => h.k _ (((KeepTU.set_ h.z (by decide) (by decide) (by decide) 0 v1).trans (KeepTU.set_ (h.z.set_ 0 v1) (by decide) (by decide) (by decide) 1 v2)).trans hu)⟩
end


set_option maxRecDepth 100000 in
set_option maxHeartbeats 1600000 in
theorem drawUsageShare_any (A : Option Addr) (n c : Nat) (w : World) (h : RdU w w.heap.size A n) (hc : n ≤ c) (hcm : c ≤ 9223372036854775807) :
    Calls Tryz.prog 5 #[.slice A n c] w fun e w' => ∃ A1 m1 c1 A2 m2 c2 room us dim, e = .returned (.tuple #[.agg #[.slice A1 m1 c1, .slice A2 m2 c2], .int .i64 dim]) ∧ RdC w' A1 A2 m1 m2 room us ∧ ShU us ∧ m1 ≤ 3 ∧ m1 ≤ c1 ∧ m2 ≤ c2 ∧ Below w.heap.size w w' := by
  have B1 := qh (alloc_up w (.cells #[.slice none 0 0, .slice none 0 0] 26))
  have Z1 := qh (Blk.new w 26 #[.slice none 0 0, .slice none 0 0])
  have U1 := qh (rdU_up h B1.out)
  clear h
  go_enter Tryz.func5, Tryz.ntmps5
  go_wp2_with fail
  generalize w.alloc (.cells #[.slice none 0 0, .slice none 0 0] 26) = w1 at B1 Z1 U1 ⊢
  refine (l6Open_any A n c w1 U1.out hc hcm).mono ?_; rintro e w2 ⟨rfl, R2, hb2⟩
  have B2 := qh (B1.out.trans (hb2.mono B1.out.size))
  have Z2 := qh (Z1.out.below hb2 Z1.out.lt)
  have HR2 := qh R2
  have lz := Z1.out.lt
  have lg := B1.out.size
  clear hb2 R2 U1
  go_wp2_with fail
  refine (l92Cluster_any w1.heap.size 0 w2 HR2.out (by omega)).mono ?_; rintro e w3 hD
  obtain ⟨A1, m1, c1, A2, m2, c2, room, us, rfl, hr, hs, hm1, hc1, hc2, o3, q, hq, r3⟩ := hD
  have S4 := qh (show DwS w (w3.alloc (.cells #[.slice A1 m1 c1, .slice A2 m2 c2] 26)) w1.heap.size w3.heap.size q (.slice A1 m1 c1) (.slice A2 m2 c2) (fun u => RdC u A1 A2 m1 m2 room us) from by
    have al := alloc_up w3 (.cells #[.slice A1 m1 c1, .slice A2 m2 c2] 26)
    have b3 := B2.out.trans (o3.belowB (B := w.heap.size) lg B2.out.size)
    have z3 := o3.blk Z2.out (by omega)
    exact ⟨b3.trans (al.mono b3.size), z3.below al z3.lt, Blk.new w3 _ _, fun u hu => hr u ((KeepTU.up al).trans hu), r3.below al, lz, r3.lt⟩)
  have Hs := qh hs
  clear hr hs o3 r3 B2 Z2 HR2 B1 Z1
  go_wp2_with fail
  generalize w3.heap.size = gc at S4 ⊢
  generalize w3.alloc (.cells #[.slice A1 m1 c1, .slice A2 m2 c2] 26) = w4 at S4 ⊢
  generalize w1.heap.size = g at *
  refine wp_region_mix (.take 0 (.take 1 (.take 3 (.bar 2 (.bar 4 (.take 5 (.take 6 (.bar 7 (.take 8 .nil))))))))) (fun w' => w'.cell? ⟨gc, 0, none⟩ = some (.slice A1 m1 c1) ∧ w'.cell? ⟨gc, 1, none⟩ = some (.slice A2 m2 c2)) (by kernel_rfl) (by kernel_rfl) S4.out.drew.cells (fun _ => ?_)
  have S44 := qh S4.out.drew
  clear S4
  generalize w4.drew = w44 at S44 ⊢
  repeat ((first | refine mxS (by rfl) (by rfl) ?_ | (refine mxT (v := ?_) (by rfl) (by rfl) (fun z y => ?_) ?_; rotate_left; (focus ((try dsimp only at y); (go_simp <;> with_reducible rfl); done)))); (try simp only [Act.put,pS,pZ,pC]))
  (refine mxB (by rfl) (fun K hK => ?_); go_simp)
  refine (pick_any g q 4 w44 S44.out.r (by omega) (by omega) (by omega)).mono ?_; rintro e w5 ⟨r1, rfl, hr1, R5, O5⟩
  have S5 := qh (S44.out.only O5 R5)
  clear O5 R5 S44
  ((try dsimp only); refine nxK hK _ _ (S5.out.cells) ?_; clear hK K; (try simp only [Act.put,pS,pZ,pC]))
  (refine mxB (by rfl) (fun K hK => ?_); go_simp)
  refine (pick_any g (q + 1) 12 w5 S5.out.r (by omega) (by omega) (by omega)).mono ?_; rintro e w6 ⟨r2, rfl, hr2, R6, O6⟩
  have S6 := qh (S5.out.only O6 R6)
  clear O6 R6 S5
  ((try dsimp only); refine nxK hK _ _ (S6.out.cells) ?_; clear hK K; (try simp only [Act.put,pS,pZ,pC]))
  have j1 : IntKind.i64.wrap ((r2 : Int).tdiv 11) = (r2 : Int) / 11 := IntWalk.i64_quo _ _ ⟨by omega, by omega, by omega⟩
  have j2 : IntKind.i64.wrap ((r2 : Int) / 11) = (r2 : Int) / 11 := wr64 (by omega) (by omega)
  have j3 : IntKind.i64.wrap ((r1 : Int) - (r2 : Int) / 11) = (r1 : Int) - (r2 : Int) / 11 := wr64 (by omega) (by omega)
  repeat ((first | refine mxS (by rfl) (by rfl) ?_ | (refine mxT (v := ?_) (by rfl) (by rfl) (fun z y => ?_) ?_; rotate_left; (focus ((try dsimp only at y); (go_simp <;> with_reducible rfl); done)))); (try simp only [Act.put,pS,pZ,pC]))
  have x0 := S6.out.z.cell 0
  have x1 := S6.out.z.cell 1
  simp only [gT, gZ, gS] at x0 x1
  have x2 := S6.out.z.frozen 0
  have x3 := S6.out.z.frozen 1
  (refine mxB (by rfl) (fun K hK => ?_); go_simp)
  obtain ⟨b9, e9, d9, k9⟩ := S6.out.put
  have B9 := qh b9
  have E9 := qh e9
  have D9 := qh d9
  have K9 := qh k9
  clear b9 e9 d9 k9 x0 x1 x2 x3
  ((try dsimp only); refine nxK hK _ _ (⟨D9.out.cell 0, D9.out.cell 1⟩) ?_; clear hK K; (try simp only [Act.put,pS,pZ,pC]))
  generalize (World.setCell (World.setCell w6 ⟨w.heap.size, 0, none⟩ (.slice A1 m1 c1)) ⟨w.heap.size, 1, none⟩ (.slice A2 m2 c2)) = w9 at B9 E9 D9 K9 ⊢
  repeat ((first | refine mxS (by rfl) (by rfl) ?_ | (refine mxT (v := ?_) (by rfl) (by rfl) (fun z y => ?_) ?_; rotate_left; (focus ((try dsimp only at y); (go_simp <;> with_reducible rfl); done)))); (try simp only [Act.put,pS,pZ,pC]))
  refine wpMix_nil ?_
  go_wp2_with fail
  have y0 : w9.cell? ⟨w.heap.size, 0, none⟩ = some (.slice A1 m1 c1) := E9.out.cell 0
  have y1 : w9.cell? ⟨w.heap.size, 1, none⟩ = some (.slice A2 m2 c2) := E9.out.cell 1
  refine bodyPost_ret (v := .tuple #[.agg #[.slice A1 m1 c1, .slice A2 m2 c2], .int .i64 ((r1 : Int) - (r2 : Int) / 11)]) (by simp [results, Tryz.results5, go_sem, y0, y1]) rfl ⟨A1, m1, c1, A2, m2, c2, room, us, _, rfl, (K9.out _ (fun _ _ => rfl)), Hs.out, hm1, hc1, hc2, B9.out⟩

theorem add3_assoc (a b c : List Int) : add3 (add3 a b) c = add3 a (add3 b c) := by simp [add3, Int.add_assoc]
theorem fold_add3 : ∀ (l : List Tk) (s t : List Int), l.foldl (fun s t => add3 s t.2) (add3 s t) = add3 s (l.foldl (fun s t => add3 s t.2) t)
  | [], _, _ => rfl
  | x :: l, s, t => by
    simp only [List.foldl_cons]
    rw [add3_assoc]
    exact fold_add3 l s (add3 t x.2)
theorem add3_zero {s : List Int} (h : s.length = 3) : add3 s [0, 0, 0] = s := by
  match s, h with
  | [a, b, c], _ => simp [add3]
theorem loadP_append (a b : List Tk) : loadP (a ++ b) = add3 (loadP a) (loadP b) := by
  have e : (a ++ b).foldl (fun s t => add3 s t.2) [0, 0, 0] = b.foldl (fun s t => add3 s t.2) (loadP a) := by rw [List.foldl_append]; rfl
  show (a ++ b).foldl (fun s t => add3 s t.2) [0, 0, 0] = _
  rw [e, ← add3_zero (loadP_len a), fold_add3, add3_zero (loadP_len a)]
  rfl
theorem flat_facts {room : List Int} {us : List Un} (h : clOk room us = true) : (∀ j : Nat, j < (us.map (·.2)).flatten.length → ((us.map (·.2)).flatten[j]?.getD (0, [])).2.length = 3) ∧
    ∀ j i : Nat, 0 ≤ ((us.map (·.2)).flatten[j]?.getD (0, [])).2[i]?.getD 0 ∧ ((us.map (·.2)).flatten[j]?.getD (0, [])).2[i]?.getD 0 ≤ 1000 := by
  have hv : ∀ t ∈ (us.map (·.2)).flatten, vecOk t.2 = true := by
    simp only [clOk, binsOk, tasksOk, Bool.and_eq_true, decide_eq_true_eq, List.all_eq_true] at h
    intro t ht
    have := h.1.2.1.2.1.2 t ht
    simp only [taskOk, vecFits, Bool.and_eq_true] at this
    exact this.2.1.1
  have hm : ∀ j : Nat, j < (us.map (·.2)).flatten.length → (us.map (·.2)).flatten[j]?.getD (0, []) ∈ (us.map (·.2)).flatten := fun j hj => by
    rw [List.getElem?_eq_getElem hj]
    exact List.getElem_mem hj
  refine ⟨fun j hj => vecOk_len (hv _ (hm j hj)), fun j i => ?_⟩
  rcases Nat.lt_or_ge j (us.map (·.2)).flatten.length with hj | hj
  · have := vecOk_bd (hv _ (hm j hj)) i
    omega
  · rw [List.getElem?_eq_none hj]
    simp
theorem togTo_load {room : List Int} {us : List Un} (h : clOk room us = true) : togTo us us.length = loadP (us.map (·.2)).flatten := by
  have key : ∀ k, k ≤ us.length → togTo us k = loadP ((us.take k).map (·.2)).flatten := by
    intro k
    induction k with
    | zero => intro _; rfl
    | succ k ih =>
      intro hk
      unfold togTo
      rw [ih (by omega), List.take_succ_eq_append_getElem (by omega), List.map_append, List.flatten_append, loadP_append]
      congr 1
      rw [List.getElem?_eq_getElem (by omega)]
      simp
  have := key us.length (Nat.le_refl _)
  rwa [List.take_length] at this

set_option maxRecDepth 100000 in
set_option maxHeartbeats 1600000 in
theorem usageShareS_any (A1 A2 : Option Addr) (n1 c1 n2 c2 : Nat) (room : List Int) (us : List Un) (dim : Int) (w : World) (h : RdC w A1 A2 n1 n2 room us) (hs : ShU us) :
    Calls Tryz.prog 7 #[.agg #[.slice A1 n1 c1, .slice A2 n2 c2], .int .i64 dim] w fun e w' => e = .returned (.int .i64 (shareP room us dim)) ∧ Below w.heap.size w w' := by
  obtain rfl : us.length = n2 := h.b.len
  have B1 := qh (alloc_up w (.cells #[.slice A1 n1 c1, .slice A2 us.length c2] 26))
  have H1 := qh (h.up B1.out)
  have P1 := qh (Blk.new w 26 #[.slice A1 n1 c1, .slice A2 us.length c2])
  have Hs := qh hs
  have hw := qh (fun w => l6In_any dim 0 2 w)
  clear h hs
  go_enter Tryz.func7, Tryz.ntmps7
  go_wp2_with fail
  have hge := B1.out.size
  generalize hgb : w.heap.size = gb at P1 hge ⊢
  generalize w.alloc (.cells #[.slice A1 n1 c1, .slice A2 us.length c2] 26) = w1 at B1 H1 P1 hge ⊢
  have x0 := P1.out.cell 0
  have x1 := P1.out.cell 1
  simp only [gT, gZ, gS] at x0 x1
  go_wp2_with fail
  clear x0 x1
  refine (clusterValidS_any A1 A2 n1 c1 us.length c2 room us w1 H1.out Hs.out).mono ?_; rintro e w2 ⟨rfl, hb2⟩
  have B2 := qh (B1.out.trans (hb2.mono B1.out.size))
  have H2 := qh (H1.out.up hb2)
  have P2 := qh (P1.out.below hb2 P1.out.lt)
  clear hb2 B1 H1 P1 hge
  cases hok : clOk room us with
  | false =>
    have hv := qh (show shareP room us dim = -1 from by unfold shareP; rw [if_neg (by rw [hok]; simp)])
    clear hok
    go_wp2_with fail
    go_ret
    exact ⟨ret_int hv.out.symm, by subst hgb; exact B2.out⟩
  | true =>
    have Hok := qh hok
    clear hok
    go_wp2_with fail
    refine (hw.out w2).mono ?_; rintro e w3 ⟨rfl, rfl⟩
    cases hin : inR 0 2 dim with
    | false =>
      have hv := qh (show shareP room us dim = -1 from by unfold shareP; rw [if_neg (by rw [hin]; simp)])
      clear hin
      go_wp2_with fail
      go_ret
      exact ⟨ret_int hv.out.symm, by subst hgb; exact B2.out⟩
    | true =>
      have Hin := qh hin
      obtain ⟨m0, m1⟩ := inR_iff.1 hin
      obtain ⟨k, rfl⟩ := Int.eq_ofNat_of_zero_le m0
      clear hin m0
      have x0 := P2.out.cell 0
      have x1 := P2.out.cell 1
      simp only [gT, gZ, gS] at x0 x1
      go_wp2_with fail
      clear x0 x1
      refine (l22Open_any A1 A2 n1 c1 us.length c2 room us w2 H2.out (by have := (clOk_facts Hok.out).2.2.1; omega)).mono ?_; rintro e w3 ⟨rfl, hb3⟩
      have B3 := qh (B2.out.trans (hb3.mono B2.out.size))
      have H3 := qh (H2.out.up hb3)
      have P3 := qh (P2.out.below hb3 P2.out.lt)
      clear hb3 B2 H2 P2
      by_cases h0 : openN us = 0
      · have hv := qh (show shareP room us (k : Int) = 0 from by unfold shareP; rw [if_pos ⟨Hok.out, Hin.out⟩, if_pos h0])
        have q0 : (((openN us : Nat) : Int) == 0) = true := by simp [h0]
        clear h0
        generalize ((openN us : Nat) : Int) = n at q0 ⊢
        go_wp2_with fail
        go_ret
        exact ⟨ret_int hv.out.symm, by subst hgb; exact B3.out⟩
      · have hk : k < 3 := by omega
        have hNS := qh (share_num Hs.out Hok.out hk h0)
        have q0 : (((openN us : Nat) : Int) == 0) = false := by simp; omega
        have Q := qh h0
        have k1 : (0 : Int) ≤ (k : Int) := by omega
        have k2 : (k : Int) < 3 := by omega
        clear h0
        obtain rfl : n1 = 3 := by have := (clOk_facts Hok.out).1; have := H3.out.a.len; omega
        obtain ⟨rb, ro, hA1, hrb, hcells⟩ := H3.out.a.2.2 (by omega)
        subst hA1
        have hc := hcells k hk
        have RC := qh (show w3.cell? ⟨rb, ro + k, none⟩ = some (.int .i64 (room[k]?.getD 0)) from by simpa using hc)
        clear hc hcells
        have w13 : IntKind.i64.wrap (((openN us : Nat) : Int) * room[k]?.getD 0) = room[k]?.getD 0 * ((openN us : Nat) : Int) := by rw [Int.mul_comm]; exact hNS.out.w13
        have ne := hNS.out.ne
        have ne2 : (room[k]?.getD 0 * ((openN us : Nat) : Int) == 0) = false := by simpa using hNS.out.ne
        have w6 := hNS.out.w6
        have hq := hNS.out.hq
        obtain ⟨T, hT⟩ : ∃ T, T = (togTo us us.length)[k]?.getD 0 := ⟨_, rfl⟩
        rw [← hT] at w6 hq
        have HT := qh hT
        clear hT
        generalize ((openN us : Nat) : Int) = n at q0 w13 ne ne2 hq ⊢
        generalize room[k]?.getD 0 = r at RC w13 ne ne2 hq ⊢
        obtain ⟨sh, hsh⟩ : ∃ sh, sh = shareP room us (k : Int) := ⟨_, rfl⟩
        rw [← hsh] at hq
        have HSh := qh hsh
        clear hsh
        generalize r * n = rn at w13 ne ne2 hq ⊢
        have lgb := P3.out.lt
        go_wp2_with fail
        refine wp_region_mix (.take 0 (.take 4 (.take 8 (.take 9 (.take 10 (.take 11 (.take 12 (.take 13 (.take 14 (.bar 1 (.bar 2 (.bar 3 (.take 5 (.bar 6 (.take 7 (.take 15 (.take 16 .nil))))))))))))))))) (fun w' => w'.cell? ⟨gb, 0, none⟩ = some (.slice (some ⟨rb, ro, none⟩) 3 c1) ∧ w'.cell? ⟨gb, 1, none⟩ = some (.slice A2 us.length c2) ∧ w'.cell? ⟨rb, ro + k, none⟩ = some (.int .i64 r)) (by kernel_rfl) (by kernel_rfl) ⟨P3.out.cell 0, P3.out.cell 1, RC.out⟩ (fun _ => ?_)
        have B4 := qh B3.out.drew
        have H4 := qh (H3.out.up ((Below.refl _ _).drew))
        have P4 := qh P3.out.drew
        have RC4 := qh (show w3.drew.cell? ⟨rb, ro + k, none⟩ = some (.int .i64 r) from RC.out)
        have x2 : w3.drew.cell? ⟨rb, ro + k, none⟩ = some (.int .i64 r) := RC.out
        have lgb4 : gb < w3.drew.heap.size := lgb
        have hrb4 : rb < w3.drew.heap.size := hrb
        clear B3 H3 P3 RC lgb hrb
        generalize w3.drew = w4 at B4 H4 P4 RC4 x2 lgb4 hrb4 ⊢
        have x0 := P4.out.cell 0
        have x1 := P4.out.cell 1
        simp only [gT, gZ, gS] at x0 x1
        repeat ((first | refine mxS (by rfl) (by rfl) ?_ | (refine mxT (v := ?_) (by rfl) (by rfl) (fun z y => ?_) ?_; rotate_left; (focus ((try dsimp only at y); (go_simp <;> with_reducible rfl); done)))); (try simp only [Act.put,pS,pZ,pC]))
        clear x0 x1 x2
        (refine mxB (by rfl) (fun K hK => ?_); go_simp)
        refine (l21Bins_any (some ⟨rb, ro, none⟩) A2 3 c1 us.length c2 us w4 H4.out.b (by have := (clOk_facts Hok.out).2.2.1; omega)).mono ?_; rintro e w5 ⟨A5, m5, c5, rfl, hr5, hb5⟩
        have B5 := qh (B4.out.trans (hb5.mono B4.out.size))
        have P5 := qh (P4.out.below hb5 lgb4)
        have RC5 := qh ((hb5.cell (p := ⟨rb, ro + k, none⟩) hrb4).trans RC4.out)
        have R5 := qh hr5
        have z5 := hb5.size
        clear hr5 hb5 B4 H4 P4 RC4
        ((try dsimp only); refine nxK hK _ _ (⟨P5.out.cell 0, P5.out.cell 1, RC5.out⟩) ?_; clear hK K; (try simp only [Act.put,pS,pZ,pC]))
        (refine mxB (by rfl) (fun K hK => ?_); go_simp)
        have fl := Hok.out
        have hlen : (us.map (·.2)).flatten.length ≤ 14 := by
          simp only [clOk, binsOk, tasksOk, Bool.and_eq_true, decide_eq_true_eq] at fl
          exact fl.1.2.1.2.1.1.2
        refine (l2All_any A5 m5 c5 (us.map (·.2)) w5 R5.out (by omega)).mono ?_; rintro e w6 ⟨A6, m6, c6, rfl, hr6, hb6⟩
        have B6 := qh (B5.out.trans (hb6.mono B5.out.size))
        have P6 := qh (P5.out.below hb6 (by omega))
        have RC6 := qh ((hb6.cell (p := ⟨rb, ro + k, none⟩) (by show rb < _; omega)).trans RC5.out)
        have R6 := qh hr6
        have z6 := hb6.size
        clear hr6 hb6 B5 R5 P5 RC5
        ((try dsimp only); refine nxK hK _ _ (⟨P6.out.cell 0, P6.out.cell 1, RC6.out⟩) ?_; clear hK K; (try simp only [Act.put,pS,pZ,pC]))
        (refine mxB (by rfl) (fun K hK => ?_); go_simp)
        have hm6 := R6.out.len
        have hfl := qh (flat_facts Hok.out)
        refine (l2Load_any A6 m6 c6 (us.map (·.2)).flatten w6 R6.out (by omega) (fun j hj => hfl.out.1 j (by omega)) hfl.out.2).mono ?_; rintro e w7 ⟨A7, c7, rfl, hr7, hb7⟩
        have B7 := qh (B6.out.trans (hb7.mono B6.out.size))
        have P7 := qh (P6.out.below hb7 (by omega))
        have RC7 := qh ((hb7.cell (p := ⟨rb, ro + k, none⟩) (by show rb < _; omega)).trans RC6.out)
        rw [← togTo_load Hok.out] at hr7
        obtain ⟨tb, to, hA7, htb, hcells⟩ := hr7.2.2 (by omega)
        subst hA7
        have hc := hcells k hk
        rw [← HT.out] at hc
        have x5 : w7.cell? ⟨tb, to + k, none⟩ = some (.int .i64 T) := by simpa using hc
        clear hr7 hb7 B6 R6 P6 RC6 hc hcells hlen fl hm6
        ((try dsimp only); refine nxK hK _ _ (⟨P7.out.cell 0, P7.out.cell 1, RC7.out⟩) ?_; clear hK K; (try simp only [Act.put,pS,pZ,pC]))
        repeat ((first | refine mxS (by rfl) (by rfl) ?_ | (refine mxT (v := ?_) (by rfl) (by rfl) (fun z y => ?_) ?_; rotate_left; (focus ((try dsimp only at y); (go_simp <;> with_reducible rfl); done)))); (try simp only [Act.put,pS,pZ,pC]))
        (refine mxB (by rfl) (fun K hK => ?_); go_simp)
        ((try dsimp only); refine nxK hK _ _ (⟨P7.out.cell 0, P7.out.cell 1, RC7.out⟩) ?_; clear hK K; (try simp only [Act.put,pS,pZ,pC]))
        repeat ((first | refine mxS (by rfl) (by rfl) ?_ | (refine mxT (v := ?_) (by rfl) (by rfl) (fun z y => ?_) ?_; rotate_left; (focus ((try dsimp only at y); (go_simp <;> with_reducible rfl); done)))); (try simp only [Act.put,pS,pZ,pC]))
        refine wpMix_nil ?_
        go_wp2_with fail
        go_ret
        exact ⟨ret_int HSh.out, by subst hgb; exact B7.out⟩
end Go.Proofs.YtlcgbnmmbheleaaGreat
