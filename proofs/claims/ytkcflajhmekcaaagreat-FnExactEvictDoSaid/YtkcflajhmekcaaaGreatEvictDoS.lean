/- Walk: the reference's EvictDo. -/
import Derived.Test.YtkcflajhmekcaaaGreatEvictDoI
import Derived.Test.YtkcflajhmekcaaaGreatCopyS
namespace Go.Proofs.YtkcflajhmekcaaaGreat
open Go Go.RowKit
attribute [local go_sem ↓] Go.wp_at_zero Go.wp_at_succ

theorem rdF_more {w : World} {B B' n : Nat} {A : Option Addr} {g : Nat → Bool} (h : RdF w B A n g) (hB : B ≤ B') : RdF w B' A n g :=
  ⟨h.1, fun hp => by
    obtain ⟨b, o, e, hb, hc⟩ := h.2 hp
    exact ⟨b, o, e, by omega, hc⟩⟩
theorem keptP_has {ts : List Tk} {g : Nat → Bool} {p : Tk → Prop} (h : ∀ j : Nat, j < ts.length → p (ts[j]?.getD (0, []))) : ∀ k, k ≤ ts.length → ∀ t ∈ keptP ts g k, p t
  | 0, _, t, ht => by simp [keptP] at ht
  | k + 1, hk, t, ht => by
    rw [keptP] at ht
    split at ht
    · exact keptP_has h k (by omega) t ht
    · rcases List.mem_append.1 ht with h1 | h1
      · exact keptP_has h k (by omega) t h1
      · rw [List.mem_singleton] at h1
        rw [h1]; exact h k (by omega)

set_option maxRecDepth 100000 in
set_option maxHeartbeats 1600000 in
theorem evictDoS_any (A1 A2 A3 A4 : Option Addr) (n1 c1 n2 c2 n3 c3 n4 c4 : Nat) (room rk : List Int) (ts : List Tk) (id : Int) (xs : List Int) (r : Int) (w : World) (h1 : RdI w w.heap.size A1 n1 room) (h2 : RdT w w.heap.size A2 n2 ts)
    (h3 : RdI w w.heap.size A3 n3 rk) (h4 : RdI w w.heap.size A4 n4 xs) (hc2 : n2 ≤ c2) (hc4 : n4 ≤ c4) (hz : n2 ≤ 1048576) :
    Calls Tryz.prog 22 #[.slice A1 n1 c1, .slice A2 n2 c2, .slice A3 n3 c3, .agg #[.int .i64 id, .slice A4 n4 c4], .int .i64 r] w fun e w' =>
      ((evP room ts rk (id, xs) r = none ∧ ∃ A c, e = .returned (.tuple #[.slice A 0 c, .bool false])) ∨
       ∃ g A m c, evP room ts rk (id, xs) r = some g ∧ e = .returned (.tuple #[.slice A m c, .bool true]) ∧ OwnTs w' w.heap.size (.slice A m c) m (keptP ts g ts.length ++ [(id, xs)])) ∧ Below w.heap.size w w' := by
  obtain ⟨i0, hi0, hz0, hz1, hz2⟩ := info_parts task_info
  have hl2 := Lib.hid h2.len
  have hl3 := Lib.hid h3.len
  have hl1 := Lib.hid h1.len
  have hl4 := Lib.hid h4.len
  have H1 := Lib.hid h1
  have H2 := Lib.hid h2
  have H3 := Lib.hid h3
  have H4 := Lib.hid h4
  clear h1 h2 h3 h4
  have B1 := Lib.hid (alloc_up w (.cells #[.int .i64 id, .slice A4 n4 c4] 33))
  have P1 := Lib.hid (Blk.new w 33 #[.int .i64 id, .slice A4 n4 c4])
  have x0 := P1.out.cell 0
  have x1 := P1.out.cell 1
  simp only [List.getElem?_toArray, List.getElem?_cons_zero, List.getElem?_cons_succ] at x0 x1
  have hcall := Lib.hid (l42Ok_any A1 A2 A3 A4 n1 c1 n2 c2 n3 c3 n4 c4 room rk ts id xs r _ (H1.out.up B1.out) (H2.out.up B1.out) (H3.out.up B1.out) (H4.out.up B1.out) hc2 hc4 hz)
  cases hok : evOk room ts rk (id, xs) r with
  | false =>
    rw [hok] at hcall
    have Hno := Lib.hid (show evP room ts rk (id, xs) r = none by rw [evP, if_neg (by rw [hok]; simp)])
    clear hok
    go_enter Tryz.func22, Tryz.ntmps22
    go_wp2_with fail
    refine hcall.out.mono ?_; rintro e w2 ⟨rfl, hb2⟩
    have B2 := Lib.hid (below_to B1.out hb2)
    clear hb2
    go_wp2_with fail
    go_ret2
    exact ⟨.inl ⟨Hno.out, _, _, rfl⟩, B2.out.alloc B2.out.size _⟩
  | true =>
    rw [hok] at hcall
    have Hev := Lib.hid (show evP room ts rk (id, xs) r = goneP room ts rk xs r by rw [evP, if_pos hok])
    obtain ⟨f1, f2, f3, f4, f5, f6, _, _⟩ := evOk_facts hok
    have F3 := Lib.hid f3
    have F4 := Lib.hid f4
    have hx3 : xs.length = 3 := vecOk_len f4
    have Hx3 := Lib.hid hx3
    have hn4 : n4 = 3 := by have := hl4.out; omega
    have hn1 : n1 = 3 := by have := hl1.out; omega
    have hn2 : n2 ≤ 13 := by have := hl2.out; omega
    have en : n3 = n2 := by have := hl2.out; have := hl3.out; omega
    clear hok f1 f2 f3 f4 f5 f6 hx3
    subst hn4 hn1 en
    go_enter Tryz.func22, Tryz.ntmps22
    go_wp2_with fail
    refine hcall.out.mono ?_; rintro e w2 ⟨rfl, hb2⟩
    have B2 := Lib.hid (below_to B1.out hb2)
    have P2 := Lib.hid (P1.out.below hb2 P1.out.lt)
    clear hb2 x0 x1 hcall P1
    obtain ⟨x0, x1⟩ : w2.cell? ⟨w.heap.size, 0, none⟩ = some (.int .i64 id) ∧ w2.cell? ⟨w.heap.size, 1, none⟩ = some (.slice A4 3 c4) := ⟨P2.out.cell 0, P2.out.cell 1⟩
    go_wp2_with fail
    refine (l42Gone_any A1 A2 A3 A4 3 c1 n3 c2 c3 c4 room rk ts id xs r w2 (H1.out.up B2.out) (H2.out.up B2.out) (H3.out.up B2.out) (H4.out.up B2.out) (by omega) (by omega) F3.out F4.out).mono ?_
    rintro e w5 ⟨hres, hb5⟩
    have B5 := Lib.hid (below_to B2.out hb5)
    have P5 := Lib.hid (P2.out.below hb5 P2.out.lt)
    have hw5 : w2.heap.size ≤ w5.heap.size := hb5.size
    have hw2 : w.heap.size ≤ w2.heap.size := B2.out.size
    clear hb5 x0 x1 P2
    rcases hres with ⟨hg, A5, c5, rfl⟩ | ⟨g, b, hg, rfl, hblk, hbl⟩
    · have Hg := Lib.hid hg
      clear hg
      go_wp2_with fail
      go_ret2
      exact ⟨.inl ⟨by rw [Hev.out]; exact Hg.out, _, _, rfl⟩, B5.out.alloc B5.out.size _⟩
    · have Hg := Lib.hid hg
      have HB0 := Lib.hid B5.out.drew
      have Hf := Lib.hid (RdF.of_blk (hblk.drew) (show n3 ≤ 9223372036854775807 by omega))
      have keepS := Lib.hid (show ∀ W, Below w5.drew.heap.size w5.drew W → W.cell? ⟨w.heap.size, 0, none⟩ = some (.int .i64 id) ∧ W.cell? ⟨w.heap.size, 1, none⟩ = some (.slice A4 3 c4) from
        fun W hW => ⟨(P5.out.drew.below hW P5.out.drew.lt).cell 0, (P5.out.drew.below hW P5.out.drew.lt).cell 1⟩)
      have K0 := keepS.out _ (Below.refl _ _)
      clear hg hblk hbl
      go_wp2_with fail
      refine wp_region_mix (.take 0 (.take 1 (.take 3 (.fork 2 (.bar 4 (.bar 5 (.bar 6 (.take 7 (.take 8 .nil))))) 4 (.bar 2 (.bar 5 (.bar 6 (.take 7 (.take 8 .nil))))))))) (fun w' => w'.cell? ⟨w.heap.size, 0, none⟩ = some (.int .i64 id) ∧ w'.cell? ⟨w.heap.size, 1, none⟩ = some (.slice A4 3 c4)) (by kernel_rfl) (by kernel_rfl) K0 (fun _ => ?_)
      clear K0
      repeat (first | (refine wpMix_skip (by rfl) (by rfl) ?_; (try simp only [Act.put, List.setIfInBounds_toArray, List.set_cons_zero, List.set_cons_succ])) | (refine wpMix_take (v := ?_) (by rfl) (by rfl) (fun wS hSt => ?_) ?_; rotate_left; (focus ((try dsimp only at hSt); (go_simp <;> with_reducible rfl); done)); (try simp only [Act.put, List.setIfInBounds_toArray, List.set_cons_zero, List.set_cons_succ])))
      have lu : w.heap.size ≤ w5.drew.heap.size := HB0.out.size
      generalize w5.drew = u0 at HB0 Hf keepS lu ⊢
      refine wpMix_fork (by rfl) (by rfl) (fun K hK => ?_) (fun K hK => ?_)
      go_simp
      refine (l42Rest_any A2 (some ⟨b, 0, none⟩) n3 c2 n3 n3 ts g u0 (H2.out.up HB0.out) Hf.out (Nat.le_refl _) (by omega)).mono ?_; rintro e w6 ⟨A6, m6, c6, vs, rfl, lm6, hown, htk, hlen, hb6⟩
      have HQ6 := Lib.hid hb6
      have Hown := Lib.hid (own_keep hown (w' := w6.alloc (.cells #[.int .i64 id, .slice A4 3 c4] 33)) (fun b hb => Below.heap_alloc _ _ _ (hown.lt b hb).2))
      have Hx := Lib.hid (own_src (own_built (w := w6) (base := 0) 33 (.int .i64 id) (.slice A4 3 c4) (by omega)))
      have HQ7 := Lib.hid (hb6.alloc hb6.size (.cells #[.int .i64 id, .slice A4 3 c4] 33))
      have Htk := Lib.hid (show TkCells (w6.alloc (.cells #[.int .i64 id, .slice A4 3 c4] 33)) u0.heap.size vs (keptP ts g n3) from htk.keep (fun p hp => (alloc_up w6 _).cell (by have := hb6.size; omega)) (Nat.le_refl _))
      have Hlen := Lib.hid hlen
      clear hown htk hlen hb6
      ((try dsimp only); refine hK.out _ _ (keepS.out _ HQ6.out) (fun hSw => ?_); (try clear hSw); clear hK K; (try simp only [Act.put, List.setIfInBounds_toArray, List.set_cons_zero, List.set_cons_succ]))
      (refine wpMix_bar (by rfl) (fun K hK => ?_); go_simp)
      ((try dsimp only); refine hK.out _ _ (keepS.out _ HQ7.out) (fun hSw => ?_); (try clear hSw); clear hK K; (try simp only [Act.put, List.setIfInBounds_toArray, List.set_cons_zero, List.set_cons_succ]))
      clear HQ6
      generalize w6.alloc (.cells #[.int .i64 id, .slice A4 3 c4] 33) = wz at Hown Hx HQ7 Htk ⊢
      generalize w6.heap.size = gx at Hx ⊢
      obtain ⟨lo, hlo⟩ : ∃ lo, lo = u0.heap.size := ⟨_, rfl⟩
      rw [← hlo] at Hown Htk
      have Hlo := Lib.hid (show lo ≤ wz.heap.size ∧ u0.heap.size ≤ lo by rw [hlo]; exact ⟨HQ7.out.size, Nat.le_refl _⟩)
      clear hlo
      rotate_left
      go_simp
      have HQ6 := Lib.hid ((Below.refl u0.heap.size u0).alloc (Nat.le_refl _) (.cells #[.int .i64 id, .slice A4 3 c4] 33))
      have sz6 : (u0.alloc (.cells #[.int .i64 id, .slice A4 3 c4] 33)).heap.size = u0.heap.size + 1 := World.size_alloc _ _
      have HB6 := Lib.hid (HB0.out.alloc lu (.cells #[.int .i64 id, .slice A4 3 c4] 33))
      have Hs6 := Lib.hid (own_built (w := u0) (base := 0) 33 (.int .i64 id) (.slice A4 3 c4) (by omega))
      have Hf6 := Lib.hid (Hf.out.below (w' := u0.alloc (.cells #[.int .i64 id, .slice A4 3 c4] 33)) HQ6.out)
      ((try dsimp only); refine hK.out _ _ (keepS.out _ HQ6.out) (fun hSw => ?_); (try clear hSw); clear hK K; (try simp only [Act.put, List.setIfInBounds_toArray, List.set_cons_zero, List.set_cons_succ]))
      (refine wpMix_bar (by rfl) (fun K hK => ?_); go_simp)
      refine (l42Rest_any A2 (some ⟨b, 0, none⟩) n3 c2 n3 n3 ts g _ (H2.out.up HB6.out) (rdF_more Hf6.out HQ6.out.size) (Nat.le_refl _) (by omega)).mono ?_; rintro e w6 ⟨A6, m6, c6, vs, rfl, lm6, hown, htk, hlen, hb6⟩
      have Hown := Lib.hid hown
      have Hx := Lib.hid (own_src (own_keep Hs6.out (w' := w6) (fun b hb => hb6.block b (Hs6.out.lt b hb).2)))
      have HQ7 := Lib.hid (below_to HQ6.out hb6)
      have Htk := Lib.hid htk
      have Hlen := Lib.hid hlen
      have lz6 := hb6.size
      clear hown htk hlen hb6 Hf6 Hs6 HB6
      ((try dsimp only); refine hK.out _ _ (keepS.out _ HQ7.out) (fun hSw => ?_); (try clear hSw); clear hK K; (try simp only [Act.put, List.setIfInBounds_toArray, List.set_cons_zero, List.set_cons_succ]))
      clear HQ6
      generalize w6 = wz at Hown Hx HQ7 Htk lz6 ⊢
      generalize u0.alloc (.cells #[.int .i64 id, .slice A4 3 c4] 33) = u1 at Hown Htk lz6 sz6 ⊢
      have Hlo := Lib.hid (show u1.heap.size ≤ wz.heap.size ∧ u0.heap.size ≤ u1.heap.size from ⟨lz6, by omega⟩)
      obtain ⟨gx, hgx⟩ : ∃ gx, gx = u0.heap.size := ⟨_, rfl⟩
      rw [← hgx] at Hx ⊢
      clear hgx
      generalize u1.heap.size = lo at Hown Htk lz6 sz6 Hlo
      clear lz6 sz6
      rotate_left
      all_goals
        have l1 := Hlo.out.1
        have l2 := Hlo.out.2
        refine wpMix_bar (by rfl) (fun K hK => ?_)
        rw [if_pos (by rfl)]
        refine wp_append_src _ _ _ 31 (by rfl) lo 33 i0 _ 2 32 Tryz.underlying31 hi0 hz0 hz1 hz2 rfl (by omega) (.slice A6 m6 c6) m6 vs (by rfl) Hown.out (some ⟨gx, 0, none⟩) 1 1 [.int .i64 id, .slice A4 3 c4] (by rfl) Hx.out (by simp [Value.oneCell']) (by unfold maxLen; omega) (by omega) l1 ?_
        intro v8 w8 hown8 hgrow8 hrow8
        obtain ⟨A8, c8, rfl⟩ := own_shape hown8
        have HQ8 := Lib.hid (HQ7.out.grown hgrow8 HQ7.out.size (fun j e => by have := (Hown.out.lt j e).1; omega))
        have L8 := (Below.refl lo wz).grown hgrow8 l1 (fun j e => (Hown.out.lt j e).1)
        have HB8 := Lib.hid (HB0.out.trans (HQ8.out.mono lu))
        have Htk8 := Lib.hid ((Htk.out.below L8).append (TkCells.single (id := id) ((H4.out.below HB8.out).more (show w.heap.size ≤ lo by omega)) hc4))
        have Hr8 := Lib.hid (RdT.of_own hown8 Htk8.out (by have := L8.size; omega) (by omega))
        clear hown8 hgrow8 hrow8 L8
        ((try dsimp only); refine hK.out _ _ (keepS.out _ HQ8.out) (fun hSw => ?_); (try clear hSw); clear hK K; (try simp only [Act.put, List.setIfInBounds_toArray, List.set_cons_zero, List.set_cons_succ]))
        (refine wpMix_bar (by rfl) (fun K hK => ?_); go_simp)
        refine (l2Copy_any A8 (m6 + 1) c8 _ w8 Hr8.out (by omega) (fun j hj => ?_)).mono ?_
        · have hjl : j < (keptP ts g n3 ++ [(id, xs)]).length := by rw [List.length_append, Hlen.out]; simpa using hj
          rw [List.getElem?_eq_getElem hjl, Option.getD_some]
          have hall := keptP_has (g := g) (p := fun t : Tk => t.2.length ≤ 1048576) (fun j hj => by rw [List.getElem?_eq_getElem hj, Option.getD_some, vecOk_len (F3.out _ (List.getElem_mem hj))]; omega) n3 (by have := hl2.out; omega)
          rcases List.mem_append.1 (List.getElem_mem hjl) with h | h
          · exact hall _ h
          · rw [List.mem_singleton] at h
            rw [h]; show xs.length ≤ 1048576; have := Hx3.out; omega
        rintro e w9 ⟨A9, c9, rfl, hown9, hb9⟩
        have HB9 := Lib.hid (below_to HB8.out hb9)
        have HQ9 := Lib.hid (below_to HQ8.out hb9)
        have Hown9 := Lib.hid hown9
        have lb9 := HB8.out.size
        clear hown9 hb9
        ((try dsimp only); refine hK.out _ _ (keepS.out _ HQ9.out) (fun hSw => ?_); (try clear hSw); clear hK K; (try simp only [Act.put, List.setIfInBounds_toArray, List.set_cons_zero, List.set_cons_succ]))
        repeat (first | (refine wpMix_skip (by rfl) (by rfl) ?_; (try simp only [Act.put, List.setIfInBounds_toArray, List.set_cons_zero, List.set_cons_succ])) | (refine wpMix_take (v := ?_) (by rfl) (by rfl) (fun wS hSt => ?_) ?_; rotate_left; (focus ((try dsimp only at hSt); (go_simp <;> with_reducible rfl); done)); (try simp only [Act.put, List.setIfInBounds_toArray, List.set_cons_zero, List.set_cons_succ])))
        refine wpMix_nil ?_
        go_wp2_with fail
        go_ret2
        refine ⟨.inr ⟨g, A9, m6 + 1, c9, by rw [Hev.out]; exact Hg.out, rfl, ?_⟩, HB9.out⟩
        obtain ⟨vs', nd', q1, q2⟩ := Hown9.out
        rw [hl2.out]
        refine ⟨vs', nd', own_low q1 lb9, q2.1, fun j hj => ?_, q2.2.2⟩
        obtain ⟨q3, q4, A', m', c', q5, q6⟩ := q2.2.1 j hj
        exact ⟨q3, q4, A', m', c', q5, own_low q6 lb9⟩
end Go.Proofs.YtkcflajhmekcaaaGreat
