/- Walk: the draw of a cluster. -/
import Derived.Test.YtlcgbnmmbheleaaGreatV28
namespace Go.Proofs.YtlcgbnmmbheleaaGreat
open Go Go.RowKit
attribute [local go_sem ↓] Go.wp_at_zero Go.wp_at_succ

def DrawnCl (w w' : World) (g p : Nat) (e : Ending) : Prop := ∃ A1 m1 c1 A2 m2 c2 room us, e = .returned (.agg #[.slice A1 m1 c1, .slice A2 m2 c2]) ∧ (∀ u, KeepTU w' u → RdC u A1 A2 m1 m2 room us) ∧ ShU us ∧ m1 ≤ 3 ∧ m1 ≤ c1 ∧ m2 ≤ c2 ∧ OnlyG w w' g ∧ ∃ q, q ≤ p + 160 ∧ Rdr w' g q

set_option maxRecDepth 100000 in
set_option maxHeartbeats 6400000 in
theorem l92Cluster_any (g p : Nat) (w : World) (h : Rdr w g p) (hp : p ≤ 800000) :
    Calls Tryz.prog 16 #[.pointer (some ⟨g, 0, none⟩)] w (fun e w' => DrawnCl w w' g p e) := by
  obtain ⟨t0, ht0, htz0, htz1, htz2⟩ := info_parts task_info
  have lg := h.lt
  have Z1 := qh (Blk.new w 26 #[.slice none 0 0, .slice none 0 0])
  have O1 := qh ((OnlyG.refl w g).alloc (.cells #[.slice none 0 0, .slice none 0 0] 26))
  have R1 := qh (h.below (alloc_up w (.cells #[.slice none 0 0, .slice none 0 0] 26)))
  clear h
  go_enter Tryz.func16, Tryz.ntmps16
  go_wp2_with fail
  generalize w.alloc (.cells #[.slice none 0 0, .slice none 0 0] 26) = w1 at Z1 O1 R1 ⊢
  refine (l91Room_any g p w1 R1.out (by omega)).mono ?_; rintro e w2 ⟨b2, xs, rfl, hw2, hx3, _, o2, q2, hq2, r2⟩
  have Z2 := qh (o2.blk Z1.out (by omega))
  have O2 := qh (O1.out.trans o2)
  have R2 := qh r2
  have W2 := qh hw2
  have Hx3 := qh hx3
  have lw1 := Z1.out.lt
  clear o2 r2 hw2 hx3 Z1 O1 R1
  go_wp2_with fail
  refine (pick_at 7 R2.out rfl (by omega) (by omega) (by omega)).mono ?_; rintro e w3 ⟨r3, rfl, hr3, r3', o3⟩
  have Z3 := qh (o3.blk Z2.out (by omega))
  have O3 := qh (O2.out.trans o3)
  have R3 := qh r3'
  have W3 := qh (show OwI w3 w1.heap.size b2 xs from ⟨W2.out.1, o3.blk W2.out.2 (by have := W2.out.1; omega)⟩)
  have hx := W3.out.rd (by rw [Hx3.out]; omega)
  rw [Hx3.out] at hx
  have Hx := qh hx
  have v3 : IntKind.i64.wrap (1 + (r3 : Int)) = 1 + (r3 : Int) := wr64 (by omega) (by omega)
  clear o3 r3' hx Z2 O2 R2 W2 W3
  go_wp2_with fail
  refine (clusterNew_any (some ⟨b2, 0, none⟩) 3 3 xs (1 + (r3 : Int)) w3 Hx.out (by omega)).mono ?_; rintro e w4 ⟨A1, m1, c1, A2, m2, c2, rfl, hoc, hb4⟩
  have Hsh := qh (newP_sh xs (1 + (r3 : Int)))
  have lw4 : w.heap.size < w4.heap.size := by have := Z3.out.lt; have := hb4.size; omega
  have S5 := qh (show ClW w (w4.alloc (.cells #[.slice A1 m1 c1, .slice A2 m2 c2] 26)) g w.heap.size w4.heap.size (q2 + 1) A1 m1 c1 A2 m2 c2 (newP xs (1 + (r3 : Int))).1 (newP xs (1 + (r3 : Int))).2 from
    ⟨Blk.new w4 _ _, (Z3.out.below hb4 Z3.out.lt).alloc _, ((OwnCR.of hoc).low O3.out.size).keepTU (KeepTU.up (alloc_up w4 _)), (O3.out.below hb4).alloc _, (R3.out.below hb4).below (alloc_up w4 _), by omega, Nat.le_refl _, by omega, lg⟩)
  clear hoc hb4 Z3 O3 R3 Hx Hx3 v3
  go_wp2_with fail
  generalize w4.heap.size = C at S5 lw4 ⊢
  generalize w4.alloc (.cells #[.slice A1 m1 c1, .slice A2 m2 c2] 26) = w5 at S5 ⊢
  generalize (newP xs (1 + (r3 : Int))).1 = room at S5 Hsh
  generalize (newP xs (1 + (r3 : Int))).2 = us at S5 Hsh
  refine (pick_at 16 S5.out.r rfl (by omega) (by omega) (by omega)).mono ?_; rintro e w6 ⟨n, rfl, hn, r6, o6⟩
  have S6 := qh (S5.out.only o6 r6)
  clear o6 r6 S5
  go_wp2_with fail
  go_loopw [6] (fun i wr => ∃ k q A1 m1 c1 A2 m2 c2 room us, i = .int .i64 (k : Nat) ∧ k ≤ n ∧ q ≤ p + 8 + 9 * k ∧ ClW w wr g w.heap.size C q A1 m1 c1 A2 m2 c2 room us ∧ Sh 15 room us) (fun i _ => n - (intOf i).toNat)
  case atStart => exact ⟨0, _, _, _, _, _, _, _, _, _, rfl, Nat.zero_le _, by omega, S6.out, Hsh.out⟩
  case round =>
    clear S6 Hsh
    obtain ⟨k, q, A1, m1, c1, A2, m2, c2, room, us, rfl, hk, hq, hS, hsh⟩ := hrel
    have S0 := qh hS
    have Hsh := qh hsh
    clear hS hsh
    by_cases hlt : k < n
    · go_wp2_with fail
      refine (pick_at 6 S0.out.r rfl (by omega) (by omega) (by omega)).mono ?_; rintro e w7 ⟨r, rfl, hr, r7, o7⟩
      have S7 := qh ((S0.out.only o7 r7).drew)
      clear o7 r7 S0
      have lm := S7.out.len
      have lm1 : m1 ≤ 3 := by have := Hsh.out.room_le; omega
      by_cases h0 : r = 0
      · subst h0
        go_wp2_with fail
        refine wp_region_mix (.take 1 (.fork 0 (.bar 2 (.take 3 (.bar 4 (.take 5 (.take 6 (.take 7 (.bar 8 (.nil)))))))) 2 (.take 3 (.bar 0 (.bar 4 (.take 5 (.take 6 (.take 7 (.bar 8 (.nil)))))))))) (fun _ => True) (by kernel_rfl) (by kernel_rfl) trivial (fun _ => ?_)
        repeat ((first | refine mxS (by rfl) (by rfl) ?_ | (refine mxT (v := ?_) (by rfl) (by rfl) (fun z y => ?_) ?_; rotate_left; (focus ((try dsimp only at y); (go_simp <;> with_reducible rfl); done)))); (try simp only [Act.put,pS,pZ,pC]))
        refine wpMix_fork (by rfl) (by rfl) (fun K hK => ?_) (fun K hK => ?_)
        · have q0 := S7.out.cells.1
          have q1 := S7.out.cells.2.1
          go_simp
          clear q0 q1
          ((try dsimp only); refine nxK hK _ _ (trivial) ?_; clear hK K; (try simp only [Act.put,pS,pZ,pC]))
          (refine mxB (by rfl) (fun K hK => ?_); go_simp)
          refine (pick_at 12 S7.out.r rfl (by omega) (by omega) (by omega)).mono ?_; rintro e u21 ⟨ra, rfl, hra, v23, o22⟩
          have S24 := qh (S7.out.only o22 v23)
          clear o22 v23
          have va : IntKind.i64.wrap (1 + (ra : Int)) = 1 + (ra : Int) := wr64 (by omega) (by omega)
          ((try dsimp only); refine nxK hK _ _ (trivial) ?_; clear hK K; (try simp only [Act.put,pS,pZ,pC]))
          repeat ((first | refine mxS (by rfl) (by rfl) ?_ | (refine mxT (v := ?_) (by rfl) (by rfl) (fun z y => ?_) ?_; rotate_left; (focus ((try dsimp only at y); (go_simp <;> with_reducible rfl); done)))); (try simp only [Act.put,pS,pZ,pC]))
          (refine mxB (by rfl) (fun K hK => ?_); go_simp)
          refine (clusterDepart_any A1 A2 m1 c1 m2 c2 room us (1 + (ra : Int)) _ S24.out.oc.rd (Hsh.out.shU (by omega)) (by omega)).mono ?_; rintro e u25 ⟨B3, m3, d3, B4, m4, d4, rfl, OC28h, b26⟩
          have S27 := qh (S24.out.below b26)
          have OC28 := qh (OC28h.low S24.out.o.size)
          clear b26 OC28h
          ((try dsimp only); refine nxK hK _ _ (trivial) ?_; clear hK K; (try simp only [Act.put,pS,pZ,pC]))
          repeat ((first | refine mxS (by rfl) (by rfl) ?_ | (refine mxT (v := ?_) (by rfl) (by rfl) (fun z y => ?_) ?_; rotate_left; (focus ((try dsimp only at y); (go_simp <;> with_reducible rfl); done)))); (try simp only [Act.put,pS,pZ,pC]))
          have q0 := S27.out.cells.1
          have q1 := S27.out.cells.2.1
          have q2 := S27.out.cells.2.2.1
          have q3 := S27.out.cells.2.2.2
          (refine mxB (by rfl) (fun K hK => ?_); go_simp)
          have S29 := qh (S27.out.put OC28.out)
          clear q0 q1 q2 q3
          ((try dsimp only); refine nxK hK _ _ (trivial) ?_; clear hK K; (try simp only [Act.put,pS,pZ,pC]))
          generalize (u25.setCell ⟨C, 0, none⟩ (.slice B3 m3 d3)).setCell ⟨C, 1, none⟩ (.slice B4 m4 d4) = wz at S29 ⊢
          refine wpMix_nil ?_
          go_wp2_with fail
          go_roundw
          case rel => exact ⟨k + 1, _, _, _, _, _, _, _, _, _, by go_num, by omega, by omega, S29.out, depP_sh room us (1 + (ra : Int))⟩
          case measure => simp [intOf]; omega
        · go_simp
          refine (pick_at 12 S7.out.r rfl (by omega) (by omega) (by omega)).mono ?_; rintro e u30 ⟨ra, rfl, hra, v32, o31⟩
          have S33 := qh (S7.out.only o31 v32)
          clear o31 v32
          have va : IntKind.i64.wrap (1 + (ra : Int)) = 1 + (ra : Int) := wr64 (by omega) (by omega)
          ((try dsimp only); refine nxK hK _ _ (trivial) ?_; clear hK K; (try simp only [Act.put,pS,pZ,pC]))
          repeat ((first | refine mxS (by rfl) (by rfl) ?_ | (refine mxT (v := ?_) (by rfl) (by rfl) (fun z y => ?_) ?_; rotate_left; (focus ((try dsimp only at y); (go_simp <;> with_reducible rfl); done)))); (try simp only [Act.put,pS,pZ,pC]))
          have q0 := S33.out.cells.1
          have q1 := S33.out.cells.2.1
          (refine mxB (by rfl) (fun K hK => ?_); go_simp)
          clear q0 q1
          ((try dsimp only); refine nxK hK _ _ (trivial) ?_; clear hK K; (try simp only [Act.put,pS,pZ,pC]))
          (refine mxB (by rfl) (fun K hK => ?_); go_simp)
          refine (clusterDepart_any A1 A2 m1 c1 m2 c2 room us (1 + (ra : Int)) _ S33.out.oc.rd (Hsh.out.shU (by omega)) (by omega)).mono ?_; rintro e u34 ⟨B3, m3, d3, B4, m4, d4, rfl, OC37h, b35⟩
          have S36 := qh (S33.out.below b35)
          have OC37 := qh (OC37h.low S33.out.o.size)
          clear b35 OC37h
          ((try dsimp only); refine nxK hK _ _ (trivial) ?_; clear hK K; (try simp only [Act.put,pS,pZ,pC]))
          repeat ((first | refine mxS (by rfl) (by rfl) ?_ | (refine mxT (v := ?_) (by rfl) (by rfl) (fun z y => ?_) ?_; rotate_left; (focus ((try dsimp only at y); (go_simp <;> with_reducible rfl); done)))); (try simp only [Act.put,pS,pZ,pC]))
          have q0 := S36.out.cells.1
          have q1 := S36.out.cells.2.1
          have q2 := S36.out.cells.2.2.1
          have q3 := S36.out.cells.2.2.2
          (refine mxB (by rfl) (fun K hK => ?_); go_simp)
          have S38 := qh (S36.out.put OC37.out)
          clear q0 q1 q2 q3
          ((try dsimp only); refine nxK hK _ _ (trivial) ?_; clear hK K; (try simp only [Act.put,pS,pZ,pC]))
          generalize (u34.setCell ⟨C, 0, none⟩ (.slice B3 m3 d3)).setCell ⟨C, 1, none⟩ (.slice B4 m4 d4) = wz at S38 ⊢
          refine wpMix_nil ?_
          go_wp2_with fail
          go_roundw
          case rel => exact ⟨k + 1, _, _, _, _, _, _, _, _, _, by go_num, by omega, by omega, S38.out, depP_sh room us (1 + (ra : Int))⟩
          case measure => simp [intOf]; omega
      · have x0 : ((r : Int) == 0) = false := by simpa using h0
        by_cases h1 : r = 1
        · subst h1
          clear x0
          go_wp2_with fail
          refine wp_region_mix (.take 1 (.take 3 (.fork 0 (.bar 2 (.bar 4 (.take 5 (.bar 6 (.take 7 (.take 8 (.take 9 (.bar 10 (.nil))))))))) 2 (.fork 0 (.bar 4 (.take 5 (.bar 6 (.take 7 (.take 8 (.take 9 (.bar 10 (.nil)))))))) 4 (.take 5 (.bar 0 (.bar 6 (.take 7 (.take 8 (.take 9 (.bar 10 (.nil)))))))))))) (fun _ => True) (by kernel_rfl) (by kernel_rfl) trivial (fun _ => ?_)
          repeat ((first | refine mxS (by rfl) (by rfl) ?_ | (refine mxT (v := ?_) (by rfl) (by rfl) (fun z y => ?_) ?_; rotate_left; (focus ((try dsimp only at y); (go_simp <;> with_reducible rfl); done)))); (try simp only [Act.put,pS,pZ,pC]))
          refine wpMix_fork (by rfl) (by rfl) (fun K hK => ?_) (fun K hK => ?_)
          · have q0 := S7.out.cells.1
            have q1 := S7.out.cells.2.1
            go_simp
            clear q0 q1
            ((try dsimp only); refine nxK hK _ _ (trivial) ?_; clear hK K; (try simp only [Act.put,pS,pZ,pC]))
            (refine mxB (by rfl) (fun K hK => ?_); go_simp)
            refine (pick_at 7 S7.out.r rfl (by omega) (by omega) (by omega)).mono ?_; rintro e u39 ⟨ra, rfl, hra, v41, o40⟩
            have S42 := qh (S7.out.only o40 v41)
            clear o40 v41
            ((try dsimp only); refine nxK hK _ _ (trivial) ?_; clear hK K; (try simp only [Act.put,pS,pZ,pC]))
            (refine mxB (by rfl) (fun K hK => ?_); go_simp)
            refine (pick_at 3 S42.out.r rfl (by omega) (by omega) (by omega)).mono ?_; rintro e u43 ⟨rb, rfl, hrb, v45, o44⟩
            have S46 := qh (S42.out.only o44 v45)
            clear o44 v45
            ((try dsimp only); refine nxK hK _ _ (trivial) ?_; clear hK K; (try simp only [Act.put,pS,pZ,pC]))
            repeat ((first | refine mxS (by rfl) (by rfl) ?_ | (refine mxT (v := ?_) (by rfl) (by rfl) (fun z y => ?_) ?_; rotate_left; (focus ((try dsimp only at y); (go_simp <;> with_reducible rfl); done)))); (try simp only [Act.put,pS,pZ,pC]))
            (refine mxB (by rfl) (fun K hK => ?_); go_simp)
            refine (clusterOpen_any A1 A2 m1 c1 m2 c2 room us (ra : Int) _ _ S46.out.oc.rd (Hsh.out.shU (by omega)) (by omega)).mono ?_; rintro e u47 ⟨B3, m3, d3, B4, m4, d4, rfl, OC50h, b48⟩
            have S49 := qh (S46.out.below b48)
            have OC50 := qh (OC50h.low S46.out.o.size)
            clear b48 OC50h
            ((try dsimp only); refine nxK hK _ _ (trivial) ?_; clear hK K; (try simp only [Act.put,pS,pZ,pC]))
            repeat ((first | refine mxS (by rfl) (by rfl) ?_ | (refine mxT (v := ?_) (by rfl) (by rfl) (fun z y => ?_) ?_; rotate_left; (focus ((try dsimp only at y); (go_simp <;> with_reducible rfl); done)))); (try simp only [Act.put,pS,pZ,pC]))
            have q0 := S49.out.cells.1
            have q1 := S49.out.cells.2.1
            have q2 := S49.out.cells.2.2.1
            have q3 := S49.out.cells.2.2.2
            (refine mxB (by rfl) (fun K hK => ?_); go_simp)
            have S51 := qh (S49.out.put OC50.out)
            clear q0 q1 q2 q3
            ((try dsimp only); refine nxK hK _ _ (trivial) ?_; clear hK K; (try simp only [Act.put,pS,pZ,pC]))
            generalize (u47.setCell ⟨C, 0, none⟩ (.slice B3 m3 d3)).setCell ⟨C, 1, none⟩ (.slice B4 m4 d4) = wz at S51 ⊢
            refine wpMix_nil ?_
            go_wp2_with fail
            go_roundw
            case rel => exact ⟨k + 1, _, _, _, _, _, _, _, _, _, by go_num, by omega, by omega, S51.out, opnP_sh room us (ra : Int) _⟩
            case measure => simp [intOf]; omega
          · go_simp
            refine (pick_at 7 S7.out.r rfl (by omega) (by omega) (by omega)).mono ?_; rintro e u52 ⟨ra, rfl, hra, v54, o53⟩
            have S55 := qh (S7.out.only o53 v54)
            clear o53 v54
            ((try dsimp only); refine nxK hK _ _ (trivial) ?_; clear hK K; (try simp only [Act.put,pS,pZ,pC]))
            refine wpMix_fork (by rfl) (by rfl) (fun K hK => ?_) (fun K hK => ?_)
            · have q0 := S55.out.cells.1
              have q1 := S55.out.cells.2.1
              go_simp
              clear q0 q1
              ((try dsimp only); refine nxK hK _ _ (trivial) ?_; clear hK K; (try simp only [Act.put,pS,pZ,pC]))
              (refine mxB (by rfl) (fun K hK => ?_); go_simp)
              refine (pick_at 3 S55.out.r rfl (by omega) (by omega) (by omega)).mono ?_; rintro e u56 ⟨rb, rfl, hrb, v58, o57⟩
              have S59 := qh (S55.out.only o57 v58)
              clear o57 v58
              ((try dsimp only); refine nxK hK _ _ (trivial) ?_; clear hK K; (try simp only [Act.put,pS,pZ,pC]))
              repeat ((first | refine mxS (by rfl) (by rfl) ?_ | (refine mxT (v := ?_) (by rfl) (by rfl) (fun z y => ?_) ?_; rotate_left; (focus ((try dsimp only at y); (go_simp <;> with_reducible rfl); done)))); (try simp only [Act.put,pS,pZ,pC]))
              (refine mxB (by rfl) (fun K hK => ?_); go_simp)
              refine (clusterOpen_any A1 A2 m1 c1 m2 c2 room us (ra : Int) _ _ S59.out.oc.rd (Hsh.out.shU (by omega)) (by omega)).mono ?_; rintro e u60 ⟨B3, m3, d3, B4, m4, d4, rfl, OC63h, b61⟩
              have S62 := qh (S59.out.below b61)
              have OC63 := qh (OC63h.low S59.out.o.size)
              clear b61 OC63h
              ((try dsimp only); refine nxK hK _ _ (trivial) ?_; clear hK K; (try simp only [Act.put,pS,pZ,pC]))
              repeat ((first | refine mxS (by rfl) (by rfl) ?_ | (refine mxT (v := ?_) (by rfl) (by rfl) (fun z y => ?_) ?_; rotate_left; (focus ((try dsimp only at y); (go_simp <;> with_reducible rfl); done)))); (try simp only [Act.put,pS,pZ,pC]))
              have q0 := S62.out.cells.1
              have q1 := S62.out.cells.2.1
              have q2 := S62.out.cells.2.2.1
              have q3 := S62.out.cells.2.2.2
              (refine mxB (by rfl) (fun K hK => ?_); go_simp)
              have S64 := qh (S62.out.put OC63.out)
              clear q0 q1 q2 q3
              ((try dsimp only); refine nxK hK _ _ (trivial) ?_; clear hK K; (try simp only [Act.put,pS,pZ,pC]))
              generalize (u60.setCell ⟨C, 0, none⟩ (.slice B3 m3 d3)).setCell ⟨C, 1, none⟩ (.slice B4 m4 d4) = wz at S64 ⊢
              refine wpMix_nil ?_
              go_wp2_with fail
              go_roundw
              case rel => exact ⟨k + 1, _, _, _, _, _, _, _, _, _, by go_num, by omega, by omega, S64.out, opnP_sh room us (ra : Int) _⟩
              case measure => simp [intOf]; omega
            · go_simp
              refine (pick_at 3 S55.out.r rfl (by omega) (by omega) (by omega)).mono ?_; rintro e u65 ⟨rb, rfl, hrb, v67, o66⟩
              have S68 := qh (S55.out.only o66 v67)
              clear o66 v67
              ((try dsimp only); refine nxK hK _ _ (trivial) ?_; clear hK K; (try simp only [Act.put,pS,pZ,pC]))
              repeat ((first | refine mxS (by rfl) (by rfl) ?_ | (refine mxT (v := ?_) (by rfl) (by rfl) (fun z y => ?_) ?_; rotate_left; (focus ((try dsimp only at y); (go_simp <;> with_reducible rfl); done)))); (try simp only [Act.put,pS,pZ,pC]))
              have q0 := S68.out.cells.1
              have q1 := S68.out.cells.2.1
              (refine mxB (by rfl) (fun K hK => ?_); go_simp)
              clear q0 q1
              ((try dsimp only); refine nxK hK _ _ (trivial) ?_; clear hK K; (try simp only [Act.put,pS,pZ,pC]))
              (refine mxB (by rfl) (fun K hK => ?_); go_simp)
              refine (clusterOpen_any A1 A2 m1 c1 m2 c2 room us (ra : Int) _ _ S68.out.oc.rd (Hsh.out.shU (by omega)) (by omega)).mono ?_; rintro e u69 ⟨B3, m3, d3, B4, m4, d4, rfl, OC72h, b70⟩
              have S71 := qh (S68.out.below b70)
              have OC72 := qh (OC72h.low S68.out.o.size)
              clear b70 OC72h
              ((try dsimp only); refine nxK hK _ _ (trivial) ?_; clear hK K; (try simp only [Act.put,pS,pZ,pC]))
              repeat ((first | refine mxS (by rfl) (by rfl) ?_ | (refine mxT (v := ?_) (by rfl) (by rfl) (fun z y => ?_) ?_; rotate_left; (focus ((try dsimp only at y); (go_simp <;> with_reducible rfl); done)))); (try simp only [Act.put,pS,pZ,pC]))
              have q0 := S71.out.cells.1
              have q1 := S71.out.cells.2.1
              have q2 := S71.out.cells.2.2.1
              have q3 := S71.out.cells.2.2.2
              (refine mxB (by rfl) (fun K hK => ?_); go_simp)
              have S73 := qh (S71.out.put OC72.out)
              clear q0 q1 q2 q3
              ((try dsimp only); refine nxK hK _ _ (trivial) ?_; clear hK K; (try simp only [Act.put,pS,pZ,pC]))
              generalize (u69.setCell ⟨C, 0, none⟩ (.slice B3 m3 d3)).setCell ⟨C, 1, none⟩ (.slice B4 m4 d4) = wz at S73 ⊢
              refine wpMix_nil ?_
              go_wp2_with fail
              go_roundw
              case rel => exact ⟨k + 1, _, _, _, _, _, _, _, _, _, by go_num, by omega, by omega, S73.out, opnP_sh room us (ra : Int) _⟩
              case measure => simp [intOf]; omega
        · have x1 : ((r : Int) == 1) = false := by simpa using (show ¬ (r : Int) = 1 by omega)
          go_wp2_with fail
          refine wp_region_mix (.take 1 (.take 2 (.take 6 (.fork 0 (.bar 3 (.take 4 (.bar 5 (.bar 7 (.take 8 (.bar 9 (.take 10 (.take 11 (.take 12 (.bar 13 (.nil))))))))))) 3 (.take 4 (.fork 0 (.bar 5 (.bar 7 (.take 8 (.bar 9 (.take 10 (.take 11 (.take 12 (.bar 13 (.nil))))))))) 5 (.fork 0 (.bar 7 (.take 8 (.bar 9 (.take 10 (.take 11 (.take 12 (.bar 13 (.nil)))))))) 7 (.take 8 (.bar 0 (.bar 9 (.take 10 (.take 11 (.take 12 (.bar 13 (.nil))))))))))))))) (fun _ => True) (by kernel_rfl) (by kernel_rfl) trivial (fun _ => ?_)
          repeat ((first | refine mxS (by rfl) (by rfl) ?_ | (refine mxT (v := ?_) (by rfl) (by rfl) (fun z y => ?_) ?_; rotate_left; (focus ((try dsimp only at y); (go_simp <;> with_reducible rfl); done)))); (try simp only [Act.put,pS,pZ,pC]))
          refine wpMix_fork (by rfl) (by rfl) (fun K hK => ?_) (fun K hK => ?_)
          · have q0 := S7.out.cells.1
            have q1 := S7.out.cells.2.1
            go_simp
            clear q0 q1
            ((try dsimp only); refine nxK hK _ _ (trivial) ?_; clear hK K; (try simp only [Act.put,pS,pZ,pC]))
            (refine mxB (by rfl) (fun K hK => ?_); go_simp)
            refine (pick_at 14 S7.out.r rfl (by omega) (by omega) (by omega)).mono ?_; rintro e u74 ⟨ra, rfl, hra, v76, o75⟩
            have S77 := qh (S7.out.only o75 v76)
            clear o75 v76
            have va : IntKind.i64.wrap (1 + (ra : Int)) = 1 + (ra : Int) := wr64 (by omega) (by omega)
            ((try dsimp only); refine nxK hK _ _ (trivial) ?_; clear hK K; (try simp only [Act.put,pS,pZ,pC]))
            repeat ((first | refine mxS (by rfl) (by rfl) ?_ | (refine mxT (v := ?_) (by rfl) (by rfl) (fun z y => ?_) ?_; rotate_left; (focus ((try dsimp only at y); (go_simp <;> with_reducible rfl); done)))); (try simp only [Act.put,pS,pZ,pC]))
            (refine mxB (by rfl) (fun K hK => ?_); go_simp)
            refine (l91Task_any g _ (1 + (ra : Int)) _ S77.out.r (by omega)).mono ?_; rintro e u78 ⟨b83, xs84, rfl, X82w, X82l, _, o79, q85, hq85, v80⟩
            have S81 := qh (S77.out.only o79 v80)
            have X82 := qh X82w
            have X82L := qh X82l
            clear o79 v80 X82w X82l
            ((try dsimp only); refine nxK hK _ _ (trivial) ?_; clear hK K; (try simp only [Act.put,pS,pZ,pC]))
            (refine mxB (by rfl) (fun K hK => ?_); go_simp)
            refine (pick_at 3 S81.out.r rfl (by omega) (by omega) (by omega)).mono ?_; rintro e u86 ⟨rb, rfl, hrb, v88, o87⟩
            have S89 := qh (S81.out.only o87 v88)
            have X82' := qh (show OwI u86 _ b83 xs84 from ⟨X82.out.1, o87.blk X82.out.2 (by have := X82.out.1; have := S77.out.r.lt; omega)⟩)
            clear o87 v88
            ((try dsimp only); refine nxK hK _ _ (trivial) ?_; clear hK K; (try simp only [Act.put,pS,pZ,pC]))
            repeat ((first | refine mxS (by rfl) (by rfl) ?_ | (refine mxT (v := ?_) (by rfl) (by rfl) (fun z y => ?_) ?_; rotate_left; (focus ((try dsimp only at y); (go_simp <;> with_reducible rfl); done)))); (try simp only [Act.put,pS,pZ,pC]))
            have HX := X82'.out.rd (by rw [X82L.out]; omega)
            rw [X82L.out] at HX
            have HXh := qh HX
            clear HX
            (refine mxB (by rfl) (fun K hK => ?_); go_simp)
            refine (clusterArrive_any A1 A2 _ m1 c1 m2 c2 3 3 room us (1 + (ra : Int)) xs84 _ _ S89.out.oc.rd (Hsh.out.shU (by omega)) (by omega) HXh.out (Nat.le_refl 3)).mono ?_; rintro e u90 ⟨B3, m3, d3, B4, m4, d4, rfl, OC93h, b91⟩
            have S92 := qh (S89.out.below b91)
            have OC93 := qh (OC93h.low S89.out.o.size)
            clear b91 OC93h
            ((try dsimp only); refine nxK hK _ _ (trivial) ?_; clear hK K; (try simp only [Act.put,pS,pZ,pC]))
            repeat ((first | refine mxS (by rfl) (by rfl) ?_ | (refine mxT (v := ?_) (by rfl) (by rfl) (fun z y => ?_) ?_; rotate_left; (focus ((try dsimp only at y); (go_simp <;> with_reducible rfl); done)))); (try simp only [Act.put,pS,pZ,pC]))
            have q0 := S92.out.cells.1
            have q1 := S92.out.cells.2.1
            have q2 := S92.out.cells.2.2.1
            have q3 := S92.out.cells.2.2.2
            (refine mxB (by rfl) (fun K hK => ?_); go_simp)
            have S94 := qh (S92.out.put OC93.out)
            clear q0 q1 q2 q3
            ((try dsimp only); refine nxK hK _ _ (trivial) ?_; clear hK K; (try simp only [Act.put,pS,pZ,pC]))
            generalize (u90.setCell ⟨C, 0, none⟩ (.slice B3 m3 d3)).setCell ⟨C, 1, none⟩ (.slice B4 m4 d4) = wz at S94 ⊢
            refine wpMix_nil ?_
            go_wp2_with fail
            go_roundw
            case rel => exact ⟨k + 1, _, _, _, _, _, _, _, _, _, by go_num, by omega, by omega, S94.out, cavP_sh room us (1 + (ra : Int)) xs84 _⟩
            case measure => simp [intOf]; omega
          · go_simp
            refine (pick_at 14 S7.out.r rfl (by omega) (by omega) (by omega)).mono ?_; rintro e u95 ⟨ra, rfl, hra, v97, o96⟩
            have S98 := qh (S7.out.only o96 v97)
            clear o96 v97
            have va : IntKind.i64.wrap (1 + (ra : Int)) = 1 + (ra : Int) := wr64 (by omega) (by omega)
            ((try dsimp only); refine nxK hK _ _ (trivial) ?_; clear hK K; (try simp only [Act.put,pS,pZ,pC]))
            repeat ((first | refine mxS (by rfl) (by rfl) ?_ | (refine mxT (v := ?_) (by rfl) (by rfl) (fun z y => ?_) ?_; rotate_left; (focus ((try dsimp only at y); (go_simp <;> with_reducible rfl); done)))); (try simp only [Act.put,pS,pZ,pC]))
            refine wpMix_fork (by rfl) (by rfl) (fun K hK => ?_) (fun K hK => ?_)
            · have q0 := S98.out.cells.1
              have q1 := S98.out.cells.2.1
              go_simp
              clear q0 q1
              ((try dsimp only); refine nxK hK _ _ (trivial) ?_; clear hK K; (try simp only [Act.put,pS,pZ,pC]))
              (refine mxB (by rfl) (fun K hK => ?_); go_simp)
              refine (l91Task_any g _ (1 + (ra : Int)) _ S98.out.r (by omega)).mono ?_; rintro e u99 ⟨b104, xs105, rfl, X103w, X103l, _, o100, q106, hq106, v101⟩
              have S102 := qh (S98.out.only o100 v101)
              have X103 := qh X103w
              have X103L := qh X103l
              clear o100 v101 X103w X103l
              ((try dsimp only); refine nxK hK _ _ (trivial) ?_; clear hK K; (try simp only [Act.put,pS,pZ,pC]))
              (refine mxB (by rfl) (fun K hK => ?_); go_simp)
              refine (pick_at 3 S102.out.r rfl (by omega) (by omega) (by omega)).mono ?_; rintro e u107 ⟨rb, rfl, hrb, v109, o108⟩
              have S110 := qh (S102.out.only o108 v109)
              have X103' := qh (show OwI u107 _ b104 xs105 from ⟨X103.out.1, o108.blk X103.out.2 (by have := X103.out.1; have := S98.out.r.lt; omega)⟩)
              clear o108 v109
              ((try dsimp only); refine nxK hK _ _ (trivial) ?_; clear hK K; (try simp only [Act.put,pS,pZ,pC]))
              repeat ((first | refine mxS (by rfl) (by rfl) ?_ | (refine mxT (v := ?_) (by rfl) (by rfl) (fun z y => ?_) ?_; rotate_left; (focus ((try dsimp only at y); (go_simp <;> with_reducible rfl); done)))); (try simp only [Act.put,pS,pZ,pC]))
              have HX := X103'.out.rd (by rw [X103L.out]; omega)
              rw [X103L.out] at HX
              have HXh := qh HX
              clear HX
              (refine mxB (by rfl) (fun K hK => ?_); go_simp)
              refine (clusterArrive_any A1 A2 _ m1 c1 m2 c2 3 3 room us (1 + (ra : Int)) xs105 _ _ S110.out.oc.rd (Hsh.out.shU (by omega)) (by omega) HXh.out (Nat.le_refl 3)).mono ?_; rintro e u111 ⟨B3, m3, d3, B4, m4, d4, rfl, OC114h, b112⟩
              have S113 := qh (S110.out.below b112)
              have OC114 := qh (OC114h.low S110.out.o.size)
              clear b112 OC114h
              ((try dsimp only); refine nxK hK _ _ (trivial) ?_; clear hK K; (try simp only [Act.put,pS,pZ,pC]))
              repeat ((first | refine mxS (by rfl) (by rfl) ?_ | (refine mxT (v := ?_) (by rfl) (by rfl) (fun z y => ?_) ?_; rotate_left; (focus ((try dsimp only at y); (go_simp <;> with_reducible rfl); done)))); (try simp only [Act.put,pS,pZ,pC]))
              have q0 := S113.out.cells.1
              have q1 := S113.out.cells.2.1
              have q2 := S113.out.cells.2.2.1
              have q3 := S113.out.cells.2.2.2
              (refine mxB (by rfl) (fun K hK => ?_); go_simp)
              have S115 := qh (S113.out.put OC114.out)
              clear q0 q1 q2 q3
              ((try dsimp only); refine nxK hK _ _ (trivial) ?_; clear hK K; (try simp only [Act.put,pS,pZ,pC]))
              generalize (u111.setCell ⟨C, 0, none⟩ (.slice B3 m3 d3)).setCell ⟨C, 1, none⟩ (.slice B4 m4 d4) = wz at S115 ⊢
              refine wpMix_nil ?_
              go_wp2_with fail
              go_roundw
              case rel => exact ⟨k + 1, _, _, _, _, _, _, _, _, _, by go_num, by omega, by omega, S115.out, cavP_sh room us (1 + (ra : Int)) xs105 _⟩
              case measure => simp [intOf]; omega
            · go_simp
              refine (l91Task_any g _ (1 + (ra : Int)) _ S98.out.r (by omega)).mono ?_; rintro e u116 ⟨b121, xs122, rfl, X120w, X120l, _, o117, q123, hq123, v118⟩
              have S119 := qh (S98.out.only o117 v118)
              have X120 := qh X120w
              have X120L := qh X120l
              clear o117 v118 X120w X120l
              ((try dsimp only); refine nxK hK _ _ (trivial) ?_; clear hK K; (try simp only [Act.put,pS,pZ,pC]))
              refine wpMix_fork (by rfl) (by rfl) (fun K hK => ?_) (fun K hK => ?_)
              · have q0 := S119.out.cells.1
                have q1 := S119.out.cells.2.1
                go_simp
                clear q0 q1
                ((try dsimp only); refine nxK hK _ _ (trivial) ?_; clear hK K; (try simp only [Act.put,pS,pZ,pC]))
                (refine mxB (by rfl) (fun K hK => ?_); go_simp)
                refine (pick_at 3 S119.out.r rfl (by omega) (by omega) (by omega)).mono ?_; rintro e u124 ⟨rb, rfl, hrb, v126, o125⟩
                have S127 := qh (S119.out.only o125 v126)
                have X120' := qh (show OwI u124 _ b121 xs122 from ⟨X120.out.1, o125.blk X120.out.2 (by have := X120.out.1; have := S98.out.r.lt; omega)⟩)
                clear o125 v126
                ((try dsimp only); refine nxK hK _ _ (trivial) ?_; clear hK K; (try simp only [Act.put,pS,pZ,pC]))
                repeat ((first | refine mxS (by rfl) (by rfl) ?_ | (refine mxT (v := ?_) (by rfl) (by rfl) (fun z y => ?_) ?_; rotate_left; (focus ((try dsimp only at y); (go_simp <;> with_reducible rfl); done)))); (try simp only [Act.put,pS,pZ,pC]))
                have HX := X120'.out.rd (by rw [X120L.out]; omega)
                rw [X120L.out] at HX
                have HXh := qh HX
                clear HX
                (refine mxB (by rfl) (fun K hK => ?_); go_simp)
                refine (clusterArrive_any A1 A2 _ m1 c1 m2 c2 3 3 room us (1 + (ra : Int)) xs122 _ _ S127.out.oc.rd (Hsh.out.shU (by omega)) (by omega) HXh.out (Nat.le_refl 3)).mono ?_; rintro e u128 ⟨B3, m3, d3, B4, m4, d4, rfl, OC131h, b129⟩
                have S130 := qh (S127.out.below b129)
                have OC131 := qh (OC131h.low S127.out.o.size)
                clear b129 OC131h
                ((try dsimp only); refine nxK hK _ _ (trivial) ?_; clear hK K; (try simp only [Act.put,pS,pZ,pC]))
                repeat ((first | refine mxS (by rfl) (by rfl) ?_ | (refine mxT (v := ?_) (by rfl) (by rfl) (fun z y => ?_) ?_; rotate_left; (focus ((try dsimp only at y); (go_simp <;> with_reducible rfl); done)))); (try simp only [Act.put,pS,pZ,pC]))
                have q0 := S130.out.cells.1
                have q1 := S130.out.cells.2.1
                have q2 := S130.out.cells.2.2.1
                have q3 := S130.out.cells.2.2.2
                (refine mxB (by rfl) (fun K hK => ?_); go_simp)
                have S132 := qh (S130.out.put OC131.out)
                clear q0 q1 q2 q3
                ((try dsimp only); refine nxK hK _ _ (trivial) ?_; clear hK K; (try simp only [Act.put,pS,pZ,pC]))
                generalize (u128.setCell ⟨C, 0, none⟩ (.slice B3 m3 d3)).setCell ⟨C, 1, none⟩ (.slice B4 m4 d4) = wz at S132 ⊢
                refine wpMix_nil ?_
                go_wp2_with fail
                go_roundw
                case rel => exact ⟨k + 1, _, _, _, _, _, _, _, _, _, by go_num, by omega, by omega, S132.out, cavP_sh room us (1 + (ra : Int)) xs122 _⟩
                case measure => simp [intOf]; omega
              · go_simp
                refine (pick_at 3 S119.out.r rfl (by omega) (by omega) (by omega)).mono ?_; rintro e u133 ⟨rb, rfl, hrb, v135, o134⟩
                have S136 := qh (S119.out.only o134 v135)
                have X120' := qh (show OwI u133 _ b121 xs122 from ⟨X120.out.1, o134.blk X120.out.2 (by have := X120.out.1; have := S98.out.r.lt; omega)⟩)
                clear o134 v135
                ((try dsimp only); refine nxK hK _ _ (trivial) ?_; clear hK K; (try simp only [Act.put,pS,pZ,pC]))
                repeat ((first | refine mxS (by rfl) (by rfl) ?_ | (refine mxT (v := ?_) (by rfl) (by rfl) (fun z y => ?_) ?_; rotate_left; (focus ((try dsimp only at y); (go_simp <;> with_reducible rfl); done)))); (try simp only [Act.put,pS,pZ,pC]))
                have q0 := S136.out.cells.1
                have q1 := S136.out.cells.2.1
                (refine mxB (by rfl) (fun K hK => ?_); go_simp)
                clear q0 q1
                ((try dsimp only); refine nxK hK _ _ (trivial) ?_; clear hK K; (try simp only [Act.put,pS,pZ,pC]))
                have HX := X120'.out.rd (by rw [X120L.out]; omega)
                rw [X120L.out] at HX
                have HXh := qh HX
                clear HX
                (refine mxB (by rfl) (fun K hK => ?_); go_simp)
                refine (clusterArrive_any A1 A2 _ m1 c1 m2 c2 3 3 room us (1 + (ra : Int)) xs122 _ _ S136.out.oc.rd (Hsh.out.shU (by omega)) (by omega) HXh.out (Nat.le_refl 3)).mono ?_; rintro e u137 ⟨B3, m3, d3, B4, m4, d4, rfl, OC140h, b138⟩
                have S139 := qh (S136.out.below b138)
                have OC140 := qh (OC140h.low S136.out.o.size)
                clear b138 OC140h
                ((try dsimp only); refine nxK hK _ _ (trivial) ?_; clear hK K; (try simp only [Act.put,pS,pZ,pC]))
                repeat ((first | refine mxS (by rfl) (by rfl) ?_ | (refine mxT (v := ?_) (by rfl) (by rfl) (fun z y => ?_) ?_; rotate_left; (focus ((try dsimp only at y); (go_simp <;> with_reducible rfl); done)))); (try simp only [Act.put,pS,pZ,pC]))
                have q0 := S139.out.cells.1
                have q1 := S139.out.cells.2.1
                have q2 := S139.out.cells.2.2.1
                have q3 := S139.out.cells.2.2.2
                (refine mxB (by rfl) (fun K hK => ?_); go_simp)
                have S141 := qh (S139.out.put OC140.out)
                clear q0 q1 q2 q3
                ((try dsimp only); refine nxK hK _ _ (trivial) ?_; clear hK K; (try simp only [Act.put,pS,pZ,pC]))
                generalize (u137.setCell ⟨C, 0, none⟩ (.slice B3 m3 d3)).setCell ⟨C, 1, none⟩ (.slice B4 m4 d4) = wz at S141 ⊢
                refine wpMix_nil ?_
                go_wp2_with fail
                go_roundw
                case rel => exact ⟨k + 1, _, _, _, _, _, _, _, _, _, by go_num, by omega, by omega, S141.out, cavP_sh room us (1 + (ra : Int)) xs122 _⟩
                case measure => simp [intOf]; omega
    · have hq' : q ≤ p + 143 := by omega
      have q0 := S0.out.cells.1
      have q1 := S0.out.cells.2.1
      by_cases hm : 0 < m2
      · go_wp2_with fail
        refine (pick_at m2 S0.out.r rfl (by omega) (by omega) (by have := Hsh.out.2.1; have := S0.out.len; omega)).mono ?_; rintro e wb ⟨k, rfl, hkl, rb, ob⟩
        have Sb := qh (S0.out.only ob rb)
        clear rb ob S0 q0 q1
        go_wp2_with fail
        refine (pick_at 40 Sb.out.r rfl (by omega) (by omega) (by omega)).mono ?_; rintro e wc ⟨r, rfl, hr, rc, oc⟩
        have Sc := qh (Sb.out.only oc rc)
        clear rc oc Sb
        have k1 : (0 : Int) ≤ (k : Int) := by omega
        have k2 : (k : Int) < (m2 : Int) := by omega
        have k3 : 0 ≤ (k : Int) * 2 := by omega
        by_cases h0 : r = 0
        · subst h0
          have S8 := qh Sc.out.drew
          clear Sc
          go_wp2_with fail
          obtain ⟨gu, vs, tk, rfl, hr, hU, hN, hgu1, hgu2, hne, hnz, u1, u2, f1, f2, cs, hbU⟩ := S8.out.row hkl
          have S9 := qh (ClW.setU (v := .bool (!(us[k]?.getD (false, [])).1)) S8.out.c S8.out.z S8.out.o S8.out.r S8.out.lc S8.out.lz S8.out.ne S8.out.lg hbU hgu1 hne hnz hr hU (hN.open_ hkl))
          have K0 := S8.out.cells.2.1
          have KC := qh S9.out.cells.2.1
          clear hr hU hN hbU u2 f2
          generalize (us[k]?.getD (false, [])).1 = uo at S9 KC u1
          refine wp_region_mix (.take 0 (.take 1 (.take 2 (.take 3 (.take 4 (.take 5 (.take 6 (.take 7 (.bar 8 (.take 9 (.take 10 (.take 11 (.bar 12 .nil))))))))))))) (fun w' => w'.cell? ⟨C, 1, none⟩ = some (.slice (some ⟨gu, 0, none⟩) m2 c2)) (by kernel_rfl) (by kernel_rfl) K0 (fun _ => ?_)
          repeat ((first | refine mxS (by rfl) (by rfl) ?_ | (refine mxT (v := ?_) (by rfl) (by rfl) (fun z y => ?_) ?_; rotate_left; (focus ((try dsimp only at y); (go_simp <;> with_reducible rfl); done)))); (try simp only [Act.put,pS,pZ,pC]))
          generalize wc.drew = wd at S8 S9 KC u1 f1 K0 ⊢
          (refine mxB (by rfl) (fun K hK => ?_); go_simp)
          ((try dsimp only); refine nxK hK _ _ (K0) ?_; clear hK K; (try simp only [Act.put,pS,pZ,pC]))
          repeat ((first | refine mxS (by rfl) (by rfl) ?_ | (refine mxT (v := ?_) (by rfl) (by rfl) (fun z y => ?_) ?_; rotate_left; (focus ((try dsimp only at y); (go_simp <;> with_reducible rfl); done)))); (try simp only [Act.put,pS,pZ,pC]))
          (refine mxB (by rfl) (fun K hK => ?_); go_simp)
          ((try dsimp only); refine nxK hK _ _ (KC.out) ?_; clear hK K; (try simp only [Act.put,pS,pZ,pC]))
          refine wpMix_nil ?_
          clear u1 f1 K0 KC S8
          generalize wd.setCell ⟨gu, k * 2, none⟩ (.bool (!uo)) = we at S9 ⊢
          have Hs9 := qh (Hsh.out.set_ (op := !uo) k (Hsh.out.at_ k))
          have x0 := S9.out.z.cell 0
          have x1 := S9.out.z.cell 1
          have x2 := S9.out.z.frozen 0
          have x3 := S9.out.z.frozen 1
          have p0 := S9.out.cells.1
          have p1 := S9.out.cells.2.1
          simp only [gT, gZ, gS] at x0 x1
          go_wp2_with fail
          have KT := (KeepTU.set_ S9.out.z (by decide) (by decide) (by decide) 0 (.slice A1 m1 c1)).trans (KeepTU.set_ (S9.out.z.set_ 0 (.slice A1 m1 c1)) (by decide) (by decide) (by decide) 1 (.slice (some ⟨gu, 0, none⟩) m2 c2))
          have EQ := qh ((S9.out.z.set_ 0 (.slice A1 m1 c1)).set_ 1 (.slice (some ⟨gu, 0, none⟩) m2 c2))
          have OC := qh (S9.out.oc.keepTU KT)
          have O9 := qh ((S9.out.o.set_new (p := ⟨w.heap.size, 0, none⟩) (Nat.le_refl _) (.slice A1 m1 c1)).set_new (p := ⟨w.heap.size, 1, none⟩) (Nat.le_refl _) (.slice (some ⟨gu, 0, none⟩) m2 c2))
          have R9 := qh ((S9.out.r.keep (fun b hb => Below.heap_setCell _ ⟨w.heap.size, 0, none⟩ (.slice A1 m1 c1) _ (by show b ≠ w.heap.size; omega))).keep (fun b hb => Below.heap_setCell _ ⟨w.heap.size, 1, none⟩ (.slice (some ⟨gu, 0, none⟩) m2 c2) _ (by show b ≠ w.heap.size; omega)))
          clear KT
          generalize World.setCell (World.setCell we ⟨w.heap.size, 0, none⟩ (.slice A1 m1 c1)) ⟨w.heap.size, 1, none⟩ (.slice (some ⟨gu, 0, none⟩) m2 c2) = w9 at EQ OC O9 R9 ⊢
          have z0 : w9.cell? ⟨w.heap.size, 0, none⟩ = some (.slice A1 m1 c1) := EQ.out.cell 0
          have z1 : w9.cell? ⟨w.heap.size, 1, none⟩ = some (.slice (some ⟨gu, 0, none⟩) m2 c2) := EQ.out.cell 1
          have lr := (Hs9.out).room_le
          have ll := OC.out.len
          refine bodyPost_ret (v := .agg #[(.slice A1 m1 c1), (.slice (some ⟨gu, 0, none⟩) m2 c2)]) (by simp [results, Tryz.results16, go_sem, z0, z1]) rfl (by unfold DrawnCl; exact ⟨_, _, _, _, _, _, _, _, rfl, fun u hk => (OC.out.keepTU hk).rd, (Hs9.out).shU (by omega), by omega, ll.2.2.1, ll.2.2.2, O9.out, _, by omega, R9.out⟩)
        · have x0 : ((r : Int) == 0) = false := by simpa using h0
          by_cases h1 : r = 1
          · subst h1
            clear x0
            have S8 := qh Sc.out.drew
            clear Sc
            go_wp2_with fail
            obtain ⟨gu, vs, tk, rfl, hr, hU, hN, hgu1, hgu2, hne, hnz, u1, u2, f1, f2, cs, hbU⟩ := S8.out.row hkl
            obtain ⟨_, _, At, mt, ct, vt, e3, e4, e5⟩ := hN.2.2.1 k hkl
            have hlt : mt ≤ 15 := by have := (Hsh.out.at_ k).1; have := e5.1; omega
            have HL8 := u2
            rw [e3] at HL8
            have Htk := qh e3
            have M8 := qh hr
            have U8 := qh hU
            have N8 := qh hN
            have R8 := qh e4
            have V8 := qh e5
            have O8 := qh (OnlyG.refl wc.drew g)
            have K0 := S8.out.cells.2.1
            clear hr hU hN hbU u1 u2 f1 f2 e3 e4 e5
            refine wp_region_mix (.take 0 (.take 1 (.take 2 (.take 3 (.take 4 (.take 5 (.take 6 (.take 7 (.take 9 (.take 10 (.fork 8 (.bar 11 (.take 12 (.bar 13 (.bar 14 (.bar 15 (.take 16 (.take 17 (.bar 18 (.nil))))))))) 11 (.take 12 (.fork 8 (.bar 13 (.bar 14 (.bar 15 (.take 16 (.take 17 (.bar 18 (.nil))))))) 13 (.fork 8 (.bar 14 (.bar 15 (.take 16 (.take 17 (.bar 18 (.nil)))))) 14 (.bar 8 (.bar 15 (.take 16 (.take 17 (.bar 18 (.nil)))))))))))))))))))) (fun w' => w'.cell? ⟨C, 1, none⟩ = some (.slice (some ⟨gu, 0, none⟩) m2 c2)) (by kernel_rfl) (by kernel_rfl) K0 (fun _ => ?_)
            repeat ((first | refine mxS (by rfl) (by rfl) ?_ | (refine mxT (v := ?_) (by rfl) (by rfl) (fun z y => ?_) ?_; rotate_left; (focus ((try dsimp only at y); (go_simp <;> with_reducible rfl); done)))); (try simp only [Act.put,pS,pZ,pC]))
            generalize wc.drew = u0 at K0 HL8 S8 M8 U8 N8 R8 V8 O8 hgu2 ⊢
            have SS := qh S8.out
            have OO := qh O8.out
            refine wpMix_fork (by rfl) (by rfl) (fun K hK => ?_) (fun K hK => ?_)
            · have q1 := (OO.out.cell (p := ⟨gu, k * 2 + 1, none⟩) hgu2 (by show gu ≠ g; omega)).trans HL8
              go_simp
              clear q1
              ((try dsimp only); refine nxK hK _ _ (SS.out.cells.2.1) ?_; clear hK K; (try simp only [Act.put,pS,pZ,pC]))
              (refine mxB (by rfl) (fun K hK => ?_); go_simp)
              refine (pick_at 14 SS.out.r rfl (by omega) (by omega) (by omega)).mono ?_; rintro e u21 ⟨ra, rfl, hra, v25, o24⟩
              have S22 := qh (SS.out.only o24 v25)
              have O23 := qh (OO.out.trans o24)
              clear o24 v25
              have va : IntKind.i64.wrap (1 + (ra : Int)) = 1 + (ra : Int) := wr64 (by omega) (by omega)
              ((try dsimp only); refine nxK hK _ _ (S22.out.cells.2.1) ?_; clear hK K; (try simp only [Act.put,pS,pZ,pC]))
              repeat ((first | refine mxS (by rfl) (by rfl) ?_ | (refine mxT (v := ?_) (by rfl) (by rfl) (fun z y => ?_) ?_; rotate_left; (focus ((try dsimp only at y); (go_simp <;> with_reducible rfl); done)))); (try simp only [Act.put,pS,pZ,pC]))
              (refine mxB (by rfl) (fun K hK => ?_); go_simp)
              refine (l91Task_any g _ (1 + (ra : Int)) _ S22.out.r (by omega)).mono ?_; rintro e u26 ⟨bx, xs, rfl, hxw, hxl, _, o29, qx, hqx, v30⟩
              have S27 := qh (S22.out.only o29 v30)
              have O28 := qh (O23.out.trans o29)
              have X0 := qh (own_lo (OwI.own hxw hxl) S22.out.o.size)
              have XL := qh hxl
              clear o29 v30 hxw hxl
              ((try dsimp only); refine nxK hK _ _ (S27.out.cells.2.1) ?_; clear hK K; (try simp only [Act.put,pS,pZ,pC]))
              have S31 := qh (S27.out.below (alloc_up u26 (.cells #[.int .i64 (1 + (ra : Int)), .slice (some ⟨bx, 0, none⟩) 3 3] 40)))
              have O32 := qh (O28.out.alloc (.cells #[.int .i64 (1 + (ra : Int)), .slice (some ⟨bx, 0, none⟩) 3 3] 40))
              have X1 := qh (own_alloc X0.out (.cells #[.int .i64 (1 + (ra : Int)), .slice (some ⟨bx, 0, none⟩) 3 3] 40))
              have X3 := qh (lit2 u26 40 (.int .i64 (1 + (ra : Int))) (.slice (some ⟨bx, 0, none⟩) 3 3))
              (refine mxB (by rfl) (fun K hK => ?_); go_simp)
              ((try dsimp only); refine nxK hK _ _ (S31.out.cells.2.1) ?_; clear hK K; (try simp only [Act.put,pS,pZ,pC]))
              clear X0 S27 O28
              generalize u26.heap.size = gx at X3 ⊢
              generalize u26.alloc (.cells #[.int .i64 (1 + (ra : Int)), .slice (some ⟨bx, 0, none⟩) 3 3] 40) = u3 at S31 O32 X1 X3 ⊢
              have KT := keepTU_rdr S8.out.r O32.out
              have N3 := qh (N8.out.keepTI KT.ti)
              have R3 := qh (own_keepTI R8.out (.inr rfl) KT.ti)
              have V3 := qh (V8.out.keepTI KT.ti)
              have M3 := qh (own_keepTI M8.out (.inl rfl) KT.ti)
              have U3 := qh (own_keepB U8.out (fun b cs _ hc => KT b ⟨_, cs, .inr (.inr rfl), hc⟩))
              have z3 := S31.out.o.size
              clear KT
              refine mxB (by rfl) (fun K hK => ?_)
              rw [if_pos (by rfl)]
              refine wp_append_src _ _ _ 30 (by rfl) w.heap.size 40 t0 _ 2 32 Tryz.underlying30 ht0 htz0 htz1 htz2 rfl (by omega) (.slice At mt ct) mt vt (by rfl) R3.out (some ⟨gx, 0, none⟩) 1 1 [.int .i64 (1 + (ra : Int)), .slice (some ⟨bx, 0, none⟩) 3 3] (by rfl) X3.out (one2 _ _ rfl rfl) (by unfold maxLen; omega) (by omega) (by omega) ?_
              intro v6 u4 hown6 hgrow6 hrow6
              obtain ⟨A9, c9, rfl⟩ := own_shape hown6
              have R4 := qh hown6
              have E4 := own_keep X1.out (fun b hb => hgrow6.block b (X1.out.lt b hb).2 (fun e => own_types R3.out X1.out (by decide) e.symm hb))
              have V4 := qh ((V3.out.grown R3.out (by decide) hgrow6).snoc (id := 1 + (ra : Int)) (xs := xs) E4)
              have N4 := qh (N3.out.grow hkl (by rw [Htk.out]; exact hgrow6) R4.out V4.out (by rw [Htk.out]; exact hrow6))
              have M4 := qh (own_keep M3.out (fun b hb => hgrow6.block b (M3.out.lt b hb).2 (fun e => own_types R3.out M3.out (by decide) e.symm hb)))
              have U4 := qh (own_keep U3.out (fun b hb => hgrow6.block b (U3.out.lt b hb).2 (fun e => own_types R3.out U3.out (by decide) e.symm hb)))
              have C4 := qh (S31.out.c.grown hgrow6 (fun e => own_blk_ne R3.out S31.out.c (by decide) e.symm))
              have Z4 := qh (S31.out.z.grown hgrow6 (fun e => own_blk_ne R3.out S31.out.z (by decide) e.symm))
              have O4 := qh (S31.out.o.grown hgrow6 (fun r hr => (R3.out.lt r hr).1))
              have Rd4 := qh (S31.out.r.keep (fun b hb => hgrow6.block b (by have := S31.out.r.lt; omega) (fun e => by have := (R3.out.lt b e.symm).1; have := S31.out.lg; omega)))
              have lcz := S31.out.lc
              have lzz := S31.out.lz
              have lne := S31.out.ne
              have K4 : u4.cell? ⟨C, 1, none⟩ = some (.slice (some ⟨gu, 0, none⟩) m2 c2) := C4.out.cell 1
              clear hown6 hgrow6 hrow6 E4 R3 X1 X3 N3 V3 M3 U3 S31 O32
              ((try dsimp only); refine nxK hK _ _ (K4) ?_; clear hK K; (try simp only [Act.put,pS,pZ,pC]))
              repeat ((first | refine mxS (by rfl) (by rfl) ?_ | (refine mxT (v := ?_) (by rfl) (by rfl) (fun z y => ?_) ?_; rotate_left; (focus ((try dsimp only at y); (go_simp <;> with_reducible rfl); done)))); (try simp only [Act.put,pS,pZ,pC]))
              have u1 := U4.out.cells (g := gu) rfl (k * 2 + 1) (tk k) (N8.out.2.2.1 k hkl).2.1
              rw [addr_add, Nat.zero_add, Htk.out] at u1
              have f1 := U4.out.frozenAt (k * 2 + 1)
              (refine mxB (by rfl) (fun K hK => ?_); go_simp)
              clear u1 f1 K4
              obtain ⟨_, curU, eU, _, hbU⟩ := own_row U4.out (by omega)
              injection eU with eU
              injection eU with eU
              subst eU
              have S9 := qh (ClW.setU C4.out Z4.out O4.out Rd4.out lcz lzz lne lg hbU hgu1 hne hnz M4.out U4.out N4.out)
              clear hbU C4 Z4 O4 Rd4 M4 U4 N4 V4 R4
              ((try dsimp only); refine nxK hK _ _ (S9.out.cells.2.1) ?_; clear hK K; (try simp only [Act.put,pS,pZ,pC]))
              generalize u4.setCell ⟨gu, k * 2 + 1, none⟩ (.slice A9 (mt + 1) c9) = we at S9 ⊢
              have Hs9 := qh ((Hsh.out.more (show 15 ≤ 16 by omega)).set_ (op := (us[k]?.getD (false, [])).1) k (T := (us[k]?.getD (false, [])).2 ++ [(1 + (ra : Int), xs)]) ⟨by rw [List.length_append, List.length_singleton]; have := (Hsh.out.at_ k).1; omega, fun t ht => by
                rcases List.mem_append.1 ht with ht | ht
                · exact (Hsh.out.at_ k).2 t ht
                · rw [List.mem_singleton.1 ht]; exact Nat.le_of_eq XL.out⟩)
              refine wpMix_nil ?_
              have x0 := S9.out.z.cell 0
              have x1 := S9.out.z.cell 1
              have x2 := S9.out.z.frozen 0
              have x3 := S9.out.z.frozen 1
              have p0 := S9.out.cells.1
              have p1 := S9.out.cells.2.1
              simp only [gT, gZ, gS] at x0 x1
              go_wp2_with fail
              have KT := (KeepTU.set_ S9.out.z (by decide) (by decide) (by decide) 0 (.slice A1 m1 c1)).trans (KeepTU.set_ (S9.out.z.set_ 0 (.slice A1 m1 c1)) (by decide) (by decide) (by decide) 1 (.slice (some ⟨gu, 0, none⟩) m2 c2))
              have EQ := qh ((S9.out.z.set_ 0 (.slice A1 m1 c1)).set_ 1 (.slice (some ⟨gu, 0, none⟩) m2 c2))
              have OC := qh (S9.out.oc.keepTU KT)
              have O9 := qh ((S9.out.o.set_new (p := ⟨w.heap.size, 0, none⟩) (Nat.le_refl _) (.slice A1 m1 c1)).set_new (p := ⟨w.heap.size, 1, none⟩) (Nat.le_refl _) (.slice (some ⟨gu, 0, none⟩) m2 c2))
              have R9 := qh ((S9.out.r.keep (fun b hb => Below.heap_setCell _ ⟨w.heap.size, 0, none⟩ (.slice A1 m1 c1) _ (by show b ≠ w.heap.size; omega))).keep (fun b hb => Below.heap_setCell _ ⟨w.heap.size, 1, none⟩ (.slice (some ⟨gu, 0, none⟩) m2 c2) _ (by show b ≠ w.heap.size; omega)))
              clear KT
              generalize World.setCell (World.setCell we ⟨w.heap.size, 0, none⟩ (.slice A1 m1 c1)) ⟨w.heap.size, 1, none⟩ (.slice (some ⟨gu, 0, none⟩) m2 c2) = w9 at EQ OC O9 R9 ⊢
              have z0 : w9.cell? ⟨w.heap.size, 0, none⟩ = some (.slice A1 m1 c1) := EQ.out.cell 0
              have z1 : w9.cell? ⟨w.heap.size, 1, none⟩ = some (.slice (some ⟨gu, 0, none⟩) m2 c2) := EQ.out.cell 1
              have lr := (Hs9.out).room_le
              have ll := OC.out.len
              refine bodyPost_ret (v := .agg #[(.slice A1 m1 c1), (.slice (some ⟨gu, 0, none⟩) m2 c2)]) (by simp [results, Tryz.results16, go_sem, z0, z1]) rfl (by unfold DrawnCl; exact ⟨_, _, _, _, _, _, _, _, rfl, fun u hk => (OC.out.keepTU hk).rd, (Hs9.out).shU (by omega), by omega, ll.2.2.1, ll.2.2.2, O9.out, _, by omega, R9.out⟩)
            · go_simp
              refine (pick_at 14 SS.out.r rfl (by omega) (by omega) (by omega)).mono ?_; rintro e u33 ⟨ra, rfl, hra, v37, o36⟩
              have S34 := qh (SS.out.only o36 v37)
              have O35 := qh (OO.out.trans o36)
              clear o36 v37
              have va : IntKind.i64.wrap (1 + (ra : Int)) = 1 + (ra : Int) := wr64 (by omega) (by omega)
              ((try dsimp only); refine nxK hK _ _ (S34.out.cells.2.1) ?_; clear hK K; (try simp only [Act.put,pS,pZ,pC]))
              repeat ((first | refine mxS (by rfl) (by rfl) ?_ | (refine mxT (v := ?_) (by rfl) (by rfl) (fun z y => ?_) ?_; rotate_left; (focus ((try dsimp only at y); (go_simp <;> with_reducible rfl); done)))); (try simp only [Act.put,pS,pZ,pC]))
              refine wpMix_fork (by rfl) (by rfl) (fun K hK => ?_) (fun K hK => ?_)
              · have q1 := (O35.out.cell (p := ⟨gu, k * 2 + 1, none⟩) hgu2 (by show gu ≠ g; omega)).trans HL8
                go_simp
                clear q1
                ((try dsimp only); refine nxK hK _ _ (S34.out.cells.2.1) ?_; clear hK K; (try simp only [Act.put,pS,pZ,pC]))
                (refine mxB (by rfl) (fun K hK => ?_); go_simp)
                refine (l91Task_any g _ (1 + (ra : Int)) _ S34.out.r (by omega)).mono ?_; rintro e u38 ⟨bx, xs, rfl, hxw, hxl, _, o41, qx, hqx, v42⟩
                have S39 := qh (S34.out.only o41 v42)
                have O40 := qh (O35.out.trans o41)
                have X0 := qh (own_lo (OwI.own hxw hxl) S34.out.o.size)
                have XL := qh hxl
                clear o41 v42 hxw hxl
                ((try dsimp only); refine nxK hK _ _ (S39.out.cells.2.1) ?_; clear hK K; (try simp only [Act.put,pS,pZ,pC]))
                have S43 := qh (S39.out.below (alloc_up u38 (.cells #[.int .i64 (1 + (ra : Int)), .slice (some ⟨bx, 0, none⟩) 3 3] 40)))
                have O44 := qh (O40.out.alloc (.cells #[.int .i64 (1 + (ra : Int)), .slice (some ⟨bx, 0, none⟩) 3 3] 40))
                have X1 := qh (own_alloc X0.out (.cells #[.int .i64 (1 + (ra : Int)), .slice (some ⟨bx, 0, none⟩) 3 3] 40))
                have X3 := qh (lit2 u38 40 (.int .i64 (1 + (ra : Int))) (.slice (some ⟨bx, 0, none⟩) 3 3))
                (refine mxB (by rfl) (fun K hK => ?_); go_simp)
                ((try dsimp only); refine nxK hK _ _ (S43.out.cells.2.1) ?_; clear hK K; (try simp only [Act.put,pS,pZ,pC]))
                clear X0 S39 O40
                generalize u38.heap.size = gx at X3 ⊢
                generalize u38.alloc (.cells #[.int .i64 (1 + (ra : Int)), .slice (some ⟨bx, 0, none⟩) 3 3] 40) = u3 at S43 O44 X1 X3 ⊢
                have KT := keepTU_rdr S8.out.r O44.out
                have N3 := qh (N8.out.keepTI KT.ti)
                have R3 := qh (own_keepTI R8.out (.inr rfl) KT.ti)
                have V3 := qh (V8.out.keepTI KT.ti)
                have M3 := qh (own_keepTI M8.out (.inl rfl) KT.ti)
                have U3 := qh (own_keepB U8.out (fun b cs _ hc => KT b ⟨_, cs, .inr (.inr rfl), hc⟩))
                have z3 := S43.out.o.size
                clear KT
                refine mxB (by rfl) (fun K hK => ?_)
                rw [if_pos (by rfl)]
                refine wp_append_src _ _ _ 30 (by rfl) w.heap.size 40 t0 _ 2 32 Tryz.underlying30 ht0 htz0 htz1 htz2 rfl (by omega) (.slice At mt ct) mt vt (by rfl) R3.out (some ⟨gx, 0, none⟩) 1 1 [.int .i64 (1 + (ra : Int)), .slice (some ⟨bx, 0, none⟩) 3 3] (by rfl) X3.out (one2 _ _ rfl rfl) (by unfold maxLen; omega) (by omega) (by omega) ?_
                intro v6 u4 hown6 hgrow6 hrow6
                obtain ⟨A9, c9, rfl⟩ := own_shape hown6
                have R4 := qh hown6
                have E4 := own_keep X1.out (fun b hb => hgrow6.block b (X1.out.lt b hb).2 (fun e => own_types R3.out X1.out (by decide) e.symm hb))
                have V4 := qh ((V3.out.grown R3.out (by decide) hgrow6).snoc (id := 1 + (ra : Int)) (xs := xs) E4)
                have N4 := qh (N3.out.grow hkl (by rw [Htk.out]; exact hgrow6) R4.out V4.out (by rw [Htk.out]; exact hrow6))
                have M4 := qh (own_keep M3.out (fun b hb => hgrow6.block b (M3.out.lt b hb).2 (fun e => own_types R3.out M3.out (by decide) e.symm hb)))
                have U4 := qh (own_keep U3.out (fun b hb => hgrow6.block b (U3.out.lt b hb).2 (fun e => own_types R3.out U3.out (by decide) e.symm hb)))
                have C4 := qh (S43.out.c.grown hgrow6 (fun e => own_blk_ne R3.out S43.out.c (by decide) e.symm))
                have Z4 := qh (S43.out.z.grown hgrow6 (fun e => own_blk_ne R3.out S43.out.z (by decide) e.symm))
                have O4 := qh (S43.out.o.grown hgrow6 (fun r hr => (R3.out.lt r hr).1))
                have Rd4 := qh (S43.out.r.keep (fun b hb => hgrow6.block b (by have := S43.out.r.lt; omega) (fun e => by have := (R3.out.lt b e.symm).1; have := S43.out.lg; omega)))
                have lcz := S43.out.lc
                have lzz := S43.out.lz
                have lne := S43.out.ne
                have K4 : u4.cell? ⟨C, 1, none⟩ = some (.slice (some ⟨gu, 0, none⟩) m2 c2) := C4.out.cell 1
                clear hown6 hgrow6 hrow6 E4 R3 X1 X3 N3 V3 M3 U3 S43 O44
                ((try dsimp only); refine nxK hK _ _ (K4) ?_; clear hK K; (try simp only [Act.put,pS,pZ,pC]))
                repeat ((first | refine mxS (by rfl) (by rfl) ?_ | (refine mxT (v := ?_) (by rfl) (by rfl) (fun z y => ?_) ?_; rotate_left; (focus ((try dsimp only at y); (go_simp <;> with_reducible rfl); done)))); (try simp only [Act.put,pS,pZ,pC]))
                have u1 := U4.out.cells (g := gu) rfl (k * 2 + 1) (tk k) (N8.out.2.2.1 k hkl).2.1
                rw [addr_add, Nat.zero_add, Htk.out] at u1
                have f1 := U4.out.frozenAt (k * 2 + 1)
                (refine mxB (by rfl) (fun K hK => ?_); go_simp)
                clear u1 f1 K4
                obtain ⟨_, curU, eU, _, hbU⟩ := own_row U4.out (by omega)
                injection eU with eU
                injection eU with eU
                subst eU
                have S9 := qh (ClW.setU C4.out Z4.out O4.out Rd4.out lcz lzz lne lg hbU hgu1 hne hnz M4.out U4.out N4.out)
                clear hbU C4 Z4 O4 Rd4 M4 U4 N4 V4 R4
                ((try dsimp only); refine nxK hK _ _ (S9.out.cells.2.1) ?_; clear hK K; (try simp only [Act.put,pS,pZ,pC]))
                generalize u4.setCell ⟨gu, k * 2 + 1, none⟩ (.slice A9 (mt + 1) c9) = we at S9 ⊢
                have Hs9 := qh ((Hsh.out.more (show 15 ≤ 16 by omega)).set_ (op := (us[k]?.getD (false, [])).1) k (T := (us[k]?.getD (false, [])).2 ++ [(1 + (ra : Int), xs)]) ⟨by rw [List.length_append, List.length_singleton]; have := (Hsh.out.at_ k).1; omega, fun t ht => by
                  rcases List.mem_append.1 ht with ht | ht
                  · exact (Hsh.out.at_ k).2 t ht
                  · rw [List.mem_singleton.1 ht]; exact Nat.le_of_eq XL.out⟩)
                refine wpMix_nil ?_
                have x0 := S9.out.z.cell 0
                have x1 := S9.out.z.cell 1
                have x2 := S9.out.z.frozen 0
                have x3 := S9.out.z.frozen 1
                have p0 := S9.out.cells.1
                have p1 := S9.out.cells.2.1
                simp only [gT, gZ, gS] at x0 x1
                go_wp2_with fail
                have KT := (KeepTU.set_ S9.out.z (by decide) (by decide) (by decide) 0 (.slice A1 m1 c1)).trans (KeepTU.set_ (S9.out.z.set_ 0 (.slice A1 m1 c1)) (by decide) (by decide) (by decide) 1 (.slice (some ⟨gu, 0, none⟩) m2 c2))
                have EQ := qh ((S9.out.z.set_ 0 (.slice A1 m1 c1)).set_ 1 (.slice (some ⟨gu, 0, none⟩) m2 c2))
                have OC := qh (S9.out.oc.keepTU KT)
                have O9 := qh ((S9.out.o.set_new (p := ⟨w.heap.size, 0, none⟩) (Nat.le_refl _) (.slice A1 m1 c1)).set_new (p := ⟨w.heap.size, 1, none⟩) (Nat.le_refl _) (.slice (some ⟨gu, 0, none⟩) m2 c2))
                have R9 := qh ((S9.out.r.keep (fun b hb => Below.heap_setCell _ ⟨w.heap.size, 0, none⟩ (.slice A1 m1 c1) _ (by show b ≠ w.heap.size; omega))).keep (fun b hb => Below.heap_setCell _ ⟨w.heap.size, 1, none⟩ (.slice (some ⟨gu, 0, none⟩) m2 c2) _ (by show b ≠ w.heap.size; omega)))
                clear KT
                generalize World.setCell (World.setCell we ⟨w.heap.size, 0, none⟩ (.slice A1 m1 c1)) ⟨w.heap.size, 1, none⟩ (.slice (some ⟨gu, 0, none⟩) m2 c2) = w9 at EQ OC O9 R9 ⊢
                have z0 : w9.cell? ⟨w.heap.size, 0, none⟩ = some (.slice A1 m1 c1) := EQ.out.cell 0
                have z1 : w9.cell? ⟨w.heap.size, 1, none⟩ = some (.slice (some ⟨gu, 0, none⟩) m2 c2) := EQ.out.cell 1
                have lr := (Hs9.out).room_le
                have ll := OC.out.len
                refine bodyPost_ret (v := .agg #[(.slice A1 m1 c1), (.slice (some ⟨gu, 0, none⟩) m2 c2)]) (by simp [results, Tryz.results16, go_sem, z0, z1]) rfl (by unfold DrawnCl; exact ⟨_, _, _, _, _, _, _, _, rfl, fun u hk => (OC.out.keepTU hk).rd, (Hs9.out).shU (by omega), by omega, ll.2.2.1, ll.2.2.2, O9.out, _, by omega, R9.out⟩)
              · go_simp
                refine (l91Task_any g _ (1 + (ra : Int)) _ S34.out.r (by omega)).mono ?_; rintro e u45 ⟨bx, xs, rfl, hxw, hxl, _, o48, qx, hqx, v49⟩
                have S46 := qh (S34.out.only o48 v49)
                have O47 := qh (O35.out.trans o48)
                have X0 := qh (own_lo (OwI.own hxw hxl) S34.out.o.size)
                have XL := qh hxl
                clear o48 v49 hxw hxl
                ((try dsimp only); refine nxK hK _ _ (S46.out.cells.2.1) ?_; clear hK K; (try simp only [Act.put,pS,pZ,pC]))
                refine wpMix_fork (by rfl) (by rfl) (fun K hK => ?_) (fun K hK => ?_)
                · have q1 := (O47.out.cell (p := ⟨gu, k * 2 + 1, none⟩) hgu2 (by show gu ≠ g; omega)).trans HL8
                  go_simp
                  clear q1
                  ((try dsimp only); refine nxK hK _ _ (S46.out.cells.2.1) ?_; clear hK K; (try simp only [Act.put,pS,pZ,pC]))
                  have S50 := qh (S46.out.below (alloc_up u45 (.cells #[.int .i64 (1 + (ra : Int)), .slice (some ⟨bx, 0, none⟩) 3 3] 40)))
                  have O51 := qh (O47.out.alloc (.cells #[.int .i64 (1 + (ra : Int)), .slice (some ⟨bx, 0, none⟩) 3 3] 40))
                  have X1 := qh (own_alloc X0.out (.cells #[.int .i64 (1 + (ra : Int)), .slice (some ⟨bx, 0, none⟩) 3 3] 40))
                  have X3 := qh (lit2 u45 40 (.int .i64 (1 + (ra : Int))) (.slice (some ⟨bx, 0, none⟩) 3 3))
                  (refine mxB (by rfl) (fun K hK => ?_); go_simp)
                  ((try dsimp only); refine nxK hK _ _ (S50.out.cells.2.1) ?_; clear hK K; (try simp only [Act.put,pS,pZ,pC]))
                  clear X0 S46 O47
                  generalize u45.heap.size = gx at X3 ⊢
                  generalize u45.alloc (.cells #[.int .i64 (1 + (ra : Int)), .slice (some ⟨bx, 0, none⟩) 3 3] 40) = u3 at S50 O51 X1 X3 ⊢
                  have KT := keepTU_rdr S8.out.r O51.out
                  have N3 := qh (N8.out.keepTI KT.ti)
                  have R3 := qh (own_keepTI R8.out (.inr rfl) KT.ti)
                  have V3 := qh (V8.out.keepTI KT.ti)
                  have M3 := qh (own_keepTI M8.out (.inl rfl) KT.ti)
                  have U3 := qh (own_keepB U8.out (fun b cs _ hc => KT b ⟨_, cs, .inr (.inr rfl), hc⟩))
                  have z3 := S50.out.o.size
                  clear KT
                  refine mxB (by rfl) (fun K hK => ?_)
                  rw [if_pos (by rfl)]
                  refine wp_append_src _ _ _ 30 (by rfl) w.heap.size 40 t0 _ 2 32 Tryz.underlying30 ht0 htz0 htz1 htz2 rfl (by omega) (.slice At mt ct) mt vt (by rfl) R3.out (some ⟨gx, 0, none⟩) 1 1 [.int .i64 (1 + (ra : Int)), .slice (some ⟨bx, 0, none⟩) 3 3] (by rfl) X3.out (one2 _ _ rfl rfl) (by unfold maxLen; omega) (by omega) (by omega) ?_
                  intro v6 u4 hown6 hgrow6 hrow6
                  obtain ⟨A9, c9, rfl⟩ := own_shape hown6
                  have R4 := qh hown6
                  have E4 := own_keep X1.out (fun b hb => hgrow6.block b (X1.out.lt b hb).2 (fun e => own_types R3.out X1.out (by decide) e.symm hb))
                  have V4 := qh ((V3.out.grown R3.out (by decide) hgrow6).snoc (id := 1 + (ra : Int)) (xs := xs) E4)
                  have N4 := qh (N3.out.grow hkl (by rw [Htk.out]; exact hgrow6) R4.out V4.out (by rw [Htk.out]; exact hrow6))
                  have M4 := qh (own_keep M3.out (fun b hb => hgrow6.block b (M3.out.lt b hb).2 (fun e => own_types R3.out M3.out (by decide) e.symm hb)))
                  have U4 := qh (own_keep U3.out (fun b hb => hgrow6.block b (U3.out.lt b hb).2 (fun e => own_types R3.out U3.out (by decide) e.symm hb)))
                  have C4 := qh (S50.out.c.grown hgrow6 (fun e => own_blk_ne R3.out S50.out.c (by decide) e.symm))
                  have Z4 := qh (S50.out.z.grown hgrow6 (fun e => own_blk_ne R3.out S50.out.z (by decide) e.symm))
                  have O4 := qh (S50.out.o.grown hgrow6 (fun r hr => (R3.out.lt r hr).1))
                  have Rd4 := qh (S50.out.r.keep (fun b hb => hgrow6.block b (by have := S50.out.r.lt; omega) (fun e => by have := (R3.out.lt b e.symm).1; have := S50.out.lg; omega)))
                  have lcz := S50.out.lc
                  have lzz := S50.out.lz
                  have lne := S50.out.ne
                  have K4 : u4.cell? ⟨C, 1, none⟩ = some (.slice (some ⟨gu, 0, none⟩) m2 c2) := C4.out.cell 1
                  clear hown6 hgrow6 hrow6 E4 R3 X1 X3 N3 V3 M3 U3 S50 O51
                  ((try dsimp only); refine nxK hK _ _ (K4) ?_; clear hK K; (try simp only [Act.put,pS,pZ,pC]))
                  repeat ((first | refine mxS (by rfl) (by rfl) ?_ | (refine mxT (v := ?_) (by rfl) (by rfl) (fun z y => ?_) ?_; rotate_left; (focus ((try dsimp only at y); (go_simp <;> with_reducible rfl); done)))); (try simp only [Act.put,pS,pZ,pC]))
                  have u1 := U4.out.cells (g := gu) rfl (k * 2 + 1) (tk k) (N8.out.2.2.1 k hkl).2.1
                  rw [addr_add, Nat.zero_add, Htk.out] at u1
                  have f1 := U4.out.frozenAt (k * 2 + 1)
                  (refine mxB (by rfl) (fun K hK => ?_); go_simp)
                  clear u1 f1 K4
                  obtain ⟨_, curU, eU, _, hbU⟩ := own_row U4.out (by omega)
                  injection eU with eU
                  injection eU with eU
                  subst eU
                  have S9 := qh (ClW.setU C4.out Z4.out O4.out Rd4.out lcz lzz lne lg hbU hgu1 hne hnz M4.out U4.out N4.out)
                  clear hbU C4 Z4 O4 Rd4 M4 U4 N4 V4 R4
                  ((try dsimp only); refine nxK hK _ _ (S9.out.cells.2.1) ?_; clear hK K; (try simp only [Act.put,pS,pZ,pC]))
                  generalize u4.setCell ⟨gu, k * 2 + 1, none⟩ (.slice A9 (mt + 1) c9) = we at S9 ⊢
                  have Hs9 := qh ((Hsh.out.more (show 15 ≤ 16 by omega)).set_ (op := (us[k]?.getD (false, [])).1) k (T := (us[k]?.getD (false, [])).2 ++ [(1 + (ra : Int), xs)]) ⟨by rw [List.length_append, List.length_singleton]; have := (Hsh.out.at_ k).1; omega, fun t ht => by
                    rcases List.mem_append.1 ht with ht | ht
                    · exact (Hsh.out.at_ k).2 t ht
                    · rw [List.mem_singleton.1 ht]; exact Nat.le_of_eq XL.out⟩)
                  refine wpMix_nil ?_
                  have x0 := S9.out.z.cell 0
                  have x1 := S9.out.z.cell 1
                  have x2 := S9.out.z.frozen 0
                  have x3 := S9.out.z.frozen 1
                  have p0 := S9.out.cells.1
                  have p1 := S9.out.cells.2.1
                  simp only [gT, gZ, gS] at x0 x1
                  go_wp2_with fail
                  have KT := (KeepTU.set_ S9.out.z (by decide) (by decide) (by decide) 0 (.slice A1 m1 c1)).trans (KeepTU.set_ (S9.out.z.set_ 0 (.slice A1 m1 c1)) (by decide) (by decide) (by decide) 1 (.slice (some ⟨gu, 0, none⟩) m2 c2))
                  have EQ := qh ((S9.out.z.set_ 0 (.slice A1 m1 c1)).set_ 1 (.slice (some ⟨gu, 0, none⟩) m2 c2))
                  have OC := qh (S9.out.oc.keepTU KT)
                  have O9 := qh ((S9.out.o.set_new (p := ⟨w.heap.size, 0, none⟩) (Nat.le_refl _) (.slice A1 m1 c1)).set_new (p := ⟨w.heap.size, 1, none⟩) (Nat.le_refl _) (.slice (some ⟨gu, 0, none⟩) m2 c2))
                  have R9 := qh ((S9.out.r.keep (fun b hb => Below.heap_setCell _ ⟨w.heap.size, 0, none⟩ (.slice A1 m1 c1) _ (by show b ≠ w.heap.size; omega))).keep (fun b hb => Below.heap_setCell _ ⟨w.heap.size, 1, none⟩ (.slice (some ⟨gu, 0, none⟩) m2 c2) _ (by show b ≠ w.heap.size; omega)))
                  clear KT
                  generalize World.setCell (World.setCell we ⟨w.heap.size, 0, none⟩ (.slice A1 m1 c1)) ⟨w.heap.size, 1, none⟩ (.slice (some ⟨gu, 0, none⟩) m2 c2) = w9 at EQ OC O9 R9 ⊢
                  have z0 : w9.cell? ⟨w.heap.size, 0, none⟩ = some (.slice A1 m1 c1) := EQ.out.cell 0
                  have z1 : w9.cell? ⟨w.heap.size, 1, none⟩ = some (.slice (some ⟨gu, 0, none⟩) m2 c2) := EQ.out.cell 1
                  have lr := (Hs9.out).room_le
                  have ll := OC.out.len
                  refine bodyPost_ret (v := .agg #[(.slice A1 m1 c1), (.slice (some ⟨gu, 0, none⟩) m2 c2)]) (by simp [results, Tryz.results16, go_sem, z0, z1]) rfl (by unfold DrawnCl; exact ⟨_, _, _, _, _, _, _, _, rfl, fun u hk => (OC.out.keepTU hk).rd, (Hs9.out).shU (by omega), by omega, ll.2.2.1, ll.2.2.2, O9.out, _, by omega, R9.out⟩)
                · have S52 := qh (S46.out.below (alloc_up u45 (.cells #[.int .i64 (1 + (ra : Int)), .slice (some ⟨bx, 0, none⟩) 3 3] 40)))
                  have O53 := qh (O47.out.alloc (.cells #[.int .i64 (1 + (ra : Int)), .slice (some ⟨bx, 0, none⟩) 3 3] 40))
                  have X1 := qh (own_alloc X0.out (.cells #[.int .i64 (1 + (ra : Int)), .slice (some ⟨bx, 0, none⟩) 3 3] 40))
                  have X3 := qh (lit2 u45 40 (.int .i64 (1 + (ra : Int))) (.slice (some ⟨bx, 0, none⟩) 3 3))
                  go_simp
                  ((try dsimp only); refine nxK hK _ _ (S52.out.cells.2.1) ?_; clear hK K; (try simp only [Act.put,pS,pZ,pC]))
                  clear X0 S46 O47
                  generalize u45.heap.size = gx at X3 ⊢
                  generalize u45.alloc (.cells #[.int .i64 (1 + (ra : Int)), .slice (some ⟨bx, 0, none⟩) 3 3] 40) = u3 at S52 O53 X1 X3 ⊢
                  have q1 := (O53.out.cell (p := ⟨gu, k * 2 + 1, none⟩) hgu2 (by show gu ≠ g; omega)).trans HL8
                  (refine mxB (by rfl) (fun K hK => ?_); go_simp)
                  clear q1
                  ((try dsimp only); refine nxK hK _ _ (S52.out.cells.2.1) ?_; clear hK K; (try simp only [Act.put,pS,pZ,pC]))
                  have KT := keepTU_rdr S8.out.r O53.out
                  have N3 := qh (N8.out.keepTI KT.ti)
                  have R3 := qh (own_keepTI R8.out (.inr rfl) KT.ti)
                  have V3 := qh (V8.out.keepTI KT.ti)
                  have M3 := qh (own_keepTI M8.out (.inl rfl) KT.ti)
                  have U3 := qh (own_keepB U8.out (fun b cs _ hc => KT b ⟨_, cs, .inr (.inr rfl), hc⟩))
                  have z3 := S52.out.o.size
                  clear KT
                  refine mxB (by rfl) (fun K hK => ?_)
                  rw [if_pos (by rfl)]
                  refine wp_append_src _ _ _ 30 (by rfl) w.heap.size 40 t0 _ 2 32 Tryz.underlying30 ht0 htz0 htz1 htz2 rfl (by omega) (.slice At mt ct) mt vt (by rfl) R3.out (some ⟨gx, 0, none⟩) 1 1 [.int .i64 (1 + (ra : Int)), .slice (some ⟨bx, 0, none⟩) 3 3] (by rfl) X3.out (one2 _ _ rfl rfl) (by unfold maxLen; omega) (by omega) (by omega) ?_
                  intro v6 u4 hown6 hgrow6 hrow6
                  obtain ⟨A9, c9, rfl⟩ := own_shape hown6
                  have R4 := qh hown6
                  have E4 := own_keep X1.out (fun b hb => hgrow6.block b (X1.out.lt b hb).2 (fun e => own_types R3.out X1.out (by decide) e.symm hb))
                  have V4 := qh ((V3.out.grown R3.out (by decide) hgrow6).snoc (id := 1 + (ra : Int)) (xs := xs) E4)
                  have N4 := qh (N3.out.grow hkl (by rw [Htk.out]; exact hgrow6) R4.out V4.out (by rw [Htk.out]; exact hrow6))
                  have M4 := qh (own_keep M3.out (fun b hb => hgrow6.block b (M3.out.lt b hb).2 (fun e => own_types R3.out M3.out (by decide) e.symm hb)))
                  have U4 := qh (own_keep U3.out (fun b hb => hgrow6.block b (U3.out.lt b hb).2 (fun e => own_types R3.out U3.out (by decide) e.symm hb)))
                  have C4 := qh (S52.out.c.grown hgrow6 (fun e => own_blk_ne R3.out S52.out.c (by decide) e.symm))
                  have Z4 := qh (S52.out.z.grown hgrow6 (fun e => own_blk_ne R3.out S52.out.z (by decide) e.symm))
                  have O4 := qh (S52.out.o.grown hgrow6 (fun r hr => (R3.out.lt r hr).1))
                  have Rd4 := qh (S52.out.r.keep (fun b hb => hgrow6.block b (by have := S52.out.r.lt; omega) (fun e => by have := (R3.out.lt b e.symm).1; have := S52.out.lg; omega)))
                  have lcz := S52.out.lc
                  have lzz := S52.out.lz
                  have lne := S52.out.ne
                  have K4 : u4.cell? ⟨C, 1, none⟩ = some (.slice (some ⟨gu, 0, none⟩) m2 c2) := C4.out.cell 1
                  clear hown6 hgrow6 hrow6 E4 R3 X1 X3 N3 V3 M3 U3 S52 O53
                  ((try dsimp only); refine nxK hK _ _ (K4) ?_; clear hK K; (try simp only [Act.put,pS,pZ,pC]))
                  repeat ((first | refine mxS (by rfl) (by rfl) ?_ | (refine mxT (v := ?_) (by rfl) (by rfl) (fun z y => ?_) ?_; rotate_left; (focus ((try dsimp only at y); (go_simp <;> with_reducible rfl); done)))); (try simp only [Act.put,pS,pZ,pC]))
                  have u1 := U4.out.cells (g := gu) rfl (k * 2 + 1) (tk k) (N8.out.2.2.1 k hkl).2.1
                  rw [addr_add, Nat.zero_add, Htk.out] at u1
                  have f1 := U4.out.frozenAt (k * 2 + 1)
                  (refine mxB (by rfl) (fun K hK => ?_); go_simp)
                  clear u1 f1 K4
                  obtain ⟨_, curU, eU, _, hbU⟩ := own_row U4.out (by omega)
                  injection eU with eU
                  injection eU with eU
                  subst eU
                  have S9 := qh (ClW.setU C4.out Z4.out O4.out Rd4.out lcz lzz lne lg hbU hgu1 hne hnz M4.out U4.out N4.out)
                  clear hbU C4 Z4 O4 Rd4 M4 U4 N4 V4 R4
                  ((try dsimp only); refine nxK hK _ _ (S9.out.cells.2.1) ?_; clear hK K; (try simp only [Act.put,pS,pZ,pC]))
                  generalize u4.setCell ⟨gu, k * 2 + 1, none⟩ (.slice A9 (mt + 1) c9) = we at S9 ⊢
                  have Hs9 := qh ((Hsh.out.more (show 15 ≤ 16 by omega)).set_ (op := (us[k]?.getD (false, [])).1) k (T := (us[k]?.getD (false, [])).2 ++ [(1 + (ra : Int), xs)]) ⟨by rw [List.length_append, List.length_singleton]; have := (Hsh.out.at_ k).1; omega, fun t ht => by
                    rcases List.mem_append.1 ht with ht | ht
                    · exact (Hsh.out.at_ k).2 t ht
                    · rw [List.mem_singleton.1 ht]; exact Nat.le_of_eq XL.out⟩)
                  refine wpMix_nil ?_
                  have x0 := S9.out.z.cell 0
                  have x1 := S9.out.z.cell 1
                  have x2 := S9.out.z.frozen 0
                  have x3 := S9.out.z.frozen 1
                  have p0 := S9.out.cells.1
                  have p1 := S9.out.cells.2.1
                  simp only [gT, gZ, gS] at x0 x1
                  go_wp2_with fail
                  have KT := (KeepTU.set_ S9.out.z (by decide) (by decide) (by decide) 0 (.slice A1 m1 c1)).trans (KeepTU.set_ (S9.out.z.set_ 0 (.slice A1 m1 c1)) (by decide) (by decide) (by decide) 1 (.slice (some ⟨gu, 0, none⟩) m2 c2))
                  have EQ := qh ((S9.out.z.set_ 0 (.slice A1 m1 c1)).set_ 1 (.slice (some ⟨gu, 0, none⟩) m2 c2))
                  have OC := qh (S9.out.oc.keepTU KT)
                  have O9 := qh ((S9.out.o.set_new (p := ⟨w.heap.size, 0, none⟩) (Nat.le_refl _) (.slice A1 m1 c1)).set_new (p := ⟨w.heap.size, 1, none⟩) (Nat.le_refl _) (.slice (some ⟨gu, 0, none⟩) m2 c2))
                  have R9 := qh ((S9.out.r.keep (fun b hb => Below.heap_setCell _ ⟨w.heap.size, 0, none⟩ (.slice A1 m1 c1) _ (by show b ≠ w.heap.size; omega))).keep (fun b hb => Below.heap_setCell _ ⟨w.heap.size, 1, none⟩ (.slice (some ⟨gu, 0, none⟩) m2 c2) _ (by show b ≠ w.heap.size; omega)))
                  clear KT
                  generalize World.setCell (World.setCell we ⟨w.heap.size, 0, none⟩ (.slice A1 m1 c1)) ⟨w.heap.size, 1, none⟩ (.slice (some ⟨gu, 0, none⟩) m2 c2) = w9 at EQ OC O9 R9 ⊢
                  have z0 : w9.cell? ⟨w.heap.size, 0, none⟩ = some (.slice A1 m1 c1) := EQ.out.cell 0
                  have z1 : w9.cell? ⟨w.heap.size, 1, none⟩ = some (.slice (some ⟨gu, 0, none⟩) m2 c2) := EQ.out.cell 1
                  have lr := (Hs9.out).room_le
                  have ll := OC.out.len
                  refine bodyPost_ret (v := .agg #[(.slice A1 m1 c1), (.slice (some ⟨gu, 0, none⟩) m2 c2)]) (by simp [results, Tryz.results16, go_sem, z0, z1]) rfl (by unfold DrawnCl; exact ⟨_, _, _, _, _, _, _, _, rfl, fun u hk => (OC.out.keepTU hk).rd, (Hs9.out).shU (by omega), by omega, ll.2.2.1, ll.2.2.2, O9.out, _, by omega, R9.out⟩)
          · have x1 : ((r : Int) == 1) = false := by simpa using (show ¬ (r : Int) = 1 by omega)
            by_cases h2 : r = 2
            · subst h2
              clear x0 x1
              have hroom : room.length = 3 := by
                rcases Hsh.out.1 with h | ⟨_, h⟩
                · exact h
                · have := Sc.out.len; rw [h] at this; simp at this; omega
              have hm3 : m1 = 3 := by have := Sc.out.len; omega
              subst hm3
              obtain ⟨gr, _, eA, _, _⟩ := own_row Sc.out.oc.1 (by omega)
              subst eA
              have lcap := Sc.out.len
              have x0 := Sc.out.z.cell 0
              have x1 := Sc.out.z.cell 1
              have p0 := Sc.out.cells.1
              have p1 := Sc.out.cells.2.1
              have p2 := Sc.out.cells.2.2.1
              simp only [gT, gZ, gS] at x0 x1
              have CE := qh (Sc.out.c.set_ 0 (.slice (some ⟨gr, 1, none⟩) 2 (c1 - 1)))
              have ZE := qh (Sc.out.z.far (p := ⟨C, 0, none⟩) (fun e => Sc.out.ne e.symm) (.slice (some ⟨gr, 1, none⟩) 2 (c1 - 1)))
              have OE := qh (Sc.out.oc.keepTU (KeepTU.set_ Sc.out.c (by decide) (by decide) (by decide) 0 (.slice (some ⟨gr, 1, none⟩) 2 (c1 - 1))))
              have OF := qh (Sc.out.o.set_new (p := ⟨C, 0, none⟩) Sc.out.lc (.slice (some ⟨gr, 1, none⟩) 2 (c1 - 1)))
              have RE := qh (Sc.out.r.keep (fun b hb => Below.heap_setCell _ ⟨C, 0, none⟩ (.slice (some ⟨gr, 1, none⟩) 2 (c1 - 1)) _ (by show b ≠ C; have := Sc.out.lc; omega)))
              have y0 := ZE.out.frozen 0
              have y1 := ZE.out.frozen 1
              have y2 : (wc.setCell ⟨C, 0, none⟩ (.slice (some ⟨gr, 1, none⟩) 2 (c1 - 1))).cell? ⟨C, 0, none⟩ = some (.slice (some ⟨gr, 1, none⟩) 2 (c1 - 1)) := CE.out.cell 0
              have y3 : (wc.setCell ⟨C, 0, none⟩ (.slice (some ⟨gr, 1, none⟩) 2 (c1 - 1))).cell? ⟨C, 1, none⟩ = some (.slice A2 m2 c2) := CE.out.cell 1
              have y4 := ZE.out.cell 0
              have y5 := ZE.out.cell 1
              simp only [gT, gZ, gS] at y4 y5
              go_wp2_with fail
              have w4 := KeepTU.set_ ZE.out (by decide) (by decide) (by decide) 0 (.slice (some ⟨gr, 1, none⟩) 2 (c1 - 1))
              have KT := w4.trans (KeepTU.set_ (ZE.out.set_ 0 (.slice (some ⟨gr, 1, none⟩) 2 (c1 - 1))) (by decide) (by decide) (by decide) 1 (.slice A2 m2 c2))
              have EQ := qh ((ZE.out.set_ 0 (.slice (some ⟨gr, 1, none⟩) 2 (c1 - 1))).set_ 1 (.slice A2 m2 c2))
              have OC := qh (OE.out.keepTU KT)
              have O9 := qh ((OF.out.set_new (p := ⟨w.heap.size, 0, none⟩) (Nat.le_refl _) (.slice (some ⟨gr, 1, none⟩) 2 (c1 - 1))).set_new (p := ⟨w.heap.size, 1, none⟩) (Nat.le_refl _) (.slice A2 m2 c2))
              have R9 := qh ((RE.out.keep (fun b hb => Below.heap_setCell _ ⟨w.heap.size, 0, none⟩ (.slice (some ⟨gr, 1, none⟩) 2 (c1 - 1)) _ (by show b ≠ w.heap.size; omega))).keep (fun b hb => Below.heap_setCell _ ⟨w.heap.size, 1, none⟩ (.slice A2 m2 c2) _ (by show b ≠ w.heap.size; omega)))
              clear KT w4
              generalize World.setCell (World.setCell (wc.setCell ⟨C, 0, none⟩ (.slice (some ⟨gr, 1, none⟩) 2 (c1 - 1))) ⟨w.heap.size, 0, none⟩ (.slice (some ⟨gr, 1, none⟩) 2 (c1 - 1))) ⟨w.heap.size, 1, none⟩ (.slice A2 m2 c2) = w9 at EQ OC O9 R9 ⊢
              have z0 : w9.cell? ⟨w.heap.size, 0, none⟩ = some (.slice (some ⟨gr, 1, none⟩) 2 (c1 - 1)) := EQ.out.cell 0
              have z1 : w9.cell? ⟨w.heap.size, 1, none⟩ = some (.slice A2 m2 c2) := EQ.out.cell 1
              refine bodyPost_ret (v := .agg #[.slice (some ⟨gr, 1, none⟩) 2 (c1 - 1), .slice A2 m2 c2]) (by simp [results, Tryz.results16, go_sem, z0, z1]) rfl (by unfold DrawnCl; exact ⟨_, _, _, _, _, _, _, _, rfl, fun u hk => ⟨(OC.out.keepTU hk).rd.a.drop1, (OC.out.keepTU hk).rd.b⟩, Hsh.out.shU (by omega), by omega, by omega, lcap.2.2.2, O9.out, _, by omega, R9.out⟩)
            · have x2 : ((r : Int) == 2) = false := by simpa using (show ¬ (r : Int) = 2 by omega)
              have x0 := Sc.out.z.cell 0
              have x1 := Sc.out.z.cell 1
              have x2 := Sc.out.z.frozen 0
              have x3 := Sc.out.z.frozen 1
              have p0 := Sc.out.cells.1
              have p1 := Sc.out.cells.2.1
              simp only [gT, gZ, gS] at x0 x1
              go_wp2_with fail
              have KT := (KeepTU.set_ Sc.out.z (by decide) (by decide) (by decide) 0 (.slice A1 m1 c1)).trans (KeepTU.set_ (Sc.out.z.set_ 0 (.slice A1 m1 c1)) (by decide) (by decide) (by decide) 1 (.slice A2 m2 c2))
              have EQ := qh ((Sc.out.z.set_ 0 (.slice A1 m1 c1)).set_ 1 (.slice A2 m2 c2))
              have OC := qh (Sc.out.oc.keepTU KT)
              have O9 := qh ((Sc.out.o.set_new (p := ⟨w.heap.size, 0, none⟩) (Nat.le_refl _) (.slice A1 m1 c1)).set_new (p := ⟨w.heap.size, 1, none⟩) (Nat.le_refl _) (.slice A2 m2 c2))
              have R9 := qh ((Sc.out.r.keep (fun b hb => Below.heap_setCell _ ⟨w.heap.size, 0, none⟩ (.slice A1 m1 c1) _ (by show b ≠ w.heap.size; omega))).keep (fun b hb => Below.heap_setCell _ ⟨w.heap.size, 1, none⟩ (.slice A2 m2 c2) _ (by show b ≠ w.heap.size; omega)))
              clear KT
              generalize World.setCell (World.setCell wc ⟨w.heap.size, 0, none⟩ (.slice A1 m1 c1)) ⟨w.heap.size, 1, none⟩ (.slice A2 m2 c2) = w9 at EQ OC O9 R9 ⊢
              have z0 : w9.cell? ⟨w.heap.size, 0, none⟩ = some (.slice A1 m1 c1) := EQ.out.cell 0
              have z1 : w9.cell? ⟨w.heap.size, 1, none⟩ = some (.slice A2 m2 c2) := EQ.out.cell 1
              have lr := (Hsh.out).room_le
              have ll := OC.out.len
              refine bodyPost_ret (v := .agg #[(.slice A1 m1 c1), (.slice A2 m2 c2)]) (by simp [results, Tryz.results16, go_sem, z0, z1]) rfl (by unfold DrawnCl; exact ⟨_, _, _, _, _, _, _, _, rfl, fun u hk => (OC.out.keepTU hk).rd, (Hsh.out).shU (by omega), by omega, ll.2.2.1, ll.2.2.2, O9.out, _, by omega, R9.out⟩)
      · have hm0 : m2 = 0 := by omega
        subst hm0
        have x0 := S0.out.z.cell 0
        have x1 := S0.out.z.cell 1
        have x2 := S0.out.z.frozen 0
        have x3 := S0.out.z.frozen 1
        have p0 := S0.out.cells.1
        have p1 := S0.out.cells.2.1
        simp only [gT, gZ, gS] at x0 x1
        go_wp2_with fail
        have KT := (KeepTU.set_ S0.out.z (by decide) (by decide) (by decide) 0 (.slice A1 m1 c1)).trans (KeepTU.set_ (S0.out.z.set_ 0 (.slice A1 m1 c1)) (by decide) (by decide) (by decide) 1 (.slice A2 0 c2))
        have EQ := qh ((S0.out.z.set_ 0 (.slice A1 m1 c1)).set_ 1 (.slice A2 0 c2))
        have OC := qh (S0.out.oc.keepTU KT)
        have O9 := qh ((S0.out.o.set_new (p := ⟨w.heap.size, 0, none⟩) (Nat.le_refl _) (.slice A1 m1 c1)).set_new (p := ⟨w.heap.size, 1, none⟩) (Nat.le_refl _) (.slice A2 0 c2))
        have R9 := qh ((S0.out.r.keep (fun b hb => Below.heap_setCell _ ⟨w.heap.size, 0, none⟩ (.slice A1 m1 c1) _ (by show b ≠ w.heap.size; omega))).keep (fun b hb => Below.heap_setCell _ ⟨w.heap.size, 1, none⟩ (.slice A2 0 c2) _ (by show b ≠ w.heap.size; omega)))
        clear KT
        generalize World.setCell (World.setCell wr ⟨w.heap.size, 0, none⟩ (.slice A1 m1 c1)) ⟨w.heap.size, 1, none⟩ (.slice A2 0 c2) = w9 at EQ OC O9 R9 ⊢
        have z0 : w9.cell? ⟨w.heap.size, 0, none⟩ = some (.slice A1 m1 c1) := EQ.out.cell 0
        have z1 : w9.cell? ⟨w.heap.size, 1, none⟩ = some (.slice A2 0 c2) := EQ.out.cell 1
        have lr := (Hsh.out).room_le
        have ll := OC.out.len
        refine bodyPost_ret (v := .agg #[(.slice A1 m1 c1), (.slice A2 0 c2)]) (by simp [results, Tryz.results16, go_sem, z0, z1]) rfl (by unfold DrawnCl; exact ⟨_, _, _, _, _, _, _, _, rfl, fun u hk => (OC.out.keepTU hk).rd, (Hsh.out).shU (by omega), by omega, ll.2.2.1, ll.2.2.2, O9.out, _, by omega, R9.out⟩)
theorem OnlyG.belowB {w w' : World} {g B : Nat} (h : OnlyG w w' g) (hB : B ≤ g) (hb : B ≤ w.heap.size) : Below B w w' := ⟨h.os, h.tape, h.output, h.size, fun k hk => h.block k (by omega) (by omega)⟩
end Go.Proofs.YtlcgbnmmbheleaaGreat
