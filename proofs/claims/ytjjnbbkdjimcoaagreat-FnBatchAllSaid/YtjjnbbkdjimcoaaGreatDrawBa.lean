/- Walks: l92Batch, DrawBatchDo, DrawBatchAll, DrawBatchNeed. -/
import Derived.Test.YtjjnbbkdjimcoaaGreatJ3
import Derived.Test.YtjjnbbkdjimcoaaGreatJ8
import Derived.Deep.CutBlock
import Derived.Deep.DeepCutAuto
import Derived.Test.YtjjnbbkdjimcoaaGreatJ10
namespace Go.Proofs.YtjjnbbkdjimcoaaGreat
set_option linter.unusedSimpArgs false
set_option linter.unusedVariables false
open Go Go.RowKit
attribute [local go_sem ↓] Go.wp_at_zero Go.wp_at_succ

set_option maxRecDepth 100000 in
set_option maxHeartbeats 1600000 in
theorem l92Batch_any (g p : Nat) (w : World) (h : Rdr w g p) (hp : p ≤ 800000) :
    Calls Tryz.prog 45 #[.pointer (some ⟨g, 0, none⟩)] w fun e w' => ∃ A m c vs, e = .returned (.slice A m c) ∧ m ≤ 6 ∧ w'.ownsRow w.heap.size 43 2 (.slice A m c) m vs ∧ TkN w' w.heap.size m vs ∧ OnlyG w w' g ∧ ∃ q, q ≤ p + 300 ∧ Rdr w' g q := by
  obtain ⟨i0, hi0, hz0, hz1, hz2⟩ := info_parts task_info
  have hg0 := h.lt
  go_enter Tryz.func45, Tryz.ntmps45
  go_wp2_with fail
  refine (pick_at 8 (h.below (alloc_up _ _)) rfl (by omega) (by omega) (by omega)).mono ?_; rintro e w1 ⟨r1, rfl, hr1, R1, O1⟩
  have W1 : OnlyG w w1 g := ((OnlyG.refl w g).alloc _).trans O1
  have own1 : w1.ownsRow w.heap.size 43 2 (.slice (some ⟨w.heap.size, 0, none⟩) 0 0) 0 [] := own_keep (World.ownsRow_made w #[] 0 (Nat.le_refl _) (by unfold maxLen; omega) rfl) (fun b hb => by
    simp [Value.ownBlock] at hb; subst hb; exact O1.block _ (by simp) (by omega))
  have v1 : IntKind.i64.wrap (10 + (r1 : Int)) = 10 + (r1 : Int) := wr64 (by omega) (by omega)
  clear h
  go_wp2_with fail
  refine (pick_at 7 R1 rfl (by omega) (by omega) (by omega)).mono ?_; rintro e w2 ⟨n, rfl, hn, R2, O2⟩
  have own2 := own_only own1 O2 hg0
  have W2 := W1.trans O2
  have Own2 := qh own2
  have HW2 := qh W2
  have HR2 := qh R2
  clear own1 W1 R1 O1 own2 W2 R2 O2
  go_wp2_with fail
  go_loopw [3, 4, 6] (fun v d i wr => ∃ (k q c : Nat) (A : Option Addr) (vs : List Value) (id : Int), i = .int .i64 k ∧ k ≤ n ∧ d = .int .i64 id ∧ 0 ≤ id ∧ id ≤ 20 + 3 * k ∧ v = .slice A k c ∧ wr.ownsRow w.heap.size 43 2 (.slice A k c) k vs ∧ TkN wr w.heap.size k vs ∧ OnlyG w wr g ∧ q ≤ p + 2 + 8 * k ∧ Rdr wr g q) (fun _ _ i _ => n - (intOf i).toNat)
  case atStart => exact ⟨0, _, 0, _, [], _, rfl, Nat.zero_le _, rfl, by omega, by omega, rfl, Own2.out, TkN.nil, HW2.out, by omega, HR2.out⟩
  case round =>
    clear Own2 HW2 HR2
    obtain ⟨k, q, c, A, vs, id, rfl, hk, rfl, hid0, hid1, rfl, hown, htk, ho, hq, hr⟩ := hrel
    by_cases hlt : k < n
    · go_wp2_with fail
      refine (l91Task_any g q id wr hr (by omega)).mono ?_; rintro e w2 ⟨b, xs, rfl, hO, hl3, hbd, O2, q2, hq2, R2⟩
      have lz := ho.size
      have s2 := O2.size
      have Own4 := qh (own_only hown O2 hg0)
      have Tk4 := qh (htk.only O2 hg0)
      have One4 := qh (TkN.one (id := id) (⟨by have := hO.1; omega, hO.2⟩ : OwI w2 w.heap.size b xs) hl3 hbd)
      have Ho4 := qh (ho.trans O2)
      have HR4 := qh R2
      have lr := R2.lt
      clear hO hl3 hbd O2 R2 hown htk ho hr
      go_wp2_with (at_builtin; go_loud (refine wpList_append_src _ rfl _ _ 27 rfl w.heap.size 43 i0 _ 2 32 Tryz.underlying27 hi0 hz0 hz1 hz2 rfl (by omega) (.slice A k c) k vs rfl (Own4.out.alloc _) (some ⟨w2.heap.size, 0, none⟩) 1 1 [.int .i64 id, .slice (some ⟨b, 0, none⟩) 3 3] rfl (own_src (own_built (w := w2) (base := w.heap.size) 43 _ _ (by omega))) One4.out.cellsOne (by unfold maxLen; omega) (by omega) (by simp; omega) ?_; intro v5 w5 hown5 hgrow hrow))
      obtain ⟨y1, y2, y3⟩ := tk_grow (w0 := w) (Own4.out.alloc _) hgrow (Ho4.out.alloc _) (HR4.out.below (alloc_up _ _)) ((Tk4.out.alloc _).append (One4.out.alloc _)) hg0
      obtain ⟨A1, c1, rfl⟩ := own_shape hown5
      refine (pick_at 3 y2 rfl (by omega) (by omega) (by omega)).mono ?_; rintro e w6 ⟨r6, rfl, hr6, R6, O6⟩
      have Y1 := qh (y1.trans O6)
      have Y2 := qh R6
      have Y3 := qh (y3.only O6 hg0)
      have Hown := qh (own_only hown5 O6 hg0)
      have u1 : IntKind.i64.wrap (id + 1) = id + 1 := wr64 (by omega) (by omega)
      have u2 : IntKind.i64.wrap (id + 1 + (r6 : Int)) = id + 1 + (r6 : Int) := wr64 (by omega) (by omega)
      clear y1 y2 y3 hown5 O6 R6 Own4 Tk4 One4 Ho4 HR4 hgrow hrow
      go_wp2_with fail
      go_roundw
      case measure => simp [intOf]; omega
      case rel => exact ⟨k + 1, _, c1, A1, _, _, by go_num, by omega, rfl, by omega, by omega, rfl, Hown.out, Y3.out, Y1.out, by omega, Y2.out⟩
    · obtain rfl : k = n := by omega
      rcases Nat.eq_zero_or_pos k with k0 | kp
      · subst k0
        have Hown := qh hown
        have Htk := qh htk
        clear hown htk
        go_wp2
        go_ret
        exact ⟨A, 0, c, vs, rfl, by omega, Hown.out, Htk.out, ho, q, by omega, hr⟩
      · obtain ⟨gr, cur, rfl, hgr, hblk⟩ := own_row hown kp
        have lgr := hblk.lt
        have kp' : (0 : Int) < (k : Int) := by omega
        have Hown := qh hown
        have Htk := qh htk
        have Ho := qh ho
        have Hblk := qh hblk
        clear hown htk ho hblk
        go_wp2_with fail
        refine (pick_at 24 hr rfl (by omega) (by omega) (by omega)).mono ?_; rintro e w2 ⟨r2, rfl, hr2, R2, O2⟩
        have own2 := own_only Hown.out O2 hg0
        have tk2 := Htk.out.only O2 hg0
        have blk2 := O2.blk Hblk.out (by omega)
        have ho2 := Ho.out.trans O2
        have s2 := ho2.size
        have Own3 := qh own2
        have Tk3 := qh tk2
        have Ho3 := qh ho2
        have HR3 := qh R2
        have HB3 := qh blk2
        clear own2 tk2 R2 O2 ho2 hr Htk Ho Hown Hblk blk2
        by_cases e0 : r2 = 0
        · have t0 : ((r2 : Int) == 0) = true := by rw [e0]; rfl
          clear e0
          go_wp2_with fail
          refine (pick_at k HR3.out rfl (by omega) (by omega) (by omega)).mono ?_; rintro e w3 ⟨r3, rfl, hr3, R3, O3⟩
          have own3 := own_only Own3.out O3 hg0
          have tk3 := Tk3.out.only O3 hg0
          have blk3 := O3.blk HB3.out (by omega)
          have ho3 := Ho3.out.trans O3
          go_wp2_with fail
          refine (pick_at 3 (R3.below (alloc_up _ _)) rfl (by omega) (by omega) (by omega)).mono ?_; rintro e w4 ⟨r4, rfl, hr4, R4, O4⟩
          have C4 := O4.blk (Blk.new w3 _ _) (by have := R3.lt; omega)
          have O34 : OnlyG w3 w4 g := ((OnlyG.refl w3 g).alloc _).trans O4
          have own4 := own_only own3 O34 hg0
          have tk4 := tk3.only O34 hg0
          have blk4 := O34.blk blk3 (by omega)
          have z0 : w4.frozen? ⟨gr, r3 * 2, none⟩ = false := blk4.frozen _
          obtain ⟨id3, b3, xs3, v1', v2', _⟩ := tk4.2 r3 hr3
          have y0 : w4.cell? ⟨gr, r3 * 2, none⟩ = some (.int .i64 id3) := by have := own4.cells (g := gr) rfl _ _ v1'; rwa [addr_add, Nat.zero_add] at this
          have hcell : ∃ v : Int, w4.cell? ⟨w3.heap.size, r4, none⟩ = some (.int .i64 v) := by
            rw [C4.cell]
            match r4, hr4 with
            | 0, _ => exact ⟨0, rfl⟩
            | 1, _ => exact ⟨10, rfl⟩
            | 2, _ => exact ⟨41, rfl⟩
          obtain ⟨v, hv⟩ := hcell
          have k4 : (r4 : Int) < 3 := by omega
          have k1 : (0 : Int) ≤ (r3 : Int) := by omega
          have k2 : (r3 : Int) < (k : Int) := by omega
          have k3 : (0 : Int) ≤ (r3 : Int) * 2 := by omega
          have Own4 := qh own4
          have Tk4 := qh tk4
          have Ho4 := qh (ho3.trans O34)
          have HR4 := qh R4
          clear own4 tk4 R4 C4 O4 O34 blk4 blk3 Own3 Tk3 HR3 HB3 own3 tk3 ho3 R3 O3 Ho3
          go_wp2
          go_ret
          exact ⟨_, k, c, _, rfl, by omega, own_set Own4.out _ _, (Tk4.out.set_id r3 v hr3).keep (fun b _ _ hb => hb.far (fun e => own_ne_int Own4.out hb (by simp [Value.ownBlock]; exact e.symm)) _), Ho4.out.set_new hgr _, _, by omega, HR4.out.keep (fun b hb => Below.heap_setCell _ _ _ _ (by simp; omega))⟩
        · have t0 : ((r2 : Int) == 0) = false := by simpa using (show ¬ (r2 : Int) = 0 by omega)
          go_wp2
          go_ret
          exact ⟨_, k, c, vs, rfl, by omega, Own3.out, Tk3.out, Ho3.out, _, by omega, HR3.out⟩

theorem rdU_up {w w' : World} {A : Option Addr} {n : Nat} (h : RdU w w.heap.size A n) (hb : Below w.heap.size w w') : RdU w' w'.heap.size A n := fun hn => by
  obtain ⟨b, o, e, hl, hc⟩ := h hn
  refine ⟨b, o, e, by have := hb.size; omega, fun j hj => ?_⟩
  obtain ⟨u, h1, h2, h3⟩ := hc j hj
  exact ⟨u, h1, h2, (hb.cell (p := ⟨b, o + j, none⟩) hl).trans h3⟩

/-- Drawn tasks read, at every world behind steps that leave integers and tasks alone. -/
theorem TkN.readK {w : World} {lo base k c : Nat} {A : Option Addr} {vs : List Value} (h : TkN w lo k vs) (ho : w.ownsRow base 43 2 (.slice A k c) k vs) (hk : k ≤ 7) : ∃ ts : List Tk, ts.length = k ∧ ∀ u, KeepTU w u → RdT u u.heap.size A k ts := by
  have hh : ∀ j : Nat, ∃ t : Tk, j < k → ∃ b : Nat, vs[j * 2]? = some (.int .i64 t.1) ∧ vs[j * 2 + 1]? = some (.slice (some ⟨b, 0, none⟩) 3 3) ∧ OwI w lo b t.2 ∧ t.2.length = 3 ∧ Bd 21 t.2 := by
    intro j
    by_cases hj : j < k
    · obtain ⟨id, b, xs, h1, h2, h3, h4, h5⟩ := h.2 j hj
      exact ⟨(id, xs), fun _ => ⟨b, h1, h2, h3, h4, h5⟩⟩
    · exact ⟨(0, []), fun h => absurd h hj⟩
  obtain ⟨f, hf⟩ := Classical.axiomOfChoice hh
  have hg : ∀ j, j < k → ((List.range k).map f)[j]? = some (f j) := by
    intro j hj
    rw [List.getElem?_map, List.getElem?_range hj]; rfl
  refine ⟨(List.range k).map f, by simp, fun u hu => ?_⟩
  refine RdT.of_own (B := u.heap.size) (own_keepTI ho (.inr rfl) hu.ti) ⟨by simp [h.1], fun j hj => ?_⟩ (Nat.le_refl _) (by omega)
  have hj : j < k := by simpa using hj
  obtain ⟨b, h1, h2, h3, h4, h5⟩ := hf j hj
  rw [hg j hj]
  exact ⟨_, _, _, h1, h2, Nat.le_refl _, OwI.rd' ⟨h3.1, (hu.ti b ⟨_, _, .inl rfl, h3.2⟩).trans h3.2⟩ h4 (by omega)⟩

/-- The state of a draw between two steps: the result's box gz, the cluster's box gc, the reader g; R outlives steps that leave integers, tasks and units alone. -/
structure DwS (w0 w : World) (g gc q : Nat) (v1 v2 : Value) (R : World → Prop) : Prop where
  b : Below w0.heap.size w0 w
  z : Blk w w0.heap.size 26 #[.slice none 0 0, .slice none 0 0]
  c : Blk w gc 26 #[v1, v2]
  k : ∀ u, KeepTU w u → R u
  r : Rdr w g q
  lg : w0.heap.size < g
  lc : g < gc
section
variable {w0 w w' : World} {g gc q q' : Nat} {v1 v2 : Value} {R : World → Prop}
theorem DwS.only (h : DwS w0 w g gc q v1 v2 R) (o : OnlyG w w' g) (r : Rdr w' g q') : DwS w0 w' g gc q' v1 v2 R :=
  ⟨h.b.trans (o.belowB (B := w0.heap.size) (by have := h.lg; omega) h.b.size), o.blk h.z (by have := h.lg; omega), o.blk h.c (by have := h.lc; omega), fun u hu => h.k u ((keepTU_rdr h.r o).trans hu), r, h.lg, h.lc⟩
theorem DwS.alloc (h : DwS w0 w g gc q v1 v2 R) (o : Obj) : DwS w0 (w.alloc o) g gc q v1 v2 R :=
  have al := alloc_up w o
  ⟨h.b.trans (al.mono h.b.size), h.z.below al h.z.lt, h.c.below al h.c.lt, fun u hu => h.k u ((KeepTU.up al).trans hu), h.r.below al, h.lg, h.lc⟩
theorem DwS.drew (h : DwS w0 w g gc q v1 v2 R) : DwS w0 w.drew g gc q v1 v2 R := ⟨h.b.drew, h.z.drew, h.c.drew, fun u hu => h.k u hu, h.r.keep (fun _ _ => rfl), h.lg, h.lc⟩
theorem DwS.cells (h : DwS w0 w g gc q v1 v2 R) : w.cell? ⟨gc, 0, none⟩ = some v1 ∧ w.cell? ⟨gc, 1, none⟩ = some v2 := ⟨h.c.cell 0, h.c.cell 1⟩
/-- The result's box is written. -/
theorem DwS.put (h : DwS w0 w g gc q v1 v2 R) : Below w0.heap.size w0 ((w.setCell ⟨w0.heap.size, 0, none⟩ v1).setCell ⟨w0.heap.size, 1, none⟩ v2) ∧ Blk ((w.setCell ⟨w0.heap.size, 0, none⟩ v1).setCell ⟨w0.heap.size, 1, none⟩ v2) w0.heap.size 26 #[v1, v2] ∧ Blk ((w.setCell ⟨w0.heap.size, 0, none⟩ v1).setCell ⟨w0.heap.size, 1, none⟩ v2) gc 26 #[v1, v2] ∧ ∀ u, KeepTU ((w.setCell ⟨w0.heap.size, 0, none⟩ v1).setCell ⟨w0.heap.size, 1, none⟩ v2) u → R u := by
  have l1 := h.lg
  have l2 := h.lc
  exact ⟨((h.b).setCell (p := ⟨w0.heap.size, 0, none⟩) (Nat.le_refl _) v1).setCell (p := ⟨w0.heap.size, 1, none⟩) (Nat.le_refl _) v2, ((h.z.set_ 0 v1).set_ 1 v2),
    (h.c.far (p := ⟨w0.heap.size, 0, none⟩) (by show gc ≠ w0.heap.size; omega) v1).far (p := ⟨w0.heap.size, 1, none⟩) (by show gc ≠ w0.heap.size; omega) v2,
    fun u hu => h.k _ (((KeepTU.set_ h.z (by decide) (by decide) (by decide) 0 v1).trans (KeepTU.set_ (h.z.set_ 0 v1) (by decide) (by decide) (by decide) 1 v2)).trans hu)⟩
end


set_option maxRecDepth 100000 in
set_option maxHeartbeats 1600000 in
theorem drawBatchNeed_any (A : Option Addr) (n c : Nat) (w : World) (h : RdU w w.heap.size A n) (hc : n ≤ c) (hcm : c ≤ 9223372036854775807) :
    Calls Tryz.prog 14 #[.slice A n c] w fun e w' => ∃ A1 m1 c1 A2 m2 c2 room us At nt ct ts, e = .returned (.tuple #[.agg #[.slice A1 m1 c1, .slice A2 m2 c2], .slice At nt ct]) ∧ RdC w' A1 A2 m1 m2 room us ∧ ShU us ∧ m1 ≤ 3 ∧ m1 ≤ c1 ∧ m2 ≤ c2 ∧ RdT w' w'.heap.size At nt ts ∧ nt ≤ 7 ∧ nt ≤ ct ∧ Below w.heap.size w w' := by
  have B1 := qh (alloc_up w (.cells #[.slice none 0 0, .slice none 0 0] 26))
  have Z1 := qh (Blk.new w 26 #[.slice none 0 0, .slice none 0 0])
  have U1 := qh (rdU_up h B1.out)
  clear h
  go_enter Tryz.func14, Tryz.ntmps14
  go_wp2_with fail
  generalize w.alloc (.cells #[.slice none 0 0, .slice none 0 0] 26) = w1 at B1 Z1 U1 ⊢
  refine (l6Open_any A n c w1 U1.out hc hcm).mono ?_; rintro e w2 ⟨rfl, R2, hb2⟩
  have B2 := qh (B1.out.trans (hb2.mono B1.out.size))
  have Z2 := qh (Z1.out.below hb2 Z1.out.lt)
  have HR2 := qh R2
  have lz := Z1.out.lt
  have lg := B1.out.size
  clear hb2 R2 U1
  go_wp2_with fail
  refine (l92Cluster_any w1.heap.size 0 w2 HR2.out (by omega)).mono ?_; rintro e w3 hD
  obtain ⟨A1, m1, c1, A2, m2, c2, room, us, rfl, hr, hs, hm1, hc1, hc2, o3, q, hq, r3⟩ := hD
  have S4 := qh (show DwS w (w3.alloc (.cells #[.slice A1 m1 c1, .slice A2 m2 c2] 26)) w1.heap.size w3.heap.size q (.slice A1 m1 c1) (.slice A2 m2 c2) (fun u => RdC u A1 A2 m1 m2 room us) from by
    have al := alloc_up w3 (.cells #[.slice A1 m1 c1, .slice A2 m2 c2] 26)
    have b3 := B2.out.trans (o3.belowB (B := w.heap.size) lg B2.out.size)
    have z3 := o3.blk Z2.out (by omega)
    exact ⟨b3.trans (al.mono b3.size), z3.below al z3.lt, Blk.new w3 _ _, fun u hu => hr u ((KeepTU.up al).trans hu), r3.below al, lz, r3.lt⟩)
  have Hs := qh hs
  clear hr hs o3 r3 B2 Z2 HR2 B1 Z1
  go_wp2_with fail
  generalize w3.heap.size = gc at S4 ⊢
  generalize w3.alloc (.cells #[.slice A1 m1 c1, .slice A2 m2 c2] 26) = w4 at S4 ⊢
  generalize w1.heap.size = g at *
  refine wp_region_mixL (.take 0 (.take 1 (.bar 2 (.last 3 (.last 4 .nil))))) [3, 4] (fun w' => w'.cell? ⟨gc, 0, none⟩ = some (.slice A1 m1 c1) ∧ w'.cell? ⟨gc, 1, none⟩ = some (.slice A2 m2 c2)) (by kernel_rfl) (by kernel_rfl) S4.out.drew.cells (fun _ => ?_)
  have S44 := qh S4.out.drew
  clear S4
  generalize w4.drew = w44 at S44 ⊢
  repeat ((first | refine wpMixL_skip (by rfl) (by rfl) ?_ | (refine wpMixL_take (v := ?_) (by rfl) (by rfl) (fun wS hSt => ?_) ?_; rotate_left; (focus ((try dsimp only at hSt); (go_simp <;> with_reducible rfl); done)))); (try simp only [Act.put, pS, pZ, pC]))
  (refine wpMixL_bar (by rfl) (fun K hK => ?_); go_simp)
  have lg4 : g < w44.heap.size := S44.out.r.lt
  refine (l92Batch_any g q w44 S44.out.r (by omega)).mono ?_; rintro e w5 ⟨At, nt, ct, vs, rfl, hnt, ho5, ht5, o5, q5, hq5, r5⟩
  obtain ⟨ts, hts, hrt⟩ := ht5.readK ho5 (by omega)
  have hct := own_cap' ho5
  have S5 := qh (show DwS w w5 g gc q5 (.slice A1 m1 c1) (.slice A2 m2 c2) (fun u => RdC u A1 A2 m1 m2 room us ∧ RdT u u.heap.size At nt ts) from
    have x := S44.out.only o5 r5
    ⟨x.b, x.z, x.c, fun u hu => ⟨x.k u hu, hrt u hu⟩, x.r, x.lg, x.lc⟩)
  clear o5 r5 ho5 ht5 hrt hts S44 vs
  ((try dsimp only); refine nxK hK _ _ (S5.out.cells) ?_; clear hK K; (try simp only [Act.put, pS, pZ, pC]))
  have x0 := S5.out.z.cell 0
  have x1 := S5.out.z.cell 1
  simp only [gT, gZ, gS] at x0 x1
  have x2 := S5.out.z.frozen 0
  have x3 := S5.out.z.frozen 1
  (refine wpMixL_last (by rfl) (fun K hK => ?_); go_simp)
  obtain ⟨b9, e9, d9, k9⟩ := S5.out.put
  have B9 := qh b9
  have E9 := qh e9
  have D9 := qh d9
  have K9 := qh k9
  clear b9 e9 d9 k9 x0 x1 x2 x3
  ((try dsimp only); refine hK.out _ _ ?_; clear hK K; (try simp only [Act.put, pS, pZ, pC]))
  generalize (World.setCell (World.setCell w5 ⟨w.heap.size, 0, none⟩ (.slice A1 m1 c1)) ⟨w.heap.size, 1, none⟩ (.slice A2 m2 c2)) = w9 at B9 E9 D9 K9 ⊢
  (refine wpMixL_last (by rfl) (fun K hK => ?_); go_simp)
  ((try dsimp only); refine hK.out _ _ ?_; clear hK K; (try simp only [Act.put, pS, pZ, pC]))
  refine wpMixL_nil ?_
  go_wp2_with fail
  have y0 : w9.cell? ⟨w.heap.size, 0, none⟩ = some (.slice A1 m1 c1) := E9.out.cell 0
  have y1 : w9.cell? ⟨w.heap.size, 1, none⟩ = some (.slice A2 m2 c2) := E9.out.cell 1
  refine bodyPost_ret (v := .tuple #[.agg #[.slice A1 m1 c1, .slice A2 m2 c2], .slice At nt ct]) (by simp [results, Tryz.results14, go_sem, y0, y1]) rfl ⟨A1, m1, c1, A2, m2, c2, room, us, At, nt, ct, ts, rfl, (K9.out _ (fun _ _ => rfl)).1, Hs.out, hm1, hc1, hc2, (K9.out _ (fun _ _ => rfl)).2, by omega, hct, B9.out⟩


set_option maxRecDepth 100000 in
set_option maxHeartbeats 1600000 in
theorem drawBatchDoK_any (A : Option Addr) (n c : Nat) (w : World) (h : RdU w w.heap.size A n) (hc : n ≤ c) (hcm : c ≤ 9223372036854775807) :
    Calls Tryz.prog 20 #[.slice A n c] w fun e w' => ∃ A1 m1 c1 A2 m2 c2 room us At nt ct ts gv, e = .returned (.tuple #[.agg #[.slice A1 m1 c1, .slice A2 m2 c2], .slice At nt ct, .int .i64 gv]) ∧ (∀ u, KeepTU w' u → RdC u A1 A2 m1 m2 room us ∧ RdT u u.heap.size At nt ts) ∧ ShU us ∧ m1 ≤ 3 ∧ m1 ≤ c1 ∧ m2 ≤ c2 ∧ nt ≤ 7 ∧ nt ≤ ct ∧ Below w.heap.size w w' := by
  have B1 := qh (alloc_up w (.cells #[.slice none 0 0, .slice none 0 0] 26))
  have Z1 := qh (Blk.new w 26 #[.slice none 0 0, .slice none 0 0])
  have U1 := qh (rdU_up h B1.out)
  clear h
  go_enter Tryz.func20, Tryz.ntmps20
  go_wp2_with fail
  generalize w.alloc (.cells #[.slice none 0 0, .slice none 0 0] 26) = w1 at B1 Z1 U1 ⊢
  refine (l6Open_any A n c w1 U1.out hc hcm).mono ?_; rintro e w2 ⟨rfl, R2, hb2⟩
  have B2 := qh (B1.out.trans (hb2.mono B1.out.size))
  have Z2 := qh (Z1.out.below hb2 Z1.out.lt)
  have HR2 := qh R2
  have lz := Z1.out.lt
  have lg := B1.out.size
  clear hb2 R2 U1
  go_wp2_with fail
  refine (l92Cluster_any w1.heap.size 0 w2 HR2.out (by omega)).mono ?_; rintro e w3 hD
  obtain ⟨A1, m1, c1, A2, m2, c2, room, us, rfl, hr, hs, hm1, hc1, hc2, o3, q, hq, r3⟩ := hD
  have S4 := qh (show DwS w (w3.alloc (.cells #[.slice A1 m1 c1, .slice A2 m2 c2] 26)) w1.heap.size w3.heap.size q (.slice A1 m1 c1) (.slice A2 m2 c2) (fun u => RdC u A1 A2 m1 m2 room us) from by
    have al := alloc_up w3 (.cells #[.slice A1 m1 c1, .slice A2 m2 c2] 26)
    have b3 := B2.out.trans (o3.belowB (B := w.heap.size) lg B2.out.size)
    have z3 := o3.blk Z2.out (by omega)
    exact ⟨b3.trans (al.mono b3.size), z3.below al z3.lt, Blk.new w3 _ _, fun u hu => hr u ((KeepTU.up al).trans hu), r3.below al, lz, r3.lt⟩)
  have Hs := qh hs
  clear hr hs o3 r3 B2 Z2 HR2 B1 Z1
  go_wp2_with fail
  generalize w3.heap.size = gc at S4 ⊢
  generalize w3.alloc (.cells #[.slice A1 m1 c1, .slice A2 m2 c2] 26) = w4 at S4 ⊢
  generalize w1.heap.size = g at *
  have lg4 : g < w4.heap.size := S4.out.r.lt
  refine (l92Batch_any g q w4 S4.out.r (by omega)).mono ?_; rintro e w5 ⟨At, nt, ct, vs, rfl, hnt, ho5, ht5, o5, q5, hq5, r5⟩
  obtain ⟨ts, hts, hrt⟩ := ht5.readK ho5 (by omega)
  have hct := own_cap' ho5
  have S5 := qh (show DwS w w5 g gc q5 (.slice A1 m1 c1) (.slice A2 m2 c2) (fun u => RdC u A1 A2 m1 m2 room us ∧ RdT u u.heap.size At nt ts) from
    have x := S4.out.only o5 r5
    ⟨x.b, x.z, x.c, fun u hu => ⟨x.k u hu, hrt u hu⟩, x.r, x.lg, x.lc⟩)
  clear o5 r5 ho5 ht5 hrt hts S4 vs
  go_wp2_with fail
  refine (pick_at 24 S5.out.r rfl (by omega) (by omega) (by omega)).mono ?_; rintro e w6 ⟨k6, rfl, hk6, r6, o6⟩
  have S6 := qh (S5.out.only o6 r6)
  have lg6 : g < w6.heap.size := r6.lt
  clear o6 r6 S5
  by_cases h0 : k6 = 0
  · have t0 : ((k6 : Int) == 0) = true := by rw [h0]; rfl
    clear h0
    go_upto_region 5 with fail
    refine wp_region_mixL (.take 0 (.take 1 (.take 3 (.fork 2 (.bar 4 (.take 5 (.fork 6 (.bar 7 (.take 8 (.take 9 .nil))) 7 (.take 8 (.bar 6 (.take 9 .nil)))))) 4 (.fork 2 (.take 5 (.fork 6 (.bar 7 (.take 8 (.take 9 .nil))) 7 (.take 8 (.bar 6 (.take 9 .nil))))) 7 (.take 8 (.bar 2 (.take 5 (.bar 6 (.take 9 .nil)))))))))) [] (fun w' => w'.cell? ⟨gc, 0, none⟩ = some (.slice A1 m1 c1) ∧ w'.cell? ⟨gc, 1, none⟩ = some (.slice A2 m2 c2)) (by kernel_rfl) (by kernel_rfl) S6.out.drew.cells (fun _ => ?_)
    have S7 := qh S6.out.drew
    have lg7 : g < w6.drew.heap.size := lg6
    clear S6
    generalize w6.drew = w7 at S7 lg7 ⊢
    (refine wpMixL_take (v := ?_) (by rfl) (by rfl) (fun wS hSt => ?_) ?_; rotate_left; (focus ((try dsimp only at hSt); (go_simp <;> with_reducible rfl); done)); (try simp only [Act.put, pS, pZ, pC]))
    (refine wpMixL_take (v := ?_) (by rfl) (by rfl) (fun wS hSt => ?_) ?_; rotate_left; (focus ((try dsimp only at hSt); (go_simp <;> with_reducible rfl); done)); (try simp only [Act.put, pS, pZ, pC]))
    (refine wpMixL_take (v := ?_) (by rfl) (by rfl) (fun wS hSt => ?_) ?_; rotate_left; (focus ((try dsimp only at hSt); (go_simp <;> with_reducible rfl); done)); (try simp only [Act.put, pS, pZ, pC]))
    refine wpMixL_fork (by rfl) (by rfl) (fun K hK => ?_) (fun K hK => ?_)
    · go_simp
      have S8 := qh (S7.out.alloc (.cells #[.int .i64 (-1), .int .i64 10, .int .i64 11] 3))
      have L8 := qh (Blk.new w7 3 #[.int .i64 (-1), .int .i64 10, .int .i64 11])
      ((try dsimp only); refine nxK hK _ _ (S8.out.cells) ?_; clear hK K; (try simp only [Act.put, pS, pZ, pC]))
      (refine wpMixL_bar (by rfl) (fun K hK => ?_); go_simp)
      refine (pick_at 3 S8.out.r rfl (by omega) (by omega) (by omega)).mono ?_; rintro e w8 ⟨k8, rfl, hk8, r8, o8⟩
      have S9 := qh (S8.out.only o8 r8)
      have L9 := qh (o8.blk L8.out (by omega))
      clear o8 r8 L8 S8
      ((try dsimp only); refine nxK hK _ _ (S9.out.cells) ?_; clear hK K; (try simp only [Act.put, pS, pZ, pC]))
      generalize w7.heap.size = gl at L9 lg7 ⊢
      obtain ⟨w9, hw9⟩ : ∃ w9 : World, w9 = w8 := ⟨_, rfl⟩
      rw [← hw9] at S9 L9 ⊢
      clear hw9
      have hg9 : w.heap.size < g := S9.out.lg
      obtain ⟨gv, hgv⟩ : ∃ gv : Int, w9.cell? ⟨gl, k8, none⟩ = some (.int .i64 gv) := by
        rw [L9.out.cell]
        match k8, hk8 with
        | 0, _ => exact ⟨-1, rfl⟩
        | 1, _ => exact ⟨10, rfl⟩
        | 2, _ => exact ⟨11, rfl⟩
      have k81 : (0 : Int) ≤ (k8 : Int) := by omega
      have k82 : (k8 : Int) < 3 := by omega
      (refine wpMixL_take (v := ?_) (by rfl) (by rfl) (fun wS hSt => ?_) ?_; rotate_left; (focus ((try dsimp only at hSt); (go_simp <;> with_reducible rfl); done)); (try simp only [Act.put, pS, pZ, pC]))
      refine wpMixL_fork (by rfl) (by rfl) (fun K hK => ?_) (fun K hK => ?_)
      · go_simp
        ((try dsimp only); refine nxK hK _ _ (S9.out.cells) ?_; clear hK K; (try simp only [Act.put, pS, pZ, pC]))
        have x0 := S9.out.z.cell 0
        have x1 := S9.out.z.cell 1
        simp only [gT, gZ, gS] at x0 x1
        have x2 := S9.out.z.frozen 0
        have x3 := S9.out.z.frozen 1
        (refine wpMixL_bar (by rfl) (fun K hK => ?_); go_simp)
        obtain ⟨b9, e9, d9, k9⟩ := S9.out.put
        have B9 := qh b9
        have E9 := qh e9
        have D9 := qh d9
        have K9 := qh k9
        clear b9 e9 d9 k9 x0 x1 x2 x3
        ((try dsimp only); refine nxK hK _ _ ((⟨D9.out.cell 0, D9.out.cell 1⟩)) ?_; clear hK K; (try simp only [Act.put, pS, pZ, pC]))
        generalize (World.setCell (World.setCell w9 ⟨w.heap.size, 0, none⟩ (.slice A1 m1 c1)) ⟨w.heap.size, 1, none⟩ (.slice A2 m2 c2)) = w9 at B9 E9 D9 K9 ⊢
        (refine wpMixL_take (v := ?_) (by rfl) (by rfl) (fun wS hSt => ?_) ?_; rotate_left; (focus ((try dsimp only at hSt); (go_simp <;> with_reducible rfl); done)); (try simp only [Act.put, pS, pZ, pC]))
        (refine wpMixL_take (v := ?_) (by rfl) (by rfl) (fun wS hSt => ?_) ?_; rotate_left; (focus ((try dsimp only at hSt); (go_simp <;> with_reducible rfl); done)); (try simp only [Act.put, pS, pZ, pC]))
        refine wpMixL_nil ?_
        go_wp2_with fail
        have y0 : w9.cell? ⟨w.heap.size, 0, none⟩ = some (.slice A1 m1 c1) := E9.out.cell 0
        have y1 : w9.cell? ⟨w.heap.size, 1, none⟩ = some (.slice A2 m2 c2) := E9.out.cell 1
        refine bodyPost_ret (v := .tuple #[.agg #[.slice A1 m1 c1, .slice A2 m2 c2], .slice At nt ct, .int .i64 (gv)]) (by simp [results, Tryz.results20, go_sem, y0, y1]) rfl ⟨A1, m1, c1, A2, m2, c2, room, us, At, nt, ct, ts, gv, rfl, K9.out, Hs.out, hm1, hc1, hc2, by omega, hct, B9.out⟩
      · have hgv2 : (World.setCell (World.setCell w9 ⟨w.heap.size, 0, none⟩ (.slice A1 m1 c1)) ⟨w.heap.size, 1, none⟩ (.slice A2 m2 c2)).cell? ⟨gl, k8, none⟩ = some (.int .i64 gv) := by
          rw [((L9.out.far (p := ⟨w.heap.size, 0, none⟩) (by show gl ≠ w.heap.size; omega) (.slice A1 m1 c1)).far (p := ⟨w.heap.size, 1, none⟩) (by show gl ≠ w.heap.size; omega) (.slice A2 m2 c2)).cell, ← L9.out.cell]; exact hgv
        have x0 := S9.out.z.cell 0
        have x1 := S9.out.z.cell 1
        simp only [gT, gZ, gS] at x0 x1
        have x2 := S9.out.z.frozen 0
        have x3 := S9.out.z.frozen 1
        go_simp
        obtain ⟨b9, e9, d9, k9⟩ := S9.out.put
        have B9 := qh b9
        have E9 := qh e9
        have D9 := qh d9
        have K9 := qh k9
        clear b9 e9 d9 k9 x0 x1 x2 x3
        ((try dsimp only); refine nxK hK _ _ ((⟨D9.out.cell 0, D9.out.cell 1⟩)) ?_; clear hK K; (try simp only [Act.put, pS, pZ, pC]))
        generalize (World.setCell (World.setCell w9 ⟨w.heap.size, 0, none⟩ (.slice A1 m1 c1)) ⟨w.heap.size, 1, none⟩ (.slice A2 m2 c2)) = w9 at B9 E9 D9 K9 hgv2 ⊢
        clear hgv
        (refine wpMixL_take (v := ?_) (by rfl) (by rfl) (fun wS hSt => ?_) ?_; rotate_left; (focus ((try dsimp only at hSt); (go_simp <;> with_reducible rfl); done)); (try simp only [Act.put, pS, pZ, pC]))
        (refine wpMixL_bar (by rfl) (fun K hK => ?_); go_simp)
        ((try dsimp only); refine nxK hK _ _ ((⟨D9.out.cell 0, D9.out.cell 1⟩)) ?_; clear hK K; (try simp only [Act.put, pS, pZ, pC]))
        (refine wpMixL_take (v := ?_) (by rfl) (by rfl) (fun wS hSt => ?_) ?_; rotate_left; (focus ((try dsimp only at hSt); (go_simp <;> with_reducible rfl); done)); (try simp only [Act.put, pS, pZ, pC]))
        refine wpMixL_nil ?_
        go_wp2_with fail
        have y0 : w9.cell? ⟨w.heap.size, 0, none⟩ = some (.slice A1 m1 c1) := E9.out.cell 0
        have y1 : w9.cell? ⟨w.heap.size, 1, none⟩ = some (.slice A2 m2 c2) := E9.out.cell 1
        refine bodyPost_ret (v := .tuple #[.agg #[.slice A1 m1 c1, .slice A2 m2 c2], .slice At nt ct, .int .i64 (gv)]) (by simp [results, Tryz.results20, go_sem, y0, y1]) rfl ⟨A1, m1, c1, A2, m2, c2, room, us, At, nt, ct, ts, gv, rfl, K9.out, Hs.out, hm1, hc1, hc2, by omega, hct, B9.out⟩
    · go_simp
      refine (pick_at 3 S7.out.r rfl (by omega) (by omega) (by omega)).mono ?_; rintro e w8 ⟨k8, rfl, hk8, r8, o8⟩
      have S8 := qh (S7.out.only o8 r8)
      have lg8 : g < w8.heap.size := r8.lt
      clear o8 r8 S7
      ((try dsimp only); refine nxK hK _ _ (S8.out.cells) ?_; clear hK K; (try simp only [Act.put, pS, pZ, pC]))
      refine wpMixL_fork (by rfl) (by rfl) (fun K hK => ?_) (fun K hK => ?_)
      · go_simp
        have S9 := qh (S8.out.alloc (.cells #[.int .i64 (-1), .int .i64 10, .int .i64 11] 3))
        have L9 := qh (Blk.new w8 3 #[.int .i64 (-1), .int .i64 10, .int .i64 11])
        ((try dsimp only); refine nxK hK _ _ (S9.out.cells) ?_; clear hK K; (try simp only [Act.put, pS, pZ, pC]))
        replace lg7 := lg8
        generalize w8.heap.size = gl at L9 lg7 lg8 ⊢
        clear S8 lg8
        generalize w8.alloc (.cells #[.int .i64 (-1), .int .i64 10, .int .i64 11] 3) = w9 at S9 L9 ⊢
        have hg9 : w.heap.size < g := S9.out.lg
        obtain ⟨gv, hgv⟩ : ∃ gv : Int, w9.cell? ⟨gl, k8, none⟩ = some (.int .i64 gv) := by
          rw [L9.out.cell]
          match k8, hk8 with
          | 0, _ => exact ⟨-1, rfl⟩
          | 1, _ => exact ⟨10, rfl⟩
          | 2, _ => exact ⟨11, rfl⟩
        have k81 : (0 : Int) ≤ (k8 : Int) := by omega
        have k82 : (k8 : Int) < 3 := by omega
        (refine wpMixL_take (v := ?_) (by rfl) (by rfl) (fun wS hSt => ?_) ?_; rotate_left; (focus ((try dsimp only at hSt); (go_simp <;> with_reducible rfl); done)); (try simp only [Act.put, pS, pZ, pC]))
        refine wpMixL_fork (by rfl) (by rfl) (fun K hK => ?_) (fun K hK => ?_)
        · go_simp
          ((try dsimp only); refine nxK hK _ _ (S9.out.cells) ?_; clear hK K; (try simp only [Act.put, pS, pZ, pC]))
          have x0 := S9.out.z.cell 0
          have x1 := S9.out.z.cell 1
          simp only [gT, gZ, gS] at x0 x1
          have x2 := S9.out.z.frozen 0
          have x3 := S9.out.z.frozen 1
          (refine wpMixL_bar (by rfl) (fun K hK => ?_); go_simp)
          obtain ⟨b9, e9, d9, k9⟩ := S9.out.put
          have B9 := qh b9
          have E9 := qh e9
          have D9 := qh d9
          have K9 := qh k9
          clear b9 e9 d9 k9 x0 x1 x2 x3
          ((try dsimp only); refine nxK hK _ _ ((⟨D9.out.cell 0, D9.out.cell 1⟩)) ?_; clear hK K; (try simp only [Act.put, pS, pZ, pC]))
          generalize (World.setCell (World.setCell w9 ⟨w.heap.size, 0, none⟩ (.slice A1 m1 c1)) ⟨w.heap.size, 1, none⟩ (.slice A2 m2 c2)) = w9 at B9 E9 D9 K9 ⊢
          (refine wpMixL_take (v := ?_) (by rfl) (by rfl) (fun wS hSt => ?_) ?_; rotate_left; (focus ((try dsimp only at hSt); (go_simp <;> with_reducible rfl); done)); (try simp only [Act.put, pS, pZ, pC]))
          (refine wpMixL_take (v := ?_) (by rfl) (by rfl) (fun wS hSt => ?_) ?_; rotate_left; (focus ((try dsimp only at hSt); (go_simp <;> with_reducible rfl); done)); (try simp only [Act.put, pS, pZ, pC]))
          refine wpMixL_nil ?_
          go_wp2_with fail
          have y0 : w9.cell? ⟨w.heap.size, 0, none⟩ = some (.slice A1 m1 c1) := E9.out.cell 0
          have y1 : w9.cell? ⟨w.heap.size, 1, none⟩ = some (.slice A2 m2 c2) := E9.out.cell 1
          refine bodyPost_ret (v := .tuple #[.agg #[.slice A1 m1 c1, .slice A2 m2 c2], .slice At nt ct, .int .i64 (gv)]) (by simp [results, Tryz.results20, go_sem, y0, y1]) rfl ⟨A1, m1, c1, A2, m2, c2, room, us, At, nt, ct, ts, gv, rfl, K9.out, Hs.out, hm1, hc1, hc2, by omega, hct, B9.out⟩
        · have hgv2 : (World.setCell (World.setCell w9 ⟨w.heap.size, 0, none⟩ (.slice A1 m1 c1)) ⟨w.heap.size, 1, none⟩ (.slice A2 m2 c2)).cell? ⟨gl, k8, none⟩ = some (.int .i64 gv) := by
            rw [((L9.out.far (p := ⟨w.heap.size, 0, none⟩) (by show gl ≠ w.heap.size; omega) (.slice A1 m1 c1)).far (p := ⟨w.heap.size, 1, none⟩) (by show gl ≠ w.heap.size; omega) (.slice A2 m2 c2)).cell, ← L9.out.cell]; exact hgv
          have x0 := S9.out.z.cell 0
          have x1 := S9.out.z.cell 1
          simp only [gT, gZ, gS] at x0 x1
          have x2 := S9.out.z.frozen 0
          have x3 := S9.out.z.frozen 1
          go_simp
          obtain ⟨b9, e9, d9, k9⟩ := S9.out.put
          have B9 := qh b9
          have E9 := qh e9
          have D9 := qh d9
          have K9 := qh k9
          clear b9 e9 d9 k9 x0 x1 x2 x3
          ((try dsimp only); refine nxK hK _ _ ((⟨D9.out.cell 0, D9.out.cell 1⟩)) ?_; clear hK K; (try simp only [Act.put, pS, pZ, pC]))
          generalize (World.setCell (World.setCell w9 ⟨w.heap.size, 0, none⟩ (.slice A1 m1 c1)) ⟨w.heap.size, 1, none⟩ (.slice A2 m2 c2)) = w9 at B9 E9 D9 K9 hgv2 ⊢
          clear hgv
          (refine wpMixL_take (v := ?_) (by rfl) (by rfl) (fun wS hSt => ?_) ?_; rotate_left; (focus ((try dsimp only at hSt); (go_simp <;> with_reducible rfl); done)); (try simp only [Act.put, pS, pZ, pC]))
          (refine wpMixL_bar (by rfl) (fun K hK => ?_); go_simp)
          ((try dsimp only); refine nxK hK _ _ ((⟨D9.out.cell 0, D9.out.cell 1⟩)) ?_; clear hK K; (try simp only [Act.put, pS, pZ, pC]))
          (refine wpMixL_take (v := ?_) (by rfl) (by rfl) (fun wS hSt => ?_) ?_; rotate_left; (focus ((try dsimp only at hSt); (go_simp <;> with_reducible rfl); done)); (try simp only [Act.put, pS, pZ, pC]))
          refine wpMixL_nil ?_
          go_wp2_with fail
          have y0 : w9.cell? ⟨w.heap.size, 0, none⟩ = some (.slice A1 m1 c1) := E9.out.cell 0
          have y1 : w9.cell? ⟨w.heap.size, 1, none⟩ = some (.slice A2 m2 c2) := E9.out.cell 1
          refine bodyPost_ret (v := .tuple #[.agg #[.slice A1 m1 c1, .slice A2 m2 c2], .slice At nt ct, .int .i64 (gv)]) (by simp [results, Tryz.results20, go_sem, y0, y1]) rfl ⟨A1, m1, c1, A2, m2, c2, room, us, At, nt, ct, ts, gv, rfl, K9.out, Hs.out, hm1, hc1, hc2, by omega, hct, B9.out⟩
      · have hk : w.heap.size < g := S8.out.lg
        have x0 := S8.out.z.cell 0
        have x1 := S8.out.z.cell 1
        simp only [gT, gZ, gS] at x0 x1
        have x2 := S8.out.z.frozen 0
        have x3 := S8.out.z.frozen 1
        go_simp
        obtain ⟨b9, e9, d9, k9⟩ := S8.out.put
        have B9 := qh b9
        have E9 := qh e9
        have D9 := qh d9
        have K9 := qh k9
        clear b9 e9 d9 k9 x0 x1 x2 x3
        ((try dsimp only); refine nxK hK _ _ ((⟨D9.out.cell 0, D9.out.cell 1⟩)) ?_; clear hK K; (try simp only [Act.put, pS, pZ, pC]))
        generalize (World.setCell (World.setCell w8 ⟨w.heap.size, 0, none⟩ (.slice A1 m1 c1)) ⟨w.heap.size, 1, none⟩ (.slice A2 m2 c2)) = w9 at B9 E9 D9 K9 ⊢
        (refine wpMixL_take (v := ?_) (by rfl) (by rfl) (fun wS hSt => ?_) ?_; rotate_left; (focus ((try dsimp only at hSt); (go_simp <;> with_reducible rfl); done)); (try simp only [Act.put, pS, pZ, pC]))
        (refine wpMixL_bar (by rfl) (fun K hK => ?_); go_simp)
        have L10 := qh (Blk.new w9 3 #[.int .i64 (-1), .int .i64 10, .int .i64 11])
        have K10 := qh (fun u hu => K9.out u ((KeepTU.up (alloc_up w9 (.cells #[.int .i64 (-1), .int .i64 10, .int .i64 11] 3))).trans hu))
        have B10 := qh (B9.out.alloc B9.out.size (.cells #[.int .i64 (-1), .int .i64 10, .int .i64 11] 3))
        have E10 := qh (E9.out.alloc (.cells #[.int .i64 (-1), .int .i64 10, .int .i64 11] 3))
        have D10 := qh (D9.out.alloc (.cells #[.int .i64 (-1), .int .i64 10, .int .i64 11] 3))
        ((try dsimp only); refine nxK hK _ _ ((⟨D10.out.cell 0, D10.out.cell 1⟩)) ?_; clear hK K; (try simp only [Act.put, pS, pZ, pC]))
        clear B9 E9 D9 K9 S8
        generalize w9.heap.size = gl at L10 ⊢
        generalize w9.alloc (.cells #[.int .i64 (-1), .int .i64 10, .int .i64 11] 3) = w10 at B10 E10 D10 K10 L10 ⊢
        obtain ⟨gv, hgv⟩ : ∃ gv : Int, w10.cell? ⟨gl, k8, none⟩ = some (.int .i64 gv) := by
          rw [L10.out.cell]
          match k8, hk8 with
          | 0, _ => exact ⟨-1, rfl⟩
          | 1, _ => exact ⟨10, rfl⟩
          | 2, _ => exact ⟨11, rfl⟩
        have k81 : (0 : Int) ≤ (k8 : Int) := by omega
        have k82 : (k8 : Int) < 3 := by omega
        (refine wpMixL_take (v := ?_) (by rfl) (by rfl) (fun wS hSt => ?_) ?_; rotate_left; (focus ((try dsimp only at hSt); (go_simp <;> with_reducible rfl); done)); (try simp only [Act.put, pS, pZ, pC]))
        (refine wpMixL_bar (by rfl) (fun K hK => ?_); go_simp)
        ((try dsimp only); refine nxK hK _ _ ((⟨D10.out.cell 0, D10.out.cell 1⟩)) ?_; clear hK K; (try simp only [Act.put, pS, pZ, pC]))
        (refine wpMixL_take (v := ?_) (by rfl) (by rfl) (fun wS hSt => ?_) ?_; rotate_left; (focus ((try dsimp only at hSt); (go_simp <;> with_reducible rfl); done)); (try simp only [Act.put, pS, pZ, pC]))
        refine wpMixL_nil ?_
        go_wp2_with fail
        clear D10 L10 hgv
        generalize w10 = w9 at B10 E10 K10 ⊢
        have B9 := B10
        have E9 := E10
        have K9 := K10
        have y0 : w9.cell? ⟨w.heap.size, 0, none⟩ = some (.slice A1 m1 c1) := E9.out.cell 0
        have y1 : w9.cell? ⟨w.heap.size, 1, none⟩ = some (.slice A2 m2 c2) := E9.out.cell 1
        refine bodyPost_ret (v := .tuple #[.agg #[.slice A1 m1 c1, .slice A2 m2 c2], .slice At nt ct, .int .i64 (gv)]) (by simp [results, Tryz.results20, go_sem, y0, y1]) rfl ⟨A1, m1, c1, A2, m2, c2, room, us, At, nt, ct, ts, gv, rfl, K9.out, Hs.out, hm1, hc1, hc2, by omega, hct, B9.out⟩

  · have t0 : ((k6 : Int) == 0) = false := by simpa using (show ¬ (k6 : Int) = 0 by omega)
    go_upto_region 6 with fail
    refine wp_region_mixL (.take 0 (.take 1 (.take 2 (.bar 3 (.bar 4 (.take 5 (.take 6 .nil))))))) [] (fun w' => w'.cell? ⟨gc, 0, none⟩ = some (.slice A1 m1 c1) ∧ w'.cell? ⟨gc, 1, none⟩ = some (.slice A2 m2 c2)) (by kernel_rfl) (by kernel_rfl) S6.out.drew.cells (fun _ => ?_)
    have S7 := qh S6.out.drew
    clear S6
    generalize w6.drew = w7 at S7 ⊢
    (refine wpMixL_take (v := ?_) (by rfl) (by rfl) (fun wS hSt => ?_) ?_; rotate_left; (focus ((try dsimp only at hSt); (go_simp <;> with_reducible rfl); done)); (try simp only [Act.put, pS, pZ, pC]))
    (refine wpMixL_take (v := ?_) (by rfl) (by rfl) (fun wS hSt => ?_) ?_; rotate_left; (focus ((try dsimp only at hSt); (go_simp <;> with_reducible rfl); done)); (try simp only [Act.put, pS, pZ, pC]))
    (refine wpMixL_take (v := ?_) (by rfl) (by rfl) (fun wS hSt => ?_) ?_; rotate_left; (focus ((try dsimp only at hSt); (go_simp <;> with_reducible rfl); done)); (try simp only [Act.put, pS, pZ, pC]))
    (refine wpMixL_bar (by rfl) (fun K hK => ?_); go_simp)
    refine (pick_at 6 S7.out.r rfl (by omega) (by omega) (by omega)).mono ?_; rintro e w8 ⟨k8, rfl, hk8, r8, o8⟩
    have S8 := qh (S7.out.only o8 r8)
    clear o8 r8 S7
    ((try dsimp only); refine nxK hK _ _ (S8.out.cells) ?_; clear hK K; (try simp only [Act.put, pS, pZ, pC]))
    have x0 := S8.out.z.cell 0
    have x1 := S8.out.z.cell 1
    simp only [gT, gZ, gS] at x0 x1
    have x2 := S8.out.z.frozen 0
    have x3 := S8.out.z.frozen 1
    (refine wpMixL_bar (by rfl) (fun K hK => ?_); go_simp)
    obtain ⟨b9, e9, d9, k9⟩ := S8.out.put
    have B9 := qh b9
    have E9 := qh e9
    have D9 := qh d9
    have K9 := qh k9
    clear b9 e9 d9 k9 x0 x1 x2 x3
    ((try dsimp only); refine nxK hK _ _ ((⟨D9.out.cell 0, D9.out.cell 1⟩)) ?_; clear hK K; (try simp only [Act.put, pS, pZ, pC]))
    generalize (World.setCell (World.setCell w8 ⟨w.heap.size, 0, none⟩ (.slice A1 m1 c1)) ⟨w.heap.size, 1, none⟩ (.slice A2 m2 c2)) = w9 at B9 E9 D9 K9 ⊢
    (refine wpMixL_take (v := ?_) (by rfl) (by rfl) (fun wS hSt => ?_) ?_; rotate_left; (focus ((try dsimp only at hSt); (go_simp <;> with_reducible rfl); done)); (try simp only [Act.put, pS, pZ, pC]))
    (refine wpMixL_take (v := ?_) (by rfl) (by rfl) (fun wS hSt => ?_) ?_; rotate_left; (focus ((try dsimp only at hSt); (go_simp <;> with_reducible rfl); done)); (try simp only [Act.put, pS, pZ, pC]))
    refine wpMixL_nil ?_
    go_wp2_with fail
    have y0 : w9.cell? ⟨w.heap.size, 0, none⟩ = some (.slice A1 m1 c1) := E9.out.cell 0
    have y1 : w9.cell? ⟨w.heap.size, 1, none⟩ = some (.slice A2 m2 c2) := E9.out.cell 1
    refine bodyPost_ret (v := .tuple #[.agg #[.slice A1 m1 c1, .slice A2 m2 c2], .slice At nt ct, .int .i64 ((k8 : Int))]) (by simp [results, Tryz.results20, go_sem, y0, y1]) rfl ⟨A1, m1, c1, A2, m2, c2, room, us, At, nt, ct, ts, (k8 : Int), rfl, K9.out, Hs.out, hm1, hc1, hc2, by omega, hct, B9.out⟩


set_option maxRecDepth 100000 in
set_option maxHeartbeats 1600000 in
theorem drawBatchDo_any (A : Option Addr) (n c : Nat) (w : World) (h : RdU w w.heap.size A n) (hc : n ≤ c) (hcm : c ≤ 9223372036854775807) :
    Calls Tryz.prog 20 #[.slice A n c] w fun e w' => ∃ A1 m1 c1 A2 m2 c2 room us At nt ct ts gv, e = .returned (.tuple #[.agg #[.slice A1 m1 c1, .slice A2 m2 c2], .slice At nt ct, .int .i64 gv]) ∧ RdC w' A1 A2 m1 m2 room us ∧ ShU us ∧ m1 ≤ 3 ∧ m1 ≤ c1 ∧ m2 ≤ c2 ∧ RdT w' w'.heap.size At nt ts ∧ nt ≤ 7 ∧ nt ≤ ct ∧ Below w.heap.size w w' :=
  (drawBatchDoK_any A n c w h hc hcm).mono (by
    rintro e w' ⟨A1, m1, c1, A2, m2, c2, room, us, At, nt, ct, ts, gv, rfl, hk, hs, hm1, hc1, hc2, hnt, hct, hb⟩
    exact ⟨A1, m1, c1, A2, m2, c2, room, us, At, nt, ct, ts, gv, rfl, (hk _ (fun _ _ => rfl)).1, hs, hm1, hc1, hc2, (hk _ (fun _ _ => rfl)).2, hnt, hct, hb⟩)


set_option maxRecDepth 100000 in
set_option maxHeartbeats 1600000 in
theorem drawBatchAll_any (A : Option Addr) (n c : Nat) (w : World) (h : RdU w w.heap.size A n) (hc : n ≤ c) (hcm : c ≤ 9223372036854775807) :
    Calls Tryz.prog 33 #[.slice A n c] w fun e w' => ∃ A1 m1 c1 A2 m2 c2 room us At nt ct ts gv, e = .returned (.tuple #[.agg #[.slice A1 m1 c1, .slice A2 m2 c2], .slice At nt ct, .int .i64 gv]) ∧ RdC w' A1 A2 m1 m2 room us ∧ ShU us ∧ m1 ≤ 3 ∧ m1 ≤ c1 ∧ m2 ≤ c2 ∧ RdT w' w'.heap.size At nt ts ∧ nt ≤ 7 ∧ nt ≤ ct ∧ Below w.heap.size w w' := by

  have B1 := qh (alloc_up w (.cells #[.slice none 0 0, .slice none 0 0] 26))
  have Z1 := qh (Blk.new w 26 #[.slice none 0 0, .slice none 0 0])
  have U1 := qh (rdU_up h B1.out)
  clear h
  go_enter Tryz.func33, Tryz.ntmps33
  go_wp2_with fail
  generalize w.alloc (.cells #[.slice none 0 0, .slice none 0 0] 26) = w1 at B1 Z1 U1 ⊢
  refine (drawBatchDoK_any A n c w1 U1.out hc hcm).mono ?_; rintro e w2 ⟨A1, m1, c1, A2, m2, c2, room, us, At, nt, ct, ts, gv, rfl, hk, hs, hm1, hc1, hc2, hnt, hct, hb⟩
  have hz := Z1.out.below hb Z1.out.lt
  have x0 := hz.cell 0
  have x1 := hz.cell 1
  simp only [gT, gZ, gS] at x0 x1
  have x2 := hz.frozen 0
  have x3 := hz.frozen 1
  have B2 := B1.out.trans (hb.mono B1.out.size)
  have KT := (KeepTU.set_ hz (by decide) (by decide) (by decide) 0 (.slice A1 m1 c1)).trans (KeepTU.set_ (hz.set_ 0 (.slice A1 m1 c1)) (by decide) (by decide) (by decide) 1 (.slice A2 m2 c2))
  have K9 := qh (hk _ KT)
  have E9 := qh ((hz.set_ 0 (.slice A1 m1 c1)).set_ 1 (.slice A2 m2 c2))
  have B9 := qh (((B2).setCell (p := ⟨w.heap.size, 0, none⟩) (Nat.le_refl _) (.slice A1 m1 c1)).setCell (p := ⟨w.heap.size, 1, none⟩) (Nat.le_refl _) (.slice A2 m2 c2))
  have Hs := qh hs
  clear hk hz B2 KT hb B1 Z1 U1 hs
  go_wp2_with fail
  generalize (World.setCell (World.setCell w2 ⟨w.heap.size, 0, none⟩ (.slice A1 m1 c1)) ⟨w.heap.size, 1, none⟩ (.slice A2 m2 c2)) = w9 at B9 E9 K9 ⊢
  have y0 : w9.cell? ⟨w.heap.size, 0, none⟩ = some (.slice A1 m1 c1) := E9.out.cell 0
  have y1 : w9.cell? ⟨w.heap.size, 1, none⟩ = some (.slice A2 m2 c2) := E9.out.cell 1
  refine bodyPost_ret (v := .tuple #[.agg #[.slice A1 m1 c1, .slice A2 m2 c2], .slice At nt ct, .int .i64 gv]) (by simp [results, Tryz.results33, go_sem, y0, y1]) rfl ⟨A1, m1, c1, A2, m2, c2, room, us, At, nt, ct, ts, gv, rfl, K9.out.1, Hs.out, hm1, hc1, hc2, K9.out.2, hnt, hct, B9.out⟩

end Go.Proofs.YtjjnbbkdjimcoaaGreat
