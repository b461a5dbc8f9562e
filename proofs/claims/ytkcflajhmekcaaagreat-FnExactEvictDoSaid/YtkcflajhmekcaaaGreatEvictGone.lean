/- Walk: the reference's l42Gone. -/
import Derived.Test.YtkcflajhmekcaaaGreatEvictOk
import Derived.Test.YtkcflajhmekcaaaGreatFitsSpec
import Derived.Deep.LoopGhost
namespace Go.Proofs.YtkcflajhmekcaaaGreat
open Go.RowKit
attribute [local go_sem ↓] Go.wp_at_zero Go.wp_at_succ

theorem bool_info : (Tryz.prog.info? 4).map (fun i => (i.zero, i.size, i.bytes)) = some (some (.bool false), 1, 1) := by kernel_rfl
theorem made_flags (n : Nat) : madeCells #[.bool false] n = flA (fun _ => false) n := by
  rw [flA_same]
  apply Array.toList_inj.1
  rw [toList_madeCells_one]
  simp

set_option maxRecDepth 100000 in
set_option maxHeartbeats 3200000 in
theorem l42Gone_any (A1 A2 A3 A4 : Option Addr) (n1 c1 n c2 c3 c4 : Nat) (room rk : List Int) (ts : List Tk) (id : Int) (xs : List Int) (r : Int) (w : World) (h1 : RdI w w.heap.size A1 n1 room) (h2 : RdT w w.heap.size A2 n ts)
    (h3 : RdI w w.heap.size A3 n rk) (h4 : RdI w w.heap.size A4 3 xs) (hn1 : 3 ≤ n1) (hn : n ≤ 900) (hv : ∀ t ∈ ts, vecOk t.2 = true) (hx : vecOk xs = true) :
    Calls Tryz.prog 28 #[.slice A1 n1 c1, .slice A2 n c2, .slice A3 n c3, .agg #[.int .i64 id, .slice A4 3 c4], .int .i64 r] w fun e w' =>
      ((goneP room ts rk xs r = none ∧ ∃ A c, e = .returned (.tuple #[.slice A 0 c, .bool false])) ∨
       ∃ g b, goneP room ts rk xs r = some g ∧ e = .returned (.tuple #[.slice (some ⟨b, 0, none⟩) n n, .bool true]) ∧ Blk w' b 4 (flA g n) ∧ w.heap.size ≤ b) ∧ Below w.heap.size w w' := by
  obtain ⟨i0, hi0, hz0, hz1, hz2⟩ := info_parts bool_info
  have hl := Lib.hid h2.len
  have H1 := Lib.hid h1
  have H2 := Lib.hid h2
  have H3 := Lib.hid h3
  have H4 := Lib.hid h4
  have Hv := Lib.hid hv
  have Hx := Lib.hid hx
  clear h1 h2 h3 h4 hv hx
  have hmk := run_make_n (P := Tryz.prog) 51 4 i0 _ Tryz.underlying51 hi0 hz0 n (by rw [hz2]; omega) (by omega)
  simp only [Value.cells, hz1, Nat.mul_one, made_flags] at hmk
  clear hi0 hz0 hz2
  have B0 := Lib.hid (new_up w (.cells #[.int .i64 id, .slice A4 3 c4] 33))
  have P0 := Lib.hid (Blk.new w 33 #[.int .i64 id, .slice A4 3 c4])
  have sz : (w.alloc (.cells #[.int .i64 id, .slice A4 3 c4] 33)).heap.size = w.heap.size + 1 := World.size_alloc _ _
  have SZ := Lib.hid sz
  clear sz
  go_enter Tryz.func28, Tryz.ntmps28
  go_wp2_with fail
  have Hmk := Lib.hid hmk
  clear hmk
  have B1 := Lib.hid (B0.out.alloc B0.out.size (.cells (flA (fun _ => false) n) 4))
  have P1 := Lib.hid (P0.out.alloc (.cells (flA (fun _ => false) n) 4))
  have F1 := Lib.hid (show Blk ((w.alloc (.cells #[.int .i64 id, .slice A4 3 c4] 33)).alloc (.cells (flA (fun _ => false) n) 4)) (w.heap.size + 1) 4 (flA (fun _ => false) n) from by
    have := Blk.new (w.alloc (.cells #[.int .i64 id, .slice A4 3 c4] 33)) 4 (flA (fun _ => false) n)
    rwa [SZ.out] at this)
  generalize (w.alloc (.cells #[.int .i64 id, .slice A4 3 c4] 33)).alloc (.cells (flA (fun _ => false) n) 4) = W1 at B1 P1 F1 ⊢
  have hld := load_ok Hv.out
  have Hld := Lib.hid hld
  clear hld
  -- whether there is room beside those who stay
  have hfit : ∀ (wr : World) (g : Nat → Bool) (A : Option Addr) (c m base B : Nat) (vs : List Value), Below w.heap.size w wr → B ≤ wr.heap.size → wr.ownsRow base 33 2 (.slice A m c) m vs → TkCells wr B vs (keptP ts g n) → (keptP ts g n).length = m →
      Calls Tryz.prog 48 #[.slice A1 n1 c1, .slice A m c, .agg #[.int .i64 id, .slice A4 3 c4]] wr fun e w' => e = .returned (.bool (fitE room ts xs g)) ∧ Below wr.heap.size wr w' := by
    intro wr g A c m base B vs hb hB ho ht hm
    have hk := keptP_len ts g n
    have hv' : ∀ t ∈ keptP ts g n, vecOk t.2 = true := fun t ht => Hv.out t (keptP_mem (by rw [hl.out]; exact Nat.le_refl _) ht)
    have := l11Fits_any A1 A A4 n1 c1 m c c4 room (keptP ts g n) id xs wr (H1.out.up hb) (RdT.of_own ho ht hB (by omega)) (H4.out.up hb) hn1 (by omega) (fun j hj => (load_ok hv').1 j (by omega)) (load_ok hv').2
      (fun j _ => by have := vecOk_bd Hx.out j; omega)
    rw [fitE, hl.out]
    exact this
  have Hfit := Lib.hid hfit
  clear hfit
  obtain ⟨R, hR⟩ : ∃ R, R = takeP (fitE room ts xs) n rk r (n + 1) [] := ⟨_, rfl⟩
  have HR := Lib.hid hR
  clear hR
  go_loopg [13] (n + 1) (fun gk a wr => ∃ l : List Nat, takeP (fitE room ts xs) n rk r gk l = R ∧ l.length + gk = n + 1 ∧ l.Nodup ∧ (∀ j ∈ l, j < n) ∧ Below w.heap.size w wr ∧ Blk wr w.heap.size 33 #[.int .i64 id, .slice A4 3 c4] ∧ Blk wr (w.heap.size + 1) 4 (flA (inL l) n))
  case atStart => exact ⟨[], HR.out.symm, by simp, List.nodup_nil, fun j hj => (by cases hj), B1.out, P1.out, by rw [inL_nil]; exact F1.out⟩
  case round =>
    obtain ⟨l, hl1, hl2, hl3, hl4, hbel, hbx, hfl⟩ := hrel
    have Hl := Lib.hid (And.intro hl1 (And.intro hl2 (And.intro hl3 hl4)))
    have Hbx := Lib.hid hbx
    have Hfl := Lib.hid hfl
    have Hbel := Lib.hid hbel
    clear hl1 hl2 hl3 hl4 hbel hbx hfl
    have keep := Lib.hid (show ∀ W, Below wr.heap.size wr W → W.cell? ⟨w.heap.size, 0, none⟩ = some (.int .i64 id) ∧ W.cell? ⟨w.heap.size, 1, none⟩ = some (.slice A4 3 c4) from fun W hW =>
      ⟨(hW.cell (p := ⟨w.heap.size, 0, none⟩) Hbx.out.lt).trans (Hbx.out.cell 0), (hW.cell (p := ⟨w.heap.size, 1, none⟩) Hbx.out.lt).trans (Hbx.out.cell 1)⟩)
    have K0 := keep.out wr.drew (Below.refl _ _).drew
    have hlen : l.length ≤ n := nodup_le Hl.out.2.2.1 Hl.out.2.2.2
    have Hlen := Lib.hid hlen
    clear hlen
    go_wp2_with fail
    refine wp_region_mix (.take 0 (.take 1 (.take 2 (.take 4 (.bar 3 (.bar 5 (.take 6 .nil))))))) (fun w' => w'.cell? ⟨w.heap.size, 0, none⟩ = some (.int .i64 id) ∧ w'.cell? ⟨w.heap.size, 1, none⟩ = some (.slice A4 3 c4)) (by kernel_rfl) (by kernel_rfl) K0 (fun _ => ?_)
    clear K0
    repeat (first | (refine wpMix_skip (by rfl) (by rfl) ?_; (try simp only [Act.put, List.setIfInBounds_toArray, List.set_cons_zero, List.set_cons_succ])) | (refine wpMix_take (v := ?_) (by rfl) (by rfl) (fun wS hSt => ?_) ?_; rotate_left; (focus ((try dsimp only at hSt); (go_simp <;> with_reducible rfl); done)); (try simp only [Act.put, List.setIfInBounds_toArray, List.set_cons_zero, List.set_cons_succ])))
    (refine wpMix_bar (by rfl) (fun K hK => ?_); go_simp)
    refine (l42Rest_any A2 _ n c2 n n ts (inL l) _ (H2.out.up Hbel.out.drew) (RdF.of_blk Hfl.out.drew (by omega)) (Nat.le_refl _) (by omega)).mono ?_; rintro e w2 ⟨A5, m5, c5, vs5, rfl, hm5, hown5, htk5, hlen5, hb5⟩
    have HQ2 := Lib.hid (below_to (Below.refl wr.heap.size wr).drew hb5)
    have Hc := Lib.hid (Hfit.out w2 (inL l) A5 c5 m5 _ _ vs5 (below_to Hbel.out.drew hb5) hb5.size hown5 htk5 hlen5)
    have HB2 := Lib.hid (below_to Hbel.out.drew hb5)
    clear hown5 htk5 hb5
    ((try dsimp only); refine hK.out _ _ (keep.out _ HQ2.out) (fun hSw => ?_); (try clear hSw); clear hK K; (try simp only [Act.put, List.setIfInBounds_toArray, List.set_cons_zero, List.set_cons_succ]))
    (refine wpMix_bar (by rfl) (fun K hK => ?_); go_simp)
    refine Hc.out.mono ?_; rintro e w3 ⟨rfl, hb3⟩
    have HQ3 := Lib.hid (below_to HQ2.out hb3)
    have HB3 := Lib.hid (below_to HB2.out hb3)
    clear hb3
    ((try dsimp only); refine hK.out _ _ (keep.out _ HQ3.out) (fun hSw => ?_); (try clear hSw); clear hK K; (try simp only [Act.put, List.setIfInBounds_toArray, List.set_cons_zero, List.set_cons_succ]))
    repeat (first | (refine wpMix_skip (by rfl) (by rfl) ?_; (try simp only [Act.put, List.setIfInBounds_toArray, List.set_cons_zero, List.set_cons_succ])) | (refine wpMix_take (v := ?_) (by rfl) (by rfl) (fun wS hSt => ?_) ?_; rotate_left; (focus ((try dsimp only at hSt); (go_simp <;> with_reducible rfl); done)); (try simp only [Act.put, List.setIfInBounds_toArray, List.set_cons_zero, List.set_cons_succ])))
    refine wpMix_nil ?_
    have Hf3 := Lib.hid (Hfl.out.below HQ3.out Hfl.out.lt)
    by_cases hf : fitE room ts xs (inL l) = true
    · rw [hf]
      have Hf := Lib.hid hf
      clear hf
      have Hret := Lib.hid (show R = some l from by
        have h1 := Hl.out.1
        obtain ⟨f, rfl⟩ : ∃ f, gk = f + 1 := ⟨gk - 1, by have := Hlen.out; have := Hl.out.2.1; omega⟩
        rw [takeP, if_pos Hf.out] at h1
        exact h1.symm)
      have hmk := Hmk.out w3
      go_wp2_with fail
      clear hmk
      have B4 := Lib.hid (HB3.out.alloc HB3.out.size (.cells (flA (fun _ => false) n) 4))
      have P4 := Lib.hid ((Hbx.out.below HQ3.out Hbx.out.lt).alloc (.cells (flA (fun _ => false) n) 4))
      have F4 := Lib.hid (Hf3.out.alloc (.cells (flA (fun _ => false) n) 4))
      have S4 := Lib.hid (Blk.new w3 4 (flA (fun _ => false) n))
      have hsb : w.heap.size + 1 < w3.heap.size := Hf3.out.lt
      generalize w3.alloc (.cells (flA (fun _ => false) n) 4) = W4 at B4 P4 F4 S4 ⊢
      generalize w3.heap.size = sb at S4 hsb ⊢
      refine (l42Highest_any A3 _ _ n c3 n n n n _ _ _ rk (inL l) (fun _ => false) W4 (H3.out.up B4.out) (RdF.of_blk F4.out (by omega)) (RdF.of_blk S4.out (by omega)) (Nat.le_refl _) (Nat.le_refl _)).mono ?_; rintro e w5 ⟨rfl, m5, rfl⟩
      go_wp2_with fail
      go_loopg [15] l.length (fun gk2 a wr => ∃ (L : List Nat) (g s : Nat → Bool), a = .int .i64 (highP rk (fun j => g j && !s j) n) ∧ L.length = gk2 ∧ backP (fitE room ts xs) L g = backP (fitE room ts xs) (sortE rk l) (inL l) ∧
        (L.Pairwise fun x y => rk[y]?.getD 0 < rk[x]?.getD 0 ∨ (rk[y]?.getD 0 = rk[x]?.getD 0 ∧ x ≤ y)) ∧ (∀ j, j < n → ((g j && !s j) = true ↔ j ∈ L)) ∧ (∀ j ∈ L, j < n) ∧ L.Nodup ∧
        Below w.heap.size w wr ∧ Blk wr w.heap.size 33 #[.int .i64 id, .slice A4 3 c4] ∧ Blk wr (w.heap.size + 1) 4 (flA g n) ∧ Blk wr sb 4 (flA s n))
      case atStart =>
        exact ⟨sortE rk l, inL l, fun _ => false, by simp only [Bool.not_false, Bool.and_true], (sortE_perm rk l).length_eq, rfl, sortE_pair rk l, fun j hj => by simp [inL, sortE_mem], fun j hj => Hl.out.2.2.2 j (sortE_mem.1 hj), (sortE_perm rk l).nodup_iff.2 Hl.out.2.2.1,
          below_drewN B4.out m5, P4.out, F4.out, S4.out⟩
      case round =>
        obtain ⟨L, g, s, rfl, hgk, hbk, hpw, hmem, hlt, hnd, hbel, hbx, hg, hs⟩ := hrel
        have hh := highP_head hpw hmem hlt
        have Hbk := Lib.hid hbk
        have Hbel := Lib.hid hbel
        have Hbx := Lib.hid hbx
        have Hg := Lib.hid hg
        have Hs := Lib.hid hs
        clear hbk hbel hbx hg hs
        cases L with
        | nil =>
          simp only at hh
          rw [hh]
          go_wp2_with fail
          go_ret2
          refine ⟨.inr ⟨g, w.heap.size + 1, ?_, rfl, Hg.out, by omega⟩, Hbel.out⟩
          rw [goneP, hl.out, ← HR.out, Hret.out]
          exact congrArg some Hbk.out.symm
        | cons k L =>
          simp only at hh
          rw [hh]
          have hkn : k < n := hlt k (by simp)
          have hgk2 : gk = L.length + 1 := by simpa using hgk.symm
          have q1 : (0 : Int) ≤ (k : Int) := by omega
          have q2 : (k : Int) < (n : Int) := by omega
          have s1 := Hs.out.cell k
          rw [flA_at _ hkn] at s1
          have s2 := Hs.out.frozen k
          have g1 := (Hg.out.far (p := ⟨sb, k, none⟩) (by simp; omega) (.bool true)).cell k
          rw [flA_at _ hkn] at g1
          have g2 := (Hg.out.far (p := ⟨sb, k, none⟩) (by simp; omega) (.bool true)).frozen k
          go_wp2_with fail
          clear s1 s2 g1 g2
          have B6 := Lib.hid ((Hbel.out.setCell (p := ⟨sb, k, none⟩) (by simp; omega) (.bool true)).setCell (p := ⟨w.heap.size + 1, k, none⟩) (by simp) (.bool false))
          have X6 := Lib.hid ((Hbx.out.far (p := ⟨sb, k, none⟩) (by simp; omega) (.bool true)).far (p := ⟨w.heap.size + 1, k, none⟩) (by simp) (.bool false))
          have G6 := Lib.hid (show Blk _ (w.heap.size + 1) 4 (flA (upd g k false) n) from by have := (Hg.out.far (p := ⟨sb, k, none⟩) (by simp; omega) (.bool true)).set_ k (.bool false); rwa [flA_set] at this)
          have S6 := Lib.hid (show Blk _ sb 4 (flA (upd s k true) n) from by have := (Hs.out.set_ k (.bool true)).far (p := ⟨w.heap.size + 1, k, none⟩) (by simp; omega) (.bool false); rwa [flA_set] at this)
          generalize (wr.setCell ⟨sb, k, none⟩ (.bool true)).setCell ⟨w.heap.size + 1, k, none⟩ (.bool false) = W6 at B6 X6 G6 S6 ⊢
          have keep := Lib.hid (show ∀ W, Below W6.heap.size W6 W → W.cell? ⟨w.heap.size, 0, none⟩ = some (.int .i64 id) ∧ W.cell? ⟨w.heap.size, 1, none⟩ = some (.slice A4 3 c4) from fun W hW =>
            ⟨(hW.cell (p := ⟨w.heap.size, 0, none⟩) X6.out.lt).trans (X6.out.cell 0), (hW.cell (p := ⟨w.heap.size, 1, none⟩) X6.out.lt).trans (X6.out.cell 1)⟩)
          have K0 := keep.out W6.drew (Below.refl _ _).drew
          refine wp_region_mix (.take 0 (.take 1 (.take 2 (.take 4 (.bar 3 (.bar 5 (.take 6 .nil))))))) (fun w' => w'.cell? ⟨w.heap.size, 0, none⟩ = some (.int .i64 id) ∧ w'.cell? ⟨w.heap.size, 1, none⟩ = some (.slice A4 3 c4)) (by kernel_rfl) (by kernel_rfl) K0 (fun _ => ?_)
          clear K0
          repeat (first | (refine wpMix_skip (by rfl) (by rfl) ?_; (try simp only [Act.put, List.setIfInBounds_toArray, List.set_cons_zero, List.set_cons_succ])) | (refine wpMix_take (v := ?_) (by rfl) (by rfl) (fun wS hSt => ?_) ?_; rotate_left; (focus ((try dsimp only at hSt); (go_simp <;> with_reducible rfl); done)); (try simp only [Act.put, List.setIfInBounds_toArray, List.set_cons_zero, List.set_cons_succ])))
          (refine wpMix_bar (by rfl) (fun K hK => ?_); go_simp)
          refine (l42Rest_any A2 _ n c2 n n ts (upd g k false) _ (H2.out.up B6.out.drew) (RdF.of_blk G6.out.drew (by omega)) (Nat.le_refl _) (by omega)).mono ?_; rintro e w7 ⟨A7, m7, c7, vs7, rfl, hm7, hown7, htk7, hlen7, hb7⟩
          have HQ7 := Lib.hid (below_to (Below.refl W6.heap.size W6).drew hb7)
          have Hc7 := Lib.hid (Hfit.out w7 (upd g k false) A7 c7 m7 _ _ vs7 (below_to B6.out.drew hb7) hb7.size hown7 htk7 hlen7)
          have B7 := Lib.hid (below_to B6.out.drew hb7)
          clear hown7 htk7 hb7
          ((try dsimp only); refine hK.out _ _ (keep.out _ HQ7.out) (fun hSw => ?_); (try clear hSw); clear hK K; (try simp only [Act.put, List.setIfInBounds_toArray, List.set_cons_zero, List.set_cons_succ]))
          (refine wpMix_bar (by rfl) (fun K hK => ?_); go_simp)
          refine Hc7.out.mono ?_; rintro e w8 ⟨rfl, hb8⟩
          have HQ8 := Lib.hid (below_to HQ7.out hb8)
          have B8 := Lib.hid (below_to B7.out hb8)
          clear hb8
          ((try dsimp only); refine hK.out _ _ (keep.out _ HQ8.out) (fun hSw => ?_); (try clear hSw); clear hK K; (try simp only [Act.put, List.setIfInBounds_toArray, List.set_cons_zero, List.set_cons_succ]))
          repeat (first | (refine wpMix_skip (by rfl) (by rfl) ?_; (try simp only [Act.put, List.setIfInBounds_toArray, List.set_cons_zero, List.set_cons_succ])) | (refine wpMix_take (v := ?_) (by rfl) (by rfl) (fun wS hSt => ?_) ?_; rotate_left; (focus ((try dsimp only at hSt); (go_simp <;> with_reducible rfl); done)); (try simp only [Act.put, List.setIfInBounds_toArray, List.set_cons_zero, List.set_cons_succ])))
          refine wpMix_nil ?_
          have G8 := Lib.hid (G6.out.below HQ8.out G6.out.lt)
          have S8 := Lib.hid (S6.out.below HQ8.out S6.out.lt)
          have X8 := Lib.hid (X6.out.below HQ8.out X6.out.lt)
          have Hpw := Lib.hid hpw
          have Hmem := Lib.hid hmem
          have Hlt := Lib.hid hlt
          have Hnd := Lib.hid hnd
          clear hpw hmem hlt hnd hh
          cases hf8 : fitE room ts xs (upd g k false) with
          | true =>
            have Hf8 := Lib.hid hf8
            clear hf8
            go_wp2_with fail
            refine (l42Highest_any A3 _ _ n c3 n n n n _ _ _ rk (upd g k false) (upd s k true) w8 (H3.out.up B8.out) (RdF.of_blk G8.out (by omega)) (RdF.of_blk S8.out (by omega)) (Nat.le_refl _) (Nat.le_refl _)).mono ?_; rintro e w9 ⟨rfl, m9, rfl⟩
            go_wp2_with fail
            go_roundg (gk - 1)
            case measure => omega
            case rel =>
              refine ⟨L, upd g k false, upd s k true, rfl, by omega, ?_, (List.pairwise_cons.1 Hpw.out).2, ?_, fun j hj => Hlt.out j (List.mem_cons_of_mem _ hj), (List.nodup_cons.1 Hnd.out).2, below_drewN B8.out m9, X8.out, G8.out, S8.out⟩
              · have := Hbk.out; rw [backP, Hf8.out] at this; exact this
              · intro j hj
                by_cases ej : j = k
                · rw [ej, upd_at, upd_at]; simpa using (List.nodup_cons.1 Hnd.out).1
                · rw [upd_ne _ ej, upd_ne _ ej, Hmem.out j hj]; simp [ej]
          | false =>
            have Hf8 := Lib.hid hf8
            clear hf8
            have g1 := G8.out.cell k
            rw [flA_at _ hkn] at g1
            have g2 := G8.out.frozen k
            go_wp2_with fail
            clear g1 g2
            have B9 := Lib.hid (B8.out.setCell (p := ⟨w.heap.size + 1, k, none⟩) (by simp) (.bool true))
            have X9 := Lib.hid (X8.out.far (p := ⟨w.heap.size + 1, k, none⟩) (by simp) (.bool true))
            have S9 := Lib.hid (S8.out.far (p := ⟨w.heap.size + 1, k, none⟩) (by simp; omega) (.bool true))
            have G9 := Lib.hid (show Blk _ (w.heap.size + 1) 4 (flA (upd g k true) n) from by have := G8.out.set_ k (.bool true); rwa [flA_set, upd_upd] at this)
            generalize w8.setCell ⟨w.heap.size + 1, k, none⟩ (.bool true) = W9 at B9 X9 S9 G9 ⊢
            refine (l42Highest_any A3 _ _ n c3 n n n n _ _ _ rk (upd g k true) (upd s k true) W9 (H3.out.up B9.out) (RdF.of_blk G9.out (by omega)) (RdF.of_blk S9.out (by omega)) (Nat.le_refl _) (Nat.le_refl _)).mono ?_; rintro e w9 ⟨rfl, m9, rfl⟩
            go_wp2_with fail
            go_roundg (gk - 1)
            case measure => omega
            case rel =>
              refine ⟨L, upd g k true, upd s k true, rfl, by omega, ?_, (List.pairwise_cons.1 Hpw.out).2, ?_, fun j hj => Hlt.out j (List.mem_cons_of_mem _ hj), (List.nodup_cons.1 Hnd.out).2, below_drewN B9.out m9, X9.out, G9.out, S9.out⟩
              · have := Hbk.out; rw [backP, Hf8.out] at this; exact this
              · intro j hj
                by_cases ej : j = k
                · rw [ej, upd_at, upd_at]; simpa using (List.nodup_cons.1 Hnd.out).1
                · rw [upd_ne _ ej, upd_ne _ ej, Hmem.out j hj]; simp [ej]
    · have hf : fitE room ts xs (inL l) = false := by simpa using hf
      rw [hf]
      have Hf := Lib.hid hf
      clear hf
      have hcall := Lib.hid (l42Lowest_any A3 _ n c3 n n _ _ rk (inL l) r w3 (H3.out.up HB3.out) (RdF.of_blk Hf3.out (by omega)) (Nat.le_refl _))
      by_cases hlow : lowP rk (inL l) r n < 0
      · have hd : decide (lowP rk (inL l) r n < 0) = true := by simpa using hlow
        have Hlow := Lib.hid hlow
        clear hlow
        go_wp2_with fail
        refine hcall.out.mono ?_; rintro e w4 ⟨rfl, m4, rfl⟩
        go_wp2_with fail
        go_ret2
        refine ⟨.inl ⟨?_, _, _, rfl⟩, (below_drewN HB3.out m4).alloc HB3.out.size _⟩
        obtain ⟨f, rfl⟩ : ∃ f, gk = f + 1 := ⟨gk - 1, by have := Hlen.out; have := Hl.out.2.1; omega⟩
        have h1 := Hl.out.1
        rw [takeP, if_neg (by rw [Hf.out]; simp), if_pos Hlow.out] at h1
        rw [goneP, hl.out, ← HR.out, ← h1]
        rfl
      · obtain ⟨q, hq⟩ := Int.eq_ofNat_of_zero_le (show 0 ≤ lowP rk (inL l) r n by omega)
        have hqn : q < n := by have := (lowP_bd rk (inL l) r n).2; omega
        rw [hq] at hcall
        have Hq := Lib.hid hq
        have Hqn := Lib.hid hqn
        clear hq hlow hqn
        go_wp2_with fail
        refine hcall.out.mono ?_; rintro e w4 ⟨rfl, m4, rfl⟩
        have q1 : (0 : Int) ≤ (q : Int) := by omega
        have q2 : (q : Int) < (n : Int) := by have := Hqn.out; omega
        have q3 : decide ((q : Int) < 0) = false := by simp
        have s1 := (Hf3.out.drewN m4).cell q
        rw [flA_at _ Hqn.out] at s1
        have s2 := (Hf3.out.drewN m4).frozen q
        go_wp2_with fail
        have hnq : q ∉ l := by
          rcases lowP_spec rk (inL l) r n with ⟨e, _⟩ | ⟨k, _, e, h, _⟩
          · rw [Hq.out] at e; omega
          · rw [Hq.out] at e
            obtain rfl : q = k := by omega
            simpa [inL] using h
        have Hnq := Lib.hid hnq
        clear hnq
        go_roundg (gk - 1)
        case measure => have := Hlen.out; have := Hl.out.2.1; omega
        case rel =>
          refine ⟨l ++ [q], ?_, ?_, ?_, ?_, (below_drewN HB3.out m4).setCell (p := ⟨w.heap.size + 1, q, none⟩) (by simp) _, ((Hbx.out.below HQ3.out Hbx.out.lt).drewN m4).far (by simp) _, ?_⟩
          · have h1 := Hl.out.1
            obtain ⟨f, rfl⟩ : ∃ f, gk = f + 1 := ⟨gk - 1, by have := Hlen.out; have := Hl.out.2.1; omega⟩
            rw [takeP, if_neg (by rw [Hf.out]; simp), if_neg (by rw [Hq.out]; omega), Hq.out, Int.toNat_natCast] at h1
            exact h1
          · have := Hlen.out; have := Hl.out.2.1; simp; omega
          · rw [List.nodup_append]
            exact ⟨Hl.out.2.2.1, by simp, fun a ha b hb hab => by simp at hb; rw [hab, hb] at ha; exact Hnq.out ha⟩
          · intro j hj
            rcases List.mem_append.1 hj with hj | hj
            · exact Hl.out.2.2.2 j hj
            · simp at hj; rw [hj]; exact Hqn.out
          · have := (Hf3.out.drewN m4).set_ q (.bool true)
            rwa [flA_set, ← inL_snoc] at this
end Go.Proofs.YtkcflajhmekcaaaGreat
