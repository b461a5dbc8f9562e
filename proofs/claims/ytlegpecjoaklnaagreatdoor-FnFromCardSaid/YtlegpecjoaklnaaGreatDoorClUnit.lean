/- Walk: the cursor's unit. -/
import Derived.Test.YtlegpecjoaklnaaGreatDoorClTake
import Derived.Test.YtlegpecjoaklnaaGreatDoorClSpecF
namespace Go.Proofs.YtlegpecjoaklnaaGreatDoor
open Go Go.RowKit
attribute [local go_sem ↓] Go.wp_at_zero Go.wp_at_succ

theorem rdOnly {w w' : World} {B n b o g : Nat} {xs : List Int} (h : RdI w B (some ⟨b, o, none⟩) n xs) (k : OnlyG w w' g) (hb : b ≠ g) (hB : B ≤ w.heap.size) : RdI w' B (some ⟨b, o, none⟩) n xs := by
  refine ⟨h.1, h.2.1, fun hp => ?_⟩
  obtain ⟨b', o', e, lb, hc⟩ := h.2.2 hp
  injection e with e
  injection e with e1 e2
  subst e1 e2
  exact ⟨b, o, rfl, lb, fun j hj => (k.cell (p := ⟨b, o + j, none⟩) (by show b < _; omega) hb).trans (hc j hj)⟩
theorem onlyG_ti {w w' : World} {g : Nat} {t : TypeId} {cs : Array Value} (k : OnlyG w w' g) (hb : Blk w g t cs) (h1 : t ≠ 3) (h2 : t ≠ 33) : KeepTI w w' := fun b hti => k.block b hti.lt (hti.ne hb h1 h2)
theorem onlyG_own {w w' : World} {g base s n : Nat} {t t' : TypeId} {cs : Array Value} {v : Value} {xs : List Value} (k : OnlyG w w' g) (hb : Blk w g t' cs) (h : w.ownsRow base t s v n xs) (ht : t ≠ t') : w'.ownsRow base t s v n xs :=
  own_keep h (fun b hbb => k.block b (h.lt b hbb).2 (fun e => own_blk_ne h hb ht (by rw [hbb, e])))
theorem own_at {w : World} {base n c : Nat} {A : Option Addr} {xs : List Int} (h : w.ownsRow base 3 1 (.slice A n c) n (xs.map (Value.int .i64))) (hn : 0 < n) : ∃ g, A = some ⟨g, 0, none⟩ ∧ base ≤ g ∧ g < w.heap.size ∧ ∀ j, j < n → w.cell? ⟨g, j, none⟩ = some (.int .i64 (xs[j]?.getD 0)) := by
  obtain ⟨g, cap, hv, hb, hlt⟩ := h.form hn
  injection hv with e1 e2 e3
  subst e1
  have hl := own_len h
  refine ⟨g, rfl, hb, hlt, fun j hj => ?_⟩
  have e1 := h.cells (g := g) rfl j (.int .i64 (xs[j]?.getD 0)) (by rw [List.getElem?_map, List.getElem?_eq_getElem (by omega)]; rfl)
  rwa [addr_add, Nat.zero_add] at e1
theorem part_at {xs : List Int} {i m j : Nat} (hj : j < m) : ((xs.drop i).take m)[j]?.getD 0 = xs[i + j]?.getD 0 := by rw [List.getElem?_take, if_pos hj, List.getElem?_drop]

set_option maxRecDepth 100000 in
set_option maxHeartbeats 3200000 in
theorem unit_any (gc b o n c p : Nat) (zs : List Int) (w : World) (hb : Blk w gc 99 #[.slice (some ⟨b, o, none⟩) n c, .int .i64 p]) (h : RdI w w.heap.size (some ⟨b, o, none⟩) n zs) (hbg : b ≠ gc) (hp : p ≤ n) (hn : n ≤ 1000) (hc : n ≤ c) (hby : ∀ j, j < n → inR 0 255 (zs[j]?.getD 0) = true) :
    Calls Tryz.prog 124 #[.pointer (some ⟨gc, 0, none⟩)] w fun e w' =>
      ((unitB zs p = true ∧ ∃ A' m c', e = .returned (.tuple #[.agg #[.bool (unitV zs p).1, .slice A' m c'], .nilIface]) ∧ OwnTs w' w.heap.size (.slice A' m c') m (unitV zs p).2 ∧ Blk w' gc 99 #[.slice (some ⟨b, o, none⟩) n c, .int .i64 ((unitN zs p : Nat) : Int)]) ∨
       (unitB zs p = false ∧ ∃ er, e = .returned (.tuple #[.agg #[.bool false, .slice none 0 0], er]) ∧ ErrU er)) ∧ OnlyG w w' gc := by
  obtain ⟨t0, ht0, htz0, htz1, htz2⟩ := info_parts task_info
  have hl := Lib.hid h.len
  have H := Lib.hid h
  have Hby := Lib.hid hby
  have lg := hb.lt
  have hne : gc ≠ w.heap.size := by omega
  -- the result's cell
  have G1 := Lib.hid ((OnlyG.refl w gc).alloc (.cells #[.bool false, .slice none 0 0] 52))
  have C1 := Lib.hid (hb.alloc (.cells #[.bool false, .slice none 0 0] 52))
  have Z1 := Lib.hid (Blk.new w 52 #[.bool false, .slice none 0 0])
  have HZ := Lib.hid (fun w' (k : OnlyG w w' gc) => (rdOnly h k hbg (Nat.le_refl _)).more k.size)
  clear h hb hby
  go_enter Tryz.func124, Tryz.ntmps124
  go_wp2_with fail
  generalize w.alloc (.cells #[.bool false, .slice none 0 0] 52) = w1 at G1 C1 Z1 ⊢
  refine (take_any gc b o n c p 2 zs w1 C1.out (HZ.out _ G1.out) hbg hp hn hc (by omega) (by omega)).mono ?_; rintro e w2 ⟨hres, hg2⟩
  have lz1 := G1.out.size
  have G2 := Lib.hid (G1.out.trans hg2)
  have Z2 := Lib.hid (hg2.blk Z1.out (fun e => hne e.symm))
  clear hg2
  rcases hres with ⟨h2, A3, c3, rfl, ho3, hb3⟩ | ⟨h2, er, rfl, hE⟩
  · obtain ⟨g3, rfl, lg3, lt3, hc3⟩ := own_at ho3 (by omega)
    obtain ⟨p2, hp2⟩ : ∃ p2 : Nat, p2 = p + 2 := ⟨_, rfl⟩
    rw [← hp2] at hb3
    have Hp2 := Lib.hid hp2
    clear hp2
    have C2 := Lib.hid hb3
    have a0 := hc3 0 (by omega)
    have a1 := hc3 1 (by omega)
    rw [part_at (by omega), Nat.add_zero] at a0
    rw [part_at (by omega)] at a1
    have hpi := inR_iff.1 (Hby.out (p + 1) (by omega))
    obtain ⟨q, hq⟩ := Int.eq_ofNat_of_zero_le hpi.1
    have Hq := Lib.hid (show ibyte zs (p + 1) = q by unfold ibyte; rw [hq]; rfl)
    rw [hq] at a1 hpi
    clear hc3 hb3 ho3 G1 C1 Z1 hq
    by_cases hh : 1 < zs[p]?.getD 0
    · have hno := Lib.hid (show unitB zs p = false by rw [← Bool.not_eq_true]; intro hx; simp only [unitB, Bool.and_eq_true, decide_eq_true_eq] at hx; omega)
      have hd : decide (1 < zs[p]?.getD 0) = true := by simpa using hh
      go_wp2_with fail
      have D0 := Lib.hid G2.out.drew
      have C0 := Lib.hid C2.out.drew
      have Z0 := Lib.hid Z2.out.drew
      have K0 : w2.drew.cell? ⟨gc, 1, none⟩ = some (.int .i64 (p2 : Int)) := C0.out.cell 1
      refine wp_region_mix (.take 0 (.take 1 (.take 2 (.take 3 (.take 4 (.take 5 (.fork 6 (.take 7 (.bar 8 (.take 9 .nil))) 8 (.bar 6 (.take 7 (.take 9 .nil)))))))))) (fun w' => w'.cell? ⟨gc, 1, none⟩ = some (.int .i64 (p2 : Int))) (by kernel_rfl) (by kernel_rfl) K0 (fun _ => ?_)
      clear K0
      repeat (first | (refine wpMix_skip (by rfl) (by rfl) ?_; (try simp only [Act.put, List.setIfInBounds_toArray, List.set_cons_zero, List.set_cons_succ])) | (refine wpMix_take (v := ?_) (by rfl) (by rfl) (fun wS hSt => ?_) ?_; rotate_left; (focus ((try dsimp only at hSt); (go_simp <;> with_reducible rfl); done)); (try simp only [Act.put, List.setIfInBounds_toArray, List.set_cons_zero, List.set_cons_succ])))
      generalize w2.drew = u0 at D0 C0 Z0 ⊢
      have B := (.cells #[.int .i64 (p2 : Int)] 203 : Obj)
      refine wpMix_fork (by rfl) (by rfl) (fun K hK => ?_) (fun K hK => ?_)
      · go_simp
        ((try dsimp only); refine hK.out _ _ ((C0.out.alloc _).cell 1) (fun hSw => ?_); (try clear hSw); clear hK K; (try simp only [Act.put, List.setIfInBounds_toArray, List.set_cons_zero, List.set_cons_succ]))
        repeat (first | (refine wpMix_skip (by rfl) (by rfl) ?_; (try simp only [Act.put, List.setIfInBounds_toArray, List.set_cons_zero, List.set_cons_succ])) | (refine wpMix_take (v := ?_) (by rfl) (by rfl) (fun wS hSt => ?_) ?_; rotate_left; (focus ((try dsimp only at hSt); (go_simp <;> with_reducible rfl); done)); (try simp only [Act.put, List.setIfInBounds_toArray, List.set_cons_zero, List.set_cons_succ])))
        have D1 := Lib.hid (D0.out.alloc (.cells #[.int .i64 (p2 : Int)] 203))
        have C1 := Lib.hid (C0.out.alloc (.cells #[.int .i64 (p2 : Int)] 203))
        have Z1 := Lib.hid (Z0.out.alloc (.cells #[.int .i64 (p2 : Int)] 203))
        obtain ⟨ae, hae⟩ : ∃ ae : Addr, ae = ⟨u0.heap.size, 0, none⟩ := ⟨_, rfl⟩
        rw [← hae]
        have Bx := hae
        clear Bx hae
        generalize u0.alloc (.cells #[.int .i64 (p2 : Int)] 203) = u1 at D1 C1 Z1 ⊢
        have x0 := (Z1.out).cell 0
        have x1 := (Z1.out).cell 1
        simp only [List.getElem?_toArray, List.getElem?_cons_zero, List.getElem?_cons_succ] at x0 x1
        have x2 := (Z1.out).frozen 0
        have x3 := (Z1.out).frozen 1
        (refine wpMix_bar (by rfl) (fun K hK => ?_); go_simp)
        have EQ := Lib.hid ((Z1.out.set_ 0 (.bool false)).set_ 1 (.slice none 0 0))
        have G9 := Lib.hid ((D1.out.set_new (p := ⟨w.heap.size, 0, none⟩) (Nat.le_refl _) (.bool false)).set_new (p := ⟨w.heap.size, 1, none⟩) (Nat.le_refl _) (.slice none 0 0))
        ((try dsimp only); refine hK.out _ _ (((C1.out.far (p := ⟨w.heap.size, 0, none⟩) hne (.bool false)).far (p := ⟨w.heap.size, 1, none⟩) hne (.slice none 0 0)).cell 1) (fun hSw => ?_); (try clear hSw); clear hK K; (try simp only [Act.put, List.setIfInBounds_toArray, List.set_cons_zero, List.set_cons_succ]))
        generalize (World.setCell (World.setCell u1 ⟨w.heap.size, 0, none⟩ (.bool false)) ⟨w.heap.size, 1, none⟩ (.slice none 0 0)) = w9 at EQ G9 ⊢
        repeat (first | (refine wpMix_skip (by rfl) (by rfl) ?_; (try simp only [Act.put, List.setIfInBounds_toArray, List.set_cons_zero, List.set_cons_succ])) | (refine wpMix_take (v := ?_) (by rfl) (by rfl) (fun wS hSt => ?_) ?_; rotate_left; (focus ((try dsimp only at hSt); (go_simp <;> with_reducible rfl); done)); (try simp only [Act.put, List.setIfInBounds_toArray, List.set_cons_zero, List.set_cons_succ])))
        refine wpMix_nil ?_
        go_wp2_with fail
        have z0 : w9.cell? ⟨w.heap.size, 0, none⟩ = some (.bool false) := EQ.out.cell 0
        have z1 : w9.cell? ⟨w.heap.size, 1, none⟩ = some (.slice none 0 0) := EQ.out.cell 1
        refine bodyPost_ret (v := .tuple #[.agg #[.bool false, .slice none 0 0], .iface 101 (.pointer (some ae))]) (by simp [results, Tryz.results124, go_sem, z0, z1]) rfl ⟨.inr ⟨hno.out, _, rfl, _, rfl⟩, G9.out⟩
      · have x0 := (Z0.out).cell 0
        have x1 := (Z0.out).cell 1
        simp only [List.getElem?_toArray, List.getElem?_cons_zero, List.getElem?_cons_succ] at x0 x1
        have x2 := (Z0.out).frozen 0
        have x3 := (Z0.out).frozen 1
        go_simp
        have D1 := Lib.hid ((D0.out.set_new (p := ⟨w.heap.size, 0, none⟩) (Nat.le_refl _) (.bool false)).set_new (p := ⟨w.heap.size, 1, none⟩) (Nat.le_refl _) (.slice none 0 0))
        have Z1 := Lib.hid ((Z0.out.set_ 0 (.bool false)).set_ 1 (.slice none 0 0))
        have C1 := Lib.hid ((C0.out.far (p := ⟨w.heap.size, 0, none⟩) hne (.bool false)).far (p := ⟨w.heap.size, 1, none⟩) hne (.slice none 0 0))
        ((try dsimp only); refine hK.out _ _ (C1.out.cell 1) (fun hSw => ?_); (try clear hSw); clear hK K; (try simp only [Act.put, List.setIfInBounds_toArray, List.set_cons_zero, List.set_cons_succ]))
        clear x0 x1 x2 x3
        generalize (World.setCell (World.setCell u0 ⟨w.heap.size, 0, none⟩ (.bool false)) ⟨w.heap.size, 1, none⟩ (.slice none 0 0)) = u1 at D1 C1 Z1 ⊢
        (refine wpMix_bar (by rfl) (fun K hK => ?_); go_simp)
        have EQ := Lib.hid (Z1.out.alloc (.cells #[.int .i64 (p2 : Int)] 203))
        have G9 := Lib.hid (D1.out.alloc (.cells #[.int .i64 (p2 : Int)] 203))
        ((try dsimp only); refine hK.out _ _ ((C1.out.alloc _).cell 1) (fun hSw => ?_); (try clear hSw); clear hK K; (try simp only [Act.put, List.setIfInBounds_toArray, List.set_cons_zero, List.set_cons_succ]))
        obtain ⟨ae, hae⟩ : ∃ ae : Addr, ae = ⟨u1.heap.size, 0, none⟩ := ⟨_, rfl⟩
        rw [← hae]
        clear hae
        generalize u1.alloc (.cells #[.int .i64 (p2 : Int)] 203) = w9 at EQ G9 ⊢
        repeat (first | (refine wpMix_skip (by rfl) (by rfl) ?_; (try simp only [Act.put, List.setIfInBounds_toArray, List.set_cons_zero, List.set_cons_succ])) | (refine wpMix_take (v := ?_) (by rfl) (by rfl) (fun wS hSt => ?_) ?_; rotate_left; (focus ((try dsimp only at hSt); (go_simp <;> with_reducible rfl); done)); (try simp only [Act.put, List.setIfInBounds_toArray, List.set_cons_zero, List.set_cons_succ])))
        refine wpMix_nil ?_
        go_wp2_with fail
        have z0 : w9.cell? ⟨w.heap.size, 0, none⟩ = some (.bool false) := EQ.out.cell 0
        have z1 : w9.cell? ⟨w.heap.size, 1, none⟩ = some (.slice none 0 0) := EQ.out.cell 1
        refine bodyPost_ret (v := .tuple #[.agg #[.bool false, .slice none 0 0], .iface 101 (.pointer (some ae))]) (by simp [results, Tryz.results124, go_sem, z0, z1]) rfl ⟨.inr ⟨hno.out, _, rfl, _, rfl⟩, G9.out⟩
    · have hd : decide (1 < zs[p]?.getD 0) = false := by simpa using hh
      have Hop := Lib.hid (show unitV zs p = (zs[p]?.getD 0 == 1, tkAt zs (p + 2) q) by rw [unitV, Hq.out])
      have Hun2 := Lib.hid (show unitN zs p = p + 2 + 4 * q by rw [unitN, Hq.out])
      have a1' : (w2.alloc (.cells #[.bool (zs[p]?.getD 0 == 1), .slice none 0 0] 52)).cell? ⟨g3, 1, none⟩ = some (.int .i64 (q : Int)) := ((alloc_up w2 _).cell (p := ⟨g3, 1, none⟩) lt3).trans a1
      go_wp2_with fail
      generalize (zs[p]?.getD 0 == 1) = op at Hop a1' ⊢
      have G5 := Lib.hid (G2.out.alloc (.cells #[.bool op, .slice none 0 0] 52))
      have C5 := Lib.hid (C2.out.alloc (.cells #[.bool op, .slice none 0 0] 52))
      have Z5 := Lib.hid (Z2.out.alloc (.cells #[.bool op, .slice none 0 0] 52))
      have U5 := Lib.hid (Blk.new w2 52 #[.bool op, .slice none 0 0])
      have hgl : w.heap.size ≤ w2.heap.size := G2.out.size
      have hgu : w2.heap.size ≠ gc := by omega
      have hgw : w2.heap.size ≠ w.heap.size := by have := Z2.out.lt; omega
      clear a0 a1 a1' C2 Z2 G2 hd
      generalize w2.alloc (.cells #[.bool op, .slice none 0 0] 52) = w5 at G5 C5 Z5 U5 ⊢
      generalize w2.heap.size = gu at U5 hgl hgu hgw ⊢
      go_loopw [39] (fun i wr => ∃ (j : Nat) (At : Option Addr) (ct : Nat) (vt : List Value) (nd : Nat → Value), i = .int .i64 j ∧ j ≤ q ∧ p + 2 + 4 * j ≤ n ∧ OnlyG w wr gc ∧ Blk wr gc 99 #[.slice (some ⟨b, o, none⟩) n c, .int .i64 ((p + 2 + 4 * j : Nat) : Int)] ∧ Blk wr gu 52 #[.bool op, .slice At j ct] ∧ Blk wr w.heap.size 52 #[.bool false, .slice none 0 0] ∧ wr.ownsRow w.heap.size 33 2 (.slice At j ct) j vt ∧ NdTs wr w.heap.size j vt nd (tkAt zs (p + 2) j)) (fun i _ => q - (intOf i).toNat)
      case atStart => exact ⟨0, none, 0, [], _, rfl, Nat.zero_le _, by omega, G5.out, by rw [show p + 2 + 4 * 0 = p2 by have := Hp2.out; omega]; exact C5.out, U5.out, Z5.out, ⟨rfl, .inl ⟨rfl, rfl⟩⟩, NdTs.nil⟩
      case round =>
        clear G5 C5 Z5 U5
        obtain ⟨j, At, ct, vt, nd, rfl, hj, hsn, hgr, hcu, hu, hz, ht, hn'⟩ := hrel
        have Hg := Lib.hid hgr
        have Hc := Lib.hid hcu
        have Hu := Lib.hid hu
        have Hz := Lib.hid hz
        have Ht := Lib.hid ht
        have Hn := Lib.hid hn'
        have lzr := hgr.size
        clear hgr hcu hu hz ht hn'
        have kj : (0 : Int) ≤ (j : Int) := by omega
        by_cases hlt : (j : Int) < (q : Int)
        · obtain ⟨s, hs⟩ : ∃ s : Nat, s = p + 2 + 4 * j := ⟨_, rfl⟩
          rw [← hs] at Hc hsn
          have Hs := Lib.hid hs
          clear hs
          go_wp2_with fail
          refine (take_any gc b o n c s 1 zs wr Hc.out (HZ.out _ Hg.out) hbg hsn hn hc (by omega) (by omega)).mono ?_; rintro e w3 ⟨hres, hg3⟩
          have G3 := Lib.hid (Hg.out.trans hg3)
          have Z3 := Lib.hid (hg3.blk Hz.out (fun e => hne e.symm))
          rcases hres with ⟨h3, A7, c7, rfl, ho7, hb7⟩ | ⟨h3, er, rfl, hE⟩
          · have C3 := Lib.hid hb7
            have HG3 := Lib.hid hg3
            have O7 := Lib.hid ho7
            clear hb7 hg3 ho7
            go_wp2_with fail
            refine (take_any gc b o n c (s + 1) 3 zs w3 C3.out (HZ.out _ G3.out) hbg h3 hn hc (by omega) (by omega)).mono ?_; rintro e w4 ⟨hres, hg4⟩
            have G4 := Lib.hid (G3.out.trans hg4)
            have Z4 := Lib.hid (hg4.blk Z3.out (fun e => hne e.symm))
            rcases hres with ⟨h4, A9, c9, rfl, ho9, hb9⟩ | ⟨h4, er, rfl, hE⟩
            · have kk := HG3.out.trans hg4
              have KT4 := onlyG_ti kk Hc.out (by decide) (by decide)
              have HU0 := Lib.hid ((kk.blk Hu.out hgu).drew)
              have HT0 := Lib.hid (World.ownsRow.drew (onlyG_own kk Hc.out Ht.out (by decide)))
              have HN0 := Lib.hid ((Hn.out.keepTI KT4).keepTI (KeepTI.drew w4))
              have HE0 := Lib.hid (World.ownsRow.drew (own_lo ho9 HG3.out.size))
              have HI0 := Lib.hid (World.ownsRow.drew (onlyG_own hg4 C3.out O7.out (by decide)))
              have HC0 := Lib.hid (show Blk w4.drew gc 99 #[.slice (some ⟨b, o, none⟩) n c, .int .i64 ((s + 4 : Nat) : Int)] from hb9.drew)
              have HZ0 := Lib.hid Z4.out.drew
              have HG0 := Lib.hid G4.out.drew
              clear kk KT4 ho9 hb9 hg4 O7 C3 G4 Z4
              obtain ⟨g7, rfl, _, _, hi7⟩ := own_at HI0.out (by omega)
              have K0 := hi7 0 (by omega)
              have hI := Lib.hid (fun (w' : World) (k : w'.ownsRow wr.heap.size 3 1 (.slice (some ⟨g7, 0, none⟩) 1 c7) 1 (((zs.drop s).take 1).map (Value.int .i64))) => show w'.cell? ⟨g7, 0, none⟩ = some (.int .i64 (zs[s]?.getD 0)) from by
                obtain ⟨g', e, _, _, hh⟩ := own_at k (by omega)
                injection e with e
                injection e with e
                subst e
                have := hh 0 (by omega)
                rwa [part_at (by omega), Nat.add_zero] at this)
              rw [part_at (by omega), Nat.add_zero] at K0
              clear hi7
              go_wp2_with fail
              refine wp_region_mix (.take 0 (.take 2 (.take 3 (.take 4 (.take 5 (.take 6 (.fork 1 (.bar 7 (.bar 8 (.take 9 (.bar 10 .nil)))) 7 (.bar 1 (.bar 8 (.take 9 (.bar 10 .nil))))))))))) (fun w' => w'.cell? ⟨g7, 0, none⟩ = some (.int .i64 (zs[s]?.getD 0))) (by kernel_rfl) (by kernel_rfl) K0 (fun _ => ?_)
              clear K0
              repeat (first | (refine wpMix_skip (by rfl) (by rfl) ?_; (try simp only [Act.put, List.setIfInBounds_toArray, List.set_cons_zero, List.set_cons_succ])) | (refine wpMix_take (v := ?_) (by rfl) (by rfl) (fun wS hSt => ?_) ?_; rotate_left; (focus ((try dsimp only at hSt); (go_simp <;> with_reducible rfl); done)); (try simp only [Act.put, List.setIfInBounds_toArray, List.set_cons_zero, List.set_cons_succ])))
              generalize w4.drew = u0 at HU0 HT0 HN0 HE0 HI0 HC0 HZ0 HG0 ⊢
              refine wpMix_fork (by rfl) (by rfl) (fun K hK => ?_) (fun K hK => ?_)
              · have q1 := (HU0.out).cell 1
                simp only [List.getElem?_toArray, List.getElem?_cons_zero, List.getElem?_cons_succ] at q1
                go_simp
                clear q1
                ((try dsimp only); refine hK.out _ _ (hI.out _ HI0.out) (fun hSw => ?_); (try clear hSw); clear hK K; (try simp only [Act.put, List.setIfInBounds_toArray, List.set_cons_zero, List.set_cons_succ]))
                have T1 := Lib.hid (own_alloc HT0.out (.cells #[.int .i64 (zs[s]?.getD 0), .slice A9 3 c9] 33))
                have N1 := Lib.hid (HN0.out.keepTI (KeepTI.up (alloc_up u0 (.cells #[.int .i64 (zs[s]?.getD 0), .slice A9 3 c9] 33))))
                have U1 := Lib.hid (HU0.out.alloc (.cells #[.int .i64 (zs[s]?.getD 0), .slice A9 3 c9] 33))
                have E1 := Lib.hid (own_alloc HE0.out (.cells #[.int .i64 (zs[s]?.getD 0), .slice A9 3 c9] 33))
                have I1 := Lib.hid (own_alloc HI0.out (.cells #[.int .i64 (zs[s]?.getD 0), .slice A9 3 c9] 33))
                have C1' := Lib.hid (HC0.out.alloc (.cells #[.int .i64 (zs[s]?.getD 0), .slice A9 3 c9] 33))
                have Z1' := Lib.hid (HZ0.out.alloc (.cells #[.int .i64 (zs[s]?.getD 0), .slice A9 3 c9] 33))
                have G1' := Lib.hid (HG0.out.alloc (.cells #[.int .i64 (zs[s]?.getD 0), .slice A9 3 c9] 33))
                have X1 := Lib.hid (lit2 u0 33 (.int .i64 (zs[s]?.getD 0)) (.slice A9 3 c9))
                (refine wpMix_bar (by rfl) (fun K hK => ?_); go_simp)
                ((try dsimp only); refine hK.out _ _ (hI.out _ I1.out) (fun hSw => ?_); (try clear hSw); clear hK K; (try simp only [Act.put, List.setIfInBounds_toArray, List.set_cons_zero, List.set_cons_succ]))
                generalize u0.heap.size = gx at X1 ⊢
                generalize u0.alloc (.cells #[.int .i64 (zs[s]?.getD 0), .slice A9 3 c9] 33) = u1 at T1 N1 U1 E1 I1 C1' Z1' G1' X1 ⊢
                have lz1' := G1'.out.size
                refine wpMix_bar (by rfl) (fun K hK => ?_)
                rw [if_pos (by rfl)]
                refine wp_append_src _ _ _ 50 (by rfl) w.heap.size 33 t0 _ 2 32 Tryz.underlying50 ht0 htz0 htz1 htz2 rfl (by omega) (.slice At j ct) j vt (by rfl) T1.out (some ⟨gx, 0, none⟩) 1 1 [.int .i64 (zs[s]?.getD 0), .slice A9 3 c9] (by rfl) X1.out (one2 _ _ rfl rfl) (by unfold maxLen; omega) (by omega) lz1' ?_
                intro v6 u2 hown6 hgrow6 hrow6
                obtain ⟨A8, c8, rfl⟩ := own_shape hown6
                have T2 := Lib.hid hown6
                have E2 := Lib.hid (own_keep E1.out (fun b hb => hgrow6.block b (E1.out.lt b hb).2 (fun e => own_types T1.out E1.out (by decide) e.symm hb)))
                have I2 := Lib.hid (own_keep I1.out (fun b hb => hgrow6.block b (I1.out.lt b hb).2 (fun e => own_types T1.out I1.out (by decide) e.symm hb)))
                have N2 := Lib.hid (N1.out.grown T1.out hgrow6)
                have U2 := Lib.hid (U1.out.grown hgrow6 (fun e => own_blk_ne T1.out U1.out (by decide) e.symm))
                have C2' := Lib.hid (C1'.out.grown hgrow6 (fun e => own_blk_ne T1.out C1'.out (by decide) e.symm))
                have Z2' := Lib.hid (Z1'.out.grown hgrow6 (fun e => own_blk_ne T1.out Z1'.out (by decide) e.symm))
                have G2' := Lib.hid (G1'.out.grown hgrow6 (fun r e => (T1.out.lt r e).1))
                have L2 := Lib.hid (T1.out.1)
                have f2 := U2.out.frozen 1
                have q2 := U2.out.cell 1
                simp only [List.getElem?_toArray, List.getElem?_cons_zero, List.getElem?_cons_succ] at q2
                clear hown6 hgrow6 hrow6 T1 E1 I1 N1 U1 C1' Z1' G1' X1 lz1'
                ((try dsimp only); refine hK.out _ _ (hI.out _ I2.out) (fun hSw => ?_); (try clear hSw); clear hK K; (try simp only [Act.put, List.setIfInBounds_toArray, List.set_cons_zero, List.set_cons_succ]))
                repeat (first | (refine wpMix_skip (by rfl) (by rfl) ?_; (try simp only [Act.put, List.setIfInBounds_toArray, List.set_cons_zero, List.set_cons_succ])) | (refine wpMix_take (v := ?_) (by rfl) (by rfl) (fun wS hSt => ?_) ?_; rotate_left; (focus ((try dsimp only at hSt); (go_simp <;> with_reducible rfl); done)); (try simp only [Act.put, List.setIfInBounds_toArray, List.set_cons_zero, List.set_cons_succ])))
                (refine wpMix_bar (by rfl) (fun K hK => ?_); go_simp)
                have KT := KeepTI.set_ U2.out (by decide) (by decide) 1 (.slice A8 (j + 1) c8)
                have U3 := Lib.hid (show Blk (u2.setCell ⟨gu, 1, none⟩ (.slice A8 (j + 1) c8)) gu 52 #[.bool op, .slice A8 (j + 1) c8] from U2.out.set_ 1 (.slice A8 (j + 1) c8))
                have T3 := Lib.hid (own_keepTI T2.out (.inr rfl) KT)
                have I3 := own_keepTI I2.out (.inl rfl) KT
                have N3 := Lib.hid ((N2.out.snoc (w0 := wr) (id := zs[s]?.getD 0) (xs := (zs.drop (s + 1)).take 3) (by have := L2.out; omega) (fun i hi b hb => Hn.out.old i hi b hb) E2.out lzr).keepTI KT)
                have C3 := Lib.hid (C2'.out.far (p := ⟨gu, 1, none⟩) (fun e => hgu e.symm) (.slice A8 (j + 1) c8))
                have Z3 := Lib.hid (Z2'.out.far (p := ⟨gu, 1, none⟩) (fun e => hgw e.symm) (.slice A8 (j + 1) c8))
                have G3 := Lib.hid (G2'.out.set_new (p := ⟨gu, 1, none⟩) hgl (.slice A8 (j + 1) c8))
                clear KT T2 N2 U2 E2 I2 C2' Z2' G2' L2 f2 q2
                ((try dsimp only); refine hK.out _ _ (hI.out _ I3) (fun hSw => ?_); (try clear hSw); clear hK K; (try simp only [Act.put, List.setIfInBounds_toArray, List.set_cons_zero, List.set_cons_succ]))
                clear I3
                generalize u2.setCell ⟨gu, 1, none⟩ (.slice A8 (j + 1) c8) = u3 at U3 T3 N3 C3 Z3 G3 ⊢
                refine wpMix_nil ?_
                go_wp2_with fail
                go_roundw
                case measure => simp [intOf]; omega
                case rel => exact ⟨j + 1, A8, c8, _, _, by go_num, by omega, by have := Hs.out; omega, G3.out, by rw [show p + 2 + 4 * (j + 1) = s + 4 by have := Hs.out; omega]; exact C3.out, U3.out, Z3.out, T3.out, by rw [tkAt_snoc, ← Hs.out]; exact N3.out⟩
              · have T1 := Lib.hid (own_alloc HT0.out (.cells #[.int .i64 (zs[s]?.getD 0), .slice A9 3 c9] 33))
                have N1 := Lib.hid (HN0.out.keepTI (KeepTI.up (alloc_up u0 (.cells #[.int .i64 (zs[s]?.getD 0), .slice A9 3 c9] 33))))
                have U1 := Lib.hid (HU0.out.alloc (.cells #[.int .i64 (zs[s]?.getD 0), .slice A9 3 c9] 33))
                have E1 := Lib.hid (own_alloc HE0.out (.cells #[.int .i64 (zs[s]?.getD 0), .slice A9 3 c9] 33))
                have I1 := Lib.hid (own_alloc HI0.out (.cells #[.int .i64 (zs[s]?.getD 0), .slice A9 3 c9] 33))
                have C1' := Lib.hid (HC0.out.alloc (.cells #[.int .i64 (zs[s]?.getD 0), .slice A9 3 c9] 33))
                have Z1' := Lib.hid (HZ0.out.alloc (.cells #[.int .i64 (zs[s]?.getD 0), .slice A9 3 c9] 33))
                have G1' := Lib.hid (HG0.out.alloc (.cells #[.int .i64 (zs[s]?.getD 0), .slice A9 3 c9] 33))
                have X1 := Lib.hid (lit2 u0 33 (.int .i64 (zs[s]?.getD 0)) (.slice A9 3 c9))
                go_simp
                ((try dsimp only); refine hK.out _ _ (hI.out _ I1.out) (fun hSw => ?_); (try clear hSw); clear hK K; (try simp only [Act.put, List.setIfInBounds_toArray, List.set_cons_zero, List.set_cons_succ]))
                generalize u0.heap.size = gx at X1 ⊢
                generalize u0.alloc (.cells #[.int .i64 (zs[s]?.getD 0), .slice A9 3 c9] 33) = u1 at T1 N1 U1 E1 I1 C1' Z1' G1' X1 ⊢
                have q1 := (U1.out).cell 1
                simp only [List.getElem?_toArray, List.getElem?_cons_zero, List.getElem?_cons_succ] at q1
                (refine wpMix_bar (by rfl) (fun K hK => ?_); go_simp)
                clear q1
                ((try dsimp only); refine hK.out _ _ (hI.out _ I1.out) (fun hSw => ?_); (try clear hSw); clear hK K; (try simp only [Act.put, List.setIfInBounds_toArray, List.set_cons_zero, List.set_cons_succ]))
                have lz1' := G1'.out.size
                refine wpMix_bar (by rfl) (fun K hK => ?_)
                rw [if_pos (by rfl)]
                refine wp_append_src _ _ _ 50 (by rfl) w.heap.size 33 t0 _ 2 32 Tryz.underlying50 ht0 htz0 htz1 htz2 rfl (by omega) (.slice At j ct) j vt (by rfl) T1.out (some ⟨gx, 0, none⟩) 1 1 [.int .i64 (zs[s]?.getD 0), .slice A9 3 c9] (by rfl) X1.out (one2 _ _ rfl rfl) (by unfold maxLen; omega) (by omega) lz1' ?_
                intro v6 u2 hown6 hgrow6 hrow6
                obtain ⟨A8, c8, rfl⟩ := own_shape hown6
                have T2 := Lib.hid hown6
                have E2 := Lib.hid (own_keep E1.out (fun b hb => hgrow6.block b (E1.out.lt b hb).2 (fun e => own_types T1.out E1.out (by decide) e.symm hb)))
                have I2 := Lib.hid (own_keep I1.out (fun b hb => hgrow6.block b (I1.out.lt b hb).2 (fun e => own_types T1.out I1.out (by decide) e.symm hb)))
                have N2 := Lib.hid (N1.out.grown T1.out hgrow6)
                have U2 := Lib.hid (U1.out.grown hgrow6 (fun e => own_blk_ne T1.out U1.out (by decide) e.symm))
                have C2' := Lib.hid (C1'.out.grown hgrow6 (fun e => own_blk_ne T1.out C1'.out (by decide) e.symm))
                have Z2' := Lib.hid (Z1'.out.grown hgrow6 (fun e => own_blk_ne T1.out Z1'.out (by decide) e.symm))
                have G2' := Lib.hid (G1'.out.grown hgrow6 (fun r e => (T1.out.lt r e).1))
                have L2 := Lib.hid (T1.out.1)
                have f2 := U2.out.frozen 1
                have q2 := U2.out.cell 1
                simp only [List.getElem?_toArray, List.getElem?_cons_zero, List.getElem?_cons_succ] at q2
                clear hown6 hgrow6 hrow6 T1 E1 I1 N1 U1 C1' Z1' G1' X1 lz1'
                ((try dsimp only); refine hK.out _ _ (hI.out _ I2.out) (fun hSw => ?_); (try clear hSw); clear hK K; (try simp only [Act.put, List.setIfInBounds_toArray, List.set_cons_zero, List.set_cons_succ]))
                repeat (first | (refine wpMix_skip (by rfl) (by rfl) ?_; (try simp only [Act.put, List.setIfInBounds_toArray, List.set_cons_zero, List.set_cons_succ])) | (refine wpMix_take (v := ?_) (by rfl) (by rfl) (fun wS hSt => ?_) ?_; rotate_left; (focus ((try dsimp only at hSt); (go_simp <;> with_reducible rfl); done)); (try simp only [Act.put, List.setIfInBounds_toArray, List.set_cons_zero, List.set_cons_succ])))
                (refine wpMix_bar (by rfl) (fun K hK => ?_); go_simp)
                have KT := KeepTI.set_ U2.out (by decide) (by decide) 1 (.slice A8 (j + 1) c8)
                have U3 := Lib.hid (show Blk (u2.setCell ⟨gu, 1, none⟩ (.slice A8 (j + 1) c8)) gu 52 #[.bool op, .slice A8 (j + 1) c8] from U2.out.set_ 1 (.slice A8 (j + 1) c8))
                have T3 := Lib.hid (own_keepTI T2.out (.inr rfl) KT)
                have I3 := own_keepTI I2.out (.inl rfl) KT
                have N3 := Lib.hid ((N2.out.snoc (w0 := wr) (id := zs[s]?.getD 0) (xs := (zs.drop (s + 1)).take 3) (by have := L2.out; omega) (fun i hi b hb => Hn.out.old i hi b hb) E2.out lzr).keepTI KT)
                have C3 := Lib.hid (C2'.out.far (p := ⟨gu, 1, none⟩) (fun e => hgu e.symm) (.slice A8 (j + 1) c8))
                have Z3 := Lib.hid (Z2'.out.far (p := ⟨gu, 1, none⟩) (fun e => hgw e.symm) (.slice A8 (j + 1) c8))
                have G3 := Lib.hid (G2'.out.set_new (p := ⟨gu, 1, none⟩) hgl (.slice A8 (j + 1) c8))
                clear KT T2 N2 U2 E2 I2 C2' Z2' G2' L2 f2 q2
                ((try dsimp only); refine hK.out _ _ (hI.out _ I3) (fun hSw => ?_); (try clear hSw); clear hK K; (try simp only [Act.put, List.setIfInBounds_toArray, List.set_cons_zero, List.set_cons_succ]))
                clear I3
                generalize u2.setCell ⟨gu, 1, none⟩ (.slice A8 (j + 1) c8) = u3 at U3 T3 N3 C3 Z3 G3 ⊢
                refine wpMix_nil ?_
                go_wp2_with fail
                go_roundw
                case measure => simp [intOf]; omega
                case rel => exact ⟨j + 1, A8, c8, _, _, by go_num, by omega, by have := Hs.out; omega, G3.out, by rw [show p + 2 + 4 * (j + 1) = s + 4 by have := Hs.out; omega]; exact C3.out, U3.out, Z3.out, T3.out, by rw [tkAt_snoc, ← Hs.out]; exact N3.out⟩
            · obtain ⟨ae, rfl⟩ := hE
              have hno : unitB zs p = false := by rw [← Bool.not_eq_true]; intro hx; simp only [unitB, Bool.and_eq_true, decide_eq_true_eq, Hq.out] at hx; have := hl.out; have := Hs.out; omega
              have x0 := (Z4.out).cell 0
              have x1 := (Z4.out).cell 1
              simp only [List.getElem?_toArray, List.getElem?_cons_zero, List.getElem?_cons_succ] at x0 x1
              have x2 := (Z4.out).frozen 0
              have x3 := (Z4.out).frozen 1
              go_wp2_with fail
              have EQ := Lib.hid (((Z4.out).set_ 0 (.bool false)).set_ 1 (.slice none 0 0))
              have G9 := Lib.hid (((G4.out).set_new (p := ⟨w.heap.size, 0, none⟩) (Nat.le_refl _) (.bool false)).set_new (p := ⟨w.heap.size, 1, none⟩) (Nat.le_refl _) (.slice none 0 0))
              generalize (World.setCell (World.setCell w4 ⟨w.heap.size, 0, none⟩ (.bool false)) ⟨w.heap.size, 1, none⟩ (.slice none 0 0)) = w9 at EQ G9 ⊢
              have z0 : w9.cell? ⟨w.heap.size, 0, none⟩ = some (.bool false) := EQ.out.cell 0
              have z1 : w9.cell? ⟨w.heap.size, 1, none⟩ = some (.slice none 0 0) := EQ.out.cell 1
              refine bodyPost_ret (v := .tuple #[.agg #[.bool false, .slice none 0 0], .iface 101 (.pointer (some ae))]) (by simp [results, Tryz.results124, go_sem, z0, z1]) rfl ⟨.inr ⟨hno, _, rfl, _, rfl⟩, G9.out⟩
          · obtain ⟨ae, rfl⟩ := hE
            have hno : unitB zs p = false := by rw [← Bool.not_eq_true]; intro hx; simp only [unitB, Bool.and_eq_true, decide_eq_true_eq, Hq.out] at hx; have := hl.out; have := Hs.out; omega
            have x0 := (Z3.out).cell 0
            have x1 := (Z3.out).cell 1
            simp only [List.getElem?_toArray, List.getElem?_cons_zero, List.getElem?_cons_succ] at x0 x1
            have x2 := (Z3.out).frozen 0
            have x3 := (Z3.out).frozen 1
            go_wp2_with fail
            have EQ := Lib.hid (((Z3.out).set_ 0 (.bool false)).set_ 1 (.slice none 0 0))
            have G9 := Lib.hid (((G3.out).set_new (p := ⟨w.heap.size, 0, none⟩) (Nat.le_refl _) (.bool false)).set_new (p := ⟨w.heap.size, 1, none⟩) (Nat.le_refl _) (.slice none 0 0))
            generalize (World.setCell (World.setCell w3 ⟨w.heap.size, 0, none⟩ (.bool false)) ⟨w.heap.size, 1, none⟩ (.slice none 0 0)) = w9 at EQ G9 ⊢
            have z0 : w9.cell? ⟨w.heap.size, 0, none⟩ = some (.bool false) := EQ.out.cell 0
            have z1 : w9.cell? ⟨w.heap.size, 1, none⟩ = some (.slice none 0 0) := EQ.out.cell 1
            refine bodyPost_ret (v := .tuple #[.agg #[.bool false, .slice none 0 0], .iface 101 (.pointer (some ae))]) (by simp [results, Tryz.results124, go_sem, z0, z1]) rfl ⟨.inr ⟨hno, _, rfl, _, rfl⟩, G9.out⟩
        · obtain rfl : q = j := by omega
          have hyes := Lib.hid (show unitB zs p = true by simp only [unitB, Bool.and_eq_true, decide_eq_true_eq, Hq.out, hl.out]; omega)
          have y0 := Hu.out.cell 0
          have y1 := Hu.out.cell 1
          simp only [List.getElem?_toArray, List.getElem?_cons_zero, List.getElem?_cons_succ] at y0 y1
          have x0 := (Hz.out).cell 0
          have x1 := (Hz.out).cell 1
          simp only [List.getElem?_toArray, List.getElem?_cons_zero, List.getElem?_cons_succ] at x0 x1
          have x2 := (Hz.out).frozen 0
          have x3 := (Hz.out).frozen 1
          go_wp2_with fail
          have KT := (KeepTI.set_ Hz.out (by decide) (by decide) 0 (.bool op)).trans (KeepTI.set_ (Hz.out.set_ 0 (.bool op)) (by decide) (by decide) 1 (.slice At q ct))
          have EQ := Lib.hid ((Hz.out.set_ 0 (.bool op)).set_ 1 (.slice At q ct))
          have T9 := Lib.hid (own_keepTI Ht.out (.inr rfl) KT)
          have N9 := Lib.hid (Hn.out.keepTI KT)
          have G9 := Lib.hid ((Hg.out.set_new (p := ⟨w.heap.size, 0, none⟩) (Nat.le_refl _) (.bool op)).set_new (p := ⟨w.heap.size, 1, none⟩) (Nat.le_refl _) (.slice At q ct))
          have C9 := Lib.hid ((Hc.out.far (p := ⟨w.heap.size, 0, none⟩) hne (.bool op)).far (p := ⟨w.heap.size, 1, none⟩) hne (.slice At q ct))
          clear KT
          generalize World.setCell (World.setCell wr ⟨w.heap.size, 0, none⟩ (.bool op)) ⟨w.heap.size, 1, none⟩ (.slice At q ct) = w9 at EQ T9 N9 G9 C9 ⊢
          have z0 : w9.cell? ⟨w.heap.size, 0, none⟩ = some (.bool op) := EQ.out.cell 0
          have z1 : w9.cell? ⟨w.heap.size, 1, none⟩ = some (.slice At q ct) := EQ.out.cell 1
          refine bodyPost_ret (v := .tuple #[.agg #[.bool op, .slice At q ct], .nilIface]) (by simp [results, Tryz.results124, go_sem, z0, z1]) rfl ⟨.inl ⟨hyes.out, At, q, ct, by rw [Hop.out], ?_, by rw [Hun2.out]; exact C9.out⟩, G9.out⟩
          rw [Hop.out]
          exact ⟨vt, nd, T9.out, N9.out⟩
  · obtain ⟨ae, rfl⟩ := hE
    have hno : unitB zs p = false := by rw [← Bool.not_eq_true]; intro hx; simp only [unitB, Bool.and_eq_true, decide_eq_true_eq] at hx; have := hl.out; omega
    have x0 := (Z2.out).cell 0
    have x1 := (Z2.out).cell 1
    simp only [List.getElem?_toArray, List.getElem?_cons_zero, List.getElem?_cons_succ] at x0 x1
    have x2 := (Z2.out).frozen 0
    have x3 := (Z2.out).frozen 1
    go_wp2_with fail
    have EQ := Lib.hid (((Z2.out).set_ 0 (.bool false)).set_ 1 (.slice none 0 0))
    have G9 := Lib.hid (((G2.out).set_new (p := ⟨w.heap.size, 0, none⟩) (Nat.le_refl _) (.bool false)).set_new (p := ⟨w.heap.size, 1, none⟩) (Nat.le_refl _) (.slice none 0 0))
    generalize (World.setCell (World.setCell w2 ⟨w.heap.size, 0, none⟩ (.bool false)) ⟨w.heap.size, 1, none⟩ (.slice none 0 0)) = w9 at EQ G9 ⊢
    have z0 : w9.cell? ⟨w.heap.size, 0, none⟩ = some (.bool false) := EQ.out.cell 0
    have z1 : w9.cell? ⟨w.heap.size, 1, none⟩ = some (.slice none 0 0) := EQ.out.cell 1
    refine bodyPost_ret (v := .tuple #[.agg #[.bool false, .slice none 0 0], .iface 101 (.pointer (some ae))]) (by simp [results, Tryz.results124, go_sem, z0, z1]) rfl ⟨.inr ⟨hno, _, rfl, _, rfl⟩, G9.out⟩
end Go.Proofs.YtlegpecjoaklnaaGreatDoor
