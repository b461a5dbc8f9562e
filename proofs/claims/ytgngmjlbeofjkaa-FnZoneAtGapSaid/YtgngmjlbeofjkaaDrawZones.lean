/- Walk: the draw of zones and of numbers of tasks. -/
import Derived.Test.YtgngmjlbeofjkaaDrawNodes
import Derived.Test.YtgngmjlbeofjkaaAllOwn
namespace Go.Proofs.Ytgngmjlbeofjkaa
open Go.RowKit

set_option maxRecDepth 100000 in
set_option maxHeartbeats 3200000 in
theorem l92Zones_any (g p n c0 : Nat) (A0 : Option Addr) (w : World) (h : Rdr w g p) (hp : p ≤ 600000) (hn : n ≤ 1000) (hb : ∀ w', OnlyG w w' g → ∃ bs, RdB w' w'.heap.size A0 n bs ∧ bs.flatten.length ≤ 1000) :
    Calls Try.prog 47 #[.pointer (some ⟨g, 0, none⟩), .slice A0 n c0] w fun e w' => ∃ A1 n1 c1 zs A2 n2 c2 is, e = .returned (.tuple #[.slice A1 n1 c1, .slice A2 n2 c2]) ∧ OwnI w' w.heap.size A1 n1 c1 zs ∧ OwnI w' w.heap.size A2 n2 c2 is ∧ n1 ≤ 1001 ∧ n2 ≤ 1001 ∧ OnlyG w w' g ∧ ∃ q, q ≤ p + 3000 ∧ Rdr w' g q := by
  obtain ⟨i0, hi0, hz0, hz1, hz2⟩ := info_parts int_info
  have hg0 := h.lt
  have Hb := Lib.hid hb
  have H := Lib.hid h
  clear hb h
  go_enter Try.func47, Try.ntmps47
  go_wp2_with fail
  go_loopw [6, 7] (fun v i wr => ∃ (k c : Nat) (A : Option Addr) (zs : List Int), i = .int .i64 k ∧ k ≤ n ∧ v = .slice A k c ∧ OwnI wr w.heap.size A k c zs ∧ OnlyG w wr g ∧ Rdr wr g (p + k)) (fun _ i _ => n - (intOf i).toNat)
  case atStart => exact ⟨0, 0, _, [], rfl, Nat.zero_le _, rfl, World.ownsRow_made w #[] 0 (Nat.le_refl _) (by unfold maxLen; omega) rfl, (OnlyG.refl w g).alloc _, H.out.below (alloc_up _ _)⟩
  case round =>
    obtain ⟨k, c, A, zs, rfl, hk, rfl, hown, ho, hr⟩ := hrel
    have lz := ho.size
    by_cases hlt : k < n
    · go_wp2_with fail
      refine (pick_at 3 hr rfl (by omega) (by omega) (by omega)).mono ?_; rintro e w1 ⟨r1, rfl, hr1, R1, O1⟩
      have own1 := hown.only O1 hg0
      have s1 : wr.heap.size ≤ w1.heap.size := O1.size
      have Own1 := Lib.hid own1
      have HO1 := Lib.hid (ho.trans O1)
      have HR1 := Lib.hid R1
      have hs1 := Lib.hid (src_one (Blk.new w1 3 #[.int .i64 (r1 : Int)]))
      clear own1 O1 R1 hown ho hr
      go_wp2_with (at_builtin; go_loud (refine wpList_append_src _ rfl _ _ 22 rfl w.heap.size 3 i0 _ 1 8 Try.underlying22 hi0 hz0 hz1 hz2 rfl (by omega) (.slice A k c) k (zs.map (Value.int .i64)) rfl (World.ownsRow.alloc Own1.out _) (some ⟨w1.heap.size, 0, none⟩) 1 1 [.int .i64 (r1 : Int)] rfl hs1.out (by simp [Value.oneCell']) (by unfold maxLen; omega) (by omega) (by simp; omega) ?_; intro v5 w5 hown5 hgrow hrow))
      obtain ⟨A5, c5, rfl⟩ := own_shape hown5
      have Own5 := Lib.hid (show OwnI w5 w.heap.size A5 (k + 1) c5 (zs ++ [(r1 : Int)]) from by unfold OwnI; rw [List.map_append]; exact hown5)
      have HO5 := Lib.hid ((HO1.out.alloc _).grown hgrow (fun r e => (World.ownsRow.lt Own1.out r e).1))
      have HR5 := Lib.hid (show Rdr w5 g (p + (k + 1)) from (HR1.out.below (alloc_up _ _)).keep (fun b hb => hgrow.block b (by have := HR1.out.lt; simp; omega) (fun e => by have := (World.ownsRow.lt Own1.out b e.symm).1; omega)))
      clear hown5 hgrow hrow
      go_roundw
      case rel => exact ⟨k + 1, c5, A5, _, by go_num, by omega, rfl, Own5.out, HO5.out, HR5.out⟩
      case measure => simp [intOf]; omega
    · obtain ⟨N1, hN1⟩ : ∃ N1 : Nat, N1 = k := ⟨k, rfl⟩
      subst hN1
      have Hown := Lib.hid hown
      have HO := Lib.hid ho
      have HR := Lib.hid hr
      clear hown ho hr
      go_wp2_with fail
      have HO2 := Lib.hid (HO.out.alloc (.cells #[] 3))
      obtain ⟨bs, hbs, hbl⟩ := Hb.out _ HO2.out
      refine (l2All_own A0 n c0 bs _ hbs (by omega)).mono ?_; rintro e w2 ⟨A2, m, c2, avs, rfl, hm1, hall, hcl, hlen, hbel⟩
      have low : ∀ b, Value.ownBlock (.slice A N1 c) = some b → b < wr.heap.size := fun b hb => (World.ownsRow.lt Hown.out b hb).2
      have own2 : OwnI w2 w.heap.size A N1 c zs := Hown.out.keep (fun b hb => (hbel.block b (by have := low b hb; simp; omega)).trans (Below.heap_alloc _ _ _ (low b hb)))
      have ids2 : OwnI w2 wr.heap.size (some ⟨wr.heap.size, 0, none⟩) 0 0 [] := own_keep (World.ownsRow_made wr #[] 0 (Nat.le_refl _) (by unfold maxLen; omega) rfl) (fun b hb => by
        simp [Value.ownBlock] at hb; subst hb; exact hbel.block _ (by simp))
      have all2 := own_mono hall (show w.heap.size ≤ (wr.alloc (.cells #[] 3)).heap.size by simp; omega)
      have ho2 := HO2.out.below hbel
      have hr2 := (HR.out.below (alloc_up wr (.cells #[] 3))).below hbel
      have sI : wr.heap.size ≤ w2.heap.size := by have := hbel.size; simp at this; omega
      have lgI : g < wr.heap.size := HR.out.lt
      have swI : w.heap.size ≤ wr.heap.size := lz
      have hm9 : m ≤ 1000 := by omega
      have hav : ∀ j, j < m → ∃ id : Int, avs[j * 2]? = some (.int .i64 id) := fun j hj => by
        obtain ⟨_, _, _, e, _⟩ := hcl.2 j (by omega)
        exact ⟨_, e⟩
      generalize wr.heap.size = loI at low ids2 sI lgI swI ⊢
      have Own2 := Lib.hid own2
      have Ids2 := Lib.hid ids2
      have All2 := Lib.hid all2
      have HO3 := Lib.hid ho2
      have HRx := Lib.hid hr2
      have Hav := Lib.hid hav
      have Low := Lib.hid low
      clear own2 ids2 all2 ho2 hr2 hav low hcl hlen hall hbs hbl hbel HO2 HO HR Hown
      go_wp2_with fail
      go_loopw [8, 10] (fun v i wx => ∃ (k q m1 c1 : Nat) (A1 : Option Addr) (is : List Int), i = .int .i64 k ∧ k ≤ m ∧ v = .slice A1 m1 c1 ∧ m1 ≤ k ∧ OwnI wx loI A1 m1 c1 is ∧ OwnI wx w.heap.size A N1 c zs ∧ wx.ownsRow w.heap.size 46 2 (.slice A2 m c2) m avs ∧ OnlyG w wx g ∧ q ≤ p + N1 + k ∧ Rdr wx g q ∧ loI ≤ wx.heap.size) (fun _ i _ => m - (intOf i).toNat)
      case atStart => exact ⟨0, _, 0, 0, _, [], rfl, Nat.zero_le _, rfl, Nat.zero_le _, Ids2.out, Own2.out, All2.out, HO3.out, by omega, HRx.out, sI⟩
      case round =>
        obtain ⟨k, q, m1, c1, A1, is, rfl, hkm, rfl, hmk, hids, hzon, hall, ho, hq, hr, hsI⟩ := hrel
        have lz := ho.size
        by_cases hlt : k < m
        · obtain ⟨id, hid⟩ := Hav.out k hlt
          obtain ⟨ga, cura, rfl, hga, hblka⟩ := own_row hall (by omega)
          go_wp2_with fail
          refine (pick_at 2 hr rfl (by omega) (by omega) (by omega)).mono ?_; rintro e w3 ⟨r3, rfl, hr3, R3, O3⟩
          have ids3 := hids.only O3 lgI
          have zon3 := hzon.only O3 hg0
          have all3 := own_only hall O3 hg0
          have ho3 := ho.trans O3
          have s3 := O3.size
          have blka := O3.blk hblka (by omega)
          have x0 : w3.cell? ⟨ga, k * 2, none⟩ = some (.int .i64 id) := by have := all3.cells (g := ga) rfl _ _ hid; rwa [addr_add, Nat.zero_add] at this
          have k1 : (0 : Int) ≤ (k : Int) := by omega
          have k2 : (k : Int) < (m : Int) := by omega
          have k3 : 0 ≤ (k : Int) * 2 := by omega
          have Ids3 := Lib.hid ids3
          have Zon3 := Lib.hid zon3
          have All3 := Lib.hid all3
          have Ho3 := Lib.hid ho3
          have HR3 := Lib.hid R3
          have Blka := Lib.hid blka
          have hs3 := Lib.hid (src_one (Blk.new w3 3 #[.int .i64 id]))
          clear ids3 zon3 all3 ho3 R3 O3 blka hblka hids hzon hall ho hr hid
          by_cases h0 : r3 = 0
          · subst h0
            go_wp2_with (at_builtin; go_loud (refine wpList_append_src _ rfl _ _ 22 rfl loI 3 i0 _ 1 8 Try.underlying22 hi0 hz0 hz1 hz2 rfl (by omega) (.slice A1 m1 c1) m1 (is.map (Value.int .i64)) rfl (World.ownsRow.alloc Ids3.out _) (some ⟨w3.heap.size, 0, none⟩) 1 1 [.int .i64 id] rfl hs3.out (by simp [Value.oneCell']) (by unfold maxLen; omega) (by omega) (by simp; omega) ?_; intro v5 w5 hown5 hgrow hrow))
            obtain ⟨A5, c5, rfl⟩ := own_shape hown5
            have kk : ∀ b, b < w3.heap.size → (some b ≠ Value.ownBlock (.slice A1 m1 c1)) → w5.heap[b]? = w3.heap[b]? := fun b hb hne => (hgrow.block b (by simp; omega) hne).trans (Below.heap_alloc _ _ _ hb)
            have Own5 := Lib.hid (show OwnI w5 loI A5 (m1 + 1) c5 (is ++ [id]) from by unfold OwnI; rw [List.map_append]; exact hown5)
            have Zon5 := Lib.hid (show OwnI w5 w.heap.size A N1 c zs from Zon3.out.keep (fun b hb => kk b (World.ownsRow.lt Zon3.out b hb).2 (fun e => by have := (World.ownsRow.lt Ids3.out b e.symm).1; have := Low.out b hb; omega)))
            have All5 := Lib.hid (own_keep (w' := w5) All3.out (fun b hb => by
              simp [Value.ownBlock] at hb
              subst hb
              exact kk _ Blka.out.lt (fun e => own_ne_any (by decide) Ids3.out Blka.out e.symm)))
            have Ho5 := Lib.hid ((Ho3.out.alloc _).grown hgrow (fun r e => by have := (World.ownsRow.lt Ids3.out r e).1; omega))
            have HR5 := Lib.hid (show Rdr w5 g (q + 1) from HR3.out.keep (fun b hb => kk b (by have := HR3.out.lt; omega) (fun e => by have := (World.ownsRow.lt Ids3.out b e.symm).1; omega)))
            have s5 : loI ≤ w5.heap.size := by have := hgrow.size; simp at this; omega
            clear hown5 hgrow hrow kk
            go_roundw
            case rel => exact ⟨k + 1, q + 1, m1 + 1, c5, A5, _, by go_num, by omega, rfl, by omega, Own5.out, Zon5.out, All5.out, Ho5.out, by omega, HR5.out, s5⟩
            case measure => simp [intOf]; omega
          · have e4 : ((r3 : Int) == 0) = false := by simp; omega
            go_wp2
            go_roundw
            case rel => exact ⟨k + 1, q + 1, m1, c1, A1, _, by go_num, by omega, rfl, by omega, Ids3.out, Zon3.out, All3.out, Ho3.out, by omega, HR3.out, by omega⟩
            case measure => simp [intOf]; omega
        · have Hids := Lib.hid hids
          have Hzon := Lib.hid hzon
          have Ho := Lib.hid ho
          clear hids hzon hall ho
          go_wp2_with fail
          refine (pick_at 24 hr rfl (by omega) (by omega) (by omega)).mono ?_; rintro e w3 ⟨r3, rfl, hr3, R3, O3⟩
          have ids3 := Hids.out.only O3 lgI
          have zon3 := Hzon.out.only O3 hg0
          have ho3 := Ho.out.trans O3
          have s3 := O3.size
          have lz3 := ho3.size
          have Ids3 := Lib.hid ids3
          have Zon3 := Lib.hid zon3
          have Ho3 := Lib.hid ho3
          have HR3 := Lib.hid R3
          clear ids3 zon3 ho3 R3 O3 Hids Hzon Ho hr
          by_cases e0 : r3 = 0
          · subst e0
            have hs3 := Lib.hid (src_one (Blk.new w3 3 #[.int .i64 0]))
            go_wp2_with (at_builtin; go_loud (refine wpList_append_src _ rfl _ _ 22 rfl w.heap.size 3 i0 _ 1 8 Try.underlying22 hi0 hz0 hz1 hz2 rfl (by omega) (.slice A N1 c) N1 (zs.map (Value.int .i64)) rfl (World.ownsRow.alloc Zon3.out _) (some ⟨w3.heap.size, 0, none⟩) 1 1 [.int .i64 0] rfl hs3.out (by simp [Value.oneCell']) (by unfold maxLen; omega) (by omega) (by simp; omega) ?_; intro v5 w5 hown5 hgrow hrow))
            obtain ⟨A5, c5, rfl⟩ := own_shape hown5
            have kk : ∀ b, b < w3.heap.size → (some b ≠ Value.ownBlock (.slice A N1 c)) → w5.heap[b]? = w3.heap[b]? := fun b hb hne => (hgrow.block b (by simp; omega) hne).trans (Below.heap_alloc _ _ _ hb)
            have Own5 := Lib.hid (show OwnI w5 w.heap.size A5 (N1 + 1) c5 (zs ++ [0]) from by unfold OwnI; rw [List.map_append]; exact hown5)
            have Ids5 := Lib.hid (show OwnI w5 loI A1 m1 c1 is from Ids3.out.keep (fun b hb => kk b (World.ownsRow.lt Ids3.out b hb).2 (fun e => by have := (World.ownsRow.lt Ids3.out b hb).1; have := Low.out b e.symm; omega)))
            have Ho5 := Lib.hid ((Ho3.out.alloc _).grown hgrow (fun r e => (World.ownsRow.lt Zon3.out r e).1))
            have HR5 := Lib.hid (show Rdr w5 g (q + 1) from HR3.out.keep (fun b hb => kk b (by have := HR3.out.lt; omega) (fun e => by have := (World.ownsRow.lt Zon3.out b e.symm).1; omega)))
            clear hown5 hgrow hrow kk
            go_wp2
            go_ret2
            exact ⟨A5, N1 + 1, c5, _, A1, m1, c1, is, rfl, Own5.out, own_mono Ids5.out swI, by omega, by omega, Ho5.out, _, by omega, HR5.out⟩
          by_cases e1 : r3 = 1
          · subst e1
            go_wp2_with fail
            refine (pick_at 3 (HR3.out.below (alloc_up _ _)) rfl (by omega) (by omega) (by omega)).mono ?_; rintro e w4 ⟨r4, rfl, hr4, R4, O4⟩
            have lt3 := HR3.out.lt
            have C4 := O4.blk (Blk.new w3 _ _) (by omega)
            have O34 : OnlyG w3 w4 g := ((OnlyG.refl w3 g).alloc _).trans O4
            have hcell : ∃ v : Int, w4.cell? ⟨w3.heap.size, r4, none⟩ = some (.int .i64 v) := by
              rw [C4.cell]
              match r4, hr4 with
              | 0, _ => exact ⟨0, rfl⟩
              | 1, _ => exact ⟨40, rfl⟩
              | 2, _ => exact ⟨41, rfl⟩
            obtain ⟨v, hv⟩ := hcell
            have k4 : (r4 : Int) < 3 := by omega
            have s4 := O34.size
            have Ids4 := Lib.hid (Ids3.out.only O34 lgI)
            have Zon4 := Lib.hid (Zon3.out.only O34 hg0)
            have Ho4 := Lib.hid (Ho3.out.trans O34)
            have HR4 := Lib.hid R4
            have hs4 := Lib.hid (src_one (Blk.new w4 3 #[.int .i64 v]))
            clear R4 O4 O34 C4
            go_wp2_with (at_builtin; go_loud (refine wpList_append_src _ rfl _ _ 22 rfl loI 3 i0 _ 1 8 Try.underlying22 hi0 hz0 hz1 hz2 rfl (by omega) (.slice A1 m1 c1) m1 (is.map (Value.int .i64)) rfl (World.ownsRow.alloc Ids4.out _) (some ⟨w4.heap.size, 0, none⟩) 1 1 [.int .i64 v] rfl hs4.out (by simp [Value.oneCell']) (by unfold maxLen; omega) (by omega) (by simp; omega) ?_; intro v5 w5 hown5 hgrow hrow))
            obtain ⟨A5, c5, rfl⟩ := own_shape hown5
            have kk : ∀ b, b < w4.heap.size → (some b ≠ Value.ownBlock (.slice A1 m1 c1)) → w5.heap[b]? = w4.heap[b]? := fun b hb hne => (hgrow.block b (by simp; omega) hne).trans (Below.heap_alloc _ _ _ hb)
            have Own5 := Lib.hid (show OwnI w5 loI A5 (m1 + 1) c5 (is ++ [v]) from by unfold OwnI; rw [List.map_append]; exact hown5)
            have Zon5 := Lib.hid (show OwnI w5 w.heap.size A N1 c zs from Zon4.out.keep (fun b hb => kk b (World.ownsRow.lt Zon4.out b hb).2 (fun e => by have := (World.ownsRow.lt Ids4.out b e.symm).1; have := Low.out b hb; omega)))
            have Ho5 := Lib.hid ((Ho4.out.alloc _).grown hgrow (fun r e => by have := (World.ownsRow.lt Ids4.out r e).1; omega))
            have HR5 := Lib.hid (show Rdr w5 g (q + 1 + 1) from HR4.out.keep (fun b hb => kk b (by have := HR4.out.lt; omega) (fun e => by have := (World.ownsRow.lt Ids4.out b e.symm).1; omega)))
            clear hown5 hgrow hrow kk
            go_wp2
            go_ret2
            exact ⟨A, N1, c, _, A5, m1 + 1, c5, _, rfl, Zon5.out, own_mono Own5.out swI, by omega, by omega, Ho5.out, _, by omega, HR5.out⟩
          by_cases e2 : r3 = 2
          · subst e2
            by_cases hN0 : N1 = 0
            · subst hN0
              go_wp2
              go_ret2
              exact ⟨A, 0, c, _, A1, m1, c1, is, rfl, Zon3.out, own_mono Ids3.out swI, by omega, by omega, Ho3.out, _, by omega, HR3.out⟩
            · obtain ⟨gz, curz, rfl, hgz, hblkz⟩ := own_row Zon3.out (by omega)
              have eN : (0 : Int) < (N1 : Int) := by omega
              go_wp2_with fail
              refine (pick_at 3 (HR3.out.below (alloc_up _ _)) rfl (by omega) (by omega) (by omega)).mono ?_; rintro e w4 ⟨r4, rfl, hr4, R4, O4⟩
              have lt3 := HR3.out.lt
              have C4 := O4.blk (Blk.new w3 _ _) (by omega)
              have O34 : OnlyG w3 w4 g := ((OnlyG.refl w3 g).alloc _).trans O4
              have hcell : ∃ v : Int, w4.cell? ⟨w3.heap.size, r4, none⟩ = some (.int .i64 v) := by
                rw [C4.cell]
                match r4, hr4 with
                | 0, _ => exact ⟨-1, rfl⟩
                | 1, _ => exact ⟨3, rfl⟩
                | 2, _ => exact ⟨4, rfl⟩
              obtain ⟨v, hv⟩ := hcell
              have k4 : (r4 : Int) < 3 := by omega
              have s4 := O34.size
              have Ids4 := Lib.hid (Ids3.out.only O34 lgI)
              have zon4 := Zon3.out.only O34 hg0
              have Ho4 := Lib.hid (Ho3.out.trans O34)
              have HR4 := Lib.hid R4
              have blkz := O34.blk hblkz (by omega)
              have hz4 : ∃ u, w4.cell? ⟨gz, 0, none⟩ = some u := by
                have hl := zon4.len
                match zs, hl with
                | [], hl => simp at hl; omega
                | a :: _, _ => exact ⟨_, by have := World.ownsRow.cells zon4 (g := gz) rfl 0 (.int .i64 a) rfl; rwa [addr_add, Nat.zero_add] at this⟩
              obtain ⟨u, hu⟩ := hz4
              have z0 : w4.frozen? ⟨gz, 0, none⟩ = false := blkz.frozen _
              have Zon4 := Lib.hid zon4
              have lowz := Low.out gz rfl
              clear R4 O4 O34 C4 zon4 blkz hblkz
              go_wp2
              go_ret2
              refine ⟨_, N1, c, zs.set 0 v, A1, m1, c1, is, rfl, ?_, own_mono (Ids4.out.keep (fun b hb => Below.heap_setCell _ _ _ _ (by have := (World.ownsRow.lt Ids4.out b hb).1; simp; omega))) swI, by omega, by omega, Ho4.out.set_new hgz _, _, by omega, HR4.out.keep (fun b hb => Below.heap_setCell _ _ _ _ (by simp; omega))⟩
              unfold OwnI
              rw [List.map_set]
              exact own_set Zon4.out 0 _
          · have e3 : ((r3 : Int) == 0) = false := by simp; omega
            have e4 : ((r3 : Int) == 1) = false := by simp; omega
            have e5 : ((r3 : Int) == 2) = false := by simp; omega
            go_wp2
            go_ret2
            exact ⟨A, N1, c, _, A1, m1, c1, is, rfl, Zon3.out, own_mono Ids3.out swI, by omega, by omega, Ho3.out, _, by omega, HR3.out⟩
end Go.Proofs.Ytgngmjlbeofjkaa
