/- The walk of the law FnZoneAtGap: a task in the emptiest zone makes no great gap. -/
import Derived.Test.YtgngmjlbeofjkaaAtGapPure
import Derived.Test.YtgngmjlbeofjkaaZoneAtRow
import Derived.Test.YtgngmjlbeofjkaaCountsOneLaw
namespace Go.Proofs.Ytgngmjlbeofjkaa
open Go Go.RowKit
attribute [local go_sem ↓] Go.wp_at_zero Go.wp_at_succ

/-- A slice of integers, as a source. -/
theorem RdI.srcI {w : World} {B n : Nat} {A : Option Addr} {xs : List Int} (h : RdI w B A n xs) : Src w 1 A n (xs.map (Value.int .i64)) := by
  refine ⟨by rw [List.length_map, h.len, Nat.mul_one], fun hm => ?_⟩
  obtain ⟨b, o, rfl, hb, hc⟩ := h.2.2 hm
  refine ⟨_, rfl, fun j u hj => ?_⟩
  have hl := h.len
  have hjm : j < n := by
    rcases Nat.lt_or_ge j n with h' | h'
    · exact h'
    · rw [List.getElem?_eq_none (by simp; omega)] at hj; cases hj
  rw [addr_add, hc j hjm, ← hj, List.getElem?_map, List.getElem?_eq_getElem (by omega)]
  rfl
/-- The cells of nodes. -/
def BnCells (w : World) (B : Nat) (vs : List Value) (bs : List (List Tk)) : Prop :=
  vs.length = bs.length ∧ ∀ j, j < bs.length → ∃ A' m c, vs[j]? = some (.slice A' m c) ∧ m ≤ c ∧ RdT w B A' m (bs[j]?.getD [])
theorem BnCells.one {w : World} {B : Nat} {vs : List Value} {bs : List (List Tk)} (h : BnCells w B vs bs) : ∀ u ∈ vs, u.oneCell' = true := by
  intro u hu
  obtain ⟨i, hi, rfl⟩ := List.getElem_of_mem hu
  obtain ⟨A', m, c, h1, _⟩ := h.2 i (by have := h.1; omega)
  rw [List.getElem?_eq_getElem hi] at h1
  injection h1 with h1; rw [h1]; rfl
theorem BnCells.keep {w w' : World} {B B' : Nat} {vs : List Value} {bs : List (List Tk)} (h : BnCells w B vs bs) (hk : ∀ p : Addr, p.block < B → w'.cell? p = w.cell? p) (hB : B ≤ B') : BnCells w' B' vs bs :=
  ⟨h.1, fun j hj => by obtain ⟨A', m, c, h1, h2, h3⟩ := h.2 j hj; exact ⟨A', m, c, h1, h2, h3.keep hk hB⟩⟩
/-- A slice of nodes, as a source. -/
theorem RdB.src {w : World} {B n : Nat} {A : Option Addr} {bs : List (List Tk)} (h : RdB w B A n bs) : ∃ vs, Src w 1 A n vs ∧ BnCells w B vs bs := by
  have hl := h.len
  rcases Nat.eq_zero_or_pos n with h0 | h0
  · subst h0
    exact ⟨[], ⟨rfl, fun h => absurd h (by omega)⟩, by simp; omega, fun j hj => by omega⟩
  · obtain ⟨b, o, rfl, hb, hc⟩ := h.2.2 h0
    let f : Nat → Value := fun i => (w.cell? ⟨b, o + i, none⟩).getD undef
    have hf : ∀ i, i < n → w.cell? ⟨b, o + i, none⟩ = some (f i) := by
      intro i hi
      obtain ⟨A', m, c, h1, _⟩ := hc i hi
      simp only [f, h1, Option.getD_some]
    have hg : ∀ i, i < n → ((List.range n).map f)[i]? = some (f i) := by
      intro i hi
      rw [List.getElem?_map, List.getElem?_range hi]; rfl
    refine ⟨(List.range n).map f, ⟨by simp, fun _ => ⟨_, rfl, fun j u hu => ?_⟩⟩, ⟨by simp [hl], fun j hj => ?_⟩⟩
    · have hj : j < n := by
        rcases Nat.lt_or_ge j n with h | h
        · exact h
        · rw [List.getElem?_eq_none (by simpa using h)] at hu; cases hu
      rw [hg j hj] at hu
      injection hu with hu
      rw [addr_add, hf j hj, hu]
    · obtain ⟨A', m, c, h1, h2, h3⟩ := hc j (by omega)
      refine ⟨A', m, c, ?_, h2, h3⟩
      rw [hg _ (by omega)]
      have := hf j (by omega)
      rw [h1] at this
      exact this.symm
/-- A row of nodes that the call owns reads. -/
theorem RdB.of_own {w : World} {base B n c : Nat} {e : TypeId} {A : Option Addr} {vs : List Value} {bs : List (List Tk)} (h : w.ownsRow base e 1 (.slice A n c) n vs) (ht : BnCells w B vs bs) (hB : B ≤ w.heap.size) (hn : n ≤ 9223372036854775807) : RdB w w.heap.size A n bs := by
  have hl : bs.length = n := by have := h.1; have := ht.1; omega
  refine ⟨hl, hn, fun hp => ?_⟩
  obtain ⟨g, cap, hv, _, hlt⟩ := h.form hp
  have hA : A = some ⟨g, 0, none⟩ := by injection hv
  subst hA
  refine ⟨g, 0, rfl, hlt, fun j hj => ?_⟩
  obtain ⟨A', m, c', h1, h3, h4⟩ := ht.2 j (by omega)
  have e1 := h.cells (g := g) rfl _ _ h1
  rw [addr_add] at e1
  exact ⟨A', m, c', e1, h3, h4.more hB⟩

set_option maxRecDepth 100000 in
set_option maxHeartbeats 6400000 in
theorem zoneAtGap_walk (A : Option Addr) (n c : Nat) (w : World) (h : RdU w w.heap.size A n) (hc : n ≤ c) (hcm : c ≤ 9223372036854775807) :
    Calls Try.prog 11 #[.slice A n c] w fun e w' => e = .returned (.bool true) ∧ Below w.heap.size w w' := by
  obtain ⟨i0, hi0, hz0, hz1, hz2⟩ := info_parts task_info
  obtain ⟨j0, hj0, hjz0, hjz1, hjz2⟩ := info_parts int_info
  obtain ⟨s0, hs0, hsz0, hsz1, hsz2⟩ := info_parts slice_info
  by_cases kn : 1048576 < n
  · go_enter Try.func11, Try.ntmps11
    go_wp2
    go_ret
    exact ⟨rfl, Below.refl _ _⟩
  go_enter Try.func11, Try.ntmps11
  go_wp2_with fail
  refine (drawZoneAt_any A n c w h hc hcm).mono ?_; rintro e w1 ⟨A1, A2, A3, A4, A5, n2, n3, n4, c2, c3, c4, room, bs, zones, ids, idx, xs, rfl, D1, DX1, hn2, B1⟩
  clear h
  have hfl := D1.flat
  have l2 := Lib.hid D1.r.b.len
  have l3 := Lib.hid D1.r.c.len
  have lx := Lib.hid DX1.len
  have hk := Lib.hid (fun w' => box_keep w1 (.int .i64 idx) (.slice A5 3 3) (w' := w'))
  have d2 := alloc_up w1 (.cells #[.int .i64 idx, .slice A5 3 3] 46)
  have sz2 := World.size_alloc w1 (.cells #[.int .i64 idx, .slice A5 3 3] 46)
  have E2 := hk.out _ (Below.refl _ _)
  obtain ⟨x0, x1⟩ := E2
  go_wp2_with fail
  generalize w1.alloc (.cells #[.int .i64 idx, .slice A5 3 3] 46) = w2 at hk d2 sz2 x0 x1 ⊢
  rw [← sz2] at hk
  have SZ2 := Lib.hid sz2
  have D2 := D1.up d2
  have DX2 := DX1.up d2
  have B2 := below_to B1 d2
  clear D1 DX1 B1 d2 sz2
  refine (zoneAtI_any _ _ _ _ _ _ _ _ _ _ _ _ _ _ _ _ _ _ _ _ _ _ D2.r.a D2.r.b D2.r.c D2.r.d DX2 (by omega) (by omega)).mono ?_; rintro e w3 ⟨rfl, d3⟩
  have K3 := Lib.hid d3
  have D3 := D2.up d3
  have DX3 := DX2.up d3
  have B3 := below_to B2 d3
  clear x0 x1 d3 D2 DX2 B2
  obtain ⟨x0, x1⟩ := hk.out _ K3.out
  go_wp2_with fail
  refine (zoneAtS_any _ _ _ _ _ _ _ _ _ _ _ _ _ _ _ _ _ _ _ _ _ _ D3.r.a D3.r.b D3.r.c D3.r.d DX3 (by omega) (by omega)).mono ?_; rintro e w4 ⟨rfl, d4⟩
  have K4 := Lib.hid (below_to K3.out d4)
  have D4 := D3.up d4
  have DX4 := DX3.up d4
  have B4 := below_to B3 d4
  clear x0 x1 d4 D3 DX3 B3 K3
  rcases zoneAt_spec (room := room) (bs := bs) (zones := zones) (ids := ids) (t := (idx, xs)) with hno | ⟨hzok, hcok, at_, hat, hlt, hroom, hbest⟩
  · rw [hno]
    have HB4 := Lib.hid B4
    clear D4 DX4 B4 hno
    go_wp2
    go_ret
    exact ⟨rfl, HB4.out⟩
  · rw [hat]
    have HZ := Lib.hid hzok
    have HC := Lib.hid hcok
    have HRO := Lib.hid hroom
    have HBE := Lib.hid hbest
    have HLT := Lib.hid (show at_ < n2 by have := l2.out; omega)
    have hat0 : decide ((at_ : Int) < 0) = false := by simp
    have HAT := Lib.hid hlt
    clear hzok hcok hroom hbest hat hlt
    have HD4 := Lib.hid D4
    have HDX4 := Lib.hid DX4
    have HB4 := Lib.hid B4
    have l4 := Lib.hid D4.r.d.len
    have hn4 := D4.le4
    clear D4 DX4 B4
    go_wp2_with fail
    go_loopw [10] (fun i wr => ∃ k : Nat, i = .int .i64 k ∧ k ≤ n4 ∧ Below w4.heap.size w4 wr ∧ (∀ j, j < k → ids[j]?.getD 0 ≠ idx)) (fun i _ => n4 - (intOf i).toNat)
    case atStart => exact ⟨0, rfl, Nat.zero_le _, Below.refl _ _, by intro j hj; omega⟩
    case round =>
      obtain ⟨k, rfl, hk', hbel, hne⟩ := hrel
      have HBEL := Lib.hid hbel
      have BW := Lib.hid (below_to HB4.out hbel)
      have KW := Lib.hid (below_to K4.out hbel)
      have HNE := Lib.hid hne
      clear hbel hne
      by_cases hlt : k < n4
      · obtain ⟨b, o, rfl, hb, hcc⟩ := (HD4.out.up HBEL.out).r.d.at_ hlt
        obtain ⟨x0, x1⟩ := hk.out _ KW.out
        have k0 : (0 : Int) ≤ (k : Int) := by omega
        have k1 : (k : Int) < (n4 : Int) := by omega
        by_cases he : ids[k]?.getD 0 = idx
        · have e1 : (ids[k]?.getD 0 == idx) = true := by simp [he]
          clear he
          go_wp2_with fail
          refine wp_region_mix (.take 0 (.take 1 (.take 2 (.take 3 (.take 4 (.take 5 (.take 6 .nil))))))) (fun w' => w'.cell? ⟨b, o + k, none⟩ = some (.int .i64 (ids[k]?.getD 0)) ∧ w'.cell? ⟨w1.heap.size, 0, none⟩ = some (.int .i64 idx)) (by kernel_rfl) (by kernel_rfl) ⟨hcc, x0⟩ (fun _ => ?_)
          repeat (first | (refine wpMix_skip (by rfl) (by rfl) ?_; (try simp only [Act.put, List.setIfInBounds_toArray, List.set_cons_zero, List.set_cons_succ])) | (refine wpMix_take (v := ?_) (by rfl) (by rfl) (fun wS hSt => ?_) ?_; rotate_left; (focus ((try dsimp only at hSt); (go_simp <;> with_reducible rfl); done)); (try simp only [Act.put, List.setIfInBounds_toArray, List.set_cons_zero, List.set_cons_succ])))
          refine wpMix_nil ?_
          go_wp2
          go_ret
          exact ⟨rfl, BW.out.drew⟩
        · have e1 : (ids[k]?.getD 0 == idx) = false := by simp [he]
          have HE1 := Lib.hid he
          clear he
          go_wp2_with fail
          refine wp_region_mix (.take 0 (.take 1 (.take 2 (.take 3 (.take 4 (.take 5 (.take 6 .nil))))))) (fun w' => w'.cell? ⟨b, o + k, none⟩ = some (.int .i64 (ids[k]?.getD 0)) ∧ w'.cell? ⟨w1.heap.size, 0, none⟩ = some (.int .i64 idx)) (by kernel_rfl) (by kernel_rfl) ⟨hcc, x0⟩ (fun _ => ?_)
          repeat (first | (refine wpMix_skip (by rfl) (by rfl) ?_; (try simp only [Act.put, List.setIfInBounds_toArray, List.set_cons_zero, List.set_cons_succ])) | (refine wpMix_take (v := ?_) (by rfl) (by rfl) (fun wS hSt => ?_) ?_; rotate_left; (focus ((try dsimp only at hSt); (go_simp <;> with_reducible rfl); done)); (try simp only [Act.put, List.setIfInBounds_toArray, List.set_cons_zero, List.set_cons_succ])))
          refine wpMix_nil ?_
          go_wp2
          go_roundw
          case rel => exact ⟨k + 1, by go_num, by omega, HBEL.out.drew, fun j hj => by
            by_cases e : j = k
            · rw [e]; exact HE1.out
            · exact HNE.out j (by omega)⟩
          case measure => simp [intOf]; omega
      · have hid := Lib.hid (show idx ∉ ids from fun hm => by
          obtain ⟨j, hj, e⟩ := List.getElem_of_mem hm
          have := HNE.out j (by have := l4.out; omega)
          rw [List.getElem?_eq_getElem hj] at this
          exact this e)
        clear HNE
        obtain ⟨wo, hwo⟩ : ∃ wo : World, wr = wo := ⟨_, rfl⟩
        subst hwo
        go_wp2_with fail
        go_loopw [11] (fun i wr => ∃ k : Nat, i = .int .i64 k ∧ k ≤ n2 ∧ Below w4.heap.size w4 wr ∧ (∀ j, j < k → roomB room bs xs j = true)) (fun i _ => n2 - (intOf i).toNat)
        case atStart => exact ⟨0, rfl, Nat.zero_le _, HBEL.out, by intro j hj; omega⟩
        case round =>
          clear HBEL BW KW
          obtain ⟨k, rfl, hk', hbel, hall⟩ := hrel
          have HBEL := Lib.hid hbel
          have BW := Lib.hid (below_to HB4.out hbel)
          have KW := Lib.hid (below_to K4.out hbel)
          have HALL := Lib.hid hall
          clear hbel hall
          by_cases hlt : k < n2
          · obtain ⟨b, o, At, mt, ct, rfl, hb, hcc, hmc, hrd⟩ := (HD4.out.up HBEL.out).r.b.at_ hlt
            have HRT := Lib.hid hrd
            have HRX := Lib.hid (HDX4.out.up HBEL.out)
            have hmt := Lib.hid hrd.len
            have lmt : mt ≤ 1000 := by have := bin_len (bs := bs) (k := k) (by have := l2.out; omega); have := hrd.len; omega
            obtain ⟨x0, x1⟩ := hk.out _ KW.out
            have lwr := SZ2.out
            have lk2 := KW.out.size
            have k0 : (0 : Int) ≤ (k : Int) := by omega
            have k1 : (k : Int) < (n2 : Int) := by omega
            have keepS := Lib.hid (show ∀ W, Below wr.heap.size wr W → W.cell? ⟨b, o + k, none⟩ = some (.slice At mt ct) ∧ W.cell? ⟨w1.heap.size, 0, none⟩ = some (.int .i64 idx) ∧ W.cell? ⟨w1.heap.size, 1, none⟩ = some (.slice A5 3 3) from fun W hW =>
              ⟨(hW.cell (p := ⟨b, o + k, none⟩) hb).trans hcc, (hW.cell (p := ⟨w1.heap.size, 0, none⟩) (by simp; omega)).trans x0, (hW.cell (p := ⟨w1.heap.size, 1, none⟩) (by simp; omega)).trans x1⟩)
            have K0 := keepS.out wr.drew (Below.refl _ _).drew
            have ts_ := Lib.hid (binsOk_one HC.out (i := k) (by have := l2.out; omega))
            clear hrd hcc x0 x1
            go_wp2_with fail
            refine wp_region_mix (.take 0 (.take 2 (.take 3 (.take 4 (.take 5 (.take 7 (.fork 1 (.fork 6 (.bar 8 (.bar 9 (.bar 10 (.bar 11 (.take 12 .nil))))) 8 (.bar 6 (.bar 9 (.bar 10 (.bar 11 (.take 12 .nil)))))) 8 (.bar 1 (.bar 6 (.bar 9 (.bar 10 (.bar 11 (.take 12 .nil))))))))))))) (fun w' => w'.cell? ⟨b, o + k, none⟩ = some (.slice At mt ct) ∧ w'.cell? ⟨w1.heap.size, 0, none⟩ = some (.int .i64 idx) ∧ w'.cell? ⟨w1.heap.size, 1, none⟩ = some (.slice A5 3 3)) (by kernel_rfl) (by kernel_rfl) K0 (fun _ => ?_)
            clear K0
            repeat (first | (refine wpMix_skip (by rfl) (by rfl) ?_; (try simp only [Act.put, List.setIfInBounds_toArray, List.set_cons_zero, List.set_cons_succ])) | (refine wpMix_take (v := ?_) (by rfl) (by rfl) (fun wS hSt => ?_) ?_; rotate_left; (focus ((try dsimp only at hSt); (go_simp <;> with_reducible rfl); done)); (try simp only [Act.put, List.setIfInBounds_toArray, List.set_cons_zero, List.set_cons_succ])))
            have hlo : wr.heap.size ≤ wr.heap.size := Nat.le_refl _
            have HB0 := Lib.hid ((Below.refl wr.heap.size wr).drew)
            generalize wr.drew = u0 at HB0 ⊢
            refine wpMix_fork (by rfl) (by rfl) (fun K hK => ?_) (fun K hK => ?_)
            go_simp
            have HB1 := Lib.hid (HB0.out.alloc HB0.out.size (.cells #[] 46))
            have sz1 : (u0).heap.size < (World.alloc (u0) (.cells #[] 46)).heap.size := by simp
            have HE := Lib.hid (show (World.alloc (u0) (.cells #[] 46)).ownsRow wr.heap.size 46 2 (.slice (some ⟨(u0).heap.size, 0, none⟩) 0 0) 0 [] from World.ownsRow_made (u0) #[] 0 HB0.out.size (by unfold maxLen; omega) rfl)
            ((try dsimp only); refine hK.out _ _ (keepS.out _ HB1.out) (fun hSw => ?_); (try clear hSw); clear hK K; (try simp only [Act.put, List.setIfInBounds_toArray, List.set_cons_zero, List.set_cons_succ]))
            generalize (u0).heap.size = ge at HE sz1 ⊢
            generalize World.alloc (u0) (.cells #[] 46) = u1 at HB1 sz1 HE ⊢
            refine wpMix_fork (by rfl) (by rfl) (fun K hK => ?_) (fun K hK => ?_)
            skip
            rw [if_pos (by rfl)]
            obtain ⟨news, hsrc, htn⟩ := (HRT.out.below (HB1.out.mono hlo)).src
            refine wp_append_src _ _ _ 53 (by rfl) wr.heap.size 46 i0 _ 2 32 Try.underlying53 hi0 hz0 hz1 hz2 rfl (by omega) (.slice (some ⟨ge, 0, none⟩) 0 0) 0 [] (by rfl) HE.out At mt ct news (by rfl) hsrc htn.one (by unfold maxLen; omega) (by omega) HB1.out.size ?_
            intro v6 u2 hown6 hgrow6 hrow6
            rw [Nat.zero_add, List.nil_append] at hown6
            obtain ⟨A6m, c6m, rfl⟩ := own_shape hown6
            have Hown := Lib.hid hown6
            have HB2 := Lib.hid (HB1.out.grown hgrow6 HB1.out.size (fun j e => (HE.out.lt j e).1))
            have Htk := Lib.hid (htn.below (((Below.refl wr.heap.size (u1)).grown hgrow6 HB1.out.size (fun j e => (HE.out.lt j e).1)).mono hlo))
            have sz2 := hgrow6.size
            clear hown6 hrow6 hsrc htn hgrow6
            ((try dsimp only); refine hK.out _ _ (keepS.out _ HB2.out) (fun hSw => ?_); (try clear hSw); clear hK K; (try simp only [Act.put, List.setIfInBounds_toArray, List.set_cons_zero, List.set_cons_succ]))
            (refine wpMix_bar (by rfl) (fun K hK => ?_); go_simp)
            have HB3 := Lib.hid (HB2.out.alloc HB2.out.size (.cells #[.int .i64 idx, .slice A5 3 3] 46))
            have sz3 : (u2).heap.size < (World.alloc (u2) (.cells #[.int .i64 idx, .slice A5 3 3] 46)).heap.size := by simp
            have HXB := Lib.hid (Blk.new (u2) 46 #[.int .i64 idx, .slice A5 3 3])
            replace Hown := Lib.hid (own_keep Hown.out (w' := World.alloc (u2) (.cells #[.int .i64 idx, .slice A5 3 3] 46)) (fun b hb => Below.heap_alloc _ _ _ (Hown.out.lt b hb).2))
            replace Htk := Lib.hid (Htk.out.below (((Below.refl wr.heap.size (u2)).alloc HB2.out.size (.cells #[.int .i64 idx, .slice A5 3 3] 46)).mono hlo))
            ((try dsimp only); refine hK.out _ _ (keepS.out _ HB3.out) (fun hSw => ?_); (try clear hSw); clear hK K; (try simp only [Act.put, List.setIfInBounds_toArray, List.set_cons_zero, List.set_cons_succ]))
            generalize (u2).heap.size = gx at HXB sz2 sz3 ⊢
            generalize World.alloc (u2) (.cells #[.int .i64 idx, .slice A5 3 3] 46) = u3 at HB3 sz3 HXB Hown Htk ⊢
            have HBz := HB3
            have HX := Lib.hid (show Src u3 2 (some ⟨gx, 0, none⟩) 1 [.int .i64 idx, .slice A5 3 3] from ⟨rfl, fun _ => ⟨_, rfl, fun j u hu => by rw [addr_add, Nat.zero_add, HXB.out.cell]; simpa using hu⟩⟩)
            clear HB0 HB1 HB2 HB3 HE HXB sz1 sz2 sz3
            rotate_left
            go_simp
            have HB2 := Lib.hid (HB1.out.alloc HB1.out.size (.cells #[.int .i64 idx, .slice A5 3 3] 46))
            have sz2 : (u1).heap.size < (World.alloc (u1) (.cells #[.int .i64 idx, .slice A5 3 3] 46)).heap.size := by simp
            have HXB := Lib.hid (Blk.new (u1) 46 #[.int .i64 idx, .slice A5 3 3])
            replace HE := Lib.hid (own_keep HE.out (w' := World.alloc (u1) (.cells #[.int .i64 idx, .slice A5 3 3] 46)) (fun b hb => Below.heap_alloc _ _ _ (HE.out.lt b hb).2))
            ((try dsimp only); refine hK.out _ _ (keepS.out _ HB2.out) (fun hSw => ?_); (try clear hSw); clear hK K; (try simp only [Act.put, List.setIfInBounds_toArray, List.set_cons_zero, List.set_cons_succ]))
            generalize (u1).heap.size = gx at HXB sz1 sz2 ⊢
            generalize World.alloc (u1) (.cells #[.int .i64 idx, .slice A5 3 3] 46) = u2 at HB2 sz2 HE HXB ⊢
            refine wpMix_bar (by rfl) (fun K hK => ?_)
            rw [if_pos (by rfl)]
            obtain ⟨news, hsrc, htn⟩ := (HRT.out.below (HB2.out.mono hlo)).src
            refine wp_append_src _ _ _ 53 (by rfl) wr.heap.size 46 i0 _ 2 32 Try.underlying53 hi0 hz0 hz1 hz2 rfl (by omega) (.slice (some ⟨ge, 0, none⟩) 0 0) 0 [] (by rfl) HE.out At mt ct news (by rfl) hsrc htn.one (by unfold maxLen; omega) (by omega) HB2.out.size ?_
            intro v6 u3 hown6 hgrow6 hrow6
            rw [Nat.zero_add, List.nil_append] at hown6
            obtain ⟨A6m, c6m, rfl⟩ := own_shape hown6
            have Hown := Lib.hid hown6
            have HB3 := Lib.hid (HB2.out.grown hgrow6 HB2.out.size (fun j e => (HE.out.lt j e).1))
            have Htk := Lib.hid (htn.below (((Below.refl wr.heap.size (u2)).grown hgrow6 HB2.out.size (fun j e => (HE.out.lt j e).1)).mono hlo))
            replace HXB := Lib.hid (HXB.out.grown hgrow6 (fun e => by simp [Value.ownBlock] at e; omega))
            have sz3 := hgrow6.size
            clear hown6 hrow6 hsrc htn hgrow6
            ((try dsimp only); refine hK.out _ _ (keepS.out _ HB3.out) (fun hSw => ?_); (try clear hSw); clear hK K; (try simp only [Act.put, List.setIfInBounds_toArray, List.set_cons_zero, List.set_cons_succ]))
            have HBz := HB3
            have HX := Lib.hid (show Src u3 2 (some ⟨gx, 0, none⟩) 1 [.int .i64 idx, .slice A5 3 3] from ⟨rfl, fun _ => ⟨_, rfl, fun j u hu => by rw [addr_add, Nat.zero_add, HXB.out.cell]; simpa using hu⟩⟩)
            clear HB0 HB1 HB2 HB3 HE HXB sz1 sz2 sz3
            rotate_left
            go_simp
            have HB1 := Lib.hid (HB0.out.alloc HB0.out.size (.cells #[.int .i64 idx, .slice A5 3 3] 46))
            have sz1 : (u0).heap.size < (World.alloc (u0) (.cells #[.int .i64 idx, .slice A5 3 3] 46)).heap.size := by simp
            have HXB := Lib.hid (Blk.new (u0) 46 #[.int .i64 idx, .slice A5 3 3])
            ((try dsimp only); refine hK.out _ _ (keepS.out _ HB1.out) (fun hSw => ?_); (try clear hSw); clear hK K; (try simp only [Act.put, List.setIfInBounds_toArray, List.set_cons_zero, List.set_cons_succ]))
            generalize (u0).heap.size = gx at HXB sz1 ⊢
            generalize World.alloc (u0) (.cells #[.int .i64 idx, .slice A5 3 3] 46) = u1 at HB1 sz1 HXB ⊢
            (refine wpMix_bar (by rfl) (fun K hK => ?_); go_simp)
            have HB2 := Lib.hid (HB1.out.alloc HB1.out.size (.cells #[] 46))
            have sz2 : (u1).heap.size < (World.alloc (u1) (.cells #[] 46)).heap.size := by simp
            have HE := Lib.hid (show (World.alloc (u1) (.cells #[] 46)).ownsRow wr.heap.size 46 2 (.slice (some ⟨(u1).heap.size, 0, none⟩) 0 0) 0 [] from World.ownsRow_made (u1) #[] 0 HB1.out.size (by unfold maxLen; omega) rfl)
            replace HXB := Lib.hid (HXB.out.alloc (.cells #[] 46))
            ((try dsimp only); refine hK.out _ _ (keepS.out _ HB2.out) (fun hSw => ?_); (try clear hSw); clear hK K; (try simp only [Act.put, List.setIfInBounds_toArray, List.set_cons_zero, List.set_cons_succ]))
            generalize (u1).heap.size = ge at HE sz1 sz2 ⊢
            generalize World.alloc (u1) (.cells #[] 46) = u2 at HB2 sz2 HE HXB ⊢
            refine wpMix_bar (by rfl) (fun K hK => ?_)
            rw [if_pos (by rfl)]
            obtain ⟨news, hsrc, htn⟩ := (HRT.out.below (HB2.out.mono hlo)).src
            refine wp_append_src _ _ _ 53 (by rfl) wr.heap.size 46 i0 _ 2 32 Try.underlying53 hi0 hz0 hz1 hz2 rfl (by omega) (.slice (some ⟨ge, 0, none⟩) 0 0) 0 [] (by rfl) HE.out At mt ct news (by rfl) hsrc htn.one (by unfold maxLen; omega) (by omega) HB2.out.size ?_
            intro v6 u3 hown6 hgrow6 hrow6
            rw [Nat.zero_add, List.nil_append] at hown6
            obtain ⟨A6m, c6m, rfl⟩ := own_shape hown6
            have Hown := Lib.hid hown6
            have HB3 := Lib.hid (HB2.out.grown hgrow6 HB2.out.size (fun j e => (HE.out.lt j e).1))
            have Htk := Lib.hid (htn.below (((Below.refl wr.heap.size (u2)).grown hgrow6 HB2.out.size (fun j e => (HE.out.lt j e).1)).mono hlo))
            replace HXB := Lib.hid (HXB.out.grown hgrow6 (fun e => by simp [Value.ownBlock] at e; omega))
            have sz3 := hgrow6.size
            clear hown6 hrow6 hsrc htn hgrow6
            ((try dsimp only); refine hK.out _ _ (keepS.out _ HB3.out) (fun hSw => ?_); (try clear hSw); clear hK K; (try simp only [Act.put, List.setIfInBounds_toArray, List.set_cons_zero, List.set_cons_succ]))
            have HBz := HB3
            have HX := Lib.hid (show Src u3 2 (some ⟨gx, 0, none⟩) 1 [.int .i64 idx, .slice A5 3 3] from ⟨rfl, fun _ => ⟨_, rfl, fun j u hu => by rw [addr_add, Nat.zero_add, HXB.out.cell]; simpa using hu⟩⟩)
            clear HB0 HB1 HB2 HB3 HE HXB sz1 sz2 sz3
            rotate_left
            all_goals
              refine wpMix_bar (by rfl) (fun K hK => ?_)
              rw [if_pos (by rfl)]
              refine wp_append_src _ _ _ 53 (by rfl) wr.heap.size 46 i0 _ 2 32 Try.underlying53 hi0 hz0 hz1 hz2 rfl (by omega) (.slice A6m mt c6m) mt news (by rfl) Hown.out (some ⟨gx, 0, none⟩) 1 1 [.int .i64 idx, .slice A5 3 3] (by rfl) HX.out (by simp [Value.oneCell']) (by unfold maxLen; omega) (by omega) HBz.out.size ?_
              intro v7 w7 hown7 hgrow7 hrow7
              obtain ⟨A7, c7, rfl⟩ := own_shape hown7
              have L7 := (Below.refl wr.heap.size u3).grown hgrow7 HBz.out.size (fun j e => (Hown.out.lt j e).1)
              have HB7 := Lib.hid (HBz.out.trans L7)
              have Hr7 := Lib.hid (RdT.of_own hown7 ((Htk.out.below L7).append (TkCells.single (id := idx) (HRX.out.below HB7.out) (Nat.le_refl 3))) HB7.out.size (by omega))
              have hc7 := (own_cap hown7).1
              clear L7 hown7 hgrow7 hrow7 Hown Htk HX HBz
              ((try dsimp only); refine hK.out _ _ (keepS.out _ HB7.out) (fun hSw => ?_); (try clear hSw); clear hK K; (try simp only [Act.put, List.setIfInBounds_toArray, List.set_cons_zero, List.set_cons_succ]))
              (refine wpMix_bar (by rfl) (fun K hK => ?_); go_simp)
              have HB8 := Lib.hid (HB7.out.alloc HB7.out.size (.cells #[.slice A7 (mt + 1) c7] 53))
              have HR8 := Lib.hid (RdB.one (Blk.new w7 53 #[.slice A7 (mt + 1) c7]) hc7 (Hr7.out.up (alloc_up w7 _)))
              ((try dsimp only); refine hK.out _ _ (keepS.out _ HB8.out) (fun hSw => ?_); (try clear hSw); clear hK K; (try simp only [Act.put, List.setIfInBounds_toArray, List.set_cons_zero, List.set_cons_succ]))
              (refine wpMix_bar (by rfl) (fun K hK => ?_); go_simp)
              refine (binsValidI_any A1 _ 3 3 1 1 room _ _ (HD4.out.up (below_to HBEL.out HB8.out)).r.a HR8.out (by have := hmt.out; simp; omega)).mono ?_; rintro e w9 ⟨rfl, hb9⟩
              rw [ts_.out]
              have HB9 := Lib.hid (below_to HB8.out hb9)
              clear hb9
              ((try dsimp only); refine hK.out _ _ (keepS.out _ HB9.out) (fun hSw => ?_); (try clear hSw); clear hK K; (try simp only [Act.put, List.setIfInBounds_toArray, List.set_cons_zero, List.set_cons_succ]))
              repeat (first | (refine wpMix_skip (by rfl) (by rfl) ?_; (try simp only [Act.put, List.setIfInBounds_toArray, List.set_cons_zero, List.set_cons_succ])) | (refine wpMix_take (v := ?_) (by rfl) (by rfl) (fun wS hSt => ?_) ?_; rotate_left; (focus ((try dsimp only at hSt); (go_simp <;> with_reducible rfl); done)); (try simp only [Act.put, List.setIfInBounds_toArray, List.set_cons_zero, List.set_cons_succ])))
              refine wpMix_nil ?_
              have HBK := Lib.hid (below_to HBEL.out HB9.out)
              clear HB7 HB8 HR8 Hr7
              by_cases hro : roomB room bs xs k = true
              · rw [show roomB room bs (idx, xs).2 k = true from hro]
                have HRK := Lib.hid hro
                clear hro
                go_wp2
                go_roundw
                case rel => exact ⟨k + 1, by go_num, by omega, HBK.out, fun j hj => by
                  by_cases e : j = k
                  · rw [e]; exact HRK.out
                  · exact HALL.out j (by omega)⟩
                case measure => simp [intOf]; omega
              · have hro : roomB room bs xs k = false := by simpa using hro
                rw [show roomB room bs (idx, xs).2 k = false from hro]
                clear hro
                go_wp2
                go_ret
                exact ⟨rfl, below_to HB4.out HBK.out⟩
          · have hrooms := Lib.hid (show ∀ j, j < bs.length → roomB room bs xs j = true from fun j hj => HALL.out j (by have := l2.out; omega))
            clear HALL
            obtain ⟨b, o, At, mt, ct, hA2, hb, hcc, hmc, hrd⟩ := HD4.out.r.b.at_ HLT.out
            have HRD := Lib.hid hrd
            have W0 := Lib.hid (HBEL.out.alloc HBEL.out.size (.cells #[] 53))
            obtain ⟨bv, hbsrc, hbc⟩ := (HD4.out.r.b.below W0.out).src
            have HBC := Lib.hid hbc
            have n2p : 0 < n2 := by have := HLT.out; omega
            clear hrd hbc
            go_wp2_with (at_builtin; refine wpList_append_src _ rfl _ _ 27 rfl wr.heap.size 53 s0 _ 1 24 Try.underlying27 hs0 hsz0 hsz1 hsz2 rfl (by omega) (.slice (some ⟨wr.heap.size, 0, none⟩) 0 0) 0 [] rfl (World.ownsRow_made wr #[] 0 (Nat.le_refl _) (by unfold maxLen; omega) rfl) A2 n2 c2 bv rfl hbsrc HBC.out.one (by unfold maxLen; omega) (by omega) (by simp) ?_; intro vy wy howny hgrowy hrowy)
            rw [Nat.zero_add, List.nil_append] at howny
            obtain ⟨Ay, cy, rfl⟩ := own_shape howny
            obtain ⟨gy, cury, rfl, hgy, hblky⟩ := own_row howny n2p
            have Dy := Lib.hid (show Below wr.heap.size wr wy from ((alloc_up wr (.cells #[] 53)).grown hgrowy (by simp) (fun j e => by simp [Value.ownBlock] at e; omega)))
            have Ey := Lib.hid (show Below w4.heap.size w4 wy from below_to HBEL.out Dy.out)
            have Ky := Lib.hid (below_to KW.out Dy.out)
            have HBY := Lib.hid (HBC.out.keep (w' := wy) (B' := w4.heap.size) (fun p hp => (Ey.out.cell hp).trans (W0.out.cell hp).symm) (Nat.le_refl _))
            have HOY := Lib.hid howny
            have HKY := Lib.hid hblky
            clear hbsrc howny hgrowy hrowy hblky HBC
            have lw4 : w4.heap.size ≤ wr.heap.size := HBEL.out.size
            have lwy : wr.heap.size ≤ wy.heap.size := Dy.out.size
            have lgy : gy < wy.heap.size := HKY.out.lt
            have lk2 : w1.heap.size + 1 ≤ w4.heap.size := by have := K4.out.size; have := SZ2.out; omega
            have HRT := Lib.hid (HRD.out.below Ey.out)
            have HRX := Lib.hid (HDX4.out.below Ey.out)
            have lmt : mt ≤ 1000 := by have := bin_len (bs := bs) (k := at_) (by have := l2.out; have := HLT.out; omega); have := HRD.out.len; omega
            obtain ⟨x0, x1⟩ := hk.out _ Ky.out
            have hcy : wy.cell? ⟨b, o + at_, none⟩ = some (.slice At mt ct) := (Ey.out.cell (p := ⟨b, o + at_, none⟩) hb).trans hcc
            have hlo : w4.heap.size ≤ wy.heap.size := by omega
            have k0 : (0 : Int) ≤ (at_ : Int) := by omega
            have k1 : (at_ : Int) < (n2 : Int) := by have := HLT.out; omega
            have keepS := Lib.hid (show ∀ W, Below wy.heap.size wy W → W.cell? ⟨b, o + at_, none⟩ = some (.slice At mt ct) ∧ W.cell? ⟨w1.heap.size, 0, none⟩ = some (.int .i64 idx) ∧ W.cell? ⟨w1.heap.size, 1, none⟩ = some (.slice A5 3 3) from fun W hW =>
              ⟨(hW.cell (p := ⟨b, o + at_, none⟩) (by simp; omega)).trans hcy, (hW.cell (p := ⟨w1.heap.size, 0, none⟩) (by simp; omega)).trans x0, (hW.cell (p := ⟨w1.heap.size, 1, none⟩) (by simp; omega)).trans x1⟩)
            have K0 := keepS.out wy.drew (Below.refl _ _).drew
            have HBB := Lib.hid hb
            clear hcc hcy x0 x1 hb
            subst hA2
            go_wp2_with fail
            refine wp_region_mix (.take 0 (.take 1 (.take 3 (.take 4 (.take 5 (.take 6 (.take 8 (.fork 2 (.fork 7 (.bar 9 (.bar 10 (.take 11 (.bar 12 .nil)))) 9 (.bar 7 (.bar 10 (.take 11 (.bar 12 .nil))))) 9 (.bar 2 (.bar 7 (.bar 10 (.take 11 (.bar 12 .nil))))))))))))) (fun w' => w'.cell? ⟨b, o + at_, none⟩ = some (.slice At mt ct) ∧ w'.cell? ⟨w1.heap.size, 0, none⟩ = some (.int .i64 idx) ∧ w'.cell? ⟨w1.heap.size, 1, none⟩ = some (.slice A5 3 3)) (by kernel_rfl) (by kernel_rfl) K0 (fun _ => ?_)
            clear K0
            repeat (first | (refine wpMix_skip (by rfl) (by rfl) ?_; (try simp only [Act.put, List.setIfInBounds_toArray, List.set_cons_zero, List.set_cons_succ])) | (refine wpMix_take (v := ?_) (by rfl) (by rfl) (fun wS hSt => ?_) ?_; rotate_left; (focus ((try dsimp only at hSt); (go_simp <;> with_reducible rfl); done)); (try simp only [Act.put, List.setIfInBounds_toArray, List.set_cons_zero, List.set_cons_succ])))
            have HB0 := Lib.hid ((Below.refl wy.heap.size wy).drew)
            generalize wy.drew = u0 at HB0 ⊢
            refine wpMix_fork (by rfl) (by rfl) (fun K hK => ?_) (fun K hK => ?_)
            go_simp
            have HB1 := Lib.hid (HB0.out.alloc HB0.out.size (.cells #[] 46))
            have sz1 : (u0).heap.size < (World.alloc (u0) (.cells #[] 46)).heap.size := by simp
            have HE := Lib.hid (show (World.alloc (u0) (.cells #[] 46)).ownsRow wy.heap.size 46 2 (.slice (some ⟨(u0).heap.size, 0, none⟩) 0 0) 0 [] from World.ownsRow_made (u0) #[] 0 HB0.out.size (by unfold maxLen; omega) rfl)
            ((try dsimp only); refine hK.out _ _ (keepS.out _ HB1.out) (fun hSw => ?_); (try clear hSw); clear hK K; (try simp only [Act.put, List.setIfInBounds_toArray, List.set_cons_zero, List.set_cons_succ]))
            generalize (u0).heap.size = ge at HE sz1 ⊢
            generalize World.alloc (u0) (.cells #[] 46) = u1 at HB1 sz1 HE ⊢
            refine wpMix_fork (by rfl) (by rfl) (fun K hK => ?_) (fun K hK => ?_)
            skip
            rw [if_pos (by rfl)]
            obtain ⟨news, hsrc, htn⟩ := (HRT.out.below (HB1.out.mono hlo)).src
            refine wp_append_src _ _ _ 53 (by rfl) wy.heap.size 46 i0 _ 2 32 Try.underlying53 hi0 hz0 hz1 hz2 rfl (by omega) (.slice (some ⟨ge, 0, none⟩) 0 0) 0 [] (by rfl) HE.out At mt ct news (by rfl) hsrc htn.one (by unfold maxLen; omega) (by omega) HB1.out.size ?_
            intro v6 u2 hown6 hgrow6 hrow6
            rw [Nat.zero_add, List.nil_append] at hown6
            obtain ⟨A6m, c6m, rfl⟩ := own_shape hown6
            have Hown := Lib.hid hown6
            have HB2 := Lib.hid (HB1.out.grown hgrow6 HB1.out.size (fun j e => (HE.out.lt j e).1))
            have Htk := Lib.hid (htn.below (((Below.refl wy.heap.size (u1)).grown hgrow6 HB1.out.size (fun j e => (HE.out.lt j e).1)).mono hlo))
            have sz2 := hgrow6.size
            clear hown6 hrow6 hsrc htn hgrow6
            ((try dsimp only); refine hK.out _ _ (keepS.out _ HB2.out) (fun hSw => ?_); (try clear hSw); clear hK K; (try simp only [Act.put, List.setIfInBounds_toArray, List.set_cons_zero, List.set_cons_succ]))
            (refine wpMix_bar (by rfl) (fun K hK => ?_); go_simp)
            have HB3 := Lib.hid (HB2.out.alloc HB2.out.size (.cells #[.int .i64 idx, .slice A5 3 3] 46))
            have sz3 : (u2).heap.size < (World.alloc (u2) (.cells #[.int .i64 idx, .slice A5 3 3] 46)).heap.size := by simp
            have HXB := Lib.hid (Blk.new (u2) 46 #[.int .i64 idx, .slice A5 3 3])
            replace Hown := Lib.hid (own_keep Hown.out (w' := World.alloc (u2) (.cells #[.int .i64 idx, .slice A5 3 3] 46)) (fun b hb => Below.heap_alloc _ _ _ (Hown.out.lt b hb).2))
            replace Htk := Lib.hid (Htk.out.below (((Below.refl wy.heap.size (u2)).alloc HB2.out.size (.cells #[.int .i64 idx, .slice A5 3 3] 46)).mono hlo))
            ((try dsimp only); refine hK.out _ _ (keepS.out _ HB3.out) (fun hSw => ?_); (try clear hSw); clear hK K; (try simp only [Act.put, List.setIfInBounds_toArray, List.set_cons_zero, List.set_cons_succ]))
            generalize (u2).heap.size = gx at HXB sz2 sz3 ⊢
            generalize World.alloc (u2) (.cells #[.int .i64 idx, .slice A5 3 3] 46) = u3 at HB3 sz3 HXB Hown Htk ⊢
            have HBz := HB3
            have HX := Lib.hid (show Src u3 2 (some ⟨gx, 0, none⟩) 1 [.int .i64 idx, .slice A5 3 3] from ⟨rfl, fun _ => ⟨_, rfl, fun j u hu => by rw [addr_add, Nat.zero_add, HXB.out.cell]; simpa using hu⟩⟩)
            clear HB0 HB1 HB2 HB3 HE HXB sz1 sz2 sz3
            rotate_left
            go_simp
            have HB2 := Lib.hid (HB1.out.alloc HB1.out.size (.cells #[.int .i64 idx, .slice A5 3 3] 46))
            have sz2 : (u1).heap.size < (World.alloc (u1) (.cells #[.int .i64 idx, .slice A5 3 3] 46)).heap.size := by simp
            have HXB := Lib.hid (Blk.new (u1) 46 #[.int .i64 idx, .slice A5 3 3])
            replace HE := Lib.hid (own_keep HE.out (w' := World.alloc (u1) (.cells #[.int .i64 idx, .slice A5 3 3] 46)) (fun b hb => Below.heap_alloc _ _ _ (HE.out.lt b hb).2))
            ((try dsimp only); refine hK.out _ _ (keepS.out _ HB2.out) (fun hSw => ?_); (try clear hSw); clear hK K; (try simp only [Act.put, List.setIfInBounds_toArray, List.set_cons_zero, List.set_cons_succ]))
            generalize (u1).heap.size = gx at HXB sz1 sz2 ⊢
            generalize World.alloc (u1) (.cells #[.int .i64 idx, .slice A5 3 3] 46) = u2 at HB2 sz2 HE HXB ⊢
            refine wpMix_bar (by rfl) (fun K hK => ?_)
            rw [if_pos (by rfl)]
            obtain ⟨news, hsrc, htn⟩ := (HRT.out.below (HB2.out.mono hlo)).src
            refine wp_append_src _ _ _ 53 (by rfl) wy.heap.size 46 i0 _ 2 32 Try.underlying53 hi0 hz0 hz1 hz2 rfl (by omega) (.slice (some ⟨ge, 0, none⟩) 0 0) 0 [] (by rfl) HE.out At mt ct news (by rfl) hsrc htn.one (by unfold maxLen; omega) (by omega) HB2.out.size ?_
            intro v6 u3 hown6 hgrow6 hrow6
            rw [Nat.zero_add, List.nil_append] at hown6
            obtain ⟨A6m, c6m, rfl⟩ := own_shape hown6
            have Hown := Lib.hid hown6
            have HB3 := Lib.hid (HB2.out.grown hgrow6 HB2.out.size (fun j e => (HE.out.lt j e).1))
            have Htk := Lib.hid (htn.below (((Below.refl wy.heap.size (u2)).grown hgrow6 HB2.out.size (fun j e => (HE.out.lt j e).1)).mono hlo))
            replace HXB := Lib.hid (HXB.out.grown hgrow6 (fun e => by simp [Value.ownBlock] at e; omega))
            have sz3 := hgrow6.size
            clear hown6 hrow6 hsrc htn hgrow6
            ((try dsimp only); refine hK.out _ _ (keepS.out _ HB3.out) (fun hSw => ?_); (try clear hSw); clear hK K; (try simp only [Act.put, List.setIfInBounds_toArray, List.set_cons_zero, List.set_cons_succ]))
            have HBz := HB3
            have HX := Lib.hid (show Src u3 2 (some ⟨gx, 0, none⟩) 1 [.int .i64 idx, .slice A5 3 3] from ⟨rfl, fun _ => ⟨_, rfl, fun j u hu => by rw [addr_add, Nat.zero_add, HXB.out.cell]; simpa using hu⟩⟩)
            clear HB0 HB1 HB2 HB3 HE HXB sz1 sz2 sz3
            rotate_left
            go_simp
            have HB1 := Lib.hid (HB0.out.alloc HB0.out.size (.cells #[.int .i64 idx, .slice A5 3 3] 46))
            have sz1 : (u0).heap.size < (World.alloc (u0) (.cells #[.int .i64 idx, .slice A5 3 3] 46)).heap.size := by simp
            have HXB := Lib.hid (Blk.new (u0) 46 #[.int .i64 idx, .slice A5 3 3])
            ((try dsimp only); refine hK.out _ _ (keepS.out _ HB1.out) (fun hSw => ?_); (try clear hSw); clear hK K; (try simp only [Act.put, List.setIfInBounds_toArray, List.set_cons_zero, List.set_cons_succ]))
            generalize (u0).heap.size = gx at HXB sz1 ⊢
            generalize World.alloc (u0) (.cells #[.int .i64 idx, .slice A5 3 3] 46) = u1 at HB1 sz1 HXB ⊢
            (refine wpMix_bar (by rfl) (fun K hK => ?_); go_simp)
            have HB2 := Lib.hid (HB1.out.alloc HB1.out.size (.cells #[] 46))
            have sz2 : (u1).heap.size < (World.alloc (u1) (.cells #[] 46)).heap.size := by simp
            have HE := Lib.hid (show (World.alloc (u1) (.cells #[] 46)).ownsRow wy.heap.size 46 2 (.slice (some ⟨(u1).heap.size, 0, none⟩) 0 0) 0 [] from World.ownsRow_made (u1) #[] 0 HB1.out.size (by unfold maxLen; omega) rfl)
            replace HXB := Lib.hid (HXB.out.alloc (.cells #[] 46))
            ((try dsimp only); refine hK.out _ _ (keepS.out _ HB2.out) (fun hSw => ?_); (try clear hSw); clear hK K; (try simp only [Act.put, List.setIfInBounds_toArray, List.set_cons_zero, List.set_cons_succ]))
            generalize (u1).heap.size = ge at HE sz1 sz2 ⊢
            generalize World.alloc (u1) (.cells #[] 46) = u2 at HB2 sz2 HE HXB ⊢
            refine wpMix_bar (by rfl) (fun K hK => ?_)
            rw [if_pos (by rfl)]
            obtain ⟨news, hsrc, htn⟩ := (HRT.out.below (HB2.out.mono hlo)).src
            refine wp_append_src _ _ _ 53 (by rfl) wy.heap.size 46 i0 _ 2 32 Try.underlying53 hi0 hz0 hz1 hz2 rfl (by omega) (.slice (some ⟨ge, 0, none⟩) 0 0) 0 [] (by rfl) HE.out At mt ct news (by rfl) hsrc htn.one (by unfold maxLen; omega) (by omega) HB2.out.size ?_
            intro v6 u3 hown6 hgrow6 hrow6
            rw [Nat.zero_add, List.nil_append] at hown6
            obtain ⟨A6m, c6m, rfl⟩ := own_shape hown6
            have Hown := Lib.hid hown6
            have HB3 := Lib.hid (HB2.out.grown hgrow6 HB2.out.size (fun j e => (HE.out.lt j e).1))
            have Htk := Lib.hid (htn.below (((Below.refl wy.heap.size (u2)).grown hgrow6 HB2.out.size (fun j e => (HE.out.lt j e).1)).mono hlo))
            replace HXB := Lib.hid (HXB.out.grown hgrow6 (fun e => by simp [Value.ownBlock] at e; omega))
            have sz3 := hgrow6.size
            clear hown6 hrow6 hsrc htn hgrow6
            ((try dsimp only); refine hK.out _ _ (keepS.out _ HB3.out) (fun hSw => ?_); (try clear hSw); clear hK K; (try simp only [Act.put, List.setIfInBounds_toArray, List.set_cons_zero, List.set_cons_succ]))
            have HBz := HB3
            have HX := Lib.hid (show Src u3 2 (some ⟨gx, 0, none⟩) 1 [.int .i64 idx, .slice A5 3 3] from ⟨rfl, fun _ => ⟨_, rfl, fun j u hu => by rw [addr_add, Nat.zero_add, HXB.out.cell]; simpa using hu⟩⟩)
            clear HB0 HB1 HB2 HB3 HE HXB sz1 sz2 sz3
            rotate_left
            all_goals
              refine wpMix_bar (by rfl) (fun K hK => ?_)
              rw [if_pos (by rfl)]
              refine wp_append_src _ _ _ 53 (by rfl) wy.heap.size 46 i0 _ 2 32 Try.underlying53 hi0 hz0 hz1 hz2 rfl (by omega) (.slice A6m mt c6m) mt news (by rfl) Hown.out (some ⟨gx, 0, none⟩) 1 1 [.int .i64 idx, .slice A5 3 3] (by rfl) HX.out (by simp [Value.oneCell']) (by unfold maxLen; omega) (by omega) HBz.out.size ?_
              intro v7 w7 hown7 hgrow7 hrow7
              obtain ⟨A7, c7, rfl⟩ := own_shape hown7
              have L7 := (Below.refl wy.heap.size u3).grown hgrow7 HBz.out.size (fun j e => (Hown.out.lt j e).1)
              have HB7 := Lib.hid (HBz.out.trans L7)
              have Htk7 := Lib.hid ((Htk.out.below (L7.mono hlo)).append (TkCells.single (id := idx) (HRX.out.below (HB7.out.mono hlo)) (Nat.le_refl 3)))
              have Hown7 := Lib.hid hown7
              have hc7 := (own_cap hown7).1
              clear L7 hown7 hgrow7 hrow7 Hown Htk HX HBz
              ((try dsimp only); refine hK.out _ _ (keepS.out _ HB7.out) (fun hSw => ?_); (try clear hSw); clear hK K; (try simp only [Act.put, List.setIfInBounds_toArray, List.set_cons_zero, List.set_cons_succ]))
              have hoy7 := own_keep HOY.out (w' := w7) (fun b hb => HB7.out.block b (HOY.out.lt b hb).2)
              have hky7 := HKY.out.below HB7.out HKY.out.lt
              obtain ⟨Av, mv, cv, hbv, _, _⟩ := HBY.out.2 at_ HAT.out
              have z0 : w7.cell? ⟨gy, at_, none⟩ = some (.slice Av mv cv) := by have := hoy7.cells (g := gy) rfl _ _ hbv; rwa [addr_add, Nat.zero_add] at this
              have z1 : w7.frozen? ⟨gy, at_, none⟩ = false := hky7.frozen _
              have HOY7 := Lib.hid hoy7
              obtain ⟨y0, y1, y2⟩ := keepS.out _ HB7.out
              clear hoy7 hky7 hbv
              repeat (first | (refine wpMix_skip (by rfl) (by rfl) ?_; (try simp only [Act.put, List.setIfInBounds_toArray, List.set_cons_zero, List.set_cons_succ])) | (refine wpMix_take (v := ?_) (by rfl) (by rfl) (fun wS hSt => ?_) ?_; rotate_left; (focus ((try dsimp only at hSt); (go_simp <;> with_reducible rfl); done)); (try simp only [Act.put, List.setIfInBounds_toArray, List.set_cons_zero, List.set_cons_succ])))
              (refine wpMix_bar (by rfl) (fun K hK => ?_); go_simp)
              have HB := HBB.out
              ((try dsimp only); refine hK.out _ _ (⟨(World.cell?_setCell_other _ _ _ _ (by simp <;> omega)).trans y0, (World.cell?_setCell_other _ _ _ _ (by simp <;> omega)).trans y1, (World.cell?_setCell_other _ _ _ _ (by simp <;> omega)).trans y2⟩) (fun hSw => ?_); (try clear hSw); clear hK K; (try simp only [Act.put, List.setIfInBounds_toArray, List.set_cons_zero, List.set_cons_succ]))
              refine wpMix_nil ?_
              clear y0 y1 y2 z0 z1
              have kkg : ∀ j, j ≠ gy → (w7.setCell ⟨gy, at_, none⟩ (.slice A7 (mt + 1) c7)).heap[j]? = w7.heap[j]? := fun j hj => Below.heap_setCell _ _ _ _ hj
              have E8 := Lib.hid (show Below w4.heap.size w4 (w7.setCell ⟨gy, at_, none⟩ (.slice A7 (mt + 1) c7)) from (Ey.out.trans (HB7.out.mono hlo)).setCell (by simp; omega) _)
              have K8 := Lib.hid (below_to K4.out E8.out)
              have own8 := own_keep Hown7.out (w' := w7.setCell ⟨gy, at_, none⟩ (.slice A7 (mt + 1) c7)) (fun j hj => kkg j (by have := (Hown7.out.lt j hj).1; omega))
              have tk8 := Htk7.out.keep (w' := w7.setCell ⟨gy, at_, none⟩ (.slice A7 (mt + 1) c7)) (B' := w4.heap.size) (fun p hp => World.cell?_of_block (kkg p.block (by omega))) (Nat.le_refl _)
              have r8 := RdT.of_own own8 tk8 E8.out.size (by omega)
              have oy8 := own_set HOY7.out at_ (.slice A7 (mt + 1) c7)
              have bn8 : BnCells (w7.setCell ⟨gy, at_, none⟩ (.slice A7 (mt + 1) c7)) (w7.setCell ⟨gy, at_, none⟩ (.slice A7 (mt + 1) c7)).heap.size (bv.set at_ (.slice A7 (mt + 1) c7)) (addAt bs at_ (idx, xs)) := by
                refine ⟨by rw [List.length_set, addAt_len]; exact HBY.out.1, fun j hj => ?_⟩
                rw [addAt_len] at hj
                rw [addAt_at bs at_ _ HAT.out]
                by_cases e : at_ = j
                · subst e
                  rw [if_pos rfl]
                  exact ⟨A7, mt + 1, c7, by rw [List.getElem?_set_self (by rw [HBY.out.1]; exact hj)], hc7, r8⟩
                · rw [if_neg e]
                  obtain ⟨A', m', c', q1, q2, q3⟩ := HBY.out.2 j hj
                  exact ⟨A', m', c', by rw [List.getElem?_set_ne e]; exact q1, q2, q3.keep (fun p hp => (E8.out.cell hp).trans (Ey.out.cell hp).symm) E8.out.size⟩
              have RY8 := Lib.hid (RdB.of_own oy8 bn8 (Nat.le_refl _) (by omega))
              clear own8 tk8 r8 oy8 bn8 kkg HB7 Htk7 Hown7 HOY7 hc7
              generalize w7.setCell ⟨gy, at_, none⟩ (.slice A7 (mt + 1) c7) = w8 at E8 K8 RY8 ⊢
              have keepX := Lib.hid (show ∀ W, Below w8.heap.size w8 W → W.cell? ⟨w1.heap.size, 0, none⟩ = some (.int .i64 idx) from fun W hW => (hk.out W (below_to K8.out hW)).1)
              have keepS := keepX
              have K0 := keepS.out w8.drew (Below.refl _ _).drew
              have HRI := Lib.hid (HD4.out.up E8.out).r.d
              go_wp2_with fail
              refine wp_region_mix (.take 0 (.take 1 (.take 2 (.take 4 (.take 6 (.take 7 (.take 11 (.take 12 (.take 13 (.take 14 (.fork 3 (.fork 5 (.bar 8 (.bar 9 (.bar 10 (.bar 15 (.take 16 (.take 17 (.take 18 .nil))))))) 8 (.bar 5 (.bar 9 (.bar 10 (.bar 15 (.take 16 (.take 17 (.take 18 .nil)))))))) 8 (.bar 3 (.bar 5 (.bar 9 (.bar 10 (.bar 15 (.take 16 (.take 17 (.take 18 .nil))))))))))))))))))) (fun w' => w'.cell? ⟨w1.heap.size, 0, none⟩ = some (.int .i64 idx)) (by kernel_rfl) (by kernel_rfl) K0 (fun _ => ?_)
              clear K0
              repeat (first | (refine wpMix_skip (by rfl) (by rfl) ?_; (try simp only [Act.put, List.setIfInBounds_toArray, List.set_cons_zero, List.set_cons_succ])) | (refine wpMix_take (v := ?_) (by rfl) (by rfl) (fun wS hSt => ?_) ?_; rotate_left; (focus ((try dsimp only at hSt); (go_simp <;> with_reducible rfl); done)); (try simp only [Act.put, List.setIfInBounds_toArray, List.set_cons_zero, List.set_cons_succ])))
              have HB0 := Lib.hid ((Below.refl w8.heap.size w8).drew)
              generalize w8.drew = u0 at HB0 ⊢
              refine wpMix_fork (by rfl) (by rfl) (fun K hK => ?_) (fun K hK => ?_)
              go_simp
              have HB1 := Lib.hid (HB0.out.alloc HB0.out.size (.cells #[] 3))
              have sz1 : (u0).heap.size < (World.alloc (u0) (.cells #[] 3)).heap.size := by simp
              have HE := Lib.hid (show (World.alloc (u0) (.cells #[] 3)).ownsRow w8.heap.size 3 1 (.slice (some ⟨(u0).heap.size, 0, none⟩) 0 0) 0 [] from World.ownsRow_made (u0) #[] 0 HB0.out.size (by unfold maxLen; omega) rfl)
              ((try dsimp only); refine hK.out _ _ (keepS.out _ HB1.out) (fun hSw => ?_); (try clear hSw); clear hK K; (try simp only [Act.put, List.setIfInBounds_toArray, List.set_cons_zero, List.set_cons_succ]))
              generalize (u0).heap.size = ge at HE sz1 ⊢
              generalize World.alloc (u0) (.cells #[] 3) = u1 at HB1 sz1 HE ⊢
              refine wpMix_fork (by rfl) (by rfl) (fun K hK => ?_) (fun K hK => ?_)
              skip
              rw [if_pos (by rfl)]
              have hsrc := (HRI.out.below HB1.out).srcI
              refine wp_append_src _ _ _ 22 (by rfl) w8.heap.size 3 j0 _ 1 8 Try.underlying22 hj0 hjz0 hjz1 hjz2 rfl (by omega) (.slice (some ⟨ge, 0, none⟩) 0 0) 0 [] (by rfl) HE.out A4 n4 c4 _ (by rfl) hsrc ints_one (by unfold maxLen; omega) (by omega) HB1.out.size ?_
              intro v6 u2 hown6 hgrow6 hrow6
              rw [Nat.zero_add, List.nil_append] at hown6
              obtain ⟨A6m, c6m, rfl⟩ := own_shape hown6
              have Hown := Lib.hid hown6
              have HB2 := Lib.hid (HB1.out.grown hgrow6 HB1.out.size (fun j e => (HE.out.lt j e).1))
              have sz2 := hgrow6.size
              clear hown6 hrow6 hsrc hgrow6
              ((try dsimp only); refine hK.out _ _ (keepS.out _ HB2.out) (fun hSw => ?_); (try clear hSw); clear hK K; (try simp only [Act.put, List.setIfInBounds_toArray, List.set_cons_zero, List.set_cons_succ]))
              (refine wpMix_bar (by rfl) (fun K hK => ?_); go_simp)
              have HB3 := Lib.hid (HB2.out.alloc HB2.out.size (.cells #[.int .i64 idx] 3))
              have sz3 : (u2).heap.size < (World.alloc (u2) (.cells #[.int .i64 idx] 3)).heap.size := by simp
              have HXB := Lib.hid (Blk.new (u2) 3 #[.int .i64 idx])
              replace Hown := Lib.hid (own_keep Hown.out (w' := World.alloc (u2) (.cells #[.int .i64 idx] 3)) (fun b hb => Below.heap_alloc _ _ _ (Hown.out.lt b hb).2))
              ((try dsimp only); refine hK.out _ _ (keepS.out _ HB3.out) (fun hSw => ?_); (try clear hSw); clear hK K; (try simp only [Act.put, List.setIfInBounds_toArray, List.set_cons_zero, List.set_cons_succ]))
              generalize (u2).heap.size = gx at HXB sz2 sz3 ⊢
              generalize World.alloc (u2) (.cells #[.int .i64 idx] 3) = u3 at HB3 sz3 HXB Hown ⊢
              have HBz := HB3
              have HX := Lib.hid (show Src u3 1 (some ⟨gx, 0, none⟩) 1 [.int .i64 idx] from ⟨rfl, fun _ => ⟨_, rfl, fun j u hu => by rw [addr_add, Nat.zero_add, HXB.out.cell]; simpa using hu⟩⟩)
              clear HB0 HB1 HB2 HB3 HE HXB sz1 sz2 sz3
              rotate_left
              go_simp
              have HB2 := Lib.hid (HB1.out.alloc HB1.out.size (.cells #[.int .i64 idx] 3))
              have sz2 : (u1).heap.size < (World.alloc (u1) (.cells #[.int .i64 idx] 3)).heap.size := by simp
              have HXB := Lib.hid (Blk.new (u1) 3 #[.int .i64 idx])
              replace HE := Lib.hid (own_keep HE.out (w' := World.alloc (u1) (.cells #[.int .i64 idx] 3)) (fun b hb => Below.heap_alloc _ _ _ (HE.out.lt b hb).2))
              ((try dsimp only); refine hK.out _ _ (keepS.out _ HB2.out) (fun hSw => ?_); (try clear hSw); clear hK K; (try simp only [Act.put, List.setIfInBounds_toArray, List.set_cons_zero, List.set_cons_succ]))
              generalize (u1).heap.size = gx at HXB sz1 sz2 ⊢
              generalize World.alloc (u1) (.cells #[.int .i64 idx] 3) = u2 at HB2 sz2 HE HXB ⊢
              refine wpMix_bar (by rfl) (fun K hK => ?_)
              rw [if_pos (by rfl)]
              have hsrc := (HRI.out.below HB2.out).srcI
              refine wp_append_src _ _ _ 22 (by rfl) w8.heap.size 3 j0 _ 1 8 Try.underlying22 hj0 hjz0 hjz1 hjz2 rfl (by omega) (.slice (some ⟨ge, 0, none⟩) 0 0) 0 [] (by rfl) HE.out A4 n4 c4 _ (by rfl) hsrc ints_one (by unfold maxLen; omega) (by omega) HB2.out.size ?_
              intro v6 u3 hown6 hgrow6 hrow6
              rw [Nat.zero_add, List.nil_append] at hown6
              obtain ⟨A6m, c6m, rfl⟩ := own_shape hown6
              have Hown := Lib.hid hown6
              have HB3 := Lib.hid (HB2.out.grown hgrow6 HB2.out.size (fun j e => (HE.out.lt j e).1))
              replace HXB := Lib.hid (HXB.out.grown hgrow6 (fun e => by simp [Value.ownBlock] at e; omega))
              have sz3 := hgrow6.size
              clear hown6 hrow6 hsrc hgrow6
              ((try dsimp only); refine hK.out _ _ (keepS.out _ HB3.out) (fun hSw => ?_); (try clear hSw); clear hK K; (try simp only [Act.put, List.setIfInBounds_toArray, List.set_cons_zero, List.set_cons_succ]))
              have HBz := HB3
              have HX := Lib.hid (show Src u3 1 (some ⟨gx, 0, none⟩) 1 [.int .i64 idx] from ⟨rfl, fun _ => ⟨_, rfl, fun j u hu => by rw [addr_add, Nat.zero_add, HXB.out.cell]; simpa using hu⟩⟩)
              clear HB0 HB1 HB2 HB3 HE HXB sz1 sz2 sz3
              rotate_left
              go_simp
              have HB1 := Lib.hid (HB0.out.alloc HB0.out.size (.cells #[.int .i64 idx] 3))
              have sz1 : (u0).heap.size < (World.alloc (u0) (.cells #[.int .i64 idx] 3)).heap.size := by simp
              have HXB := Lib.hid (Blk.new (u0) 3 #[.int .i64 idx])
              ((try dsimp only); refine hK.out _ _ (keepS.out _ HB1.out) (fun hSw => ?_); (try clear hSw); clear hK K; (try simp only [Act.put, List.setIfInBounds_toArray, List.set_cons_zero, List.set_cons_succ]))
              generalize (u0).heap.size = gx at HXB sz1 ⊢
              generalize World.alloc (u0) (.cells #[.int .i64 idx] 3) = u1 at HB1 sz1 HXB ⊢
              (refine wpMix_bar (by rfl) (fun K hK => ?_); go_simp)
              have HB2 := Lib.hid (HB1.out.alloc HB1.out.size (.cells #[] 3))
              have sz2 : (u1).heap.size < (World.alloc (u1) (.cells #[] 3)).heap.size := by simp
              have HE := Lib.hid (show (World.alloc (u1) (.cells #[] 3)).ownsRow w8.heap.size 3 1 (.slice (some ⟨(u1).heap.size, 0, none⟩) 0 0) 0 [] from World.ownsRow_made (u1) #[] 0 HB1.out.size (by unfold maxLen; omega) rfl)
              replace HXB := Lib.hid (HXB.out.alloc (.cells #[] 3))
              ((try dsimp only); refine hK.out _ _ (keepS.out _ HB2.out) (fun hSw => ?_); (try clear hSw); clear hK K; (try simp only [Act.put, List.setIfInBounds_toArray, List.set_cons_zero, List.set_cons_succ]))
              generalize (u1).heap.size = ge at HE sz1 sz2 ⊢
              generalize World.alloc (u1) (.cells #[] 3) = u2 at HB2 sz2 HE HXB ⊢
              refine wpMix_bar (by rfl) (fun K hK => ?_)
              rw [if_pos (by rfl)]
              have hsrc := (HRI.out.below HB2.out).srcI
              refine wp_append_src _ _ _ 22 (by rfl) w8.heap.size 3 j0 _ 1 8 Try.underlying22 hj0 hjz0 hjz1 hjz2 rfl (by omega) (.slice (some ⟨ge, 0, none⟩) 0 0) 0 [] (by rfl) HE.out A4 n4 c4 _ (by rfl) hsrc ints_one (by unfold maxLen; omega) (by omega) HB2.out.size ?_
              intro v6 u3 hown6 hgrow6 hrow6
              rw [Nat.zero_add, List.nil_append] at hown6
              obtain ⟨A6m, c6m, rfl⟩ := own_shape hown6
              have Hown := Lib.hid hown6
              have HB3 := Lib.hid (HB2.out.grown hgrow6 HB2.out.size (fun j e => (HE.out.lt j e).1))
              replace HXB := Lib.hid (HXB.out.grown hgrow6 (fun e => by simp [Value.ownBlock] at e; omega))
              have sz3 := hgrow6.size
              clear hown6 hrow6 hsrc hgrow6
              ((try dsimp only); refine hK.out _ _ (keepS.out _ HB3.out) (fun hSw => ?_); (try clear hSw); clear hK K; (try simp only [Act.put, List.setIfInBounds_toArray, List.set_cons_zero, List.set_cons_succ]))
              have HBz := HB3
              have HX := Lib.hid (show Src u3 1 (some ⟨gx, 0, none⟩) 1 [.int .i64 idx] from ⟨rfl, fun _ => ⟨_, rfl, fun j u hu => by rw [addr_add, Nat.zero_add, HXB.out.cell]; simpa using hu⟩⟩)
              clear HB0 HB1 HB2 HB3 HE HXB sz1 sz2 sz3
              rotate_left
              all_goals
                refine wpMix_bar (by rfl) (fun K hK => ?_)
                rw [if_pos (by rfl)]
                refine wp_append_src _ _ _ 22 (by rfl) w8.heap.size 3 j0 _ 1 8 Try.underlying22 hj0 hjz0 hjz1 hjz2 rfl (by omega) (.slice A6m n4 c6m) n4 _ (by rfl) Hown.out (some ⟨gx, 0, none⟩) 1 1 [.int .i64 idx] (by rfl) HX.out (by simp [Value.oneCell']) (by unfold maxLen; omega) (by omega) HBz.out.size ?_
                intro v7 w9 hown7 hgrow7 hrow7
                obtain ⟨A7, c7, rfl⟩ := own_shape hown7
                have HB9 := Lib.hid (HBz.out.grown hgrow7 HBz.out.size (fun j e => (Hown.out.lt j e).1))
                have HR9 := Lib.hid (show RdI w9 w9.heap.size A7 (n4 + 1) (ids ++ [idx]) from RdI.of_own (by rw [List.map_append]; exact hown7) (by omega))
                clear hown7 hgrow7 hrow7 Hown HX HBz
                ((try dsimp only); refine hK.out _ _ (keepS.out _ HB9.out) (fun hSw => ?_); (try clear hSw); clear hK K; (try simp only [Act.put, List.setIfInBounds_toArray, List.set_cons_zero, List.set_cons_succ]))
                (refine wpMix_bar (by rfl) (fun K hK => ?_); go_simp)
                refine (zoneGapI_any A1 _ A3 A7 3 3 n2 cy n3 c3 (n4 + 1) c7 room zones (ids ++ [idx]) (addAt bs at_ (idx, xs)) w9 (HD4.out.up (below_to E8.out HB9.out)).r.a (RY8.out.up HB9.out) (HD4.out.up (below_to E8.out HB9.out)).r.c HR9.out (by rw [(addAt_perm bs at_ (idx, xs) HAT.out).length_eq, List.length_append, List.length_cons, List.length_nil]; omega)).mono ?_; rintro e w10 ⟨rfl, hb10⟩
                have HB10 := Lib.hid (below_to HB9.out hb10)
                clear hb10
                ((try dsimp only); refine hK.out _ _ (keepS.out _ HB10.out) (fun hSw => ?_); (try clear hSw); clear hK K; (try simp only [Act.put, List.setIfInBounds_toArray, List.set_cons_zero, List.set_cons_succ]))
                repeat (first | (refine wpMix_skip (by rfl) (by rfl) ?_; (try simp only [Act.put, List.setIfInBounds_toArray, List.set_cons_zero, List.set_cons_succ])) | (refine wpMix_take (v := ?_) (by rfl) (by rfl) (fun wS hSt => ?_) ?_; rotate_left; (focus ((try dsimp only at hSt); (go_simp <;> with_reducible rfl); done)); (try simp only [Act.put, List.setIfInBounds_toArray, List.set_cons_zero, List.set_cons_succ])))
                (refine wpMix_bar (by rfl) (fun K hK => ?_); go_simp)
                refine (zoneGapI_any A1 _ A3 A4 3 3 n2 c2 n3 c3 n4 c4 room zones ids bs w10 (HD4.out.up (below_to E8.out HB10.out)).r.a (HD4.out.up (below_to E8.out HB10.out)).r.b (HD4.out.up (below_to E8.out HB10.out)).r.c (HD4.out.up (below_to E8.out HB10.out)).r.d (by omega)).mono ?_; rintro e w11 ⟨rfl, hb11⟩
                have HB11 := Lib.hid (below_to HB4.out (below_to E8.out (below_to HB10.out hb11)))
                have HQ11 := Lib.hid (below_to HB10.out hb11)
                have hgap := gap_add (t := (idx, xs)) HZ.out HC.out HAT.out HRO.out hid.out (fun j hj => HBE.out j hj (hrooms.out j hj))
                have hg0 := gap_ge HZ.out
                clear hb11
                ((try dsimp only); refine hK.out _ _ (keepS.out _ HQ11.out) (fun hSw => ?_); (try clear hSw); clear hK K; (try simp only [Act.put, List.setIfInBounds_toArray, List.set_cons_zero, List.set_cons_succ]))
                generalize gapP room (addAt bs at_ (idx, xs)) zones (ids ++ [idx]) = G1 at hgap ⊢
                generalize gapP room bs zones ids = G0 at hgap hg0 ⊢
                repeat (first | (refine wpMix_skip (by rfl) (by rfl) ?_; (try simp only [Act.put, List.setIfInBounds_toArray, List.set_cons_zero, List.set_cons_succ])) | (refine wpMix_take (v := ?_) (by rfl) (by rfl) (fun wS hSt => ?_) ?_; rotate_left; (focus ((try dsimp only at hSt); (go_simp <;> with_reducible rfl); done)); (try simp only [Act.put, List.setIfInBounds_toArray, List.set_cons_zero, List.set_cons_succ])))
                refine wpMix_nil ?_
                go_wp2
                all_goals
                  go_ret
                  exact ⟨ret_bool (decide_eq_true (by omega)), HB11.out⟩
end Go.Proofs.Ytgngmjlbeofjkaa
