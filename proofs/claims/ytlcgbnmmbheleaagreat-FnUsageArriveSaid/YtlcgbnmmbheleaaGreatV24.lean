/- Several texts in one. -/
import Derived.Test.YtlcgbnmmbheleaaGreatV21
namespace Go.Proofs.YtlcgbnmmbheleaaGreat
open Go Go.RowKit
attribute [local go_sem ↓] Go.wp_at_zero Go.wp_at_succ

theorem take_tk {ts : List Tk} {k : Nat} (h : k < ts.length) : ts.take (k + 1) = ts.take k ++ [((ts[k]?.getD (0, [])).1, (ts[k]?.getD (0, [])).2)] := by
  rw [List.take_succ_eq_append_getElem h, List.getElem?_eq_getElem h]; rfl

set_option maxRecDepth 100000 in
set_option maxHeartbeats 1600000 in
theorem l2Copy_any (A : Option Addr) (n c : Nat) (ts : List Tk) (w : World) (h : RdT w w.heap.size A n ts) (hz : n ≤ 1048576) (hm : ∀ j, j < n → (ts[j]?.getD (0, [])).2.length ≤ 1048576) :
    Calls Tryz.prog 106 #[.slice A n c] w fun e w' => ∃ A' c', e = .returned (.slice A' n c') ∧ OwnTs w' w.heap.size (.slice A' n c') n ts ∧ Below w.heap.size w w' := by
  obtain ⟨i0, hi0, hz0, hz1, hz2⟩ := info_parts task_info
  obtain ⟨j0, hj0, jz0, jz1, jz2⟩ := info_parts ownI_info
  have hl := qh h.len
  have H := qh h
  have Hm := qh hm
  clear h hm
  have O0 := qh (show (w.alloc (.cells #[] 40)).ownsRow w.heap.size 40 2 (.slice (some ⟨w.heap.size, 0, none⟩) 0 0) 0 [] from World.ownsRow_made w #[] 0 (Nat.le_refl _) (by unfold maxLen; omega) rfl)
  have B0 := qh (upNew w (.cells #[] 40))
  go_enter Tryz.func106, Tryz.ntmps106
  go_wp2_with fail
  go_loopw [3, 4] (fun v i wr => ∃ (k : Nat) (A0 : Option Addr) (c0 : Nat) (vs : List Value) (nd : Nat → Value), i = .int .i64 k ∧ k ≤ n ∧ v = .slice A0 k c0 ∧ Below w.heap.size w wr ∧
    wr.ownsRow w.heap.size 40 2 (.slice A0 k c0) k vs ∧ NdTs wr w.heap.size k vs nd (ts.take k)) (fun _ i _ => n - (intOf i).toNat)
  case atStart => exact ⟨0, _, _, [], _, rfl, Nat.zero_le _, rfl, B0.out, O0.out, NdTs.nil⟩
  case round =>
    clear O0 B0
    obtain ⟨k, A0, c0, vs, nd, rfl, hk, rfl, hbel, hown, hnd⟩ := hrel
    by_cases hlt : k < n
    · obtain ⟨b1, o1, A3, m3, c3, rfl, lb1, hc1, hc3, hle3, hr3⟩ := (H.out.below hbel).at_ hlt
      have lm3 : m3 ≤ 1048576 := by rw [← hr3.len]; exact Hm.out k hlt
      have kk1 : (0 : Int) ≤ (k : Int) := by omega
      have kk2 : (k : Int) < (n : Int) := by omega
      have keepS := qh (show ∀ W, Below w.heap.size w W → W.cell? ⟨b1, o1 + k * 2, none⟩ = some (.int .i64 (ts[k]?.getD (0, [])).1) ∧ W.cell? ⟨b1, o1 + k * 2 + 1, none⟩ = some (.slice A3 m3 c3) from
        fun W hW => ⟨(hW.cell lb1).trans ((hbel.cell lb1).symm.trans hc1), (hW.cell lb1).trans ((hbel.cell lb1).symm.trans hc3)⟩)
      have HB0 := qh hbel.drew
      have Hown := qh (own_keep hown (w' := wr.drew) (fun b hb => rfl))
      have Hnd := qh (hnd.keep (w' := wr.drew) (fun b _ _ => rfl))
      have K0 := keepS.out _ HB0.out
      have Hr3 := qh (hr3.below (w' := wr.drew) (Below.refl _ _).drew)
      clear hown hnd hr3 hc1 hc3 hbel
      go_wp2_with fail
      refine wp_region_mix (.take 0 (.take 1 (.take 2 (.take 3 (.take 4 (.take 5 (.take 7 (.take 8 (.take 9 (.take 10 (.take 11 (.bar 6 (.bar 12 (.take 13 (.bar 14 (.bar 15 (.take 16 .nil))))))))))))))))) (fun w' => w'.cell? ⟨b1, o1 + k * 2, none⟩ = some (.int .i64 (ts[k]?.getD (0, [])).1) ∧ w'.cell? ⟨b1, o1 + k * 2 + 1, none⟩ = some (.slice A3 m3 c3)) (by kernel_rfl) (by kernel_rfl) K0 (fun _ => ?_)
      clear K0
      repeat ((first | refine mxS (by rfl) (by rfl) ?_ | (refine mxT (v := ?_) (by rfl) (by rfl) (fun z y => ?_) ?_; rotate_left; (focus ((try dsimp only at y); (go_simp <;> with_reducible rfl); done)))); (try simp only [Act.put,pS,pZ,pC]))
      generalize wr.drew = u0 at HB0 Hown Hnd Hr3 ⊢
      (refine mxB (by rfl) (fun K hK => ?_); go_simp)
      have lu := HB0.out.size
      have HB1 := qh (HB0.out.alloc lu (.cells #[] 3))
      have HE := qh (show (u0.alloc (.cells #[] 3)).ownsRow u0.heap.size 3 1 (.slice (some ⟨u0.heap.size, 0, none⟩) 0 0) 0 [] from World.ownsRow_made u0 #[] 0 (Nat.le_refl _) (by unfold maxLen; omega) rfl)
      have Hs1 := qh (srcOfI (Hr3.out.below ((Below.refl w.heap.size u0).alloc lu (.cells #[] 3))))
      have lz1 : u0.heap.size ≤ (u0.alloc (.cells #[] 3)).heap.size := by rw [World.size_alloc]; omega
      ((try dsimp only); refine nxK hK _ _ (keepS.out _ HB1.out) ?_; clear hK K; (try simp only [Act.put,pS,pZ,pC]))
      refine mxB (by rfl) (fun K hK => ?_)
      rw [if_pos (by rfl)]
      refine wp_append_src _ _ _ 23 (by rfl) u0.heap.size 3 j0 _ 1 8 Tryz.underlying23 hj0 jz0 jz1 jz2 rfl (by omega) (.slice (some ⟨u0.heap.size, 0, none⟩) 0 0) 0 [] (by rfl) HE.out A3 m3 c3 _ (by rfl) Hs1.out (ints_cell1 _) (by unfold maxLen; omega) (by omega) lz1 ?_
      intro v6 w6 hown6 hgrow6 hrow6
      rw [Nat.zero_add, List.nil_append] at hown6
      obtain ⟨A6, c6, rfl⟩ := own_shape hown6
      have hk6 : ∀ b, b < u0.heap.size → w6.heap[b]? = u0.heap[b]? := fun b hb => (hgrow6.block b (by rw [World.size_alloc]; omega) (fun e => by have := (HE.out.lt b e.symm).1; omega)).trans (Below.heap_alloc _ _ _ hb)
      have Hx6 := qh hown6
      have Ho6 := qh (own_keep Hown.out (w' := w6) (fun b hb => hk6 b (Hown.out.lt b hb).2))
      have Hn6 := qh (Hnd.out.keep (w' := w6) (fun b _ hb => hk6 b hb))
      have HB6 := qh (HB1.out.grown hgrow6 HB1.out.size (fun j e => by have := (HE.out.lt j e).1; omega))
      clear hown6 hgrow6 hrow6 hk6 HE Hs1 HB1 Hr3 lz1
      ((try dsimp only); refine nxK hK _ _ (keepS.out _ HB6.out) ?_; clear hK K; (try simp only [Act.put,pS,pZ,pC]))
      repeat ((first | refine mxS (by rfl) (by rfl) ?_ | (refine mxT (v := ?_) (by rfl) (by rfl) (fun z y => ?_) ?_; rotate_left; (focus ((try dsimp only at y); (go_simp <;> with_reducible rfl); done)))); (try simp only [Act.put,pS,pZ,pC]))
      (refine mxB (by rfl) (fun K hK => ?_); go_simp)
      have HB7 := qh (HB6.out.alloc HB6.out.size (.cells #[.int .i64 (ts[k]?.getD (0, [])).1, .slice A6 m3 c6] 40))
      have Ho7 := qh (own_keep Ho6.out (w' := w6.alloc (.cells #[.int .i64 (ts[k]?.getD (0, [])).1, .slice A6 m3 c6] 40)) (fun b hb => Below.heap_alloc _ _ _ (Ho6.out.lt b hb).2))
      have Hx7 := qh (own_keep Hx6.out (w' := w6.alloc (.cells #[.int .i64 (ts[k]?.getD (0, [])).1, .slice A6 m3 c6] 40)) (fun b hb => Below.heap_alloc _ _ _ (Hx6.out.lt b hb).2))
      have Hn7 := qh ((Hn6.out.keep (w' := w6.alloc (.cells #[.int .i64 (ts[k]?.getD (0, [])).1, .slice A6 m3 c6] 40)) (fun b _ hlt => Below.heap_alloc _ _ _ hlt)).snoc (w0 := u0) (id := (ts[k]?.getD (0, [])).1) Ho6.out.1 Hnd.out.old Hx7.out lu)
      have Hs7 := qh (own_src (own_built (w := w6) (base := 0) 40 (.int .i64 (ts[k]?.getD (0, [])).1) (.slice A6 m3 c6) (by omega)))
      ((try dsimp only); refine nxK hK _ _ (keepS.out _ HB7.out) ?_; clear hK K; (try simp only [Act.put,pS,pZ,pC]))
      refine mxB (by rfl) (fun K hK => ?_)
      rw [if_pos (by rfl)]
      refine wp_append_src _ _ _ 30 (by rfl) w.heap.size 40 i0 _ 2 32 Tryz.underlying30 hi0 hz0 hz1 hz2 rfl (by omega) (.slice A0 k c0) k vs (by rfl) Ho7.out (some ⟨w6.heap.size, 0, none⟩) 1 1 [.int .i64 (ts[k]?.getD (0, [])).1, .slice A6 m3 c6] (by rfl) Hs7.out (by simp [Value.oneCell']) (by unfold maxLen; omega) (by omega) HB7.out.size ?_
      intro v8 w8 hown8 hgrow8 hrow8
      obtain ⟨A8, c8, rfl⟩ := own_shape hown8
      have Hn8 := qh (Hn7.out.grown Ho7.out hgrow8)
      have HB8 := qh (HB7.out.grown hgrow8 HB7.out.size (fun j e => (Ho7.out.lt j e).1))
      have Ho8 := qh hown8
      clear hown8 hgrow8 hrow8 Hs7 Hn7 Hx7 Ho7 HB7 Hn6 Ho6 Hx6 HB6 Hown Hnd
      ((try dsimp only); refine nxK hK _ _ (keepS.out _ HB8.out) ?_; clear hK K; (try simp only [Act.put,pS,pZ,pC]))
      repeat ((first | refine mxS (by rfl) (by rfl) ?_ | (refine mxT (v := ?_) (by rfl) (by rfl) (fun z y => ?_) ?_; rotate_left; (focus ((try dsimp only at y); (go_simp <;> with_reducible rfl); done)))); (try simp only [Act.put,pS,pZ,pC]))
      refine wpMix_nil ?_
      go_wp2_with fail
      go_roundw
      case measure => simp [intOf]; omega
      case rel => exact ⟨k + 1, A8, c8, _, _, by go_num, by omega, rfl, HB8.out, Ho8.out, by rw [take_tk (by have := hl.out; omega)]; exact Hn8.out⟩
    · obtain rfl : k = n := by omega
      have Hown := qh hown
      have Hnd := qh hnd
      clear hown hnd
      go_wp2_with fail
      go_ret
      exact ⟨A0, c0, rfl, ⟨vs, nd, Hown.out, by have := Hnd.out; rwa [List.take_of_length_le (by have := hl.out; omega)] at this⟩, hbel⟩
end Go.Proofs.YtlcgbnmmbheleaaGreat

namespace Go.Proofs.YtlcgbnmmbheleaaGreat
open Go Go.RowKit
attribute [local go_sem ↓] Go.wp_at_zero Go.wp_at_succ

def IsTU (w : World) (b : Nat) : Prop := ∃ t cs, (t = 3 ∨ t = 40 ∨ t = 32) ∧ Blk w b t cs
def KeepTU (w w' : World) : Prop := ∀ b, IsTU w b → w'.heap[b]? = w.heap[b]?
section
variable {w w' a b c : World}
theorem KeepTU.up (h : Below a.heap.size a b) : KeepTU a b := fun g hg => by obtain ⟨_, _, _, hb⟩ := hg; exact h.block g hb.lt
theorem KeepTU.trans (h : KeepTU a b) (k : KeepTU b c) : KeepTU a c := fun g hg => (k g (by obtain ⟨t, cs, ht, hb⟩ := hg; exact ⟨t, cs, ht, (h g ⟨t, cs, ht, hb⟩).trans hb⟩)).trans (h g hg)
theorem KeepTU.ti (h : KeepTU a b) : KeepTI a b := fun g hg => h g (by obtain ⟨t, cs, ht, hb⟩ := hg; exact ⟨t, cs, ht.elim .inl (fun h => .inr (.inl h)), hb⟩)
theorem KeepTU.set_ {g : Nat} {t : TypeId} {cs : Array Value} (hb : Blk a g t cs) (h1 : t ≠ 3) (h2 : t ≠ 40) (h3 : t ≠ 32) (i : Nat) (u : Value) : KeepTU a (a.setCell ⟨g, i, none⟩ u) := fun k hk => Below.heap_setCell _ _ _ _ (by
  rintro rfl
  obtain ⟨t', cs', ht, hb'⟩ := hk
  unfold Blk at hb hb'
  rw [hb] at hb'
  injection hb' with e
  injection e with _ e
  rcases ht with rfl | rfl | rfl
  · exact h1 e
  · exact h2 e
  · exact h3 e)
theorem OwnUs.keepTU {base n : Nat} {v : Value} {us : List Un} (h : OwnUs w base v n us) (hk : KeepTU w w') : OwnUs w' base v n us := by
  obtain ⟨vs, tk, f, h1, h2, h3⟩ := h
  exact ⟨vs, tk, f, own_keepB h1 (fun b cs _ hc => hk b ⟨_, cs, .inr (.inr rfl), hc⟩), h2.keepTI hk.ti, h3⟩
theorem OwnC.keepTU {base m1 m2 : Nat} {v1 v2 : Value} {room : List Int} {us : List Un} (h : OwnC w base v1 v2 m1 m2 room us) (hk : KeepTU w w') : OwnC w' base v1 v2 m1 m2 room us := by
  obtain ⟨h1, md, h2, h3, h4⟩ := h
  exact ⟨own_keepTI h1 (.inl rfl) hk.ti, md, h2, h3, h4.keepTU hk⟩
theorem OwnC.low {base base' m1 m2 : Nat} {v1 v2 : Value} {room : List Int} {us : List Un} (h : OwnC w base v1 v2 m1 m2 room us) (hb : base' ≤ base) : OwnC w base' v1 v2 m1 m2 room us := by
  obtain ⟨h1, md, h2, h3, h4⟩ := h
  exact ⟨own_lo h1 hb, md, h2, Nat.le_trans hb h3, h4⟩
theorem OwnC.none {base : Nat} (hb : base ≤ w.heap.size) : OwnC w base (.slice none 0 0) (.slice none 0 0) 0 0 [] [] :=
  ⟨⟨rfl, .inl ⟨rfl, rfl⟩⟩, w.heap.size, fun b hb => by simp [Value.ownBlock] at hb, hb, [], _, _, ⟨rfl, .inl ⟨rfl, rfl⟩⟩, NdUs.nil w.heap.size, Nat.le_refl _⟩
theorem OwnC.rd {base m1 m2 c1 c2 : Nat} {A1 A2 : Option Addr} {room : List Int} {us : List Un} (h : OwnC w base (.slice A1 m1 c1) (.slice A2 m2 c2) m1 m2 room us) (hm : m1 ≤ 9223372036854775807) (hs : ShU us) : RdC w A1 A2 m1 m2 room us := by
  obtain ⟨h1, md, _, _, h4⟩ := h
  refine ⟨own_rdI h1 hm, h4.rd (by have := h4.len.1; have := hs.1; omega) (fun u hu => ?_)⟩
  have := hs.2 u hu
  exact ⟨by omega, fun t ht => by have := this.2 t ht; omega⟩
theorem OwnC.len {base m1 m2 : Nat} {v1 v2 : Value} {room : List Int} {us : List Un} (h : OwnC w base v1 v2 m1 m2 room us) : room.length = m1 := by have := h.1.1; simpa using this
end
end Go.Proofs.YtlcgbnmmbheleaaGreat

namespace Go.Proofs.YtlcgbnmmbheleaaGreat
open Go Go.RowKit
attribute [local go_sem ↓] Go.wp_at_zero Go.wp_at_succ

theorem un_succ {us : List Un} {k : Nat} (h : k < us.length) : us.take (k + 1) = us.take k ++ [((us[k]?.getD (false, [])).1, (us[k]?.getD (false, [])).2)] := by
  rw [List.take_succ_eq_append_getElem h, List.getElem?_eq_getElem h]
  rfl

set_option maxRecDepth 100000 in
set_option maxHeartbeats 3200000 in
theorem l21Copy_any (A1 A2 : Option Addr) (n1 c1 n2 c2 : Nat) (room : List Int) (us : List Un) (w : World) (h : RdC w A1 A2 n1 n2 room us) (hs : ShU us) (hn1 : n1 ≤ 1048576) :
    Calls Tryz.prog 68 #[.agg #[.slice A1 n1 c1, .slice A2 n2 c2]] w fun e w' => ∃ A3 c3 A4 c4, e = .returned (.agg #[.slice A3 n1 c3, .slice A4 n2 c4]) ∧ OwnC w' w.heap.size (.slice A3 n1 c3) (.slice A4 n2 c4) n1 n2 room us ∧ Below w.heap.size w w' := by
  obtain ⟨i0, hi0, hz0, hz1, hz2⟩ := info_parts ownI_info
  obtain ⟨ui0, hu0, huz0, huz1, huz2⟩ := info_parts unit_info
  have hl := qh h.b.len
  have H := qh h
  have Hsh := qh hs
  have ln : n2 ≤ 1000 := by have := h.b.len; have := hs.1; omega
  clear h hs
  -- the argument's box, the result's cells
  have sz : (w.alloc (.cells #[.slice A1 n1 c1, .slice A2 n2 c2] 26)).heap.size = w.heap.size + 1 := World.size_alloc _ _
  have sz2 : ((w.alloc (.cells #[.slice A1 n1 c1, .slice A2 n2 c2] 26)).alloc (.cells #[.slice none 0 0, .slice none 0 0] 26)).heap.size = w.heap.size + 2 := by rw [World.size_alloc, sz]
  have hZ := Blk.new (w.alloc (.cells #[.slice A1 n1 c1, .slice A2 n2 c2] 26)) 26 #[.slice none 0 0, .slice none 0 0]
  rw [sz] at hZ
  have B1 := qh ((alloc_up w (.cells #[.slice A1 n1 c1, .slice A2 n2 c2] 26)).alloc (by rw [sz]; omega) (.cells #[.slice none 0 0, .slice none 0 0] 26))
  have P1 := qh ((Blk.new w 26 #[.slice A1 n1 c1, .slice A2 n2 c2]).alloc (.cells #[.slice none 0 0, .slice none 0 0] 26))
  have Z1 := qh hZ
  have hO := World.ownsRow_lit (base := w.heap.size) (e := 3) (size := 1) ((w.alloc (.cells #[.slice A1 n1 c1, .slice A2 n2 c2] 26)).alloc (.cells #[.slice none 0 0, .slice none 0 0] 26)) #[] 0 (by rw [sz2]; omega) (by unfold maxLen; omega) rfl
  rw [sz2] at hO
  have O2 := qh (show (((w.alloc (.cells #[.slice A1 n1 c1, .slice A2 n2 c2] 26)).alloc (.cells #[.slice none 0 0, .slice none 0 0] 26)).alloc (.cells #[] 3)).ownsRow w.heap.size 3 1 (.slice (some ⟨w.heap.size + 2, 0, none⟩) 0 0) 0 [] from hO)
  have B2 := qh (B1.out.alloc (by rw [sz2]; omega) (.cells #[] 3))
  have P2 := qh (P1.out.alloc (.cells #[] 3))
  have Z2 := qh (Z1.out.alloc (.cells #[] 3))
  have S2 := qh (srcOfI (H.out.a.up B2.out))
  have N2 := qh (ints_cell1 room)
  have lz2 := B2.out.size
  have x0 := P2.out.cell 0
  simp only [gT, gZ] at x0
  clear hO hZ B1 P1 Z1 sz sz2
  go_enter Tryz.func68, Tryz.ntmps68
  go_wp2_with (at_builtin; refine wpList_append_src _ rfl _ _ 23 rfl w.heap.size 3 i0 _ 1 8 Tryz.underlying23 hi0 hz0 hz1 hz2 rfl (by omega) (.slice (some ⟨w.heap.size + 2, 0, none⟩) 0 0) 0 [] rfl O2.out A1 n1 c1 _ rfl S2.out N2.out (by unfold maxLen; omega) (by omega) lz2 ?_; intro v' w4 hown4 hgrow4 hat4; rw [Nat.zero_add, List.nil_append] at hown4; obtain ⟨A4, c4, rfl⟩ := own_shape hown4)
  have B4 := qh (B2.out.grown hgrow4 lz2 (fun j e => (O2.out.lt j e).1))
  have P4 := qh (P2.out.grown hgrow4 (fun e => own_blk_ne O2.out P2.out (by decide) e.symm))
  have Z4 := qh (Z2.out.grown hgrow4 (fun e => own_blk_ne O2.out Z2.out (by decide) e.symm))
  have O4 := qh hown4
  have lz4 := B4.out.size
  have lmd : w.heap.size + 1 < w4.heap.size := Z4.out.lt
  clear hown4 hgrow4 hat4 O2 B2 P2 Z2 S2 N2 lz2 x0
  have sz : (w4.alloc (.cells #[] 32)).heap.size = w4.heap.size + 1 := World.size_alloc _ _
  have U5 := qh (show ((w4.alloc (.cells #[] 32)).alloc (.cells #[.slice A4 n1 c4, .slice (some ⟨w4.heap.size, 0, none⟩) 0 0] 26)).ownsRow w4.heap.size 32 2 (.slice (some ⟨w4.heap.size, 0, none⟩) 0 0) 0 [] from
    own_alloc (World.ownsRow_lit (base := w4.heap.size) (e := 32) (size := 2) w4 #[] 0 (Nat.le_refl _) (by unfold maxLen; omega) rfl) _)
  have hC := Blk.new (w4.alloc (.cells #[] 32)) 26 #[.slice A4 n1 c4, .slice (some ⟨w4.heap.size, 0, none⟩) 0 0]
  rw [sz] at hC
  have C5 := qh hC
  have P5 := qh ((P4.out.alloc (.cells #[] 32)).alloc (.cells #[.slice A4 n1 c4, .slice (some ⟨w4.heap.size, 0, none⟩) 0 0] 26))
  have Z5 := qh ((Z4.out.alloc (.cells #[] 32)).alloc (.cells #[.slice A4 n1 c4, .slice (some ⟨w4.heap.size, 0, none⟩) 0 0] 26))
  have B5 := qh ((B4.out.alloc lz4 (.cells #[] 32)).alloc (by rw [sz]; omega) (.cells #[.slice A4 n1 c4, .slice (some ⟨w4.heap.size, 0, none⟩) 0 0] 26))
  have O5 := qh (own_alloc (own_alloc O4.out (.cells #[] 32)) (.cells #[.slice A4 n1 c4, .slice (some ⟨w4.heap.size, 0, none⟩) 0 0] 26))
  have Lo := qh (fun b hb => (O4.out.lt b hb).2)
  have lz5 : w4.heap.size ≤ ((w4.alloc (.cells #[] 32)).alloc (.cells #[.slice A4 n1 c4, .slice (some ⟨w4.heap.size, 0, none⟩) 0 0] 26)).heap.size := by rw [World.size_alloc, sz]; omega
  clear hC sz O4 P4 Z4 B4
  generalize (w4.alloc (.cells #[] 32)).alloc (.cells #[.slice A4 n1 c4, .slice (some ⟨w4.heap.size, 0, none⟩) 0 0] 26) = w5 at U5 C5 P5 Z5 B5 O5 lz5 ⊢
  generalize w4.heap.size = md at *
  obtain ⟨g3, hg3⟩ : ∃ g3, g3 = md + 1 := ⟨_, rfl⟩
  rw [← hg3] at C5
  rw [← hg3]
  have lg3 : w.heap.size + 1 < g3 := by omega
  clear hg3
  go_loopw [4] (fun i wr => ∃ (k : Nat) (A6 : Option Addr) (c6 : Nat) (vs : List Value) (tk : Nat → Value) (f : Nat → Nat), i = .int .i64 k ∧ k ≤ n2 ∧ Below w.heap.size w wr ∧ Blk wr w.heap.size 26 #[.slice A1 n1 c1, .slice A2 n2 c2] ∧ Blk wr (w.heap.size + 1) 26 #[.slice none 0 0, .slice none 0 0] ∧
    Blk wr g3 26 #[.slice A4 n1 c4, .slice A6 k c6] ∧ wr.ownsRow w.heap.size 3 1 (.slice A4 n1 c4) n1 (room.map (Value.int .i64)) ∧ wr.ownsRow md 32 2 (.slice A6 k c6) k vs ∧ NdUs wr k vs tk f (us.take k) ∧ md ≤ f 0 ∧ f k ≤ wr.heap.size) (fun i _ => n2 - (intOf i).toNat)
  case atStart => exact ⟨0, _, 0, [], _, _, rfl, Nat.zero_le _, B5.out, P5.out, Z5.out, C5.out, O5.out, U5.out, NdUs.nil md, Nat.le_refl _, lz5⟩
  case round =>
    clear B5 P5 Z5 C5 O5 U5 lz5
    obtain ⟨k, A6, c6, vs, tk, f, rfl, hk, hbel, hblk, hzb, hcl, hrm, hun, hnd, hmd, hfk⟩ := hrel
    have Hvl := qh (show vs.length = k * 2 from hun.1)
    by_cases hlt : k < n2
    · have HB0 := qh hbel.drew
      have HP0 := qh hblk.drew
      have HZ0 := qh hzb.drew
      have HC0 := qh hcl.drew
      have HM0 := qh (World.ownsRow.drew hrm)
      have HU0 := qh (World.ownsRow.drew hun)
      have HN0 := qh (hnd.keepTI (KeepTI.drew wr))
      have k1 : (0 : Int) ≤ (k : Int) := by omega
      have k2 : (k : Int) < (n2 : Int) := by omega
      have k3 : 0 ≤ (k : Int) * 2 := by omega
      have hkl : Hid (k < us.length) := by have := hl.out; show _ < _; omega
      have Hs := qh (un_succ hkl.out)
      obtain ⟨b, o, A', m1, c', rfl, lb, hc1, hc2, hmc, hrd⟩ := (H.out.b.below HB0.out).at_ hlt
      have hu := Hsh.out.2 _ (un_mem hkl.out)
      have hm1 : m1 ≤ 1000 := by have := hrd.len; have := hu.1; omega
      have Hml := qh (fun j (hj : j < m1) => show ((us[k]?.getD (false, [])).2[j]?.getD (0, [])).2.length ≤ 1048576 from by
        have := hu.2 _ (tk_mem (show j < (us[k]?.getD (false, [])).2.length by rw [hrd.len]; exact hj)); omega)
      have HRt := qh hrd
      have lzd : w.heap.size ≤ wr.drew.heap.size := HB0.out.size
      have lfd : f k ≤ wr.drew.heap.size := hfk
      have lmz : md ≤ wr.drew.heap.size := by have := hnd.mono 0 k (by omega) (by omega); omega
      have y1 := hblk.cell 1
      simp only [gT, gZ, gS] at y1
      clear hbel hblk hzb hcl hrm hun hnd hrd hu
      generalize (us[k]?.getD (false, [])).1 = op at *
      generalize (us[k]?.getD (false, [])).2 = ts at *
      have K0 : wr.drew.cell? ⟨w.heap.size, 1, none⟩ = some (.slice (some ⟨b, o, none⟩) n2 c2) ∧ wr.drew.cell? ⟨b, o + k * 2, none⟩ = some (.bool op) ∧ wr.drew.cell? ⟨b, o + k * 2 + 1, none⟩ = some (.slice A' m1 c') := ⟨HP0.out.cell 1, hc1, hc2⟩
      have hS := qh (fun w' (hb : Below w.heap.size w w') (hp : Blk w' w.heap.size 26 #[.slice A1 n1 c1, .slice (some ⟨b, o, none⟩) n2 c2]) => (⟨hp.cell 1, (hb.cell (p := ⟨b, o + k * 2, none⟩) lb).trans ((HB0.out.cell (p := ⟨b, o + k * 2, none⟩) lb).symm.trans hc1), (hb.cell (p := ⟨b, o + k * 2 + 1, none⟩) lb).trans ((HB0.out.cell (p := ⟨b, o + k * 2 + 1, none⟩) lb).symm.trans hc2)⟩ : w'.cell? ⟨w.heap.size, 1, none⟩ = some (.slice (some ⟨b, o, none⟩) n2 c2) ∧ w'.cell? ⟨b, o + k * 2, none⟩ = some (.bool op) ∧ w'.cell? ⟨b, o + k * 2 + 1, none⟩ = some (.slice A' m1 c')))
      clear hc1 hc2
      go_wp2_with fail
      clear y1
      refine wp_region_mix (.take 0 (.take 2 (.take 3 (.take 4 (.take 5 (.take 6 (.take 7 (.take 8 (.take 9 (.take 10 (.take 11 (.take 12 (.take 13 (.fork 1 (.bar 14 (.take 15 (.bar 16 (.bar 17 (.take 18 (.bar 19 .nil)))))) 14 (.take 15 (.fork 1 (.bar 16 (.bar 17 (.take 18 (.bar 19 .nil)))) 16 (.bar 1 (.bar 17 (.take 18 (.bar 19 .nil)))))))))))))))))))) (fun w' => w'.cell? ⟨w.heap.size, 1, none⟩ = some (.slice (some ⟨b, o, none⟩) n2 c2) ∧ w'.cell? ⟨b, o + k * 2, none⟩ = some (.bool op) ∧ w'.cell? ⟨b, o + k * 2 + 1, none⟩ = some (.slice A' m1 c')) (by kernel_rfl) (by kernel_rfl) K0 (fun _ => ?_)
      clear K0
      repeat ((first | refine mxS (by rfl) (by rfl) ?_ | (refine mxT (v := ?_) (by rfl) (by rfl) (fun z y => ?_) ?_; rotate_left; (focus ((try dsimp only at y); (go_simp <;> with_reducible rfl); done)))); (try simp only [Act.put,pS,pZ,pC]))
      generalize wr.drew = u0 at HB0 HP0 HZ0 HC0 HM0 HU0 HN0 HRt lzd lfd lmz hS ⊢
      refine wpMix_fork (by rfl) (by rfl) (fun K hK => ?_) (fun K hK => ?_)
      · have q1 := (HC0.out).cell 1
        simp only [gT, gZ, gS] at q1
        go_simp
        clear q1
        ((try dsimp only); refine nxK hK _ _ (hS.out _ HB0.out HP0.out) ?_; clear hK K; (try simp only [Act.put,pS,pZ,pC]))
        (refine mxB (by rfl) (fun K hK => ?_); go_simp)
        refine (l2Copy_any A' m1 c' ts u0 (HRt.out.more (by omega)) (by omega) Hml.out).mono ?_; rintro e u1 ⟨At, ct, rfl, hts, hb1⟩
        have HB1 := qh (HB0.out.trans (hb1.mono (by omega)))
        have HP1 := qh (HP0.out.below hb1 HP0.out.lt)
        have HZ1 := qh (HZ0.out.below hb1 HZ0.out.lt)
        have HC1 := qh (HC0.out.below hb1 HC0.out.lt)
        have HU1 := qh (own_up' HU0.out hb1)
        have HM1 := qh (own_up' HM0.out hb1)
        have HN1 := qh (HN0.out.keepTI (KeepTI.up hb1))
        have HT1 := qh hts
        have lu1 := hb1.size
        clear hts hb1
        ((try dsimp only); refine nxK hK _ _ (hS.out _ HB1.out HP1.out) ?_; clear hK K; (try simp only [Act.put,pS,pZ,pC]))
        repeat ((first | refine mxS (by rfl) (by rfl) ?_ | (refine mxT (v := ?_) (by rfl) (by rfl) (fun z y => ?_) ?_; rotate_left; (focus ((try dsimp only at y); (go_simp <;> with_reducible rfl); done)))); (try simp only [Act.put,pS,pZ,pC]))
        have HB2 := qh (HB1.out.alloc (by omega) (.cells #[.bool op, .slice At m1 ct] 32))
        have HP2 := qh (HP1.out.alloc (.cells #[.bool op, .slice At m1 ct] 32))
        have HZ2 := qh (HZ1.out.alloc (.cells #[.bool op, .slice At m1 ct] 32))
        have HC2 := qh (HC1.out.alloc (.cells #[.bool op, .slice At m1 ct] 32))
        have HU2 := qh (own_alloc HU1.out (.cells #[.bool op, .slice At m1 ct] 32))
        have X2 := qh (lit2 u1 32 (.bool op) (.slice At m1 ct))
        have K2 := qh (KeepTI.up (alloc_up u1 (.cells #[.bool op, .slice At m1 ct] 32)))
        have lu2 : u1.heap.size ≤ (u1.alloc (.cells #[.bool op, .slice At m1 ct] 32)).heap.size := by rw [World.size_alloc]; omega
        (refine mxB (by rfl) (fun K hK => ?_); go_simp)
        ((try dsimp only); refine nxK hK _ _ (hS.out _ HB2.out HP2.out) ?_; clear hK K; (try simp only [Act.put,pS,pZ,pC]))
        generalize hgx : u1.heap.size = gx at X2 ⊢
        rw [hgx] at lu1 lu2
        generalize u1.alloc (.cells #[.bool op, .slice At m1 ct] 32) = u2 at HB2 HP2 HZ2 HC2 HU2 X2 K2 lu2 ⊢
        refine mxB (by rfl) (fun K hK => ?_)
        rw [if_pos (by rfl)]
        refine wp_append_src _ _ _ 24 (by rfl) md 32 ui0 _ 2 32 Tryz.underlying24 hu0 huz0 huz1 huz2 rfl (by omega) (.slice A6 k c6) k vs (by rfl) HU2.out (some ⟨gx, 0, none⟩) 1 1 [.bool op, .slice At m1 ct] (by rfl) X2.out (one2 _ _ rfl rfl) (by unfold maxLen; omega) (by omega) (by omega) ?_
        intro v6 u3 hown6 hgrow6 hrow6
        obtain ⟨A8, c8, rfl⟩ := own_shape hown6
        have HB3 := qh (HB2.out.grown hgrow6 (by omega) (fun r e => by have := (HU2.out.lt r e).1; omega))
        have HP3 := qh (HP2.out.grown hgrow6 (fun e => own_blk_ne HU2.out HP2.out (by decide) e.symm))
        have HZ3 := qh (HZ2.out.grown hgrow6 (fun e => own_blk_ne HU2.out HZ2.out (by decide) e.symm))
        have HC3 := qh (HC2.out.grown hgrow6 (fun e => own_blk_ne HU2.out HC2.out (by decide) e.symm))
        have K3 := qh (K2.out.trans (KeepTI.grown HU2.out hgrow6 (by decide) (by decide)))
        have HU3 := qh hown6
        have lu3 := hgrow6.size
        have f3 := HC3.out.frozen 1
        have q3 := HC3.out.cell 1
        simp only [gT, gZ, gS] at q3
        clear hown6 hgrow6 hrow6 HB2 HP2 HZ2 HC2 HU2 X2 K2
        ((try dsimp only); refine nxK hK _ _ (hS.out _ HB3.out HP3.out) ?_; clear hK K; (try simp only [Act.put,pS,pZ,pC]))
        repeat ((first | refine mxS (by rfl) (by rfl) ?_ | (refine mxT (v := ?_) (by rfl) (by rfl) (fun z y => ?_) ?_; rotate_left; (focus ((try dsimp only at y); (go_simp <;> with_reducible rfl); done)))); (try simp only [Act.put,pS,pZ,pC]))
        (refine mxB (by rfl) (fun K hK => ?_); go_simp)
        have KT := qh (K3.out.trans (KeepTI.set_ HC3.out (by decide) (by decide) 1 (.slice A8 (k + 1) c8)))
        have HB4 := qh (HB3.out.setCell (p := ⟨g3, 1, none⟩) (by show w.heap.size ≤ g3; omega) (.slice A8 (k + 1) c8))
        have HP4 := qh (HP3.out.far (p := ⟨g3, 1, none⟩) (by show w.heap.size ≠ g3; omega) (.slice A8 (k + 1) c8))
        have HZ4 := qh (HZ3.out.far (p := ⟨g3, 1, none⟩) (by show w.heap.size + 1 ≠ g3; omega) (.slice A8 (k + 1) c8))
        have HC4 := qh (show Blk (u3.setCell ⟨g3, 1, none⟩ (.slice A8 (k + 1) c8)) g3 26 #[.slice A4 n1 c4, .slice A8 (k + 1) c8] from HC3.out.set_ 1 (.slice A8 (k + 1) c8))
        have HU4 := qh (own_keep HU3.out (w' := u3.setCell ⟨g3, 1, none⟩ (.slice A8 (k + 1) c8)) (fun b hb => Below.heap_setCell _ _ _ _ (fun e => own_blk_ne HU3.out HC3.out (by decide) (by rw [hb, e]))))
        have sz4 : u1.heap.size ≤ (u3.setCell ⟨g3, 1, none⟩ (.slice A8 (k + 1) c8)).heap.size := by simp only [World.setCell, Array.size_modify]; omega
        have hx := ((OwnTs.toB HT1.out).wide (show f k ≤ u0.heap.size by omega) (Nat.le_refl _)).keep (fun b _ _ hb => KT.out b hb)
        have hns := (HN1.out.keepTI KT.out).snoc (op := op) (by have := Hvl.out; omega) hx (by omega)
        have HN4 := qh hns
        have HM4 := qh (own_keepTI HM1.out (.inl rfl) KT.out)
        clear hx hns KT K3 HB3 HP3 HZ3 HC3 HU3 f3 q3
        ((try dsimp only); refine nxK hK _ _ (hS.out _ HB4.out HP4.out) ?_; clear hK K; (try simp only [Act.put,pS,pZ,pC]))
        generalize u3.setCell ⟨g3, 1, none⟩ (.slice A8 (k + 1) c8) = u4 at HB4 HP4 HZ4 HC4 HU4 sz4 HN4 HM4 ⊢
        refine wpMix_nil ?_
        go_wp2_with fail
        go_roundw
        case measure => simp [intOf]; omega
        case rel => exact ⟨k + 1, A8, c8, _, _, _, by go_num, by omega, HB4.out, HP4.out, HZ4.out, HC4.out, HM4.out, HU4.out, by rw [Hs.out]; exact HN4.out, by show md ≤ (if 0 = k + 1 then _ else f 0); rw [if_neg (by omega)]; omega, by show (if k + 1 = k + 1 then u1.heap.size else _) ≤ _; rw [if_pos rfl]; exact sz4⟩
      · go_simp
        refine (l2Copy_any A' m1 c' ts u0 (HRt.out.more (by omega)) (by omega) Hml.out).mono ?_; rintro e u1 ⟨At, ct, rfl, hts, hb1⟩
        have HB1 := qh (HB0.out.trans (hb1.mono (by omega)))
        have HP1 := qh (HP0.out.below hb1 HP0.out.lt)
        have HZ1 := qh (HZ0.out.below hb1 HZ0.out.lt)
        have HC1 := qh (HC0.out.below hb1 HC0.out.lt)
        have HU1 := qh (own_up' HU0.out hb1)
        have HM1 := qh (own_up' HM0.out hb1)
        have HN1 := qh (HN0.out.keepTI (KeepTI.up hb1))
        have HT1 := qh hts
        have lu1 := hb1.size
        clear hts hb1
        ((try dsimp only); refine nxK hK _ _ (hS.out _ HB1.out HP1.out) ?_; clear hK K; (try simp only [Act.put,pS,pZ,pC]))
        repeat ((first | refine mxS (by rfl) (by rfl) ?_ | (refine mxT (v := ?_) (by rfl) (by rfl) (fun z y => ?_) ?_; rotate_left; (focus ((try dsimp only at y); (go_simp <;> with_reducible rfl); done)))); (try simp only [Act.put,pS,pZ,pC]))
        refine wpMix_fork (by rfl) (by rfl) (fun K hK => ?_) (fun K hK => ?_)
        · have q1 := (HC1.out).cell 1
          simp only [gT, gZ, gS] at q1
          go_simp
          clear q1
          ((try dsimp only); refine nxK hK _ _ (hS.out _ HB1.out HP1.out) ?_; clear hK K; (try simp only [Act.put,pS,pZ,pC]))
          have HB2 := qh (HB1.out.alloc (by omega) (.cells #[.bool op, .slice At m1 ct] 32))
          have HP2 := qh (HP1.out.alloc (.cells #[.bool op, .slice At m1 ct] 32))
          have HZ2 := qh (HZ1.out.alloc (.cells #[.bool op, .slice At m1 ct] 32))
          have HC2 := qh (HC1.out.alloc (.cells #[.bool op, .slice At m1 ct] 32))
          have HU2 := qh (own_alloc HU1.out (.cells #[.bool op, .slice At m1 ct] 32))
          have X2 := qh (lit2 u1 32 (.bool op) (.slice At m1 ct))
          have K2 := qh (KeepTI.up (alloc_up u1 (.cells #[.bool op, .slice At m1 ct] 32)))
          have lu2 : u1.heap.size ≤ (u1.alloc (.cells #[.bool op, .slice At m1 ct] 32)).heap.size := by rw [World.size_alloc]; omega
          (refine mxB (by rfl) (fun K hK => ?_); go_simp)
          ((try dsimp only); refine nxK hK _ _ (hS.out _ HB2.out HP2.out) ?_; clear hK K; (try simp only [Act.put,pS,pZ,pC]))
          generalize hgx : u1.heap.size = gx at X2 ⊢
          rw [hgx] at lu1 lu2
          generalize u1.alloc (.cells #[.bool op, .slice At m1 ct] 32) = u2 at HB2 HP2 HZ2 HC2 HU2 X2 K2 lu2 ⊢
          refine mxB (by rfl) (fun K hK => ?_)
          rw [if_pos (by rfl)]
          refine wp_append_src _ _ _ 24 (by rfl) md 32 ui0 _ 2 32 Tryz.underlying24 hu0 huz0 huz1 huz2 rfl (by omega) (.slice A6 k c6) k vs (by rfl) HU2.out (some ⟨gx, 0, none⟩) 1 1 [.bool op, .slice At m1 ct] (by rfl) X2.out (one2 _ _ rfl rfl) (by unfold maxLen; omega) (by omega) (by omega) ?_
          intro v6 u3 hown6 hgrow6 hrow6
          obtain ⟨A8, c8, rfl⟩ := own_shape hown6
          have HB3 := qh (HB2.out.grown hgrow6 (by omega) (fun r e => by have := (HU2.out.lt r e).1; omega))
          have HP3 := qh (HP2.out.grown hgrow6 (fun e => own_blk_ne HU2.out HP2.out (by decide) e.symm))
          have HZ3 := qh (HZ2.out.grown hgrow6 (fun e => own_blk_ne HU2.out HZ2.out (by decide) e.symm))
          have HC3 := qh (HC2.out.grown hgrow6 (fun e => own_blk_ne HU2.out HC2.out (by decide) e.symm))
          have K3 := qh (K2.out.trans (KeepTI.grown HU2.out hgrow6 (by decide) (by decide)))
          have HU3 := qh hown6
          have lu3 := hgrow6.size
          have f3 := HC3.out.frozen 1
          have q3 := HC3.out.cell 1
          simp only [gT, gZ, gS] at q3
          clear hown6 hgrow6 hrow6 HB2 HP2 HZ2 HC2 HU2 X2 K2
          ((try dsimp only); refine nxK hK _ _ (hS.out _ HB3.out HP3.out) ?_; clear hK K; (try simp only [Act.put,pS,pZ,pC]))
          repeat ((first | refine mxS (by rfl) (by rfl) ?_ | (refine mxT (v := ?_) (by rfl) (by rfl) (fun z y => ?_) ?_; rotate_left; (focus ((try dsimp only at y); (go_simp <;> with_reducible rfl); done)))); (try simp only [Act.put,pS,pZ,pC]))
          (refine mxB (by rfl) (fun K hK => ?_); go_simp)
          have KT := qh (K3.out.trans (KeepTI.set_ HC3.out (by decide) (by decide) 1 (.slice A8 (k + 1) c8)))
          have HB4 := qh (HB3.out.setCell (p := ⟨g3, 1, none⟩) (by show w.heap.size ≤ g3; omega) (.slice A8 (k + 1) c8))
          have HP4 := qh (HP3.out.far (p := ⟨g3, 1, none⟩) (by show w.heap.size ≠ g3; omega) (.slice A8 (k + 1) c8))
          have HZ4 := qh (HZ3.out.far (p := ⟨g3, 1, none⟩) (by show w.heap.size + 1 ≠ g3; omega) (.slice A8 (k + 1) c8))
          have HC4 := qh (show Blk (u3.setCell ⟨g3, 1, none⟩ (.slice A8 (k + 1) c8)) g3 26 #[.slice A4 n1 c4, .slice A8 (k + 1) c8] from HC3.out.set_ 1 (.slice A8 (k + 1) c8))
          have HU4 := qh (own_keep HU3.out (w' := u3.setCell ⟨g3, 1, none⟩ (.slice A8 (k + 1) c8)) (fun b hb => Below.heap_setCell _ _ _ _ (fun e => own_blk_ne HU3.out HC3.out (by decide) (by rw [hb, e]))))
          have sz4 : u1.heap.size ≤ (u3.setCell ⟨g3, 1, none⟩ (.slice A8 (k + 1) c8)).heap.size := by simp only [World.setCell, Array.size_modify]; omega
          have hx := ((OwnTs.toB HT1.out).wide (show f k ≤ u0.heap.size by omega) (Nat.le_refl _)).keep (fun b _ _ hb => KT.out b hb)
          have hns := (HN1.out.keepTI KT.out).snoc (op := op) (by have := Hvl.out; omega) hx (by omega)
          have HN4 := qh hns
          have HM4 := qh (own_keepTI HM1.out (.inl rfl) KT.out)
          clear hx hns KT K3 HB3 HP3 HZ3 HC3 HU3 f3 q3
          ((try dsimp only); refine nxK hK _ _ (hS.out _ HB4.out HP4.out) ?_; clear hK K; (try simp only [Act.put,pS,pZ,pC]))
          generalize u3.setCell ⟨g3, 1, none⟩ (.slice A8 (k + 1) c8) = u4 at HB4 HP4 HZ4 HC4 HU4 sz4 HN4 HM4 ⊢
          refine wpMix_nil ?_
          go_wp2_with fail
          go_roundw
          case measure => simp [intOf]; omega
          case rel => exact ⟨k + 1, A8, c8, _, _, _, by go_num, by omega, HB4.out, HP4.out, HZ4.out, HC4.out, HM4.out, HU4.out, by rw [Hs.out]; exact HN4.out, by show md ≤ (if 0 = k + 1 then _ else f 0); rw [if_neg (by omega)]; omega, by show (if k + 1 = k + 1 then u1.heap.size else _) ≤ _; rw [if_pos rfl]; exact sz4⟩
        · have HB2 := qh (HB1.out.alloc (by omega) (.cells #[.bool op, .slice At m1 ct] 32))
          have HP2 := qh (HP1.out.alloc (.cells #[.bool op, .slice At m1 ct] 32))
          have HZ2 := qh (HZ1.out.alloc (.cells #[.bool op, .slice At m1 ct] 32))
          have HC2 := qh (HC1.out.alloc (.cells #[.bool op, .slice At m1 ct] 32))
          have HU2 := qh (own_alloc HU1.out (.cells #[.bool op, .slice At m1 ct] 32))
          have X2 := qh (lit2 u1 32 (.bool op) (.slice At m1 ct))
          have K2 := qh (KeepTI.up (alloc_up u1 (.cells #[.bool op, .slice At m1 ct] 32)))
          have lu2 : u1.heap.size ≤ (u1.alloc (.cells #[.bool op, .slice At m1 ct] 32)).heap.size := by rw [World.size_alloc]; omega
          go_simp
          ((try dsimp only); refine nxK hK _ _ (hS.out _ HB2.out HP2.out) ?_; clear hK K; (try simp only [Act.put,pS,pZ,pC]))
          generalize hgx : u1.heap.size = gx at X2 ⊢
          rw [hgx] at lu1 lu2
          generalize u1.alloc (.cells #[.bool op, .slice At m1 ct] 32) = u2 at HB2 HP2 HZ2 HC2 HU2 X2 K2 lu2 ⊢
          have q1 := (HC2.out).cell 1
          simp only [gT, gZ, gS] at q1
          (refine mxB (by rfl) (fun K hK => ?_); go_simp)
          clear q1
          ((try dsimp only); refine nxK hK _ _ (hS.out _ HB2.out HP2.out) ?_; clear hK K; (try simp only [Act.put,pS,pZ,pC]))
          refine mxB (by rfl) (fun K hK => ?_)
          rw [if_pos (by rfl)]
          refine wp_append_src _ _ _ 24 (by rfl) md 32 ui0 _ 2 32 Tryz.underlying24 hu0 huz0 huz1 huz2 rfl (by omega) (.slice A6 k c6) k vs (by rfl) HU2.out (some ⟨gx, 0, none⟩) 1 1 [.bool op, .slice At m1 ct] (by rfl) X2.out (one2 _ _ rfl rfl) (by unfold maxLen; omega) (by omega) (by omega) ?_
          intro v6 u3 hown6 hgrow6 hrow6
          obtain ⟨A8, c8, rfl⟩ := own_shape hown6
          have HB3 := qh (HB2.out.grown hgrow6 (by omega) (fun r e => by have := (HU2.out.lt r e).1; omega))
          have HP3 := qh (HP2.out.grown hgrow6 (fun e => own_blk_ne HU2.out HP2.out (by decide) e.symm))
          have HZ3 := qh (HZ2.out.grown hgrow6 (fun e => own_blk_ne HU2.out HZ2.out (by decide) e.symm))
          have HC3 := qh (HC2.out.grown hgrow6 (fun e => own_blk_ne HU2.out HC2.out (by decide) e.symm))
          have K3 := qh (K2.out.trans (KeepTI.grown HU2.out hgrow6 (by decide) (by decide)))
          have HU3 := qh hown6
          have lu3 := hgrow6.size
          have f3 := HC3.out.frozen 1
          have q3 := HC3.out.cell 1
          simp only [gT, gZ, gS] at q3
          clear hown6 hgrow6 hrow6 HB2 HP2 HZ2 HC2 HU2 X2 K2
          ((try dsimp only); refine nxK hK _ _ (hS.out _ HB3.out HP3.out) ?_; clear hK K; (try simp only [Act.put,pS,pZ,pC]))
          repeat ((first | refine mxS (by rfl) (by rfl) ?_ | (refine mxT (v := ?_) (by rfl) (by rfl) (fun z y => ?_) ?_; rotate_left; (focus ((try dsimp only at y); (go_simp <;> with_reducible rfl); done)))); (try simp only [Act.put,pS,pZ,pC]))
          (refine mxB (by rfl) (fun K hK => ?_); go_simp)
          have KT := qh (K3.out.trans (KeepTI.set_ HC3.out (by decide) (by decide) 1 (.slice A8 (k + 1) c8)))
          have HB4 := qh (HB3.out.setCell (p := ⟨g3, 1, none⟩) (by show w.heap.size ≤ g3; omega) (.slice A8 (k + 1) c8))
          have HP4 := qh (HP3.out.far (p := ⟨g3, 1, none⟩) (by show w.heap.size ≠ g3; omega) (.slice A8 (k + 1) c8))
          have HZ4 := qh (HZ3.out.far (p := ⟨g3, 1, none⟩) (by show w.heap.size + 1 ≠ g3; omega) (.slice A8 (k + 1) c8))
          have HC4 := qh (show Blk (u3.setCell ⟨g3, 1, none⟩ (.slice A8 (k + 1) c8)) g3 26 #[.slice A4 n1 c4, .slice A8 (k + 1) c8] from HC3.out.set_ 1 (.slice A8 (k + 1) c8))
          have HU4 := qh (own_keep HU3.out (w' := u3.setCell ⟨g3, 1, none⟩ (.slice A8 (k + 1) c8)) (fun b hb => Below.heap_setCell _ _ _ _ (fun e => own_blk_ne HU3.out HC3.out (by decide) (by rw [hb, e]))))
          have sz4 : u1.heap.size ≤ (u3.setCell ⟨g3, 1, none⟩ (.slice A8 (k + 1) c8)).heap.size := by simp only [World.setCell, Array.size_modify]; omega
          have hx := ((OwnTs.toB HT1.out).wide (show f k ≤ u0.heap.size by omega) (Nat.le_refl _)).keep (fun b _ _ hb => KT.out b hb)
          have hns := (HN1.out.keepTI KT.out).snoc (op := op) (by have := Hvl.out; omega) hx (by omega)
          have HN4 := qh hns
          have HM4 := qh (own_keepTI HM1.out (.inl rfl) KT.out)
          clear hx hns KT K3 HB3 HP3 HZ3 HC3 HU3 f3 q3
          ((try dsimp only); refine nxK hK _ _ (hS.out _ HB4.out HP4.out) ?_; clear hK K; (try simp only [Act.put,pS,pZ,pC]))
          generalize u3.setCell ⟨g3, 1, none⟩ (.slice A8 (k + 1) c8) = u4 at HB4 HP4 HZ4 HC4 HU4 sz4 HN4 HM4 ⊢
          refine wpMix_nil ?_
          go_wp2_with fail
          go_roundw
          case measure => simp [intOf]; omega
          case rel => exact ⟨k + 1, A8, c8, _, _, _, by go_num, by omega, HB4.out, HP4.out, HZ4.out, HC4.out, HM4.out, HU4.out, by rw [Hs.out]; exact HN4.out, by show md ≤ (if 0 = k + 1 then _ else f 0); rw [if_neg (by omega)]; omega, by show (if k + 1 = k + 1 then u1.heap.size else _) ≤ _; rw [if_pos rfl]; exact sz4⟩
    · obtain rfl : k = n2 := by omega
      have Hb := qh hbel
      have Hz := qh hzb
      have Hc := qh hcl
      have Hm := qh hrm
      have Hu := qh hun
      have Hn := qh hnd
      have Hmd := qh hmd
      have y1 := hblk.cell 1
      have q0 := hcl.cell 0
      have q1 := hcl.cell 1
      have x0 := hzb.cell 0
      have x1 := hzb.cell 1
      simp only [gT, gZ, gS] at y1 q0 q1 x0 x1
      have x2 := hzb.frozen 0
      have x3 := hzb.frozen 1
      clear hbel hblk hzb hcl hrm hun hnd hmd
      go_wp2_with fail
      have KT := qh ((KeepTI.set_ Hz.out (by decide) (by decide) 0 (.slice A4 n1 c4)).trans (KeepTI.set_ (Hz.out.set_ 0 (.slice A4 n1 c4)) (by decide) (by decide) 1 (.slice A6 k c6)))
      have EQ := qh ((Hz.out.set_ 0 (.slice A4 n1 c4)).set_ 1 (.slice A6 k c6))
      have U9 := qh (own_keep Hu.out (w' := (wr.setCell ⟨w.heap.size + 1, 0, none⟩ (.slice A4 n1 c4)).setCell ⟨w.heap.size + 1, 1, none⟩ (.slice A6 k c6)) (fun b hb => have hbb : b ≠ w.heap.size + 1 := fun e => own_blk_ne Hu.out Hz.out (by decide) (by rw [hb, e])
        (Below.heap_setCell _ _ _ b hbb).trans (Below.heap_setCell _ _ _ b hbb)))
      have B9 := qh ((Hb.out.setCell (p := ⟨w.heap.size + 1, 0, none⟩) (by simp) (.slice A4 n1 c4)).setCell (p := ⟨w.heap.size + 1, 1, none⟩) (by simp) (.slice A6 k c6))
      generalize (wr.setCell ⟨w.heap.size + 1, 0, none⟩ (.slice A4 n1 c4)).setCell ⟨w.heap.size + 1, 1, none⟩ (.slice A6 k c6) = w9 at KT EQ U9 B9 ⊢
      have z0 : w9.cell? ⟨w.heap.size + 1, 0, none⟩ = some (.slice A4 n1 c4) := EQ.out.cell 0
      have z1 : w9.cell? ⟨w.heap.size + 1, 1, none⟩ = some (.slice A6 k c6) := EQ.out.cell 1
      have hus : us.take k = us := List.take_of_length_le (by rw [hl.out]; exact Nat.le_refl _)
      have Hn9 := Hn.out.keepTI KT.out
      rw [hus] at Hn9
      refine bodyPost_ret (v := .agg #[.slice A4 n1 c4, .slice A6 k c6]) (by simp [results, Tryz.results68, go_sem, z0, z1]) rfl ⟨A4, c4, A6, c6, rfl, ⟨own_keepTI Hm.out (.inl rfl) KT.out, md, Lo.out, lz4, vs, tk, f, U9.out, Hn9, Hmd.out⟩, B9.out⟩
end Go.Proofs.YtlcgbnmmbheleaaGreat
