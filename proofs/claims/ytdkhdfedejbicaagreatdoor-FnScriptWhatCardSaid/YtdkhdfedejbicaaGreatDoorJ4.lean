/- Several texts in one. -/
import Derived.Test.YtdkhdfedejbicaaGreatDoorJ3
import Derived.Laws.OwnMore
namespace Go.Proofs.YtdkhdfedejbicaaGreatDoor
open Go Go.RowKit
attribute [local go_sem ↓] Go.wp_at_zero Go.wp_at_succ

theorem srcOfI {w : World} {B n : Nat} {A : Option Addr} {xs : List Int} (h : RdI w B A n xs) : Src w 1 A n (xs.map (Value.int .i64)) := by
  refine ⟨by simp [h.len], fun hp => ?_⟩
  obtain ⟨b, o, e, _, hc⟩ := h.2.2 hp
  refine ⟨_, e, fun j u hu => ?_⟩
  have hj : j < xs.length := by
    rcases Nat.lt_or_ge j xs.length with h1 | h1
    · exact h1
    · rw [List.getElem?_eq_none (by simpa using h1)] at hu; cases hu
  rw [List.getElem?_map, List.getElem?_eq_getElem hj] at hu
  injection hu with hu
  rw [addr_add, hc j (by have := h.len; omega), List.getElem?_eq_getElem hj, ← hu]
  rfl
theorem ints_cell1 (xs : List Int) : ∀ u ∈ xs.map (Value.int .i64), u.oneCell' = true := by
  intro u hu
  obtain ⟨x, _, rfl⟩ := List.mem_map.1 hu
  rfl
theorem ownI_info : (Tryz.prog.info? 3).map (fun i => (i.zero, i.size, i.bytes)) = some (some (.int .i64 0), 1, 8) := by kernel_rfl
theorem upNew (w : World) (o : Obj) : Below w.heap.size w (w.alloc o) := (Below.refl _ _).alloc (Nat.le_refl _) _
set_option maxRecDepth 100000 in
set_option maxHeartbeats 800000 in
theorem clone_any (A : Option Addr) (n c : Nat) (xs : List Int) (w : World) (h : RdI w w.heap.size A n xs) (hn : n ≤ 1048576) :
    Calls Tryz.prog 36 #[.slice A n c] w fun e w' => ∃ A' c', e = .returned (.slice A' n c') ∧ w'.ownsRow w.heap.size 3 1 (.slice A' n c') n (xs.map (Value.int .i64)) ∧ Below w.heap.size w w' := by
  obtain ⟨i0, hi0, hz0, hz1, hz2⟩ := info_parts ownI_info
  have H := qh h
  clear h
  cases A with
  | none =>
    have hn0 : n = 0 := by
      rcases Nat.eq_zero_or_pos n with h0 | h0
      · exact h0
      · obtain ⟨b, o, e, _⟩ := H.out.2.2 h0
        cases e
    subst hn0
    have hx : xs = [] := List.eq_nil_of_length_eq_zero H.out.len
    have Hx := qh hx
    clear hx
    have hnil := fun w : World => Lib.run_eql_slice_nil (P := Tryz.prog) w 32 3 none 0 c 0 0 Tryz.underlying32
    go_enter Tryz.func36, Tryz.ntmps36
    go_wp2
    go_ret
    exact ⟨none, 0, rfl, by rw [Hx.out]; exact ⟨rfl, .inl ⟨rfl, rfl⟩⟩, Below.refl _ _⟩
  | some a =>
    have Ho := qh (show (w.alloc (.cells #[] 3)).ownsRow w.heap.size 3 1 (.slice (some ⟨w.heap.size, 0, none⟩) 0 0) 0 [] from World.ownsRow_made w #[] 0 (Nat.le_refl _) (by unfold maxLen; omega) rfl)
    have Hs := qh (srcOfI (H.out.up (upNew w (.cells #[] 3))))
    have H1 := qh (ints_cell1 xs)
    have lz : w.heap.size ≤ (w.alloc (.cells #[] 3)).heap.size := by simp
    have hnil := fun w : World => Lib.run_eql_slice_nil (P := Tryz.prog) w 32 3 (some a) n c 0 0 Tryz.underlying32
    go_enter Tryz.func36, Tryz.ntmps36
    go_wp2_with (at_builtin; refine wpList_append_src _ rfl _ _ 32 rfl w.heap.size 3 i0 _ 1 8 Tryz.underlying32 hi0 hz0 hz1 hz2 rfl (by omega) (.slice (some ⟨w.heap.size, 0, none⟩) 0 0) 0 [] rfl Ho.out (some a) n c (xs.map (Value.int .i64)) rfl Hs.out H1.out (by unfold maxLen; omega) (by omega) lz ?_; intro v' w1 hown1 hgrow hat)
    rw [Nat.zero_add, List.nil_append] at hown1
    obtain ⟨A1, c1, rfl⟩ := own_shape hown1
    have Hown1 := qh hown1
    have HB := qh ((upNew w (.cells #[] 3)).grown hgrow lz (fun j e => (Ho.out.lt j e).1))
    clear hown1 hgrow hat
    go_wp2
    go_ret
    exact ⟨A1, c1, rfl, Hown1.out, HB.out⟩



end Go.Proofs.YtdkhdfedejbicaaGreatDoor

namespace Go.Proofs.YtdkhdfedejbicaaGreatDoor
open Go Go.RowKit
attribute [local go_sem ↓] Go.wp_at_zero Go.wp_at_succ

def NdTs (w : World) (base n : Nat) (vs : List Value) (nd : Nat → Value) (ts : List Tk) : Prop :=
  ts.length = n ∧ (∀ j, j < n → vs[j * 2]? = some (.int .i64 (ts[j]?.getD (0, [])).1) ∧ vs[j * 2 + 1]? = some (nd j) ∧ ∃ A m c, nd j = .slice A m c ∧ w.ownsRow base 3 1 (.slice A m c) m ((ts[j]?.getD (0, [])).2.map (Value.int .i64))) ∧
  (∀ i j, i < n → j < n → i ≠ j → ∀ b, (nd i).ownBlock = some b → (nd j).ownBlock ≠ some b)
def OwnTs (w : World) (base : Nat) (v : Value) (n : Nat) (ts : List Tk) : Prop := ∃ vs nd, w.ownsRow base 75 2 v n vs ∧ NdTs w base n vs nd ts

theorem own_types {w : World} {base base' s s' n n' b : Nat} {t t' : TypeId} {u v : Value} {xs ys : List Value} (h : w.ownsRow base t s u n xs) (h' : w.ownsRow base' t' s' v n' ys) (ht : t ≠ t') (hb : u.ownBlock = some b) : v.ownBlock ≠ some b := by
  intro hb'
  rcases h.2 with ⟨rfl, _⟩ | ⟨g, _, _, rfl, _, hg, _⟩
  · cases hb
  · rcases h'.2 with ⟨rfl, _⟩ | ⟨g', _, _, rfl, _, hg', _⟩
    · cases hb'
    · simp [Value.ownBlock] at hb hb'
      subst hb hb'
      rw [hg] at hg'
      injection hg' with e
      injection e with _ e
      exact ht e
section
variable {w w' : World} {base base' n : Nat} {v : Value} {vs : List Value} {nd : Nat → Value} {ts : List Tk}
theorem NdTs.keep (h : NdTs w base n vs nd ts) (hk : ∀ b, base ≤ b → b < w.heap.size → w'.heap[b]? = w.heap[b]?) : NdTs w' base n vs nd ts :=
  ⟨h.1, fun j hj => by
    obtain ⟨h1, h2, A, m, c, h3, h4⟩ := h.2.1 j hj
    exact ⟨h1, h2, A, m, c, h3, own_keep h4 (fun b hb => hk b (h4.lt b hb).1 (h4.lt b hb).2)⟩, h.2.2⟩
theorem OwnTs.keep (h : OwnTs w base v n ts) (hk : ∀ b, base ≤ b → b < w.heap.size → w'.heap[b]? = w.heap[b]?) : OwnTs w' base v n ts := by
  obtain ⟨vs, nd, h1, h2⟩ := h
  exact ⟨vs, nd, own_keep h1 (fun b hb => hk b (h1.lt b hb).1 (h1.lt b hb).2), h2.keep hk⟩
theorem OwnTs.below (h : OwnTs w base v n ts) (hb : Below w.heap.size w w') : OwnTs w' base v n ts := h.keep (fun b _ hlt => hb.block b hlt)
theorem NdTs.grown {row : Value} {m : Nat} {xs : List Value} (h : NdTs w base n vs nd ts) (ho : w.ownsRow base' 75 2 row m xs) (hg : w.grownBy w' row.ownBlock) : NdTs w' base n vs nd ts :=
  ⟨h.1, fun j hj => by
    obtain ⟨h1, h2, A, m, c, h3, h4⟩ := h.2.1 j hj
    exact ⟨h1, h2, A, m, c, h3, own_keep h4 (fun b hb => hg.block b (h4.lt b hb).2 (fun e => own_types ho h4 (by decide) e.symm hb))⟩, h.2.2⟩
theorem NdTs.nil : NdTs w base 0 [] (fun _ => .slice none 0 0) [] := ⟨rfl, fun j hj => by omega, fun i j hi => by omega⟩
theorem NdTs.snoc {w0 : World} {A : Option Addr} {m c : Nat} {id : Int} {xs : List Int} (h : NdTs w base n vs nd ts) (hl : vs.length = n * 2) (hold : ∀ j, j < n → ∀ b, (nd j).ownBlock = some b → b < w0.heap.size) (hx : w.ownsRow w0.heap.size 3 1 (.slice A m c) m (xs.map (Value.int .i64))) (hb : base ≤ w0.heap.size) :
    NdTs w base (n + 1) (vs ++ [.int .i64 id, .slice A m c]) (fun j => if j = n then .slice A m c else nd j) (ts ++ [(id, xs)]) := by
  have hts := h.1
  refine ⟨by simp [hts], fun j hj => ?_, fun i j hi hj hij b hb1 hb2 => ?_⟩
  · by_cases e : j = n
    · subst e
      dsimp only
      have g1 : (vs ++ [.int .i64 id, .slice A m c])[j * 2]? = some (.int .i64 id) := by rw [List.getElem?_append_right (by omega), hl, Nat.sub_self]; rfl
      have g2 : (vs ++ [.int .i64 id, .slice A m c])[j * 2 + 1]? = some (.slice A m c) := by rw [List.getElem?_append_right (by omega), hl, show j * 2 + 1 - j * 2 = 1 by omega]; rfl
      have g3 : (ts ++ [(id, xs)])[j]? = some (id, xs) := by rw [List.getElem?_append_right (by omega), hts, Nat.sub_self]; rfl
      rw [if_pos rfl, g1, g2, g3]
      refine ⟨rfl, rfl, A, m, c, rfl, ?_⟩
      exact ⟨hx.1, hx.2.imp (fun h => h) (fun ⟨g, cap, cur, a, b, c⟩ => ⟨g, cap, cur, a, by omega, c⟩)⟩
    · obtain ⟨h1, h2, A', m', c', h3, h4⟩ := h.2.1 j (by omega)
      dsimp only
      rw [if_neg e, List.getElem?_append_left (by omega), List.getElem?_append_left (by omega), List.getElem?_append_left (by omega)]
      exact ⟨h1, h2, A', m', c', h3, h4⟩
  · dsimp only at hb1 hb2
    by_cases ei : i = n
    · have ej : j ≠ n := fun e => hij (by omega)
      rw [if_pos ei] at hb1
      rw [if_neg ej] at hb2
      have := hold j (by omega) b hb2
      have := (hx.lt b hb1).1
      omega
    · rw [if_neg ei] at hb1
      by_cases ej : j = n
      · rw [if_pos ej] at hb2
        have := hold i (by omega) b hb1
        have := (hx.lt b hb2).1
        omega
      · rw [if_neg ej] at hb2
        exact h.2.2 i j (by omega) (by omega) hij b hb1 hb2
theorem NdTs.old (h : NdTs w base n vs nd ts) : ∀ j, j < n → ∀ b, (nd j).ownBlock = some b → b < w.heap.size := fun j hj b hb => by
  obtain ⟨_, _, A, m, c, h3, h4⟩ := h.2.1 j hj
  rw [h3] at hb
  exact (h4.lt b hb).2
theorem own_cap' {w : World} {base : Nat} {e : TypeId} {size : Nat} {A : Option Addr} {n c : Nat} {xs : List Value} (h : w.ownsRow base e size (.slice A n c) n xs) : n ≤ c := by
  rcases h.2 with ⟨e, h0⟩ | ⟨g, cap, cur, e, _, _, hc, _⟩
  · omega
  · injection e with _ _ e3; omega
theorem OwnTs.rd {A : Option Addr} {c : Nat} (h : OwnTs w base (.slice A n c) n ts) (hn : n ≤ 9223372036854775807) (hm : ∀ t ∈ ts, t.2.length ≤ 9223372036854775807) : RdT w w.heap.size A n ts := by
  obtain ⟨vs, nd, h1, h2⟩ := h
  refine RdT.of_own h1 (B := w.heap.size) ⟨by rw [h1.1, h2.1], fun j hj => ?_⟩ (Nat.le_refl _) hn
  obtain ⟨e1, e2, A', m', c', e3, e4⟩ := h2.2.1 j (by rw [← h2.1]; exact hj)
  have hl : (ts[j]?.getD (0, [])).2.length = m' := by have := e4.1; simpa using this
  refine ⟨A', m', c', e1, by rw [e2, e3], own_cap' e4, RdI.of_own e4 ?_⟩
  rw [← hl, List.getElem?_eq_getElem hj]
  exact hm _ (List.getElem_mem hj)
end
end Go.Proofs.YtdkhdfedejbicaaGreatDoor

namespace Go.Proofs.YtdkhdfedejbicaaGreatDoor
open Go Go.RowKit
attribute [local go_sem ↓] Go.wp_at_zero Go.wp_at_succ

theorem take_tk {ts : List Tk} {k : Nat} (h : k < ts.length) : ts.take (k + 1) = ts.take k ++ [((ts[k]?.getD (0, [])).1, (ts[k]?.getD (0, [])).2)] := by
  rw [List.take_succ_eq_append_getElem h, List.getElem?_eq_getElem h]; rfl

set_option maxRecDepth 100000 in
set_option maxHeartbeats 1600000 in
theorem l2Copy_any (A : Option Addr) (n c : Nat) (ts : List Tk) (w : World) (h : RdT w w.heap.size A n ts) (hz : n ≤ 1048576) (hm : ∀ j, j < n → (ts[j]?.getD (0, [])).2.length ≤ 1048576) :
    Calls Tryz.prog 114 #[.slice A n c] w fun e w' => ∃ A' c', e = .returned (.slice A' n c') ∧ OwnTs w' w.heap.size (.slice A' n c') n ts ∧ Below w.heap.size w w' := by
  obtain ⟨i0, hi0, hz0, hz1, hz2⟩ := info_parts task_info
  obtain ⟨j0, hj0, jz0, jz1, jz2⟩ := info_parts ownI_info
  have hl := qh h.len
  have H := qh h
  have Hm := qh hm
  clear h hm
  have O0 := qh (show (w.alloc (.cells #[] 75)).ownsRow w.heap.size 75 2 (.slice (some ⟨w.heap.size, 0, none⟩) 0 0) 0 [] from World.ownsRow_made w #[] 0 (Nat.le_refl _) (by unfold maxLen; omega) rfl)
  have B0 := qh (upNew w (.cells #[] 75))
  go_enter Tryz.func114, Tryz.ntmps114
  go_wp2_with fail
  go_loopw [3, 4] (fun v i wr => ∃ (k : Nat) (A0 : Option Addr) (c0 : Nat) (vs : List Value) (nd : Nat → Value), i = .int .i64 k ∧ k ≤ n ∧ v = .slice A0 k c0 ∧ Below w.heap.size w wr ∧
    wr.ownsRow w.heap.size 75 2 (.slice A0 k c0) k vs ∧ NdTs wr w.heap.size k vs nd (ts.take k)) (fun _ i _ => n - (intOf i).toNat)
  case atStart => exact ⟨0, _, _, [], _, rfl, Nat.zero_le _, rfl, B0.out, O0.out, NdTs.nil⟩
  case round =>
    clear O0 B0
    obtain ⟨k, A0, c0, vs, nd, rfl, hk, rfl, hbel, hown, hnd⟩ := hrel
    by_cases hlt : k < n
    · obtain ⟨b1, o1, A3, m3, c3, rfl, lb1, hc1, hc3, hle3, hr3⟩ := (H.out.below hbel).at_ hlt
      have lm3 : m3 ≤ 1048576 := by rw [← hr3.len]; exact Hm.out k hlt
      have kk1 : (0 : Int) ≤ (k : Int) := by omega
      have kk2 : (k : Int) < (n : Int) := by omega
      have keepS := qh (show ∀ W, Below w.heap.size w W → W.cell? ⟨b1, o1 + k * 2, none⟩ = some (.int .i64 (ts[k]?.getD (0, [])).1) ∧ W.cell? ⟨b1, o1 + k * 2 + 1, none⟩ = some (.slice A3 m3 c3) from
        fun W hW => ⟨(hW.cell lb1).trans ((hbel.cell lb1).symm.trans hc1), (hW.cell lb1).trans ((hbel.cell lb1).symm.trans hc3)⟩)
      have HB0 := qh hbel.drew
      have Hown := qh (own_keep hown (w' := wr.drew) (fun b hb => rfl))
      have Hnd := qh (hnd.keep (w' := wr.drew) (fun b _ _ => rfl))
      have K0 := keepS.out _ HB0.out
      have Hr3 := qh (hr3.below (w' := wr.drew) (Below.refl _ _).drew)
      clear hown hnd hr3 hc1 hc3 hbel
      go_wp2_with fail
      refine wp_region_mix (.take 0 (.take 1 (.take 2 (.take 3 (.take 4 (.take 5 (.take 7 (.take 8 (.take 9 (.take 10 (.take 11 (.bar 6 (.bar 12 (.take 13 (.bar 14 (.bar 15 (.take 16 .nil))))))))))))))))) (fun w' => w'.cell? ⟨b1, o1 + k * 2, none⟩ = some (.int .i64 (ts[k]?.getD (0, [])).1) ∧ w'.cell? ⟨b1, o1 + k * 2 + 1, none⟩ = some (.slice A3 m3 c3)) (by kernel_rfl) (by kernel_rfl) K0 (fun _ => ?_)
      clear K0
      repeat ((first | refine mxS (by rfl) (by rfl) ?_ | (refine mxT (v := ?_) (by rfl) (by rfl) (fun z y => ?_) ?_; rotate_left; (focus ((try dsimp only at y); (go_simp <;> with_reducible rfl); done)))); (try simp only [Act.put,pS,pZ,pC]))
      generalize wr.drew = u0 at HB0 Hown Hnd Hr3 ⊢
      (refine mxB (by rfl) (fun K hK => ?_); go_simp)
      have lu := HB0.out.size
      have HB1 := qh (HB0.out.alloc lu (.cells #[] 3))
      have HE := qh (show (u0.alloc (.cells #[] 3)).ownsRow u0.heap.size 3 1 (.slice (some ⟨u0.heap.size, 0, none⟩) 0 0) 0 [] from World.ownsRow_made u0 #[] 0 (Nat.le_refl _) (by unfold maxLen; omega) rfl)
      have Hs1 := qh (srcOfI (Hr3.out.below ((Below.refl w.heap.size u0).alloc lu (.cells #[] 3))))
      have lz1 : u0.heap.size ≤ (u0.alloc (.cells #[] 3)).heap.size := by rw [World.size_alloc]; omega
      ((try dsimp only); refine nxK hK _ _ (keepS.out _ HB1.out) ?_; clear hK K; (try simp only [Act.put,pS,pZ,pC]))
      refine mxB (by rfl) (fun K hK => ?_)
      rw [if_pos (by rfl)]
      refine wp_append_src _ _ _ 32 (by rfl) u0.heap.size 3 j0 _ 1 8 Tryz.underlying32 hj0 jz0 jz1 jz2 rfl (by omega) (.slice (some ⟨u0.heap.size, 0, none⟩) 0 0) 0 [] (by rfl) HE.out A3 m3 c3 _ (by rfl) Hs1.out (ints_cell1 _) (by unfold maxLen; omega) (by omega) lz1 ?_
      intro v6 w6 hown6 hgrow6 hrow6
      rw [Nat.zero_add, List.nil_append] at hown6
      obtain ⟨A6, c6, rfl⟩ := own_shape hown6
      have hk6 : ∀ b, b < u0.heap.size → w6.heap[b]? = u0.heap[b]? := fun b hb => (hgrow6.block b (by rw [World.size_alloc]; omega) (fun e => by have := (HE.out.lt b e.symm).1; omega)).trans (Below.heap_alloc _ _ _ hb)
      have Hx6 := qh hown6
      have Ho6 := qh (own_keep Hown.out (w' := w6) (fun b hb => hk6 b (Hown.out.lt b hb).2))
      have Hn6 := qh (Hnd.out.keep (w' := w6) (fun b _ hb => hk6 b hb))
      have HB6 := qh (HB1.out.grown hgrow6 HB1.out.size (fun j e => by have := (HE.out.lt j e).1; omega))
      clear hown6 hgrow6 hrow6 hk6 HE Hs1 HB1 Hr3 lz1
      ((try dsimp only); refine nxK hK _ _ (keepS.out _ HB6.out) ?_; clear hK K; (try simp only [Act.put,pS,pZ,pC]))
      repeat ((first | refine mxS (by rfl) (by rfl) ?_ | (refine mxT (v := ?_) (by rfl) (by rfl) (fun z y => ?_) ?_; rotate_left; (focus ((try dsimp only at y); (go_simp <;> with_reducible rfl); done)))); (try simp only [Act.put,pS,pZ,pC]))
      (refine mxB (by rfl) (fun K hK => ?_); go_simp)
      have HB7 := qh (HB6.out.alloc HB6.out.size (.cells #[.int .i64 (ts[k]?.getD (0, [])).1, .slice A6 m3 c6] 75))
      have Ho7 := qh (own_keep Ho6.out (w' := w6.alloc (.cells #[.int .i64 (ts[k]?.getD (0, [])).1, .slice A6 m3 c6] 75)) (fun b hb => Below.heap_alloc _ _ _ (Ho6.out.lt b hb).2))
      have Hx7 := qh (own_keep Hx6.out (w' := w6.alloc (.cells #[.int .i64 (ts[k]?.getD (0, [])).1, .slice A6 m3 c6] 75)) (fun b hb => Below.heap_alloc _ _ _ (Hx6.out.lt b hb).2))
      have Hn7 := qh ((Hn6.out.keep (w' := w6.alloc (.cells #[.int .i64 (ts[k]?.getD (0, [])).1, .slice A6 m3 c6] 75)) (fun b _ hlt => Below.heap_alloc _ _ _ hlt)).snoc (w0 := u0) (id := (ts[k]?.getD (0, [])).1) Ho6.out.1 Hnd.out.old Hx7.out lu)
      have Hs7 := qh (own_src (own_built (w := w6) (base := 0) 75 (.int .i64 (ts[k]?.getD (0, [])).1) (.slice A6 m3 c6) (by omega)))
      ((try dsimp only); refine nxK hK _ _ (keepS.out _ HB7.out) ?_; clear hK K; (try simp only [Act.put,pS,pZ,pC]))
      refine mxB (by rfl) (fun K hK => ?_)
      rw [if_pos (by rfl)]
      refine wp_append_src _ _ _ 81 (by rfl) w.heap.size 75 i0 _ 2 32 Tryz.underlying81 hi0 hz0 hz1 hz2 rfl (by omega) (.slice A0 k c0) k vs (by rfl) Ho7.out (some ⟨w6.heap.size, 0, none⟩) 1 1 [.int .i64 (ts[k]?.getD (0, [])).1, .slice A6 m3 c6] (by rfl) Hs7.out (by simp [Value.oneCell']) (by unfold maxLen; omega) (by omega) HB7.out.size ?_
      intro v8 w8 hown8 hgrow8 hrow8
      obtain ⟨A8, c8, rfl⟩ := own_shape hown8
      have Hn8 := qh (Hn7.out.grown Ho7.out hgrow8)
      have HB8 := qh (HB7.out.grown hgrow8 HB7.out.size (fun j e => (Ho7.out.lt j e).1))
      have Ho8 := qh hown8
      clear hown8 hgrow8 hrow8 Hs7 Hn7 Hx7 Ho7 HB7 Hn6 Ho6 Hx6 HB6 Hown Hnd
      ((try dsimp only); refine nxK hK _ _ (keepS.out _ HB8.out) ?_; clear hK K; (try simp only [Act.put,pS,pZ,pC]))
      repeat ((first | refine mxS (by rfl) (by rfl) ?_ | (refine mxT (v := ?_) (by rfl) (by rfl) (fun z y => ?_) ?_; rotate_left; (focus ((try dsimp only at y); (go_simp <;> with_reducible rfl); done)))); (try simp only [Act.put,pS,pZ,pC]))
      refine wpMix_nil ?_
      go_wp2_with fail
      go_roundw
      case measure => simp [intOf]; omega
      case rel => exact ⟨k + 1, A8, c8, _, _, by go_num, by omega, rfl, HB8.out, Ho8.out, by rw [take_tk (by have := hl.out; omega)]; exact Hn8.out⟩
    · obtain rfl : k = n := by omega
      have Hown := qh hown
      have Hnd := qh hnd
      clear hown hnd
      go_wp2_with fail
      go_ret
      exact ⟨A0, c0, rfl, ⟨vs, nd, Hown.out, by have := Hnd.out; rwa [List.take_of_length_le (by have := hl.out; omega)] at this⟩, hbel⟩
end Go.Proofs.YtdkhdfedejbicaaGreatDoor

namespace Go.Proofs.YtdkhdfedejbicaaGreatDoor
open Go Go.RowKit

theorem own_rdI {w : World} {base : Nat} {t : TypeId} {A : Option Addr} {n c : Nat} {xs : List Int} (h : w.ownsRow base t 1 (.slice A n c) n (xs.map (Value.int .i64))) (hn : n ≤ 9223372036854775807) : RdI w w.heap.size A n xs := by
  have hl : xs.length = n := by have := h.1; simpa using this
  refine ⟨hl, hn, fun hp => ?_⟩
  obtain ⟨g, cap, hv, _, hlt⟩ := h.form hp
  have hA : A = some ⟨g, 0, none⟩ := by injection hv
  subst hA
  refine ⟨g, 0, rfl, hlt, fun j hj => ?_⟩
  have e1 := h.cells (g := g) rfl j (.int .i64 (xs[j]?.getD 0)) (by rw [List.getElem?_map, List.getElem?_eq_getElem (by omega)]; rfl)
  rwa [addr_add] at e1
theorem own_len {w : World} {base : Nat} {t : TypeId} {A : Option Addr} {n c : Nat} {xs : List Int} (h : w.ownsRow base t 1 (.slice A n c) n (xs.map (Value.int .i64))) : xs.length = n := by have := h.1; simpa using this
end Go.Proofs.YtdkhdfedejbicaaGreatDoor

namespace Go.Proofs.YtdkhdfedejbicaaGreatDoor

abbrev Un := Bool × List Tk
def clOk (room : List Int) (us : List Un) : Bool := decide (1 ≤ us.length ∧ us.length ≤ 10) && binsOk room (us.map (·.2)) && us.all (fun u => u.1 || u.2.isEmpty)

/-! ### The program's reading -/
/-! ### The reference's reading -/
/-! ### Both read what was written -/
theorem clOk_facts {room : List Int} {us : List Un} (h : clOk room us = true) : room.length = 3 ∧ 1 ≤ us.length ∧ us.length ≤ 10 ∧ (∀ u ∈ us, u.2.length ≤ 14 ∧ ∀ t ∈ u.2, t.2.length = 3) := by
  simp only [clOk, binsOk, tasksOk, Bool.and_eq_true, decide_eq_true_eq, List.all_eq_true] at h
  obtain ⟨⟨⟨h1, h2⟩, ⟨_, ⟨⟨⟨h3, h4⟩, h5⟩, h6⟩⟩, _⟩, _⟩ := h
  refine ⟨?_, h1, h2, fun u hu => ?_⟩
  · simp only [roomOk, Bool.and_eq_true] at h3
    exact vecOk_len h3.1
  · have hin : ∀ t ∈ u.2, t ∈ (us.map (·.2)).flatten := fun t ht => List.mem_flatten.2 ⟨u.2, List.mem_map.2 ⟨u, hu, rfl⟩, ht⟩
    refine ⟨?_, fun t ht => ?_⟩
    · have hs : u.2.length ≤ (us.map (·.2)).flatten.length := (List.sublist_flatten_of_mem (List.mem_map.2 ⟨u, hu, rfl⟩)).length_le
      omega
    · have := h5 t (hin t ht)
      simp only [taskOk, vecFits, Bool.and_eq_true] at this
      exact vecOk_len this.2.1.1

end Go.Proofs.YtdkhdfedejbicaaGreatDoor

namespace Go.Proofs.YtdkhdfedejbicaaGreatDoor
open Go Go.RowKit

def RdN (w : World) (B : Nat) (A : Option Addr) (n : Nat) (us : List Un) : Prop :=
  us.length = n ∧ n ≤ 9223372036854775807 ∧ (0 < n → ∃ b o, A = some ⟨b, o, none⟩ ∧ b < B ∧ ∀ j, j < n → ∃ A' m c,
    w.cell? ⟨b, o + j * 2, none⟩ = some (.bool (us[j]?.getD (false, [])).1) ∧ w.cell? ⟨b, o + j * 2 + 1, none⟩ = some (.slice A' m c) ∧ m ≤ c ∧
    RdT w B A' m (us[j]?.getD (false, [])).2)

section
variable {w w' : World} {B B' n k : Nat} {A : Option Addr} {us : List Un}
theorem RdN.len (h : RdN w B A n us) : us.length = n := h.1
theorem RdN.le (h : RdN w B A n us) : n ≤ 9223372036854775807 := h.2.1
theorem RdN.nil : RdN w B A 0 [] := ⟨rfl, by omega, fun h => absurd h (by omega)⟩
theorem RdN.at_ (h : RdN w B A n us) (hk : k < n) : ∃ b o A' m c, A = some ⟨b, o, none⟩ ∧ b < B ∧ w.cell? ⟨b, o + k * 2, none⟩ = some (.bool (us[k]?.getD (false, [])).1) ∧
    w.cell? ⟨b, o + k * 2 + 1, none⟩ = some (.slice A' m c) ∧ m ≤ c ∧ RdT w B A' m (us[k]?.getD (false, [])).2 := by
  obtain ⟨b, o, e, hb, hc⟩ := h.2.2 (by omega)
  obtain ⟨A', m, c, h1, h2, h3, h4⟩ := hc k hk
  exact ⟨b, o, A', m, c, e, hb, h1, h2, h3, h4⟩
theorem RdN.keep (h : RdN w B A n us) (hk : ∀ p : Addr, p.block < B → w'.cell? p = w.cell? p) (hB : B ≤ B') : RdN w' B' A n us :=
  ⟨h.1, h.2.1, fun hn => by
    obtain ⟨b, o, e, hb, hc⟩ := h.2.2 hn
    refine ⟨b, o, e, by omega, fun j hj => ?_⟩
    obtain ⟨A', m, c, h1, h2, h3, h4⟩ := hc j hj
    exact ⟨A', m, c, (hk ⟨b, o + j * 2, none⟩ hb).trans h1, (hk ⟨b, o + j * 2 + 1, none⟩ hb).trans h2, h3, h4.keep hk hB⟩⟩
theorem RdN.below (h : RdN w B A n us) (hb : Below B w w') : RdN w' B A n us := h.keep (fun _ hp => hb.cell hp) (Nat.le_refl _)
theorem RdN.more (h : RdN w B A n us) (hB : B ≤ B') : RdN w B' A n us := h.keep (fun _ _ => rfl) hB
theorem RdN.drewN (h : RdN w B A n us) (m : Nat) : RdN (w.drewN m) B A n us := h
theorem RdN.up (h : RdN w w.heap.size A n us) (hb : Below w.heap.size w w') : RdN w' w'.heap.size A n us := (h.below hb).more hb.size
end

def UnCells (w : World) (B : Nat) (vs : List Value) (us : List Un) : Prop :=
  vs.length = us.length * 2 ∧ ∀ j, j < us.length → ∃ A' m c, vs[j * 2]? = some (.bool (us[j]?.getD (false, [])).1) ∧ vs[j * 2 + 1]? = some (.slice A' m c) ∧ m ≤ c ∧ RdT w B A' m (us[j]?.getD (false, [])).2

section
variable {w w' : World} {B B' : Nat} {vs vs' : List Value} {us us' : List Un}
theorem UnCells.nil : UnCells w B [] [] := ⟨rfl, fun j hj => by simp at hj⟩
theorem UnCells.keep (h : UnCells w B vs us) (hk : ∀ p : Addr, p.block < B → w'.cell? p = w.cell? p) (hB : B ≤ B') : UnCells w' B' vs us :=
  ⟨h.1, fun j hj => by obtain ⟨A', m, c, h1, h2, h3, h4⟩ := h.2 j hj; exact ⟨A', m, c, h1, h2, h3, h4.keep hk hB⟩⟩
theorem UnCells.one {A' : Option Addr} {m c : Nat} {b : Bool} {ts : List Tk} (h : RdT w B A' m ts) (hc : m ≤ c) : UnCells w B [.bool b, .slice A' m c] [(b, ts)] :=
  ⟨rfl, fun j hj => by
    simp at hj; subst hj
    exact ⟨A', m, c, rfl, rfl, hc, h⟩⟩
theorem UnCells.append (h : UnCells w B vs us) (h' : UnCells w B vs' us') : UnCells w B (vs ++ vs') (us ++ us') := by
  refine ⟨by simp [h.1, h'.1]; omega, fun j hj => ?_⟩
  by_cases hl : j < us.length
  · obtain ⟨A', m, c, h1, h2, h3, h4⟩ := h.2 j hl
    refine ⟨A', m, c, ?_, ?_, h3, ?_⟩
    · rw [List.getElem?_append_left (by have := h.1; omega), List.getElem?_append_left hl]; exact h1
    · rw [List.getElem?_append_left (by have := h.1; omega)]; exact h2
    · rw [List.getElem?_append_left hl]; exact h4
  · obtain ⟨A', m, c, h1, h2, h3, h4⟩ := h'.2 (j - us.length) (by simp at hj; omega)
    refine ⟨A', m, c, ?_, ?_, h3, ?_⟩
    · rw [List.getElem?_append_right (by have := h.1; omega), List.getElem?_append_right (by omega), show j * 2 - vs.length = (j - us.length) * 2 from by have := h.1; omega]; exact h1
    · rw [List.getElem?_append_right (by have := h.1; omega), show j * 2 + 1 - vs.length = (j - us.length) * 2 + 1 from by have := h.1; omega]; exact h2
    · rw [List.getElem?_append_right (by omega)]; exact h4
theorem UnCells.ones (h : UnCells w B vs us) : ∀ u ∈ vs, u.oneCell' = true := by
  intro u hu
  obtain ⟨i, hi, rfl⟩ := List.getElem_of_mem hu
  obtain ⟨A', m, c, h1, h2, _⟩ := h.2 (i / 2) (by have := h.1; omega)
  rcases Nat.mod_two_eq_zero_or_one i with e | e
  · rw [show i / 2 * 2 = i from by omega, List.getElem?_eq_getElem hi] at h1
    injection h1 with h1; rw [h1]; rfl
  · rw [show i / 2 * 2 + 1 = i from by omega, List.getElem?_eq_getElem hi] at h2
    injection h2 with h2; rw [h2]; rfl
theorem RdN.of_own {base : Nat} {e : TypeId} {A : Option Addr} {n c : Nat} (h : w.ownsRow base e 2 (.slice A n c) n vs) (ht : UnCells w B vs us) (hB : B ≤ w.heap.size) (hn : n ≤ 9223372036854775807) : RdN w w.heap.size A n us := by
  have hl : us.length = n := by have := h.1; have := ht.1; omega
  refine ⟨hl, hn, fun hp => ?_⟩
  obtain ⟨g, cap, hv, _, hlt⟩ := h.form hp
  have hA : A = some ⟨g, 0, none⟩ := by injection hv
  subst hA
  refine ⟨g, 0, rfl, hlt, fun j hj => ?_⟩
  obtain ⟨A', m, c', h1, h2, h3, h4⟩ := ht.2 j (by omega)
  have e1 := h.cells (g := g) rfl _ _ h1
  have e2 := h.cells (g := g) rfl _ _ h2
  rw [addr_add] at e1 e2
  exact ⟨A', m, c', e1, e2, h3, h4.more hB⟩
end

/-! ### Units of the call's own -/
def OwnTsB (w : World) (lo hi : Nat) (v : Value) (n : Nat) (ts : List Tk) : Prop := ∃ vs nd, w.ownsRow lo 75 2 v n vs ∧ NdTs w lo n vs nd ts ∧ (∀ b, v.ownBlock = some b → b < hi) ∧ (∀ j, j < n → ∀ b, (nd j).ownBlock = some b → b < hi)
def NdUs (w : World) (n : Nat) (vs : List Value) (tk : Nat → Value) (f : Nat → Nat) (us : List Un) : Prop :=
  us.length = n ∧ (∀ j, j < n → f j ≤ f (j + 1) ∧ vs[j * 2]? = some (.bool (us[j]?.getD (false, [])).1) ∧ vs[j * 2 + 1]? = some (tk j) ∧
    ∃ A m c, tk j = .slice A m c ∧ OwnTsB w (f j) (f (j + 1)) (.slice A m c) m (us[j]?.getD (false, [])).2)
def OwnUs (w : World) (base : Nat) (v : Value) (n : Nat) (us : List Un) : Prop := ∃ vs tk f, w.ownsRow base 83 2 v n vs ∧ NdUs w n vs tk f us ∧ base ≤ f 0

theorem own_lo {w : World} {base base' s n : Nat} {t : TypeId} {v : Value} {xs : List Value} (h : w.ownsRow base t s v n xs) (hb : base' ≤ base) : w.ownsRow base' t s v n xs :=
  ⟨h.1, h.2.imp (fun h => h) (fun ⟨g, cap, cur, a, b, c⟩ => ⟨g, cap, cur, a, by omega, c⟩)⟩
section
variable {w w' : World} {lo lo' hi hi' base base' n : Nat} {v : Value} {vs : List Value} {tk : Nat → Value} {f : Nat → Nat} {ts : List Tk} {us : List Un}
theorem NdTs.down {nd : Nat → Value} (h : NdTs w base n vs nd ts) (hb : base' ≤ base) : NdTs w base' n vs nd ts :=
  ⟨h.1, fun j hj => by
    obtain ⟨h1, h2, A, m, c, h3, h4⟩ := h.2.1 j hj
    exact ⟨h1, h2, A, m, c, h3, own_lo h4 hb⟩, h.2.2⟩
theorem OwnTs.toB (h : OwnTs w base v n ts) : OwnTsB w base w.heap.size v n ts := by
  obtain ⟨vs, nd, h1, h2⟩ := h
  exact ⟨vs, nd, h1, h2, fun b hb => (h1.lt b hb).2, h2.old⟩
theorem OwnTsB.out (h : OwnTsB w lo hi v n ts) : OwnTs w lo v n ts := by
  obtain ⟨vs, nd, h1, h2, _⟩ := h
  exact ⟨vs, nd, h1, h2⟩
theorem own_keepB {s : Nat} {t : TypeId} {xs : List Value} (h : w.ownsRow base t s v n xs) (hk : ∀ b cs, v.ownBlock = some b → Blk w b t cs → w'.heap[b]? = w.heap[b]?) : w'.ownsRow base t s v n xs := by
  refine ⟨h.1, ?_⟩
  rcases h.2 with hn | ⟨g, cap, cur, rfl, hb, hgg, rest⟩
  · exact .inl hn
  · exact .inr ⟨g, cap, cur, rfl, hb, (hk g cur rfl hgg).trans hgg, rest⟩
def IsTI (w : World) (b : Nat) : Prop := ∃ t cs, (t = 3 ∨ t = 75) ∧ Blk w b t cs
theorem OwnTsB.keep (h : OwnTsB w lo hi v n ts) (hk : ∀ b, lo ≤ b → b < hi → IsTI w b → w'.heap[b]? = w.heap[b]?) : OwnTsB w' lo hi v n ts := by
  obtain ⟨vs, nd, h1, h2, h3, h4⟩ := h
  refine ⟨vs, nd, own_keepB h1 (fun b cs hb hc => hk b (h1.lt b hb).1 (h3 b hb) ⟨_, cs, .inr rfl, hc⟩), ⟨h2.1, fun j hj => ?_, h2.2.2⟩, h3, h4⟩
  obtain ⟨e1, e2, A, m, c, e3, e4⟩ := h2.2.1 j hj
  exact ⟨e1, e2, A, m, c, e3, own_keepB e4 (fun b cs hb hc => hk b (e4.lt b hb).1 (h4 j hj b (by rw [e3]; exact hb)) ⟨_, cs, .inl rfl, hc⟩)⟩
theorem OwnTsB.wide (h : OwnTsB w lo hi v n ts) (h1 : lo' ≤ lo) (h2 : hi ≤ hi') : OwnTsB w lo' hi' v n ts := by
  obtain ⟨vs, nd, e1, e2, e3, e4⟩ := h
  exact ⟨vs, nd, own_lo e1 h1, e2.down h1, fun b hb => by have := e3 b hb; omega, fun j hj b hb => by have := e4 j hj b hb; omega⟩

theorem NdUs.mono (h : NdUs w n vs tk f us) : ∀ i j, i ≤ j → j ≤ n → f i ≤ f j := by
  intro i j hij
  induction j with
  | zero => intro _; have : i = 0 := by omega
            subst this; exact Nat.le_refl _
  | succ j ih =>
    intro hjn
    by_cases e : i = j + 1
    · subst e; exact Nat.le_refl _
    · exact Nat.le_trans (ih (by omega) (by omega)) (h.2 j (by omega)).1
theorem NdUs.keep (h : NdUs w n vs tk f us) (hk : ∀ b, f 0 ≤ b → b < f n → IsTI w b → w'.heap[b]? = w.heap[b]?) : NdUs w' n vs tk f us := by
  refine ⟨h.1, fun j hj => ?_⟩
  obtain ⟨h0, h1, h2, A, m, c, h3, h4⟩ := h.2 j hj
  exact ⟨h0, h1, h2, A, m, c, h3, h4.keep (fun b hb1 hb2 hb3 => hk b (Nat.le_trans (h.mono 0 j (by omega) (by omega)) hb1) (Nat.lt_of_lt_of_le hb2 (h.mono (j + 1) n (by omega) (Nat.le_refl _))) hb3)⟩
def KeepTI (w w' : World) : Prop := ∀ b, IsTI w b → w'.heap[b]? = w.heap[b]?
theorem IsTI.lt {b : Nat} (h : IsTI w b) : b < w.heap.size := by obtain ⟨_, _, _, h⟩ := h; exact h.lt
theorem IsTI.keep {b : Nat} (h : IsTI w b) (hk : w'.heap[b]? = w.heap[b]?) : IsTI w' b := by obtain ⟨t, cs, ht, h⟩ := h; exact ⟨t, cs, ht, hk.trans h⟩
theorem KeepTI.refl (w : World) : KeepTI w w := fun _ _ => rfl
theorem KeepTI.trans {a b c : World} (h : KeepTI a b) (k : KeepTI b c) : KeepTI a c := fun g hg => (k g (hg.keep (h g hg))).trans (h g hg)
theorem KeepTI.up {a b : World} (h : Below a.heap.size a b) : KeepTI a b := fun g hg => h.block g hg.lt
theorem KeepTI.drew (a : World) : KeepTI a a.drew := fun _ _ => rfl
theorem IsTI.ne {b g : Nat} {t : TypeId} {cs : Array Value} (h : IsTI w b) (hb : Blk w g t cs) (h1 : t ≠ 3) (h2 : t ≠ 75) : b ≠ g := by
  rintro rfl
  obtain ⟨t', cs', ht, h⟩ := h
  unfold Blk at h hb
  rw [h] at hb
  injection hb with e
  injection e with _ e
  rcases ht with rfl | rfl
  · exact h1 e.symm
  · exact h2 e.symm
theorem KeepTI.set_ {a : World} {g : Nat} {t : TypeId} {cs : Array Value} (hb : Blk a g t cs) (h1 : t ≠ 3) (h2 : t ≠ 75) (i : Nat) (u : Value) : KeepTI a (a.setCell ⟨g, i, none⟩ u) := fun _ hg => Below.heap_setCell _ _ _ _ (hg.ne hb h1 h2)
theorem KeepTI.grown {a b : World} {base' s m : Nat} {t : TypeId} {r : Value} {xs : List Value} (ho : a.ownsRow base' t s r m xs) (hg : a.grownBy b r.ownBlock) (h1 : t ≠ 3) (h2 : t ≠ 75) : KeepTI a b := fun g hti => hg.block g hti.lt (fun e => by
  rcases ho.2 with ⟨rfl, _⟩ | ⟨g', cap, cur, rfl, _, hgg, _⟩
  · cases e
  · simp [Value.ownBlock] at e
    exact hti.ne (show Blk a g' t cur from hgg) h1 h2 e)
theorem NdUs.keepTI (h : NdUs w n vs tk f us) (hk : KeepTI w w') : NdUs w' n vs tk f us := h.keep (fun b _ _ hb => hk b hb)
theorem NdTs.keepTI {nd : Nat → Value} (h : NdTs w base n vs nd ts) (hk : KeepTI w w') : NdTs w' base n vs nd ts :=
  ⟨h.1, fun j hj => by
    obtain ⟨h1, h2, A, m, c, h3, h4⟩ := h.2.1 j hj
    exact ⟨h1, h2, A, m, c, h3, own_keepB h4 (fun b cs _ hc => hk b ⟨_, cs, .inl rfl, hc⟩)⟩, h.2.2⟩
theorem own_keepTI {xs : List Value} {s : Nat} {t : TypeId} (h : w.ownsRow base t s v n xs) (ht : t = 3 ∨ t = 75) (hk : KeepTI w w') : w'.ownsRow base t s v n xs := own_keepB h (fun b cs _ hc => hk b ⟨t, cs, ht, hc⟩)
theorem NdUs.nil (b : Nat) : NdUs w 0 [] (fun _ => .slice none 0 0) (fun _ => b) [] := ⟨rfl, fun j hj => by omega⟩
theorem NdUs.snoc {A : Option Addr} {m c : Nat} {op : Bool} (h : NdUs w n vs tk f us) (hl : vs.length = n * 2) (hx : OwnTsB w (f n) hi (.slice A m c) m ts) (hhi : f n ≤ hi) :
    NdUs w (n + 1) (vs ++ [.bool op, .slice A m c]) (fun j => if j = n then .slice A m c else tk j) (fun j => if j = n + 1 then hi else f j) (us ++ [(op, ts)]) := by
  have hus := h.1
  refine ⟨by simp [hus], fun j hj => ?_⟩
  by_cases e : j = n
  · subst e
    have g1 : (vs ++ [.bool op, .slice A m c])[j * 2]? = some (.bool op) := by rw [List.getElem?_append_right (by omega), hl, Nat.sub_self]; rfl
    have g2 : (vs ++ [.bool op, .slice A m c])[j * 2 + 1]? = some (.slice A m c) := by rw [List.getElem?_append_right (by omega), hl, show j * 2 + 1 - j * 2 = 1 by omega]; rfl
    have g3 : (us ++ [(op, ts)])[j]? = some (op, ts) := by rw [List.getElem?_append_right (by omega), hus, Nat.sub_self]; rfl
    dsimp only
    rw [g1, g2, g3, if_neg (by omega), if_pos rfl, if_pos rfl]
    exact ⟨hhi, rfl, rfl, A, m, c, rfl, hx⟩
  · obtain ⟨h0, h1, h2, A', m', c', h3, h4⟩ := h.2 j (by omega)
    dsimp only
    rw [if_neg e, if_neg (by omega), if_neg (by omega), List.getElem?_append_left (by omega), List.getElem?_append_left (by omega), List.getElem?_append_left (by omega)]
    exact ⟨h0, h1, h2, A', m', c', h3, h4⟩
def OwnC (w : World) (base : Nat) (v1 v2 : Value) (m1 m2 : Nat) (room : List Int) (us : List Un) : Prop :=
  w.ownsRow base 3 1 v1 m1 (room.map (Value.int .i64)) ∧ ∃ mid, (∀ b, v1.ownBlock = some b → b < mid) ∧ base ≤ mid ∧ OwnUs w mid v2 m2 us
theorem OwnUs.len {A : Option Addr} {c : Nat} (h : OwnUs w base (.slice A n c) n us) : us.length = n ∧ n ≤ c := by
  obtain ⟨vs, tk, f, h1, h2, _⟩ := h
  exact ⟨h2.1, own_cap' h1⟩
theorem OwnUs.rd {A : Option Addr} {c : Nat} (h : OwnUs w base (.slice A n c) n us) (hn : n ≤ 9223372036854775807) (hm : ∀ u ∈ us, u.2.length ≤ 9223372036854775807 ∧ ∀ t ∈ u.2, t.2.length ≤ 9223372036854775807) : RdN w w.heap.size A n us := by
  obtain ⟨vs, tk, f, h1, h2, _⟩ := h
  refine RdN.of_own h1 (B := w.heap.size) ⟨by rw [h1.1, h2.1], fun j hj => ?_⟩ (Nat.le_refl _) hn
  obtain ⟨_, e1, e2, A', m', c', e3, e4⟩ := h2.2 j (by rw [← h2.1]; exact hj)
  obtain ⟨vs', nd', o1, o2, _⟩ := e4
  have hu := hm (us[j]?.getD (false, [])) (by rw [List.getElem?_eq_getElem hj]; exact List.getElem_mem hj)
  have hl := o2.1
  refine ⟨A', m', c', e1, by rw [e2, e3], own_cap' o1, OwnTs.rd (base := f j) (c := c') ⟨vs', nd', o1, o2⟩ (by omega) hu.2⟩
end
end Go.Proofs.YtdkhdfedejbicaaGreatDoor

namespace Go.Proofs.YtdkhdfedejbicaaGreatDoor
open Go Go.RowKit

theorem own_blk_ne {w : World} {base s n g : Nat} {t t' : TypeId} {v : Value} {xs : List Value} {cs : Array Value} (h : w.ownsRow base t s v n xs) (hb : Blk w g t' cs) (ht : t ≠ t') : v.ownBlock ≠ some g := by
  intro e
  rcases h.2 with ⟨rfl, _⟩ | ⟨g', _, _, rfl, _, hg, _⟩
  · cases e
  · simp [Value.ownBlock] at e
    subst e
    unfold Blk at hb
    rw [hg] at hb
    injection hb with e
    injection e with _ e
    exact ht e
theorem own_le {w : World} {base s n c : Nat} {e : TypeId} {A : Option Addr} {xs : List Value} (h : w.ownsRow base e s (.slice A n c) n xs) : n ≤ 9223372036854775807 := by
  rcases h.2 with ⟨_, h0⟩ | ⟨g, cap, cur, he, _, _, h1, h2, _⟩
  · omega
  · unfold maxLen at h2; omega
theorem box_pair (t : TypeId) (w : World) (v0 v1 : Value) {w' : World} (hb : Below (w.heap.size + 1) (w.alloc (.cells #[v0, v1] t)) w') : w'.cell? ⟨w.heap.size, 0, none⟩ = some v0 ∧ w'.cell? ⟨w.heap.size, 1, none⟩ = some v1 := by
  constructor
  · rw [hb.cell (by simp)]; exact (Blk.new w _ _).cell 0
  · rw [hb.cell (by simp)]; exact (Blk.new w _ _).cell 1
theorem lit1 (w : World) (t : TypeId) (v : Value) : Src (w.alloc (.cells #[v] t)) 1 (some ⟨w.heap.size, 0, none⟩) 1 [v] :=
  ⟨rfl, fun _ => ⟨_, rfl, fun j u hu => by rw [addr_add, Nat.zero_add, (Blk.new w t #[v]).cell]; simpa using hu⟩⟩
theorem lit2 (w : World) (t : TypeId) (a b : Value) : Src (w.alloc (.cells #[a, b] t)) 2 (some ⟨w.heap.size, 0, none⟩) 1 [a, b] :=
  ⟨rfl, fun _ => ⟨_, rfl, fun j u hu => by rw [addr_add, Nat.zero_add, (Blk.new w t #[a, b]).cell]; simpa using hu⟩⟩
theorem one1 (v : Value) (h : v.oneCell' = true) : ∀ u ∈ [v], u.oneCell' = true := by simpa using h
theorem one2 (a b : Value) (h : a.oneCell' = true) (h' : b.oneCell' = true) : ∀ u ∈ [a, b], u.oneCell' = true := by simp [h, h']
theorem own_alloc {w : World} {base s n : Nat} {t : TypeId} {v : Value} {xs : List Value} (h : w.ownsRow base t s v n xs) (o : Obj) : (w.alloc o).ownsRow base t s v n xs := own_keep h (fun b hb => Below.heap_alloc _ _ _ (h.lt b hb).2)
theorem own_up' {w w' : World} {base s n : Nat} {t : TypeId} {v : Value} {xs : List Value} (h : w.ownsRow base t s v n xs) (hb : Below w.heap.size w w') : w'.ownsRow base t s v n xs := own_keep h (fun b hlt => hb.block b (h.lt b hlt).2)
def BnCells (w : World) (B : Nat) (vs : List Value) (bs : List (List Tk)) : Prop :=
  vs.length = bs.length ∧ ∀ j, j < bs.length → ∃ A' m c, vs[j]? = some (.slice A' m c) ∧ m ≤ c ∧ RdT w B A' m (bs[j]?.getD [])
theorem BnCells.nil {w : World} {B : Nat} : BnCells w B [] [] := ⟨rfl, fun j hj => by simp at hj⟩
theorem BnCells.keep {w w' : World} {B B' : Nat} {vs : List Value} {bs : List (List Tk)} (h : BnCells w B vs bs) (hk : ∀ p : Addr, p.block < B → w'.cell? p = w.cell? p) (hB : B ≤ B') : BnCells w' B' vs bs :=
  ⟨h.1, fun j hj => by obtain ⟨A', m, c, h1, h2, h3⟩ := h.2 j hj; exact ⟨A', m, c, h1, h2, h3.keep hk hB⟩⟩
theorem BnCells.snoc {w : World} {B : Nat} {vs : List Value} {bs : List (List Tk)} {A : Option Addr} {m c : Nat} {ts : List Tk} (h : BnCells w B vs bs) (hr : RdT w B A m ts) (hc : m ≤ c) : BnCells w B (vs ++ [.slice A m c]) (bs ++ [ts]) := by
  have hl := h.1
  refine ⟨by simp [hl], fun j hj => ?_⟩
  by_cases e : j < bs.length
  · obtain ⟨A', m', c', h1, h2, h3⟩ := h.2 j e
    exact ⟨A', m', c', by rw [List.getElem?_append_left (by omega)]; exact h1, h2, by rw [List.getElem?_append_left e]; exact h3⟩
  · have : j = bs.length := by simp at hj; omega
    subst this
    exact ⟨A, m, c, by rw [List.getElem?_append_right (by omega), hl, Nat.sub_self]; rfl, hc, by rw [List.getElem?_append_right (by omega), Nat.sub_self]; exact hr⟩
theorem RdB.of_own {w : World} {base B n c : Nat} {e : TypeId} {A : Option Addr} {vs : List Value} {bs : List (List Tk)} (h : w.ownsRow base e 1 (.slice A n c) n vs) (ht : BnCells w B vs bs) (hB : B ≤ w.heap.size) (hn : n ≤ 9223372036854775807) : RdB w w.heap.size A n bs := by
  have hl : bs.length = n := by have := h.1; have := ht.1; omega
  refine ⟨hl, hn, fun hp => ?_⟩
  obtain ⟨g, cap, hv, _, hlt⟩ := h.form hp
  have hA : A = some ⟨g, 0, none⟩ := by injection hv
  subst hA
  refine ⟨g, 0, rfl, hlt, fun j hj => ?_⟩
  obtain ⟨A', m, c', h1, h2, h3⟩ := ht.2 j (by omega)
  have e1 := h.cells (g := g) rfl _ _ h1
  rw [addr_add] at e1
  exact ⟨A', m, c', e1, h2, h3.more hB⟩
structure RdC (w : World) (A1 A2 : Option Addr) (n1 n2 : Nat) (room : List Int) (us : List Un) : Prop where
  a : RdI w w.heap.size A1 n1 room
  b : RdN w w.heap.size A2 n2 us
theorem RdC.up {w w' : World} {A1 A2 : Option Addr} {n1 n2 : Nat} {room : List Int} {us : List Un} (h : RdC w A1 A2 n1 n2 room us) (hb : Below w.heap.size w w') : RdC w' A1 A2 n1 n2 room us := ⟨h.a.up hb, h.b.up hb⟩
def ShU (us : List Un) : Prop := us.length ≤ 1000 ∧ ∀ u ∈ us, u.2.length ≤ 1000 ∧ ∀ t ∈ u.2, t.2.length ≤ 1000
def ShV (us : List Un) : Prop := us.length ≤ 1048576 ∧ ((us.map (·.2)).flatten).length ≤ 1048576
theorem un_mem {us : List Un} {k : Nat} (hk : k < us.length) : us[k]?.getD (false, []) ∈ us := by rw [List.getElem?_eq_getElem hk]; exact List.getElem_mem hk
theorem tk_mem {ts : List Tk} {k : Nat} (hk : k < ts.length) : ts[k]?.getD (0, []) ∈ ts := by rw [List.getElem?_eq_getElem hk]; exact List.getElem_mem hk
theorem unit_info : (Tryz.prog.info? 83).map (fun i => (i.zero, i.size, i.bytes)) = some (some (.agg #[.bool false, .slice none 0 0]), 2, 32) := by kernel_rfl
theorem slice_info' : (Tryz.prog.info? 81).map (fun i => (i.zero, i.size, i.bytes)) = some (some (.slice none 0 0), 1, 24) := by kernel_rfl
end Go.Proofs.YtdkhdfedejbicaaGreatDoor
