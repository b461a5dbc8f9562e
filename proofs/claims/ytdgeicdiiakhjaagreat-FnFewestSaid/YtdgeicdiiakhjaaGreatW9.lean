/- Several texts in one. -/
import Derived.Test.YtdgeicdiiakhjaaGreatW4
import Derived.Test.YtdgeicdiiakhjaaGreatW7
namespace Go.Proofs.YtdgeicdiiakhjaaGreat
open Go.RowKit

/-- The place of a task with a number among tasks, or -1. -/
def atP (ts : List Tk) (id : Int) : Int := idxP (fun t => t.1 == id) ts
theorem atP_ge (ts : List Tk) (id : Int) : decide (0 ≤ atP ts id) = hasP ts id := idxP_ge _ _

end Go.Proofs.YtdgeicdiiakhjaaGreat

namespace Go.Proofs.YtdgeicdiiakhjaaGreat
open Go Go.RowKit
attribute [local go_sem ↓] Go.wp_at_zero Go.wp_at_succ

/-- A slice of integers, as a source of an append. -/
theorem srcOfI {w : World} {B n : Nat} {A : Option Addr} {xs : List Int} (h : RdI w B A n xs) : Src w 1 A n (xs.map (Value.int .i64)) := by
  refine ⟨by simp [h.len], fun hp => ?_⟩
  obtain ⟨b, o, e, _, hc⟩ := h.2.2 hp
  refine ⟨_, e, fun j u hu => ?_⟩
  have hj : j < xs.length := by
    rcases Nat.lt_or_ge j xs.length with h1 | h1
    · exact h1
    · rw [List.getElem?_eq_none (by simpa using h1)] at hu; cases hu
  rw [List.getElem?_map, List.getElem?_eq_getElem hj] at hu
  injection hu with hu
  rw [addr_add, hc j (by have := h.len; omega), List.getElem?_eq_getElem hj, ← hu]
  rfl
theorem ints_cell1 (xs : List Int) : ∀ u ∈ xs.map (Value.int .i64), u.oneCell' = true := by
  intro u hu
  obtain ⟨x, _, rfl⟩ := List.mem_map.1 hu
  rfl
theorem ownI_info : (Tryz.prog.info? 3).map (fun i => (i.zero, i.size, i.bytes)) = some (some (.int .i64 0), 1, 8) := by kernel_rfl
theorem upNew (w : World) (o : Obj) : Below w.heap.size w (w.alloc o) := (Below.refl _ _).alloc (Nat.le_refl _) _
theorem upTo' {w a b : World} (h : Below w.heap.size w a) (k : Below a.heap.size a b) : Below w.heap.size w b := h.trans (k.mono h.size)

set_option maxRecDepth 100000 in
set_option maxHeartbeats 800000 in
theorem clone_any (A : Option Addr) (n c : Nat) (xs : List Int) (w : World) (h : RdI w w.heap.size A n xs) (hn : n ≤ 1048576) :
    Calls Tryz.prog 91 #[.slice A n c] w fun e w' => ∃ A' c', e = .returned (.slice A' n c') ∧ w'.ownsRow w.heap.size 3 1 (.slice A' n c') n (xs.map (Value.int .i64)) ∧ Below w.heap.size w w' := by
  obtain ⟨i0, hi0, hz0, hz1, hz2⟩ := info_parts ownI_info
  have H := qh h
  clear h
  cases A with
  | none =>
    have hn0 : n = 0 := by
      rcases Nat.eq_zero_or_pos n with h0 | h0
      · exact h0
      · obtain ⟨b, o, e, _⟩ := H.out.2.2 h0
        cases e
    subst hn0
    have hx : xs = [] := List.eq_nil_of_length_eq_zero H.out.len
    have Hx := qh hx
    clear hx
    have hnil := fun w : World => Lib.run_eql_slice_nil (P := Tryz.prog) w 23 3 none 0 c 0 0 Tryz.underlying23
    go_enter Tryz.func91, Tryz.ntmps91
    go_wp2
    go_ret
    exact ⟨none, 0, rfl, by rw [Hx.out]; exact ⟨rfl, .inl ⟨rfl, rfl⟩⟩, Below.refl _ _⟩
  | some a =>
    have Ho := qh (show (w.alloc (.cells #[] 3)).ownsRow w.heap.size 3 1 (.slice (some ⟨w.heap.size, 0, none⟩) 0 0) 0 [] from World.ownsRow_made w #[] 0 (Nat.le_refl _) (by unfold maxLen; omega) rfl)
    have Hs := qh (srcOfI (H.out.up (upNew w (.cells #[] 3))))
    have H1 := qh (ints_cell1 xs)
    have lz : w.heap.size ≤ (w.alloc (.cells #[] 3)).heap.size := by simp
    have hnil := fun w : World => Lib.run_eql_slice_nil (P := Tryz.prog) w 23 3 (some a) n c 0 0 Tryz.underlying23
    go_enter Tryz.func91, Tryz.ntmps91
    go_wp2_with (at_builtin; refine wpList_append_src _ rfl _ _ 23 rfl w.heap.size 3 i0 _ 1 8 Tryz.underlying23 hi0 hz0 hz1 hz2 rfl (by omega) (.slice (some ⟨w.heap.size, 0, none⟩) 0 0) 0 [] rfl Ho.out (some a) n c (xs.map (Value.int .i64)) rfl Hs.out H1.out (by unfold maxLen; omega) (by omega) lz ?_; intro v' w1 hown1 hgrow hat)
    rw [Nat.zero_add, List.nil_append] at hown1
    obtain ⟨A1, c1, rfl⟩ := own_shape hown1
    have Hown1 := qh hown1
    have HB := qh ((upNew w (.cells #[] 3)).grown hgrow lz (fun j e => (Ho.out.lt j e).1))
    clear hown1 hgrow hat
    go_wp2
    go_ret
    exact ⟨A1, c1, rfl, Hown1.out, HB.out⟩



end Go.Proofs.YtdgeicdiiakhjaaGreat

namespace Go.Proofs.YtdgeicdiiakhjaaGreat
open Go Go.RowKit
attribute [local go_sem ↓] Go.wp_at_zero Go.wp_at_succ

/-- The cells of the tasks and the rows of their needs. -/
def NdTs (w : World) (base n : Nat) (vs : List Value) (nd : Nat → Value) (ts : List Tk) : Prop :=
  ts.length = n ∧ (∀ j, j < n → vs[j * 2]? = some (.int .i64 (ts[j]?.getD (0, [])).1) ∧ vs[j * 2 + 1]? = some (nd j) ∧ ∃ A m c, nd j = .slice A m c ∧ w.ownsRow base 3 1 (.slice A m c) m ((ts[j]?.getD (0, [])).2.map (Value.int .i64))) ∧
  (∀ i j, i < n → j < n → i ≠ j → ∀ b, (nd i).ownBlock = some b → (nd j).ownBlock ≠ some b)
/-- A row of tasks of the call's own. -/
def OwnTs (w : World) (base : Nat) (v : Value) (n : Nat) (ts : List Tk) : Prop := ∃ vs nd, w.ownsRow base 43 2 v n vs ∧ NdTs w base n vs nd ts

theorem own_types {w : World} {base base' s s' n n' b : Nat} {t t' : TypeId} {u v : Value} {xs ys : List Value} (h : w.ownsRow base t s u n xs) (h' : w.ownsRow base' t' s' v n' ys) (ht : t ≠ t') (hb : u.ownBlock = some b) : v.ownBlock ≠ some b := by
  intro hb'
  rcases h.2 with ⟨rfl, _⟩ | ⟨g, _, _, rfl, _, hg, _⟩
  · cases hb
  · rcases h'.2 with ⟨rfl, _⟩ | ⟨g', _, _, rfl, _, hg', _⟩
    · cases hb'
    · simp [Value.ownBlock] at hb hb'
      subst hb hb'
      rw [hg] at hg'
      injection hg' with e
      injection e with _ e
      exact ht e
section
variable {w w' : World} {base base' n : Nat} {v : Value} {vs : List Value} {nd : Nat → Value} {ts : List Tk}
theorem NdTs.keep (h : NdTs w base n vs nd ts) (hk : ∀ b, base ≤ b → b < w.heap.size → w'.heap[b]? = w.heap[b]?) : NdTs w' base n vs nd ts :=
  ⟨h.1, fun j hj => by
    obtain ⟨h1, h2, A, m, c, h3, h4⟩ := h.2.1 j hj
    exact ⟨h1, h2, A, m, c, h3, own_keep h4 (fun b hb => hk b (h4.lt b hb).1 (h4.lt b hb).2)⟩, h.2.2⟩
theorem OwnTs.keep (h : OwnTs w base v n ts) (hk : ∀ b, base ≤ b → b < w.heap.size → w'.heap[b]? = w.heap[b]?) : OwnTs w' base v n ts := by
  obtain ⟨vs, nd, h1, h2⟩ := h
  exact ⟨vs, nd, own_keep h1 (fun b hb => hk b (h1.lt b hb).1 (h1.lt b hb).2), h2.keep hk⟩
theorem OwnTs.below (h : OwnTs w base v n ts) (hb : Below w.heap.size w w') : OwnTs w' base v n ts := h.keep (fun b _ hlt => hb.block b hlt)
theorem NdTs.grown {row : Value} {m : Nat} {xs : List Value} (h : NdTs w base n vs nd ts) (ho : w.ownsRow base' 43 2 row m xs) (hg : w.grownBy w' row.ownBlock) : NdTs w' base n vs nd ts :=
  ⟨h.1, fun j hj => by
    obtain ⟨h1, h2, A, m, c, h3, h4⟩ := h.2.1 j hj
    exact ⟨h1, h2, A, m, c, h3, own_keep h4 (fun b hb => hg.block b (h4.lt b hb).2 (fun e => own_types ho h4 (by decide) e.symm hb))⟩, h.2.2⟩
theorem NdTs.nil : NdTs w base 0 [] (fun _ => .slice none 0 0) [] := ⟨rfl, fun j hj => by omega, fun i j hi => by omega⟩
/-- One task more, whose need is new. -/
theorem NdTs.snoc {w0 : World} {A : Option Addr} {m c : Nat} {id : Int} {xs : List Int} (h : NdTs w base n vs nd ts) (hl : vs.length = n * 2) (hold : ∀ j, j < n → ∀ b, (nd j).ownBlock = some b → b < w0.heap.size) (hx : w.ownsRow w0.heap.size 3 1 (.slice A m c) m (xs.map (Value.int .i64))) (hb : base ≤ w0.heap.size) :
    NdTs w base (n + 1) (vs ++ [.int .i64 id, .slice A m c]) (fun j => if j = n then .slice A m c else nd j) (ts ++ [(id, xs)]) := by
  have hts := h.1
  refine ⟨by simp [hts], fun j hj => ?_, fun i j hi hj hij b hb1 hb2 => ?_⟩
  · by_cases e : j = n
    · subst e
      dsimp only
      have g1 : (vs ++ [.int .i64 id, .slice A m c])[j * 2]? = some (.int .i64 id) := by rw [List.getElem?_append_right (by omega), hl, Nat.sub_self]; rfl
      have g2 : (vs ++ [.int .i64 id, .slice A m c])[j * 2 + 1]? = some (.slice A m c) := by rw [List.getElem?_append_right (by omega), hl, show j * 2 + 1 - j * 2 = 1 by omega]; rfl
      have g3 : (ts ++ [(id, xs)])[j]? = some (id, xs) := by rw [List.getElem?_append_right (by omega), hts, Nat.sub_self]; rfl
      rw [if_pos rfl, g1, g2, g3]
      refine ⟨rfl, rfl, A, m, c, rfl, ?_⟩
      exact ⟨hx.1, hx.2.imp (fun h => h) (fun ⟨g, cap, cur, a, b, c⟩ => ⟨g, cap, cur, a, by omega, c⟩)⟩
    · obtain ⟨h1, h2, A', m', c', h3, h4⟩ := h.2.1 j (by omega)
      dsimp only
      rw [if_neg e, List.getElem?_append_left (by omega), List.getElem?_append_left (by omega), List.getElem?_append_left (by omega)]
      exact ⟨h1, h2, A', m', c', h3, h4⟩
  · dsimp only at hb1 hb2
    by_cases ei : i = n
    · have ej : j ≠ n := fun e => hij (by omega)
      rw [if_pos ei] at hb1
      rw [if_neg ej] at hb2
      have := hold j (by omega) b hb2
      have := (hx.lt b hb1).1
      omega
    · rw [if_neg ei] at hb1
      by_cases ej : j = n
      · rw [if_pos ej] at hb2
        have := hold i (by omega) b hb1
        have := (hx.lt b hb2).1
        omega
      · rw [if_neg ej] at hb2
        exact h.2.2 i j (by omega) (by omega) hij b hb1 hb2
theorem NdTs.old (h : NdTs w base n vs nd ts) : ∀ j, j < n → ∀ b, (nd j).ownBlock = some b → b < w.heap.size := fun j hj b hb => by
  obtain ⟨_, _, A, m, c, h3, h4⟩ := h.2.1 j hj
  rw [h3] at hb
  exact (h4.lt b hb).2
theorem own_cap' {w : World} {base : Nat} {e : TypeId} {size : Nat} {A : Option Addr} {n c : Nat} {xs : List Value} (h : w.ownsRow base e size (.slice A n c) n xs) : n ≤ c := by
  rcases h.2 with ⟨e, h0⟩ | ⟨g, cap, cur, e, _, _, hc, _⟩
  · omega
  · injection e with _ _ e3; omega
/-- It reads. -/
theorem OwnTs.rd {A : Option Addr} {c : Nat} (h : OwnTs w base (.slice A n c) n ts) (hn : n ≤ 9223372036854775807) (hm : ∀ t ∈ ts, t.2.length ≤ 9223372036854775807) : RdT w w.heap.size A n ts := by
  obtain ⟨vs, nd, h1, h2⟩ := h
  refine RdT.of_own h1 (B := w.heap.size) ⟨by rw [h1.1, h2.1], fun j hj => ?_⟩ (Nat.le_refl _) hn
  obtain ⟨e1, e2, A', m', c', e3, e4⟩ := h2.2.1 j (by rw [← h2.1]; exact hj)
  have hl : (ts[j]?.getD (0, [])).2.length = m' := by have := e4.1; simpa using this
  refine ⟨A', m', c', e1, by rw [e2, e3], own_cap' e4, RdI.of_own e4 ?_⟩
  rw [← hl, List.getElem?_eq_getElem hj]
  exact hm _ (List.getElem_mem hj)
end
end Go.Proofs.YtdgeicdiiakhjaaGreat

namespace Go.Proofs.YtdgeicdiiakhjaaGreat
open Go Go.RowKit
attribute [local go_sem ↓] Go.wp_at_zero Go.wp_at_succ

theorem take_tk {ts : List Tk} {k : Nat} (h : k < ts.length) : ts.take (k + 1) = ts.take k ++ [((ts[k]?.getD (0, [])).1, (ts[k]?.getD (0, [])).2)] := by
  rw [List.take_succ_eq_append_getElem h, List.getElem?_eq_getElem h]; rfl

set_option maxRecDepth 100000 in
set_option maxHeartbeats 1600000 in
theorem l2Copy_any (A : Option Addr) (n c : Nat) (ts : List Tk) (w : World) (h : RdT w w.heap.size A n ts) (hz : n ≤ 1048576) (hm : ∀ j, j < n → (ts[j]?.getD (0, [])).2.length ≤ 1048576) :
    Calls Tryz.prog 76 #[.slice A n c] w fun e w' => ∃ A' c', e = .returned (.slice A' n c') ∧ OwnTs w' w.heap.size (.slice A' n c') n ts ∧ Below w.heap.size w w' := by
  obtain ⟨i0, hi0, hz0, hz1, hz2⟩ := info_parts task_info
  obtain ⟨j0, hj0, jz0, jz1, jz2⟩ := info_parts ownI_info
  have hl := qh h.len
  have H := qh h
  have Hm := qh hm
  clear h hm
  have O0 := qh (show (w.alloc (.cells #[] 43)).ownsRow w.heap.size 43 2 (.slice (some ⟨w.heap.size, 0, none⟩) 0 0) 0 [] from World.ownsRow_made w #[] 0 (Nat.le_refl _) (by unfold maxLen; omega) rfl)
  have B0 := qh (upNew w (.cells #[] 43))
  go_enter Tryz.func76, Tryz.ntmps76
  go_wp2_with fail
  go_loopw [3, 4] (fun v i wr => ∃ (k : Nat) (A0 : Option Addr) (c0 : Nat) (vs : List Value) (nd : Nat → Value), i = .int .i64 k ∧ k ≤ n ∧ v = .slice A0 k c0 ∧ Below w.heap.size w wr ∧
    wr.ownsRow w.heap.size 43 2 (.slice A0 k c0) k vs ∧ NdTs wr w.heap.size k vs nd (ts.take k)) (fun _ i _ => n - (intOf i).toNat)
  case atStart => exact ⟨0, _, _, [], _, rfl, Nat.zero_le _, rfl, B0.out, O0.out, NdTs.nil⟩
  case round =>
    clear O0 B0
    obtain ⟨k, A0, c0, vs, nd, rfl, hk, rfl, hbel, hown, hnd⟩ := hrel
    by_cases hlt : k < n
    · obtain ⟨b1, o1, A3, m3, c3, rfl, lb1, hc1, hc3, hle3, hr3⟩ := (H.out.below hbel).at_ hlt
      have lm3 : m3 ≤ 1048576 := by rw [← hr3.len]; exact Hm.out k hlt
      have kk1 : (0 : Int) ≤ (k : Int) := by omega
      have kk2 : (k : Int) < (n : Int) := by omega
      have keepS := qh (show ∀ W, Below w.heap.size w W → W.cell? ⟨b1, o1 + k * 2, none⟩ = some (.int .i64 (ts[k]?.getD (0, [])).1) ∧ W.cell? ⟨b1, o1 + k * 2 + 1, none⟩ = some (.slice A3 m3 c3) from
        fun W hW => ⟨(hW.cell lb1).trans ((hbel.cell lb1).symm.trans hc1), (hW.cell lb1).trans ((hbel.cell lb1).symm.trans hc3)⟩)
      have HB0 := qh hbel.drew
      have Hown := qh (own_keep hown (w' := wr.drew) (fun b hb => rfl))
      have Hnd := qh (hnd.keep (w' := wr.drew) (fun b _ _ => rfl))
      have K0 := keepS.out _ HB0.out
      have Hr3 := qh (hr3.below (w' := wr.drew) (Below.refl _ _).drew)
      clear hown hnd hr3 hc1 hc3 hbel
      go_wp2_with fail
      refine wp_region_mix (.take 0 (.take 1 (.take 2 (.take 3 (.take 4 (.take 5 (.take 7 (.take 8 (.take 9 (.take 10 (.take 11 (.bar 6 (.bar 12 (.take 13 (.bar 14 (.bar 15 (.take 16 .nil))))))))))))))))) (fun w' => w'.cell? ⟨b1, o1 + k * 2, none⟩ = some (.int .i64 (ts[k]?.getD (0, [])).1) ∧ w'.cell? ⟨b1, o1 + k * 2 + 1, none⟩ = some (.slice A3 m3 c3)) (by kernel_rfl) (by kernel_rfl) K0 (fun _ => ?_)
      clear K0
      repeat ((first | refine wpMix_skip (by rfl) (by rfl) ?_ | (refine wpMix_take (v := ?_) (by rfl) (by rfl) (fun wS hSt => ?_) ?_; rotate_left; (focus ((try dsimp only at hSt); (go_simp <;> with_reducible rfl); done)))); (try simp only [Act.put, pS, pZ, pC]))
      generalize wr.drew = u0 at HB0 Hown Hnd Hr3 ⊢
      (refine wpMix_bar (by rfl) (fun K hK => ?_); go_simp)
      have lu := HB0.out.size
      have HB1 := qh (HB0.out.alloc lu (.cells #[] 3))
      have HE := qh (show (u0.alloc (.cells #[] 3)).ownsRow u0.heap.size 3 1 (.slice (some ⟨u0.heap.size, 0, none⟩) 0 0) 0 [] from World.ownsRow_made u0 #[] 0 (Nat.le_refl _) (by unfold maxLen; omega) rfl)
      have Hs1 := qh (srcOfI (Hr3.out.below ((Below.refl w.heap.size u0).alloc lu (.cells #[] 3))))
      have lz1 : u0.heap.size ≤ (u0.alloc (.cells #[] 3)).heap.size := by rw [World.size_alloc]; omega
      ((try dsimp only); refine nxK hK _ _ (keepS.out _ HB1.out) ?_; clear hK K; (try simp only [Act.put, pS, pZ, pC]))
      refine wpMix_bar (by rfl) (fun K hK => ?_)
      rw [if_pos (by rfl)]
      refine wp_append_src _ _ _ 23 (by rfl) u0.heap.size 3 j0 _ 1 8 Tryz.underlying23 hj0 jz0 jz1 jz2 rfl (by omega) (.slice (some ⟨u0.heap.size, 0, none⟩) 0 0) 0 [] (by rfl) HE.out A3 m3 c3 _ (by rfl) Hs1.out (ints_cell1 _) (by unfold maxLen; omega) (by omega) lz1 ?_
      intro v6 w6 hown6 hgrow6 hrow6
      rw [Nat.zero_add, List.nil_append] at hown6
      obtain ⟨A6, c6, rfl⟩ := own_shape hown6
      have hk6 : ∀ b, b < u0.heap.size → w6.heap[b]? = u0.heap[b]? := fun b hb => (hgrow6.block b (by rw [World.size_alloc]; omega) (fun e => by have := (HE.out.lt b e.symm).1; omega)).trans (Below.heap_alloc _ _ _ hb)
      have Hx6 := qh hown6
      have Ho6 := qh (own_keep Hown.out (w' := w6) (fun b hb => hk6 b (Hown.out.lt b hb).2))
      have Hn6 := qh (Hnd.out.keep (w' := w6) (fun b _ hb => hk6 b hb))
      have HB6 := qh (HB1.out.grown hgrow6 HB1.out.size (fun j e => by have := (HE.out.lt j e).1; omega))
      clear hown6 hgrow6 hrow6 hk6 HE Hs1 HB1 Hr3 lz1
      ((try dsimp only); refine nxK hK _ _ (keepS.out _ HB6.out) ?_; clear hK K; (try simp only [Act.put, pS, pZ, pC]))
      repeat ((first | refine wpMix_skip (by rfl) (by rfl) ?_ | (refine wpMix_take (v := ?_) (by rfl) (by rfl) (fun wS hSt => ?_) ?_; rotate_left; (focus ((try dsimp only at hSt); (go_simp <;> with_reducible rfl); done)))); (try simp only [Act.put, pS, pZ, pC]))
      (refine wpMix_bar (by rfl) (fun K hK => ?_); go_simp)
      have HB7 := qh (HB6.out.alloc HB6.out.size (.cells #[.int .i64 (ts[k]?.getD (0, [])).1, .slice A6 m3 c6] 43))
      have Ho7 := qh (own_keep Ho6.out (w' := w6.alloc (.cells #[.int .i64 (ts[k]?.getD (0, [])).1, .slice A6 m3 c6] 43)) (fun b hb => Below.heap_alloc _ _ _ (Ho6.out.lt b hb).2))
      have Hx7 := qh (own_keep Hx6.out (w' := w6.alloc (.cells #[.int .i64 (ts[k]?.getD (0, [])).1, .slice A6 m3 c6] 43)) (fun b hb => Below.heap_alloc _ _ _ (Hx6.out.lt b hb).2))
      have Hn7 := qh ((Hn6.out.keep (w' := w6.alloc (.cells #[.int .i64 (ts[k]?.getD (0, [])).1, .slice A6 m3 c6] 43)) (fun b _ hlt => Below.heap_alloc _ _ _ hlt)).snoc (w0 := u0) (id := (ts[k]?.getD (0, [])).1) Ho6.out.1 Hnd.out.old Hx7.out lu)
      have Hs7 := qh (own_src (own_built (w := w6) (base := 0) 43 (.int .i64 (ts[k]?.getD (0, [])).1) (.slice A6 m3 c6) (by omega)))
      ((try dsimp only); refine nxK hK _ _ (keepS.out _ HB7.out) ?_; clear hK K; (try simp only [Act.put, pS, pZ, pC]))
      refine wpMix_bar (by rfl) (fun K hK => ?_)
      rw [if_pos (by rfl)]
      refine wp_append_src _ _ _ 24 (by rfl) w.heap.size 43 i0 _ 2 32 Tryz.underlying24 hi0 hz0 hz1 hz2 rfl (by omega) (.slice A0 k c0) k vs (by rfl) Ho7.out (some ⟨w6.heap.size, 0, none⟩) 1 1 [.int .i64 (ts[k]?.getD (0, [])).1, .slice A6 m3 c6] (by rfl) Hs7.out (by simp [Value.oneCell']) (by unfold maxLen; omega) (by omega) HB7.out.size ?_
      intro v8 w8 hown8 hgrow8 hrow8
      obtain ⟨A8, c8, rfl⟩ := own_shape hown8
      have Hn8 := qh (Hn7.out.grown Ho7.out hgrow8)
      have HB8 := qh (HB7.out.grown hgrow8 HB7.out.size (fun j e => (Ho7.out.lt j e).1))
      have Ho8 := qh hown8
      clear hown8 hgrow8 hrow8 Hs7 Hn7 Hx7 Ho7 HB7 Hn6 Ho6 Hx6 HB6 Hown Hnd
      ((try dsimp only); refine nxK hK _ _ (keepS.out _ HB8.out) ?_; clear hK K; (try simp only [Act.put, pS, pZ, pC]))
      repeat ((first | refine wpMix_skip (by rfl) (by rfl) ?_ | (refine wpMix_take (v := ?_) (by rfl) (by rfl) (fun wS hSt => ?_) ?_; rotate_left; (focus ((try dsimp only at hSt); (go_simp <;> with_reducible rfl); done)))); (try simp only [Act.put, pS, pZ, pC]))
      refine wpMix_nil ?_
      go_wp2_with fail
      go_roundw
      case measure => simp [intOf]; omega
      case rel => exact ⟨k + 1, A8, c8, _, _, by go_num, by omega, rfl, HB8.out, Ho8.out, by rw [take_tk (by have := hl.out; omega)]; exact Hn8.out⟩
    · obtain rfl : k = n := by omega
      have Hown := qh hown
      have Hnd := qh hnd
      clear hown hnd
      go_wp2_with fail
      go_ret
      exact ⟨A0, c0, rfl, ⟨vs, nd, Hown.out, by have := Hnd.out; rwa [List.take_of_length_le (by have := hl.out; omega)] at this⟩, hbel⟩
end Go.Proofs.YtdgeicdiiakhjaaGreat
