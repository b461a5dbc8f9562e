/- Several texts in one. -/
import Derived.Test.YtlcgbnmmbheleaaGreatV15
namespace Go.Proofs.YtlcgbnmmbheleaaGreat
open Go Go.RowKit
attribute [local go_sem ↓] Go.wp_at_zero Go.wp_at_succ

theorem srcOfI {w : World} {B n : Nat} {A : Option Addr} {xs : List Int} (h : RdI w B A n xs) : Src w 1 A n (xs.map (Value.int .i64)) := by
  refine ⟨by simp [h.len], fun hp => ?_⟩
  obtain ⟨b, o, e, _, hc⟩ := h.2.2 hp
  refine ⟨_, e, fun j u hu => ?_⟩
  have hj : j < xs.length := by
    rcases Nat.lt_or_ge j xs.length with h1 | h1
    · exact h1
    · rw [List.getElem?_eq_none (by simpa using h1)] at hu; cases hu
  rw [List.getElem?_map, List.getElem?_eq_getElem hj] at hu
  injection hu with hu
  rw [addr_add, hc j (by have := h.len; omega), List.getElem?_eq_getElem hj, ← hu]
  rfl
theorem ints_cell1 (xs : List Int) : ∀ u ∈ xs.map (Value.int .i64), u.oneCell' = true := by
  intro u hu
  obtain ⟨x, _, rfl⟩ := List.mem_map.1 hu
  rfl
theorem ownI_info : (Tryz.prog.info? 3).map (fun i => (i.zero, i.size, i.bytes)) = some (some (.int .i64 0), 1, 8) := by kernel_rfl
theorem upNew (w : World) (o : Obj) : Below w.heap.size w (w.alloc o) := (Below.refl _ _).alloc (Nat.le_refl _) _
set_option maxRecDepth 100000 in
set_option maxHeartbeats 800000 in
theorem clone_any (A : Option Addr) (n c : Nat) (xs : List Int) (w : World) (h : RdI w w.heap.size A n xs) (hn : n ≤ 1048576) :
    Calls Tryz.prog 95 #[.slice A n c] w fun e w' => ∃ A' c', e = .returned (.slice A' n c') ∧ w'.ownsRow w.heap.size 3 1 (.slice A' n c') n (xs.map (Value.int .i64)) ∧ Below w.heap.size w w' := by
  obtain ⟨i0, hi0, hz0, hz1, hz2⟩ := info_parts ownI_info
  have H := qh h
  clear h
  cases A with
  | none =>
    have hn0 : n = 0 := by
      rcases Nat.eq_zero_or_pos n with h0 | h0
      · exact h0
      · obtain ⟨b, o, e, _⟩ := H.out.2.2 h0
        cases e
    subst hn0
    have hx : xs = [] := List.eq_nil_of_length_eq_zero H.out.len
    have Hx := qh hx
    clear hx
    have hnil := fun w : World => Lib.run_eql_slice_nil (P := Tryz.prog) w 23 3 none 0 c 0 0 Tryz.underlying23
    go_enter Tryz.func95, Tryz.ntmps95
    go_wp2
    go_ret
    exact ⟨none, 0, rfl, by rw [Hx.out]; exact ⟨rfl, .inl ⟨rfl, rfl⟩⟩, Below.refl _ _⟩
  | some a =>
    have Ho := qh (show (w.alloc (.cells #[] 3)).ownsRow w.heap.size 3 1 (.slice (some ⟨w.heap.size, 0, none⟩) 0 0) 0 [] from World.ownsRow_made w #[] 0 (Nat.le_refl _) (by unfold maxLen; omega) rfl)
    have Hs := qh (srcOfI (H.out.up (upNew w (.cells #[] 3))))
    have H1 := qh (ints_cell1 xs)
    have lz : w.heap.size ≤ (w.alloc (.cells #[] 3)).heap.size := by simp
    have hnil := fun w : World => Lib.run_eql_slice_nil (P := Tryz.prog) w 23 3 (some a) n c 0 0 Tryz.underlying23
    go_enter Tryz.func95, Tryz.ntmps95
    go_wp2_with (at_builtin; refine wpList_append_src _ rfl _ _ 23 rfl w.heap.size 3 i0 _ 1 8 Tryz.underlying23 hi0 hz0 hz1 hz2 rfl (by omega) (.slice (some ⟨w.heap.size, 0, none⟩) 0 0) 0 [] rfl Ho.out (some a) n c (xs.map (Value.int .i64)) rfl Hs.out H1.out (by unfold maxLen; omega) (by omega) lz ?_; intro v' w1 hown1 hgrow hat)
    rw [Nat.zero_add, List.nil_append] at hown1
    obtain ⟨A1, c1, rfl⟩ := own_shape hown1
    have Hown1 := qh hown1
    have HB := qh ((upNew w (.cells #[] 3)).grown hgrow lz (fun j e => (Ho.out.lt j e).1))
    clear hown1 hgrow hat
    go_wp2
    go_ret
    exact ⟨A1, c1, rfl, Hown1.out, HB.out⟩



end Go.Proofs.YtlcgbnmmbheleaaGreat

namespace Go.Proofs.YtlcgbnmmbheleaaGreat
open Go Go.RowKit
attribute [local go_sem ↓] Go.wp_at_zero Go.wp_at_succ

def NdTs (w : World) (base n : Nat) (vs : List Value) (nd : Nat → Value) (ts : List Tk) : Prop :=
  ts.length = n ∧ (∀ j, j < n → vs[j * 2]? = some (.int .i64 (ts[j]?.getD (0, [])).1) ∧ vs[j * 2 + 1]? = some (nd j) ∧ ∃ A m c, nd j = .slice A m c ∧ w.ownsRow base 3 1 (.slice A m c) m ((ts[j]?.getD (0, [])).2.map (Value.int .i64))) ∧
  (∀ i j, i < n → j < n → i ≠ j → ∀ b, (nd i).ownBlock = some b → (nd j).ownBlock ≠ some b)
def OwnTs (w : World) (base : Nat) (v : Value) (n : Nat) (ts : List Tk) : Prop := ∃ vs nd, w.ownsRow base 40 2 v n vs ∧ NdTs w base n vs nd ts

theorem own_types {w : World} {base base' s s' n n' b : Nat} {t t' : TypeId} {u v : Value} {xs ys : List Value} (h : w.ownsRow base t s u n xs) (h' : w.ownsRow base' t' s' v n' ys) (ht : t ≠ t') (hb : u.ownBlock = some b) : v.ownBlock ≠ some b := by
  intro hb'
  rcases h.2 with ⟨rfl, _⟩ | ⟨g, _, _, rfl, _, hg, _⟩
  · cases hb
  · rcases h'.2 with ⟨rfl, _⟩ | ⟨g', _, _, rfl, _, hg', _⟩
    · cases hb'
    · simp [Value.ownBlock] at hb hb'
      subst hb hb'
      rw [hg] at hg'
      injection hg' with e
      injection e with _ e
      exact ht e
section
variable {w w' : World} {base base' n : Nat} {v : Value} {vs : List Value} {nd : Nat → Value} {ts : List Tk}
theorem NdTs.keep (h : NdTs w base n vs nd ts) (hk : ∀ b, base ≤ b → b < w.heap.size → w'.heap[b]? = w.heap[b]?) : NdTs w' base n vs nd ts :=
  ⟨h.1, fun j hj => by
    obtain ⟨h1, h2, A, m, c, h3, h4⟩ := h.2.1 j hj
    exact ⟨h1, h2, A, m, c, h3, own_keep h4 (fun b hb => hk b (h4.lt b hb).1 (h4.lt b hb).2)⟩, h.2.2⟩
theorem OwnTs.keep (h : OwnTs w base v n ts) (hk : ∀ b, base ≤ b → b < w.heap.size → w'.heap[b]? = w.heap[b]?) : OwnTs w' base v n ts := by
  obtain ⟨vs, nd, h1, h2⟩ := h
  exact ⟨vs, nd, own_keep h1 (fun b hb => hk b (h1.lt b hb).1 (h1.lt b hb).2), h2.keep hk⟩
theorem OwnTs.below (h : OwnTs w base v n ts) (hb : Below w.heap.size w w') : OwnTs w' base v n ts := h.keep (fun b _ hlt => hb.block b hlt)
theorem NdTs.grown {row : Value} {m : Nat} {xs : List Value} (h : NdTs w base n vs nd ts) (ho : w.ownsRow base' 40 2 row m xs) (hg : w.grownBy w' row.ownBlock) : NdTs w' base n vs nd ts :=
  ⟨h.1, fun j hj => by
    obtain ⟨h1, h2, A, m, c, h3, h4⟩ := h.2.1 j hj
    exact ⟨h1, h2, A, m, c, h3, own_keep h4 (fun b hb => hg.block b (h4.lt b hb).2 (fun e => own_types ho h4 (by decide) e.symm hb))⟩, h.2.2⟩
theorem NdTs.nil : NdTs w base 0 [] (fun _ => .slice none 0 0) [] := ⟨rfl, fun j hj => by omega, fun i j hi => by omega⟩
theorem NdTs.snoc {w0 : World} {A : Option Addr} {m c : Nat} {id : Int} {xs : List Int} (h : NdTs w base n vs nd ts) (hl : vs.length = n * 2) (hold : ∀ j, j < n → ∀ b, (nd j).ownBlock = some b → b < w0.heap.size) (hx : w.ownsRow w0.heap.size 3 1 (.slice A m c) m (xs.map (Value.int .i64))) (hb : base ≤ w0.heap.size) :
    NdTs w base (n + 1) (vs ++ [.int .i64 id, .slice A m c]) (fun j => if j = n then .slice A m c else nd j) (ts ++ [(id, xs)]) := by
  have hts := h.1
  refine ⟨by simp [hts], fun j hj => ?_, fun i j hi hj hij b hb1 hb2 => ?_⟩
  · by_cases e : j = n
    · subst e
      dsimp only
      have g1 : (vs ++ [.int .i64 id, .slice A m c])[j * 2]? = some (.int .i64 id) := by rw [List.getElem?_append_right (by omega), hl, Nat.sub_self]; rfl
      have g2 : (vs ++ [.int .i64 id, .slice A m c])[j * 2 + 1]? = some (.slice A m c) := by rw [List.getElem?_append_right (by omega), hl, show j * 2 + 1 - j * 2 = 1 by omega]; rfl
      have g3 : (ts ++ [(id, xs)])[j]? = some (id, xs) := by rw [List.getElem?_append_right (by omega), hts, Nat.sub_self]; rfl
      rw [if_pos rfl, g1, g2, g3]
      refine ⟨rfl, rfl, A, m, c, rfl, ?_⟩
      exact ⟨hx.1, hx.2.imp (fun h => h) (fun ⟨g, cap, cur, a, b, c⟩ => ⟨g, cap, cur, a, by omega, c⟩)⟩
    · obtain ⟨h1, h2, A', m', c', h3, h4⟩ := h.2.1 j (by omega)
      dsimp only
      rw [if_neg e, List.getElem?_append_left (by omega), List.getElem?_append_left (by omega), List.getElem?_append_left (by omega)]
      exact ⟨h1, h2, A', m', c', h3, h4⟩
  · dsimp only at hb1 hb2
    by_cases ei : i = n
    · have ej : j ≠ n := fun e => hij (by omega)
      rw [if_pos ei] at hb1
      rw [if_neg ej] at hb2
      have := hold j (by omega) b hb2
      have := (hx.lt b hb1).1
      omega
    · rw [if_neg ei] at hb1
      by_cases ej : j = n
      · rw [if_pos ej] at hb2
        have := hold i (by omega) b hb1
        have := (hx.lt b hb2).1
        omega
      · rw [if_neg ej] at hb2
        exact h.2.2 i j (by omega) (by omega) hij b hb1 hb2
theorem NdTs.old (h : NdTs w base n vs nd ts) : ∀ j, j < n → ∀ b, (nd j).ownBlock = some b → b < w.heap.size := fun j hj b hb => by
  obtain ⟨_, _, A, m, c, h3, h4⟩ := h.2.1 j hj
  rw [h3] at hb
  exact (h4.lt b hb).2
theorem own_cap' {w : World} {base : Nat} {e : TypeId} {size : Nat} {A : Option Addr} {n c : Nat} {xs : List Value} (h : w.ownsRow base e size (.slice A n c) n xs) : n ≤ c := by
  rcases h.2 with ⟨e, h0⟩ | ⟨g, cap, cur, e, _, _, hc, _⟩
  · omega
  · injection e with _ _ e3; omega
theorem OwnTs.rd {A : Option Addr} {c : Nat} (h : OwnTs w base (.slice A n c) n ts) (hn : n ≤ 9223372036854775807) (hm : ∀ t ∈ ts, t.2.length ≤ 9223372036854775807) : RdT w w.heap.size A n ts := by
  obtain ⟨vs, nd, h1, h2⟩ := h
  refine RdT.of_own h1 (B := w.heap.size) ⟨by rw [h1.1, h2.1], fun j hj => ?_⟩ (Nat.le_refl _) hn
  obtain ⟨e1, e2, A', m', c', e3, e4⟩ := h2.2.1 j (by rw [← h2.1]; exact hj)
  have hl : (ts[j]?.getD (0, [])).2.length = m' := by have := e4.1; simpa using this
  refine ⟨A', m', c', e1, by rw [e2, e3], own_cap' e4, RdI.of_own e4 ?_⟩
  rw [← hl, List.getElem?_eq_getElem hj]
  exact hm _ (List.getElem_mem hj)
end
end Go.Proofs.YtlcgbnmmbheleaaGreat

namespace Go.Proofs.YtlcgbnmmbheleaaGreat
open Go Go.RowKit

theorem own_rdI {w : World} {base : Nat} {t : TypeId} {A : Option Addr} {n c : Nat} {xs : List Int} (h : w.ownsRow base t 1 (.slice A n c) n (xs.map (Value.int .i64))) (hn : n ≤ 9223372036854775807) : RdI w w.heap.size A n xs := by
  have hl : xs.length = n := by have := h.1; simpa using this
  refine ⟨hl, hn, fun hp => ?_⟩
  obtain ⟨g, cap, hv, _, hlt⟩ := h.form hp
  have hA : A = some ⟨g, 0, none⟩ := by injection hv
  subst hA
  refine ⟨g, 0, rfl, hlt, fun j hj => ?_⟩
  have e1 := h.cells (g := g) rfl j (.int .i64 (xs[j]?.getD 0)) (by rw [List.getElem?_map, List.getElem?_eq_getElem (by omega)]; rfl)
  rwa [addr_add] at e1
theorem own_len {w : World} {base : Nat} {t : TypeId} {A : Option Addr} {n c : Nat} {xs : List Int} (h : w.ownsRow base t 1 (.slice A n c) n (xs.map (Value.int .i64))) : xs.length = n := by have := h.1; simpa using this
end Go.Proofs.YtlcgbnmmbheleaaGreat
