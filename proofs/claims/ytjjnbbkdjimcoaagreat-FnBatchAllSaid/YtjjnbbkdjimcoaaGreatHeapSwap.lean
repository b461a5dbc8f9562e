/- Walks: the queue's Len, Swap, Pop; the methods that an interface value with a *queue reaches. -/
import Derived.Test.YtjjnbbkdjimcoaaGreatHeapLess
import Derived.Test.YtjjnbbkdjimcoaaGreatJ11
import Derived.Test.YtjjnbbkdjimcoaaGreatJ3
import Derived.Test.YtjjnbbkdjimcoaaGreatJ10
namespace Go.Proofs.YtjjnbbkdjimcoaaGreat
set_option linter.unusedSimpArgs false
set_option linter.unusedVariables false
open Go Go.RowKit
attribute [local go_sem ↓] Go.wp_at_zero Go.wp_at_succ

/-- A cell of a row of the call's own is set. -/
theorem own_setS {w : World} {base g n c j s : Nat} {t : TypeId} {vs : List Value} (h : w.ownsRow base t s (.slice (some ⟨g, 0, none⟩) n c) n vs) (u : Value) :
    (w.setCell ⟨g, j, none⟩ u).ownsRow base t s (.slice (some ⟨g, 0, none⟩) n c) n (vs.set j u) := by
  have hl := h.1
  refine ⟨by rw [List.length_set]; exact hl, ?_⟩
  rcases h.2 with ⟨e, _⟩ | ⟨g', cap, cur, e, h1, h2, h3, h4, h5, h6⟩
  · cases e
  · injection e with e1 e2 e3
    injection e1 with e1
    injection e1 with e1
    subst e1 e3
    have hb := Blk.set_ (show Blk w g t cur from h2) j u
    refine .inr ⟨g, c, _, rfl, h1, hb, h3, h4, by rw [Array.size_setIfInBounds]; exact h5, ?_⟩
    rw [Array.toList_setIfInBounds, List.take_set, h6]
/-- The cells with two elements exchanged. -/
def swV (vs : List Value) (i k : Nat) (x0 x1 y0 y1 : Value) : List Value := (((vs.set (i * 2) y0).set (i * 2 + 1) y1).set (k * 2) x0).set (k * 2 + 1) x1
theorem NdR.swap {w : World} {base n i k : Nat} {vs : List Value} {ts : List Tk} {x0 x1 y0 y1 : Value} (h : NdR w base n vs ts) (hi : i < n) (hk : k < n) (a0 : vs[i * 2]? = some x0) (a1 : vs[i * 2 + 1]? = some x1) (b0 : vs[k * 2]? = some y0) (b1 : vs[k * 2 + 1]? = some y1) :
    NdR w base n (swV vs i k x0 x1 y0 y1) (swapP ts i k) := by
  have l1 := h.1
  have l2 := h.2.1
  refine ⟨by rw [swap_len]; exact h.1, by unfold swV; simp only [List.length_set]; exact h.2.1, fun j hj => ?_⟩
  change ∃ A m c, (swV vs i k x0 x1 y0 y1)[j * 2]? = some (.int .i64 (gTk (swapP ts i k) j).1) ∧ (swV vs i k x0 x1 y0 y1)[j * 2 + 1]? = some (.slice A m c) ∧ w.ownsRow base 3 1 (.slice A m c) m ((gTk (swapP ts i k) j).2.map (Value.int .i64))
  by_cases e1 : j = k
  · subst e1
    obtain ⟨A, m, c, h1, h2, h3⟩ := h.2.2 i hi
    rw [swap_right (by omega)]
    refine ⟨A, m, c, ?_, ?_, h3⟩
    · unfold swV
      rw [List.getElem?_set_ne (by omega), List.getElem?_set_self (by simp only [List.length_set]; omega), ← a0, h1]; rfl
    · unfold swV
      rw [List.getElem?_set_self (by simp only [List.length_set]; omega), ← a1, h2]
  · by_cases e2 : j = i
    · subst e2
      obtain ⟨A, m, c, h1, h2, h3⟩ := h.2.2 k hk
      rw [swap_left (by omega) (by omega)]
      refine ⟨A, m, c, ?_, ?_, h3⟩
      · unfold swV
        rw [List.getElem?_set_ne (by omega), List.getElem?_set_ne (by omega), List.getElem?_set_ne (by omega), List.getElem?_set_self (by omega), ← b0, h1]; rfl
      · unfold swV
        rw [List.getElem?_set_ne (by omega), List.getElem?_set_ne (by omega), List.getElem?_set_self (by simp only [List.length_set]; omega), ← b1, h2]
    · obtain ⟨A, m, c, h1, h2, h3⟩ := h.2.2 j hj
      rw [swap_far e2 e1]
      refine ⟨A, m, c, ?_, ?_, h3⟩
      · unfold swV
        rw [List.getElem?_set_ne (by omega), List.getElem?_set_ne (by omega), List.getElem?_set_ne (by omega), List.getElem?_set_ne (by omega), h1]; rfl
      · unfold swV
        rw [List.getElem?_set_ne (by omega), List.getElem?_set_ne (by omega), List.getElem?_set_ne (by omega), List.getElem?_set_ne (by omega), h2]
/-- A world that differs in a row of tasks alone keeps the needs. -/
theorem NdR.only {w w' : World} {base n base' m g c : Nat} {vs vt : List Value} {ts : List Tk} (h : NdR w base n vs ts) (ho : w.ownsRow base' 43 2 (.slice (some ⟨g, 0, none⟩) m c) m vt) (hg : OnlyG w w' g) : NdR w' base n vs ts :=
  ⟨h.1, h.2.1, fun j hj => by
    obtain ⟨A, m', c', h1, h2, h3⟩ := h.2.2 j hj
    exact ⟨A, m', c', h1, h2, own_keep h3 (fun b hb => hg.block b (h3.lt b hb).2 (fun e => own_types ho h3 (by decide) (by rw [e]; rfl) hb))⟩⟩

set_option maxRecDepth 100000 in
set_option maxHeartbeats 1600000 in
theorem swap_any (base g n c i k : Nat) (vs : List Value) (ts : List Tk) (w : World) (ho : w.ownsRow base 43 2 (.slice (some ⟨g, 0, none⟩) n c) n vs) (hn : NdR w base n vs ts) (hi : i < n) (hk : k < n) :
    Calls Tryz.prog 181 #[.slice (some ⟨g, 0, none⟩) n c, .int .i64 (i : Int), .int .i64 (k : Int)] w fun e w' => e = .returned (.tuple #[]) ∧ (∃ vs', w'.ownsRow base 43 2 (.slice (some ⟨g, 0, none⟩) n c) n vs' ∧ NdR w' base n vs' (swapP ts i k)) ∧ OnlyG w w' g := by
  obtain ⟨Ai, mi, ci, a0, a1, _⟩ := hn.2.2 i hi
  obtain ⟨Ak, mk, ck, b0, b1, _⟩ := hn.2.2 k hk
  have p0 := ho.cells (g := g) rfl _ _ a0
  have p1 := ho.cells (g := g) rfl _ _ a1
  have q0 := ho.cells (g := g) rfl _ _ b0
  have q1 := ho.cells (g := g) rfl _ _ b1
  rw [addr_add, Nat.zero_add] at p0 p1 q0 q1
  have hle := own_le ho
  obtain ⟨cur, hb, _⟩ := own_blk ho
  have f0 := hb.frozen (i * 2)
  have f1 := hb.frozen (i * 2 + 1)
  have f2 := hb.frozen (k * 2)
  have f3 := hb.frozen (k * 2 + 1)
  have i0 : (0 : Int) ≤ (i : Int) := by omega
  have i1 : (i : Int) < (n : Int) := by omega
  have k0 : (0 : Int) ≤ (k : Int) := by omega
  have k1 : (k : Int) < (n : Int) := by omega
  have i3 : 0 ≤ (i : Int) * 2 := by omega
  have k3 : 0 ≤ (k : Int) * 2 := by omega
  have hend := qh (show ∀ W, W = (((w.drew.setCell ⟨g, i * 2, none⟩ (.int .i64 (ts[k]?.getD (0, [])).1)).setCell ⟨g, i * 2 + 1, none⟩ (.slice Ak mk ck)).setCell ⟨g, k * 2, none⟩ (.int .i64 (ts[i]?.getD (0, [])).1)).setCell ⟨g, k * 2 + 1, none⟩ (.slice Ai mi ci) →
      (∃ vs', W.ownsRow base 43 2 (.slice (some ⟨g, 0, none⟩) n c) n vs' ∧ NdR W base n vs' (swapP ts i k)) ∧ OnlyG w W g from fun W hW => by
    have hO : OnlyG w W g := by
      subst hW
      exact ((((OnlyG.refl w g).drew.set_g _ _).set_g _ _).set_g _ _).set_g _ _
    refine ⟨⟨swV vs i k _ _ _ _, ?_, (hn.swap hi hk a0 a1 b0 b1).only ho hO⟩, hO⟩
    subst hW
    exact own_setS (own_setS (own_setS (own_setS (show w.drew.ownsRow base 43 2 (.slice (some ⟨g, 0, none⟩) n c) n vs from ho) _) _) _) _)
  generalize (ts[i]?.getD (0, [])).1 = xi at *
  generalize (ts[k]?.getD (0, [])).1 = xk at *
  clear hn ho hb a0 a1 b0 b1
  by_cases hik : i = k
  · subst hik
    have e1 : xi = xk := by rw [p0] at q0; simpa using q0
    have e2 : (Value.slice Ai mi ci) = .slice Ak mk ck := by rw [p1] at q1; simpa using q1
    injection e2 with e2 e3 e4
    subst e1 e2 e3 e4
    clear q0 q1 f2 f3
    go_enter Tryz.func181, Tryz.ntmps181
    go_wp2_with fail
    go_region
    go_wp2
    refine ⟨rfl, .tuple #[], by simp [results, Tryz.results181, go_sem], rfl, hend.out _ rfl⟩
  · have n0 : ¬ i * 2 = k * 2 := by omega
    have n1 : ¬ i * 2 = k * 2 + 1 := by omega
    have n2 : ¬ i * 2 + 1 = k * 2 := by omega
    have n3 : ¬ i * 2 + 1 = k * 2 + 1 := by omega
    have n4 : ¬ k * 2 = i * 2 := by omega
    have n5 : ¬ k * 2 + 1 = i * 2 := by omega
    have n6 : ¬ k * 2 = i * 2 + 1 := by omega
    have n7 : ¬ k * 2 + 1 = i * 2 + 1 := by omega
    go_enter Tryz.func181, Tryz.ntmps181
    go_wp2_with fail
    go_region
    go_wp2
    refine ⟨rfl, .tuple #[], by simp [results, Tryz.results181, go_sem], rfl, hend.out _ rfl⟩
end Go.Proofs.YtjjnbbkdjimcoaaGreat
