/- Several texts in one. -/
import Derived.Test.YtjjnbbkdjimcoaaGreatCmp
import Derived.Test.YtjjnbbkdjimcoaaGreatJ10
import Derived.StillTailTactics
import Derived.Test.YtjjnbbkdjimcoaaGreatJ11
import Derived.Test.YtjjnbbkdjimcoaaGreatJ3
import Derived.Deep.LoopGhost
namespace Go.Proofs.YtjjnbbkdjimcoaaGreat
set_option linter.unusedSimpArgs false
set_option linter.unusedVariables false
open Go Go.RowKit
attribute [local go_sem ↓] Go.wp_at_zero Go.wp_at_succ

theorem same_calls {P : Program} {f : FuncId} {args : Array Value} {w : World} {v : Value} (h : Calls P f args w fun e w' => e = .returned v ∧ w = w') : Calls P f args w fun e w' => e = .returned v ∧ w' = w :=
  h.mono (fun e w' h => ⟨h.1, h.2.symm⟩)
set_option maxRecDepth 100000 in
set_option maxHeartbeats 1600000 in
theorem compare_any (A1 A2 : Option Addr) (n1 c1 n2 c2 : Nat) (id1 id2 : Int) (xs ys : List Int) (w : World) (h1 : RdI w w.heap.size A1 n1 xs) (h2 : RdI w w.heap.size A2 n2 ys) (l1 : n1 ≤ 1000) (l2 : n2 ≤ 1000)
    (b1 : ∀ x ∈ xs, -1000000 ≤ x ∧ x ≤ 1000000) (b2 : ∀ x ∈ ys, -1000000 ≤ x ∧ x ≤ 1000000) :
    Calls Tryz.prog 182 #[.agg #[.int .i64 id1, .slice A1 n1 c1], .agg #[.int .i64 id2, .slice A2 n2 c2]] w fun e w' => e = .returned (.int .i64 (compP (id1, xs) (id2, ys))) ∧ Below w.heap.size w w' := by
  have B2 := qh ((alloc_up w (.cells #[.int .i64 id1, .slice A1 n1 c1] 43)).alloc (World.size_alloc _ _ ▸ Nat.le_succ _) (.cells #[.int .i64 id2, .slice A2 n2 c2] 43))
  have Z1 := qh ((Blk.new w 43 #[.int .i64 id1, .slice A1 n1 c1]).alloc (.cells #[.int .i64 id2, .slice A2 n2 c2] 43))
  have Z2 := Blk.new (w.alloc (.cells #[.int .i64 id1, .slice A1 n1 c1] 43)) 43 #[.int .i64 id2, .slice A2 n2 c2]
  rw [World.size_alloc] at Z2
  have Z2 := qh Z2
  have H1 := qh h1
  have H2 := qh h2
  have Hb1 := qh b1
  have Hb2 := qh b2
  clear h1 h2 b1 b2
  go_enter Tryz.func182, Tryz.ntmps182
  go_wp2_with fail
  generalize (w.alloc (.cells #[.int .i64 id1, .slice A1 n1 c1] 43)).alloc (.cells #[.int .i64 id2, .slice A2 n2 c2] 43) = w2 at B2 Z1 Z2 ⊢
  have R1 := qh (show RdI w2.drew w2.heap.size A1 n1 xs from H1.out.up B2.out.drew)
  have R2 := qh (show RdI w2.drew w2.heap.size A2 n2 ys from H2.out.up B2.out.drew)
  have x0 := Z1.out.cell 0
  have x1 := Z1.out.cell 1
  have y0 := Z2.out.cell 0
  have y1 := Z2.out.cell 1
  simp only [gT, gZ, gS] at x0 x1 y0 y1
  refine wp_region_still_tail 12 (by kernel_rfl) (by kernel_rfl) ?_
  simp only [List.take_succ_cons, List.take_zero, List.drop_succ_cons, List.drop_zero]
  still_step
  still_step
  still_call (same_calls (total_any A2 n2 c2 _ ys _ R2.out l2 Hb2.out))
  still_step
  still_step
  still_call (same_calls (total_any A1 n1 c1 _ xs _ R1.out l1 Hb1.out))
  still_call (same_calls (cmpInt_any _ _ _))
  still_step
  still_step
  still_step
  still_step
  still_call (same_calls (cmpInt_any _ _ _))
  refine wpStill_nil ?_
  change wpList _ _ _ _ _ w2.drew
  go_wp2_with (go_at_call 183; refine (orTwo_any _ _ _ _ _ ((Blk.new _ _ _).cell 0) ((Blk.new _ _ _).cell 1)).mono ?_; rintro e w' ⟨rfl, rfl⟩)
  go_ret
  exact ⟨rfl, (B2.out.drew).alloc (by have := B2.out.size; exact this) _⟩

/-- Sums of needs are small. -/
def SmT (ts : List Tk) : Prop := ∀ t ∈ ts, t.2.length ≤ 1000 ∧ ∀ x ∈ t.2, -1000000 ≤ x ∧ x ≤ 1000000
theorem SmT.at_ {ts : List Tk} (h : SmT ts) {i : Nat} (hi : i < ts.length) : (gTk ts i).2.length ≤ 1000 ∧ ∀ x ∈ (gTk ts i).2, -1000000 ≤ x ∧ x ≤ 1000000 := by
  unfold gTk
  rw [List.getElem?_eq_getElem hi]
  exact h _ (List.getElem_mem hi)
theorem SmT.perm {ts us : List Tk} (h : SmT ts) (hp : us.Perm ts) : SmT us := fun t ht => h t (hp.subset ht)
set_option maxRecDepth 100000 in
set_option maxHeartbeats 1600000 in
theorem less_any (base g n c i k : Nat) (vs : List Value) (ts : List Tk) (w : World) (ho : w.ownsRow base 43 2 (.slice (some ⟨g, 0, none⟩) n c) n vs) (hn : NdR w base n vs ts) (hs : SmT ts) (hi : i < n) (hk : k < n) :
    Calls Tryz.prog 180 #[.slice (some ⟨g, 0, none⟩) n c, .int .i64 (i : Int), .int .i64 (k : Int)] w fun e w' => e = .returned (.bool (befP (gTk ts i) (gTk ts k))) ∧ Below w.heap.size w w' := by
  have hl := hn.1
  have hr := NdR.rd hn ho
  have hle := hr.le
  obtain ⟨b, o, Ai, mi, ci, e1, _, p0, p1, _, hI⟩ := hr.at_ hi
  obtain ⟨b', o', Ak, mk, ck, e2, _, q0, q1, _, hK⟩ := hr.at_ hk
  injection e1 with e1; injection e1 with e1 e1'; subst e1 e1'
  injection e2 with e2; injection e2 with e2 e2'; subst e2 e2'
  rw [Nat.zero_add] at p0 p1 q0 q1
  have si := hs.at_ (i := i) (by omega)
  have sk := hs.at_ (i := k) (by omega)
  change w.cell? _ = some (.int .i64 (gTk ts i).1) at p0
  change w.cell? _ = some (.int .i64 (gTk ts k).1) at q0
  change RdI w w.heap.size Ai mi (gTk ts i).2 at hI
  change RdI w w.heap.size Ak mk (gTk ts k).2 at hK
  have li : mi ≤ 1000 := by have := hI.len; omega
  have lk : mk ≤ 1000 := by have := hK.len; omega
  have HI := qh (show RdI w.drew w.heap.size Ai mi (gTk ts i).2 from hI)
  have HK := qh (show RdI w.drew w.heap.size Ak mk (gTk ts k).2 from hK)
  have i3 : 0 ≤ (i : Int) * 2 := by omega
  have k3 : 0 ≤ (k : Int) * 2 := by omega
  have SI := qh si.2
  have SK := qh sk.2
  have i0 : (0 : Int) ≤ (i : Int) := by omega
  have i1 : (i : Int) < (n : Int) := by omega
  have k0 : (0 : Int) ≤ (k : Int) := by omega
  have k1 : (k : Int) < (n : Int) := by omega
  have hcb := qh (comp_bef (gTk ts i) (gTk ts k))
  have he1 : ((gTk ts i).1, (gTk ts i).2) = gTk ts i := rfl
  have he2 : ((gTk ts k).1, (gTk ts k).2) = gTk ts k := rfl
  clear hn ho hr hs hI hK si sk hi hk hl he1 he2
  generalize gTk ts i = ti at *
  generalize gTk ts k = tk at *
  go_enter Tryz.func180, Tryz.ntmps180
  go_wp2_with fail
  go_still_tail 8, (by kernel_rfl)
  change wpList _ _ _ _ _ w.drew
  go_wp2_with (go_at_call 182; refine (compare_any Ai Ak mi ci mk ck ti.1 tk.1 ti.2 tk.2 _ HI.out HK.out li lk SI.out SK.out).mono ?_; rintro e w' ⟨rfl, hb⟩; have HB := qh hb; clear hb)
  go_ret
  exact ⟨ret_bool hcb.out, (Below.refl _ w).drew.trans HB.out⟩
end Go.Proofs.YtjjnbbkdjimcoaaGreat

namespace Go.Proofs.YtjjnbbkdjimcoaaGreat
set_option linter.unusedSimpArgs false
set_option linter.unusedVariables false
open Go Go.RowKit
attribute [local go_sem ↓] Go.wp_at_zero Go.wp_at_succ

/-- A cell of a row of the call's own is set. -/
theorem own_setS {w : World} {base g n c j s : Nat} {t : TypeId} {vs : List Value} (h : w.ownsRow base t s (.slice (some ⟨g, 0, none⟩) n c) n vs) (u : Value) :
    (w.setCell ⟨g, j, none⟩ u).ownsRow base t s (.slice (some ⟨g, 0, none⟩) n c) n (vs.set j u) := by
  have hl := h.1
  refine ⟨by rw [List.length_set]; exact hl, ?_⟩
  rcases h.2 with ⟨e, _⟩ | ⟨g', cap, cur, e, h1, h2, h3, h4, h5, h6⟩
  · cases e
  · injection e with e1 e2 e3
    injection e1 with e1
    injection e1 with e1
    subst e1 e3
    have hb := Blk.set_ (show Blk w g t cur from h2) j u
    refine .inr ⟨g, c, _, rfl, h1, hb, h3, h4, by rw [Array.size_setIfInBounds]; exact h5, ?_⟩
    rw [Array.toList_setIfInBounds, List.take_set, h6]
/-- The cells with two elements exchanged. -/
def swV (vs : List Value) (i k : Nat) (x0 x1 y0 y1 : Value) : List Value := (((vs.set (i * 2) y0).set (i * 2 + 1) y1).set (k * 2) x0).set (k * 2 + 1) x1
theorem NdR.swap {w : World} {base n i k : Nat} {vs : List Value} {ts : List Tk} {x0 x1 y0 y1 : Value} (h : NdR w base n vs ts) (hi : i < n) (hk : k < n) (a0 : vs[i * 2]? = some x0) (a1 : vs[i * 2 + 1]? = some x1) (b0 : vs[k * 2]? = some y0) (b1 : vs[k * 2 + 1]? = some y1) :
    NdR w base n (swV vs i k x0 x1 y0 y1) (swapP ts i k) := by
  have l1 := h.1
  have l2 := h.2.1
  refine ⟨by rw [swap_len]; exact h.1, by unfold swV; simp only [List.length_set]; exact h.2.1, fun j hj => ?_⟩
  change ∃ A m c, (swV vs i k x0 x1 y0 y1)[j * 2]? = some (.int .i64 (gTk (swapP ts i k) j).1) ∧ (swV vs i k x0 x1 y0 y1)[j * 2 + 1]? = some (.slice A m c) ∧ w.ownsRow base 3 1 (.slice A m c) m ((gTk (swapP ts i k) j).2.map (Value.int .i64))
  by_cases e1 : j = k
  · subst e1
    obtain ⟨A, m, c, h1, h2, h3⟩ := h.2.2 i hi
    rw [swap_right (by omega)]
    refine ⟨A, m, c, ?_, ?_, h3⟩
    · unfold swV
      rw [List.getElem?_set_ne (by omega), List.getElem?_set_self (by simp only [List.length_set]; omega), ← a0, h1]; rfl
    · unfold swV
      rw [List.getElem?_set_self (by simp only [List.length_set]; omega), ← a1, h2]
  · by_cases e2 : j = i
    · subst e2
      obtain ⟨A, m, c, h1, h2, h3⟩ := h.2.2 k hk
      rw [swap_left (by omega) (by omega)]
      refine ⟨A, m, c, ?_, ?_, h3⟩
      · unfold swV
        rw [List.getElem?_set_ne (by omega), List.getElem?_set_ne (by omega), List.getElem?_set_ne (by omega), List.getElem?_set_self (by omega), ← b0, h1]; rfl
      · unfold swV
        rw [List.getElem?_set_ne (by omega), List.getElem?_set_ne (by omega), List.getElem?_set_self (by simp only [List.length_set]; omega), ← b1, h2]
    · obtain ⟨A, m, c, h1, h2, h3⟩ := h.2.2 j hj
      rw [swap_far e2 e1]
      refine ⟨A, m, c, ?_, ?_, h3⟩
      · unfold swV
        rw [List.getElem?_set_ne (by omega), List.getElem?_set_ne (by omega), List.getElem?_set_ne (by omega), List.getElem?_set_ne (by omega), h1]; rfl
      · unfold swV
        rw [List.getElem?_set_ne (by omega), List.getElem?_set_ne (by omega), List.getElem?_set_ne (by omega), List.getElem?_set_ne (by omega), h2]
/-- A world that differs in a row of tasks alone keeps the needs. -/
theorem NdR.only {w w' : World} {base n base' m g c : Nat} {vs vt : List Value} {ts : List Tk} (h : NdR w base n vs ts) (ho : w.ownsRow base' 43 2 (.slice (some ⟨g, 0, none⟩) m c) m vt) (hg : OnlyG w w' g) : NdR w' base n vs ts :=
  ⟨h.1, h.2.1, fun j hj => by
    obtain ⟨A, m', c', h1, h2, h3⟩ := h.2.2 j hj
    exact ⟨A, m', c', h1, h2, own_keep h3 (fun b hb => hg.block b (h3.lt b hb).2 (fun e => own_types ho h3 (by decide) (by rw [e]; rfl) hb))⟩⟩

set_option maxRecDepth 100000 in
set_option maxHeartbeats 1600000 in
theorem swap_any (base g n c i k : Nat) (vs : List Value) (ts : List Tk) (w : World) (ho : w.ownsRow base 43 2 (.slice (some ⟨g, 0, none⟩) n c) n vs) (hn : NdR w base n vs ts) (hi : i < n) (hk : k < n) :
    Calls Tryz.prog 181 #[.slice (some ⟨g, 0, none⟩) n c, .int .i64 (i : Int), .int .i64 (k : Int)] w fun e w' => e = .returned (.tuple #[]) ∧ (∃ vs', w'.ownsRow base 43 2 (.slice (some ⟨g, 0, none⟩) n c) n vs' ∧ NdR w' base n vs' (swapP ts i k)) ∧ OnlyG w w' g := by
  obtain ⟨Ai, mi, ci, a0, a1, _⟩ := hn.2.2 i hi
  obtain ⟨Ak, mk, ck, b0, b1, _⟩ := hn.2.2 k hk
  have p0 := ho.cells (g := g) rfl _ _ a0
  have p1 := ho.cells (g := g) rfl _ _ a1
  have q0 := ho.cells (g := g) rfl _ _ b0
  have q1 := ho.cells (g := g) rfl _ _ b1
  rw [addr_add, Nat.zero_add] at p0 p1 q0 q1
  have hle := own_le ho
  obtain ⟨cur, hb, _⟩ := own_blk ho
  have f0 := hb.frozen (i * 2)
  have f1 := hb.frozen (i * 2 + 1)
  have f2 := hb.frozen (k * 2)
  have f3 := hb.frozen (k * 2 + 1)
  have i0 : (0 : Int) ≤ (i : Int) := by omega
  have i1 : (i : Int) < (n : Int) := by omega
  have k0 : (0 : Int) ≤ (k : Int) := by omega
  have k1 : (k : Int) < (n : Int) := by omega
  have i3 : 0 ≤ (i : Int) * 2 := by omega
  have k3 : 0 ≤ (k : Int) * 2 := by omega
  have hend := qh (show ∀ W, W = (((w.drew.setCell ⟨g, i * 2, none⟩ (.int .i64 (ts[k]?.getD (0, [])).1)).setCell ⟨g, i * 2 + 1, none⟩ (.slice Ak mk ck)).setCell ⟨g, k * 2, none⟩ (.int .i64 (ts[i]?.getD (0, [])).1)).setCell ⟨g, k * 2 + 1, none⟩ (.slice Ai mi ci) →
      (∃ vs', W.ownsRow base 43 2 (.slice (some ⟨g, 0, none⟩) n c) n vs' ∧ NdR W base n vs' (swapP ts i k)) ∧ OnlyG w W g from fun W hW => by
    have hO : OnlyG w W g := by
      subst hW
      exact ((((OnlyG.refl w g).drew.set_g _ _).set_g _ _).set_g _ _).set_g _ _
    refine ⟨⟨swV vs i k _ _ _ _, ?_, (hn.swap hi hk a0 a1 b0 b1).only ho hO⟩, hO⟩
    subst hW
    exact own_setS (own_setS (own_setS (own_setS (show w.drew.ownsRow base 43 2 (.slice (some ⟨g, 0, none⟩) n c) n vs from ho) _) _) _) _)
  generalize (ts[i]?.getD (0, [])).1 = xi at *
  generalize (ts[k]?.getD (0, [])).1 = xk at *
  clear hn ho hb a0 a1 b0 b1
  by_cases hik : i = k
  · subst hik
    have e1 : xi = xk := by rw [p0] at q0; simpa using q0
    have e2 : (Value.slice Ai mi ci) = .slice Ak mk ck := by rw [p1] at q1; simpa using q1
    injection e2 with e2 e3 e4
    subst e1 e2 e3 e4
    clear q0 q1 f2 f3
    go_enter Tryz.func181, Tryz.ntmps181
    go_wp2_with fail
    go_region
    go_wp2
    refine ⟨rfl, .tuple #[], by simp [results, Tryz.results181, go_sem], rfl, hend.out _ rfl⟩
  · have n0 : ¬ i * 2 = k * 2 := by omega
    have n1 : ¬ i * 2 = k * 2 + 1 := by omega
    have n2 : ¬ i * 2 + 1 = k * 2 := by omega
    have n3 : ¬ i * 2 + 1 = k * 2 + 1 := by omega
    have n4 : ¬ k * 2 = i * 2 := by omega
    have n5 : ¬ k * 2 + 1 = i * 2 := by omega
    have n6 : ¬ k * 2 = i * 2 + 1 := by omega
    have n7 : ¬ k * 2 + 1 = i * 2 + 1 := by omega
    go_enter Tryz.func181, Tryz.ntmps181
    go_wp2_with fail
    go_region
    go_wp2
    refine ⟨rfl, .tuple #[], by simp [results, Tryz.results181, go_sem], rfl, hend.out _ rfl⟩
end Go.Proofs.YtjjnbbkdjimcoaaGreat

namespace Go.Proofs.YtjjnbbkdjimcoaaGreat
set_option linter.unusedSimpArgs false
set_option linter.unusedVariables false
open Go Go.RowKit
attribute [local go_sem ↓] Go.wp_at_zero Go.wp_at_succ

/-- A queue behind a pointer, with its tasks. -/
structure QH (w : World) (base q g n c : Nat) (ts : List Tk) : Prop where
  bq : Blk w q 147 #[.slice (some ⟨g, 0, none⟩) n c]
  ne : q ≠ g
  own : ∃ vs, w.ownsRow base 43 2 (.slice (some ⟨g, 0, none⟩) n c) n vs ∧ NdR w base n vs ts
/-- The interface value. -/
abbrev qIf (q : Nat) : Value := .iface 149 (.pointer (some ⟨q, 0, none⟩))

section
variable {w : World} {q : Nat} {v : Value}
theorem m_less (h : w.cell? ⟨q, 0, none⟩ = some v) : (Go.method 299 149 (.pointer (some ⟨q, 0, none⟩)) "Less").run Tryz.prog w = .ok (180, v) w := by
  have e : (Go.method 299 149 (.pointer (some ⟨q, 0, none⟩)) "Less").run Tryz.prog w = (do let v ← loadVar 147 ⟨q, 0, none⟩; pure ((180 : FuncId), v)).run Tryz.prog w := by kernel_rfl
  rw [e]
  simp [go_sem, h]
theorem m_len (h : w.cell? ⟨q, 0, none⟩ = some v) : (Go.method 299 149 (.pointer (some ⟨q, 0, none⟩)) "Len").run Tryz.prog w = .ok (125, v) w := by
  have e : (Go.method 299 149 (.pointer (some ⟨q, 0, none⟩)) "Len").run Tryz.prog w = (do let v ← loadVar 147 ⟨q, 0, none⟩; pure ((125 : FuncId), v)).run Tryz.prog w := by kernel_rfl
  rw [e]
  simp [go_sem, h]
theorem m_swap (h : w.cell? ⟨q, 0, none⟩ = some v) : (Go.method 299 149 (.pointer (some ⟨q, 0, none⟩)) "Swap").run Tryz.prog w = .ok (181, v) w := by
  have e : (Go.method 299 149 (.pointer (some ⟨q, 0, none⟩)) "Swap").run Tryz.prog w = (do let v ← loadVar 147 ⟨q, 0, none⟩; pure ((181 : FuncId), v)).run Tryz.prog w := by kernel_rfl
  rw [e]
  simp [go_sem, h]
theorem m_pop (q : Nat) (w : World) : (Go.method 299 149 (.pointer (some ⟨q, 0, none⟩)) "Pop").run Tryz.prog w = .ok (187, .pointer (some ⟨q, 0, none⟩)) w := by kernel_rfl
end
section
variable {w w' : World} {base q g n c : Nat} {ts : List Tk}
theorem QH.len (h : QH w base q g n c ts) : ts.length = n := by obtain ⟨vs, _, h2⟩ := h.own; exact h2.1
theorem QH.cell (h : QH w base q g n c ts) : w.cell? ⟨q, 0, none⟩ = some (.slice (some ⟨g, 0, none⟩) n c) := by have := h.bq.cell 0; simpa using this
theorem QH.lt (h : QH w base q g n c ts) : g < w.heap.size := by obtain ⟨vs, h1, _⟩ := h.own; exact (h1.lt g rfl).2
theorem QH.up (h : QH w base q g n c ts) (hb : Below w.heap.size w w') : QH w' base q g n c ts := ⟨h.bq.below hb h.bq.lt, h.ne, by
  obtain ⟨vs, h1, h2⟩ := h.own
  exact ⟨vs, own_up' h1 hb, h2.keepTI (KeepTI.up hb)⟩⟩
theorem QH.drew (h : QH w base q g n c ts) : QH w.drew base q g n c ts := h.up ((Below.refl _ _).drew)
end

set_option maxRecDepth 100000 in
set_option maxHeartbeats 3200000 in
theorem down_any (base q g n0 c i n f : Nat) (ts : List Tk) (w : World) (h : QH w base q g n0 c ts) (hs : SmT ts) (hn : n ≤ n0) (hn0 : n0 ≤ 1000) (hi : i ≤ n0) (hf : n ≤ i + f) :
    Calls Tryz.prog 141 #[qIf q, .int .i64 (i : Int), .int .i64 (n : Int)] w fun e w' => (∃ b, e = .returned (.bool b)) ∧ QH w' base q g n0 c (downP f ts i n) ∧ OnlyG w w' g := by
  have H := qh h
  have Hs := qh hs
  have Hf := qh hf
  clear h hs hf
  go_enter Tryz.func141, Tryz.ntmps141
  go_wp2_with fail
  go_loopw [7] (fun v wr => ∃ (j f' : Nat) (ts' : List Tk), v = .int .i64 (j : Nat) ∧ j ≤ n0 ∧ QH wr base q g n0 c ts' ∧ SmT ts' ∧ n ≤ j + f' ∧ downP f' ts' j n = downP f ts i n ∧ OnlyG w wr g) (fun v _ => n0 + 1 - (intOf v).toNat)
  case atStart => exact ⟨i, f, ts, rfl, hi, H.out, Hs.out, Hf.out, rfl, OnlyG.refl _ _⟩
  case round =>
    clear H Hs Hf
    obtain ⟨j, f', ts', rfl, hj, hq, hs, hf, he, hg⟩ := hrel
    have HQ := qh hq
    have HS := qh hs
    have HE := qh he
    have HG := qh hg
    have Hfl := qh hf
    have HQL := qh hq.len
    clear hq hs he hg hf
    have v0 : IntKind.i64.wrap (2 * (j : Int)) = 2 * (j : Int) := wr64 (by omega) (by omega)
    have v1 : IntKind.i64.wrap (2 * (j : Int) + 1) = 2 * (j : Int) + 1 := wr64 (by omega) (by omega)
    have v2 : IntKind.i64.wrap (2 * (j : Int) + 1 + 1) = 2 * (j : Int) + 1 + 1 := wr64 (by omega) (by omega)
    by_cases hlt : 2 * j + 1 < n
    · have t1 : decide ((n : Int) ≤ 2 * (j : Int) + 1) = false := by simp; omega
      have t2 : decide (2 * (j : Int) + 1 < 0) = false := by simp; omega
      obtain ⟨f2, rfl⟩ : ∃ f2, f' = f2 + 1 := ⟨f' - 1, by have := Hfl.out; omega⟩
      by_cases h2 : 2 * j + 1 + 1 < n
      · have t3 : decide (2 * (j : Int) + 1 + 1 < (n : Int)) = true := by simp; omega
        have hm := m_less HQ.out.cell
        obtain ⟨vs, hown, hnd⟩ := HQ.out.own
        have hc := less_any base g n0 c (2 * j + 1 + 1) (2 * j + 1) vs ts' wr hown hnd HS.out (by omega) (by omega)
        rw [show ((2 * j + 1 + 1 : Nat) : Int) = 2 * (j : Int) + 1 + 1 from by omega, show ((2 * j + 1 : Nat) : Int) = 2 * (j : Int) + 1 from by omega] at hc
        have HC := qh hc
        clear hown hnd hc
        go_wp2_with fail
        refine HC.out.mono ?_; rintro e w2 ⟨rfl, hb⟩
        have HQ2 := qh (HQ.out.up hb)
        have HG2 := qh (HG.out.below hb)
        clear HC hm HQ HG hb
        cases hcc : befP (gTk ts' (2 * j + 1 + 1)) (gTk ts' (2 * j + 1)) with
        | true =>
          have HCH := qh (show childP ts' j n = 2 * j + 1 + 1 by unfold childP; rw [if_pos ⟨h2, hcc⟩])
          clear hcc
          have hm := m_less HQ2.out.cell
          obtain ⟨vs, hown, hnd⟩ := HQ2.out.own
          have hc := less_any base g n0 c (2 * j + 1 + 1) j vs ts' w2 hown hnd HS.out (by omega) (by omega)
          rw [show ((2 * j + 1 + 1 : Nat) : Int) = 2 * (j : Int) + 1 + 1 from by omega] at hc
          have HC3 := qh hc
          clear hown hnd hc
          go_wp2_with fail
          refine HC3.out.mono ?_; rintro e w3 ⟨rfl, hb⟩
          have HQ3 := qh (HQ2.out.up hb)
          have HG3 := qh (HG2.out.below hb)
          clear HC3 hm HQ2 HG2 hb
          cases hb3 : befP (gTk ts' (2 * j + 1 + 1)) (gTk ts' j) with
          | true =>
            have HB3 := qh hb3
            have hm := m_swap HQ3.out.cell
            obtain ⟨vs, hown, hnd⟩ := HQ3.out.own
            have hc := swap_any base g n0 c j (2 * j + 1 + 1) vs ts' w3 hown hnd (by omega) (by omega)
            rw [show ((2 * j + 1 + 1 : Nat) : Int) = 2 * (j : Int) + 1 + 1 from by omega] at hc
            have HC4 := qh hc
            clear hown hnd hc hb3
            go_wp2_with fail
            refine HC4.out.mono ?_; rintro e w4 ⟨rfl, ⟨vs4, ho4, hn4⟩, hg4⟩
            have HQ4 := qh (show QH w4 base q g n0 c (swapP ts' j (2 * j + 1 + 1)) from ⟨hg4.blk HQ3.out.bq HQ3.out.ne, HQ3.out.ne, vs4, ho4, hn4⟩)
            have HG4 := qh (HG3.out.trans hg4)
            clear HC4 hm HQ3 HG3 ho4 hn4 hg4
            go_wp2_with fail
            go_roundw
            case rel => exact ⟨2 * j + 1 + 1, f2, swapP ts' j (2 * j + 1 + 1), by go_num, by omega, HQ4.out, HS.out.perm (swap_perm (by have := HQL.out; omega) (by have := HQL.out; omega)), by have := Hfl.out; omega, by rw [← HE.out, downP, if_neg (by omega), HCH.out, if_pos HB3.out], HG4.out⟩
            case measure => simp [intOf]; omega
          | false =>
            have HB3 := qh hb3
            clear hb3
            go_wp2_with fail
            go_ret
            refine ⟨⟨_, rfl⟩, ?_, HG3.out⟩
            rw [← HE.out, downP, if_neg (by omega), HCH.out, if_neg (by rw [HB3.out]; simp)]
            exact HQ3.out
        | false =>
          have HCH := qh (show childP ts' j n = 2 * j + 1 by unfold childP; rw [if_neg (fun h => by rw [hcc] at h; cases h.2)])
          clear hcc
          have hm := m_less HQ2.out.cell
          obtain ⟨vs, hown, hnd⟩ := HQ2.out.own
          have hc := less_any base g n0 c (2 * j + 1) j vs ts' w2 hown hnd HS.out (by omega) (by omega)
          rw [show ((2 * j + 1 : Nat) : Int) = 2 * (j : Int) + 1 from by omega] at hc
          have HC3 := qh hc
          clear hown hnd hc
          go_wp2_with fail
          refine HC3.out.mono ?_; rintro e w3 ⟨rfl, hb⟩
          have HQ3 := qh (HQ2.out.up hb)
          have HG3 := qh (HG2.out.below hb)
          clear HC3 hm HQ2 HG2 hb
          cases hb3 : befP (gTk ts' (2 * j + 1)) (gTk ts' j) with
          | true =>
            have HB3 := qh hb3
            have hm := m_swap HQ3.out.cell
            obtain ⟨vs, hown, hnd⟩ := HQ3.out.own
            have hc := swap_any base g n0 c j (2 * j + 1) vs ts' w3 hown hnd (by omega) (by omega)
            rw [show ((2 * j + 1 : Nat) : Int) = 2 * (j : Int) + 1 from by omega] at hc
            have HC4 := qh hc
            clear hown hnd hc hb3
            go_wp2_with fail
            refine HC4.out.mono ?_; rintro e w4 ⟨rfl, ⟨vs4, ho4, hn4⟩, hg4⟩
            have HQ4 := qh (show QH w4 base q g n0 c (swapP ts' j (2 * j + 1)) from ⟨hg4.blk HQ3.out.bq HQ3.out.ne, HQ3.out.ne, vs4, ho4, hn4⟩)
            have HG4 := qh (HG3.out.trans hg4)
            clear HC4 hm HQ3 HG3 ho4 hn4 hg4
            go_wp2_with fail
            go_roundw
            case rel => exact ⟨2 * j + 1, f2, swapP ts' j (2 * j + 1), by go_num, by omega, HQ4.out, HS.out.perm (swap_perm (by have := HQL.out; omega) (by have := HQL.out; omega)), by have := Hfl.out; omega, by rw [← HE.out, downP, if_neg (by omega), HCH.out, if_pos HB3.out], HG4.out⟩
            case measure => simp [intOf]; omega
          | false =>
            have HB3 := qh hb3
            clear hb3
            go_wp2_with fail
            go_ret
            refine ⟨⟨_, rfl⟩, ?_, HG3.out⟩
            rw [← HE.out, downP, if_neg (by omega), HCH.out, if_neg (by rw [HB3.out]; simp)]
            exact HQ3.out
      · have t3 : decide (2 * (j : Int) + 1 + 1 < (n : Int)) = false := by simp; omega
        have HCH := qh (show childP ts' j n = 2 * j + 1 by unfold childP; rw [if_neg (fun h => h2 h.1)])
        have hm := m_less HQ.out.cell
        obtain ⟨vs, hown, hnd⟩ := HQ.out.own
        have hc := less_any base g n0 c (2 * j + 1) j vs ts' wr hown hnd HS.out (by omega) (by omega)
        rw [show ((2 * j + 1 : Nat) : Int) = 2 * (j : Int) + 1 from by omega] at hc
        have HC3 := qh hc
        clear hown hnd hc
        go_wp2_with fail
        refine HC3.out.mono ?_; rintro e w3 ⟨rfl, hb⟩
        have HQ3 := qh (HQ.out.up hb)
        have HG3 := qh (HG.out.below hb)
        clear HC3 hm HQ HG hb
        cases hb3 : befP (gTk ts' (2 * j + 1)) (gTk ts' j) with
        | true =>
          have HB3 := qh hb3
          have hm := m_swap HQ3.out.cell
          obtain ⟨vs, hown, hnd⟩ := HQ3.out.own
          have hc := swap_any base g n0 c j (2 * j + 1) vs ts' w3 hown hnd (by omega) (by omega)
          rw [show ((2 * j + 1 : Nat) : Int) = 2 * (j : Int) + 1 from by omega] at hc
          have HC4 := qh hc
          clear hown hnd hc hb3
          go_wp2_with fail
          refine HC4.out.mono ?_; rintro e w4 ⟨rfl, ⟨vs4, ho4, hn4⟩, hg4⟩
          have HQ4 := qh (show QH w4 base q g n0 c (swapP ts' j (2 * j + 1)) from ⟨hg4.blk HQ3.out.bq HQ3.out.ne, HQ3.out.ne, vs4, ho4, hn4⟩)
          have HG4 := qh (HG3.out.trans hg4)
          clear HC4 hm HQ3 HG3 ho4 hn4 hg4
          go_wp2_with fail
          go_roundw
          case rel => exact ⟨2 * j + 1, f2, swapP ts' j (2 * j + 1), by go_num, by omega, HQ4.out, HS.out.perm (swap_perm (by have := HQL.out; omega) (by have := HQL.out; omega)), by have := Hfl.out; omega, by rw [← HE.out, downP, if_neg (by omega), HCH.out, if_pos HB3.out], HG4.out⟩
          case measure => simp [intOf]; omega
        | false =>
          have HB3 := qh hb3
          clear hb3
          go_wp2_with fail
          go_ret
          refine ⟨⟨_, rfl⟩, ?_, HG3.out⟩
          rw [← HE.out, downP, if_neg (by omega), HCH.out, if_neg (by rw [HB3.out]; simp)]
          exact HQ3.out
    · have t1 : decide ((n : Int) ≤ 2 * (j : Int) + 1) = true := by simp; omega
      go_wp2_with fail
      go_ret
      refine ⟨⟨_, rfl⟩, ?_, HG.out⟩
      rw [← HE.out]
      cases f' with
      | zero => exact HQ.out
      | succ f2 => rw [downP, if_pos (by omega)]; exact HQ.out
end Go.Proofs.YtjjnbbkdjimcoaaGreat

namespace Go.Proofs.YtjjnbbkdjimcoaaGreat
set_option linter.unusedSimpArgs false
set_option linter.unusedVariables false
open Go Go.RowKit
attribute [local go_sem ↓] Go.wp_at_zero Go.wp_at_succ

/-- Of what was there only two blocks turned. -/
structure OnlyQ (w w' : World) (q g : Nat) : Prop where
  os : w'.os = w.os
  tape : w'.tape = w.tape
  output : w'.output = w.output
  size : w.heap.size ≤ w'.heap.size
  block : ∀ b, b < w.heap.size → b ≠ q → b ≠ g → w'.heap[b]? = w.heap[b]?
section
variable {w w' w'' : World} {q g base n m c : Nat} {ts : List Tk} {vs : List Value}
theorem OnlyQ.of (h : OnlyG w w' g) : OnlyQ w w' q g := ⟨h.os, h.tape, h.output, h.size, fun b hb _ hg => h.block b hb hg⟩
theorem OnlyQ.ofq (h : OnlyG w w' q) : OnlyQ w w' q g := ⟨h.os, h.tape, h.output, h.size, fun b hb hq _ => h.block b hb hq⟩
theorem OnlyQ.trans (h : OnlyQ w w' q g) (k : OnlyQ w' w'' q g) : OnlyQ w w'' q g :=
  ⟨k.os.trans h.os, k.tape.trans h.tape, k.output.trans h.output, Nat.le_trans h.size k.size, fun b hb hq hg => (k.block b (by have := h.size; omega) hq hg).trans (h.block b hb hq hg)⟩
theorem OnlyQ.to_below {B : Nat} {w0 : World} (hb : Below B w0 w) (h : OnlyQ w w' q g) (hq : B ≤ q) (hg : B ≤ g) (hs : B ≤ w.heap.size) : Below B w0 w' :=
  hb.trans ⟨h.os, h.tape, h.output, h.size, fun b hb' => h.block b (by omega) (by omega) (by omega)⟩
theorem own_take (ho : w.ownsRow base 43 2 (.slice (some ⟨g, 0, none⟩) n c) n vs) (hm : m ≤ n) (hl : vs.length = n * 2) : w.ownsRow base 43 2 (.slice (some ⟨g, 0, none⟩) m c) m (vs.take (m * 2)) := by
  refine ⟨by rw [List.length_take, Nat.min_eq_left (by omega)], ?_⟩
  rcases ho.2 with ⟨e, _⟩ | ⟨g', cap, cur, e, h1, h2, h3, h4, h5, h6⟩
  · cases e
  · injection e with e1 e2 e3
    injection e1 with e1
    injection e1 with e1
    subst e1 e3
    refine .inr ⟨g, c, cur, rfl, h1, h2, by omega, h4, h5, ?_⟩
    rw [← h6, List.take_take, Nat.min_eq_left (by omega)]
theorem NdR.take (h : NdR w base n vs ts) (hm : m ≤ n) : NdR w base m (vs.take (m * 2)) (ts.take m) := by
  refine ⟨by rw [List.length_take, h.1]; omega, by rw [List.length_take, h.2.1]; omega, fun j hj => ?_⟩
  obtain ⟨A, k, c, h1, h2, h3⟩ := h.2.2 j (by omega)
  rw [List.getElem?_take_of_lt (show j * 2 < m * 2 by omega), List.getElem?_take_of_lt (show j * 2 + 1 < m * 2 by omega), List.getElem?_take_of_lt hj]
  exact ⟨A, k, c, h1, h2, h3⟩
end

theorem qlen_any (A : Option Addr) (n c : Nat) (w : World) : Calls Tryz.prog 125 #[.slice A n c] w fun e w' => e = .returned (.int .i64 (n : Int)) ∧ w = w' := by
  go_enter Tryz.func125, Tryz.ntmps125
  go_wp2
  go_ret
  exact ⟨rfl, rfl⟩

set_option maxRecDepth 100000 in
set_option maxHeartbeats 1600000 in
theorem init0_any (q c : Nat) (A : Option Addr) (w : World) (h : w.cell? ⟨q, 0, none⟩ = some (.slice A 0 c)) :
    Calls Tryz.prog 124 #[qIf q] w fun e w' => e = .returned (.tuple #[]) ∧ w = w' := by
  have hm := m_len h
  go_enter Tryz.func124, Tryz.ntmps124
  go_wp2_with fail
  refine (qlen_any A 0 c w).mono ?_; rintro e w1 ⟨rfl, rfl⟩
  go_wp2_with fail
  go_loopw [3] (fun v wr => v = .int .i64 (-1) ∧ wr = w) (fun _ _ => 0)
  case atStart => exact ⟨rfl, rfl⟩
  case round =>
    obtain ⟨rfl, rfl⟩ := hrel
    go_wp2_with fail
    refine ⟨rfl, .tuple #[], by simp [results, Tryz.results124, go_sem], rfl, rfl⟩

set_option maxRecDepth 100000 in
set_option maxHeartbeats 1600000 in
theorem init_any (base q g n c : Nat) (ts : List Tk) (w : World) (h : QH w base q g n c ts) (hs : SmT ts) (hn : 1 ≤ n) (hn0 : n ≤ 1000) :
    Calls Tryz.prog 124 #[qIf q] w fun e w' => e = .returned (.tuple #[]) ∧ QH w' base q g n c (initP (n / 2) ts) ∧ OnlyG w w' g := by
  have hm := m_len h.cell
  have H := qh h
  have Hs := qh hs
  have hd : Int.tdiv (n : Int) 2 = ((n / 2 : Nat) : Int) := by rw [Int.tdiv_eq_ediv_of_nonneg (by omega)]; omega
  have v0 : IntKind.i64.wrap ((n / 2 : Nat) : Int) = ((n / 2 : Nat) : Int) := wr64 (by omega) (by omega)
  have v1 : IntKind.i64.wrap (((n / 2 : Nat) : Int) - 1) = ((n / 2 : Nat) : Int) - 1 := wr64 (by omega) (by omega)
  clear h hs
  go_enter Tryz.func124, Tryz.ntmps124
  go_wp2_with fail
  refine (qlen_any _ n c w).mono ?_; rintro e w1 ⟨rfl, rfl⟩
  clear hm
  go_wp2_with fail
  obtain ⟨hf, hh⟩ : ∃ hf, hf = n / 2 := ⟨_, rfl⟩
  have hq2 : (n : Int) / 2 = (hf : Int) := by omega
  have HH := qh hh
  have hf1 : hf ≤ 500 := by omega
  have hf2 : hf ≤ n := by omega
  clear hd v0 v1
  go_loopw [3] (fun v wr => ∃ (k : Nat) (ts' : List Tk), v = .int .i64 ((k : Int) - 1) ∧ k ≤ hf ∧ QH wr base q g n c ts' ∧ SmT ts' ∧ initP k ts' = initP hf ts ∧ OnlyG w wr g) (fun v _ => (intOf v + 1).toNat)
  case atStart => exact ⟨hf, ts, by rw [hq2], Nat.le_refl _, H.out, Hs.out, rfl, OnlyG.refl _ _⟩
  case round =>
    clear H Hs hq2 hh
    obtain ⟨k, ts', rfl, hk, hq, hs', he, hg⟩ := hrel
    have HQ := qh hq
    have HS := qh hs'
    have HE := qh he
    have HG := qh hg
    clear hq hs' he hg
    have hl := HQ.out.len
    cases k with
    | zero =>
      go_wp2_with fail
      refine ⟨rfl, .tuple #[], by simp [results, Tryz.results124, go_sem], rfl, ?_, HG.out⟩
      rw [← HH.out, ← HE.out]; exact HQ.out
    | succ k =>
      have e1 : ((k + 1 : Nat) : Int) - 1 = (k : Int) := by omega
      rw [e1]
      have v2 : IntKind.i64.wrap ((k : Int) - 1) = (k : Int) - 1 := wr64 (by omega) (by omega)
      go_wp2_with fail
      refine (down_any base q g n c k n n ts' wr HQ.out HS.out (Nat.le_refl _) hn0 (by omega) (by omega)).mono ?_; rintro e w2 ⟨⟨bb, rfl⟩, hq2, hg2⟩
      have HQ2 := qh hq2
      have HG2 := qh (HG.out.trans hg2)
      clear HQ HG hq2 hg2
      go_wp2_with fail
      go_roundw
      case rel => exact ⟨k, downP n ts' k n, rfl, by omega, HQ2.out, HS.out.perm (down_perm _ _ _ _ (by omega)), by rw [← HE.out, initP, hl], HG2.out⟩
      case measure => simp [intOf]

set_option maxRecDepth 100000 in
set_option maxHeartbeats 3200000 in
theorem qpop_any (base q g m c : Nat) (ts : List Tk) (w : World) (h : QH w base q g (m + 1) c ts) (hm : m ≤ 1000) :
    Calls Tryz.prog 187 #[.pointer (some ⟨q, 0, none⟩)] w fun e w' => (∃ A2 n2 c2, e = .returned (.iface 43 (.agg #[.int .i64 (gTk ts m).1, .slice A2 n2 c2])) ∧ w'.ownsRow base 3 1 (.slice A2 n2 c2) n2 ((gTk ts m).2.map (Value.int .i64))) ∧ QH w' base q g m c (ts.take m) ∧ OnlyG w w' q := by
  obtain ⟨vs, hown, hnd⟩ := h.own
  have hq := h.cell
  obtain ⟨A2, n2, c2, a0, a1, a2⟩ := hnd.2.2 m (by omega)
  have p0 := hown.cells (g := g) rfl _ _ a0
  have p1 := hown.cells (g := g) rfl _ _ a1
  rw [addr_add, Nat.zero_add] at p0 p1
  change w.cell? _ = some (.int .i64 (gTk ts m).1) at p0
  have hcap := own_cap' hown
  have Hq := qh h.bq
  have lq := h.bq.lt
  have lg := h.lt
  have i0 : (0 : Int) ≤ (m : Int) := by omega
  have v1 : IntKind.i64.wrap (m : Int) = (m : Int) := wr64 (by omega) (by omega)
  have i1 : (m : Int) < (m : Int) + 1 := by omega
  have i3 : 0 ≤ (m : Int) * 2 := by omega
  have hne := h.ne
  have Hown := qh h.own
  have Ha2 := qh a2
  clear hown hnd a0 a1 a2 h
  go_enter Tryz.func187, Tryz.ntmps187
  go_wp2_with fail
  have K0 := qh (show ∀ W : World, (∀ b, b < w.heap.size → W.heap[b]? = w.heap[b]?) → W.cell? ⟨q, 0, none⟩ = some (.slice (some ⟨g, 0, none⟩) (m + 1) c) ∧ W.cell? ⟨g, m * 2, none⟩ = some (.int .i64 (gTk ts m).1) ∧ W.cell? ⟨g, m * 2 + 1, none⟩ = some (.slice A2 n2 c2) from
    fun W hW => ⟨(World.cell?_of_block (hW _ lq)).trans hq, (World.cell?_of_block (hW _ lg)).trans p0, (World.cell?_of_block (hW _ lg)).trans p1⟩)
  refine wp_region_mix (.take 0 (.take 1 (.take 2 (.take 3 (.take 4 (.take 5 (.take 6 (.take 7 (.take 8 (.take 9 (.bar 10 (.bar 11 .nil)))))))))))) (fun w' => w'.cell? ⟨q, 0, none⟩ = some (.slice (some ⟨g, 0, none⟩) (m + 1) c) ∧ w'.cell? ⟨g, m * 2, none⟩ = some (.int .i64 (gTk ts m).1) ∧ w'.cell? ⟨g, m * 2 + 1, none⟩ = some (.slice A2 n2 c2)) (by kernel_rfl) (by kernel_rfl) ⟨hq, p0, p1⟩ (fun _ => ?_)
  have HB0 := qh ((Below.refl w.heap.size w).drew)
  generalize w.drew = u0 at HB0 ⊢
  repeat ((first | refine wpMix_skip (by rfl) (by rfl) ?_ | (refine wpMix_take (v := ?_) (by rfl) (by rfl) (fun wS hSt => ?_) ?_; rotate_left; (focus ((try dsimp only at hSt); (go_simp <;> with_reducible rfl); done)))); (try simp only [Act.put, pS, pZ, pC]))
  (refine wpMix_bar (by rfl) (fun K hK => ?_); go_simp)
  have HB1 := qh (HB0.out.alloc HB0.out.size (.cells #[.int .i64 0, .slice none 0 0] 43))
  have X1 := qh (Blk.new u0 43 #[.int .i64 0, .slice none 0 0])
  ((try dsimp only); refine nxK hK _ _ (K0.out _ (fun b hb => HB1.out.block b hb)) ?_; clear hK K; (try simp only [Act.put, pS, pZ, pC]))
  have ls : w.heap.size ≤ u0.heap.size := HB0.out.size
  generalize u0.alloc (.cells #[.int .i64 0, .slice none 0 0] 43) = u1 at HB1 X1 ⊢
  generalize u0.heap.size = s1 at X1 ls ⊢
  clear HB0
  have y0 := X1.out.cell 0
  have y1 := X1.out.cell 1
  simp only [gT, gZ, gS] at y0 y1
  have f0 := X1.out.frozen 0
  have f1 := X1.out.frozen 1
  (refine wpMix_bar (by rfl) (fun K hK => ?_); go_simp)
  have X2 := qh ((X1.out.set_ 0 (.int .i64 (gTk ts m).1)).set_ 1 (.slice A2 n2 c2))
  have HB2 := qh (show Below w.heap.size w ((u1.setCell ⟨s1, 0, none⟩ (.int .i64 (gTk ts m).1)).setCell ⟨s1, 1, none⟩ (.slice A2 n2 c2)) from
    ⟨HB1.out.os, HB1.out.tape, HB1.out.output, by simp [World.setCell]; exact HB1.out.size, fun b hb => ((Below.heap_setCell _ _ _ b (by show b ≠ s1; omega)).trans (Below.heap_setCell _ _ _ b (by show b ≠ s1; omega))).trans (HB1.out.block b hb)⟩)
  ((try dsimp only); refine nxK hK _ _ (K0.out _ (fun b hb => HB2.out.block b hb)) ?_; clear hK K; (try simp only [Act.put, pS, pZ, pC]))
  refine wpMix_nil ?_
  clear y0 y1 f0 f1 HB1 X1
  generalize (u1.setCell ⟨s1, 0, none⟩ (.int .i64 (gTk ts m).1)).setCell ⟨s1, 1, none⟩ (.slice A2 n2 c2) = u2 at HB2 X2 ⊢
  have Z0 := (K0.out _ (fun b hb => HB2.out.block b hb)).1
  have q0 : (u2.drew).cell? ⟨q, 0, none⟩ = some (.slice (some ⟨g, 0, none⟩) (m + 1) c) := Z0
  have fz : (u2.drew).frozen? ⟨q, 0, none⟩ = false := (Hq.out.below HB2.out lq).frozen 0
  go_wp2_with fail
  go_region
  have G3 := qh (show OnlyG w ((u2.setCell ⟨q, 0, none⟩ (.slice (some ⟨g, 0, none⟩) m c)).drew) q from ((OnlyG.refl w q).trans ⟨HB2.out.os, HB2.out.tape, HB2.out.output, HB2.out.size, fun b hb _ => HB2.out.block b hb⟩).set_g 0 _ |>.drew)
  have X3 := qh (show Blk ((u2.setCell ⟨q, 0, none⟩ (.slice (some ⟨g, 0, none⟩) m c)).drew) s1 43 #[.int .i64 (gTk ts m).1, .slice A2 n2 c2] from (X2.out.far (p := ⟨q, 0, none⟩) (by show s1 ≠ q; omega) _).drew)
  have Q3 := qh (show Blk ((u2.setCell ⟨q, 0, none⟩ (.slice (some ⟨g, 0, none⟩) m c)).drew) q 147 #[.slice (some ⟨g, 0, none⟩) m c] from ((Hq.out.below HB2.out lq).set_ 0 _).drew)
  clear q0 fz Z0 HB2 X2 K0
  generalize ((u2.setCell ⟨q, 0, none⟩ (.slice (some ⟨g, 0, none⟩) m c)).drew) = u3 at G3 X3 Q3 ⊢
  have y0 := X3.out.cell 0
  have y1 := X3.out.cell 1
  simp only [gT, gZ, gS] at y0 y1
  go_wp2_with fail
  go_ret
  refine ⟨⟨A2, n2, c2, rfl, ?_⟩, ⟨Q3.out, hne, ?_⟩, G3.out⟩
  · exact own_keep Ha2.out (fun b hb => G3.out.block b (Ha2.out.lt b hb).2 (fun e => own_blk_ne Ha2.out Hq.out (by decide) (by rw [hb, e])))
  · obtain ⟨vs, ho, hn⟩ := Hown.out
    refine ⟨vs.take (m * 2), own_take (own_keep ho (fun b hb => G3.out.block b (ho.lt b hb).2 (fun e => own_blk_ne ho Hq.out (by decide) (by rw [hb, e])))) (by omega) hn.2.1, NdR.take ⟨hn.1, hn.2.1, fun j hj => ?_⟩ (by omega)⟩
    obtain ⟨A', k, c', e1, e2, e3⟩ := hn.2.2 j hj
    exact ⟨A', k, c', e1, e2, own_keep e3 (fun b hb => G3.out.block b (e3.lt b hb).2 (fun e => own_blk_ne e3 Hq.out (by decide) (by rw [hb, e])))⟩
end Go.Proofs.YtjjnbbkdjimcoaaGreat
