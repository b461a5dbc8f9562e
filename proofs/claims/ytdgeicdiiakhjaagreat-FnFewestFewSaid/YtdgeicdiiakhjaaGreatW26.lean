/- Several texts in one. -/
import Derived.Test.YtdgeicdiiakhjaaGreatW25
import Derived.Test.YtdgeicdiiakhjaaGreatW17
namespace Go.Proofs.YtdgeicdiiakhjaaGreat
set_option linter.unusedSimpArgs false
set_option linter.unusedVariables false
open Go Go.RowKit
attribute [local go_sem ↓] Go.wp_at_zero Go.wp_at_succ

/-- Of what was there only two blocks turned. -/
structure OnlyQ (w w' : World) (q g : Nat) : Prop where
  os : w'.os = w.os
  tape : w'.tape = w.tape
  output : w'.output = w.output
  size : w.heap.size ≤ w'.heap.size
  block : ∀ b, b < w.heap.size → b ≠ q → b ≠ g → w'.heap[b]? = w.heap[b]?
section
variable {w w' w'' : World} {q g base n m c : Nat} {ts : List Tk} {vs : List Value}
theorem OnlyQ.of (h : OnlyG w w' g) : OnlyQ w w' q g := ⟨h.os, h.tape, h.output, h.size, fun b hb _ hg => h.block b hb hg⟩
theorem OnlyQ.ofq (h : OnlyG w w' q) : OnlyQ w w' q g := ⟨h.os, h.tape, h.output, h.size, fun b hb hq _ => h.block b hb hq⟩
theorem OnlyQ.trans (h : OnlyQ w w' q g) (k : OnlyQ w' w'' q g) : OnlyQ w w'' q g :=
  ⟨k.os.trans h.os, k.tape.trans h.tape, k.output.trans h.output, Nat.le_trans h.size k.size, fun b hb hq hg => (k.block b (by have := h.size; omega) hq hg).trans (h.block b hb hq hg)⟩
theorem OnlyQ.to_below {B : Nat} {w0 : World} (hb : Below B w0 w) (h : OnlyQ w w' q g) (hq : B ≤ q) (hg : B ≤ g) (hs : B ≤ w.heap.size) : Below B w0 w' :=
  hb.trans ⟨h.os, h.tape, h.output, h.size, fun b hb' => h.block b (by omega) (by omega) (by omega)⟩
theorem own_take (ho : w.ownsRow base 43 2 (.slice (some ⟨g, 0, none⟩) n c) n vs) (hm : m ≤ n) (hl : vs.length = n * 2) : w.ownsRow base 43 2 (.slice (some ⟨g, 0, none⟩) m c) m (vs.take (m * 2)) := by
  refine ⟨by rw [List.length_take, Nat.min_eq_left (by omega)], ?_⟩
  rcases ho.2 with ⟨e, _⟩ | ⟨g', cap, cur, e, h1, h2, h3, h4, h5, h6⟩
  · cases e
  · injection e with e1 e2 e3
    injection e1 with e1
    injection e1 with e1
    subst e1 e3
    refine .inr ⟨g, c, cur, rfl, h1, h2, by omega, h4, h5, ?_⟩
    rw [← h6, List.take_take, Nat.min_eq_left (by omega)]
theorem NdR.take (h : NdR w base n vs ts) (hm : m ≤ n) : NdR w base m (vs.take (m * 2)) (ts.take m) := by
  refine ⟨by rw [List.length_take, h.1]; omega, by rw [List.length_take, h.2.1]; omega, fun j hj => ?_⟩
  obtain ⟨A, k, c, h1, h2, h3⟩ := h.2.2 j (by omega)
  rw [List.getElem?_take_of_lt (show j * 2 < m * 2 by omega), List.getElem?_take_of_lt (show j * 2 + 1 < m * 2 by omega), List.getElem?_take_of_lt hj]
  exact ⟨A, k, c, h1, h2, h3⟩
end

theorem qlen_any (A : Option Addr) (n c : Nat) (w : World) : Calls Tryz.prog 84 #[.slice A n c] w fun e w' => e = .returned (.int .i64 (n : Int)) ∧ w = w' := by
  go_enter Tryz.func84, Tryz.ntmps84
  go_wp2
  go_ret
  exact ⟨rfl, rfl⟩

set_option maxRecDepth 100000 in
set_option maxHeartbeats 1600000 in
theorem init0_any (q c : Nat) (A : Option Addr) (w : World) (h : w.cell? ⟨q, 0, none⟩ = some (.slice A 0 c)) :
    Calls Tryz.prog 83 #[qIf q] w fun e w' => e = .returned (.tuple #[]) ∧ w = w' := by
  have hm := m_len h
  go_enter Tryz.func83, Tryz.ntmps83
  go_wp2_with fail
  refine (qlen_any A 0 c w).mono ?_; rintro e w1 ⟨rfl, rfl⟩
  go_wp2_with fail
  go_loopw [3] (fun v wr => v = .int .i64 (-1) ∧ wr = w) (fun _ _ => 0)
  case atStart => exact ⟨rfl, rfl⟩
  case round =>
    obtain ⟨rfl, rfl⟩ := hrel
    go_wp2_with fail
    refine ⟨rfl, .tuple #[], by simp [results, Tryz.results83, go_sem], rfl, rfl⟩

set_option maxRecDepth 100000 in
set_option maxHeartbeats 1600000 in
theorem init_any (base q g n c : Nat) (ts : List Tk) (w : World) (h : QH w base q g n c ts) (hs : SmT ts) (hn : 1 ≤ n) (hn0 : n ≤ 1000) :
    Calls Tryz.prog 83 #[qIf q] w fun e w' => e = .returned (.tuple #[]) ∧ QH w' base q g n c (initP (n / 2) ts) ∧ OnlyG w w' g := by
  have hm := m_len h.cell
  have H := qh h
  have Hs := qh hs
  have hd : Int.tdiv (n : Int) 2 = ((n / 2 : Nat) : Int) := by rw [Int.tdiv_eq_ediv_of_nonneg (by omega)]; omega
  have v0 : IntKind.i64.wrap ((n / 2 : Nat) : Int) = ((n / 2 : Nat) : Int) := wr64 (by omega) (by omega)
  have v1 : IntKind.i64.wrap (((n / 2 : Nat) : Int) - 1) = ((n / 2 : Nat) : Int) - 1 := wr64 (by omega) (by omega)
  clear h hs
  go_enter Tryz.func83, Tryz.ntmps83
  go_wp2_with fail
  refine (qlen_any _ n c w).mono ?_; rintro e w1 ⟨rfl, rfl⟩
  clear hm
  go_wp2_with fail
  obtain ⟨hf, hh⟩ : ∃ hf, hf = n / 2 := ⟨_, rfl⟩
  have hq2 : (n : Int) / 2 = (hf : Int) := by omega
  have HH := qh hh
  have hf1 : hf ≤ 500 := by omega
  have hf2 : hf ≤ n := by omega
  clear hd v0 v1
  go_loopw [3] (fun v wr => ∃ (k : Nat) (ts' : List Tk), v = .int .i64 ((k : Int) - 1) ∧ k ≤ hf ∧ QH wr base q g n c ts' ∧ SmT ts' ∧ initP k ts' = initP hf ts ∧ OnlyG w wr g) (fun v _ => (intOf v + 1).toNat)
  case atStart => exact ⟨hf, ts, by rw [hq2], Nat.le_refl _, H.out, Hs.out, rfl, OnlyG.refl _ _⟩
  case round =>
    clear H Hs hq2 hh
    obtain ⟨k, ts', rfl, hk, hq, hs', he, hg⟩ := hrel
    have HQ := qh hq
    have HS := qh hs'
    have HE := qh he
    have HG := qh hg
    clear hq hs' he hg
    have hl := HQ.out.len
    cases k with
    | zero =>
      go_wp2_with fail
      refine ⟨rfl, .tuple #[], by simp [results, Tryz.results83, go_sem], rfl, ?_, HG.out⟩
      rw [← HH.out, ← HE.out]; exact HQ.out
    | succ k =>
      have e1 : ((k + 1 : Nat) : Int) - 1 = (k : Int) := by omega
      rw [e1]
      have v2 : IntKind.i64.wrap ((k : Int) - 1) = (k : Int) - 1 := wr64 (by omega) (by omega)
      go_wp2_with fail
      refine (down_any base q g n c k n n ts' wr HQ.out HS.out (Nat.le_refl _) hn0 (by omega) (by omega)).mono ?_; rintro e w2 ⟨⟨bb, rfl⟩, hq2, hg2⟩
      have HQ2 := qh hq2
      have HG2 := qh (HG.out.trans hg2)
      clear HQ HG hq2 hg2
      go_wp2_with fail
      go_roundw
      case rel => exact ⟨k, downP n ts' k n, rfl, by omega, HQ2.out, HS.out.perm (down_perm _ _ _ _ (by omega)), by rw [← HE.out, initP, hl], HG2.out⟩
      case measure => simp [intOf]

set_option maxRecDepth 100000 in
set_option maxHeartbeats 3200000 in
theorem qpop_any (base q g m c : Nat) (ts : List Tk) (w : World) (h : QH w base q g (m + 1) c ts) (hm : m ≤ 1000) :
    Calls Tryz.prog 121 #[.pointer (some ⟨q, 0, none⟩)] w fun e w' => (∃ A2 n2 c2, e = .returned (.iface 43 (.agg #[.int .i64 (gTk ts m).1, .slice A2 n2 c2])) ∧ w'.ownsRow base 3 1 (.slice A2 n2 c2) n2 ((gTk ts m).2.map (Value.int .i64))) ∧ QH w' base q g m c (ts.take m) ∧ OnlyG w w' q := by
  obtain ⟨vs, hown, hnd⟩ := h.own
  have hq := h.cell
  obtain ⟨A2, n2, c2, a0, a1, a2⟩ := hnd.2.2 m (by omega)
  have p0 := hown.cells (g := g) rfl _ _ a0
  have p1 := hown.cells (g := g) rfl _ _ a1
  rw [addr_add, Nat.zero_add] at p0 p1
  change w.cell? _ = some (.int .i64 (gTk ts m).1) at p0
  have hcap := own_cap' hown
  have Hq := qh h.bq
  have lq := h.bq.lt
  have lg := h.lt
  have i0 : (0 : Int) ≤ (m : Int) := by omega
  have v1 : IntKind.i64.wrap (m : Int) = (m : Int) := wr64 (by omega) (by omega)
  have i1 : (m : Int) < (m : Int) + 1 := by omega
  have i3 : 0 ≤ (m : Int) * 2 := by omega
  have hne := h.ne
  have Hown := qh h.own
  have Ha2 := qh a2
  clear hown hnd a0 a1 a2 h
  go_enter Tryz.func121, Tryz.ntmps121
  go_wp2_with fail
  have K0 := qh (show ∀ W : World, (∀ b, b < w.heap.size → W.heap[b]? = w.heap[b]?) → W.cell? ⟨q, 0, none⟩ = some (.slice (some ⟨g, 0, none⟩) (m + 1) c) ∧ W.cell? ⟨g, m * 2, none⟩ = some (.int .i64 (gTk ts m).1) ∧ W.cell? ⟨g, m * 2 + 1, none⟩ = some (.slice A2 n2 c2) from
    fun W hW => ⟨(World.cell?_of_block (hW _ lq)).trans hq, (World.cell?_of_block (hW _ lg)).trans p0, (World.cell?_of_block (hW _ lg)).trans p1⟩)
  refine wp_region_mix (.take 0 (.take 1 (.take 2 (.take 3 (.take 4 (.take 5 (.take 6 (.take 7 (.take 8 (.take 9 (.bar 10 (.bar 11 .nil)))))))))))) (fun w' => w'.cell? ⟨q, 0, none⟩ = some (.slice (some ⟨g, 0, none⟩) (m + 1) c) ∧ w'.cell? ⟨g, m * 2, none⟩ = some (.int .i64 (gTk ts m).1) ∧ w'.cell? ⟨g, m * 2 + 1, none⟩ = some (.slice A2 n2 c2)) (by kernel_rfl) (by kernel_rfl) ⟨hq, p0, p1⟩ (fun _ => ?_)
  have HB0 := qh ((Below.refl w.heap.size w).drew)
  generalize w.drew = u0 at HB0 ⊢
  repeat ((first | refine wpMix_skip (by rfl) (by rfl) ?_ | (refine wpMix_take (v := ?_) (by rfl) (by rfl) (fun wS hSt => ?_) ?_; rotate_left; (focus ((try dsimp only at hSt); (go_simp <;> with_reducible rfl); done)))); (try simp only [Act.put, pS, pZ, pC]))
  (refine wpMix_bar (by rfl) (fun K hK => ?_); go_simp)
  have HB1 := qh (HB0.out.alloc HB0.out.size (.cells #[.int .i64 0, .slice none 0 0] 43))
  have X1 := qh (Blk.new u0 43 #[.int .i64 0, .slice none 0 0])
  ((try dsimp only); refine nxK hK _ _ (K0.out _ (fun b hb => HB1.out.block b hb)) ?_; clear hK K; (try simp only [Act.put, pS, pZ, pC]))
  have ls : w.heap.size ≤ u0.heap.size := HB0.out.size
  generalize u0.alloc (.cells #[.int .i64 0, .slice none 0 0] 43) = u1 at HB1 X1 ⊢
  generalize u0.heap.size = s1 at X1 ls ⊢
  clear HB0
  have y0 := X1.out.cell 0
  have y1 := X1.out.cell 1
  simp only [gT, gZ, gS] at y0 y1
  have f0 := X1.out.frozen 0
  have f1 := X1.out.frozen 1
  (refine wpMix_bar (by rfl) (fun K hK => ?_); go_simp)
  have X2 := qh ((X1.out.set_ 0 (.int .i64 (gTk ts m).1)).set_ 1 (.slice A2 n2 c2))
  have HB2 := qh (show Below w.heap.size w ((u1.setCell ⟨s1, 0, none⟩ (.int .i64 (gTk ts m).1)).setCell ⟨s1, 1, none⟩ (.slice A2 n2 c2)) from
    ⟨HB1.out.os, HB1.out.tape, HB1.out.output, by simp [World.setCell]; exact HB1.out.size, fun b hb => ((Below.heap_setCell _ _ _ b (by show b ≠ s1; omega)).trans (Below.heap_setCell _ _ _ b (by show b ≠ s1; omega))).trans (HB1.out.block b hb)⟩)
  ((try dsimp only); refine nxK hK _ _ (K0.out _ (fun b hb => HB2.out.block b hb)) ?_; clear hK K; (try simp only [Act.put, pS, pZ, pC]))
  refine wpMix_nil ?_
  clear y0 y1 f0 f1 HB1 X1
  generalize (u1.setCell ⟨s1, 0, none⟩ (.int .i64 (gTk ts m).1)).setCell ⟨s1, 1, none⟩ (.slice A2 n2 c2) = u2 at HB2 X2 ⊢
  have Z0 := (K0.out _ (fun b hb => HB2.out.block b hb)).1
  have q0 : (u2.drew).cell? ⟨q, 0, none⟩ = some (.slice (some ⟨g, 0, none⟩) (m + 1) c) := Z0
  have fz : (u2.drew).frozen? ⟨q, 0, none⟩ = false := (Hq.out.below HB2.out lq).frozen 0
  go_wp2_with fail
  go_region
  have G3 := qh (show OnlyG w ((u2.setCell ⟨q, 0, none⟩ (.slice (some ⟨g, 0, none⟩) m c)).drew) q from ((OnlyG.refl w q).trans ⟨HB2.out.os, HB2.out.tape, HB2.out.output, HB2.out.size, fun b hb _ => HB2.out.block b hb⟩).set_g 0 _ |>.drew)
  have X3 := qh (show Blk ((u2.setCell ⟨q, 0, none⟩ (.slice (some ⟨g, 0, none⟩) m c)).drew) s1 43 #[.int .i64 (gTk ts m).1, .slice A2 n2 c2] from (X2.out.far (p := ⟨q, 0, none⟩) (by show s1 ≠ q; omega) _).drew)
  have Q3 := qh (show Blk ((u2.setCell ⟨q, 0, none⟩ (.slice (some ⟨g, 0, none⟩) m c)).drew) q 90 #[.slice (some ⟨g, 0, none⟩) m c] from ((Hq.out.below HB2.out lq).set_ 0 _).drew)
  clear q0 fz Z0 HB2 X2 K0
  generalize ((u2.setCell ⟨q, 0, none⟩ (.slice (some ⟨g, 0, none⟩) m c)).drew) = u3 at G3 X3 Q3 ⊢
  have y0 := X3.out.cell 0
  have y1 := X3.out.cell 1
  simp only [gT, gZ, gS] at y0 y1
  go_wp2_with fail
  go_ret
  refine ⟨⟨A2, n2, c2, rfl, ?_⟩, ⟨Q3.out, hne, ?_⟩, G3.out⟩
  · exact own_keep Ha2.out (fun b hb => G3.out.block b (Ha2.out.lt b hb).2 (fun e => own_blk_ne Ha2.out Hq.out (by decide) (by rw [hb, e])))
  · obtain ⟨vs, ho, hn⟩ := Hown.out
    refine ⟨vs.take (m * 2), own_take (own_keep ho (fun b hb => G3.out.block b (ho.lt b hb).2 (fun e => own_blk_ne ho Hq.out (by decide) (by rw [hb, e])))) (by omega) hn.2.1, NdR.take ⟨hn.1, hn.2.1, fun j hj => ?_⟩ (by omega)⟩
    obtain ⟨A', k, c', e1, e2, e3⟩ := hn.2.2 j hj
    exact ⟨A', k, c', e1, e2, own_keep e3 (fun b hb => G3.out.block b (e3.lt b hb).2 (fun e => own_blk_ne e3 Hq.out (by decide) (by rw [hb, e])))⟩
end Go.Proofs.YtdgeicdiiakhjaaGreat

namespace Go.Proofs.YtdgeicdiiakhjaaGreat
set_option linter.unusedSimpArgs false
set_option linter.unusedVariables false
open Go Go.RowKit
attribute [local go_sem ↓] Go.wp_at_zero Go.wp_at_succ

set_option maxRecDepth 100000 in
set_option maxHeartbeats 3200000 in
theorem hpop_any (base q g m c : Nat) (ts : List Tk) (w : World) (h : QH w base q g (m + 1) c ts) (hs : SmT ts) (hm : m ≤ 900) :
    Calls Tryz.prog 85 #[qIf q] w fun e w' => (∃ A2 n2 c2, e = .returned (.iface 43 (.agg #[.int .i64 (gTk (popP ts m) m).1, .slice A2 n2 c2])) ∧ w'.ownsRow base 3 1 (.slice A2 n2 c2) n2 ((gTk (popP ts m) m).2.map (Value.int .i64))) ∧ QH w' base q g m c ((popP ts m).take m) ∧ OnlyQ w w' q g := by
  have H := qh h
  have Hs := qh hs
  have hl := h.len
  have hm1 := m_len h.cell
  have v1 : IntKind.i64.wrap (m : Int) = (m : Int) := wr64 (by omega) (by omega)
  clear h hs
  go_enter Tryz.func85, Tryz.ntmps85
  go_wp2_with fail
  refine (qlen_any _ (m + 1) c w).mono ?_; rintro e w1 ⟨rfl, rfl⟩
  have hm2 := m_swap H.out.cell
  obtain ⟨vs, hown, hnd⟩ := H.out.own
  have hc := swap_any base g (m + 1) c 0 m vs ts w hown hnd (by omega) (by omega)
  rw [show ((0 : Nat) : Int) = 0 from rfl] at hc
  have HC := qh hc
  clear hown hnd hc hm1
  go_wp2_with fail
  refine HC.out.mono ?_; rintro e w2 ⟨rfl, ⟨vs2, ho2, hn2⟩, hg2⟩
  have HQ2 := qh (show QH w2 base q g (m + 1) c (swapP ts 0 m) from ⟨hg2.blk H.out.bq H.out.ne, H.out.ne, vs2, ho2, hn2⟩)
  have HG2 := qh (OnlyQ.of (q := q) hg2)
  have HS2 := qh (Hs.out.perm (swap_perm (l := ts) (i := 0) (j := m) (by omega) (by omega)))
  clear HC ho2 hn2 hg2 H Hs hm2
  have hc := down_any base q g (m + 1) c 0 m m (swapP ts 0 m) w2 HQ2.out HS2.out (by omega) (by omega) (by omega) (by omega)
  rw [show ((0 : Nat) : Int) = 0 from rfl] at hc
  have HC := qh hc
  clear hc
  go_wp2_with fail
  refine HC.out.mono ?_; rintro e w3 ⟨⟨bb, rfl⟩, hq3, hg3⟩
  have HQ3 := qh (show QH w3 base q g (m + 1) c (popP ts m) from hq3)
  have HG3 := qh (HG2.out.trans (OnlyQ.of hg3))
  clear HC HQ2 HG2 HS2 hq3 hg3
  have hm3 := m_pop q w3
  go_wp2_with fail
  refine (qpop_any base q g m c (popP ts m) w3 HQ3.out (by omega)).mono ?_; rintro e w4 ⟨⟨A2, n2, c2, rfl, ho⟩, hq4, hg4⟩
  have HO := qh ho
  have HQ4 := qh hq4
  have HG4 := qh (HG3.out.trans (OnlyQ.ofq hg4))
  clear hm3 ho hq4 hg4 HQ3 HG3
  go_wp2_with fail
  go_ret
  exact ⟨⟨A2, n2, c2, rfl, HO.out⟩, HQ4.out, HG4.out⟩

theorem NdR.keepQ {w w' : World} {base base' q g n m c : Nat} {vs : List Value} {ts ts' : List Tk} (h : NdR w base n vs ts) (hq : QH w base' q g m c ts') (ho : OnlyQ w w' q g) : NdR w' base n vs ts := by
  obtain ⟨vt, h1, _⟩ := hq.own
  refine ⟨h.1, h.2.1, fun j hj => ?_⟩
  obtain ⟨A, k, c', e1, e2, e3⟩ := h.2.2 j hj
  exact ⟨A, k, c', e1, e2, own_keep e3 (fun b hb => ho.block b (e3.lt b hb).2 (fun e => own_blk_ne e3 hq.bq (by decide) (by rw [hb, e])) (fun e => own_types h1 e3 (by decide) rfl (by rw [hb, e])))⟩
theorem QH.grownT {w w' : World} {base base' q g n c k s : Nat} {ts : List Tk} {row : Value} {xs : List Value} (h : QH w base q g n c ts) (ho : w.ownsRow base' 43 s row k xs) (hne : row.ownBlock ≠ some g) (hg : w.grownBy w' row.ownBlock) : QH w' base q g n c ts := by
  obtain ⟨vs, h1, h2⟩ := h.own
  exact ⟨h.bq.grown hg (fun e => own_blk_ne ho h.bq (by decide) e.symm), h.ne, vs, own_keep h1 (fun b hb => hg.block b (h1.lt b hb).2 (fun e => hne (by
    have : b = g := by simp [Value.ownBlock] at hb; exact hb.symm
    rw [← this]; exact e.symm))), h2.grown ho (by decide) hg⟩
theorem as_task (a b : Value) (W : World) : (Instr.typeAssert (.iface 43 (.agg #[a, b])) 20 43 false).run Tryz.prog W = .ok (.agg #[a, b]) W := by kernel_rfl
theorem drain_zero (l : List Tk) : drainP 0 l = [] := rfl
set_option maxRecDepth 100000 in
set_option maxHeartbeats 3200000 in
theorem sorted_any (A : Option Addr) (n c : Nat) (ts : List Tk) (w : World) (h : RdT w w.heap.size A n ts) (hs : SmT ts) (hn : n ≤ 500) :
    Calls Tryz.prog 58 #[.slice A n c] w fun e w' => ∃ A' c' vs, e = .returned (.slice A' n c') ∧ w'.ownsRow w.heap.size 43 2 (.slice A' n c') n vs ∧ NdR w' w.heap.size n vs (heapP ts) ∧ Below w.heap.size w w' := by
  obtain ⟨t0, ht0, htz0, htz1, htz2⟩ := info_parts task_info
  have hl := h.len
  have Hs := qh hs
  have H := qh h
  clear h hs
  go_enter Tryz.func58, Tryz.ntmps58
  go_wp2_with fail
  refine (copyTasks_any A n c ts w H.out (by omega) (fun j hj => by have := (Hs.out.at_ (i := j) (by omega)).1; unfold gTk at this; omega)).mono ?_; rintro e w1 ⟨A1, c1, rfl, ⟨vs1, nd1, ho1, hn1⟩, hb1⟩
  have hl1 : vs1.length = n * 2 := by rw [ho1.1]
  have HN1 := qh (NdR.of hn1 hl1)
  have HO1 := qh ho1
  have HB1 := qh hb1
  clear hn1 ho1 hb1 H
  have hm0 : ∀ j, j < n → True := fun _ _ => trivial
  clear hm0
  have hal := alloc_up w1 (.cells #[.slice A1 n c1] 90)
  have B2 := qh (HB1.out.trans (hal.mono HB1.out.size))
  have O2 := qh (own_up' HO1.out hal)
  have N2 := qh (HN1.out.keepTI (KeepTI.up hal))
  have Q2 := qh (Blk.new w1 90 #[.slice A1 n c1])
  have lq := HB1.out.size
  clear hal
  go_wp2_with fail
  generalize w1.alloc (.cells #[.slice A1 n c1] 90) = w2 at B2 O2 N2 Q2 ⊢
  generalize w1.heap.size = q at Q2 lq ⊢
  clear HN1 HO1 HB1
  by_cases hn0 : n = 0
  · subst hn0
    have hq := Q2.out.cell 0
    simp only [gT, gZ] at hq
    have hts : ts = [] := List.eq_nil_of_length_eq_zero hl
    have hmk := fun W : World => run_make (P := Tryz.prog) W 24 43 t0 _ Tryz.underlying24 ht0 htz0 .i64 .i64 0 0 (by omega) (by omega) (by rw [htz2]; omega) (by omega)
    simp only [Int.toNat_zero, htz1, Nat.zero_mul] at hmk
    have hcells : (madeCells (Value.agg #[.int .i64 0, .slice none 0 0]).cells 0).size = 0 := size_madeCells _ _
    generalize madeCells (Value.agg #[.int .i64 0, .slice none 0 0]).cells 0 = mc at hmk hcells
    have O3 := qh (World.ownsRow_made (base := w.heap.size) (e := 43) (size := 2) w2 mc 0 B2.out.size (by unfold maxLen; omega) (by rw [hcells]))
    have hal := alloc_up w2 (.cells mc 43)
    have B3 := qh (B2.out.trans (hal.mono B2.out.size))
    have hq3 := (Q2.out.below hal Q2.out.lt).cell 0
    simp only [gT, gZ] at hq3
    clear hcells hal
    refine (init0_any q c1 A1 w2 hq).mono ?_; rintro e w3 ⟨rfl, rfl⟩
    clear hq
    go_wp2_with fail
    generalize w2.heap.size = g3 at O3 ⊢
    generalize w2.alloc (.cells mc 43) = w3 at O3 B3 hq3 ⊢
    go_loopw [4] (fun v wr => v = .slice (some ⟨g3, 0, none⟩) 0 0 ∧ wr = w3) (fun _ _ => 0)
    case atStart => exact ⟨rfl, rfl⟩
    case round =>
      obtain ⟨rfl, rfl⟩ := hrel
      go_wp2_with fail
      refine (qlen_any A1 0 c1 _).mono ?_; rintro e w4 ⟨rfl, rfl⟩
      go_wp2_with fail
      go_ret
      exact ⟨_, _, [], rfl, O3.out, by rw [hts]; exact NdR.nil, B3.out⟩
  · obtain ⟨g, rfl⟩ : ∃ g, A1 = some ⟨g, 0, none⟩ := by
      rcases O2.out.2 with ⟨e, hz⟩ | ⟨g', cap, cur, e, _⟩
      · exfalso; injection e; omega
      · injection e with e1; exact ⟨g', e1⟩
    have HQ := qh (show QH w2 w.heap.size q g n c1 ts from ⟨Q2.out, fun e => own_blk_ne O2.out Q2.out (by decide) (by rw [e]; rfl), vs1, O2.out, N2.out⟩)
    clear Q2 O2 N2
    have hmk := fun W : World => run_make (P := Tryz.prog) W 24 43 t0 _ Tryz.underlying24 ht0 htz0 .i64 .i64 0 n (by omega) (by omega) (by rw [htz2]; omega) (by omega)
    simp only [Int.toNat_natCast, Int.toNat_zero, htz1] at hmk
    have hcells : (madeCells (Value.agg #[.int .i64 0, .slice none 0 0]).cells (n * 2)).size = n * 2 := size_madeCells _ _
    generalize madeCells (Value.agg #[.int .i64 0, .slice none 0 0]).cells (n * 2) = mc at hmk hcells
    refine (init_any w.heap.size q g n c1 ts w2 HQ.out Hs.out (by omega) (by omega)).mono ?_; rintro e w3 ⟨rfl, hq3, hg3⟩
    have lg := HQ.out.own
    have B3 := qh (OnlyQ.to_below (q := q) B2.out (OnlyQ.of hg3) lq (by obtain ⟨vs, ho, _⟩ := HQ.out.own; exact (ho.lt g rfl).1) B2.out.size)
    have O4 := qh (World.ownsRow_made (base := w.heap.size) (e := 43) (size := 2) w3 mc n B3.out.size (by unfold maxLen; omega) hcells)
    have hal := alloc_up w3 (.cells mc 43)
    have B4 := qh (B3.out.trans (hal.mono B3.out.size))
    have HQ4 := qh (hq3.up hal)
    have hne4 := qh (show (Value.slice (some ⟨w3.heap.size, 0, none⟩) 0 n).ownBlock ≠ some g from fun e => by
      have := hq3.lt
      simp [Value.ownBlock] at e; omega)
    have HS4 := qh (Hs.out.perm (init_perm (n / 2) ts))
    have lgb := qh (show w.heap.size ≤ g by obtain ⟨vs, ho, _⟩ := HQ.out.own; exact (ho.lt g rfl).1)
    clear hcells hal hq3 hg3 HQ B2 lg
    go_wp2_with fail
    clear B3
    generalize w3.heap.size = g4 at O4 hne4 ⊢
    generalize w3.alloc (.cells mc 43) = w4 at O4 B4 HQ4 ⊢
    go_loopw [4] (fun v wr => ∃ (m k : Nat) (A5 : Option Addr) (c5 : Nat) (vs5 : List Value) (L ts' : List Tk), v = .slice A5 k c5 ∧ k + m = n ∧ QH wr w.heap.size q g m c1 ts' ∧ SmT ts' ∧ wr.ownsRow w.heap.size 43 2 (.slice A5 k c5) k vs5 ∧ NdR wr w.heap.size k vs5 L ∧
      (Value.slice A5 k c5).ownBlock ≠ some g ∧ L ++ drainP m ts' = heapP ts ∧ Below w.heap.size w wr) (fun v _ => match v with | .slice _ k _ => n - k | _ => 0)
    case atStart => exact ⟨n, 0, _, _, [], [], initP (n / 2) ts, rfl, by omega, HQ4.out, HS4.out, O4.out, NdR.nil, hne4.out, by rw [List.nil_append, heapP, hl], B4.out⟩
    case round =>
      clear O4 B4 HQ4 hne4 HS4
      obtain ⟨m, k, A5, c5, vs5, L, ts', rfl, hkm, hq, hs', ho, hnd, hne, he, hb⟩ := hrel
      have HQ := qh hq
      have HS := qh hs'
      have HO := qh ho
      have HN := qh hnd
      have HNE := qh hne
      have HE := qh he
      have HB := qh hb
      have hql := HQ.out.len
      clear hq hs' ho hnd hne he hb
      have y0 := HQ.out.cell
      cases m with
      | zero =>
        go_wp2_with fail
        refine (qlen_any _ 0 c1 _).mono ?_; rintro e w5 ⟨rfl, rfl⟩
        go_wp2_with fail
        go_ret
        have hkn : k = n := by omega
        subst hkn
        have hL : L = heapP ts := by rw [← HE.out, drain_zero, List.append_nil]
        exact ⟨A5, c5, vs5, rfl, HO.out, by rw [← hL]; exact HN.out, HB.out⟩
      | succ m =>
        have t1 : decide (0 < (m : Int) + 1) = true := decide_eq_true (by omega)
        go_wp2_with fail
        refine (qlen_any _ (m + 1) c1 _).mono ?_; rintro e w5 ⟨rfl, rfl⟩
        go_wp2_with fail
        refine (hpop_any w.heap.size q g m c1 ts' _ HQ.out HS.out (by omega)).mono ?_; rintro e w5 ⟨⟨A2, n2, c2, rfl, ha2⟩, hq5, hg5⟩
        have lgw := HQ.out.lt
        have lqw := HQ.out.bq.lt
        have kO : ∀ b, (Value.slice A5 k c5).ownBlock = some b → w5.heap[b]? = wr.heap[b]? := fun b hb => hg5.block b (HO.out.lt b hb).2 (fun e => own_blk_ne HO.out HQ.out.bq (by decide) (by rw [hb, e])) (fun e => HNE.out (by rw [hb, e]))
        have O5 := qh (own_keep HO.out kO)
        have N5 := qh (NdR.keepQ HN.out HQ.out hg5)
        have B5 := qh (OnlyQ.to_below HB.out hg5 lq lgb.out HB.out.size)
        have HQ5 := qh hq5
        have HA := qh ha2
        have HS5 := qh (show SmT ((popP ts' m).take m) from fun t ht => (HS.out.perm (pop_perm hql)) t (List.take_subset _ _ ht))
        have HE5 := qh (show (L ++ [((gTk (popP ts' m) m).1, (gTk (popP ts' m) m).2)]) ++ drainP m ((popP ts' m).take m) = heapP ts by rw [← HE.out, drainP, List.append_assoc]; rfl)
        clear HQ HS HO HN HE HB hq5 hg5 ha2 kO lgw lqw y0
        generalize gTk (popP ts' m) m = tm at *
        generalize (popP ts' m).take m = tl at *
        obtain ⟨idm, xsm⟩ := tm
        dsimp only at HE5 HA ⊢
        have hal := alloc_up w5 (.cells #[.int .i64 idm, .slice A2 n2 c2] 43)
        have O6 := qh (own_up' O5.out hal)
        have N6 := qh ((N5.out.keepTI (KeepTI.up hal)).snoc (id := idm) (own_up' HA.out hal))
        have B6 := qh (B5.out.trans (hal.mono B5.out.size))
        have HQ6 := qh (HQ5.out.up hal)
        have X6 := qh (lit2 w5 43 (.int .i64 idm) (.slice A2 n2 c2))
        have lz6 := B6.out.size
        have hta := as_task (.int .i64 idm) (.slice A2 n2 c2) w5
        have NG6 := qh (show some g ≠ some w5.heap.size from fun e => by have := HQ5.out.lt; injection e; omega)
        clear hal O5 N5 B5 HQ5 HA
        go_wp2_with (at_builtin; refine wpList_append_src _ rfl _ _ 24 rfl w.heap.size 43 t0 _ 2 32 Tryz.underlying24 ht0 htz0 htz1 htz2 rfl (by omega) (.slice A5 k c5) k vs5 rfl O6.out (some ⟨w5.heap.size, 0, none⟩) 1 1 [.int .i64 idm, .slice A2 n2 c2] rfl X6.out (one2 _ _ rfl rfl) (by unfold maxLen; omega) (by omega) lz6 ?_; intro v' w8 hown8 hgrow8 hat8; obtain ⟨A8, c8, rfl⟩ := own_shape hown8)
        have B8 := qh (B6.out.grown hgrow8 lz6 (fun r e => (O6.out.lt r e).1))
        have HQ8 := qh (HQ6.out.grownT O6.out HNE.out hgrow8)
        have N8 := qh (N6.out.grown O6.out (by decide) hgrow8)
        have O8 := qh hown8
        have NE8 := qh (show (Value.slice A8 (k + 1) c8).ownBlock ≠ some g from fun e => by
          rcases hat8 with h | h
          · exact HNE.out (h.symm.trans e)
          · rw [e] at h
            injection h with h
            have := HQ6.out.lt
            omega)
        clear hown8 hgrow8 hat8 O6 N6 B6 HQ6 X6
        go_wp2_with fail
        go_roundw
        case measure => simp [intOf]; omega
        case rel => exact ⟨m, k + 1, A8, c8, _, _, tl, rfl, by omega, HQ8.out, HS5.out, O8.out, N8.out, NE8.out, HE5.out, B8.out⟩
end Go.Proofs.YtdgeicdiiakhjaaGreat
