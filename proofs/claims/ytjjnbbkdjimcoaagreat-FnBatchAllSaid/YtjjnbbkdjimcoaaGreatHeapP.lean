/- Walks: the queue's Len and Pop; container/heap's Init and Pop. -/
import Derived.Test.YtjjnbbkdjimcoaaGreatHeapM
namespace Go.Proofs.YtjjnbbkdjimcoaaGreat
set_option linter.unusedSimpArgs false
set_option linter.unusedVariables false
open Go Go.RowKit
attribute [local go_sem ↓] Go.wp_at_zero Go.wp_at_succ

/-- Of what was there only two blocks turned. -/
structure OnlyQ (w w' : World) (q g : Nat) : Prop where
  os : w'.os = w.os
  tape : w'.tape = w.tape
  output : w'.output = w.output
  size : w.heap.size ≤ w'.heap.size
  block : ∀ b, b < w.heap.size → b ≠ q → b ≠ g → w'.heap[b]? = w.heap[b]?
section
variable {w w' w'' : World} {q g base n m c : Nat} {ts : List Tk} {vs : List Value}
theorem OnlyQ.of (h : OnlyG w w' g) : OnlyQ w w' q g := ⟨h.os, h.tape, h.output, h.size, fun b hb _ hg => h.block b hb hg⟩
theorem OnlyQ.ofq (h : OnlyG w w' q) : OnlyQ w w' q g := ⟨h.os, h.tape, h.output, h.size, fun b hb hq _ => h.block b hb hq⟩
theorem OnlyQ.trans (h : OnlyQ w w' q g) (k : OnlyQ w' w'' q g) : OnlyQ w w'' q g :=
  ⟨k.os.trans h.os, k.tape.trans h.tape, k.output.trans h.output, Nat.le_trans h.size k.size, fun b hb hq hg => (k.block b (by have := h.size; omega) hq hg).trans (h.block b hb hq hg)⟩
theorem OnlyQ.to_below {B : Nat} {w0 : World} (hb : Below B w0 w) (h : OnlyQ w w' q g) (hq : B ≤ q) (hg : B ≤ g) (hs : B ≤ w.heap.size) : Below B w0 w' :=
  hb.trans ⟨h.os, h.tape, h.output, h.size, fun b hb' => h.block b (by omega) (by omega) (by omega)⟩
theorem own_take (ho : w.ownsRow base 43 2 (.slice (some ⟨g, 0, none⟩) n c) n vs) (hm : m ≤ n) (hl : vs.length = n * 2) : w.ownsRow base 43 2 (.slice (some ⟨g, 0, none⟩) m c) m (vs.take (m * 2)) := by
  refine ⟨by rw [List.length_take, Nat.min_eq_left (by omega)], ?_⟩
  rcases ho.2 with ⟨e, _⟩ | ⟨g', cap, cur, e, h1, h2, h3, h4, h5, h6⟩
  · cases e
  · injection e with e1 e2 e3
    injection e1 with e1
    injection e1 with e1
    subst e1 e3
    refine .inr ⟨g, c, cur, rfl, h1, h2, by omega, h4, h5, ?_⟩
    rw [← h6, List.take_take, Nat.min_eq_left (by omega)]
theorem NdR.take (h : NdR w base n vs ts) (hm : m ≤ n) : NdR w base m (vs.take (m * 2)) (ts.take m) := by
  refine ⟨by rw [List.length_take, h.1]; omega, by rw [List.length_take, h.2.1]; omega, fun j hj => ?_⟩
  obtain ⟨A, k, c, h1, h2, h3⟩ := h.2.2 j (by omega)
  rw [List.getElem?_take_of_lt (show j * 2 < m * 2 by omega), List.getElem?_take_of_lt (show j * 2 + 1 < m * 2 by omega), List.getElem?_take_of_lt hj]
  exact ⟨A, k, c, h1, h2, h3⟩
end

theorem qlen_any (A : Option Addr) (n c : Nat) (w : World) : Calls Tryz.prog 125 #[.slice A n c] w fun e w' => e = .returned (.int .i64 (n : Int)) ∧ w = w' := by
  go_enter Tryz.func125, Tryz.ntmps125
  go_wp2
  go_ret
  exact ⟨rfl, rfl⟩

set_option maxRecDepth 100000 in
set_option maxHeartbeats 1600000 in
theorem init0_any (q c : Nat) (A : Option Addr) (w : World) (h : w.cell? ⟨q, 0, none⟩ = some (.slice A 0 c)) :
    Calls Tryz.prog 124 #[qIf q] w fun e w' => e = .returned (.tuple #[]) ∧ w = w' := by
  have hm := m_len h
  go_enter Tryz.func124, Tryz.ntmps124
  go_wp2_with fail
  refine (qlen_any A 0 c w).mono ?_; rintro e w1 ⟨rfl, rfl⟩
  go_wp2_with fail
  go_loopw [3] (fun v wr => v = .int .i64 (-1) ∧ wr = w) (fun _ _ => 0)
  case atStart => exact ⟨rfl, rfl⟩
  case round =>
    obtain ⟨rfl, rfl⟩ := hrel
    go_wp2_with fail
    refine ⟨rfl, .tuple #[], by simp [results, Tryz.results124, go_sem], rfl, rfl⟩

set_option maxRecDepth 100000 in
set_option maxHeartbeats 1600000 in
theorem init_any (base q g n c : Nat) (ts : List Tk) (w : World) (h : QH w base q g n c ts) (hs : SmT ts) (hn : 1 ≤ n) (hn0 : n ≤ 1000) :
    Calls Tryz.prog 124 #[qIf q] w fun e w' => e = .returned (.tuple #[]) ∧ QH w' base q g n c (initP (n / 2) ts) ∧ OnlyG w w' g := by
  have hm := m_len h.cell
  have H := qh h
  have Hs := qh hs
  have hd : Int.tdiv (n : Int) 2 = ((n / 2 : Nat) : Int) := by rw [Int.tdiv_eq_ediv_of_nonneg (by omega)]; omega
  have v0 : IntKind.i64.wrap ((n / 2 : Nat) : Int) = ((n / 2 : Nat) : Int) := wr64 (by omega) (by omega)
  have v1 : IntKind.i64.wrap (((n / 2 : Nat) : Int) - 1) = ((n / 2 : Nat) : Int) - 1 := wr64 (by omega) (by omega)
  clear h hs
  go_enter Tryz.func124, Tryz.ntmps124
  go_wp2_with fail
  refine (qlen_any _ n c w).mono ?_; rintro e w1 ⟨rfl, rfl⟩
  clear hm
  go_wp2_with fail
  obtain ⟨hf, hh⟩ : ∃ hf, hf = n / 2 := ⟨_, rfl⟩
  have hq2 : (n : Int) / 2 = (hf : Int) := by omega
  have HH := qh hh
  have hf1 : hf ≤ 500 := by omega
  have hf2 : hf ≤ n := by omega
  clear hd v0 v1
  go_loopw [3] (fun v wr => ∃ (k : Nat) (ts' : List Tk), v = .int .i64 ((k : Int) - 1) ∧ k ≤ hf ∧ QH wr base q g n c ts' ∧ SmT ts' ∧ initP k ts' = initP hf ts ∧ OnlyG w wr g) (fun v _ => (intOf v + 1).toNat)
  case atStart => exact ⟨hf, ts, by rw [hq2], Nat.le_refl _, H.out, Hs.out, rfl, OnlyG.refl _ _⟩
  case round =>
    clear H Hs hq2 hh
    obtain ⟨k, ts', rfl, hk, hq, hs', he, hg⟩ := hrel
    have HQ := qh hq
    have HS := qh hs'
    have HE := qh he
    have HG := qh hg
    clear hq hs' he hg
    have hl := HQ.out.len
    cases k with
    | zero =>
      go_wp2_with fail
      refine ⟨rfl, .tuple #[], by simp [results, Tryz.results124, go_sem], rfl, ?_, HG.out⟩
      rw [← HH.out, ← HE.out]; exact HQ.out
    | succ k =>
      have e1 : ((k + 1 : Nat) : Int) - 1 = (k : Int) := by omega
      rw [e1]
      have v2 : IntKind.i64.wrap ((k : Int) - 1) = (k : Int) - 1 := wr64 (by omega) (by omega)
      go_wp2_with fail
      refine (down_any base q g n c k n n ts' wr HQ.out HS.out (Nat.le_refl _) hn0 (by omega) (by omega)).mono ?_; rintro e w2 ⟨⟨bb, rfl⟩, hq2, hg2⟩
      have HQ2 := qh hq2
      have HG2 := qh (HG.out.trans hg2)
      clear HQ HG hq2 hg2
      go_wp2_with fail
      go_roundw
      case rel => exact ⟨k, downP n ts' k n, rfl, by omega, HQ2.out, HS.out.perm (down_perm _ _ _ _ (by omega)), by rw [← HE.out, initP, hl], HG2.out⟩
      case measure => simp [intOf]

set_option maxRecDepth 100000 in
set_option maxHeartbeats 3200000 in
theorem qpop_any (base q g m c : Nat) (ts : List Tk) (w : World) (h : QH w base q g (m + 1) c ts) (hm : m ≤ 1000) :
    Calls Tryz.prog 187 #[.pointer (some ⟨q, 0, none⟩)] w fun e w' => (∃ A2 n2 c2, e = .returned (.iface 43 (.agg #[.int .i64 (gTk ts m).1, .slice A2 n2 c2])) ∧ w'.ownsRow base 3 1 (.slice A2 n2 c2) n2 ((gTk ts m).2.map (Value.int .i64))) ∧ QH w' base q g m c (ts.take m) ∧ OnlyG w w' q := by
  obtain ⟨vs, hown, hnd⟩ := h.own
  have hq := h.cell
  obtain ⟨A2, n2, c2, a0, a1, a2⟩ := hnd.2.2 m (by omega)
  have p0 := hown.cells (g := g) rfl _ _ a0
  have p1 := hown.cells (g := g) rfl _ _ a1
  rw [addr_add, Nat.zero_add] at p0 p1
  change w.cell? _ = some (.int .i64 (gTk ts m).1) at p0
  have hcap := own_cap' hown
  have Hq := qh h.bq
  have lq := h.bq.lt
  have lg := h.lt
  have i0 : (0 : Int) ≤ (m : Int) := by omega
  have v1 : IntKind.i64.wrap (m : Int) = (m : Int) := wr64 (by omega) (by omega)
  have i1 : (m : Int) < (m : Int) + 1 := by omega
  have i3 : 0 ≤ (m : Int) * 2 := by omega
  have hne := h.ne
  have Hown := qh h.own
  have Ha2 := qh a2
  clear hown hnd a0 a1 a2 h
  go_enter Tryz.func187, Tryz.ntmps187
  go_wp2_with fail
  have K0 := qh (show ∀ W : World, (∀ b, b < w.heap.size → W.heap[b]? = w.heap[b]?) → W.cell? ⟨q, 0, none⟩ = some (.slice (some ⟨g, 0, none⟩) (m + 1) c) ∧ W.cell? ⟨g, m * 2, none⟩ = some (.int .i64 (gTk ts m).1) ∧ W.cell? ⟨g, m * 2 + 1, none⟩ = some (.slice A2 n2 c2) from
    fun W hW => ⟨(World.cell?_of_block (hW _ lq)).trans hq, (World.cell?_of_block (hW _ lg)).trans p0, (World.cell?_of_block (hW _ lg)).trans p1⟩)
  refine wp_region_mix (.take 0 (.take 1 (.take 2 (.take 3 (.take 4 (.take 5 (.take 6 (.take 7 (.take 8 (.take 9 (.bar 10 (.bar 11 .nil)))))))))))) (fun w' => w'.cell? ⟨q, 0, none⟩ = some (.slice (some ⟨g, 0, none⟩) (m + 1) c) ∧ w'.cell? ⟨g, m * 2, none⟩ = some (.int .i64 (gTk ts m).1) ∧ w'.cell? ⟨g, m * 2 + 1, none⟩ = some (.slice A2 n2 c2)) (by kernel_rfl) (by kernel_rfl) ⟨hq, p0, p1⟩ (fun _ => ?_)
  have HB0 := qh ((Below.refl w.heap.size w).drew)
  generalize w.drew = u0 at HB0 ⊢
  repeat ((first | refine wpMix_skip (by rfl) (by rfl) ?_ | (refine wpMix_take (v := ?_) (by rfl) (by rfl) (fun wS hSt => ?_) ?_; rotate_left; (focus ((try dsimp only at hSt); (go_simp <;> with_reducible rfl); done)))); (try simp only [Act.put, pS, pZ, pC]))
  (refine wpMix_bar (by rfl) (fun K hK => ?_); go_simp)
  have HB1 := qh (HB0.out.alloc HB0.out.size (.cells #[.int .i64 0, .slice none 0 0] 43))
  have X1 := qh (Blk.new u0 43 #[.int .i64 0, .slice none 0 0])
  ((try dsimp only); refine nxK hK _ _ (K0.out _ (fun b hb => HB1.out.block b hb)) ?_; clear hK K; (try simp only [Act.put, pS, pZ, pC]))
  have ls : w.heap.size ≤ u0.heap.size := HB0.out.size
  generalize u0.alloc (.cells #[.int .i64 0, .slice none 0 0] 43) = u1 at HB1 X1 ⊢
  generalize u0.heap.size = s1 at X1 ls ⊢
  clear HB0
  have y0 := X1.out.cell 0
  have y1 := X1.out.cell 1
  simp only [gT, gZ, gS] at y0 y1
  have f0 := X1.out.frozen 0
  have f1 := X1.out.frozen 1
  (refine wpMix_bar (by rfl) (fun K hK => ?_); go_simp)
  have X2 := qh ((X1.out.set_ 0 (.int .i64 (gTk ts m).1)).set_ 1 (.slice A2 n2 c2))
  have HB2 := qh (show Below w.heap.size w ((u1.setCell ⟨s1, 0, none⟩ (.int .i64 (gTk ts m).1)).setCell ⟨s1, 1, none⟩ (.slice A2 n2 c2)) from
    ⟨HB1.out.os, HB1.out.tape, HB1.out.output, by simp [World.setCell]; exact HB1.out.size, fun b hb => ((Below.heap_setCell _ _ _ b (by show b ≠ s1; omega)).trans (Below.heap_setCell _ _ _ b (by show b ≠ s1; omega))).trans (HB1.out.block b hb)⟩)
  ((try dsimp only); refine nxK hK _ _ (K0.out _ (fun b hb => HB2.out.block b hb)) ?_; clear hK K; (try simp only [Act.put, pS, pZ, pC]))
  refine wpMix_nil ?_
  clear y0 y1 f0 f1 HB1 X1
  generalize (u1.setCell ⟨s1, 0, none⟩ (.int .i64 (gTk ts m).1)).setCell ⟨s1, 1, none⟩ (.slice A2 n2 c2) = u2 at HB2 X2 ⊢
  have Z0 := (K0.out _ (fun b hb => HB2.out.block b hb)).1
  have q0 : (u2.drew).cell? ⟨q, 0, none⟩ = some (.slice (some ⟨g, 0, none⟩) (m + 1) c) := Z0
  have fz : (u2.drew).frozen? ⟨q, 0, none⟩ = false := (Hq.out.below HB2.out lq).frozen 0
  go_wp2_with fail
  go_region
  have G3 := qh (show OnlyG w ((u2.setCell ⟨q, 0, none⟩ (.slice (some ⟨g, 0, none⟩) m c)).drew) q from ((OnlyG.refl w q).trans ⟨HB2.out.os, HB2.out.tape, HB2.out.output, HB2.out.size, fun b hb _ => HB2.out.block b hb⟩).set_g 0 _ |>.drew)
  have X3 := qh (show Blk ((u2.setCell ⟨q, 0, none⟩ (.slice (some ⟨g, 0, none⟩) m c)).drew) s1 43 #[.int .i64 (gTk ts m).1, .slice A2 n2 c2] from (X2.out.far (p := ⟨q, 0, none⟩) (by show s1 ≠ q; omega) _).drew)
  have Q3 := qh (show Blk ((u2.setCell ⟨q, 0, none⟩ (.slice (some ⟨g, 0, none⟩) m c)).drew) q 147 #[.slice (some ⟨g, 0, none⟩) m c] from ((Hq.out.below HB2.out lq).set_ 0 _).drew)
  clear q0 fz Z0 HB2 X2 K0
  generalize ((u2.setCell ⟨q, 0, none⟩ (.slice (some ⟨g, 0, none⟩) m c)).drew) = u3 at G3 X3 Q3 ⊢
  have y0 := X3.out.cell 0
  have y1 := X3.out.cell 1
  simp only [gT, gZ, gS] at y0 y1
  go_wp2_with fail
  go_ret
  refine ⟨⟨A2, n2, c2, rfl, ?_⟩, ⟨Q3.out, hne, ?_⟩, G3.out⟩
  · exact own_keep Ha2.out (fun b hb => G3.out.block b (Ha2.out.lt b hb).2 (fun e => own_blk_ne Ha2.out Hq.out (by decide) (by rw [hb, e])))
  · obtain ⟨vs, ho, hn⟩ := Hown.out
    refine ⟨vs.take (m * 2), own_take (own_keep ho (fun b hb => G3.out.block b (ho.lt b hb).2 (fun e => own_blk_ne ho Hq.out (by decide) (by rw [hb, e])))) (by omega) hn.2.1, NdR.take ⟨hn.1, hn.2.1, fun j hj => ?_⟩ (by omega)⟩
    obtain ⟨A', k, c', e1, e2, e3⟩ := hn.2.2 j hj
    exact ⟨A', k, c', e1, e2, own_keep e3 (fun b hb => G3.out.block b (e3.lt b hb).2 (fun e => own_blk_ne e3 Hq.out (by decide) (by rw [hb, e])))⟩
end Go.Proofs.YtjjnbbkdjimcoaaGreat
