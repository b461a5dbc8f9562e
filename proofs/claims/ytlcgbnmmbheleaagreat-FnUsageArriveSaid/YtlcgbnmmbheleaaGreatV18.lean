/- Several texts in one. -/
import Derived.Test.YtlcgbnmmbheleaaGreatV17
import Derived.Lib.Hide
namespace Go.Proofs.YtlcgbnmmbheleaaGreat
open Go Go.Conc Go.RowKit Go.Conc.Lib Go.ConcR.Gen Go.ConcN.Gen
open Go.ConcN (WgLive PayAt)
open Go.ConcR (KK WgAt stA smA rd wr mk DC0)
set_option linter.unusedVariables false
set_option linter.unusedSimpArgs false

theorem fewU : ¬ bU.kind = .early := by decide

structure Units (K : Cw) (W : World) (lv bu ou i : Nat) (op : Bool) (Ai : Option Addr) (ni ci : Nat) (ts : List Tk) : Prop where
  lvB : lv < K.B ∧ lv ≠ K.Wg ∧ lv ≠ K.C ∧ ¬ K.S lv ∧ ¬ K.H lv
  lvc : W.cell? ⟨lv, 0, none⟩ = some (.slice (some ⟨K.C, 0, none⟩) K.n K.n)
  buB : bu < K.B ∧ bu ≠ K.Wg ∧ bu ≠ K.C ∧ ¬ K.S bu ∧ ¬ K.H bu
  c0 : W.cell? ⟨bu, ou + i * 2, none⟩ = some (.bool op)
  c1 : W.cell? ⟨bu, ou + i * 2 + 1, none⟩ = some (.slice Ai ni ci)
  tk : ∀ v : World, (∀ b, b < K.B ∧ ¬ K.S b ∧ ¬ K.H b ∧ b ≠ K.Wg ∧ b ≠ K.C → v.heap[b]? = W.heap[b]?) → K.B ≤ v.heap.size → RdT v v.heap.size Ai ni ts
  n900 : ni ≤ 900
  n3 : ∀ j, j < ni → (ts[j]?.getD (0, [])).2.length = 3
  nb : ∀ j i : Nat, 0 ≤ (ts[j]?.getD (0, [])).2[i]?.getD 0 ∧ (ts[j]?.getD (0, [])).2[i]?.getD 0 ≤ 1000
  ld : K.ld i = loadP ts

theorem FU.cell {K : Cw} {W w : World} (h : FU K W w) {p : Addr} (h1 : p.block < K.B) (h2 : p.block ≠ K.Wg) (h3 : p.block ≠ K.C) : w.cell? p = W.cell? p := World.cell?_of_block (h.rows _ h1 h2 h3)

theorem FU.alloc {K : Cw} {W w : World} (h : FU K W w) (o : Obj) : FU K W (w.alloc o) :=
  ⟨fun b h1 h2 h3 => by rw [← h.rows b h1 h2 h3]; have := h.size; show (w.heap.push o)[b]? = _; rw [Array.getElem?_push, if_neg (by omega)], by show _ ≤ (w.heap.push o).size; have := h.size; simp; omega⟩
theorem live_alloc {K : Cw} (hK : K.Ok) {w : World} (hs : K.B ≤ w.heap.size) (h : WgLive K.ty K.Wg w) (o : Obj) : WgLive K.ty K.Wg (w.alloc o) := by
  obtain ⟨st, sm, h⟩ := h
  refine ⟨st, sm, ?_⟩
  have := hK.hW
  show (w.heap.push o)[K.Wg]? = _
  rw [Array.getElem?_push, if_neg (by omega)]
  exact h
theorem live_set {K : Cw} {w : World} {a : Addr} (ha : a.block ≠ K.Wg) (h : WgLive K.ty K.Wg w) (x : Value) : WgLive K.ty K.Wg (w.setCell a x) := by
  obtain ⟨st, sm, h⟩ := h
  exact ⟨st, sm, (Below.heap_setCell _ _ _ _ (fun e => ha e.symm)).trans h⟩
theorem Goes.le {P : Program} {mn : Bool} {R : World → World → Prop} {D : World → World → Array Event → Prop} {Stop : Goroutine → World → Prop} {n m : Nat} {g : Goroutine} {w : World} (h : Goes P mn R D Stop n g w) (hn : n ≤ m) : Goes P mn R D Stop m g w := by
  induction hn with
  | refl => exact h
  | step _ ih => exact ih.more

def jNext (K : Cw) (p1 p2 lv bu ou i : Nat) (op : Bool) (Ai : Option Addr) (ni ci : Nat) (J : Nat → Value) : Nat → Value
  | 5 => .pointer (some ⟨p1, 0, none⟩)
  | 6 => .pointer (some ⟨p2, 0, none⟩)
  | 15 => .bool true
  | 16 => .int .i64 i
  | 17 => .pointer (some ⟨bu, ou + i * 2, none⟩)
  | 18 => .agg #[.bool op, .slice Ai ni ci]
  | 19 => .tuple #[]
  | 20 => .func (.func 48) #[] #[.pointer (some ⟨K.Wg, 0, none⟩), .pointer (some ⟨p2, 0, none⟩), .pointer (some ⟨lv, 0, none⟩), .pointer (some ⟨p1, 0, none⟩)]
  | 21 => .int .i64 ((i + 1 : Nat) : Int)
  | k => J k

section
variable {K : Cw} {AnchW : Goroutine → World → Prop} {W : World} {lv bu ou n c2 r i : Nat} {op : Bool} {Ai : Option Addr} {ni ci : Nat} {ts : List Tk} {cs : List Frame}
set_option maxRecDepth 100000 in
set_option maxHeartbeats 4000000 in
theorem uRound (hty : K.ty = lk.tWg) (hK : K.Ok) (hW : K.B = W.heap.size) (hn : n = K.n) (hr : r < K.n) (hi : i = K.n - (r + 1)) (hle : K.n ≤ 1000) (hU : Units K W lv bu ou i op Ai ni ci ts)
    (ih : ∃ m, ∀ (J : Nat → Value) (w : World), FU K W w ∧ WgLive K.ty K.Wg w → Goes Tryz.prog true (RS K no0) (DS K no0) (StopS Tryz.prog K AnchW r) m (uHead K lv (some ⟨bu, ou, none⟩) n c2 (i + 1) J cs) w) :
    ∃ m, ∀ (J : Nat → Value) (w : World), FU K W w ∧ WgLive K.ty K.Wg w → Goes Tryz.prog true (RS K no0) (DS K no0) (StopS Tryz.prog K AnchW (r + 1)) m (uHead K lv (some ⟨bu, ou, none⟩) n c2 i J cs) w := by
  obtain ⟨mi, ih⟩ := ih
  replace hty := qh hty
  replace hW := qh hW
  replace hi := qh hi
  refine ⟨10 + 30, fun J w hF => ?_⟩
  have k0 : (0 : Int) ≤ (i : Int) := by omega
  have k1 : (i : Int) < (n : Int) := by have := hi.out; omega
  have k2 : i < n := by omega
  have k3 : n ≤ 1000 := by omega
  replace hn := qh hn
  have q1 : decide ((i : Int) < (n : Int)) = true := decide_eq_true k1
  simp only [uHead, uTH, uLB, uBody, Tryz.f22, Option.getD_some] at ih ⊢
  refine Goes.flat (RS.refl K no0) ?_
  repeat (first | (u_c stepG_seq (rs_rely (fun w w' r h => FU.rely r h)) hF) | (u_c stepG_region_end (rs_rely (fun w w' r h => FU.rely r h)) hF) | (u_c stepG_skip (rs_rely (fun w w' r h => FU.rely r h)) hF) | (u_c stepG_block (rs_rely (fun w w' r h => FU.rely r h)) hF) | (u_c stepG_loop (rs_rely (fun w w' r h => FU.rely r h)) hF) | (u_c stepG_inBlock (rs_rely (fun w w' r h => FU.rely r h)) hF) | (u_c stepG_inLoop (rs_rely (fun w w' r h => FU.rely r h)) hF) | (u_reg (rs_rely (fun w w' r h => FU.rely r h)) hF) | (u_cond true (rs_rely (fun w w' r h => FU.rely r h)) hF) | (u_cond false (rs_rely (fun w w' r h => FU.rely r h)) hF) | (u_op (rs_rely (fun w w' r h => FU.rely r h)) hF))
  refine Goes.stop (fun w₁ h₁ => ?_)
  replace hF := (rs_rely (fun w w' r h => FU.rely r h)) hF h₁
  clear h₁
  -- the unit is read
  refine Goes.step rfl (fun w₂ h₂ => ?_)
  replace hF := (rs_rely (fun w w' r h => FU.rely r h)) hF h₂
  clear h₂
  have hc0 := (hF.1.cell (p := ⟨bu, ou + i * 2, none⟩) hU.buB.1 hU.buB.2.1 hU.buB.2.2.1).trans hU.c0
  have hc1 := (hF.1.cell (p := ⟨bu, ou + i * 2 + 1, none⟩) hU.buB.1 hU.buB.2.1 hU.buB.2.2.1).trans hU.c1
  refine goes_oper_k rfl (by rfl) (by decide) (fun K' hK' => ?_)
  go_simp
  refine hK' _ _ ⟨⟨.refl _ _, rfl, fun e he => ?_⟩, ?_⟩
  · have hm := mem_listed he
    simp [go_sem, *] at hm
    rcases hm with rfl | rfl <;> exact .inl ⟨_, _, rfl, fun h => h.elim hU.buB.2.2.2.1 hU.buB.2.1, hU.buB.2.2.1, .inl ⟨hU.buB.1, rfl⟩⟩
  clear hK' K' hc0 hc1
  try walk_nrm
  -- two variables are made
  refine Goes.stop (fun w₃ h₃ => ?_)
  replace hF := (rs_rely (fun w w' r h => FU.rely r h)) hF h₃
  clear h₃
  show TAl1 Tryz.prog K (K.n - (r + 1)) (Spw Tryz.prog K AnchW r) _ w₃
  refine ⟨rfl, _, _, _, stepG_new rfl (by rfl) fewU rfl new_int.1 new_int.2, 0, Goes.stop (fun w₄ h₄ => ?_)⟩
  have hB1 := hF.1.size
  have hr1 : w₄.heap[w₃.heap.size]? = some (.cells #[.int .i64 0] 3) := (h₄.rows _ (.inr rfl)).trans (by show (w₃.heap.push _)[_]? = _; simp)
  have hs4 : w₃.heap.size < w₄.heap.size := by have := h₄.size; have e : (w₃.alloc (.cells #[.int .i64 0] 3)).heap.size = w₃.heap.size + 1 := by show (w₃.heap.push _).size = _; simp
                                               omega
  have hF4 : FU K W w₄ := (hF.1.alloc _).rely h₄
  have hL4 : WgLive K.ty K.Wg w₄ := h₄.live (live_alloc hK hB1 hF.2 _)
  clear h₄ hF
  generalize w₃.heap.size = p1 at *
  show TAl2 Tryz.prog K p1 (K.n - (r + 1)) (Spw Tryz.prog K AnchW r) _ w₄
  refine ⟨rfl, _, _, _, stepG_new rfl (by rfl) fewU rfl new_unit.1 new_unit.2, 60, ?_⟩
  have hF : FB K W p1 w₄.heap.size (.int .i64 0) (.bool false) (.slice none 0 0) (w₄.alloc (.cells #[.bool false, .slice none 0 0] 32)) ∧ WgLive K.ty K.Wg (w₄.alloc (.cells #[.bool false, .slice none 0 0] 32)) :=
    ⟨⟨hF4.alloc _, by rw [← hr1]; show (w₄.heap.push _)[p1]? = _; rw [Array.getElem?_push, if_neg (by omega)], by show (w₄.heap.push _)[_]? = _; simp⟩, live_alloc hK hF4.size hL4 _⟩
  have hB2 := hF4.size
  clear hF4 hL4 hr1
  generalize w₄.alloc _ = w₅ at *
  generalize w₄.heap.size = p2 at *
  have hne : p1 ≠ p2 := by omega
  have hnS : ∀ b, K.B ≤ b → ¬ K.S1 b := fun b hb h => h.elim (fun h => by have := hK.sB b h; omega) (fun h => by have := hK.hW; omega)
  have hnC : ∀ b, K.B ≤ b → b ≠ K.C := fun b hb h => by have := hK.hC; omega
  have hnW : ∀ b, K.B ≤ b → b ≠ K.Wg := fun b hb h => by have := hK.hW; omega
  try walk_nrm
  -- they are filled
  refine Goes.step rfl (fun w₆ h₆ => ?_)
  replace hF := (rs_rely (fun w w' r h => FB.rely r h)) hF h₆
  clear h₆
  obtain ⟨hc, hz⟩ := hF.1.c1
  refine goes_oper_k rfl (by rfl) (by decide) (fun K' hK' => ?_)
  go_simp
  try (unfold stored; go_simp)
  refine hK' _ _ ⟨ds_set (a := ⟨p1, 0, none⟩) (.inl rfl) hc _ (hnS _ hB1) (hnC _ hB1) (fun e he => ?_), ?_⟩
  · have hm := mem_listed he
    simp [go_sem, *] at hm
    exact hm
  clear hK' K' hc hz
  replace hF := And.intro (hF.1.set1 hB1 hne (.int .i64 i)) (live_set (a := ⟨p1, 0, none⟩) (hnW _ hB1) hF.2 (.int .i64 i))
  try walk_nrm
  refine Goes.step rfl (fun w₇ h₇ => ?_)
  replace hF := (rs_rely (fun w w' r h => FB.rely r h)) hF h₇
  clear h₇
  obtain ⟨hc0, hc1, hz0, hz1⟩ := hF.1.c2
  refine goes_oper_k rfl (by rfl) (by decide) (fun K' hK' => ?_)
  go_simp
  try (unfold stored; go_simp)
  refine hK' _ _ ⟨(ds_set (a := ⟨p2, 0, none⟩) (es := #[⟨.cell ⟨p2, 0, none⟩, true, false⟩]) (.inr rfl) hc0 _ (hnS _ (by show K.B ≤ p2; omega)) (hnC _ (by show K.B ≤ p2; omega)) (by simp)).then (ds_set (a := ⟨p2, 1, none⟩) (es := #[⟨.cell ⟨p2, 1, none⟩, true, false⟩]) (.inr rfl) ((World.cell?_setCell_other _ _ _ _ (by simp)).trans hc1) _ (hnS _ (by show K.B ≤ p2; omega)) (hnC _ (by show K.B ≤ p2; omega)) (by simp)) (fun e he => ?_), ?_⟩
  · have hm := mem_listed he
    have hc3 : ∀ u, (w₇.setCell ⟨p2, 0, none⟩ u).cell? ⟨p2, 1, none⟩ = some (.slice none 0 0) := fun u => (World.cell?_setCell_other _ _ _ _ (by simp)).trans hc1
    have hz3 : ∀ u, (w₇.setCell ⟨p2, 0, none⟩ u).frozen? ⟨p2, 1, none⟩ = false := fun u => by rw [World.frozen?_setCell]; exact hz1
    simp [go_sem, *] at hm
    rw [events_store _ _ _ _ _ _ (by rfl), hc3] at hm
    simp only [hz3] at hm
    simp at hm
    rcases hm with hm | rfl
    · rw [events_store _ _ _ _ _ _ (by rfl), hc0] at hm
      simp [hz0] at hm
      subst hm
      exact .inl (by simp)
    · exact .inr (by simp)
  clear hK' K' hc0 hc1 hz0 hz1
  replace hF := And.intro (hF.1.set2 (by omega) hne (.bool op) (.slice Ai ni ci)) (live_set (a := ⟨p2, 1, none⟩) (hnW _ (by show K.B ≤ p2; omega)) (live_set (a := ⟨p2, 0, none⟩) (hnW _ (by show K.B ≤ p2; omega)) hF.2 (.bool op)) (.slice Ai ni ci))
  generalize (World.setCell (World.setCell w₇ ⟨p2, 0, none⟩ _) ⟨p2, 1, none⟩ _) = w₈ at *
  try walk_nrm
  refine Goes.le (n := 20 + 20) ?_ (by omega)
  refine Goes.flat (RS.refl K _) ?_
  repeat (first | (u_c stepG_seq (rs_rely (fun w w' r h => FB.rely r h)) hF) | (u_c stepG_region_end (rs_rely (fun w w' r h => FB.rely r h)) hF) | (u_c stepG_skip (rs_rely (fun w w' r h => FB.rely r h)) hF) | (u_c stepG_block (rs_rely (fun w w' r h => FB.rely r h)) hF) | (u_c stepG_loop (rs_rely (fun w w' r h => FB.rely r h)) hF) | (u_c stepG_inBlock (rs_rely (fun w w' r h => FB.rely r h)) hF) | (u_c stepG_inLoop (rs_rely (fun w w' r h => FB.rely r h)) hF) | (u_reg (rs_rely (fun w w' r h => FB.rely r h)) hF) | (u_cond true (rs_rely (fun w w' r h => FB.rely r h)) hF) | (u_cond false (rs_rely (fun w w' r h => FB.rely r h)) hF) | (u_op (rs_rely (fun w w' r h => FB.rely r h)) hF))
  refine Goes.stop (fun w₉ h₉ => ?_)
  replace hF := (rs_rely (fun w w' r h => FB.rely r h)) hF h₉
  clear h₉
  -- Add
  refine Goes.step rfl (fun w₁₀ h₁₀ => ?_)
  replace hF := (rs_rely (fun w w' r h => FB.rely r h)) hF h₁₀
  clear h₁₀
  refine goes_call rfl (by rfl) fewU rfl wgLib.f_add (nm_add lk) rfl ⟨.idle K _ _, ?_⟩
  walk_nrmf addFn
  refine Goes.le (n := 12) ?_ (by omega)
  have hA := @cwAdd _ lk Tryz.prog K (two0 p1 p2) (K.n - (r + 1)) (Spw Tryz.prog K AnchW r) (FB K W p1 p2 (.int .i64 i) (.bool op) (.slice Ai ni ci))
  simp only [body_add, addFn, Option.getD_some] at hA ⊢
  refine hA (mT := 40) wgLib (fun h => h.elim (fun h => hnW p1 hB1 h.symm) (fun h => hnW p2 (by omega) h.symm)) (fun w w' r h => FB.rely r h) (fun w hF1 hF2 => ?_) _ hF
  clear hA hF
  have hF := And.intro hF1 hF2
  clear hF1 hF2
  refine Goes.quiet ?_
  try walk_nrm
  repeat (first | (u_c stepG_seq (rs_rely (fun w w' r h => FB.rely r h)) hF) | (u_c stepG_region_end (rs_rely (fun w w' r h => FB.rely r h)) hF) | (u_c stepG_skip (rs_rely (fun w w' r h => FB.rely r h)) hF) | (u_c stepG_block (rs_rely (fun w w' r h => FB.rely r h)) hF) | (u_c stepG_loop (rs_rely (fun w w' r h => FB.rely r h)) hF) | (u_c stepG_inBlock (rs_rely (fun w w' r h => FB.rely r h)) hF) | (u_c stepG_inLoop (rs_rely (fun w w' r h => FB.rely r h)) hF) | (u_reg (rs_rely (fun w w' r h => FB.rely r h)) hF) | (u_cond true (rs_rely (fun w w' r h => FB.rely r h)) hF) | (u_cond false (rs_rely (fun w w' r h => FB.rely r h)) hF) | (u_op (rs_rely (fun w w' r h => FB.rely r h)) hF))
  -- go
  refine Goes.stop (fun w₁₁ h₁₁ => ?_)
  replace hF := (rs_rely (fun w w' r h => FB.rely r h)) hF h₁₁
  clear h₁₁
  refine ⟨rfl, _, born Tryz.prog (clCall K p2 lv p1), (stepG_spawn (d := clCall K p2 lv p1) (w' := w₁₁) (f := .func 48) (c := #[.pointer (some ⟨K.Wg, 0, none⟩), .pointer (some ⟨p2, 0, none⟩), .pointer (some ⟨lv, 0, none⟩), .pointer (some ⟨p1, 0, none⟩)]) rfl (by rfl) fewU (by simp [go_sem, clCall, Deferred.ofValue]) rfl).trans (congrArg (fun es => GStep.spawn _ _ _ es) (listed_nil (by simp [go_sem]))), rfl, fun v hv => ?_, ?_⟩
  · have hj : K.n - (r + 1) = i := hi.out.symm
    have hn' := hn.out
    rw [hj]
    have hsh : ∀ b, b < K.B ∧ ¬ K.S b ∧ ¬ K.H b ∧ b ≠ K.Wg ∧ b ≠ K.C → v.heap[b]? = W.heap[b]? := fun b hb => (hv.2 b (.inl hb)).trans (hF.1.fu.rows b hb.1 hb.2.2.2.1 hb.2.2.2.2)
    have hvs : K.B ≤ v.heap.size := by rw [hv.1]; exact hF.1.fu.size
    refine worker hty.out (by omega) hU.ld hU.n900 hU.n3 hU.nb v (by rw [hv.1]; exact Nat.le_refl _) (cp := ci) ⟨?_, ?_, ?_, hU.tk v hsh hvs⟩
    · exact (World.cell?_of_block (hsh lv ⟨hU.lvB.1, hU.lvB.2.2.2.1, hU.lvB.2.2.2.2, hU.lvB.2.1, hU.lvB.2.2.1⟩)).trans hU.lvc
    · exact (World.cell?_of_block (hv.2 p1 (.inr (.inl rfl)))).trans hF.1.c1.1
    · exact (World.cell?_of_block (hv.2 p2 (.inr (.inr rfl)))).trans hF.1.c2.2.1
  · replace hF := And.intro hF.1.fu hF.2
    refine spw_of (m := mi + 30) (Goes.flat (RS.refl K no0) ?_)
    try walk_nrm
    repeat (first | (u_c stepG_region_end (rs_rely (fun w w' r h => FU.rely r h)) hF) | (u_c stepG_skip (rs_rely (fun w w' r h => FU.rely r h)) hF) | (u_c stepG_block (rs_rely (fun w w' r h => FU.rely r h)) hF) | (u_c stepG_loop (rs_rely (fun w w' r h => FU.rely r h)) hF) | (u_c stepG_inBlock (rs_rely (fun w w' r h => FU.rely r h)) hF) | (u_c stepG_inLoop (rs_rely (fun w w' r h => FU.rely r h)) hF) | (u_reg (rs_rely (fun w w' r h => FU.rely r h)) hF) | (u_cond true (rs_rely (fun w w' r h => FU.rely r h)) hF) | (u_cond false (rs_rely (fun w w' r h => FU.rely r h)) hF) | (u_op (rs_rely (fun w w' r h => FU.rely r h)) hF))
    have e : IntKind.i64.wrap ((i : Int) + 1) = ((i + 1 : Nat) : Int) := by rw [IntKind.wrap_i64]; omega
    simp only [e]
    refine Goes.stop (fun w' h' => ?_)
    exact ih (jNext K p1 p2 lv bu ou i op Ai ni ci J) w' ((rs_rely (fun w w' r h => FU.rely r h)) hF h')
end
end Go.Proofs.YtlcgbnmmbheleaaGreat


namespace Go.Proofs.YtlcgbnmmbheleaaGreat
open Go Go.Conc Go.RowKit Go.Conc.Lib Go.ConcR.Gen Go.ConcN.Gen
open Go.ConcN (WgLive st_flag st_waiters)
open Go.ConcR (KK WgAt stA smA rd wr mk Payload DC0)
set_option linter.unusedVariables false
set_option linter.unusedSimpArgs false
variable [Payload] {L : WgLink}

def AnchK (L : WgLink) (K : Cw) (F : World → Prop) (c : Frame) (cs : List Frame) (g : Goroutine) (w : World) : Prop :=
  ∃ T : Array Value, g = G ((base L.wait).at ⟨T, []⟩ [.code (L7 L), .inLoop (L7 L), .inBlock 0]) (c :: cs) ∧ T.size = 84 ∧ T[0]? = some (.pointer (some ⟨K.Wg, 0, none⟩)) ∧ F w ∧ WgLive K.ty K.Wg w

section
variable {P : Program} {K : Cw} {Fin AnchW : Goroutine → World → Prop} {F : World → Prop} {b₀ : Frame} {a₀ : Act} {ops₀ : Array Oper} {i₀ : Nat} {rest₀ : List Nat} {k₀ : List Item} {cs : List Frame} {mT : Nat}

omit [Payload] in
set_option maxRecDepth 100000 in
set_option maxHeartbeats 8000000 in
theorem cwRound (H : WgLib P L) (hA : ∀ g w, AnchK L K F (b₀.at a₀ (.inRegion ops₀ (i₀ :: rest₀) :: k₀)) cs g w → AnchW g w) (hF2 : ∀ w w', RS K no0 w w' → F w → F w')
    (hT : ∀ w, F w → WgLive K.ty K.Wg w → Goes P true (RS K no0) (DS K no0) (TEnd Fin) mT (G (b₀.at (a₀.put ((ops₀[i₀]?).bind (·.dst)) (.tuple #[])) (.inRegion ops₀ rest₀ :: k₀)) cs) w)
    (g : Goroutine) (w : World) (h : AnchK L K F (b₀.at a₀ (.inRegion ops₀ (i₀ :: rest₀) :: k₀)) cs g w) :
    ∃ m, Goes P true (RS K no0) (DS K no0) (TW1 P K AnchW Fin) m g w := by
  lib_facts
  have hOW : ¬ no0 K.Wg := id
  obtain ⟨T, rfl, hT84, t0, hF⟩ := h
  obtain ⟨v0, v1, v2, v3, v4, v5, v6, v7, v8, v9, v10, v11, v12, v13, v14, v15, v16, v17, v18, v19, v20, v21, v22, v23, v24, v25, v26, v27, v28, v29, v30, v31, v32, v33, v34, v35, v36, v37, v38, v39, v40, v41, v42, v43, v44, v45, v46, v47, v48, v49, v50, v51, v52, v53, v54, v55, v56, v57, v58, v59, v60, v61, v62, v63, v64, v65, v66, v67, v68, v69, v70, v71, v72, v73, v74, v75, v76, v77, v78, v79, v80, v81, v82, v83, rfl⟩ := array84 T hT84
  simp only [gT, gZ, Option.some.injEq] at t0
  subst t0
  refine ⟨30, Goes.quiet ?_⟩
  simp only [L7, body_wait, waitFn, Option.getD_some]
  u_c stepG_block (rs_rely hF2) hF
  u_c stepG_seq (rs_rely hF2) hF
  u_reg (rs_rely hF2) hF
  u_op (rs_rely hF2) hF
  u_op (rs_rely hF2) hF
  u_op (rs_rely hF2) hF
  u_call H.f_uLoad (nm_uLoad L) uLoadFn (rs_rely hF2) hF
  u_c stepG_seq (rs_rely hF2) hF
  u_reg (rs_rely hF2) hF
  u_op (rs_rely hF2) hF
  u_c stepG_region_end (rs_rely hF2) hF
  u_c stepG_seq (rs_rely hF2) hF
  u_reg (rs_rely hF2) hF
  u_op (rs_rely hF2) hF
  u_op (rs_rely hF2) hF
  u_op (rs_rely hF2) hF
  refine Goes.stop (fun w₁ h₁ => ?_)
  replace hF := rs_rely hF2 hF h₁
  clear h₁
  refine ⟨rfl, fun v hv hw => ?_⟩
  rcases Nat.eq_zero_or_pos v with rfl | hvp
  · -- the load reads 0
    replace hw : WgAt K.ty K.Wg w₁ 0 0 := by simpa using hw
    refine ⟨_, stepG_load_atomic (v := 0) rfl rfl (by k_ne) rfl H.f_loadU64 (x_loadU64_n L) (x_loadU64_b L) (x_loadU64_x L) .u64 (x_loadU64_f L) rfl hw.cellSt, fun _ => ⟨60, Goes.quiet ?_⟩, fun h => absurd rfl h⟩
    clear hw
    walk_nrm
    u_op (rs_rely hF2) hF
    u_c stepG_region_end (rs_rely hF2) hF
    u_c stepG_ret' (rs_rely hF2) hF
    u_leave1 H.f_uLoad (rs_rely hF2) hF
    u_op (rs_rely hF2) hF
    u_c stepG_region_end (rs_rely hF2) hF
    u_c stepG_seq (rs_rely hF2) hF
    u_reg (rs_rely hF2) hF
    u_op (rs_rely hF2) hF
    u_op (rs_rely hF2) hF
    u_op (rs_rely hF2) hF
    u_op (rs_rely hF2) hF
    u_c stepG_region_end (rs_rely hF2) hF
    u_c stepG_seq (rs_rely hF2) hF
    u_reg (rs_rely hF2) hF
    u_op (rs_rely hF2) hF
    u_op (rs_rely hF2) hF
    u_op (rs_rely hF2) hF
    u_op (rs_rely hF2) hF
    u_c stepG_region_end (rs_rely hF2) hF
    u_c stepG_seq (rs_rely hF2) hF
    u_c stepG_seq (rs_rely hF2) hF
    u_reg (rs_rely hF2) hF
    u_op (rs_rely hF2) hF
    u_op (rs_rely hF2) hF
    u_c stepG_region_end (rs_rely hF2) hF
    u_cond true (rs_rely hF2) hF
    u_c stepG_seq (rs_rely hF2) hF
    u_cond true (rs_rely hF2) hF
    u_c stepG_seq (rs_rely hF2) hF
    u_reg (rs_rely hF2) hF
    refine Goes.stop (fun w₅ h₅ => ?_)
    replace hF := rs_rely hF2 hF h₅
    clear h₅
    refine ⟨rfl, _, stepG_mark0 .enable (by simp) rfl rfl (by k_ne) rfl H.f_enable (x_enable_n L) (x_enable_b L) (x_enable_x L) (x_enable_f L), 20, Goes.quiet ?_⟩
    walk_nrm
    u_c stepG_region_end (rs_rely hF2) hF
    u_reg (rs_rely hF2) hF
    u_op (rs_rely hF2) hF
    u_conv H.underlying_tWgP H.room_tWg (WgLive.cell0 hF.2).choose_spec (rs_rely hF2) hF
    refine Goes.stop (fun w₆ h₆ => ?_)
    replace hF := rs_rely hF2 hF h₆
    clear h₆
    refine ⟨rfl, _, stepG_markAt .acquire (by simp) rfl rfl (by k_ne) rfl H.f_acquire (x_acquire_n L) (x_acquire_b L) (x_acquire_x L) (x_acquire_f L) (by simp [Act.eval, stA]), mT + 40, Goes.flat (RS.refl K no0) (n := 40) (m := mT) ?_⟩
    walk_nrm
    u_c stepG_region_end (rs_rely hF2) hF
    u_c stepG_seq (rs_rely hF2) hF
    u_c stepG_seq (rs_rely hF2) hF
    u_reg (rs_rely hF2) hF
    u_op (rs_rely hF2) hF
    u_op (rs_rely hF2) hF
    u_op (rs_rely hF2) hF
    u_op (rs_rely hF2) hF
    u_op (rs_rely hF2) hF
    u_op (rs_rely hF2) hF
    u_op (rs_rely hF2) hF
    u_op (rs_rely hF2) hF
    u_skip (rs_rely hF2) hF
    u_skip (rs_rely hF2) hF
    u_op (rs_rely hF2) hF
    u_c stepG_region_end (rs_rely hF2) hF
    u_cond false (rs_rely hF2) hF
    u_c stepG_skip (rs_rely hF2) hF
    u_c stepG_ret' (rs_rely hF2) hF
    u_leave0 H.f_wait (rs_rely hF2) hF
    exact Goes.stop (fun w' h' => by have := rs_rely hF2 hF h'; exact hT _ this.1 this.2)
  · -- it reads more
    obtain ⟨S, hS⟩ : ∃ S : Int, (v : Int) * KK = S := ⟨_, rfl⟩
    have a1 : S / 4294967296 = (v : Int) := by rw [← hS]; simp only [KK]; omega
    have b1 : bits .and .u64 S 2147483648 = 0 := by rw [← hS]; have := st_flag v 0 (by omega) (by omega); simpa [KK] using this
    have b2 : bits .and .u64 S 2147483647 = 0 := by rw [← hS]; have := st_waiters v 0 (by omega) (by omega); simpa [KK] using this
    have c1 : IntKind.i32.wrap (v : Int) = (v : Int) := by rw [IntKind.wrap_i32]; omega
    have w1 : IntKind.u64.wrap (S + 1) = S + 1 := by rw [IntKind.wrap_u64, ← hS]; simp only [KK]; omega
    have q3 : decide ((v : Int) < 0) = false := decide_eq_false (by omega)
    have q4 : decide (0 < (v : Int)) = true := decide_eq_true (by omega)
    have q5 : ((v : Int) == 0) = false := by simp; omega
    have q6 : decide ((v : Int) = 0) = false := decide_eq_false (by omega)
    rw [hS] at hw
    refine ⟨_, stepG_load_atomic (v := S) rfl rfl (by k_ne) rfl H.f_loadU64 (x_loadU64_n L) (x_loadU64_b L) (x_loadU64_x L) .u64 (x_loadU64_f L) rfl hw.cellSt, fun h0 => absurd h0 (by omega), fun _ => ⟨70, Goes.quiet ?_⟩⟩
    clear hw
    walk_nrm
    u_op (rs_rely hF2) hF
    u_c stepG_region_end (rs_rely hF2) hF
    u_c stepG_ret' (rs_rely hF2) hF
    u_leave1 H.f_uLoad (rs_rely hF2) hF
    u_op (rs_rely hF2) hF
    u_c stepG_region_end (rs_rely hF2) hF
    u_c stepG_seq (rs_rely hF2) hF
    u_reg (rs_rely hF2) hF
    u_op (rs_rely hF2) hF
    u_op (rs_rely hF2) hF
    u_op (rs_rely hF2) hF
    u_op (rs_rely hF2) hF
    u_c stepG_region_end (rs_rely hF2) hF
    u_c stepG_seq (rs_rely hF2) hF
    u_reg (rs_rely hF2) hF
    u_op (rs_rely hF2) hF
    u_op (rs_rely hF2) hF
    u_op (rs_rely hF2) hF
    u_op (rs_rely hF2) hF
    u_c stepG_region_end (rs_rely hF2) hF
    u_c stepG_seq (rs_rely hF2) hF
    u_c stepG_seq (rs_rely hF2) hF
    u_reg (rs_rely hF2) hF
    u_op (rs_rely hF2) hF
    u_op (rs_rely hF2) hF
    u_c stepG_region_end (rs_rely hF2) hF
    u_cond false (rs_rely hF2) hF
    u_c stepG_skip (rs_rely hF2) hF
    u_c stepG_seq (rs_rely hF2) hF
    u_reg (rs_rely hF2) hF
    u_op (rs_rely hF2) hF
    u_op (rs_rely hF2) hF
    u_op (rs_rely hF2) hF
    u_op (rs_rely hF2) hF
    u_op (rs_rely hF2) hF
    u_op (rs_rely hF2) hF
    u_call H.f_uCas (nm_uCas L) uCasFn (rs_rely hF2) hF
    u_c stepG_seq (rs_rely hF2) hF
    u_reg (rs_rely hF2) hF
    u_op (rs_rely hF2) hF
    u_c stepG_region_end (rs_rely hF2) hF
    u_c stepG_seq (rs_rely hF2) hF
    u_reg (rs_rely hF2) hF
    u_op (rs_rely hF2) hF
    u_op (rs_rely hF2) hF
    u_op (rs_rely hF2) hF
    u_op (rs_rely hF2) hF
    u_op (rs_rely hF2) hF
    refine Goes.stop (fun w₂ h₂ => ?_)
    replace hF := rs_rely hF2 hF h₂
    clear h₂
    refine ⟨rfl, fun v' hv' hw => ⟨fun e => ?_, fun e => ?_⟩⟩
    · -- the swap hits
      subst e
      rw [hS] at hw ⊢
      refine ⟨_, (stepG_cas_hit (v := S) (n := S + 1) rfl rfl (by k_ne) rfl H.f_casU64 (x_casU64_n L) (x_casU64_b L) (x_casU64_x L) .u64 (x_casU64_f L) rfl rfl rfl hw.cellSt (hw.thaw 0)).trans (by rfl), 50 + 50, Goes.flat (RS.refl K no0) ?_⟩
      have hl : WgLive K.ty K.Wg (w₂.setCell (stA K.Wg) (.int .u64 (S + 1))) := ⟨_, _, hw.setSt _⟩
      replace hF : F (w₂.setCell (stA K.Wg) (.int .u64 (S + 1))) ∧ WgLive K.ty K.Wg (w₂.setCell (stA K.Wg) (.int .u64 (S + 1))) := ⟨hF2 _ _ (rs_setCell hOW rfl _ hl) hF.1, hl⟩
      clear hw hl
      walk_nrm
      u_op (rs_rely hF2) hF
      u_c stepG_region_end (rs_rely hF2) hF
      u_c stepG_ret' (rs_rely hF2) hF
      u_leave1 H.f_uCas (rs_rely hF2) hF
      u_c stepG_region_end (rs_rely hF2) hF
      u_cond true (rs_rely hF2) hF
      u_c stepG_seq (rs_rely hF2) hF
      u_c stepG_seq (rs_rely hF2) hF
      u_reg (rs_rely hF2) hF
      u_op (rs_rely hF2) hF
      u_op (rs_rely hF2) hF
      u_op (rs_rely hF2) hF
      u_op (rs_rely hF2) hF
      u_c stepG_region_end (rs_rely hF2) hF
      u_cond true (rs_rely hF2) hF
      u_reg (rs_rely hF2) hF
      u_op (rs_rely hF2) hF
      u_op (rs_rely hF2) hF
      u_op (rs_rely hF2) hF
      u_conv H.underlying_tPU32 H.room_tU32 (WgLive.cell1 hF.2).choose_spec (rs_rely hF2) hF
      refine Goes.stop (fun w₃ h₃ => ?_)
      replace hF := rs_rely hF2 hF h₃
      clear h₃
      u_in (rs_rely hF2) hF
      rw [stepG_markAt .write (by simp) rfl rfl (by k_ne) rfl H.f_raceWrite (x_raceWrite_n L) (x_raceWrite_b L) (x_raceWrite_x L) (x_raceWrite_f L) (ad := smA K.Wg) (by simp [Act.eval, smA])]
      simp only [goes_go]
      refine ⟨ds_said .write (.inr rfl) _, Goes.quiet ?_⟩
      walk_nrm
      u_c stepG_region_end (rs_rely hF2) hF
      u_c stepG_seq (rs_rely hF2) hF
      u_reg (rs_rely hF2) hF
      u_op (rs_rely hF2) hF
      u_c stepG_region_end (rs_rely hF2) hF
      u_c stepG_seq (rs_rely hF2) hF
      u_c stepG_seq (rs_rely hF2) hF
      u_reg (rs_rely hF2) hF
      u_op (rs_rely hF2) hF
      u_op (rs_rely hF2) hF
      u_op (rs_rely hF2) hF
      u_op (rs_rely hF2) hF
      u_skip (rs_rely hF2) hF
      u_op (rs_rely hF2) hF
      u_c stepG_region_end (rs_rely hF2) hF
      u_cond false (rs_rely hF2) hF
      u_c stepG_skip (rs_rely hF2) hF
      u_c stepG_seq (rs_rely hF2) hF
      u_reg (rs_rely hF2) hF
      u_op (rs_rely hF2) hF
      u_op (rs_rely hF2) hF
      u_op (rs_rely hF2) hF
      u_op (rs_rely hF2) hF
      refine Goes.stop (fun w₄ h₄ => ?_)
      replace hF := rs_rely hF2 hF h₄
      clear h₄
      refine ⟨rfl, rfl, fun ⟨st, hw⟩ => stepG_semacquire_wait rfl rfl rfl H.f_semacquire (x_semacquire_n L) (x_semacquire_b L) (x_semacquire_x L) (x_semacquire_f L) (by simp [Act.eval, smA]) hw.cellSm, fun hf => ?_⟩
      refine ⟨_, (stepG_semacquire (n := 1) rfl rfl (by k_ne) rfl H.f_semacquire (x_semacquire_n L) (x_semacquire_b L) (x_semacquire_x L) (x_semacquire_f L) (by simp [Act.eval, smA]) hf.cellSm (by k_ne) (hf.thaw 1)).trans (by rfl), 30, Goes.quiet ?_⟩
      have hl : WgLive K.ty K.Wg (w₄.setCell (smA K.Wg) (.int .u32 0)) := ⟨_, _, hf.setSm 0⟩
      replace hF : F (w₄.setCell (smA K.Wg) (.int .u32 0)) ∧ WgLive K.ty K.Wg (w₄.setCell (smA K.Wg) (.int .u32 0)) := ⟨hF2 _ _ (rs_setCell hOW rfl _ hl) hF.1, hl⟩
      clear hf hl
      walk_nrm
      u_c stepG_region_end (rs_rely hF2) hF
      u_c stepG_seq (rs_rely hF2) hF
      u_reg (rs_rely hF2) hF
      u_op (rs_rely hF2) hF
      u_op (rs_rely hF2) hF
      u_op (rs_rely hF2) hF
      u_call H.f_uLoad (nm_uLoad L) uLoadFn (rs_rely hF2) hF
      u_c stepG_seq (rs_rely hF2) hF
      u_reg (rs_rely hF2) hF
      u_op (rs_rely hF2) hF
      u_c stepG_region_end (rs_rely hF2) hF
      u_c stepG_seq (rs_rely hF2) hF
      u_reg (rs_rely hF2) hF
      u_op (rs_rely hF2) hF
      u_op (rs_rely hF2) hF
      u_op (rs_rely hF2) hF
      refine Goes.stop (fun w₇ h₇ => ?_)
      replace hF := rs_rely hF2 hF h₇
      clear h₇
      refine ⟨rfl, fun hw => ⟨_, stepG_load_atomic (v := 0) rfl rfl (by k_ne) rfl H.f_loadU64 (x_loadU64_n L) (x_loadU64_b L) (x_loadU64_x L) .u64 (x_loadU64_f L) rfl hw.cellSt, 40, Goes.quiet ?_⟩⟩
      clear hw
      walk_nrm
      u_op (rs_rely hF2) hF
      u_c stepG_region_end (rs_rely hF2) hF
      u_c stepG_ret' (rs_rely hF2) hF
      u_leave1 H.f_uLoad (rs_rely hF2) hF
      u_op (rs_rely hF2) hF
      u_op (rs_rely hF2) hF
      u_c stepG_region_end (rs_rely hF2) hF
      u_c stepG_seq (rs_rely hF2) hF
      u_cond true (rs_rely hF2) hF
      u_c stepG_seq (rs_rely hF2) hF
      u_reg (rs_rely hF2) hF
      refine Goes.stop (fun w₅ h₅ => ?_)
      replace hF := rs_rely hF2 hF h₅
      clear h₅
      refine ⟨rfl, _, stepG_mark0 .enable (by simp) rfl rfl (by k_ne) rfl H.f_enable (x_enable_n L) (x_enable_b L) (x_enable_x L) (x_enable_f L), 20, Goes.quiet ?_⟩
      walk_nrm
      u_c stepG_region_end (rs_rely hF2) hF
      u_reg (rs_rely hF2) hF
      u_op (rs_rely hF2) hF
      u_conv H.underlying_tWgP H.room_tWg (WgLive.cell0 hF.2).choose_spec (rs_rely hF2) hF
      refine Goes.stop (fun w₆ h₆ => ?_)
      replace hF := rs_rely hF2 hF h₆
      clear h₆
      refine ⟨rfl, _, stepG_markAt .acquire (by simp) rfl rfl (by k_ne) rfl H.f_acquire (x_acquire_n L) (x_acquire_b L) (x_acquire_x L) (x_acquire_f L) (by simp [Act.eval, stA]), mT + 40, Goes.flat (RS.refl K no0) (n := 40) (m := mT) ?_⟩
      walk_nrm
      u_c stepG_region_end (rs_rely hF2) hF
      u_c stepG_seq (rs_rely hF2) hF
      u_c stepG_seq (rs_rely hF2) hF
      u_reg (rs_rely hF2) hF
      u_op (rs_rely hF2) hF
      u_c stepG_region_end (rs_rely hF2) hF
      u_cond false (rs_rely hF2) hF
      u_c stepG_skip (rs_rely hF2) hF
      u_c stepG_ret' (rs_rely hF2) hF
      u_leave0 H.f_wait (rs_rely hF2) hF
      exact Goes.stop (fun w' h' => by have := rs_rely hF2 hF h'; exact hT _ this.1 this.2)
    · -- it misses
      refine ⟨_, stepG_cas_miss (v := (v' : Int) * KK) (old := S) (n := S + 1) rfl rfl (by k_ne) rfl H.f_casU64 (x_casU64_n L) (x_casU64_b L) (x_casU64_x L) .u64 (x_casU64_f L) rfl rfl rfl hw.cellSt (hw.thaw 0) (by rw [← hS]; simp only [KK]; omega), 20, Goes.quiet ?_⟩
      clear hw
      walk_nrm
      u_op (rs_rely hF2) hF
      u_c stepG_region_end (rs_rely hF2) hF
      u_c stepG_ret' (rs_rely hF2) hF
      u_leave1 H.f_uCas (rs_rely hF2) hF
      u_c stepG_region_end (rs_rely hF2) hF
      u_cond false (rs_rely hF2) hF
      u_c stepG_skip (rs_rely hF2) hF
      u_c stepG_inBlock (rs_rely hF2) hF
      u_c stepG_inLoop (rs_rely hF2) hF
      refine Goes.stop (fun w₃ h₃ => ?_)
      replace hF := rs_rely hF2 hF h₃
      exact hA _ _ ⟨_, rfl, by simp, by simp, hF⟩

omit [Payload] in
set_option maxRecDepth 100000 in
theorem cwWait (H : WgLib P L) (hA : ∀ g w, AnchK L K F (b₀.at a₀ (.inRegion ops₀ (i₀ :: rest₀) :: k₀)) cs g w → AnchW g w) (hF2 : ∀ w w', RS K no0 w w' → F w → F w') (w : World) (hF : F w ∧ WgLive K.ty K.Wg w) :
    Goes P true (RS K no0) (DS K no0) (TKd P K AnchW) 3
      (G ((base L.wait).at ⟨#[.pointer (some ⟨K.Wg, 0, none⟩), undef, undef, undef, undef, undef, undef, undef, undef, undef, undef, undef, undef, undef, undef, undef, undef, undef, undef, undef, undef, undef, undef, undef, undef, undef, undef, undef, undef, undef, undef, undef, undef, undef, undef, undef, undef, undef, undef, undef, undef, undef, undef, undef, undef, undef, undef, undef, undef, undef, undef, undef, undef, undef, undef, undef, undef, undef, undef, undef, undef, undef, undef, undef, undef, undef, undef, undef, undef, undef, undef, undef, undef, undef, undef, undef, undef, undef, undef, undef, undef, undef, undef, undef], []⟩ [.code (body_wait L)]) (b₀.at a₀ (.inRegion ops₀ (i₀ :: rest₀) :: k₀) :: cs)) w := by
  lib_facts
  simp only [body_wait, waitFn, Option.getD_some]
  refine Goes.quiet ?_
  u_c stepG_seq (rs_rely hF2) hF
  u_cond true (rs_rely hF2) hF
  u_reg (rs_rely hF2) hF
  refine Goes.stop (fun w₁ h₁ => ?_)
  replace hF := rs_rely hF2 hF h₁
  clear h₁
  refine ⟨rfl, _, stepG_mark0 .disable (by simp) rfl rfl (by k_ne) rfl H.f_disable (x_disable_n L) (x_disable_b L) (x_disable_x L) (x_disable_f L), 3, Goes.quiet ?_⟩
  walk_nrm
  u_c stepG_region_end (rs_rely hF2) hF
  u_c stepG_block (rs_rely hF2) hF
  u_c stepG_loop (rs_rely hF2) hF
  exact Goes.stop (fun w₂ h₂ => hA _ _ ⟨_, rfl, by simp, by simp, rs_rely hF2 hF h₂⟩)
end
end Go.Proofs.YtlcgbnmmbheleaaGreat


namespace Go.Proofs.YtlcgbnmmbheleaaGreat
open Go Go.Conc Go.RowKit Go.Conc.Lib Go.ConcR.Gen Go.ConcN.Gen
open Go.ConcN (WgLive PayAt)
open Go.ConcR (KK WgAt stA smA rd wr mk DC0)
set_option linter.unusedVariables false
set_option linter.unusedSimpArgs false

def AnchU (K : Cw) (W : World) (lv : Nat) (cs : List Frame) (g : Goroutine) (w : World) : Prop :=
  ∃ T : Array Value, T.size = 24 ∧ T[3]? = some (.pointer (some ⟨lv, 0, none⟩)) ∧ AnchK lk K (FU K W) (bU.at ⟨T, []⟩ (.inRegion uOps9 [0] :: [.code uT10])) cs g w
def FinU (K : Cw) (W : World) (lv : Nat) (cs : List Frame) (g : Goroutine) (w : World) : Prop :=
  ∃ T : Array Value, T.size = 24 ∧ T[3]? = some (.pointer (some ⟨lv, 0, none⟩)) ∧ g = G (bU.at ⟨T, []⟩ (.inRegion uOps9 [] :: [.code uT10])) cs ∧ FU K W w

section
variable {K : Cw} {W : World} {lv n c2 : Nat} {A2 : Option Addr} {cs : List Frame}
theorem anchU_run : ∀ g w, AnchU K W lv cs g w → g.status = .running := by
  rintro g w ⟨T, _, _, T', rfl, _⟩
  rfl
theorem anchU_round : ∀ g w, AnchU K W lv cs g w → ∃ m, Goes Tryz.prog true (RS K no0) (DS K no0) (TW1 Tryz.prog K (AnchU K W lv cs) (FinU K W lv cs)) m g w := by
  rintro g w ⟨T, h1, h2, h3⟩
  refine cwRound (mT := 0) wgLib (fun g w h => ⟨T, h1, h2, h⟩) (fun w w' r h => FU.rely r h) (fun w hf _ => Goes.stop fun w' h' => ⟨rfl, _, ?_, ?_, rfl, FU.rely h' hf⟩) g w h3
  · simp [uOps9, uTail, uBody, Tryz.f22, Act.put, h1]
  · simp [uOps9, uTail, uBody, Tryz.f22, Act.put, h2]

set_option maxRecDepth 100000 in
set_option maxHeartbeats 4000000 in
theorem uLast (hn : n = K.n) : ∃ m, ∀ (J : Nat → Value) (w : World), FU K W w ∧ WgLive K.ty K.Wg w → Goes Tryz.prog true (RS K no0) (DS K no0) (StopS Tryz.prog K (AnchU K W lv cs) 0) m (uHead K lv A2 n c2 n J cs) w := by
  clear hn
  refine ⟨3 + 20, fun J w hF => ?_⟩
  have q1 : decide ((n : Int) < (n : Int)) = false := decide_eq_false (by omega)
  simp only [uHead, uTH, uLB, uTail, uBody, Tryz.f22, Option.getD_some]
  refine Goes.flat (RS.refl K no0) ?_
  u_c stepG_seq (rs_rely (fun w w' r h => FU.rely r h)) hF
  u_reg (rs_rely (fun w w' r h => FU.rely r h)) hF
  u_op (rs_rely (fun w w' r h => FU.rely r h)) hF
  u_c stepG_region_end (rs_rely (fun w w' r h => FU.rely r h)) hF
  u_c stepG_seq (rs_rely (fun w w' r h => FU.rely r h)) hF
  u_cond false (rs_rely (fun w w' r h => FU.rely r h)) hF
  u_exit (rs_rely (fun w w' r h => FU.rely r h)) hF
  u_c stepG_seq (rs_rely (fun w w' r h => FU.rely r h)) hF
  u_reg (rs_rely (fun w w' r h => FU.rely r h)) hF
  u_call wgLib.f_wait (nm_wait lk) waitFn (rs_rely (fun w w' r h => FU.rely r h)) hF
  refine Goes.stop (fun w₁ h₁ => ?_)
  replace hF := (rs_rely (fun w w' r h => FU.rely r h)) hF h₁
  clear h₁
  have hA := @cwWait lk Tryz.prog K (AnchU K W lv cs) (FU K W)
  simp only [body_wait, waitFn, Option.getD_some] at hA ⊢
  refine hA wgLib (fun g w h => ?_) (fun w w' r h => FU.rely r h) _ hF
  exact ⟨_, by rfl, by rfl, h⟩
end

section
variable {K : Cw} {W : World} {lv bu ou n c2 : Nat} {A2 : Option Addr} {cs : List Frame}
theorem uLoop (hty : K.ty = lk.tWg) (hK : K.Ok) (hW : K.B = W.heap.size) (hn : n = K.n) (hle : K.n ≤ 1000) (hA2 : 0 < K.n → A2 = some ⟨bu, ou, none⟩)
    (hU : ∀ i, i < K.n → ∃ op Ai ni ci ts, Units K W lv bu ou i op Ai ni ci ts) : ∀ r, r ≤ K.n → ∃ m, ∀ (J : Nat → Value) (w : World), FU K W w ∧ WgLive K.ty K.Wg w →
      Goes Tryz.prog true (RS K no0) (DS K no0) (StopS Tryz.prog K (AnchU K W lv cs) r) m (uHead K lv A2 n c2 (K.n - r) J cs) w := by
  intro r
  induction r with
  | zero =>
    intro _
    rw [Nat.sub_zero, ← hn]
    exact uLast hn
  | succ r ih =>
    intro hr
    obtain rfl := hA2 (by omega)
    obtain ⟨op, Ai, ni, ci, ts, hu⟩ := hU (K.n - (r + 1)) (by omega)
    refine uRound hty hK hW hn (by omega) rfl hle hu ?_
    rw [show K.n - (r + 1) + 1 = K.n - r by omega]
    exact ih (by omega)
end
end Go.Proofs.YtlcgbnmmbheleaaGreat
