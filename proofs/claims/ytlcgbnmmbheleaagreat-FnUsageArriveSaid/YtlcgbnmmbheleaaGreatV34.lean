/- Several texts in one. -/
import Derived.Test.YtlcgbnmmbheleaaGreatV33
namespace Go.Proofs.YtlcgbnmmbheleaaGreat
open Go Go.Conc Go.RowKit
set_option linter.unusedVariables false
set_option linter.unusedSimpArgs false

def togTo (us : List Un) : Nat → List Int
  | 0 => [0, 0, 0]
  | k + 1 => add3 (togTo us k) (loadP (us[k]?.getD (false, [])).2)
theorem togTo_len (us : List Un) (k : Nat) : (togTo us k).length = 3 := by cases k <;> rfl
theorem load14 {room : List Int} {us : List Un} (h : clOk room us = true) (k j : Nat) : 0 ≤ (loadP (us[k]?.getD (false, [])).2)[j]?.getD 0 ∧ (loadP (us[k]?.getD (false, [])).2)[j]?.getD 0 ≤ 14000 := by
  obtain ⟨hu, _, _, h14⟩ := uok_of h
  rcases Nat.lt_or_ge j 3 with hj | hj
  · have := loadP_bd (ts := (us[k]?.getD (false, [])).2) (hu.nb k) (Nat.le_refl _) j hj
    rw [List.take_length] at this
    have h14' : (us[k]?.getD (false, [])).2.length ≤ 14 := by
      rcases Nat.lt_or_ge k us.length with hk | hk
      · exact (h14 _ (un_mem hk)).1
      · rw [List.getElem?_eq_none hk]; simp
    omega
  · rw [List.getElem?_eq_none (by rw [loadP_len]; exact hj)]
    simp
theorem togTo_bd {room : List Int} {us : List Un} (h : clOk room us = true) (j : Nat) : ∀ k : Nat, 0 ≤ (togTo us k)[j]?.getD 0 ∧ (togTo us k)[j]?.getD 0 ≤ 14000 * k
  | 0 => by
    rcases Nat.lt_or_ge j 3 with hj | hj
    · match j, hj with
      | 0, _ => simp [togTo]
      | 1, _ => simp [togTo]
      | 2, _ => simp [togTo]
    · rw [List.getElem?_eq_none (by rw [togTo_len]; exact hj)]; simp
  | k + 1 => by
    have ih := togTo_bd h j k
    have hl := load14 h k j
    rcases Nat.lt_or_ge j 3 with hj | hj
    · unfold togTo
      rw [add3_at hj]
      omega
    · rw [List.getElem?_eq_none (by rw [togTo_len]; exact hj)]; simp; omega

set_option maxRecDepth 100000 in
set_option maxHeartbeats 1600000 in
theorem together_any (C n : Nat) (room : List Int) (us : List Un) (w : World) (hL : RdLd w C us) (hok : clOk room us = true) (hn : us.length = n) :
    Calls Tryz.prog 21 #[.slice (some ⟨C, 0, none⟩) n n] w fun e w' => ∃ A c, e = .returned (.slice A 3 c) ∧ RdI w' w'.heap.size A 3 (togTo us n) ∧ Below w.heap.size w w' := by
  have HL := qh hL
  have Hok := qh hok
  have hul := qh hn
  have hn2 : n ≤ 10 := by have := (clOk_facts hok).2.2.1; omega
  clear hL hok hn
  go_enter Tryz.func21, Tryz.ntmps21
  go_wp2_with (go_at_call 45; refine (zeros_any _).mono ?_; rintro e w1 ⟨rfl, rfl⟩)
  go_loopw [3, 9] (fun v i wr => ∃ k : Nat, i = .int .i64 k ∧ k ≤ n ∧ Below w.heap.size w wr ∧ ∃ A c, v = .slice A 3 c ∧ RdI wr wr.heap.size A 3 (togTo us k)) (fun _ i _ => n - (intOf i).toNat)
  case atStart => exact ⟨0, rfl, Nat.zero_le _, (Below.refl _ _).alloc (Nat.le_refl _) _, _, _, rfl, RdI.of_blk (xs := [0, 0, 0]) (Blk.new w _ _) rfl (by omega)⟩
  case round =>
    obtain ⟨k, rfl, hk, hbel, A', c', rfl, hr⟩ := hrel
    have Hr := qh hr
    clear hr
    by_cases hlt : k < n
    · obtain ⟨A2, m2, el, hrl⟩ := HL.out k (by have := hul.out; omega)
      have hlt2 := cell_lt el
      have el' := (hbel.cell (p := ⟨C, k, none⟩) hlt2).trans el
      have Hr2 := qh (hrl.up hbel)
      have HB := qh hbel
      have k1 : (0 : Int) ≤ (k : Int) := by omega
      have k2 : (k : Int) < (n : Int) := by omega
      have E := qh (show togTo us (k + 1) = add3 (togTo us k) (loadP (us[k]?.getD (false, [])).2) from rfl)
      clear hrl el hbel
      go_wp2_with fail
      refine (plus_any _ _ _ _ _ _ _ _ _ Hr.out Hr2.out (by omega) (by omega) (fun j hj => ?_) (fun j hj => ?_)).mono ?_
      · have := togTo_bd Hok.out j k; omega
      · have := load14 Hok.out k j; omega
      rintro e w1 ⟨A3, c3, rfl, hr3, hb3⟩
      have Hr3 := qh hr3
      have HB3 := qh (below_to HB.out hb3)
      clear hr3 hb3
      go_wp2_with fail
      go_roundw
      case rel => exact ⟨k + 1, by go_num, by omega, HB3.out, _, _, rfl, by rw [E.out]; exact Hr3.out⟩
      case measure => simp [intOf]; omega
    · obtain rfl : k = n := by omega
      have HB := qh hbel
      clear hbel
      go_wp2_with fail
      go_ret
      exact ⟨_, _, rfl, Hr.out, HB.out⟩
end Go.Proofs.YtlcgbnmmbheleaaGreat

namespace Go.Proofs.YtlcgbnmmbheleaaGreat
open Go Go.Conc Go.RowKit
set_option linter.unusedVariables false
set_option linter.unusedSimpArgs false
noncomputable def uoBody : Code := Tryz.f10.body.getD .skip
noncomputable def uoC0 : Code := match uoBody with | .seq a _ => a | _ => .skip
noncomputable def uoC1 : Code := match uoBody with | .seq _ (.seq a _) => a | _ => .skip
noncomputable def uoR : Code := match uoBody with | .seq _ (.seq _ r) => r | _ => .skip
theorem uoBody_eq : uoBody = .seq uoC0 (.seq uoC1 uoR) := by rfl
section
variable {H : Nat → Prop} {v : World} {A1 A2 : Option Addr} {n1 c1 n2 c2 : Nat} {room : List Int} {us : List Un}
set_option maxRecDepth 100000 in
theorem uo_c1 (A1 A2 : Option Addr) (n1 c1 n2 c2 cb : Nat) (room : List Int) (us : List Un) (v : World) (h : RdC v A1 A2 n1 n2 room us) (hs : ShU us) (hok : clOk room us = true) (hbox : Blk v cb 26 #[.slice A1 n1 c1, .slice A2 n2 c2]) :
    uoC1.wp Tryz.prog (fun e a v' => (e = .normal ∧ a = ⟨#[(.agg #[.slice A1 n1 c1, .slice A2 n2 c2]), .pointer (some ⟨cb, 0, none⟩), .slice none 0 0, (.agg #[.slice A1 n1 c1, .slice A2 n2 c2]), .bool true, .bool false, undef, undef, undef], []⟩ ∧ GR v v') ∨ (e = .ret ∧ False)) ⟨#[(.agg #[.slice A1 n1 c1, .slice A2 n2 c2]), .pointer (some ⟨cb, 0, none⟩), .slice none 0 0, undef, undef, undef, undef, undef, undef], []⟩ v := by
  have x0 := hbox.cell 0
  have x1 := hbox.cell 1
  simp only [gT, gZ, gS] at x0 x1
  have Hr := qh h
  have Hs := qh hs
  have Hok := qh hok
  clear h hs hbox hok
  simp only [uoC1, uoBody, Tryz.f10, Option.getD_some]
  go_wp2_with fail
  clear x0 x1
  refine (clusterValidI_any A1 A2 n1 c1 n2 c2 room us v Hr.out Hs.out).mono ?_; rintro e w2 ⟨rfl, hb2⟩
  have B2 := qh hb2
  clear hb2
  rw [Hok.out]
  go_wp2_with fail
  exact below_gr B2.out

set_option maxRecDepth 100000 in
set_option maxHeartbeats 1000000 in
theorem usageOf_v (h : RdC v A1 A2 n1 n2 room us) (hs : ShU us) (hok : clOk room us = true) : CallsV Tryz.prog H 10 #[.agg #[.slice A1 n1 c1, .slice A2 n2 c2]] v (fun x v' => ∃ A c, x = .slice A 3 c ∧ RdI v' v'.heap.size A 3 (togTo us us.length) ∧ GR v v') := by
  obtain rfl : us.length = n2 := h.b.len
  refine ⟨_, uoBody, Tryz.func10, by kernel_rfl, by rfl, fun cs => ?_⟩
  have e : (#[Value.agg #[.slice A1 n1 c1, .slice A2 us.length c2]] ++ Array.replicate (Tryz.f10.ntmps - (#[Value.agg #[.slice A1 n1 c1, .slice A2 us.length c2]] : Array Value).size) undef) = #[(.agg #[.slice A1 n1 c1, .slice A2 us.length c2]), undef, undef, undef, undef, undef, undef, undef, undef] := by kernel_rfl
  have hsu := hs
  rw [e, uoBody_eq]
  clear e
  refine KV.seqC anaA_good (Nm := fun v₁ a v' => a = ⟨#[(.agg #[.slice A1 n1 c1, .slice A2 us.length c2]), .pointer (some ⟨v₁.heap.size, 0, none⟩), .slice none 0 0, undef, undef, undef, undef, undef, undef], []⟩ ∧ v' = v₁.alloc (.cells #[.slice A1 n1 c1, .slice A2 us.length c2] 26)) (Rt := fun _ _ _ => False) (by kernel_rfl) (by kernel_rfl) rfl (by kernel_rfl) (fun v₁ hs => ?_) (fun v₁ a' v' hs hq => ?_) (fun _ _ _ _ _ h => h.elim)
  · simp only [uoC0, uoBody, Tryz.f10, Option.getD_some]
    go_wp2
  obtain ⟨rfl, rfl⟩ := hq
  rw [hs.heap]
  refine KV.heap (v := v.alloc (.cells #[.slice A1 n1 c1, .slice A2 us.length c2] 26)) ?_ ⟨by show v.heap.push _ = v₁.heap.push _; rw [hs.heap], hs.os.symm, hs.output.symm⟩
  clear hs v₁
  have hg1 : GR v (v.alloc (.cells #[.slice A1 n1 c1, .slice A2 us.length c2] 26)) := below_gr (alloc_up v _)
  have hbox : Blk (v.alloc (.cells #[.slice A1 n1 c1, .slice A2 us.length c2] 26)) v.heap.size 26 #[.slice A1 n1 c1, .slice A2 us.length c2] := Blk.new v _ _
  have hr1 := h.gr hg1
  generalize v.alloc (.cells #[.slice A1 n1 c1, .slice A2 us.length c2] 26) = w1 at hg1 hbox hr1 ⊢
  generalize v.heap.size = cb at hbox ⊢
  refine KV.seqC anaA_good (Nm := fun v₁ a v' => a = ⟨#[(.agg #[.slice A1 n1 c1, .slice A2 us.length c2]), .pointer (some ⟨cb, 0, none⟩), .slice none 0 0, (.agg #[.slice A1 n1 c1, .slice A2 us.length c2]), .bool true, .bool false, undef, undef, undef], []⟩ ∧ GR v₁ v') (Rt := fun _ _ _ => False) (by kernel_rfl) (by kernel_rfl) rfl (by kernel_rfl) (fun v₁ hs => ?_) (fun v₁ a' v' hs hq => ?_) (fun _ _ _ _ _ h => h.elim)
  · exact uo_c1 A1 A2 n1 c1 us.length c2 cb room us v₁ (hr1.same hs.heap) hsu hok (ViewOf_cells_of hbox hs.heap)
  obtain ⟨rfl, hg⟩ := hq
  have hg2 := hg1.trans (GR.from hs hg)
  replace hbox := hbox.grr (GR.from hs hg)
  replace hr1 := hr1.gr (GR.from hs hg)
  clear hg hs hg1
  generalize v' = w2 at hg2 hbox hr1 ⊢
  refine KV.ctl rfl (fun w => stepG_seq) ?_
  refine KV.ctl rfl (fun w => stepG_region) ?_
  try simp only [uoR, uoBody, Tryz.f10, Option.getD_some]
  try simp only [List.size_toArray, List.length_cons, List.length_nil, Nat.reduceAdd, Nat.zero_add, List.range, List.range.loop]
  refine KV.op anaA_good rfl (by rfl) (by decide) (by kernel_rfl) (fun t => anaA.noTr_spec (by kernel_rfl) t) (fun v₁ hs K' hK' => ?_)
  have hbx := ViewOf_cells_of hbox hs.heap
  have x0 := hbx.cell 0
  have x1 := hbx.cell 1
  simp only [gT, gZ, gS] at x0 x1
  go_simp
  refine hK' _ _ ?_
  try walk_nrm
  clear x0 x1 hbx hK' K'
  refine KV.heap (v := w2) ?_ ⟨hs.heap.symm, hs.os.symm, hs.output.symm⟩
  clear hs v₁
  have huk := (uok_of hok).1
  refine KV.callV rfl (by rfl) (by decide) rfl (Post := UsP us w2) ?_ (fun x v3 hp => ?_)
  · have hus := usage_v (H := H) (A1 := A1) (n1 := n1) (c1 := c1) (c2 := c2) huk hr1.b
    simpa [Act.eval, Act.put] using hus
  obtain ⟨C, xs, rfl, hC, hrow, hxs, hfit, hg3⟩ := hp
  have hrl : RdLd v3 C us := fun c hc => by
    obtain ⟨y, g1, A, m, rfl, g3⟩ := hfit c hc
    exact ⟨A, m, by simp only [World.cell?, hrow]; exact g1, g3⟩
  have hg4 := hg2.trans hg3
  clear hfit hxs hrow hC hg3
  try walk_nrm
  refine KV.call anaA_good (R := fun v₁ x v' => ∃ A c, x = .slice A 3 c ∧ RdI v' v'.heap.size A 3 (togTo us us.length) ∧ GR v₁ v') (f := 21) (by kernel_rfl) (by kernel_rfl) rfl (by rfl) (by decide) rfl (fun v₁ hs => ?_) (fun v₁ x v4 hs hp => ?_)
  · have ht := together_any C us.length room us v₁ (fun c hc => by
      obtain ⟨A, m, g1, g2⟩ := hrl c hc
      exact ⟨A, m, (World.cell?_of_block (by rw [hs.heap])).trans g1, g2.gain (fun p y hy => (World.cell?_of_block (by rw [hs.heap])).trans hy) (by rw [hs.heap]; exact Nat.le_refl _)⟩) hok rfl
    have ht2 : Calls Tryz.prog 21 #[.slice (some ⟨C, 0, none⟩) us.length us.length] v₁ (fun e v' => ∃ x, e = .returned x ∧ ∃ A c, x = .slice A 3 c ∧ RdI v' v'.heap.size A 3 (togTo us us.length) ∧ GR v₁ v') := ht.mono (by rintro e v' ⟨A, c, rfl, hr, hb⟩; exact ⟨_, rfl, A, c, rfl, hr, below_gr hb⟩)
    simpa [Act.eval, Act.put] using ht2
  obtain ⟨A5, c5, rfl, hrd, hg5⟩ := hp
  have hg6 := hg4.trans (GR.from hs hg5)
  clear hg5 hg4 hs
  try walk_nrm
  refine KV.op anaA_good rfl (by rfl) (by decide) (by kernel_rfl) (fun t => anaA.noTr_spec (by kernel_rfl) t) (fun v₁ hs K' hK' => ?_)
  go_simp
  refine hK' _ _ ?_
  try walk_nrm
  clear hK' K'
  refine KV.heap (v := v4) ?_ ⟨hs.heap.symm, hs.os.symm, hs.output.symm⟩
  clear hs
  refine KV.ctl rfl (fun w => stepG_region_end) ?_
  refine KV.endC anaA_good (Rt := fun v₁ a v' => a.defers = [] ∧ a.tmps.getD 2 undef = .slice A5 3 c5 ∧ v' = v₁) (by kernel_rfl) (by kernel_rfl) rfl (by kernel_rfl) (fun v₁ hs => ?_) (fun v₁ a' v' todo hs hq => ?_)
  · try simp only [uoR, uoBody, Tryz.f10, Option.getD_some]
    go_wp2
  · obtain ⟨h1, h2, rfl⟩ := hq
    exact ⟨_, a', todo, _, Tryz.func10, h1, rfl, resultsC_tmp rfl a'.tmps, A5, c5, h2, hrd.gain (fun p y hy => (World.cell?_of_block (by rw [hs.heap])).trans hy) (by rw [hs.heap]; exact Nat.le_refl _), hg6.same hs⟩
end
end Go.Proofs.YtlcgbnmmbheleaaGreat

namespace Go.Proofs.YtlcgbnmmbheleaaGreat
open Go Go.Conc Go.RowKit
set_option linter.unusedVariables false
set_option linter.unusedSimpArgs false

theorem KV.draw {P : Program} {H : Nat → Prop} {Tgt : Goroutine → World → Prop} {v : World} {g : Goroutine} {g' : Nat → Goroutine} {qu : Question} (hs : g.status = .running)
    (h : ∀ w, stepG P true g w = .go (g' (w.tape w.drawn qu)) { w with drawn := w.drawn + 1 } #[]) (hn : ∀ t, KV P H Tgt (g' t) v) : KV P H Tgt g v :=
  .one hs fun S w hv d => ⟨_, v, { w.at d with drawn := (w.at d).drawn + 1 }, #[], h _, ⟨hv.os, hv.output, hv.size, hv.same, hv.dead, hv.hid, hv.plain, hv.views⟩, by simp, rfl, Nat.le_refl _, fun _ _ => rfl, hn _⟩

theorem SameHeap.set {a b : World} (h : SameHeap a b) (p : Addr) (x : Value) : SameHeap (a.setCell p x) (b.setCell p x) := ⟨by unfold World.setCell; simp only [h.heap], h.os, h.output⟩
theorem SameHeap.alloc {a b : World} (h : SameHeap a b) (o : Obj) : SameHeap (a.alloc o) (b.alloc o) := ⟨by show a.heap.push o = b.heap.push o; rw [h.heap], h.os, h.output⟩
theorem SameHeap.cell {a b : World} (h : SameHeap a b) {p : Addr} {x : Value} (hc : b.cell? p = some x) : a.cell? p = some x := (World.cell?_of_block (by rw [h.heap])).trans hc
theorem SameHeap.sym {a b : World} (h : SameHeap a b) : SameHeap b a := ⟨h.heap.symm, h.os.symm, h.output.symm⟩

theorem room_pos {room : List Int} {us : List Un} (h : clOk room us = true) {k : Nat} (hk : k < 3) : 1 ≤ room[k]?.getD 0 ∧ room[k]?.getD 0 ≤ 20 := by
  have h3 := (clOk_facts h).1
  have hb := (uok_of h).2.2.1 k
  refine ⟨?_, hb.2⟩
  simp only [clOk, binsOk, tasksOk, roomOk, Bool.and_eq_true, List.all_eq_true, decide_eq_true_eq] at h
  have hp := h.1.2.1.2.1.1.1.2
  rw [List.getElem?_eq_getElem (by omega)]
  exact hp _ (List.getElem_mem _)

/-! ### a drawn region in any order: which states are come to is checked by the kernel, layer by layer -/
def stA (n : Nat) (s : Nat → Bool) : Array Bool := ((List.range n).map s).toArray
end Go.Proofs.YtlcgbnmmbheleaaGreat
