/- Several texts in one. -/
import Derived.Test.YtlcgbnmmbheleaaV23
namespace Go.Proofs.Ytlcgbnmmbheleaa
open Go Go.Conc Go.RowKit
set_option linter.unusedVariables false
set_option linter.unusedSimpArgs false

section
variable {P : Program} {H : Nat → Prop} {Tgt : Goroutine → World → Prop} {v : World}
theorem KV.skip {b : Frame} {a : Act} {k : List Item} {cs : List Frame} {ops : Array Oper} {i : Nat} {rest : List Nat} {o : Oper} (ho : ops[i]? = some o) (hw : Region.wanted o (yielded ops a.tmps) = false)
    (hn : KV P H Tgt (G (b.at (a.put o.dst undef) (.inRegion ops rest :: k)) cs) v) : KV P H Tgt (G (b.at a (.inRegion ops (i :: rest) :: k)) cs) v := by
  have hfin : (b.at a (.inRegion ops (i :: rest) :: k)).finish undef = b.at (a.put o.dst undef) (.inRegion ops rest :: k) := by rw [Frame.finish_at, ho]; rfl
  refine .ctl rfl (fun w => ?_) hn
  rw [← hfin]
  simp [G, stepG, stepG.exec, Frame.at, ho, hw]
end

def posTo (xs : List Int) : Nat → Int
  | 0 => 0
  | k + 1 => posTo xs k + max (xs[k]?.getD 0) 0
theorem posTo_bd {xs : List Int} (h : ∀ i : Nat, -1 ≤ xs[i]?.getD 0 ∧ xs[i]?.getD 0 ≤ 1000) : ∀ k : Nat, 0 ≤ posTo xs k ∧ posTo xs k ≤ 1000 * k
  | 0 => by simp [posTo]
  | k + 1 => by
    have ih := posTo_bd h k
    have := h k
    unfold posTo
    omega
theorem pos_left {room : List Int} {us : List Un} (h : clOk room us = true) : ∀ k : Nat, k ≤ us.length → posTo (leftsP room us) k = leftTo room us k
  | 0, _ => rfl
  | k + 1, hk => by
    have ih := pos_left h k (by omega)
    have hp := leftV_pos h (show k < us.length by omega)
    unfold posTo leftTo
    rw [ih, lefts_at (by omega)]
    unfold leftP
    change _ + max (if (us[k]?.getD (false, [])).1 = true then leftV room (us[k]?.getD (false, [])) else -1) 0 = _
    split <;> omega
theorem lefts_bd {room : List Int} {us : List Un} (h : clOk room us = true) (i : Nat) : -1 ≤ (leftsP room us)[i]?.getD 0 ∧ (leftsP room us)[i]?.getD 0 ≤ 1000 := by
  rcases Nat.lt_or_ge i us.length with hi | hi
  · have hp := leftV_pos h hi
    have hb := leftV_bd h i
    rw [lefts_at hi]
    unfold leftP
    change -1 ≤ (if (us[i]?.getD (false, [])).1 = true then leftV room (us[i]?.getD (false, [])) else -1) ∧ (if (us[i]?.getD (false, [])).1 = true then leftV room (us[i]?.getD (false, [])) else -1) ≤ 1000
    split <;> omega
  · rw [List.getElem?_eq_none (by simp [leftsP]; omega)]; simp

noncomputable def ufBody : Code := Try.f12.body.getD .skip
noncomputable def ufC0 : Code := match ufBody with | .seq a _ => a | _ => .skip
noncomputable def ufC1 : Code := match ufBody with | .seq _ (.seq a _) => a | _ => .skip
noncomputable def ufC3 : Code := match ufBody with | .seq _ (.seq _ (.seq a _)) => a | _ => .skip
noncomputable def ufR : Code := match ufBody with | .seq _ (.seq _ (.seq _ r)) => r | _ => .skip
noncomputable def ufL : Code := match ufBody with | .seq _ (.seq _ (.seq _ (.seq (.seq _ l) _))) => l | _ => .skip
theorem ufBody_eq : ufBody = .seq ufC0 (.seq ufC1 (.seq ufC3 ufR)) := by rfl

set_option maxRecDepth 100000 in
set_option maxHeartbeats 1000000 in
theorem uf_loop (y0 y1 : Value) (A3 : Option Addr) (n2 c3 : Nat) (y6 y9 : Value) (xs : List Int) (w : World) (h : RdI w w.heap.size A3 n2 xs) (hn : n2 ≤ 1000) (hb : ∀ i : Nat, -1 ≤ xs[i]?.getD 0 ∧ xs[i]?.getD 0 ≤ 1000) :
    ufL.wp Try.prog (fun e a w' => e = .normal ∧ a.defers = [] ∧ a.tmps.size = 22 ∧ a.tmps[3]? = some (.int .i64 (posTo xs n2)) ∧ w' = w) ⟨#[y0, y1, .int .i64 0, .int .i64 0, undef, undef, y6, .bool true, .bool false, y9, .slice A3 n2 c3, .int .i64 n2, .int .i64 0, undef, undef, undef, undef, undef, undef, undef, undef, undef], []⟩ w := by
  have H := qh h
  have Hb := qh hb
  clear h hb
  simp only [ufL, ufBody, Try.f12, Option.getD_some]
  go_wp2_with fail
  go_loop [3, 12] (fun s i => ∃ k : Nat, i = .int .i64 k ∧ k ≤ n2 ∧ s = .int .i64 (posTo xs k)) (fun _ i => n2 - (intOf i).toNat)
  case atStart => exact ⟨0, rfl, Nat.zero_le _, rfl⟩
  case round =>
    obtain ⟨k, rfl, hk, rfl⟩ := hrel
    by_cases hlt : k < n2
    · obtain ⟨b, o, rfl, hbB, hc⟩ := H.out.at_ hlt
      have E := qh (show posTo xs (k + 1) = posTo xs k + max (xs[k]?.getD 0) 0 from rfl)
      have hp := posTo_bd Hb.out k
      have hx := Hb.out k
      have k1 : (0 : Int) ≤ (k : Int) := by omega
      have k2 : (k : Int) < (n2 : Int) := by omega
      generalize posTo xs k = s at hp E ⊢
      generalize xs[k]?.getD 0 = x at hx hc E
      by_cases hx0 : x < 0
      · have e1 : IntKind.i64.wrap (s + 0) = s := by rw [Int.add_zero]; exact wr64 (by omega) (by omega)
        have q : ¬ 0 ≤ x := by omega
        go_wp2
        go_round
        case rel => exact ⟨k + 1, by go_num, by omega, by rw [E.out, show max x 0 = 0 by omega]; simp⟩
        case measure => simp [intOf]; omega
      · have e1 : IntKind.i64.wrap (s + x) = s + x := wr64 (by omega) (by omega)
        have q : 0 ≤ x := by omega
        go_wp2
        go_round
        case rel => exact ⟨k + 1, by go_num, by omega, by rw [E.out, show max x 0 = x by omega]⟩
        case measure => simp [intOf]; omega
    · obtain rfl : k = n2 := by omega
      go_wp2

section
variable {H : Nat → Prop} {v : World} {A1 A2 : Option Addr} {n1 c1 n2 c2 : Nat} {room : List Int} {us : List Un}
set_option maxRecDepth 100000 in
theorem uf_c1 (A1 A2 : Option Addr) (n1 c1 n2 c2 cb : Nat) (room : List Int) (us : List Un) (v : World) (h : RdC v A1 A2 n1 n2 room us) (hs : ShU us) (hbox : Blk v cb 26 #[.slice A1 n1 c1, .slice A2 n2 c2]) :
    ufC1.wp Try.prog (fun e a v' => (e = .normal ∧ clOk room us = true ∧ a = ⟨#[(.agg #[.slice A1 n1 c1, .slice A2 n2 c2]), .pointer (some ⟨cb, 0, none⟩), .int .i64 0, undef, undef, undef, (.agg #[.slice A1 n1 c1, .slice A2 n2 c2]), .bool true, .bool false, undef, undef, undef, undef, undef, undef, undef, undef, undef, undef, undef, undef, undef], []⟩ ∧ GR v v') ∨ (e = .ret ∧ ¬ clOk room us = true ∧ a.defers = [] ∧ a.tmps.getD 2 undef = (.int .i64 (-1)) ∧ GR v v')) ⟨#[(.agg #[.slice A1 n1 c1, .slice A2 n2 c2]), .pointer (some ⟨cb, 0, none⟩), .int .i64 0, undef, undef, undef, undef, undef, undef, undef, undef, undef, undef, undef, undef, undef, undef, undef, undef, undef, undef, undef], []⟩ v := by
  have x0 := hbox.cell 0
  have x1 := hbox.cell 1
  simp only [gT, gZ, gS] at x0 x1
  have Hr := qh h
  have Hs := qh hs
  clear h hs hbox
  simp only [ufC1, ufBody, Try.f12, Option.getD_some]
  go_wp2_with fail
  clear x0 x1
  refine (clusterValidI_any A1 A2 n1 c1 n2 c2 room us v Hr.out Hs.out).mono ?_; rintro e w2 ⟨rfl, hb2⟩
  have B2 := qh hb2
  clear hb2
  cases hok : clOk room us with
  | false =>
    go_wp2_with fail
    exact below_gr B2.out
  | true =>
    go_wp2_with fail
    exact below_gr B2.out

set_option maxRecDepth 100000 in
set_option maxHeartbeats 1000000 in
theorem usageLeft_v (h : RdC v A1 A2 n1 n2 room us) (hs : ShU us) : CallsV Try.prog H 12 #[.agg #[.slice A1 n1 c1, .slice A2 n2 c2]] v (fun x v' => x = .int .i64 (leftP' room us) ∧ GR v v') := by
  refine ⟨_, ufBody, Try.func12, by kernel_rfl, by rfl, fun cs => ?_⟩
  have e : (#[Value.agg #[.slice A1 n1 c1, .slice A2 n2 c2]] ++ Array.replicate (Try.f12.ntmps - (#[Value.agg #[.slice A1 n1 c1, .slice A2 n2 c2]] : Array Value).size) undef) = #[(.agg #[.slice A1 n1 c1, .slice A2 n2 c2]), undef, undef, undef, undef, undef, undef, undef, undef, undef, undef, undef, undef, undef, undef, undef, undef, undef, undef, undef, undef, undef] := by kernel_rfl
  have hsu := hs
  rw [e, ufBody_eq]
  clear e
  refine KV.seqC anaA_good (Nm := fun v₁ a v' => a = ⟨#[(.agg #[.slice A1 n1 c1, .slice A2 n2 c2]), .pointer (some ⟨v₁.heap.size, 0, none⟩), .int .i64 0, undef, undef, undef, undef, undef, undef, undef, undef, undef, undef, undef, undef, undef, undef, undef, undef, undef, undef, undef], []⟩ ∧ v' = v₁.alloc (.cells #[.slice A1 n1 c1, .slice A2 n2 c2] 26)) (Rt := fun _ _ _ => False) (by kernel_rfl) (by kernel_rfl) rfl (by kernel_rfl) (fun v₁ hs => ?_) (fun v₁ a' v' hs hq => ?_) (fun _ _ _ _ _ h => h.elim)
  · simp only [ufC0, ufBody, Try.f12, Option.getD_some]
    go_wp2
  obtain ⟨rfl, rfl⟩ := hq
  rw [hs.heap]
  refine KV.heap (v := v.alloc (.cells #[.slice A1 n1 c1, .slice A2 n2 c2] 26)) ?_ ⟨by show v.heap.push _ = v₁.heap.push _; rw [hs.heap], hs.os.symm, hs.output.symm⟩
  clear hs v₁
  have hg1 : GR v (v.alloc (.cells #[.slice A1 n1 c1, .slice A2 n2 c2] 26)) := below_gr (alloc_up v _)
  have hbox : Blk (v.alloc (.cells #[.slice A1 n1 c1, .slice A2 n2 c2] 26)) v.heap.size 26 #[.slice A1 n1 c1, .slice A2 n2 c2] := Blk.new v _ _
  have hr1 := h.gr hg1
  generalize v.alloc (.cells #[.slice A1 n1 c1, .slice A2 n2 c2] 26) = w1 at hg1 hbox hr1 ⊢
  generalize v.heap.size = cb at hbox ⊢
  refine KV.seqC anaA_good (Nm := fun v₁ a v' => clOk room us = true ∧ a = ⟨#[(.agg #[.slice A1 n1 c1, .slice A2 n2 c2]), .pointer (some ⟨cb, 0, none⟩), .int .i64 0, undef, undef, undef, (.agg #[.slice A1 n1 c1, .slice A2 n2 c2]), .bool true, .bool false, undef, undef, undef, undef, undef, undef, undef, undef, undef, undef, undef, undef, undef], []⟩ ∧ GR v₁ v') (Rt := fun v₁ a v' => ¬ clOk room us = true ∧ a.defers = [] ∧ a.tmps.getD 2 undef = (.int .i64 (-1)) ∧ GR v₁ v') (by kernel_rfl) (by kernel_rfl) rfl (by kernel_rfl) (fun v₁ hs => ?_) (fun v₁ a' v' hs hq => ?_) (fun v₁ a' v' todo hs hq => ?_)
  · exact uf_c1 A1 A2 n1 c1 n2 c2 cb room us v₁ (hr1.same hs.heap) hsu (ViewOf_cells_of hbox hs.heap)
  · obtain ⟨hok, rfl, hg⟩ := hq
    have hg2 := hg1.trans (GR.from hs hg)
    replace hbox := hbox.grr (GR.from hs hg)
    replace hr1 := hr1.gr (GR.from hs hg)
    clear hg hs hg1
    generalize v' = w2 at hg2 hbox hr1 ⊢
    refine KV.seqC anaA_good (Nm := fun v₁ a v' => a = ⟨#[(.agg #[.slice A1 n1 c1, .slice A2 n2 c2]), .pointer (some ⟨cb, 0, none⟩), .int .i64 0, .int .i64 0, undef, undef, (.agg #[.slice A1 n1 c1, .slice A2 n2 c2]), .bool true, .bool false, undef, undef, undef, undef, undef, undef, undef, undef, undef, undef, undef, undef, undef], []⟩ ∧ v' = v₁) (Rt := fun _ _ _ => False) (by kernel_rfl) (by kernel_rfl) rfl (by kernel_rfl) (fun v₁ hs => ?_) (fun v₁ a' v' hs hq => ?_) (fun _ _ _ _ _ h => h.elim)
    · simp only [ufC3, ufBody, Try.f12, Option.getD_some]
      go_wp2
    obtain ⟨rfl, rfl⟩ := hq
    refine KV.heap (v := w2) ?_ ⟨hs.heap.symm, hs.os.symm, hs.output.symm⟩
    clear hs v'
    refine KV.ctl rfl (fun w => stepG_seq) ?_
    refine KV.ctl rfl (fun w => stepG_seq) ?_
    refine KV.ctl rfl (fun w => stepG_region) ?_
    try simp only [ufR, ufBody, Try.f12, Option.getD_some]
    try simp only [List.size_toArray, List.length_cons, List.length_nil, Nat.reduceAdd, Nat.zero_add, List.range, List.range.loop]
    refine KV.op anaA_good rfl (by rfl) (by decide) (by kernel_rfl) (fun t => anaA.noTr_spec (by kernel_rfl) t) (fun v₁ hs K' hK' => ?_)
    have hbx := ViewOf_cells_of hbox hs.heap
    have x0 := hbx.cell 0
    have x1 := hbx.cell 1
    simp only [gT, gZ, gS] at x0 x1
    go_simp
    refine hK' _ _ ?_
    try walk_nrm
    clear x0 x1 hbx hK' K'
    refine KV.heap (v := w2) ?_ ⟨hs.heap.symm, hs.os.symm, hs.output.symm⟩
    clear hs v₁
    refine KV.callV rfl (by rfl) (by decide) rfl (Post := fun x v' => ∃ A c, x = .slice A n2 c ∧ RdI v' v'.heap.size A n2 (leftsP room us) ∧ GR w2 v') ?_ (fun x v3 hp => ?_)
    · have hus := lefts_v (H := H) (c1 := c1) (c2 := c2) hr1 hok
      simpa [Act.eval, Act.put] using hus
    obtain ⟨A3, c3, rfl, hrd, hg3⟩ := hp
    try walk_nrm
    refine KV.op anaA_good rfl (by rfl) (by decide) (by kernel_rfl) (fun t => anaA.noTr_spec (by kernel_rfl) t) (fun v₁ hs K' hK' => ?_)
    go_simp
    refine hK' _ _ ?_
    try walk_nrm
    clear hK' K'
    refine KV.heap (v := v3) ?_ ⟨hs.heap.symm, hs.os.symm, hs.output.symm⟩
    clear hs v₁
    refine KV.op anaA_good rfl (by rfl) (by decide) (by kernel_rfl) (fun t => anaA.noTr_spec (by kernel_rfl) t) (fun v₁ hs K' hK' => ?_)
    go_simp
    refine hK' _ _ ?_
    try walk_nrm
    clear hK' K'
    refine KV.heap (v := v3) ?_ ⟨hs.heap.symm, hs.os.symm, hs.output.symm⟩
    clear hs v₁
    refine KV.ctl rfl (fun w => stepG_region_end) ?_
    have hg4 := hg2.trans hg3
    have hn2 : n2 ≤ 1000 := by rw [← hr1.b.len]; exact hsu.1
    refine KV.code anaA_good (Q := fun v₁ e a v' => e = .normal ∧ a.defers = [] ∧ a.tmps.size = 22 ∧ a.tmps[3]? = some (.int .i64 (posTo (leftsP room us) n2)) ∧ v' = v₁) (by kernel_rfl) rfl rfl (fun t => anaA.noTr_spec (by kernel_rfl) t) (by kernel_rfl) (fun v₁ hs => ?_) (fun _ _ _ _ h => .inl h.1) (fun v₁ a' v' hs hq => ?_) (fun _ _ _ _ _ h => nomatch h.1)
    · exact uf_loop _ _ A3 n2 c3 _ _ _ v₁ (hrd.gain (fun p y hy => (World.cell?_of_block (by rw [hs.heap])).trans hy) (by rw [hs.heap]; exact Nat.le_refl _)) hn2 (lefts_bd hok)
    obtain ⟨_, hd, hsz, h3, rfl⟩ := hq
    obtain ⟨T, ds⟩ := a'
    dsimp only at hd hsz h3
    subst hd
    refine KV.heap (v := v3) ?_ ⟨hs.heap.symm, hs.os.symm, hs.output.symm⟩
    clear hs v'
    refine KV.endC anaA_good (Rt := fun v₁ a v' => a.defers = [] ∧ a.tmps.getD 2 undef = .int .i64 (posTo (leftsP room us) n2) ∧ v' = v₁) (by kernel_rfl) (by kernel_rfl) rfl (by kernel_rfl) (fun v₁ hs => ?_) (fun v₁ a' v' todo hs hq => ?_)
    · have h3' : T[3]'(by omega) = .int .i64 (posTo (leftsP room us) n2) := by
        rw [Array.getElem?_eq_getElem (by omega)] at h3
        exact Option.some.inj h3
      clear h3 hs
      generalize posTo (leftsP room us) n2 = s at h3' ⊢
      try simp only [ufR, ufBody, Try.f12, Option.getD_some]
      go_wp2
    · obtain ⟨h1, h2, rfl⟩ := hq
      refine ⟨_, a', todo, _, Try.func12, h1, rfl, resultsC_tmp rfl a'.tmps, h2.trans ?_, hg4.same hs⟩
      have hl := hr1.b.len
      rw [← hl, pos_left hok _ (Nat.le_refl _)]
      unfold leftP'
      rw [if_pos hok]
  · obtain ⟨hno, h1, h2, hg⟩ := hq
    refine ⟨_, a', todo, _, Try.func12, h1, rfl, resultsC_tmp rfl a'.tmps, h2.trans ?_, hg1.trans (GR.from hs hg)⟩
    unfold leftP'
    rw [if_neg hno]
end
end Go.Proofs.Ytlcgbnmmbheleaa

namespace Go.Proofs.Ytlcgbnmmbheleaa
open Go Go.Conc Go.RowKit
set_option linter.unusedVariables false
set_option linter.unusedSimpArgs false

noncomputable def ueBody : Code := Try.f17.body.getD .skip
noncomputable def ueC0 : Code := match ueBody with | .seq a _ => a | _ => .skip
noncomputable def ueC1 : Code := match ueBody with | .seq _ (.seq a _) => a | _ => .skip
noncomputable def ueC3 : Code := match ueBody with | .seq _ (.seq _ (.seq a _)) => a | _ => .skip
noncomputable def ueC4 : Code := match ueBody with | .seq _ (.seq _ (.seq _ (.seq a _))) => a | _ => .skip
noncomputable def ueR : Code := match ueBody with | .seq _ (.seq _ (.seq _ (.seq _ r))) => r | _ => .skip
theorem ueBody_eq : ueBody = .seq ueC0 (.seq ueC1 (.seq ueC3 (.seq ueC4 ueR))) := by rfl
section
variable {H : Nat → Prop} {v : World} {A1 A2 : Option Addr} {n1 c1 n2 c2 : Nat} {room : List Int} {us : List Un}
set_option maxRecDepth 100000 in
theorem ue_c1 (A1 A2 : Option Addr) (n1 c1 n2 c2 cb : Nat) (room : List Int) (us : List Un) (v : World) (h : RdC v A1 A2 n1 n2 room us) (hs : ShU us) (hok : clOk room us = true) (hbox : Blk v cb 26 #[.slice A1 n1 c1, .slice A2 n2 c2]) :
    ueC1.wp Try.prog (fun e a v' => (e = .normal ∧ a = ⟨#[(.agg #[.slice A1 n1 c1, .slice A2 n2 c2]), .int .i64 0, .pointer (some ⟨cb, 0, none⟩), undef, .int .i64 0, undef, (.agg #[.slice A1 n1 c1, .slice A2 n2 c2]), .bool true, .bool false, .bool false, .int .i64 0, .bool true, .bool false, .bool false, undef, undef, undef, undef, undef, undef, undef, undef, undef, undef, undef, undef, undef, undef, undef, undef, undef, undef, undef], []⟩ ∧ GR v v') ∨ (e = .ret ∧ False)) ⟨#[(.agg #[.slice A1 n1 c1, .slice A2 n2 c2]), .int .i64 0, .pointer (some ⟨cb, 0, none⟩), undef, .int .i64 0, undef, undef, undef, undef, undef, undef, undef, undef, undef, undef, undef, undef, undef, undef, undef, undef, undef, undef, undef, undef, undef, undef, undef, undef, undef, undef, undef, undef], []⟩ v := by
  have x0 := hbox.cell 0
  have x1 := hbox.cell 1
  simp only [gT, gZ, gS] at x0 x1
  have Hr := qh h
  have Hs := qh hs
  have Hok := qh hok
  have hw := qh (fun w => within_any 0 0 2 w)
  clear h hs hbox hok
  simp only [ueC1, ueBody, Try.f17, Option.getD_some]
  go_wp2_with fail
  clear x0 x1
  refine (clusterValidI_any A1 A2 n1 c1 n2 c2 room us v Hr.out Hs.out).mono ?_; rintro e w2 ⟨rfl, hb2⟩
  have B2 := qh hb2
  clear hb2
  rw [Hok.out]
  go_wp2_with fail
  refine (hw.out w2).mono ?_; rintro e w3 ⟨rfl, rfl⟩
  rw [show inR 0 2 0 = true from rfl]
  go_wp2_with fail
  exact below_gr B2.out
set_option maxRecDepth 100000 in
theorem ue_c3 (A1 A2 : Option Addr) (n1 c1 n2 c2 cb : Nat) (room : List Int) (us : List Un) (v : World) (h : RdC v A1 A2 n1 n2 room us) (hs : ShU us) (hbox : Blk v cb 26 #[.slice A1 n1 c1, .slice A2 n2 c2]) :
    ueC3.wp Try.prog (fun e a v' => (e = .normal ∧ a = ⟨#[(.agg #[.slice A1 n1 c1, .slice A2 n2 c2]), .int .i64 0, .pointer (some ⟨cb, 0, none⟩), undef, .int .i64 0, .int .i64 (openN us : Nat), (.agg #[.slice A1 n1 c1, .slice A2 n2 c2]), .bool true, .bool false, .bool false, .int .i64 0, .bool true, .bool false, .bool false, (.agg #[.slice A1 n1 c1, .slice A2 n2 c2]), .int .i64 (openN us : Nat), undef, undef, undef, undef, undef, undef, undef, undef, undef, undef, undef, undef, undef, undef, undef, undef, undef], []⟩ ∧ GR v v') ∨ (e = .ret ∧ False)) ⟨#[(.agg #[.slice A1 n1 c1, .slice A2 n2 c2]), .int .i64 0, .pointer (some ⟨cb, 0, none⟩), undef, .int .i64 0, undef, (.agg #[.slice A1 n1 c1, .slice A2 n2 c2]), .bool true, .bool false, .bool false, .int .i64 0, .bool true, .bool false, .bool false, undef, undef, undef, undef, undef, undef, undef, undef, undef, undef, undef, undef, undef, undef, undef, undef, undef, undef, undef], []⟩ v := by
  have x0 := hbox.cell 0
  have x1 := hbox.cell 1
  simp only [gT, gZ, gS] at x0 x1
  have Hr := qh h
  have Hs := qh hs
  clear h hs hbox
  simp only [ueC3, ueBody, Try.f17, Option.getD_some]
  go_wp2_with fail
  clear x0 x1
  refine (countOpen_any A1 A2 n1 c1 n2 c2 room us v Hr.out (by rw [← Hr.out.b.len]; exact Hs.out.1)).mono ?_; rintro e w3 ⟨rfl, hb3⟩
  have B3 := qh hb3
  clear hb3
  go_wp2_with fail
  exact below_gr B3.out
set_option maxRecDepth 100000 in
theorem ue_c4 (A1 A2 : Option Addr) (n1 c1 n2 c2 cb : Nat) (us : List Un) (v : World) (h0 : openN us = 0) :
    ueC4.wp Try.prog (fun e a v' => (e = .normal ∧ False) ∨ (e = .ret ∧ a.defers = [] ∧ a.tmps.getD 4 undef = .int .i64 0 ∧ v' = v)) ⟨#[(.agg #[.slice A1 n1 c1, .slice A2 n2 c2]), .int .i64 0, .pointer (some ⟨cb, 0, none⟩), undef, .int .i64 0, .int .i64 (openN us : Nat), (.agg #[.slice A1 n1 c1, .slice A2 n2 c2]), .bool true, .bool false, .bool false, .int .i64 0, .bool true, .bool false, .bool false, (.agg #[.slice A1 n1 c1, .slice A2 n2 c2]), .int .i64 (openN us : Nat), undef, undef, undef, undef, undef, undef, undef, undef, undef, undef, undef, undef, undef, undef, undef, undef, undef], []⟩ v := by
  rw [h0]
  clear h0
  simp only [ueC4, ueBody, Try.f17, Option.getD_some]
  go_wp2

set_option maxRecDepth 100000 in
set_option maxHeartbeats 1000000 in
theorem usageShare_v (h : RdC v A1 A2 n1 n2 room us) (hs : ShU us) (hok : clOk room us = true) (h0 : openN us = 0) : CallsV Try.prog H 17 #[.agg #[.slice A1 n1 c1, .slice A2 n2 c2], .int .i64 0] v (fun x v' => x = .int .i64 0 ∧ GR v v') := by
  refine ⟨_, ueBody, Try.func17, by kernel_rfl, by rfl, fun cs => ?_⟩
  have e : (#[Value.agg #[.slice A1 n1 c1, .slice A2 n2 c2], .int .i64 0] ++ Array.replicate (Try.f17.ntmps - (#[Value.agg #[.slice A1 n1 c1, .slice A2 n2 c2], .int .i64 0] : Array Value).size) undef) = #[(.agg #[.slice A1 n1 c1, .slice A2 n2 c2]), .int .i64 0, undef, undef, undef, undef, undef, undef, undef, undef, undef, undef, undef, undef, undef, undef, undef, undef, undef, undef, undef, undef, undef, undef, undef, undef, undef, undef, undef, undef, undef, undef, undef] := by kernel_rfl
  have hsu := hs
  rw [e, ueBody_eq]
  clear e
  refine KV.seqC anaA_good (Nm := fun v₁ a v' => a = ⟨#[(.agg #[.slice A1 n1 c1, .slice A2 n2 c2]), .int .i64 0, .pointer (some ⟨v₁.heap.size, 0, none⟩), undef, .int .i64 0, undef, undef, undef, undef, undef, undef, undef, undef, undef, undef, undef, undef, undef, undef, undef, undef, undef, undef, undef, undef, undef, undef, undef, undef, undef, undef, undef, undef], []⟩ ∧ v' = v₁.alloc (.cells #[.slice A1 n1 c1, .slice A2 n2 c2] 26)) (Rt := fun _ _ _ => False) (by kernel_rfl) (by kernel_rfl) rfl (by kernel_rfl) (fun v₁ hs => ?_) (fun v₁ a' v' hs hq => ?_) (fun _ _ _ _ _ h => h.elim)
  · simp only [ueC0, ueBody, Try.f17, Option.getD_some]
    go_wp2
  obtain ⟨rfl, rfl⟩ := hq
  rw [hs.heap]
  refine KV.heap (v := v.alloc (.cells #[.slice A1 n1 c1, .slice A2 n2 c2] 26)) ?_ ⟨by show v.heap.push _ = v₁.heap.push _; rw [hs.heap], hs.os.symm, hs.output.symm⟩
  clear hs v₁
  have hg1 : GR v (v.alloc (.cells #[.slice A1 n1 c1, .slice A2 n2 c2] 26)) := below_gr (alloc_up v _)
  have hbox : Blk (v.alloc (.cells #[.slice A1 n1 c1, .slice A2 n2 c2] 26)) v.heap.size 26 #[.slice A1 n1 c1, .slice A2 n2 c2] := Blk.new v _ _
  have hr1 := h.gr hg1
  generalize v.alloc (.cells #[.slice A1 n1 c1, .slice A2 n2 c2] 26) = w1 at hg1 hbox hr1 ⊢
  generalize v.heap.size = cb at hbox ⊢
  refine KV.seqC anaA_good (Nm := fun v₁ a v' => a = ⟨#[(.agg #[.slice A1 n1 c1, .slice A2 n2 c2]), .int .i64 0, .pointer (some ⟨cb, 0, none⟩), undef, .int .i64 0, undef, (.agg #[.slice A1 n1 c1, .slice A2 n2 c2]), .bool true, .bool false, .bool false, .int .i64 0, .bool true, .bool false, .bool false, undef, undef, undef, undef, undef, undef, undef, undef, undef, undef, undef, undef, undef, undef, undef, undef, undef, undef, undef], []⟩ ∧ GR v₁ v') (Rt := fun _ _ _ => False) (by kernel_rfl) (by kernel_rfl) rfl (by kernel_rfl) (fun v₁ hs => ?_) (fun v₁ a' v' hs hq => ?_) (fun _ _ _ _ _ h => h.elim)
  · exact ue_c1 A1 A2 n1 c1 n2 c2 cb room us v₁ (hr1.same hs.heap) hsu hok (ViewOf_cells_of hbox hs.heap)
  obtain ⟨rfl, hg⟩ := hq
  have hg2 := hg1.trans (GR.from hs hg)
  replace hbox := hbox.grr (GR.from hs hg)
  replace hr1 := hr1.gr (GR.from hs hg)
  clear hg hs hg1
  generalize v' = w2 at hg2 hbox hr1 ⊢
  refine KV.seqC anaA_good (Nm := fun v₁ a v' => a = ⟨#[(.agg #[.slice A1 n1 c1, .slice A2 n2 c2]), .int .i64 0, .pointer (some ⟨cb, 0, none⟩), undef, .int .i64 0, .int .i64 (openN us : Nat), (.agg #[.slice A1 n1 c1, .slice A2 n2 c2]), .bool true, .bool false, .bool false, .int .i64 0, .bool true, .bool false, .bool false, (.agg #[.slice A1 n1 c1, .slice A2 n2 c2]), .int .i64 (openN us : Nat), undef, undef, undef, undef, undef, undef, undef, undef, undef, undef, undef, undef, undef, undef, undef, undef, undef], []⟩ ∧ GR v₁ v') (Rt := fun _ _ _ => False) (by kernel_rfl) (by kernel_rfl) rfl (by kernel_rfl) (fun v₁ hs => ?_) (fun v₁ a' v' hs hq => ?_) (fun _ _ _ _ _ h => h.elim)
  · exact ue_c3 A1 A2 n1 c1 n2 c2 cb room us v₁ (hr1.same hs.heap) hsu (ViewOf_cells_of hbox hs.heap)
  obtain ⟨rfl, hg⟩ := hq
  have hg3 := hg2.trans (GR.from hs hg)
  clear hg hs hg2
  generalize v' = w3 at hg3 ⊢
  refine KV.seqC anaA_good (Nm := fun _ _ _ => False) (Rt := fun v₁ a v' => a.defers = [] ∧ a.tmps.getD 4 undef = .int .i64 0 ∧ v' = v₁) (by kernel_rfl) (by kernel_rfl) rfl (by kernel_rfl) (fun v₁ hs => ?_) (fun _ _ _ _ h => h.elim) (fun v₁ a' v' todo hs hq => ?_)
  · exact ue_c4 A1 A2 n1 c1 n2 c2 cb us v₁ h0
  obtain ⟨h1, h2, rfl⟩ := hq
  exact ⟨_, a', todo, _, Try.func17, h1, rfl, resultsC_tmp rfl a'.tmps, h2, hg3.same hs⟩
end
end Go.Proofs.Ytlcgbnmmbheleaa
