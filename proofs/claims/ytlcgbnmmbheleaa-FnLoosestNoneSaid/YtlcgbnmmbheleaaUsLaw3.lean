/- The law FnLoosestNone, beside leavers. (The program of this text: gen_uslaw3.py.) -/
import Derived.Test.YtlcgbnmmbheleaaV33
import Derived.Test.YtlcgbnmmbheleaaV31
namespace Go.Proofs.Ytlcgbnmmbheleaa
open Go Go.Conc Go.RowKit
set_option linter.unusedVariables false
set_option linter.unusedSimpArgs false

theorem none_iff {room : List Int} {us : List Un} (h : clOk room us = true) : (openN us = 0 ∧ loosestS room us = -1) ∨ (openN us ≠ 0 ∧ loosestS room us ≠ -1) := by
  unfold loosestS
  rw [if_pos h]
  rcases best_of room us us.length with ⟨e, hno⟩ | ⟨n, e, hn, h1, h2, h3⟩
  · exact .inl ⟨open_none hno, e⟩
  · exact .inr ⟨fun h0 => (by rw [open_some h0 n] at h1; cases h1), by omega⟩
theorem left_none {room : List Int} {us : List Un} (h : clOk room us = true) (h0 : openN us = 0) : leftP' room us = 0 := by
  have key : ∀ k : Nat, leftTo room us k = 0 := fun k => by
    induction k with
    | zero => rfl
    | succ k ih => unfold leftTo; rw [ih, open_some h0 k]; rfl
  unfold leftP'
  rw [if_pos h, key]

noncomputable def fnBody : Code := Try.f5.body.getD .skip
noncomputable def fnC0 : Code := match fnBody with | .seq a _ => a | _ => .skip
noncomputable def fnC1 : Code := match fnBody with | .seq _ (.seq a _) => a | _ => .skip
noncomputable def fnC3 : Code := match fnBody with | .seq _ (.seq _ (.seq a _)) => a | _ => .skip
noncomputable def fnR : Code := match fnBody with | .seq _ (.seq _ (.seq _ r)) => r | _ => .skip
noncomputable def fnC5 : Code := match fnBody with | .seq _ (.seq _ (.seq _ (.seq _ (.seq a _)))) => a | _ => .skip
noncomputable def fnC6 : Code := match fnBody with | .seq _ (.seq _ (.seq _ (.seq _ (.seq _ (.seq a _))))) => a | _ => .skip
noncomputable def fnC8 : Code := match fnBody with | .seq _ (.seq _ (.seq _ (.seq _ (.seq _ (.seq _ (.seq a _)))))) => a | _ => .skip
noncomputable def fnR9 : Code := match fnBody with | .seq _ (.seq _ (.seq _ (.seq _ (.seq _ (.seq _ (.seq _ r)))))) => r | _ => .skip
noncomputable def fnR5 : Code := match fnBody with | .seq _ (.seq _ (.seq _ (.seq _ r))) => r | _ => .skip
theorem fnBody_eq : fnBody = .seq fnC0 (.seq fnC1 (.seq fnC3 fnR)) := by rfl
theorem fnR5_eq : fnR5 = .seq fnC5 (.seq fnC6 (.seq fnC8 fnR9)) := by rfl

section
variable {H : Nat → Prop} {v : World} {A : Option Addr} {n c : Nat}
set_option maxRecDepth 100000 in
theorem fn_c3 (A : Option Addr) (n c : Nat) (v : World) (h : RdU v v.heap.size A n) (hc : n ≤ c) (hcm : c ≤ 9223372036854775807) :
    fnC3.wp Try.prog (fun e a v' => (e = .normal ∧ ∃ cb A1 n1 c1 A2 n2 c2 room us, a = ⟨#[.slice A n c, undef, .bool false, .pointer (some ⟨cb, 0, none⟩), undef, undef, undef, .slice A n c, .int .i64 n, .bool false, .slice A n c, (.agg #[.slice A1 n1 c1, .slice A2 n2 c2]), undef, undef, undef, undef, undef, undef, undef, undef, undef, undef, undef, undef, undef, undef, undef, undef, undef, undef, undef, undef, undef, undef, undef, undef, undef, undef, undef, undef, undef, undef, undef, undef, undef, undef, undef, undef, undef, undef], []⟩ ∧ RdC v' A1 A2 n1 n2 room us ∧ ShU us ∧ Blk v' cb 26 #[.slice A1 n1 c1, .slice A2 n2 c2] ∧ GR v v') ∨ (e = .ret ∧ False)) ⟨#[.slice A n c, undef, .bool false, undef, undef, undef, undef, .slice A n c, .int .i64 n, .bool false, undef, undef, undef, undef, undef, undef, undef, undef, undef, undef, undef, undef, undef, undef, undef, undef, undef, undef, undef, undef, undef, undef, undef, undef, undef, undef, undef, undef, undef, undef, undef, undef, undef, undef, undef, undef, undef, undef, undef, undef], []⟩ v := by
  simp only [fnC3, fnBody, Try.f5, Option.getD_some]
  go_wp2_with fail
  refine (drawUsageLoosest_any A n c v h hc hcm).mono ?_; rintro e w2 ⟨A1, n1, c1, A2, n2, c2, room, us, rfl, hr, hs, h1, h2, h3, hb⟩
  have B2 := qh hb
  have R2 := qh hr
  have Hs := qh hs
  clear hr hs hb h1 h2 h3
  have Z3 := qh (Blk.new w2 26 #[.slice none 0 0, .slice none 0 0])
  have y0 := Z3.out.cell 0
  have y1 := Z3.out.cell 1
  simp only [gT, gZ, gS] at y0 y1
  have y2 := Z3.out.frozen 0
  have y3 := Z3.out.frozen 1
  go_wp2_with fail
  refine ⟨_, A1, n1, c1, A2, n2, c2, ?_, room, us, R2.out.up (alloc_up w2 _), Hs.out, Blk.new w2 _ _, below_gr (below_to B2.out (alloc_up w2 _))⟩
  simp
end

section
variable (A A1 A2 : Option Addr) (n c n1 c1 n2 c2 cb : Nat) (room : List Int) (us : List Un) (out : Int)
set_option maxRecDepth 100000 in
theorem fn_c5 (v : World) (h : RdC v A1 A2 n1 n2 room us) (hs : ShU us) (hbox : Blk v cb 26 #[.slice A1 n1 c1, .slice A2 n2 c2]) (ho : loosestS room us = out) :
    fnC5.wp Try.prog (fun e a v' => (e = .normal ∧ a = ⟨#[.slice A n c, undef, .bool false, .pointer (some ⟨cb, 0, none⟩), .int .i64 out, .int .i64 out, undef, .slice A n c, .int .i64 n, .bool false, .slice A n c, (.agg #[.slice A1 n1 c1, .slice A2 n2 c2]), (.agg #[.slice A1 n1 c1, .slice A2 n2 c2]), .int .i64 out, (.agg #[.slice A1 n1 c1, .slice A2 n2 c2]), .int .i64 out, undef, undef, undef, undef, undef, undef, undef, undef, undef, undef, undef, undef, undef, undef, undef, undef, undef, undef, undef, undef, undef, undef, undef, undef, undef, undef, undef, undef, undef, undef, undef, undef, undef, undef], []⟩ ∧ GR v v') ∨ (e = .ret ∧ False)) ⟨#[.slice A n c, undef, .bool false, .pointer (some ⟨cb, 0, none⟩), .int .i64 out, undef, undef, .slice A n c, .int .i64 n, .bool false, .slice A n c, (.agg #[.slice A1 n1 c1, .slice A2 n2 c2]), (.agg #[.slice A1 n1 c1, .slice A2 n2 c2]), .int .i64 out, undef, undef, undef, undef, undef, undef, undef, undef, undef, undef, undef, undef, undef, undef, undef, undef, undef, undef, undef, undef, undef, undef, undef, undef, undef, undef, undef, undef, undef, undef, undef, undef, undef, undef, undef, undef], []⟩ v := by
  have x0 := hbox.cell 0
  have x1 := hbox.cell 1
  simp only [gT, gZ, gS] at x0 x1
  have Hr := qh h
  have Hs := qh hs
  have Ho := qh ho
  clear h hs hbox ho
  simp only [fnC5, fnBody, Try.f5, Option.getD_some]
  go_wp2_with fail
  clear x0 x1
  refine (usageLoosestS_any A1 A2 n1 c1 n2 c2 room us v Hr.out Hs.out).mono ?_; rintro e w2 ⟨rfl, hb2⟩
  have B2 := qh hb2
  clear hb2
  rw [Ho.out]
  go_wp2_with fail
  exact below_gr B2.out
set_option maxRecDepth 100000 in
theorem fn_c6 (v : World) (h : RdC v A1 A2 n1 n2 room us) (hs : ShU us) (hbox : Blk v cb 26 #[.slice A1 n1 c1, .slice A2 n2 c2]) :
    fnC6.wp Try.prog (fun e a v' => (e = .normal ∧ clOk room us = true ∧ a = ⟨#[.slice A n c, undef, .bool false, .pointer (some ⟨cb, 0, none⟩), .int .i64 out, .int .i64 out, undef, .slice A n c, .int .i64 n, .bool false, .slice A n c, (.agg #[.slice A1 n1 c1, .slice A2 n2 c2]), (.agg #[.slice A1 n1 c1, .slice A2 n2 c2]), .int .i64 out, (.agg #[.slice A1 n1 c1, .slice A2 n2 c2]), .int .i64 out, .int .i64 out, .int .i64 out, .bool false, .bool false, (.agg #[.slice A1 n1 c1, .slice A2 n2 c2]), .bool true, .bool false, .bool false, undef, undef, undef, undef, undef, undef, undef, undef, undef, undef, undef, undef, undef, undef, undef, undef, undef, undef, undef, undef, undef, undef, undef, undef, undef, undef], []⟩ ∧ GR v v') ∨ (e = .ret ∧ a.defers = [] ∧ a.tmps.getD 2 undef = .bool true ∧ GR v v')) ⟨#[.slice A n c, undef, .bool false, .pointer (some ⟨cb, 0, none⟩), .int .i64 out, .int .i64 out, undef, .slice A n c, .int .i64 n, .bool false, .slice A n c, (.agg #[.slice A1 n1 c1, .slice A2 n2 c2]), (.agg #[.slice A1 n1 c1, .slice A2 n2 c2]), .int .i64 out, (.agg #[.slice A1 n1 c1, .slice A2 n2 c2]), .int .i64 out, undef, undef, undef, undef, undef, undef, undef, undef, undef, undef, undef, undef, undef, undef, undef, undef, undef, undef, undef, undef, undef, undef, undef, undef, undef, undef, undef, undef, undef, undef, undef, undef, undef, undef], []⟩ v := by
  have x0 := hbox.cell 0
  have x1 := hbox.cell 1
  simp only [gT, gZ, gS] at x0 x1
  have Hr := qh h
  have Hs := qh hs
  clear h hs hbox
  simp only [fnC6, fnBody, Try.f5, Option.getD_some]
  go_wp2_with fail
  clear x0 x1
  refine (clusterValidS_any A1 A2 n1 c1 n2 c2 room us v Hr.out Hs.out).mono ?_; rintro e w2 ⟨rfl, hb2⟩
  have B2 := qh hb2
  clear hb2
  cases hok : clOk room us with
  | false =>
    go_wp2_with fail
    exact below_gr B2.out
  | true =>
    go_wp2_with fail
    exact below_gr B2.out
set_option maxRecDepth 100000 in
set_option maxHeartbeats 1000000 in
theorem fn_c8 (v : World) (h : RdC v A1 A2 n1 n2 room us) (hs : ShU us) (hok : clOk room us = true) (hbox : Blk v cb 26 #[.slice A1 n1 c1, .slice A2 n2 c2]) :
    fnC8.wp Try.prog (fun e a v' => (e = .normal ∧ ∃ y28 y29 y30 nn, nn = decide (openN us = 0) ∧ a = ⟨#[.slice A n c, undef, .bool false, .pointer (some ⟨cb, 0, none⟩), .int .i64 out, .int .i64 out, .bool nn, .slice A n c, .int .i64 n, .bool false, .slice A n c, (.agg #[.slice A1 n1 c1, .slice A2 n2 c2]), (.agg #[.slice A1 n1 c1, .slice A2 n2 c2]), .int .i64 out, (.agg #[.slice A1 n1 c1, .slice A2 n2 c2]), .int .i64 out, .int .i64 out, .int .i64 out, .bool false, .bool false, (.agg #[.slice A1 n1 c1, .slice A2 n2 c2]), .bool true, .bool false, .bool false, undef, undef, undef, (.agg #[.slice A1 n1 c1, .slice A2 n2 c2]), y28, y29, y30, .bool nn, undef, undef, undef, undef, undef, undef, undef, undef, undef, undef, undef, undef, undef, undef, undef, undef, undef, undef], []⟩ ∧ GR v v') ∨ (e = .ret ∧ False)) ⟨#[.slice A n c, undef, .bool false, .pointer (some ⟨cb, 0, none⟩), .int .i64 out, .int .i64 out, undef, .slice A n c, .int .i64 n, .bool false, .slice A n c, (.agg #[.slice A1 n1 c1, .slice A2 n2 c2]), (.agg #[.slice A1 n1 c1, .slice A2 n2 c2]), .int .i64 out, (.agg #[.slice A1 n1 c1, .slice A2 n2 c2]), .int .i64 out, .int .i64 out, .int .i64 out, .bool false, .bool false, (.agg #[.slice A1 n1 c1, .slice A2 n2 c2]), .bool true, .bool false, .bool false, undef, undef, undef, undef, undef, undef, undef, undef, undef, undef, undef, undef, undef, undef, undef, undef, undef, undef, undef, undef, undef, undef, undef, undef, undef, undef], []⟩ v := by
  have x0 := hbox.cell 0
  have x1 := hbox.cell 1
  simp only [gT, gZ, gS] at x0 x1
  have Hr := qh h
  have Hs := qh hs
  have Hc := qh (show cntsP room us = [(rankU us us.length : Int), (cntT us us.length : Int), (cntN us us.length : Int)] from by unfold cntsP; rw [if_pos hok])
  clear h hs hbox hok
  simp only [fnC8, fnBody, Try.f5, Option.getD_some]
  go_wp2_with fail
  clear x0 x1
  refine (clusterCountsI_any A1 A2 n1 c1 n2 c2 room us v Hr.out Hs.out).mono ?_; rintro e w2 ⟨A3, m3, c3, rfl, hown, hb2⟩
  have B2 := qh hb2
  clear hb2
  rw [Hc.out, openN_rank] at hown
  obtain ⟨g, cap, hA, hcell⟩ : ∃ g cap, Value.slice A3 m3 c3 = .slice (some ⟨g, 0, none⟩) 3 cap ∧ w2.cell? ⟨g, 0, none⟩ = some (.int .i64 (openN us : Nat)) := by
    have hm : m3 = 3 := by have := hown.1; simpa using this.symm
    subst hm
    obtain ⟨g, cap, hv, _, hlt⟩ := hown.form (by omega)
    refine ⟨g, cap, hv, ?_⟩
    have := hown.cells (g := g) (by rw [hv]; rfl) 0 (.int .i64 (openN us : Nat)) rfl
    simpa [addr_add] using this
  obtain ⟨rfl, rfl, rfl⟩ : A3 = some ⟨g, 0, none⟩ ∧ m3 = 3 ∧ c3 = cap := by injection hA with e1 e2 e3; exact ⟨e1, e2, e3⟩
  clear hown hA
  by_cases h0 : openN us = 0
  · have q : (((openN us : Nat) : Int) == 0) = true := by rw [h0]; rfl
    have H0 := qh h0
    clear h0
    generalize openN us = on at q hcell ⊢
    go_wp2_with fail
    first | exact below_gr B2.out | exact ⟨H0.out, below_gr B2.out⟩ | exact ⟨below_gr B2.out, H0.out⟩
  · have q : (((openN us : Nat) : Int) == 0) = false := by simpa using h0
    have H0 := qh h0
    clear h0
    generalize openN us = on at q hcell ⊢
    go_wp2_with fail
    first | exact below_gr B2.out | exact ⟨H0.out, below_gr B2.out⟩ | exact ⟨below_gr B2.out, H0.out⟩
end

section
variable {H : Nat → Prop} {v : World} {A : Option Addr} {n c : Nat}
set_option maxRecDepth 100000 in
set_option maxHeartbeats 2000000 in
theorem fn_r9 {cs : List Frame} (A A1 A2 : Option Addr) (n c n1 c1 n2 c2 cb : Nat) (room : List Int) (us : List Un) (out : Int) (nn : Bool) (y28 y29 y30 : Value) (w : World) (h : RdC w A1 A2 n1 n2 room us) (hsu : ShU us) (hok : clOk room us = true)
    (hbox : Blk w cb 26 #[.slice A1 n1 c1, .slice A2 n2 c2]) (hn : nn = decide (openN us = 0)) (ho : out = loosestS room us) :
    KV Try.prog H (RetV Try.prog 5 cs (fun x v' => x = .bool true ∧ GR w v')) (G ((base 5).at ⟨#[.slice A n c, undef, .bool false, .pointer (some ⟨cb, 0, none⟩), .int .i64 out, .int .i64 out, .bool nn, .slice A n c, .int .i64 n, .bool false, .slice A n c, (.agg #[.slice A1 n1 c1, .slice A2 n2 c2]), (.agg #[.slice A1 n1 c1, .slice A2 n2 c2]), .int .i64 out, (.agg #[.slice A1 n1 c1, .slice A2 n2 c2]), .int .i64 out, .int .i64 out, .int .i64 out, .bool false, .bool false, (.agg #[.slice A1 n1 c1, .slice A2 n2 c2]), .bool true, .bool false, .bool false, undef, undef, undef, (.agg #[.slice A1 n1 c1, .slice A2 n2 c2]), y28, y29, y30, .bool nn, undef, undef, undef, undef, undef, undef, undef, undef, undef, undef, undef, undef, undef, undef, undef, undef, undef, undef], []⟩ [.code fnR9]) cs) w := by
  refine KV.ctl rfl (fun w => stepG_seq) ?_
  refine KV.ctl rfl (fun w => stepG_region) ?_
  try simp only [fnR9, fnBody, Try.f5, Option.getD_some]
  try simp only [List.size_toArray, List.length_cons, List.length_nil, Nat.reduceAdd, Nat.zero_add, List.range, List.range.loop]
  rcases none_iff hok with ⟨h0, hl⟩ | ⟨h0, hl⟩
  · obtain rfl : nn = true := by rw [hn]; simpa using h0
    obtain rfl : out = -1 := ho.trans hl
    clear hn ho hl
    refine KV.op anaA_good rfl (by rfl) (by decide) (by kernel_rfl) (fun t => anaA.noTr_spec (by kernel_rfl) t) (fun v₁ hs K' hK' => ?_)
    go_simp
    refine hK' _ _ ?_
    try walk_nrm
    clear hK' K'
    refine KV.heap (v := w) ?_ ⟨hs.heap.symm, hs.os.symm, hs.output.symm⟩
    clear hs v₁
    refine KV.op anaA_good rfl (by rfl) (by decide) (by kernel_rfl) (fun t => anaA.noTr_spec (by kernel_rfl) t) (fun v₁ hs K' hK' => ?_)
    go_simp
    refine hK' _ _ ?_
    try walk_nrm
    clear hK' K'
    refine KV.heap (v := w) ?_ ⟨hs.heap.symm, hs.os.symm, hs.output.symm⟩
    clear hs v₁
    refine KV.op anaA_good rfl (by rfl) (by decide) (by kernel_rfl) (fun t => anaA.noTr_spec (by kernel_rfl) t) (fun v₁ hs K' hK' => ?_)
    go_simp
    refine hK' _ _ ?_
    try walk_nrm
    clear hK' K'
    refine KV.heap (v := w) ?_ ⟨hs.heap.symm, hs.os.symm, hs.output.symm⟩
    clear hs v₁
    refine KV.op anaA_good rfl (by rfl) (by decide) (by kernel_rfl) (fun t => anaA.noTr_spec (by kernel_rfl) t) (fun v₁ hs K' hK' => ?_)
    go_simp
    refine hK' _ _ ?_
    try walk_nrm
    clear hK' K'
    refine KV.heap (v := w) ?_ ⟨hs.heap.symm, hs.os.symm, hs.output.symm⟩
    clear hs v₁
    refine KV.op anaA_good rfl (by rfl) (by decide) (by kernel_rfl) (fun t => anaA.noTr_spec (by kernel_rfl) t) (fun v₁ hs K' hK' => ?_)
    go_simp
    refine hK' _ _ ?_
    try walk_nrm
    clear hK' K'
    refine KV.heap (v := w) ?_ ⟨hs.heap.symm, hs.os.symm, hs.output.symm⟩
    clear hs v₁
    refine KV.op anaA_good rfl (by rfl) (by decide) (by kernel_rfl) (fun t => anaA.noTr_spec (by kernel_rfl) t) (fun v₁ hs K' hK' => ?_)
    go_simp
    refine hK' _ _ ?_
    try walk_nrm
    clear hK' K'
    refine KV.heap (v := w) ?_ ⟨hs.heap.symm, hs.os.symm, hs.output.symm⟩
    clear hs v₁
    refine KV.op anaA_good rfl (by rfl) (by decide) (by kernel_rfl) (fun t => anaA.noTr_spec (by kernel_rfl) t) (fun v₁ hs K' hK' => ?_)
    go_simp
    refine hK' _ _ ?_
    try walk_nrm
    clear hK' K'
    refine KV.heap (v := w) ?_ ⟨hs.heap.symm, hs.os.symm, hs.output.symm⟩
    clear hs v₁
    refine KV.op anaA_good rfl (by rfl) (by decide) (by kernel_rfl) (fun t => anaA.noTr_spec (by kernel_rfl) t) (fun v₁ hs K' hK' => ?_)
    go_simp
    refine hK' _ _ ?_
    try walk_nrm
    clear hK' K'
    refine KV.heap (v := w) ?_ ⟨hs.heap.symm, hs.os.symm, hs.output.symm⟩
    clear hs v₁
    refine KV.op anaA_good rfl (by rfl) (by decide) (by kernel_rfl) (fun t => anaA.noTr_spec (by kernel_rfl) t) (fun v₁ hs K' hK' => ?_)
    have hbx := ViewOf_cells_of hbox hs.heap
    have x0 := hbx.cell 0
    have x1 := hbx.cell 1
    simp only [gT, gZ, gS] at x0 x1
    clear hbx
    go_simp
    refine hK' _ _ ?_
    try walk_nrm
    clear hK' K' x0 x1
    refine KV.heap (v := w) ?_ ⟨hs.heap.symm, hs.os.symm, hs.output.symm⟩
    clear hs v₁
    refine KV.callV rfl (by rfl) (by decide) rfl (Post := fun x v' => x = .int .i64 (leftP' room us) ∧ GR w v') ?_ (fun x w2 hp => ?_)
    · have hus := usageLeft_v (H := H) (c1 := c1) (c2 := c2) h hsu
      simpa [Act.eval, Act.put] using hus
    obtain ⟨rfl, hg2⟩ := hp
    try walk_nrm
    rw [left_none hok h0]
    have hbox2 := hbox.grr hg2
    have hr2 := h.gr hg2
    refine KV.op anaA_good rfl (by rfl) (by decide) (by kernel_rfl) (fun t => anaA.noTr_spec (by kernel_rfl) t) (fun v₁ hs K' hK' => ?_)
    go_simp
    refine hK' _ _ ?_
    try walk_nrm
    clear hK' K'
    refine KV.heap (v := w2) ?_ ⟨hs.heap.symm, hs.os.symm, hs.output.symm⟩
    clear hs v₁
    refine KV.op anaA_good rfl (by rfl) (by decide) (by kernel_rfl) (fun t => anaA.noTr_spec (by kernel_rfl) t) (fun v₁ hs K' hK' => ?_)
    go_simp
    refine hK' _ _ ?_
    try walk_nrm
    clear hK' K'
    refine KV.heap (v := w2) ?_ ⟨hs.heap.symm, hs.os.symm, hs.output.symm⟩
    clear hs v₁
    refine KV.op anaA_good rfl (by rfl) (by decide) (by kernel_rfl) (fun t => anaA.noTr_spec (by kernel_rfl) t) (fun v₁ hs K' hK' => ?_)
    have hbx := ViewOf_cells_of hbox2 hs.heap
    have x0 := hbx.cell 0
    have x1 := hbx.cell 1
    simp only [gT, gZ, gS] at x0 x1
    clear hbx
    go_simp
    refine hK' _ _ ?_
    try walk_nrm
    clear hK' K' x0 x1
    refine KV.heap (v := w2) ?_ ⟨hs.heap.symm, hs.os.symm, hs.output.symm⟩
    clear hs v₁
    refine KV.callV rfl (by rfl) (by decide) rfl (Post := fun x v' => x = .int .i64 0 ∧ GR w2 v') ?_ (fun x w3 hp => ?_)
    · have hus := usageShare_v (H := H) (c1 := c1) (c2 := c2) hr2 hsu hok h0
      simpa [Act.eval, Act.put] using hus
    obtain ⟨rfl, hg3⟩ := hp
    try walk_nrm
    have hg4 := hg2.trans hg3
    refine KV.op anaA_good rfl (by rfl) (by decide) (by kernel_rfl) (fun t => anaA.noTr_spec (by kernel_rfl) t) (fun v₁ hs K' hK' => ?_)
    go_simp
    refine hK' _ _ ?_
    try walk_nrm
    clear hK' K'
    refine KV.heap (v := w3) ?_ ⟨hs.heap.symm, hs.os.symm, hs.output.symm⟩
    clear hs v₁
    refine KV.op anaA_good rfl (by rfl) (by decide) (by kernel_rfl) (fun t => anaA.noTr_spec (by kernel_rfl) t) (fun v₁ hs K' hK' => ?_)
    go_simp
    refine hK' _ _ ?_
    try walk_nrm
    clear hK' K'
    refine KV.heap (v := w3) ?_ ⟨hs.heap.symm, hs.os.symm, hs.output.symm⟩
    clear hs v₁
    refine KV.op anaA_good rfl (by rfl) (by decide) (by kernel_rfl) (fun t => anaA.noTr_spec (by kernel_rfl) t) (fun v₁ hs K' hK' => ?_)
    go_simp
    refine hK' _ _ ?_
    try walk_nrm
    clear hK' K'
    refine KV.heap (v := w3) ?_ ⟨hs.heap.symm, hs.os.symm, hs.output.symm⟩
    clear hs v₁
    refine KV.op anaA_good rfl (by rfl) (by decide) (by kernel_rfl) (fun t => anaA.noTr_spec (by kernel_rfl) t) (fun v₁ hs K' hK' => ?_)
    go_simp
    refine hK' _ _ ?_
    try walk_nrm
    clear hK' K'
    refine KV.heap (v := w3) ?_ ⟨hs.heap.symm, hs.os.symm, hs.output.symm⟩
    clear hs v₁
    refine KV.op anaA_good rfl (by rfl) (by decide) (by kernel_rfl) (fun t => anaA.noTr_spec (by kernel_rfl) t) (fun v₁ hs K' hK' => ?_)
    go_simp
    refine hK' _ _ ?_
    try walk_nrm
    clear hK' K'
    refine KV.heap (v := w3) ?_ ⟨hs.heap.symm, hs.os.symm, hs.output.symm⟩
    clear hs v₁
    refine KV.ctl rfl (fun w => stepG_region_end) ?_
    refine KV.endC anaA_good (Rt := fun v₁ a v' => a.defers = [] ∧ a.tmps.getD 2 undef = .bool true ∧ v' = v₁) (by kernel_rfl) (by kernel_rfl) rfl (by kernel_rfl) (fun v₁ hs => ?_) (fun v₁ a' v' todo hs hq => ?_)
    · try simp only [fnR9, fnBody, Try.f5, Option.getD_some]
      go_wp2
    · obtain ⟨h1, h2, rfl⟩ := hq
      exact ⟨_, a', todo, _, Try.func5, h1, rfl, resultsC_tmp rfl a'.tmps, h2, hg4.same hs⟩
  · obtain rfl : nn = false := by rw [hn]; simpa using h0
    have q : (out == -1) = false := by rw [ho]; simpa using hl
    clear hn ho hl
    refine KV.op anaA_good rfl (by rfl) (by decide) (by kernel_rfl) (fun t => anaA.noTr_spec (by kernel_rfl) t) (fun v₁ hs K' hK' => ?_)
    go_simp
    refine hK' _ _ ?_
    try walk_nrm
    clear hK' K'
    refine KV.heap (v := w) ?_ ⟨hs.heap.symm, hs.os.symm, hs.output.symm⟩
    clear hs v₁
    refine KV.op anaA_good rfl (by rfl) (by decide) (by kernel_rfl) (fun t => anaA.noTr_spec (by kernel_rfl) t) (fun v₁ hs K' hK' => ?_)
    go_simp
    refine hK' _ _ ?_
    try walk_nrm
    clear hK' K'
    refine KV.heap (v := w) ?_ ⟨hs.heap.symm, hs.os.symm, hs.output.symm⟩
    clear hs v₁
    refine KV.op anaA_good rfl (by rfl) (by decide) (by kernel_rfl) (fun t => anaA.noTr_spec (by kernel_rfl) t) (fun v₁ hs K' hK' => ?_)
    go_simp
    refine hK' _ _ ?_
    try walk_nrm
    clear hK' K'
    refine KV.heap (v := w) ?_ ⟨hs.heap.symm, hs.os.symm, hs.output.symm⟩
    clear hs v₁
    refine KV.op anaA_good rfl (by rfl) (by decide) (by kernel_rfl) (fun t => anaA.noTr_spec (by kernel_rfl) t) (fun v₁ hs K' hK' => ?_)
    go_simp
    refine hK' _ _ ?_
    try walk_nrm
    clear hK' K'
    refine KV.heap (v := w) ?_ ⟨hs.heap.symm, hs.os.symm, hs.output.symm⟩
    clear hs v₁
    refine KV.op anaA_good rfl (by rfl) (by decide) (by kernel_rfl) (fun t => anaA.noTr_spec (by kernel_rfl) t) (fun v₁ hs K' hK' => ?_)
    go_simp
    refine hK' _ _ ?_
    try walk_nrm
    clear hK' K'
    refine KV.heap (v := w) ?_ ⟨hs.heap.symm, hs.os.symm, hs.output.symm⟩
    clear hs v₁
    refine KV.op anaA_good rfl (by rfl) (by decide) (by kernel_rfl) (fun t => anaA.noTr_spec (by kernel_rfl) t) (fun v₁ hs K' hK' => ?_)
    go_simp
    refine hK' _ _ ?_
    try walk_nrm
    clear hK' K'
    refine KV.heap (v := w) ?_ ⟨hs.heap.symm, hs.os.symm, hs.output.symm⟩
    clear hs v₁
    refine KV.op anaA_good rfl (by rfl) (by decide) (by kernel_rfl) (fun t => anaA.noTr_spec (by kernel_rfl) t) (fun v₁ hs K' hK' => ?_)
    go_simp
    refine hK' _ _ ?_
    try walk_nrm
    clear hK' K'
    refine KV.heap (v := w) ?_ ⟨hs.heap.symm, hs.os.symm, hs.output.symm⟩
    clear hs v₁
    refine KV.op anaA_good rfl (by rfl) (by decide) (by kernel_rfl) (fun t => anaA.noTr_spec (by kernel_rfl) t) (fun v₁ hs K' hK' => ?_)
    go_simp
    refine hK' _ _ ?_
    try walk_nrm
    clear hK' K'
    refine KV.heap (v := w) ?_ ⟨hs.heap.symm, hs.os.symm, hs.output.symm⟩
    clear hs v₁
    refine KV.skip rfl (by rfl) ?_
    try walk_nrm
    refine KV.skip rfl (by rfl) ?_
    try walk_nrm
    refine KV.skip rfl (by rfl) ?_
    try walk_nrm
    refine KV.skip rfl (by rfl) ?_
    try walk_nrm
    refine KV.skip rfl (by rfl) ?_
    try walk_nrm
    refine KV.skip rfl (by rfl) ?_
    try walk_nrm
    refine KV.skip rfl (by rfl) ?_
    try walk_nrm
    refine KV.skip rfl (by rfl) ?_
    try walk_nrm
    refine KV.op anaA_good rfl (by rfl) (by decide) (by kernel_rfl) (fun t => anaA.noTr_spec (by kernel_rfl) t) (fun v₁ hs K' hK' => ?_)
    go_simp
    refine hK' _ _ ?_
    try walk_nrm
    clear hK' K'
    refine KV.heap (v := w) ?_ ⟨hs.heap.symm, hs.os.symm, hs.output.symm⟩
    clear hs v₁
    refine KV.op anaA_good rfl (by rfl) (by decide) (by kernel_rfl) (fun t => anaA.noTr_spec (by kernel_rfl) t) (fun v₁ hs K' hK' => ?_)
    go_simp
    refine hK' _ _ ?_
    try walk_nrm
    clear hK' K'
    refine KV.heap (v := w) ?_ ⟨hs.heap.symm, hs.os.symm, hs.output.symm⟩
    clear hs v₁
    refine KV.op anaA_good rfl (by rfl) (by decide) (by kernel_rfl) (fun t => anaA.noTr_spec (by kernel_rfl) t) (fun v₁ hs K' hK' => ?_)
    go_simp
    refine hK' _ _ ?_
    try walk_nrm
    clear hK' K'
    refine KV.heap (v := w) ?_ ⟨hs.heap.symm, hs.os.symm, hs.output.symm⟩
    clear hs v₁
    refine KV.ctl rfl (fun w => stepG_region_end) ?_
    refine KV.endC anaA_good (Rt := fun v₁ a v' => a.defers = [] ∧ a.tmps.getD 2 undef = .bool true ∧ v' = v₁) (by kernel_rfl) (by kernel_rfl) rfl (by kernel_rfl) (fun v₁ hs => ?_) (fun v₁ a' v' todo hs hq => ?_)
    · try simp only [fnR9, fnBody, Try.f5, Option.getD_some]
      go_wp2
    · obtain ⟨h1, h2, rfl⟩ := hq
      exact ⟨_, a', todo, _, Try.func5, h1, rfl, resultsC_tmp rfl a'.tmps, h2, (GR.refl w).same hs⟩
set_option maxRecDepth 100000 in
set_option maxHeartbeats 1000000 in
theorem fnLoosestNone_v (h : RdU v v.heap.size A n) (hc : n ≤ c) (hcm : c ≤ 9223372036854775807) : CallsV Try.prog H 5 #[.slice A n c] v (fun x v' => x = .bool true ∧ GR v v') := by
  refine ⟨_, fnBody, Try.func5, by kernel_rfl, by rfl, fun cs => ?_⟩
  have e : (#[Value.slice A n c] ++ Array.replicate (Try.f5.ntmps - (#[Value.slice A n c] : Array Value).size) undef) = #[.slice A n c, undef, undef, undef, undef, undef, undef, undef, undef, undef, undef, undef, undef, undef, undef, undef, undef, undef, undef, undef, undef, undef, undef, undef, undef, undef, undef, undef, undef, undef, undef, undef, undef, undef, undef, undef, undef, undef, undef, undef, undef, undef, undef, undef, undef, undef, undef, undef, undef, undef] := by kernel_rfl
  rw [e, fnBody_eq]
  clear e
  refine KV.seqC anaA_good (Nm := fun v₁ a v' => a = ⟨#[.slice A n c, undef, .bool false, undef, undef, undef, undef, undef, undef, undef, undef, undef, undef, undef, undef, undef, undef, undef, undef, undef, undef, undef, undef, undef, undef, undef, undef, undef, undef, undef, undef, undef, undef, undef, undef, undef, undef, undef, undef, undef, undef, undef, undef, undef, undef, undef, undef, undef, undef, undef], []⟩ ∧ v' = v₁) (Rt := fun _ _ _ => False) (by kernel_rfl) (by kernel_rfl) rfl (by kernel_rfl) (fun v₁ hs => ?_) (fun v₁ a' v' hs hq => ?_) (fun _ _ _ _ _ h => h.elim)
  · simp only [fnC0, fnBody, Try.f5, Option.getD_some]
    go_wp2
  obtain ⟨rfl, rfl⟩ := hq
  refine KV.heap (v := v) ?_ ⟨hs.heap.symm, hs.os.symm, hs.output.symm⟩
  clear hs v'
  refine KV.seqC anaA_good (Nm := fun v₁ a v' => a = ⟨#[.slice A n c, undef, .bool false, undef, undef, undef, undef, .slice A n c, .int .i64 n, .bool false, undef, undef, undef, undef, undef, undef, undef, undef, undef, undef, undef, undef, undef, undef, undef, undef, undef, undef, undef, undef, undef, undef, undef, undef, undef, undef, undef, undef, undef, undef, undef, undef, undef, undef, undef, undef, undef, undef, undef, undef], []⟩ ∧ v' = v₁) (Rt := fun v₁ a v' => a.defers = [] ∧ a.tmps.getD 2 undef = .bool true ∧ v' = v₁) (by kernel_rfl) (by kernel_rfl) rfl (by kernel_rfl) (fun v₁ hs => ?_) (fun v₁ a' v' hs hq => ?_) (fun v₁ a' v' todo hs hq => ?_)
  · simp only [fnC1, fnBody, Try.f5, Option.getD_some]
    by_cases hn : 1048576 < n
    · have q : decide ((1048576 : Int) < (n : Int)) = true := decide_eq_true (by omega)
      have q1 : (1048576 : Int) < (n : Int) := by omega
      go_wp2
    · have q : decide ((1048576 : Int) < (n : Int)) = false := decide_eq_false (by omega)
      have q1 : ¬ (1048576 : Int) < (n : Int) := by omega
      have q2 : n ≤ 1048576 := by omega
      go_wp2
  · obtain ⟨rfl, rfl⟩ := hq
    refine KV.heap (v := v) ?_ ⟨hs.heap.symm, hs.os.symm, hs.output.symm⟩
    clear hs v'
    refine KV.seqC anaA_good (Nm := fun v₁ a v' => ∃ cb A1 n1 c1 A2 n2 c2 room us, a = ⟨#[.slice A n c, undef, .bool false, .pointer (some ⟨cb, 0, none⟩), undef, undef, undef, .slice A n c, .int .i64 n, .bool false, .slice A n c, (.agg #[.slice A1 n1 c1, .slice A2 n2 c2]), undef, undef, undef, undef, undef, undef, undef, undef, undef, undef, undef, undef, undef, undef, undef, undef, undef, undef, undef, undef, undef, undef, undef, undef, undef, undef, undef, undef, undef, undef, undef, undef, undef, undef, undef, undef, undef, undef], []⟩ ∧ RdC v' A1 A2 n1 n2 room us ∧ ShU us ∧ Blk v' cb 26 #[.slice A1 n1 c1, .slice A2 n2 c2] ∧ GR v₁ v') (Rt := fun _ _ _ => False) (by kernel_rfl) (by kernel_rfl) rfl (by kernel_rfl) (fun v₁ hs => ?_) (fun v₁ a' v' hs hq => ?_) (fun _ _ _ _ _ h => h.elim)
    · exact fn_c3 A n c v₁ (fun hn => by
        obtain ⟨b, o, e1, e2, e3⟩ := h hn
        refine ⟨b, o, e1, by rw [hs.heap]; exact e2, fun j hj => ?_⟩
        obtain ⟨u, g1, g2, g3⟩ := e3 j hj
        exact ⟨u, g1, g2, (World.cell?_of_block (by rw [hs.heap])).trans g3⟩) hc hcm
    obtain ⟨cb, A1, n1, c1, A2, n2, c2, room, us, rfl, hr, hsu, hbox, hg⟩ := hq
    have hg2 : GR v v' := GR.from hs hg
    clear hg hs
    generalize v' = w2 at hg2 hbox hr ⊢
    refine KV.ctl rfl (fun w => stepG_seq) ?_
    refine KV.ctl rfl (fun w => stepG_region) ?_
    try simp only [fnR, fnBody, Try.f5, Option.getD_some]
    try simp only [List.size_toArray, List.length_cons, List.length_nil, Nat.reduceAdd, Nat.zero_add, List.range, List.range.loop]
    refine KV.op anaA_good rfl (by rfl) (by decide) (by kernel_rfl) (fun t => anaA.noTr_spec (by kernel_rfl) t) (fun v₁ hs K' hK' => ?_)
    have hbx := ViewOf_cells_of hbox hs.heap
    have x0 := hbx.cell 0
    have x1 := hbx.cell 1
    simp only [gT, gZ, gS] at x0 x1
    clear hbx
    go_simp
    refine hK' _ _ ?_
    try walk_nrm
    clear hK' K' x0 x1
    refine KV.heap (v := w2) ?_ ⟨hs.heap.symm, hs.os.symm, hs.output.symm⟩
    clear hs v₁
    refine KV.callV rfl (by rfl) (by decide) rfl (Post := fun x v' => x = .int .i64 (loosestP room us) ∧ GR w2 v') ?_ (fun x v3 hp => ?_)
    · have hus := usageLoosest_v (H := H) (c1 := c1) (c2 := c2) hr hsu
      simpa [Act.eval, Act.put] using hus
    obtain ⟨rfl, hg3⟩ := hp
    rw [loosest_eq]
    obtain ⟨out, ho⟩ : ∃ out, out = loosestS room us := ⟨_, rfl⟩
    rw [← ho]
    have Ho := qh ho
    clear ho
    try walk_nrm
    refine KV.op anaA_good rfl (by rfl) (by decide) (by kernel_rfl) (fun t => anaA.noTr_spec (by kernel_rfl) t) (fun v₁ hs K' hK' => ?_)
    go_simp
    refine hK' _ _ ?_
    try walk_nrm
    clear hK' K'
    refine KV.heap (v := v3) ?_ ⟨hs.heap.symm, hs.os.symm, hs.output.symm⟩
    clear hs v₁
    refine KV.ctl rfl (fun w => stepG_region_end) ?_
    replace hg2 := hg2.trans hg3
    replace hbox := hbox.grr hg3
    replace hr := hr.gr hg3
    clear hg3
    show KV _ _ _ (G ((base 5).at ⟨#[.slice A n c, undef, .bool false, .pointer (some ⟨cb, 0, none⟩), .int .i64 out, undef, undef, .slice A n c, .int .i64 n, .bool false, .slice A n c, (.agg #[.slice A1 n1 c1, .slice A2 n2 c2]), (.agg #[.slice A1 n1 c1, .slice A2 n2 c2]), .int .i64 out, undef, undef, undef, undef, undef, undef, undef, undef, undef, undef, undef, undef, undef, undef, undef, undef, undef, undef, undef, undef, undef, undef, undef, undef, undef, undef, undef, undef, undef, undef, undef, undef, undef, undef, undef, undef], []⟩ [.code fnR5]) cs) v3
    rw [fnR5_eq]
    refine KV.seqC anaA_good (Nm := fun v₁ a v' => a = ⟨#[.slice A n c, undef, .bool false, .pointer (some ⟨cb, 0, none⟩), .int .i64 out, .int .i64 out, undef, .slice A n c, .int .i64 n, .bool false, .slice A n c, (.agg #[.slice A1 n1 c1, .slice A2 n2 c2]), (.agg #[.slice A1 n1 c1, .slice A2 n2 c2]), .int .i64 out, (.agg #[.slice A1 n1 c1, .slice A2 n2 c2]), .int .i64 out, undef, undef, undef, undef, undef, undef, undef, undef, undef, undef, undef, undef, undef, undef, undef, undef, undef, undef, undef, undef, undef, undef, undef, undef, undef, undef, undef, undef, undef, undef, undef, undef, undef, undef], []⟩ ∧ GR v₁ v') (Rt := fun _ _ _ => False) (by kernel_rfl) (by kernel_rfl) rfl (by kernel_rfl) (fun v₁ hs => ?_) (fun v₁ a' v' hs hq => ?_) (fun _ _ _ _ _ h => h.elim)
    · exact fn_c5 A A1 A2 n c n1 c1 n2 c2 cb room us out v₁ (hr.same hs.heap) hsu (ViewOf_cells_of hbox hs.heap) Ho.out.symm
    obtain ⟨rfl, hg⟩ := hq
    replace hg2 := hg2.trans (GR.from hs hg)
    replace hbox := hbox.grr (GR.from hs hg)
    replace hr := hr.gr (GR.from hs hg)
    clear hg hs
    generalize v' = v4 at hg2 hbox hr ⊢
    refine KV.seqC anaA_good (Nm := fun v₁ a v' => clOk room us = true ∧ a = ⟨#[.slice A n c, undef, .bool false, .pointer (some ⟨cb, 0, none⟩), .int .i64 out, .int .i64 out, undef, .slice A n c, .int .i64 n, .bool false, .slice A n c, (.agg #[.slice A1 n1 c1, .slice A2 n2 c2]), (.agg #[.slice A1 n1 c1, .slice A2 n2 c2]), .int .i64 out, (.agg #[.slice A1 n1 c1, .slice A2 n2 c2]), .int .i64 out, .int .i64 out, .int .i64 out, .bool false, .bool false, (.agg #[.slice A1 n1 c1, .slice A2 n2 c2]), .bool true, .bool false, .bool false, undef, undef, undef, undef, undef, undef, undef, undef, undef, undef, undef, undef, undef, undef, undef, undef, undef, undef, undef, undef, undef, undef, undef, undef, undef, undef], []⟩ ∧ GR v₁ v') (Rt := fun v₁ a v' => a.defers = [] ∧ a.tmps.getD 2 undef = .bool true ∧ GR v₁ v') (by kernel_rfl) (by kernel_rfl) rfl (by kernel_rfl) (fun v₁ hs => ?_) (fun v₁ a' v' hs hq => ?_) (fun v₁ a' v' todo hs hq => ?_)
    · exact fn_c6 A A1 A2 n c n1 c1 n2 c2 cb room us out v₁ (hr.same hs.heap) hsu (ViewOf_cells_of hbox hs.heap)
    · obtain ⟨hok, rfl, hg⟩ := hq
      replace hg2 := hg2.trans (GR.from hs hg)
      replace hbox := hbox.grr (GR.from hs hg)
      replace hr := hr.gr (GR.from hs hg)
      clear hg hs
      generalize v' = v5 at hg2 hbox hr ⊢
      refine KV.seqC anaA_good (Nm := fun v₁ a v' => ∃ y28 y29 y30 nn, nn = decide (openN us = 0) ∧ a = ⟨#[.slice A n c, undef, .bool false, .pointer (some ⟨cb, 0, none⟩), .int .i64 out, .int .i64 out, .bool nn, .slice A n c, .int .i64 n, .bool false, .slice A n c, (.agg #[.slice A1 n1 c1, .slice A2 n2 c2]), (.agg #[.slice A1 n1 c1, .slice A2 n2 c2]), .int .i64 out, (.agg #[.slice A1 n1 c1, .slice A2 n2 c2]), .int .i64 out, .int .i64 out, .int .i64 out, .bool false, .bool false, (.agg #[.slice A1 n1 c1, .slice A2 n2 c2]), .bool true, .bool false, .bool false, undef, undef, undef, (.agg #[.slice A1 n1 c1, .slice A2 n2 c2]), y28, y29, y30, .bool nn, undef, undef, undef, undef, undef, undef, undef, undef, undef, undef, undef, undef, undef, undef, undef, undef, undef, undef], []⟩ ∧ GR v₁ v') (Rt := fun _ _ _ => False) (by kernel_rfl) (by kernel_rfl) rfl (by kernel_rfl) (fun v₁ hs => ?_) (fun v₁ a' v' hs hq => ?_) (fun _ _ _ _ _ h => h.elim)
      · exact fn_c8 A A1 A2 n c n1 c1 n2 c2 cb room us out v₁ (hr.same hs.heap) hsu hok (ViewOf_cells_of hbox hs.heap)
      obtain ⟨y28, y29, y30, nn, hn, rfl, hg⟩ := hq
      replace hg2 := hg2.trans (GR.from hs hg)
      replace hbox := hbox.grr (GR.from hs hg)
      replace hr := hr.gr (GR.from hs hg)
      clear hg hs
      refine (fn_r9 A A1 A2 n c n1 c1 n2 c2 cb room us out nn y28 y29 y30 v' hr hsu hok hbox hn Ho.out).mono fun g' u hret => hret.mono fun x u hx => ⟨hx.1, hg2.trans hx.2⟩
    · obtain ⟨h1, h2, h3⟩ := hq
      exact ⟨_, a', todo, _, Try.func5, h1, rfl, resultsC_tmp rfl a'.tmps, h2, hg2.trans (GR.from hs h3)⟩
  · obtain ⟨h1, h2, rfl⟩ := hq
    exact ⟨_, a', todo, _, Try.func5, h1, rfl, resultsC_tmp rfl a'.tmps, h2, (GR.refl v).same hs⟩
end
end Go.Proofs.Ytlcgbnmmbheleaa
