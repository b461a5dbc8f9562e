/- The law FnLeft, beside leavers. (Printed by gen_uslaw2.py.) -/
import Derived.Test.YtlcgbnmmbheleaaKvAny
namespace Go.Proofs.Ytlcgbnmmbheleaa
open Go Go.Conc Go.RowKit
set_option linter.unusedVariables false
set_option linter.unusedSimpArgs false

theorem add3_sum {a b : List Int} (ha : a.length = 3) (hb : b.length = 3) : (add3 a b).sum = a.sum + b.sum := by
  rw [sum3 ha, sum3 hb, sum3 (add3_len a b)]
  simp [add3]
  omega
theorem closed_none {room : List Int} {us : List Un} (h : clOk room us = true) {k : Nat} (hk : k < us.length) (hc : (us[k]?.getD (false, [])).1 = false) : (loadP (us[k]?.getD (false, [])).2).sum = 0 := by
  simp only [clOk, Bool.and_eq_true, List.all_eq_true] at h
  have := h.2 _ (un_mem hk)
  rw [hc, Bool.false_or, List.isEmpty_iff] at this
  rw [this]
  rfl
theorem left_law {room : List Int} {us : List Un} (h : clOk room us = true) : ∀ k : Nat, k ≤ us.length → leftTo room us k + (togTo us k).sum = (rankU us k : Int) * room.sum
  | 0, _ => by rw [rank_zero]; simp [leftTo, togTo]
  | k + 1, hk => by
    have ih := left_law h k (by omega)
    have hr := rank_succ (us := us) (i := k) (by omega)
    unfold leftTo togTo
    rw [add3_sum (togTo_len us k) (loadP_len _), hr]
    cases hop : (us[k]?.getD (false, [])).1 with
    | true =>
      simp only [if_true, Int.natCast_add, Int.add_mul]
      unfold leftV
      simp
      omega
    | false =>
      have := closed_none h (show k < us.length by omega) hop
      simp
      omega
theorem left_num {room : List Int} {us : List Un} (hs : ShU us) (h : ¬ leftP' room us < 0) : clOk room us = true ∧ NK room us (leftP' room us) (togTo us us.length).sum ((openN us : Nat) : Int) room.sum := by
  unfold leftP' at h ⊢
  by_cases hok : clOk room us = true
  · rw [if_pos hok] at h ⊢
    have hl := left_law hok us.length (Nat.le_refl _)
    rw [openN_rank] at hl
    have hb := leftTo_bd hok us.length
    obtain ⟨h3, h1, h10, _⟩ := clOk_facts hok
    have t0 := togTo_bd hok 0 us.length
    have t1 := togTo_bd hok 1 us.length
    have t2 := togTo_bd hok 2 us.length
    have hts := sum3 (togTo_len us us.length)
    refine ⟨hok, hs, hok, rfl, rfl, rfl, by omega, wr64 (by omega) (by omega), ?_, hl⟩
    rw [← hl]
    exact wr64 (by omega) (by omega)
  · rw [if_neg hok] at h; omega

noncomputable def fmC0 : Code := match kBody with | .seq a _ => a | _ => .skip
noncomputable def fmC1 : Code := match kBody with | .seq _ (.seq a _) => a | _ => .skip
noncomputable def fmC3 : Code := match kBody with | .seq _ (.seq _ (.seq a _)) => a | _ => .skip
noncomputable def fmR : Code := match kBody with | .seq _ (.seq _ (.seq _ r)) => r | _ => .skip
noncomputable def fmC5 : Code := match kBody with | .seq _ (.seq _ (.seq _ (.seq _ (.seq a _)))) => a | _ => .skip
noncomputable def fmC6 : Code := match kBody with | .seq _ (.seq _ (.seq _ (.seq _ (.seq _ (.seq a _))))) => a | _ => .skip
noncomputable def fmR8 : Code := match kBody with | .seq _ (.seq _ (.seq _ (.seq _ (.seq _ (.seq _ r))))) => r | _ => .skip
noncomputable def fmR5 : Code := match kBody with | .seq _ (.seq _ (.seq _ (.seq _ r))) => r | _ => .skip
noncomputable def fmE : Code := match kBody with | .seq _ (.seq _ (.seq _ (.seq _ (.seq _ (.seq _ (.seq _ r)))))) => r | _ => .skip
theorem fmBody_eq : kBody = .seq fmC0 (.seq fmC1 (.seq fmC3 fmR)) := by rfl
theorem fmR5_eq : fmR5 = .seq fmC5 (.seq fmC6 fmR8) := by rfl
theorem fmR8_eq : ∃ i, fmR8 = .seq (.region i kOps true) fmE := ⟨_, by rfl⟩

section
variable {H : Nat → Prop} {v : World} {A : Option Addr} {n c : Nat}
set_option maxRecDepth 100000 in
theorem fm_c3 (A : Option Addr) (n c : Nat) (v : World) (h : RdU v v.heap.size A n) (hc : n ≤ c) (hcm : c ≤ 9223372036854775807) :
    fmC3.wp Try.prog (fun e a v' => (e = .normal ∧ ∃ cb A1 n1 c1 A2 n2 c2 room us, a = ⟨#[.slice A n c, undef, .bool false, .pointer (some ⟨cb, 0, none⟩), undef, undef, .slice A n c, .int .i64 n, .bool false, .slice A n c, (.agg #[.slice A1 n1 c1, .slice A2 n2 c2]), undef, undef, undef, undef, undef, undef, undef, undef, undef, undef, undef, undef, undef, undef, undef, undef, undef, undef, undef, undef, undef, undef, undef, undef, undef, undef, undef, undef, undef, undef, undef, undef], []⟩ ∧ RdC v' A1 A2 n1 n2 room us ∧ ShU us ∧ Blk v' cb 26 #[.slice A1 n1 c1, .slice A2 n2 c2] ∧ GR v v') ∨ (e = .ret ∧ False)) ⟨#[.slice A n c, undef, .bool false, undef, undef, undef, .slice A n c, .int .i64 n, .bool false, undef, undef, undef, undef, undef, undef, undef, undef, undef, undef, undef, undef, undef, undef, undef, undef, undef, undef, undef, undef, undef, undef, undef, undef, undef, undef, undef, undef, undef, undef, undef, undef, undef, undef], []⟩ v := by
  simp only [fmC3, kBody, Try.f4, Option.getD_some]
  go_wp2_with fail
  refine (drawUsageLeft_any A n c v h hc hcm).mono ?_; rintro e w2 ⟨A1, n1, c1, A2, n2, c2, room, us, rfl, hr, hs, h1, h2, h3, hb⟩
  have B2 := qh hb
  have R2 := qh hr
  have Hs := qh hs
  clear hr hs hb h1 h2 h3
  have Z3 := qh (Blk.new w2 26 #[.slice none 0 0, .slice none 0 0])
  have y0 := Z3.out.cell 0
  have y1 := Z3.out.cell 1
  simp only [gT, gZ, gS] at y0 y1
  have y2 := Z3.out.frozen 0
  have y3 := Z3.out.frozen 1
  go_wp2_with fail
  refine ⟨_, A1, n1, c1, A2, n2, c2, ?_, room, us, R2.out.up (alloc_up w2 _), Hs.out, Blk.new w2 _ _, below_gr (below_to B2.out (alloc_up w2 _))⟩
  simp
end

section
variable (A A1 A2 : Option Addr) (n c n1 c1 n2 c2 cb : Nat) (room : List Int) (us : List Un) (out : Int)
set_option maxRecDepth 100000 in
theorem fm_c5 (v : World) (h : RdC v A1 A2 n1 n2 room us) (hs : ShU us) (hbox : Blk v cb 26 #[.slice A1 n1 c1, .slice A2 n2 c2]) (ho : leftP' room us = out) :
    fmC5.wp Try.prog (fun e a v' => (e = .normal ∧ a = ⟨#[.slice A n c, undef, .bool false, .pointer (some ⟨cb, 0, none⟩), .int .i64 out, .int .i64 out, .slice A n c, .int .i64 n, .bool false, .slice A n c, (.agg #[.slice A1 n1 c1, .slice A2 n2 c2]), (.agg #[.slice A1 n1 c1, .slice A2 n2 c2]), .int .i64 out, (.agg #[.slice A1 n1 c1, .slice A2 n2 c2]), .int .i64 out, undef, undef, undef, undef, undef, undef, undef, undef, undef, undef, undef, undef, undef, undef, undef, undef, undef, undef, undef, undef, undef, undef, undef, undef, undef, undef, undef, undef], []⟩ ∧ GR v v') ∨ (e = .ret ∧ False)) ⟨#[.slice A n c, undef, .bool false, .pointer (some ⟨cb, 0, none⟩), .int .i64 out, undef, .slice A n c, .int .i64 n, .bool false, .slice A n c, (.agg #[.slice A1 n1 c1, .slice A2 n2 c2]), (.agg #[.slice A1 n1 c1, .slice A2 n2 c2]), .int .i64 out, undef, undef, undef, undef, undef, undef, undef, undef, undef, undef, undef, undef, undef, undef, undef, undef, undef, undef, undef, undef, undef, undef, undef, undef, undef, undef, undef, undef, undef, undef], []⟩ v := by
  have x0 := hbox.cell 0
  have x1 := hbox.cell 1
  simp only [gT, gZ, gS] at x0 x1
  have Hr := qh h
  have Hs := qh hs
  have Ho := qh ho
  clear h hs hbox ho
  simp only [fmC5, kBody, Try.f4, Option.getD_some]
  go_wp2_with fail
  clear x0 x1
  refine (usageLeftS_any A1 A2 n1 c1 n2 c2 room us v Hr.out Hs.out).mono ?_; rintro e w2 ⟨rfl, hb2⟩
  have B2 := qh hb2
  clear hb2
  rw [Ho.out]
  go_wp2_with fail
  exact below_gr B2.out
end
set_option maxRecDepth 100000 in
theorem fm_c6 (A A1 A2 : Option Addr) (n c n1 c1 n2 c2 cb : Nat) (out : Int) (v : World) :
    fmC6.wp Try.prog (fun e a v' => (e = .normal ∧ ¬ out < 0 ∧ a = ⟨#[.slice A n c, undef, .bool false, .pointer (some ⟨cb, 0, none⟩), .int .i64 out, .int .i64 out, .slice A n c, .int .i64 n, .bool false, .slice A n c, (.agg #[.slice A1 n1 c1, .slice A2 n2 c2]), (.agg #[.slice A1 n1 c1, .slice A2 n2 c2]), .int .i64 out, (.agg #[.slice A1 n1 c1, .slice A2 n2 c2]), .int .i64 out, .int .i64 out, .int .i64 out, .bool false, .bool false, .int .i64 out, .bool false, .bool false, undef, undef, undef, undef, undef, undef, undef, undef, undef, undef, undef, undef, undef, undef, undef, undef, undef, undef, undef, undef, undef], []⟩ ∧ v' = v) ∨ (e = .ret ∧ a.defers = [] ∧ a.tmps.getD 2 undef = .bool true ∧ v' = v)) ⟨#[.slice A n c, undef, .bool false, .pointer (some ⟨cb, 0, none⟩), .int .i64 out, .int .i64 out, .slice A n c, .int .i64 n, .bool false, .slice A n c, (.agg #[.slice A1 n1 c1, .slice A2 n2 c2]), (.agg #[.slice A1 n1 c1, .slice A2 n2 c2]), .int .i64 out, (.agg #[.slice A1 n1 c1, .slice A2 n2 c2]), .int .i64 out, undef, undef, undef, undef, undef, undef, undef, undef, undef, undef, undef, undef, undef, undef, undef, undef, undef, undef, undef, undef, undef, undef, undef, undef, undef, undef, undef, undef], []⟩ v := by
  simp only [fmC6, kBody, Try.f4, Option.getD_some]
  by_cases h0 : out < 0
  · have q : decide (out < 0) = true := decide_eq_true h0
    go_wp2
  · have q : decide (out < 0) = false := decide_eq_false h0
    have q2 : 0 ≤ out := by omega
    go_wp2

section
variable {H : Nat → Prop} {v : World} {A : Option Addr} {n c : Nat}
set_option maxRecDepth 100000 in
set_option maxHeartbeats 2000000 in
theorem fm_r8 {cs : List Frame} (A A1 A2 : Option Addr) (n c n1 c1 n2 c2 cb : Nat) (room : List Int) (us : List Un) (out tg on rs : Int) (w : World) (h : RdC w A1 A2 n1 n2 room us)
    (hbox : Blk w cb 26 #[.slice A1 n1 c1, .slice A2 n2 c2]) (hN : NK room us out tg on rs) :
    KV Try.prog H (RetV Try.prog 4 cs (fun x v' => x = .bool true ∧ GR w v')) (G ((base 4).at ⟨#[.slice A n c, undef, .bool false, .pointer (some ⟨cb, 0, none⟩), .int .i64 out, .int .i64 out, .slice A n c, .int .i64 n, .bool false, .slice A n c, (.agg #[.slice A1 n1 c1, .slice A2 n2 c2]), (.agg #[.slice A1 n1 c1, .slice A2 n2 c2]), .int .i64 out, (.agg #[.slice A1 n1 c1, .slice A2 n2 c2]), .int .i64 out, .int .i64 out, .int .i64 out, .bool false, .bool false, .int .i64 out, .bool false, .bool false, undef, undef, undef, undef, undef, undef, undef, undef, undef, undef, undef, undef, undef, undef, undef, undef, undef, undef, undef, undef, undef], []⟩ [.code fmR8]) cs) w := by
  obtain ⟨i, e⟩ := fmR8_eq
  rw [e]
  clear e
  refine KV.ctl rfl (fun w => stepG_seq) ?_
  refine KV.draw (qu := .order bK.fn i) (g' := fun t => G (bK.at _ (.inRegion kOps (Region.schedule (Try.prog.follows .mixedOrders) kOps t) :: [.code fmE])) cs) rfl (fun w => stepG_region_draw) fun t => ?_
  have hm : (Try.prog.follows .mixedOrders) = true := by kernel_rfl
  simp only [Region.schedule, hm, Bool.true_or, if_true]
  clear hm
  have e : Region.linearise .any kOps t = Region.linearise.go .any kOps 19 t #[false, false, false, false, false, false, false, false, false, false, false, false, false, false, false, false, false, false, false] [] := rfl
  rw [e]
  clear e
  refine ks_start (A := A) (A1 := A1) (A2 := A2) (n := n) (c := c) (n1 := n1) (c1 := c1) (n2 := n2) (c2 := c2) (cb := cb) (v0 := w) t ⟨h, hbox, GR.refl w⟩ hN (fun y v hF hd hsz h2 => ?_)
  refine KV.ctl rfl (fun w => stepG_region_end) ?_
  obtain ⟨T, ds⟩ := y
  dsimp only at hd hsz h2
  subst hd
  refine KV.endC anaA_good (Rt := fun v₁ a v' => a.defers = [] ∧ a.tmps.getD 2 undef = .bool true ∧ v' = v₁) (by kernel_rfl) (by kernel_rfl) rfl (by kernel_rfl) (fun v₁ hs => ?_) (fun v₁ a' v' todo hs hq => ?_)
  · have h3' : T[2]'(by omega) = .bool true := by
      rw [Array.getElem?_eq_getElem (by omega)] at h2
      exact Option.some.inj h2
    clear h2 hs
    try simp only [fmE, kBody, Try.f4, Option.getD_some]
    go_wp2
  · obtain ⟨h1, h2, rfl⟩ := hq
    exact ⟨_, a', todo, _, Try.func4, h1, rfl, resultsC_tmp rfl a'.tmps, h2, hF.gr.same hs⟩
set_option maxRecDepth 100000 in
set_option maxHeartbeats 1000000 in
theorem fnLeft_v (h : RdU v v.heap.size A n) (hc : n ≤ c) (hcm : c ≤ 9223372036854775807) : CallsV Try.prog H 4 #[.slice A n c] v (fun x v' => x = .bool true ∧ GR v v') := by
  refine ⟨_, kBody, Try.func4, by kernel_rfl, by rfl, fun cs => ?_⟩
  have e : (#[Value.slice A n c] ++ Array.replicate (Try.f4.ntmps - (#[Value.slice A n c] : Array Value).size) undef) = #[.slice A n c, undef, undef, undef, undef, undef, undef, undef, undef, undef, undef, undef, undef, undef, undef, undef, undef, undef, undef, undef, undef, undef, undef, undef, undef, undef, undef, undef, undef, undef, undef, undef, undef, undef, undef, undef, undef, undef, undef, undef, undef, undef, undef] := by kernel_rfl
  rw [e, fmBody_eq]
  clear e
  refine KV.seqC anaA_good (Nm := fun v₁ a v' => a = ⟨#[.slice A n c, undef, .bool false, undef, undef, undef, undef, undef, undef, undef, undef, undef, undef, undef, undef, undef, undef, undef, undef, undef, undef, undef, undef, undef, undef, undef, undef, undef, undef, undef, undef, undef, undef, undef, undef, undef, undef, undef, undef, undef, undef, undef, undef], []⟩ ∧ v' = v₁) (Rt := fun _ _ _ => False) (by kernel_rfl) (by kernel_rfl) rfl (by kernel_rfl) (fun v₁ hs => ?_) (fun v₁ a' v' hs hq => ?_) (fun _ _ _ _ _ h => h.elim)
  · simp only [fmC0, kBody, Try.f4, Option.getD_some]
    go_wp2
  obtain ⟨rfl, rfl⟩ := hq
  refine KV.heap (v := v) ?_ ⟨hs.heap.symm, hs.os.symm, hs.output.symm⟩
  clear hs v'
  refine KV.seqC anaA_good (Nm := fun v₁ a v' => a = ⟨#[.slice A n c, undef, .bool false, undef, undef, undef, .slice A n c, .int .i64 n, .bool false, undef, undef, undef, undef, undef, undef, undef, undef, undef, undef, undef, undef, undef, undef, undef, undef, undef, undef, undef, undef, undef, undef, undef, undef, undef, undef, undef, undef, undef, undef, undef, undef, undef, undef], []⟩ ∧ v' = v₁) (Rt := fun v₁ a v' => a.defers = [] ∧ a.tmps.getD 2 undef = .bool true ∧ v' = v₁) (by kernel_rfl) (by kernel_rfl) rfl (by kernel_rfl) (fun v₁ hs => ?_) (fun v₁ a' v' hs hq => ?_) (fun v₁ a' v' todo hs hq => ?_)
  · simp only [fmC1, kBody, Try.f4, Option.getD_some]
    by_cases hn : 1048576 < n
    · have q : decide ((1048576 : Int) < (n : Int)) = true := decide_eq_true (by omega)
      have q1 : (1048576 : Int) < (n : Int) := by omega
      go_wp2
    · have q : decide ((1048576 : Int) < (n : Int)) = false := decide_eq_false (by omega)
      have q1 : ¬ (1048576 : Int) < (n : Int) := by omega
      have q2 : n ≤ 1048576 := by omega
      go_wp2
  · obtain ⟨rfl, rfl⟩ := hq
    refine KV.heap (v := v) ?_ ⟨hs.heap.symm, hs.os.symm, hs.output.symm⟩
    clear hs v'
    refine KV.seqC anaA_good (Nm := fun v₁ a v' => ∃ cb A1 n1 c1 A2 n2 c2 room us, a = ⟨#[.slice A n c, undef, .bool false, .pointer (some ⟨cb, 0, none⟩), undef, undef, .slice A n c, .int .i64 n, .bool false, .slice A n c, (.agg #[.slice A1 n1 c1, .slice A2 n2 c2]), undef, undef, undef, undef, undef, undef, undef, undef, undef, undef, undef, undef, undef, undef, undef, undef, undef, undef, undef, undef, undef, undef, undef, undef, undef, undef, undef, undef, undef, undef, undef, undef], []⟩ ∧ RdC v' A1 A2 n1 n2 room us ∧ ShU us ∧ Blk v' cb 26 #[.slice A1 n1 c1, .slice A2 n2 c2] ∧ GR v₁ v') (Rt := fun _ _ _ => False) (by kernel_rfl) (by kernel_rfl) rfl (by kernel_rfl) (fun v₁ hs => ?_) (fun v₁ a' v' hs hq => ?_) (fun _ _ _ _ _ h => h.elim)
    · exact fm_c3 A n c v₁ (fun hn => by
        obtain ⟨b, o, e1, e2, e3⟩ := h hn
        refine ⟨b, o, e1, by rw [hs.heap]; exact e2, fun j hj => ?_⟩
        obtain ⟨u, g1, g2, g3⟩ := e3 j hj
        exact ⟨u, g1, g2, (World.cell?_of_block (by rw [hs.heap])).trans g3⟩) hc hcm
    obtain ⟨cb, A1, n1, c1, A2, n2, c2, room, us, rfl, hr, hsu, hbox, hg⟩ := hq
    have hg2 : GR v v' := GR.from hs hg
    clear hg hs
    generalize v' = w2 at hg2 hbox hr ⊢
    refine KV.ctl rfl (fun w => stepG_seq) ?_
    refine KV.ctl rfl (fun w => stepG_region) ?_
    try simp only [fmR, kBody, Try.f4, Option.getD_some]
    try simp only [List.size_toArray, List.length_cons, List.length_nil, Nat.reduceAdd, Nat.zero_add, List.range, List.range.loop]
    refine KV.op anaA_good rfl (by rfl) (by decide) (by kernel_rfl) (fun t => anaA.noTr_spec (by kernel_rfl) t) (fun v₁ hs K' hK' => ?_)
    have hbx := ViewOf_cells_of hbox hs.heap
    have x0 := hbx.cell 0
    have x1 := hbx.cell 1
    simp only [gT, gZ, gS] at x0 x1
    clear hbx
    go_simp
    refine hK' _ _ ?_
    try walk_nrm
    clear hK' K' x0 x1
    refine KV.heap (v := w2) ?_ ⟨hs.heap.symm, hs.os.symm, hs.output.symm⟩
    clear hs v₁
    refine KV.callV rfl (by rfl) (by decide) rfl (Post := fun x v' => x = .int .i64 (leftP' room us) ∧ GR w2 v') ?_ (fun x v3 hp => ?_)
    · have hus := usageLeft_v (H := H) (c1 := c1) (c2 := c2) hr hsu
      simpa [Act.eval, Act.put] using hus
    obtain ⟨rfl, hg3⟩ := hp
    obtain ⟨out, ho⟩ : ∃ out, out = leftP' room us := ⟨_, rfl⟩
    rw [← ho]
    have Ho := qh ho
    clear ho
    try walk_nrm
    refine KV.op anaA_good rfl (by rfl) (by decide) (by kernel_rfl) (fun t => anaA.noTr_spec (by kernel_rfl) t) (fun v₁ hs K' hK' => ?_)
    go_simp
    refine hK' _ _ ?_
    try walk_nrm
    clear hK' K'
    refine KV.heap (v := v3) ?_ ⟨hs.heap.symm, hs.os.symm, hs.output.symm⟩
    clear hs v₁
    refine KV.ctl rfl (fun w => stepG_region_end) ?_
    replace hg2 := hg2.trans hg3
    replace hbox := hbox.grr hg3
    replace hr := hr.gr hg3
    clear hg3
    show KV _ _ _ (G ((base 4).at ⟨#[.slice A n c, undef, .bool false, .pointer (some ⟨cb, 0, none⟩), .int .i64 out, undef, .slice A n c, .int .i64 n, .bool false, .slice A n c, (.agg #[.slice A1 n1 c1, .slice A2 n2 c2]), (.agg #[.slice A1 n1 c1, .slice A2 n2 c2]), .int .i64 out, undef, undef, undef, undef, undef, undef, undef, undef, undef, undef, undef, undef, undef, undef, undef, undef, undef, undef, undef, undef, undef, undef, undef, undef, undef, undef, undef, undef, undef, undef], []⟩ [.code fmR5]) cs) v3
    rw [fmR5_eq]
    refine KV.seqC anaA_good (Nm := fun v₁ a v' => a = ⟨#[.slice A n c, undef, .bool false, .pointer (some ⟨cb, 0, none⟩), .int .i64 out, .int .i64 out, .slice A n c, .int .i64 n, .bool false, .slice A n c, (.agg #[.slice A1 n1 c1, .slice A2 n2 c2]), (.agg #[.slice A1 n1 c1, .slice A2 n2 c2]), .int .i64 out, (.agg #[.slice A1 n1 c1, .slice A2 n2 c2]), .int .i64 out, undef, undef, undef, undef, undef, undef, undef, undef, undef, undef, undef, undef, undef, undef, undef, undef, undef, undef, undef, undef, undef, undef, undef, undef, undef, undef, undef, undef], []⟩ ∧ GR v₁ v') (Rt := fun _ _ _ => False) (by kernel_rfl) (by kernel_rfl) rfl (by kernel_rfl) (fun v₁ hs => ?_) (fun v₁ a' v' hs hq => ?_) (fun _ _ _ _ _ h => h.elim)
    · exact fm_c5 A A1 A2 n c n1 c1 n2 c2 cb room us out v₁ (hr.same hs.heap) hsu (ViewOf_cells_of hbox hs.heap) Ho.out.symm
    obtain ⟨rfl, hg⟩ := hq
    replace hg2 := hg2.trans (GR.from hs hg)
    replace hbox := hbox.grr (GR.from hs hg)
    replace hr := hr.gr (GR.from hs hg)
    clear hg hs
    generalize v' = v4 at hg2 hbox hr ⊢
    refine KV.seqC anaA_good (Nm := fun v₁ a v' => ¬ out < 0 ∧ a = ⟨#[.slice A n c, undef, .bool false, .pointer (some ⟨cb, 0, none⟩), .int .i64 out, .int .i64 out, .slice A n c, .int .i64 n, .bool false, .slice A n c, (.agg #[.slice A1 n1 c1, .slice A2 n2 c2]), (.agg #[.slice A1 n1 c1, .slice A2 n2 c2]), .int .i64 out, (.agg #[.slice A1 n1 c1, .slice A2 n2 c2]), .int .i64 out, .int .i64 out, .int .i64 out, .bool false, .bool false, .int .i64 out, .bool false, .bool false, undef, undef, undef, undef, undef, undef, undef, undef, undef, undef, undef, undef, undef, undef, undef, undef, undef, undef, undef, undef, undef], []⟩ ∧ v' = v₁) (Rt := fun v₁ a v' => a.defers = [] ∧ a.tmps.getD 2 undef = .bool true ∧ v' = v₁) (by kernel_rfl) (by kernel_rfl) rfl (by kernel_rfl) (fun v₁ hs => ?_) (fun v₁ a' v' hs hq => ?_) (fun v₁ a' v' todo hs hq => ?_)
    · exact fm_c6 A A1 A2 n c n1 c1 n2 c2 cb out v₁
    · obtain ⟨h0, rfl, rfl⟩ := hq
      refine KV.heap (v := v4) ?_ ⟨hs.heap.symm, hs.os.symm, hs.output.symm⟩
      clear hs
      obtain ⟨hok, hN⟩ := left_num (room := room) hsu (by rw [← Ho.out]; exact h0)
      rw [← Ho.out] at hN
      exact (fm_r8 A A1 A2 n c n1 c1 n2 c2 cb room us out _ _ _ v4 hr hbox hN).mono fun g' u hret => hret.mono fun x u hx => ⟨hx.1, hg2.trans hx.2⟩
    · obtain ⟨h1, h2, rfl⟩ := hq
      exact ⟨_, a', todo, _, Try.func4, h1, rfl, resultsC_tmp rfl a'.tmps, h2, hg2.same hs⟩
  · obtain ⟨h1, h2, rfl⟩ := hq
    exact ⟨_, a', todo, _, Try.func4, h1, rfl, resultsC_tmp rfl a'.tmps, h2, (GR.refl v).same hs⟩
end
end Go.Proofs.Ytlcgbnmmbheleaa
