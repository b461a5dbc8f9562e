/- Proved: for all arguments, the law FnExactBatchDo returns true, and each argument reads afterwards as it read before. No condition. -/
import Derived.Test.YtjjnbbkdjimcoaaGreatExDo
import Derived.Test.YtjjnbbkdjimcoaaGreatReadsQ
namespace Go.Proofs.YtjjnbbkdjimcoaaGreat.exactBatchDo
open Go.ChangeShapes Go.WideShapes Go.ChangeAt Go.RowKit
set_option linter.unusedVariables false

set_option maxRecDepth 100000 in
theorem lifted (os : Os) (started : os.Started) (H : Type) (enc : TypeId × Value → H) :
    ReturnsInHanded {} Tryz.checked os 12 .any (Rows.fnExactBatchDoSpec.pre6 enc Tryz.prog Tryz.f12 Rows.fnExactBatchDoRow.domain false) (Rows.fnExactBatchDoSpec.post enc Tryz.prog Tryz.f12 false true false false) := by
  refine returnsInHanded_of_change (C := Tryz.checked) own started (by kernel_rfl) Tryz.func12
    (ChangeSpec.witness6 (enc := enc) (C := Tryz.checked) false ⟨#[], #[.agg #[.slice none 0 0, .slice none 0 0], .slice none 0 0, .int .i64 0], []⟩ 8 (by kernel_rfl) (by kernel_rfl) (by kernel_rfl) (by kernel_rfl)) ?_
  intro W base args ds gs before hval0 hW hcnd _
  have hval : ∀ (j : Nat) t v, Tryz.f12.params[j]? = some t → args[j]? = some v → Value.okWide Tryz.prog W .any base t v := hval0
  have hW' := hW
  obtain ⟨p, q, hA0, hV, rfl, hfz, hnd⟩ := hW
  have hA : DataW.TrodAll enc Tryz.prog W 0 (fun _ => true) true Tryz.f12.params.toList args.toList ds p := hA0
  rw [Tryz.params12] at hA hval
  obtain ⟨v0, vs0, d0, ds0, p0, q0, hargs, rfl, rfl, h0, s0⟩ := trodAll_cons hA
  obtain ⟨v1, vs1, d1, ds1, p1, q1, rfl, rfl, rfl, h1, s1⟩ := trodAll_cons s0
  obtain ⟨v2, vs2, d2, ds2, p2, q2, rfl, rfl, rfl, h2, s2⟩ := trodAll_cons s1
  obtain ⟨rfl, rfl, rfl⟩ := trodAll_nil s2
  obtain rfl : args = #[v0, v1, v2] := by cases args; simp_all
  obtain ⟨rfl, rfl⟩ := trodVars_none hV
  obtain ⟨cs0, rfl, hs0⟩ := okWide_struct Tryz.underlying49 (hval 0 49 v0 rfl rfl)
  obtain ⟨a1, n1, c1, rfl⟩ := okWide_slice Tryz.underlying50 (hval 1 50 v1 rfl rfl)
  obtain ⟨id2, rfl⟩ := okWide_int Tryz.underlying3 (hval 2 3 v2 rfl rfl)
  have k0 := h0
  have lt0 : ∀ x ∈ p0, x.block < W.heap.size := by obtain ⟨m, hm⟩ := k0; exact DataW.trod_lt m _ _ _ hm
  have k1 := h1
  have lt1 : ∀ x ∈ p1, x.block < W.heap.size := by obtain ⟨m, hm⟩ := k1; exact DataW.trod_lt m _ _ _ hm
  have k2 := h2
  have lt2 : ∀ x ∈ p2, x.block < W.heap.size := by obtain ⟨m, hm⟩ := k2; exact DataW.trod_lt m _ _ _ hm
  obtain ⟨m0, f0⟩ := h0
  have T := TkTy.mk Tryz.underlying50 Tryz.underlying89 (by kernel_rfl) Tryz.underlying3 (by kernel_rfl) rfl Tryz.underlying23 (by kernel_rfl) rfl Tryz.underlying3 (by kernel_rfl)
  obtain ⟨a0, n0, c0, aa0, nn0, cc0, room0, us0, rfl, _, _, r0⟩ := rdC_of_trod T Tryz.underlying129 Tryz.underlying4 (by kernel_rfl) rfl rfl (by kernel_rfl) rfl Tryz.underlying47 (by kernel_rfl) Tryz.underlying49 Tryz.underlying23 Tryz.underlying3 (by kernel_rfl) (by kernel_rfl) rfl rfl (by kernel_rfl) rfl (by rw [hs0]; kernel_rfl) f0
  obtain ⟨m1, f1⟩ := h1
  obtain ⟨e1, x1, r1⟩ := rdT_of_trod Tryz.underlying50 Tryz.underlying89 (by kernel_rfl) Tryz.underlying3 (by kernel_rfl) rfl Tryz.underlying23 (by kernel_rfl) rfl Tryz.underlying3 (by kernel_rfl) f1
  obtain ⟨m2, f2⟩ := h2
  clear hA0 hval0
  refine (exactBatchDo_walk a0 aa0 a1 n0 c0 nn0 cc0 n1 c1 id2 room0 us0 x1 W r0 r1).mono fun e W' ⟨he, bel⟩ => ?_
  subst he
  exact ⟨_, rfl, _, _, _, [], _, [], hW', trodAll_mk1 (shut_bool Tryz.underlying4 _), (trodAll_cons_mk (Below.trod laidOut (by kernel_rfl) (of_decide_eq_true (by kernel_rfl)) k0 bel lt0) (trodAll_cons_mk (Below.trod laidOut (by kernel_rfl) (of_decide_eq_true (by kernel_rfl)) k1 bel lt1) (trodAll_cons_mk (Below.trod laidOut (by kernel_rfl) (of_decide_eq_true (by kernel_rfl)) k2 bel lt2) trodAll_mk0))), rfl, bel.frame _, fun h => by cases h⟩

theorem over : Rows.fnExactBatchDoRow.holds Tryz.pinned (OpenSpec.ofChange Rows.fnExactBatchDoSpec) :=
  OpenClaim.holds_of_wide 12 Tryz.f12 rfl rfl rfl rfl rfl rfl rfl ⟨rfl, rfl, rfl, rfl, rfl⟩ rfl rfl rfl rfl rfl (by kernel_rfl) Tryz.func12 (by kernel_rfl)
    (of_decide_eq_true (by kernel_rfl)) (by unfold Func.isWrapper; first | (rw [if_pos (by decide +kernel)]; kernel_rfl) | (rw [if_neg (by decide +kernel)]; exact ⟨rfl, rfl⟩))
    (fun os started H enc _ => lifted os started H enc)

/-- The statement. -/
theorem proved : Rows.FnExactBatchDoSaid := over
#print axioms proved
end Go.Proofs.YtjjnbbkdjimcoaaGreat.exactBatchDo
