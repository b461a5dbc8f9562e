/- Proved: for every code, the law FnUsageArrive returns true, and the code reads afterwards as it read before. No condition. -/
import Derived.Test.YtlcgbnmmbheleaaGreatUsArrL
import Derived.Test.YtlcgbnmmbheleaaGreatV32
import Derived.Conc.HoldsTime
namespace Go.Proofs.YtlcgbnmmbheleaaGreat.usageArrive
open Go.ChangeShapes Go.WideShapes Go.ChangeAt Go.RowKit
set_option linter.unusedVariables false

set_option maxRecDepth 100000 in
theorem lifted (os : Os) (started : os.Started) (H : Type) (enc : TypeId × Value → H) (F : Stop.Interp) :
    ReturnsInLeavingWide { calm := true } Tryz.checked os 4 .any (Rows.fnUsageArriveSpec.pre6 enc Tryz.prog Tryz.f4 Rows.fnUsageArriveRow.domain false) ((OpenSpec.ofChange Rows.fnUsageArriveSpec).postWith enc Tryz.prog Tryz.f4 F (outsideKept [.timePasses]) false true false) := by
  refine returnsInLeavingWide_of_change_time (C := Tryz.checked) own started Tryz.func4
    (ChangeSpec.witness6c (enc := enc) (C := Tryz.checked) ⟨#[], #[.slice none 0 0], []⟩ 8 (by kernel_rfl) (by kernel_rfl) (by kernel_rfl) (by kernel_rfl)) ?_
  intro W base args ds gs before hval0 hW hcnd _ _
  have hval : ∀ (j : Nat) t v, Tryz.f4.params[j]? = some t → args[j]? = some v → Value.okWide Tryz.prog W .any base t v := hval0
  have hW' := hW
  obtain ⟨p, q, hA0, hV, rfl, hfz, hnd⟩ := hW
  have hA : DataW.TrodAll enc Tryz.prog W 0 (fun _ => true) true Tryz.f4.params.toList args.toList ds p := hA0
  rw [Tryz.params4] at hA hval
  obtain ⟨v0, vs0, d0, ds0, p0, q0, hargs, rfl, rfl, h0, r0⟩ := trodAll_cons hA
  obtain ⟨rfl, rfl, rfl⟩ := trodAll_nil r0
  obtain rfl : args = #[v0] := by cases args; simp_all
  obtain ⟨rfl, rfl⟩ := trodVars_none hV
  obtain ⟨a0, n0, c0, rfl⟩ := okWide_slice Tryz.underlying22 (hval 0 22 v0 rfl rfl)
  have k0 := h0
  have lt0 : ∀ x ∈ p0, x.block < W.heap.size := by obtain ⟨m, hm⟩ := k0; exact DataW.trod_lt m _ _ _ hm
  obtain ⟨m0, f0⟩ := h0
  obtain ⟨hnc0, hcm0, hu0⟩ := rdU_of_trod Tryz.underlying22 Tryz.underlying5 (by kernel_rfl) f0
  clear hA0 hval0
  have hv : RdU (veil0 W) (veil0 W).heap.size a0 n0 := fun hn => by
    obtain ⟨b, o, e1, e2, e3⟩ := hu0 hn
    refine ⟨b, o, e1, by rw [veil0_size]; exact e2, fun j hj => ?_⟩
    obtain ⟨u, g1, g2, g3⟩ := e3 j hj
    exact ⟨u, g1, g2, (veil0_cell W _).trans g3⟩
  obtain ⟨M, last, o, w', t', r1, r2, r3, r4⟩ := kv_run (by kernel_rfl) (fnUsageArrive_v (H := odd0 W) hv hnc0 hcm0)
  refine ⟨M, last, o, w', t', r1, r2, r3, r4.mono fun x ⟨v', S', ⟨hx, hg⟩, hvw, hk⟩ => ?_⟩
  subst hx
  have bel : Below W.heap.size W w' := below_of hg hvw hk
  have bl : Below W.heap.size W { w' with os := W.os } := ⟨rfl, bel.tape, bel.output, bel.size, bel.block⟩
  exact ⟨⟨_, _, _, [], _, [], hW', trodAll_mk1 (shut_bool Tryz.underlying4 _), (trodAll_cons_mk (Below.trod laidOut (by kernel_rfl) (of_decide_eq_true (by kernel_rfl)) k0 bl lt0) trodAll_mk0), rfl, bl.frame _, fun h => by cases h⟩, by rw [bel.os]; exact .refl _⟩

theorem over : Rows.fnUsageArriveRow.holds Tryz.pinned (OpenSpec.ofChange Rows.fnUsageArriveSpec) :=
  OpenClaim.holds_of_wide_leaving_time 4 Tryz.f4 rfl rfl rfl rfl rfl rfl rfl ⟨rfl, rfl, rfl, rfl, rfl⟩ rfl rfl rfl rfl rfl (by kernel_rfl) Tryz.func4 (by kernel_rfl)
    (of_decide_eq_true (by kernel_rfl)) (by unfold Func.isWrapper; first | (rw [if_pos (by decide +kernel)]; kernel_rfl) | (rw [if_neg (by decide +kernel)]; exact ⟨rfl, rfl⟩))
    (fun os started H enc _ F => lifted os started H enc F)

theorem proved : Rows.FnUsageArriveSaid := over
#print axioms proved
end Go.Proofs.YtlcgbnmmbheleaaGreat.usageArrive
