/- Proved: for all arguments, the law FnExactRequestsPlay returns true, and its argument reads afterwards as it read before. The variable impl.errMove starts as the program's text lays it (the card ties it), and reads afterwards as before. -/
import Derived.Test.YtlegpecjoaklnaaGreatDoorExPl
import Derived.Test.YtlegpecjoaklnaaGreatDoorErrLaid
import Derived.Test.YtlegpecjoaklnaaGreatDoorReadsQ
import Derived.Test.YtlegpecjoaklnaaGreatDoorFacts
import Derived.JoinedCond
namespace Go.Proofs.YtlegpecjoaklnaaGreatDoor.exactRequestsPlay
open Go.ChangeShapes Go.WideShapes Go.ChangeAt Go.RowKit
set_option linter.unusedVariables false

theorem laid_met (os : Os) : laidMetH Tryz.prog Rows.fnExactRequestsPlayRow.laid ((moveWorld os).forCall (fun _ _ => 0) ⟨#[], #[.agg #[.slice none 0 0, .slice none 0 0], .slice none 0 0], []⟩).memory :=
  laidMetH_of_parts (moveWorld_met os _) (by kernel_rfl)
theorem reads (os : Os) {H : Type} (enc : TypeId × Value → H) : ∃ places, DataW.whole enc Tryz.prog ((moveWorld os).forCall (fun _ _ => 0) ⟨#[], #[.agg #[.slice none 0 0, .slice none 0 0], .slice none 0 0], []⟩).memory Tryz.f14.params.toList Rows.fnExactRequestsPlaySpec.vars false #[Value.agg #[.slice none 0 0, .slice none 0 0], Value.slice none 0 0].toList 8 = some ([.agg [.nil, .nil], .nil], [tok enc (.iface 256 (.pointer (some ⟨moveLow, 0, none⟩)))], places) :=
  ⟨[.cell 1 0], by kernel_rfl⟩

set_option maxRecDepth 100000 in
theorem contract (H : Type) (enc : TypeId × Value → H) (W : World) (base : Nat) (args : Array Value) (ds gs : List (DataW H)) (before : List MemPlace)
    (hval0 : ∀ (j : Nat) t v, Tryz.f14.params[j]? = some t → args[j]? = some v → Value.okWide Tryz.prog W .any base t v)
    (hW : DataW.Whole enc Tryz.prog Tryz.f14.params.toList Rows.fnExactRequestsPlaySpec.vars false W args.toList ds gs before) (hL : laidMetH Tryz.prog Rows.fnExactRequestsPlayRow.laid W) :
    Calls Tryz.prog 14 args W fun e W' => ∃ v, e = .returned v ∧ Rows.fnExactRequestsPlaySpec.post enc Tryz.prog Tryz.f14 false true false false W args v W' := by
  have hval : ∀ (j : Nat) t v, Tryz.f14.params[j]? = some t → args[j]? = some v → Value.okWide Tryz.prog W .any base t v := hval0
  have hW' := hW
  obtain ⟨p, q, hA0, hV, rfl, hfz, hnd⟩ := hW
  have hA : DataW.TrodAll enc Tryz.prog W 0 (fun _ => true) true Tryz.f14.params.toList args.toList ds p := hA0
  rw [Tryz.params14] at hA hval
  obtain ⟨v0, vs0, d0, ds0, p0, q0, hargs, rfl, rfl, h0, s0⟩ := trodAll_cons hA
  obtain ⟨v1, vs1, d1, ds1, p1, q1, rfl, rfl, rfl, h1, s1⟩ := trodAll_cons s0
  obtain ⟨rfl, rfl, rfl⟩ := trodAll_nil s1
  obtain rfl : args = #[v0, v1] := by cases args; simp_all
  obtain ⟨old, hvar, ho, rfl⟩ := move_of hV
  obtain ⟨cs0, rfl, hs0⟩ := okWide_struct Tryz.underlying62 (hval 0 62 v0 rfl rfl)
  obtain ⟨A3, n3, c3, rfl⟩ := okWide_slice Tryz.underlying73 (hval 1 73 v1 rfl rfl)
  have k0 := h0
  have lt0 : ∀ x ∈ p0, x.block < W.heap.size := by obtain ⟨m, hm⟩ := k0; exact DataW.trod_lt m _ _ _ hm
  have k1 := h1
  have lt1 : ∀ x ∈ p1, x.block < W.heap.size := by obtain ⟨m, hm⟩ := k1; exact DataW.trod_lt m _ _ _ hm
  obtain ⟨m0, f0⟩ := h0
  obtain ⟨m1, f1⟩ := h1
  have T := TkTy.mk Tryz.underlying190 Tryz.underlying63 (by kernel_rfl) Tryz.underlying3 (by kernel_rfl) rfl Tryz.underlying23 (by kernel_rfl) rfl Tryz.underlying3 (by kernel_rfl)
  obtain ⟨A1, n1, c1, A2, n2, c2, room, us, rfl, _, _, hc⟩ := rdC_of_trod T Tryz.underlying192 Tryz.underlying4 (by kernel_rfl) rfl rfl (by kernel_rfl) rfl Tryz.underlying60 (by kernel_rfl) Tryz.underlying62 Tryz.underlying23 Tryz.underlying3 (by kernel_rfl) (by kernel_rfl) rfl rfl (by kernel_rfl) rfl (by rw [hs0]; kernel_rfl) f0
  have R := RqTy.mk (e := 63) Tryz.underlying65 Tryz.underlying3 (by kernel_rfl) rfl rfl (by kernel_rfl) rfl Tryz.underlying4 (by kernel_rfl) rfl Tryz.underlying3 (by kernel_rfl) rfl
  obtain ⟨_, rs, hq⟩ := rdQ_of_trod T R Tryz.underlying73 (by kernel_rfl) f1
  clear hA0 hval0
  refine (exactRequestsPlay_walk A1 A2 A3 n1 c1 n2 c2 n3 c3 room us rs W hc hq).mono fun e W' ⟨he, bel⟩ => ?_
  subst he
  exact ⟨_, rfl, _, _, _, [], _, [.cell 1 0], hW', trodAll_mk1 (shut_bool Tryz.underlying4 _), (trodAll_cons_mk (Below.trod laidOut (by kernel_rfl) (of_decide_eq_true (by kernel_rfl)) k0 bel lt0) (trodAll_cons_mk (Below.trod laidOut (by kernel_rfl) (of_decide_eq_true (by kernel_rfl)) k1 bel lt1) trodAll_mk0)), vars_move enc hvar ho bel _, bel.frame _, fun h => by cases h⟩

set_option maxRecDepth 100000 in
theorem lifted (os : Os) (started : os.Started) (H : Type) (enc : TypeId × Value → H) (F : Stop.Interp) :
    ReturnsInHanded {} Tryz.checked os 14 .any ((OpenSpec.ofChange Rows.fnExactRequestsPlaySpec).preRow enc Tryz.prog Tryz.f14 Rows.fnExactRequestsPlayRow.domain false Rows.fnExactRequestsPlayRow.laid) (((OpenSpec.ofChange Rows.fnExactRequestsPlaySpec).at F).post enc Tryz.prog Tryz.f14 false true false false) := by
  obtain ⟨places, hx⟩ := reads os enc
  refine returnsInHanded_of_row (C := Tryz.checked) (s := OpenSpec.ofChange Rows.fnExactRequestsPlaySpec) own started (by kernel_rfl) Tryz.func14
    (witness_row_at (enc := enc) (C := Tryz.checked) false (moveWorld os) #[.agg #[.slice none 0 0, .slice none 0 0], .slice none 0 0] rfl (by kernel_rfl) (by kernel_rfl) (by kernel_rfl)
      (OpenSpec.preRow_of_cond 8 hx rfl (fun k hk => by cases hk) (by kernel_rfl) (laid_met os))) ?_
  intro W base args ds gs before hval hW _ _ _ hL _ _
  exact contract H enc W base args ds gs before hval hW hL

theorem k1 : (Rows.fnExactRequestsPlayRow.inPlace == Tryz.prog.inPlace 14) = true := by kernel_rfl
theorem k2 : (Rows.fnExactRequestsPlayRow.unfollowed == Tryz.prog.unfollowed 14) = true := by kernel_rfl
theorem k3 : (Rows.fnExactRequestsPlayRow.recurses == Tryz.prog.recurses 14) = true := by kernel_rfl
theorem k4 : (Rows.fnExactRequestsPlayRow.named == Tryz.prog.varsNamed 14) = true := by kernel_rfl
theorem k5 : (Rows.fnExactRequestsPlayRow.lifted == Tryz.prog.liftsFinal) = true := kfLift
theorem closed : joinedFacts Tryz.prog 14 Tryz.f14 (OpenSpec.ofChange Rows.fnExactRequestsPlaySpec).bare Rows.fnExactRequestsPlayRow = true := by
  unfold joinedFacts
  rw [k1, k2, k3, k4, k5, kfMay, kfLaid, kfMaps]
  kernel_rfl
theorem said : Rows.FnExactRequestsPlaySaid :=
  OpenClaim.holds_of_cond 14 Tryz.f14 rfl rfl rfl rfl rfl rfl rfl ⟨rfl, rfl, rfl, rfl, rfl⟩ rfl rfl rfl rfl rfl (by kernel_rfl) Tryz.func14 closed
    (of_decide_eq_true (by kernel_rfl)) (by unfold Func.isWrapper; first | (rw [if_pos (by decide +kernel)]; kernel_rfl) | (rw [if_neg (by decide +kernel)]; exact ⟨rfl, rfl⟩))
    (fun os started H enc _ F => by rw [OpenClaim.pre_eq_preRow]; exact lifted os started H enc F)

theorem plain (f : FuncId) (fn : Func) (hf : Tryz.pinned.checked.prog.funcNamed "loop.example/vectorpacker/laws.FnExactRequestsPlay" = some f) (hfn : Tryz.pinned.checked.prog.funcs[f]? = some fn) :
    true = Tryz.pinned.checked.prog.looks [] ∧ ∀ (j : Nat) t, fn.params[j]? = some t → Tryz.pinned.checked.prog.wantsStandIn t = false := by
  obtain rfl : f = 14 := Option.some.inj ((show Tryz.prog.funcNamed "loop.example/vectorpacker/laws.FnExactRequestsPlay" = some 14 by kernel_rfl).symm.trans hf) |>.symm
  obtain rfl : fn = Tryz.f14 := (Option.some.inj (Tryz.func14.symm.trans hfn)).symm
  refine ⟨by kernel_rfl, fun j t ht => ?_⟩
  rw [Tryz.params14] at ht
  have hm : t = 62 ∨ t = 73 := by simpa using Array.mem_of_getElem? ht
  rcases hm with rfl | rfl
  · exact (show Tryz.prog.wantsStandIn 62 = false by kernel_rfl)
  · exact (show Tryz.prog.wantsStandIn 73 = false by kernel_rfl)

/-- The statement: the tied card. -/
theorem proved : Rows.FnExactRequestsPlayCardSaid :=
  Claim7.holds_tied_plain_at .later [] _ _ _ _ said (fun _ h => by cases h) (by kernel_rfl) (fun _ h => by cases h) fnExactRequestsPlay_row_tie rfl ⟨rfl, rfl⟩ (by kernel_rfl) rfl plain (by kernel_rfl)
#print axioms proved
end Go.Proofs.YtlegpecjoaklnaaGreatDoor.exactRequestsPlay
