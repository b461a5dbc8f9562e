/- The sentinel variable impl.errMove: a world that meets the rows' condition on it; how it reads behind a call. -/
import Derived.Test.YtdkhdfedejbicaaGreatDoorJ4
import Derived.Test.YtdkhdfedejbicaaGreatDoorCards
import Derived.Test.YtdkhdfedejbicaaGreatDoorTie
import Derived.ProofKit
import Derived.OpenShut
import Derived.LaidLaws
import Derived.LaidHandle
import Derived.ChangeVars
import Derived.RowKitTokens
import Derived.Stop.Joined
import Derived.Deep.DeepHandedRow
import Derived.JoinedCond
import Derived.SevenTiedAt
namespace Go.Proofs.YtdkhdfedejbicaaGreatDoor
open Go.ChangeShapes Go.WideShapes Go.ChangeAt Go.RowKit

theorem emName : Tryz.prog.globalNamed "loop.example/vectorpacker/impl.errMove" = some 4 := by kernel_rfl
theorem emType : (Tryz.prog.globals[4]?).map (·.type) = some 44 := by kernel_rfl
abbrev moveS : ByteArray := { data := #[110, 111, 32, 109, 111, 118, 101] }
noncomputable def moveLow : Nat := (World.holding Tryz.prog default ⟨#[], #[], []⟩).heap.size
noncomputable def moveWorld (os : Os) : World :=
  let w0 := World.holding Tryz.prog os ⟨#[.cells #[.string moveS] 238], #[], []⟩
  { w0 with heap := w0.heap.modify 4 fun
      | .cells _ t frozen => .cells #[.iface 224 (.pointer (some ⟨moveLow, 0, none⟩))] t frozen
      | o => o }
theorem var_up {P : Program} {W W' : World} {n : String} {cs : Array Value} (h : W.var? P n = some cs) (bel : Below W.heap.size W W') : W'.var? P n = some cs := by
  unfold World.var? at h ⊢
  cases hg : P.globalNamed n with
  | none => simp [hg] at h
  | some g =>
    simp only [hg, Option.bind_some] at h ⊢
    have hlt : g < W.heap.size := by
      rcases Nat.lt_or_ge g W.heap.size with h' | h'
      · exact h'
      · simp [Array.getElem?_eq_none h'] at h
    rw [bel.block g hlt]; exact h
theorem vars_move {H : Type} (enc : TypeId × Value → H) {W W' : World} {old : Value} (hv : W.var? Tryz.prog "loop.example/vectorpacker/impl.errMove" = some #[old]) (hi : IsIface old) (bel : Below W.heap.size W W') (sp : Nat → Bool) :
    DataW.TrodVars enc Tryz.prog W' sp ["loop.example/vectorpacker/impl.errMove"] [tok enc old] [.cell 4 0] := by
  have := trodVars_mk1 (enc := enc) (spare := sp) (fuel := 1) (d := tok enc old) (p := []) emName emType (var_up hv bel) (trod_held Tryz.underlying44 hi 0)
  simpa [row_one] using this
theorem move_of {H : Type} {enc : TypeId × Value → H} {W : World} {gs : List (DataW H)} {q : List MemPlace} (h : DataW.TrodVars enc Tryz.prog W (fun _ => true) ["loop.example/vectorpacker/impl.errMove"] gs q) :
    ∃ old, W.var? Tryz.prog "loop.example/vectorpacker/impl.errMove" = some #[old] ∧ IsIface old ∧ gs = [tok enc old] := by
  obtain ⟨g, t, cs, fuel, d, p', rfl, hg, ht, hvar, hd, rfl⟩ := trodVars_one h
  obtain rfl := Option.some.inj (emName.symm.trans hg)
  obtain rfl := Option.some.inj (emType.symm.trans ht)
  obtain ⟨old, hcs, ho, hx⟩ := held_of_trod_list Tryz.underlying44 hd
  simp only [Prod.mk.injEq] at hx
  obtain ⟨rfl, rfl⟩ := hx
  have hcs' : cs = #[old] := by
    cases cs
    simp_all
  subst hcs'
  exact ⟨old, hvar, ho, rfl⟩
end Go.Proofs.YtdkhdfedejbicaaGreatDoor
