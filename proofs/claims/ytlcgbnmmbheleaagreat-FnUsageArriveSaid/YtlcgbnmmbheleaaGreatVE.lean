/- Several texts in one. -/
import Derived.Conc.MuLone
import Derived.Test.YtlcgbnmmbheleaaGreatV22
import Derived.Laws.CopyOwn
import Derived.Laws.IdiomCopy
import Derived.ArgAppend
namespace Go.Proofs.YtlcgbnmmbheleaaGreat
set_option linter.unusedSimpArgs false
set_option linter.unusedVariables false
abbrev muLink : Go.Conc.Locks.MuLink := { lock := 56, unlock := 57, ilock := 97, iunlock := 98, lockSlow := 118, unlockSlow := 120, disable := 77, enable := 78, acquire := 89, relMerge := 76, cas32 := 117, add32 := 119, tMutex := 94, tIMutex := 92, tPMutex := 132, tPIMutex := 148, tPI32 := 150, tUP := 116, tNoCopy := 77, tU32 := 83 }
theorem muLib : Go.Conc.Locks.MuLib Tryz.prog muLink :=
  ⟨Tryz.func56, Tryz.func57, Tryz.func97, Tryz.func98, Tryz.func77, Tryz.func78, Tryz.func89, Tryz.func76, Tryz.func117, Tryz.func119,
   Tryz.underlying92, Tryz.runUnderlying92, Tryz.sizeOf92, Tryz.isAgg92, Tryz.zeroValue92,
   Tryz.underlying94, Tryz.runUnderlying94, Tryz.sizeOf94, Tryz.isAgg94, Tryz.zeroValue94,
   Tryz.underlying132, Tryz.runUnderlying132, Tryz.sizeOf132, Tryz.isAgg132, Tryz.zeroValue132,
   Tryz.underlying148, Tryz.runUnderlying148, Tryz.sizeOf148, Tryz.isAgg148, Tryz.zeroValue148,
   Tryz.underlying150, Tryz.runUnderlying150, Tryz.sizeOf150, Tryz.isAgg150, Tryz.zeroValue150,
   Tryz.underlying116, Tryz.runUnderlying116, Tryz.sizeOf116, Tryz.isAgg116, Tryz.zeroValue116,
   Tryz.underlying77, Tryz.runUnderlying77, Tryz.sizeOf77, Tryz.isAgg77, Tryz.zeroValue77,
   Tryz.underlying21, Tryz.runUnderlying21, Tryz.sizeOf21, Tryz.isAgg21, Tryz.zeroValue21, (by kernel_rfl)⟩
end Go.Proofs.YtlcgbnmmbheleaaGreat

namespace Go.Proofs.YtlcgbnmmbheleaaGreat
set_option linter.unusedSimpArgs false
set_option linter.unusedVariables false
open Go Go.RowKit
attribute [local go_sem ↓] Go.wp_at_zero Go.wp_at_succ

set_option maxRecDepth 100000 in
set_option maxHeartbeats 1600000 in
theorem copyOf_any (A : Option Addr) (n c : Nat) (id : Int) (xs : List Int) (w : World) (h : RdI w w.heap.size A n xs) (hn : n ≤ 1048576) :
    Calls Tryz.prog 66 #[.agg #[.int .i64 id, .slice A n c]] w fun e w' => ∃ A' c', e = .returned (.agg #[.int .i64 id, .slice A' n c']) ∧ w'.ownsRow w.heap.size 3 1 (.slice A' n c') n (xs.map (Value.int .i64)) ∧ Below w.heap.size w w' := by
  have H := qh h
  clear h
  go_enter Tryz.func66, Tryz.ntmps66
  go_wp2_with fail
  have B1 := qh ((upNew w (.cells #[.int .i64 id, .slice A n c] 40)).alloc (by simp) (.cells #[.int .i64 0, .slice none 0 0] 40))
  have sz : (w.alloc (.cells #[.int .i64 id, .slice A n c] 40)).heap.size = w.heap.size + 1 := World.size_alloc _ _
  have P1 := qh ((Blk.new w 40 #[.int .i64 id, .slice A n c]).alloc (.cells #[.int .i64 0, .slice none 0 0] 40))
  have Q1 := qh (show Blk ((w.alloc (.cells #[.int .i64 id, .slice A n c] 40)).alloc (.cells #[.int .i64 0, .slice none 0 0] 40)) (w.heap.size + 1) 40 #[.int .i64 0, .slice none 0 0] from by
    have := Blk.new (w.alloc (.cells #[.int .i64 id, .slice A n c] 40)) 40 #[.int .i64 0, .slice none 0 0]
    rwa [sz] at this)
  generalize (w.alloc (.cells #[.int .i64 id, .slice A n c] 40)).alloc (.cells #[.int .i64 0, .slice none 0 0] 40) = w1 at B1 P1 Q1 ⊢
  clear sz
  have K0 : w1.drew.cell? ⟨w.heap.size, 0, none⟩ = some (.int .i64 id) ∧ w1.drew.cell? ⟨w.heap.size, 1, none⟩ = some (.slice A n c) := ⟨P1.out.cell 0, P1.out.cell 1⟩
  have l1 : w.heap.size + 1 < w1.heap.size := Q1.out.lt
  refine wp_region_mix (.take 0 (.take 2 (.take 1 (.take 3 (.bar 4 (.take 5 (.bar 6 .nil))))))) (fun w' => w'.cell? ⟨w.heap.size, 0, none⟩ = some (.int .i64 id) ∧ w'.cell? ⟨w.heap.size, 1, none⟩ = some (.slice A n c)) (by kernel_rfl) (by kernel_rfl) K0 (fun _ => ?_)
  clear K0
  repeat ((first | refine mxS (by rfl) (by rfl) ?_ | (refine mxT (v := ?_) (by rfl) (by rfl) (fun z y => ?_) ?_; rotate_left; (focus ((try dsimp only at y); (go_simp <;> with_reducible rfl); done)))); (try simp only [Act.put,pS,pZ,pC]))
  (refine mxB (by rfl) (fun K hK => ?_); go_simp)
  refine (clone_any A n c xs w1.drew (H.out.up B1.out.drew) hn).mono ?_; rintro e w2 ⟨A', c', rfl, hown, hb2⟩
  have Hown := qh hown
  have HB2 := qh hb2
  have P2 := qh (P1.out.drew.below hb2 P1.out.lt)
  have Q2 := qh (Q1.out.drew.below hb2 Q1.out.lt)
  clear hown hb2
  ((try dsimp only); refine nxK hK _ _ (⟨P2.out.cell 0, P2.out.cell 1⟩) ?_; clear hK K; (try simp only [Act.put,pS,pZ,pC]))
  repeat ((first | refine mxS (by rfl) (by rfl) ?_ | (refine mxT (v := ?_) (by rfl) (by rfl) (fun z y => ?_) ?_; rotate_left; (focus ((try dsimp only at y); (go_simp <;> with_reducible rfl); done)))); (try simp only [Act.put,pS,pZ,pC]))
  have y0 : w2.cell? ⟨w.heap.size + 1, 0, none⟩ = some (.int .i64 0) := Q2.out.cell 0
  have y1 : w2.cell? ⟨w.heap.size + 1, 1, none⟩ = some (.slice none 0 0) := Q2.out.cell 1
  have f0 : w2.frozen? ⟨w.heap.size + 1, 0, none⟩ = false := Q2.out.frozen 0
  have f1 : w2.frozen? ⟨w.heap.size + 1, 1, none⟩ = false := Q2.out.frozen 1
  (refine mxB (by rfl) (fun K hK => ?_); go_simp)
  clear y0 y1 f0 f1
  have EP := qh ((P2.out.far (p := ⟨w.heap.size + 1, 0, none⟩) (by simp) (.int .i64 id)).far (p := ⟨w.heap.size + 1, 1, none⟩) (by simp) (.slice A' n c'))
  have EQ := qh ((Q2.out.set_ 0 (.int .i64 id)).set_ 1 (.slice A' n c'))
  have kk : ∀ b, b ≠ w.heap.size + 1 → ((w2.setCell ⟨w.heap.size + 1, 0, none⟩ (.int .i64 id)).setCell ⟨w.heap.size + 1, 1, none⟩ (.slice A' n c')).heap[b]? = w2.heap[b]? := fun b hb => (Below.heap_setCell _ _ _ b hb).trans (Below.heap_setCell _ _ _ b hb)
  have F1 := qh (own_keep Hown.out (w' := (w2.setCell ⟨w.heap.size + 1, 0, none⟩ (.int .i64 id)).setCell ⟨w.heap.size + 1, 1, none⟩ (.slice A' n c')) (fun b hb => kk b (by have := (Hown.out.lt b hb).1; have : w1.drew.heap.size = w1.heap.size := rfl; omega)))
  have F2 := qh (((B1.out.drew.trans (HB2.out.mono B1.out.size)).setCell (p := ⟨w.heap.size + 1, 0, none⟩) (by simp) (.int .i64 id)).setCell (p := ⟨w.heap.size + 1, 1, none⟩) (by simp) (.slice A' n c'))
  clear kk
  generalize (w2.setCell ⟨w.heap.size + 1, 0, none⟩ (.int .i64 id)).setCell ⟨w.heap.size + 1, 1, none⟩ (.slice A' n c') = w3 at EP EQ F1 F2 ⊢
  ((try dsimp only); refine nxK hK _ _ (⟨EP.out.cell 0, EP.out.cell 1⟩) ?_; clear hK K; (try simp only [Act.put,pS,pZ,pC]))
  refine wpMix_nil ?_
  have z0 : w3.cell? ⟨w.heap.size + 1, 0, none⟩ = some (.int .i64 id) := EQ.out.cell 0
  have z1 : w3.cell? ⟨w.heap.size + 1, 1, none⟩ = some (.slice A' n c') := EQ.out.cell 1
  go_wp2
  refine bodyPost_ret (v := .agg #[.int .i64 id, .slice A' n c']) (by simp [results, Tryz.results66, go_sem, z0, z1]) rfl ⟨A', c', rfl, ?_, F2.out⟩
  refine ⟨F1.out.1, F1.out.2.imp (fun h => h) ?_⟩
  rintro ⟨g, cap, cur, a, b, d⟩
  exact ⟨g, cap, cur, a, by have : w1.drew.heap.size = w1.heap.size := rfl; omega, d⟩
end Go.Proofs.YtlcgbnmmbheleaaGreat

namespace Go.Proofs.YtlcgbnmmbheleaaGreat
set_option linter.unusedSimpArgs false
set_option linter.unusedVariables false
open Go Go.RowKit
section
variable {P : Program}
theorem run_copy_rowS (w : World) (dT sT ty elem : TypeId) (s : Nat) (g o dLen dCap : Nat) (a : Addr) (sLen sCap : Nat) (cur : Array Value) (t : TypeId) (cs : List Value)
    (hu : P.underlying dT = some (.slice elem)) (hs : (P.info? elem).map (·.size) = some s)
    (hg : w.heap[g]? = some (.cells cur t (0, 0))) (hn : cs.length = Nat.min sLen dLen * s)
    (hsrc : ∀ j v, cs[j]? = some v → w.cell? (a.add j) = some v) (hfit : o + cs.length ≤ cur.size) (h1 : ∀ v ∈ cs, v.oneCell' = true) :
    (Builtin.copy_ #[dT, sT] ty #[.slice (some ⟨g, o, none⟩) dLen dCap, .slice (some a) sLen sCap]).run P w =
      .ok (goInt (Nat.min sLen dLen)) (w.setRow g (cur.toList.take o ++ cs ++ cur.toList.drop (o + cs.length)).toArray) := by
  have hl := run_loadCells_list (P := P) w a cs hsrc
  have hst := run_storeCells_at P g o t cs 0 cur w hg (by simpa using hfit) h1
  cases hq : P.info? elem with
  | none => simp [hq] at hs
  | some i =>
    have hi : i.size = s := by simpa [hq] using hs
    rw [hn] at hl
    simp [Builtin.copy_, run_underlying hu, Builtin.lenOf, Builtin.firstCells, sizeOf, typeInfo, hq, hi, hl, hst]
theorem step_copy_rowS {ops : Array Oper} {o : Oper} {a : Act} {w : World} {K : Act → World → Prop} {Q : Exit → Act → World → Prop} {E : Prop} (hgd : o.guard = none) (d s : Operand) (dT sT : TypeId)
    (ho : o.op = .call { callee := .builtin .copy, args := #[d, s], argTypes := #[dT, sT] }) (elem : TypeId) (sz : Nat) (hu : P.underlying dT = some (.slice elem)) (hsz : (P.info? elem).map (·.size) = some sz)
    (g off dLen dCap : Nat) (ad : Addr) (sLen sCap : Nat) (hd : a.eval d = .slice (some ⟨g, off, none⟩) dLen dCap) (hs : a.eval s = .slice (some ad) sLen sCap)
    (cur : List Value) (t : TypeId) (hg : w.heap[g]? = some (.cells cur.toArray t (0, 0))) (cs : List Value) (hn : cs.length = Nat.min sLen dLen * sz)
    (hsrc : ∀ j v, cs[j]? = some v → w.cell? (ad.add j) = some v) (hfit : off + cs.length ≤ cur.length) (h1 : ∀ v ∈ cs, v.oneCell' = true)
    (h : ∀ w', Hid (w'.heap[g]? = some (.cells (splice cur off cs).toArray t (0, 0))) → (∀ b, b ≠ g → w'.heap[b]? = w.heap[b]?) → (∀ (B : Nat) (w0 : World), B ≤ g → Below B w0 w → Below B w0 w') → K (a.put o.dst (goInt (Nat.min sLen dLen))) w') :
    if Region.wanted o (yielded ops a.tmps) = true then Oper.wp P o a w K Q else E := by
  have hw : Region.wanted o (yielded ops a.tmps) = true := by simp [Region.wanted, hgd]
  rw [if_pos hw]
  have hrun := run_copy_rowS (P := P) w dT sT o.type elem sz g off dLen dCap ad sLen sCap cur.toArray t cs hu hsz hg hn hsrc (by simpa using hfit) h1
  unfold Oper.wp
  simp only [List.append_assoc] at hrun
  simp [execOp, ho, resolve, invoke, builtin, hd, hs, hrun, Result.andThen, Oper.upon]
  have hh := h (w.setRow g (cur.toArray.toList.take off ++ (cs ++ cur.toArray.toList.drop (off + cs.length))).toArray) (show _ = _ by simpa [splice] using setRow_heap w g _ _ t _ hg) (fun b hb => setRow_other w g b _ hb) (fun B w0 hB hb => below_setRow hb hB _)
  simpa [goInt] using hh
end
theorem unit_size : (Tryz.prog.info? 32).map (·.size) = some 2 := by kernel_rfl
end Go.Proofs.YtlcgbnmmbheleaaGreat
