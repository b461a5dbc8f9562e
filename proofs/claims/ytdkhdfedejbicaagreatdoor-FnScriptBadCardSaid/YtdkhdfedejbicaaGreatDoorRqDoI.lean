/- Walks: RequestDo of the program. -/
import Derived.Test.YtdkhdfedejbicaaGreatDoorJ16
import Derived.Test.YtdkhdfedejbicaaGreatDoorDone
namespace Go.Proofs.YtdkhdfedejbicaaGreatDoor
set_option linter.unusedSimpArgs false
set_option linter.unusedVariables false
open Go Go.RowKit Go.MuLone
attribute [local go_sem ↓] Go.wp_at_zero Go.wp_at_succ

section
variable {P : Program} {w : World} {ops : Array Oper} {rest : List Oper} {o : Oper} {a : Act} {Q : Exit → Act → World → Prop}
theorem wpList_insert (hg : o.guard = none) (m x u : Operand) (t : TypeId) (hop : o.op = Op.insert t m x u) (k e : TypeId) (ht : P.underlying t = some (.map k e)) (hk : P.underlying k = some (.int .i64))
    (b : Nat) (l : List (Int × Value)) (hm : a.eval m = .map (some b)) (him : IMap w b l) (q : Int) (v : Value) (hx : a.eval x = .int .i64 q) (hv : a.eval u = v) (hn : lookL l q = none)
    (h : ∀ w', IMap w' b (l ++ [(q, v)]) → w.grownBy w' (some b) → wpList P ops Q rest (a.put o.dst undef) w') : wpList P ops Q (o :: rest) a w := by
  refine wpList_plain hg fun K' hK' => ?_
  obtain ⟨w', hrun, r1, r2⟩ := him.put (P := P) ht hk q v hn
  unfold Oper.wp
  simp [execOp, hop, hm, hx, hv, hrun, Result.andThen]
  exact hK' _ _ (h w' r1 r2)
end

abbrev fv (K : FuncId) : Value := .func (.func K) #[] #[]
theorem grow_new {w w1 w2 : World} {b : Nat} (h : Below w.heap.size w w1) (hg : w1.grownBy w2 (some b)) (hb : w.heap.size ≤ b) : Below w.heap.size w w2 := h.grown hg h.size (by intro k e; injection e with e; omega)

set_option maxRecDepth 100000 in
set_option maxHeartbeats 1600000 in
theorem rqDo1_any (base hb gp : Nat) (A1 A3 : Option Addr) (n1 c1 n n3 c3 : Nat) (room : List Int) (us : List Un) (r : Rq) (w : World) (h : HostR w base hb 0 A1 n1 c1 n room us) (hok : clOk room us = true) (hx : RdI w w.heap.size A3 n3 r.xs) (hc3 : n3 ≤ c3) (hp : Blk w gp 77 (rqC r A3 n3 c3)) :
    Calls Tryz.prog 68 #[.pointer (some ⟨hb, 0, none⟩), .pointer (some ⟨gp, 0, none⟩)] w fun e w' => e = .returned (.int .i64 (reqP room us r).2.2) ∧ HostP w' hb A1 n1 c1 n room (reqP room us r).2.1 ∧ Below base w w' := by
  obtain ⟨vs, zs, tk, X⟩ := h
  have hbz : base ≤ w.heap.size := by have := X.ge; have := X.blk.lt; omega
  have HX := qh X
  have Hx := qh hx
  have Hp := qh hp
  have Hok := qh hok
  have p0 := hp.cell 0
  have p1 := hp.cell 1
  have p2 := hp.cell 2
  have p3 := hp.cell 3
  have p4 := hp.cell 4
  simp only [gT, gZ, gS] at p0 p1 p2 p3 p4
  clear X hx hp hok
  go_enter Tryz.func68, Tryz.ntmps68
  go_wp2_with fail
  clear p0 p1 p2 p3 p4
  refine (requestValid_any r A3 n3 c3 w Hx.out).mono ?_; rintro e w2 ⟨rfl, hb2⟩
  have X2 := qh (HX.out.up hb2)
  have R2 := qh (Hx.out.up hb2)
  have P2 := qh (Hp.out.below hb2 Hp.out.lt)
  have B2 := qh (hb2.mono hbz)
  have lz2 : base ≤ w2.heap.size := Nat.le_trans hbz hb2.size
  clear HX Hx Hp hb2
  cases hv : rqOk r with
  | false =>
    have Hv := qh hv
    clear hv
    go_wp2_with fail
    go_ret
    have e : reqP room us r = (room, us, 1) := by unfold reqP; rw [if_pos Hok.out, if_neg (by rw [Hv.out]; simp)]
    rw [e]
    exact ⟨rfl, X2.out.post, B2.out⟩
  | true =>
    have Hv := qh hv
    clear hv
    have hmm := @run_makeMap Tryz.prog
    have M3 := qh (IMap.made w2)
    have X3 := qh (show ∀ W, Below w2.heap.size w2 W → HostR W base hb 0 A1 n1 c1 n room us from fun W hW => ⟨vs, zs, tk, X2.out.up hW⟩)
    have hzf : ∀ w, ∃ z, (zeroValue 102).run Tryz.prog w = .ok z w := fun w => ⟨_, Tryz.zeroValue102 w⟩
    obtain ⟨kind, id, xs, grant, num⟩ := r
    dsimp only [rqV, rqC] at *
    rcases rq_kind Hv.out with k0 | k0 | k0 | k0 | k0
    · dsimp only at k0
      subst k0
      go_wp2_with (first
        | (at_lookup; obtain ⟨z, hz⟩ := hzf w5'; refine wpList_look rfl _ _ 104 rfl 3 102 Tryz.underlying104 Tryz.underlying3 z hz w2.heap.size [(1, fv 70), (2, fv 71), (3, fv 72), (4, fv 73), (5, fv 74)] rfl m5 1 rfl (fv 70) rfl ?_)
        | (refine wpList_insert rfl _ _ _ 104 rfl 3 102 Tryz.underlying104 Tryz.underlying3 w2.heap.size [] rfl M3.out 1 (fv 70) rfl rfl rfl ?_; intro w1' m1 g1; refine wpList_insert rfl _ _ _ 104 rfl 3 102 Tryz.underlying104 Tryz.underlying3 w2.heap.size [(1, fv 70)] rfl m1 2 (fv 71) rfl rfl rfl ?_; intro w2' m2 g2; refine wpList_insert rfl _ _ _ 104 rfl 3 102 Tryz.underlying104 Tryz.underlying3 w2.heap.size [(1, fv 70), (2, fv 71)] rfl m2 3 (fv 72) rfl rfl rfl ?_; intro w3' m3 g3; refine wpList_insert rfl _ _ _ 104 rfl 3 102 Tryz.underlying104 Tryz.underlying3 w2.heap.size [(1, fv 70), (2, fv 71), (3, fv 72)] rfl m3 4 (fv 73) rfl rfl rfl ?_; intro w4' m4 g4; refine wpList_insert rfl _ _ _ 104 rfl 3 102 Tryz.underlying104 Tryz.underlying3 w2.heap.size [(1, fv 70), (2, fv 71), (3, fv 72), (4, fv 73)] rfl m4 5 (fv 74) rfl rfl rfl ?_; intro w5' m5 g5; have U5 := qh (grow_new (grow_new (grow_new (grow_new (grow_new (alloc_up w2 (.map #[] 0)) g1 (Nat.le_refl _)) g2 (Nat.le_refl _)) g3 (Nat.le_refl _)) g4 (Nat.le_refl _)) g5 (Nat.le_refl _)); have P5 := qh (P2.out.below U5.out P2.out.lt); have p0 := P5.out.cell 0; have p1 := P5.out.cell 1; have p2 := P5.out.cell 2; have p3 := P5.out.cell 3; have p4 := P5.out.cell 4; simp only [gT, gZ, gS] at p0 p1 p2 p3 p4; clear g1 g2 g3 g4 g5 m1 m2 m3 m4))
      have l5 : base ≤ w5'.heap.size := Nat.le_trans lz2 U5.out.size
      refine (rqArrive_any base hb A1 A3 n1 c1 n n3 c3 room us ⟨1, id, xs, grant, num⟩ w5' (X3.out _ U5.out) l5 Hok.out (R2.out.up U5.out) hc3).mono ?_; rintro e w6 ⟨rfl, hp6, hb6⟩
      have e : reqP room us ⟨1, id, xs, grant, num⟩ = cavP room us id xs grant := by unfold reqP; rw [if_pos Hok.out, if_pos Hv.out]; rfl
      have H6 := qh hp6
      have B6 := qh ((B2.out.trans (U5.out.mono lz2)).trans hb6)
      clear p0 p1 p2 p3 p4 hp6 hb6
      have He := qh e
      clear e
      dsimp only at H6 ⊢
      go_wp2_with fail
      go_ret
      exact ⟨by rw [He.out]; rfl, by rw [He.out]; exact H6.out, B6.out⟩
    · dsimp only at k0
      subst k0
      go_wp2_with (first
        | (at_lookup; obtain ⟨z, hz⟩ := hzf w5'; refine wpList_look rfl _ _ 104 rfl 3 102 Tryz.underlying104 Tryz.underlying3 z hz w2.heap.size [(1, fv 70), (2, fv 71), (3, fv 72), (4, fv 73), (5, fv 74)] rfl m5 2 rfl (fv 71) rfl ?_)
        | (refine wpList_insert rfl _ _ _ 104 rfl 3 102 Tryz.underlying104 Tryz.underlying3 w2.heap.size [] rfl M3.out 1 (fv 70) rfl rfl rfl ?_; intro w1' m1 g1; refine wpList_insert rfl _ _ _ 104 rfl 3 102 Tryz.underlying104 Tryz.underlying3 w2.heap.size [(1, fv 70)] rfl m1 2 (fv 71) rfl rfl rfl ?_; intro w2' m2 g2; refine wpList_insert rfl _ _ _ 104 rfl 3 102 Tryz.underlying104 Tryz.underlying3 w2.heap.size [(1, fv 70), (2, fv 71)] rfl m2 3 (fv 72) rfl rfl rfl ?_; intro w3' m3 g3; refine wpList_insert rfl _ _ _ 104 rfl 3 102 Tryz.underlying104 Tryz.underlying3 w2.heap.size [(1, fv 70), (2, fv 71), (3, fv 72)] rfl m3 4 (fv 73) rfl rfl rfl ?_; intro w4' m4 g4; refine wpList_insert rfl _ _ _ 104 rfl 3 102 Tryz.underlying104 Tryz.underlying3 w2.heap.size [(1, fv 70), (2, fv 71), (3, fv 72), (4, fv 73)] rfl m4 5 (fv 74) rfl rfl rfl ?_; intro w5' m5 g5; have U5 := qh (grow_new (grow_new (grow_new (grow_new (grow_new (alloc_up w2 (.map #[] 0)) g1 (Nat.le_refl _)) g2 (Nat.le_refl _)) g3 (Nat.le_refl _)) g4 (Nat.le_refl _)) g5 (Nat.le_refl _)); have P5 := qh (P2.out.below U5.out P2.out.lt); have p0 := P5.out.cell 0; have p1 := P5.out.cell 1; have p2 := P5.out.cell 2; have p3 := P5.out.cell 3; have p4 := P5.out.cell 4; simp only [gT, gZ, gS] at p0 p1 p2 p3 p4; clear g1 g2 g3 g4 g5 m1 m2 m3 m4))
      have l5 : base ≤ w5'.heap.size := Nat.le_trans lz2 U5.out.size
      refine (rqDepart_any base hb A1 A3 n1 c1 n n3 c3 room us ⟨2, id, xs, grant, num⟩ w5' (X3.out _ U5.out) l5 Hok.out (R2.out.up U5.out) hc3).mono ?_; rintro e w6 ⟨rfl, hp6, hb6⟩
      have e : reqP room us ⟨2, id, xs, grant, num⟩ = depP room us num := by unfold reqP; rw [if_pos Hok.out, if_pos Hv.out]; rfl
      have H6 := qh hp6
      have B6 := qh ((B2.out.trans (U5.out.mono lz2)).trans hb6)
      clear p0 p1 p2 p3 p4 hp6 hb6
      have He := qh e
      clear e
      dsimp only at H6 ⊢
      go_wp2_with fail
      go_ret
      exact ⟨by rw [He.out]; rfl, by rw [He.out]; exact H6.out, B6.out⟩
    · dsimp only at k0
      subst k0
      go_wp2_with (first
        | (at_lookup; obtain ⟨z, hz⟩ := hzf w5'; refine wpList_look rfl _ _ 104 rfl 3 102 Tryz.underlying104 Tryz.underlying3 z hz w2.heap.size [(1, fv 70), (2, fv 71), (3, fv 72), (4, fv 73), (5, fv 74)] rfl m5 3 rfl (fv 72) rfl ?_)
        | (refine wpList_insert rfl _ _ _ 104 rfl 3 102 Tryz.underlying104 Tryz.underlying3 w2.heap.size [] rfl M3.out 1 (fv 70) rfl rfl rfl ?_; intro w1' m1 g1; refine wpList_insert rfl _ _ _ 104 rfl 3 102 Tryz.underlying104 Tryz.underlying3 w2.heap.size [(1, fv 70)] rfl m1 2 (fv 71) rfl rfl rfl ?_; intro w2' m2 g2; refine wpList_insert rfl _ _ _ 104 rfl 3 102 Tryz.underlying104 Tryz.underlying3 w2.heap.size [(1, fv 70), (2, fv 71)] rfl m2 3 (fv 72) rfl rfl rfl ?_; intro w3' m3 g3; refine wpList_insert rfl _ _ _ 104 rfl 3 102 Tryz.underlying104 Tryz.underlying3 w2.heap.size [(1, fv 70), (2, fv 71), (3, fv 72)] rfl m3 4 (fv 73) rfl rfl rfl ?_; intro w4' m4 g4; refine wpList_insert rfl _ _ _ 104 rfl 3 102 Tryz.underlying104 Tryz.underlying3 w2.heap.size [(1, fv 70), (2, fv 71), (3, fv 72), (4, fv 73)] rfl m4 5 (fv 74) rfl rfl rfl ?_; intro w5' m5 g5; have U5 := qh (grow_new (grow_new (grow_new (grow_new (grow_new (alloc_up w2 (.map #[] 0)) g1 (Nat.le_refl _)) g2 (Nat.le_refl _)) g3 (Nat.le_refl _)) g4 (Nat.le_refl _)) g5 (Nat.le_refl _)); have P5 := qh (P2.out.below U5.out P2.out.lt); have p0 := P5.out.cell 0; have p1 := P5.out.cell 1; have p2 := P5.out.cell 2; have p3 := P5.out.cell 3; have p4 := P5.out.cell 4; simp only [gT, gZ, gS] at p0 p1 p2 p3 p4; clear g1 g2 g3 g4 g5 m1 m2 m3 m4))
      have l5 : base ≤ w5'.heap.size := Nat.le_trans lz2 U5.out.size
      refine (rqOpen_any base hb A1 A3 n1 c1 n n3 c3 room us ⟨3, id, xs, grant, num⟩ w5' (X3.out _ U5.out) l5 Hok.out (R2.out.up U5.out) hc3).mono ?_; rintro e w6 ⟨rfl, hp6, hb6⟩
      have e : reqP room us ⟨3, id, xs, grant, num⟩ = opnP room us num true := by unfold reqP; rw [if_pos Hok.out, if_pos Hv.out]; rfl
      have H6 := qh hp6
      have B6 := qh ((B2.out.trans (U5.out.mono lz2)).trans hb6)
      clear p0 p1 p2 p3 p4 hp6 hb6
      have He := qh e
      clear e
      dsimp only at H6 ⊢
      go_wp2_with fail
      go_ret
      exact ⟨by rw [He.out]; rfl, by rw [He.out]; exact H6.out, B6.out⟩
    · dsimp only at k0
      subst k0
      go_wp2_with (first
        | (at_lookup; obtain ⟨z, hz⟩ := hzf w5'; refine wpList_look rfl _ _ 104 rfl 3 102 Tryz.underlying104 Tryz.underlying3 z hz w2.heap.size [(1, fv 70), (2, fv 71), (3, fv 72), (4, fv 73), (5, fv 74)] rfl m5 4 rfl (fv 73) rfl ?_)
        | (refine wpList_insert rfl _ _ _ 104 rfl 3 102 Tryz.underlying104 Tryz.underlying3 w2.heap.size [] rfl M3.out 1 (fv 70) rfl rfl rfl ?_; intro w1' m1 g1; refine wpList_insert rfl _ _ _ 104 rfl 3 102 Tryz.underlying104 Tryz.underlying3 w2.heap.size [(1, fv 70)] rfl m1 2 (fv 71) rfl rfl rfl ?_; intro w2' m2 g2; refine wpList_insert rfl _ _ _ 104 rfl 3 102 Tryz.underlying104 Tryz.underlying3 w2.heap.size [(1, fv 70), (2, fv 71)] rfl m2 3 (fv 72) rfl rfl rfl ?_; intro w3' m3 g3; refine wpList_insert rfl _ _ _ 104 rfl 3 102 Tryz.underlying104 Tryz.underlying3 w2.heap.size [(1, fv 70), (2, fv 71), (3, fv 72)] rfl m3 4 (fv 73) rfl rfl rfl ?_; intro w4' m4 g4; refine wpList_insert rfl _ _ _ 104 rfl 3 102 Tryz.underlying104 Tryz.underlying3 w2.heap.size [(1, fv 70), (2, fv 71), (3, fv 72), (4, fv 73)] rfl m4 5 (fv 74) rfl rfl rfl ?_; intro w5' m5 g5; have U5 := qh (grow_new (grow_new (grow_new (grow_new (grow_new (alloc_up w2 (.map #[] 0)) g1 (Nat.le_refl _)) g2 (Nat.le_refl _)) g3 (Nat.le_refl _)) g4 (Nat.le_refl _)) g5 (Nat.le_refl _)); have P5 := qh (P2.out.below U5.out P2.out.lt); have p0 := P5.out.cell 0; have p1 := P5.out.cell 1; have p2 := P5.out.cell 2; have p3 := P5.out.cell 3; have p4 := P5.out.cell 4; simp only [gT, gZ, gS] at p0 p1 p2 p3 p4; clear g1 g2 g3 g4 g5 m1 m2 m3 m4))
      have l5 : base ≤ w5'.heap.size := Nat.le_trans lz2 U5.out.size
      refine (rqClose_any base hb A1 A3 n1 c1 n n3 c3 room us ⟨4, id, xs, grant, num⟩ w5' (X3.out _ U5.out) l5 Hok.out (R2.out.up U5.out) hc3).mono ?_; rintro e w6 ⟨rfl, hp6, hb6⟩
      have e : reqP room us ⟨4, id, xs, grant, num⟩ = opnP room us num false := by unfold reqP; rw [if_pos Hok.out, if_pos Hv.out]; rfl
      have H6 := qh hp6
      have B6 := qh ((B2.out.trans (U5.out.mono lz2)).trans hb6)
      clear p0 p1 p2 p3 p4 hp6 hb6
      have He := qh e
      clear e
      dsimp only at H6 ⊢
      go_wp2_with fail
      go_ret
      exact ⟨by rw [He.out]; rfl, by rw [He.out]; exact H6.out, B6.out⟩
    · dsimp only at k0
      subst k0
      go_wp2_with (first
        | (at_lookup; obtain ⟨z, hz⟩ := hzf w5'; refine wpList_look rfl _ _ 104 rfl 3 102 Tryz.underlying104 Tryz.underlying3 z hz w2.heap.size [(1, fv 70), (2, fv 71), (3, fv 72), (4, fv 73), (5, fv 74)] rfl m5 5 rfl (fv 74) rfl ?_)
        | (refine wpList_insert rfl _ _ _ 104 rfl 3 102 Tryz.underlying104 Tryz.underlying3 w2.heap.size [] rfl M3.out 1 (fv 70) rfl rfl rfl ?_; intro w1' m1 g1; refine wpList_insert rfl _ _ _ 104 rfl 3 102 Tryz.underlying104 Tryz.underlying3 w2.heap.size [(1, fv 70)] rfl m1 2 (fv 71) rfl rfl rfl ?_; intro w2' m2 g2; refine wpList_insert rfl _ _ _ 104 rfl 3 102 Tryz.underlying104 Tryz.underlying3 w2.heap.size [(1, fv 70), (2, fv 71)] rfl m2 3 (fv 72) rfl rfl rfl ?_; intro w3' m3 g3; refine wpList_insert rfl _ _ _ 104 rfl 3 102 Tryz.underlying104 Tryz.underlying3 w2.heap.size [(1, fv 70), (2, fv 71), (3, fv 72)] rfl m3 4 (fv 73) rfl rfl rfl ?_; intro w4' m4 g4; refine wpList_insert rfl _ _ _ 104 rfl 3 102 Tryz.underlying104 Tryz.underlying3 w2.heap.size [(1, fv 70), (2, fv 71), (3, fv 72), (4, fv 73)] rfl m4 5 (fv 74) rfl rfl rfl ?_; intro w5' m5 g5; have U5 := qh (grow_new (grow_new (grow_new (grow_new (grow_new (alloc_up w2 (.map #[] 0)) g1 (Nat.le_refl _)) g2 (Nat.le_refl _)) g3 (Nat.le_refl _)) g4 (Nat.le_refl _)) g5 (Nat.le_refl _)); have P5 := qh (P2.out.below U5.out P2.out.lt); have p0 := P5.out.cell 0; have p1 := P5.out.cell 1; have p2 := P5.out.cell 2; have p3 := P5.out.cell 3; have p4 := P5.out.cell 4; simp only [gT, gZ, gS] at p0 p1 p2 p3 p4; clear g1 g2 g3 g4 g5 m1 m2 m3 m4))
      have l5 : base ≤ w5'.heap.size := Nat.le_trans lz2 U5.out.size
      have hin : inR 0 20 num = true := by
        have h := Hv.out
        simp [rqOk, bareOk] at h
        exact h.2
      refine (rqGather_any base hb A1 A3 n1 c1 n n3 c3 room us ⟨5, id, xs, grant, num⟩ w5' (X3.out _ U5.out) l5 Hok.out hin).mono ?_; rintro e w6 ⟨rfl, hp6, hb6⟩
      have e : reqP room us ⟨5, id, xs, grant, num⟩ = (room, gatherU room us num, 0) := by unfold reqP; rw [if_pos Hok.out, if_pos Hv.out]; rfl
      have H6 := qh hp6
      have B6 := qh ((B2.out.trans (U5.out.mono lz2)).trans hb6)
      clear p0 p1 p2 p3 p4 hp6 hb6
      have He := qh e
      clear e
      dsimp only at H6 ⊢
      go_wp2_with fail
      go_ret
      exact ⟨by rw [He.out]; rfl, by rw [He.out]; exact H6.out, B6.out⟩

set_option maxRecDepth 100000 in
set_option maxHeartbeats 1600000 in
theorem requestDoI_any (A1 A2 A3 : Option Addr) (n1 c1 n2 c2 n3 c3 : Nat) (room : List Int) (us : List Un) (r : Rq) (w : World) (h : RdC w A1 A2 n1 n2 room us) (hs : ShV us) (hx : RdI w w.heap.size A3 n3 r.xs) (hc3 : n3 ≤ c3) :
    Calls Tryz.prog 44 #[.agg #[.slice A1 n1 c1, .slice A2 n2 c2], rqV r A3 n3 c3] w fun e w' => ∃ A4 m4 c4 A5 m5 c5, e = .returned (.tuple #[.agg #[.slice A4 m4 c4, .slice A5 m5 c5], .int .i64 (reqP room us r).2.2]) ∧ OwnC w' w.heap.size (.slice A4 m4 c4) (.slice A5 m5 c5) m4 m5 (reqP room us r).1 (reqP room us r).2.1 ∧ Below w.heap.size w w' := by
  have sz0 : (w.alloc (.cells #[.slice A1 n1 c1, .slice A2 n2 c2] 35)).heap.size = w.heap.size + 1 := World.size_alloc _ _
  have sz1 : ((w.alloc (.cells #[.slice A1 n1 c1, .slice A2 n2 c2] 35)).alloc (.cells (rqC r A3 n3 c3) 77)).heap.size = w.heap.size + 2 := by rw [World.size_alloc, sz0]
  have P1 := qh (((Blk.new w 35 #[.slice A1 n1 c1, .slice A2 n2 c2]).alloc (.cells (rqC r A3 n3 c3) 77)).alloc (.cells #[.slice none 0 0, .slice none 0 0] 35))
  have hq1 := (Blk.new (w.alloc (.cells #[.slice A1 n1 c1, .slice A2 n2 c2] 35)) 77 (rqC r A3 n3 c3)).alloc (.cells #[.slice none 0 0, .slice none 0 0] 35)
  rw [sz0] at hq1
  have Q1 := qh hq1
  have hZ := Blk.new ((w.alloc (.cells #[.slice A1 n1 c1, .slice A2 n2 c2] 35)).alloc (.cells (rqC r A3 n3 c3) 77)) 35 #[.slice none 0 0, .slice none 0 0]
  rw [sz1] at hZ
  have Z1 := qh hZ
  have B1 := qh (((alloc_up w (.cells #[.slice A1 n1 c1, .slice A2 n2 c2] 35)).alloc (by rw [sz0]; omega) (.cells (rqC r A3 n3 c3) 77)).alloc (by rw [sz1]; omega) (.cells #[.slice none 0 0, .slice none 0 0] 35))
  have H1 := qh (h.up B1.out)
  have X1 := qh (hx.up B1.out)
  clear h hx hZ hq1 sz0 sz1
  go_enter Tryz.func44, Tryz.ntmps44
  have x0 := P1.out.cell 0
  have x1 := P1.out.cell 1
  simp only [gT, gZ, gS] at x0 x1
  go_wp2_with fail
  clear x0 x1
  generalize hgb : w.heap.size = gb at P1 Q1 Z1 ⊢
  generalize (((w.alloc (.cells #[.slice A1 n1 c1, .slice A2 n2 c2] 35)).alloc (.cells (rqC r A3 n3 c3) 77)).alloc (.cells #[.slice none 0 0, .slice none 0 0] 35)) = w1 at B1 P1 Q1 Z1 H1 X1 ⊢
  have lz1 := Z1.out.lt
  have lq1 := Q1.out.lt
  refine (done_any 68 #[.pointer (some ⟨gb + 1, 0, none⟩)] A1 A2 n1 c1 n2 c2 room us (reqP room us r) w1 H1.out hs (enters_of Tryz.func68 (by kernel_rfl) rfl) req_bad (fun hok => ⟨(req_facts hok).1, (req_facts hok).2.1⟩) (fun hok W base hb A4 c4 hW hH => rqDo1_any base hb (gb + 1) A4 A3 n1 c4 n2 n3 c3 room us r W hH hok (X1.out.up hW) hc3 (Q1.out.below hW lq1))).mono ?_
  rintro e w2 ⟨A4, m4, c4, A5, m5, c5, rfl, hoc, hb2⟩
  have B2 := qh (below_to B1.out hb2)
  have Z2 := qh (Z1.out.below hb2 Z1.out.lt)
  have O2 := qh (hoc.low B1.out.size)
  clear hoc hb2
  have y0 := Z2.out.cell 0
  have y1 := Z2.out.cell 1
  simp only [gT, gZ, gS] at y0 y1
  have y2 := Z2.out.frozen 0
  have y3 := Z2.out.frozen 1
  go_wp2_with fail
  have KT := qh ((KeepTU.set_ Z2.out (by decide) (by decide) (by decide) 0 (.slice A4 m4 c4)).trans (KeepTU.set_ (Z2.out.set_ 0 (.slice A4 m4 c4)) (by decide) (by decide) (by decide) 1 (.slice A5 m5 c5)))
  have EQ := qh ((Z2.out.set_ 0 (.slice A4 m4 c4)).set_ 1 (.slice A5 m5 c5))
  have B9 := qh ((B2.out.setCell (p := ⟨gb + 2, 0, none⟩) (by show w.heap.size ≤ gb + 2; omega) (.slice A4 m4 c4)).setCell (p := ⟨gb + 2, 1, none⟩) (by show w.heap.size ≤ gb + 2; omega) (.slice A5 m5 c5))
  clear y0 y1 y2 y3
  generalize (w2.setCell ⟨gb + 2, 0, none⟩ (.slice A4 m4 c4)).setCell ⟨gb + 2, 1, none⟩ (.slice A5 m5 c5) = w9 at KT EQ B9 ⊢
  have z0 : w9.cell? ⟨gb + 2, 0, none⟩ = some (.slice A4 m4 c4) := EQ.out.cell 0
  have z1 : w9.cell? ⟨gb + 2, 1, none⟩ = some (.slice A5 m5 c5) := EQ.out.cell 1
  refine bodyPost_ret (v := .tuple #[.agg #[.slice A4 m4 c4, .slice A5 m5 c5], .int .i64 (reqP room us r).2.2]) (by simp [results, Tryz.results44, go_sem, z0, z1]) rfl ⟨A4, m4, c4, A5, m5, c5, rfl, O2.out.keepTU KT.out, B9.out⟩
end Go.Proofs.YtdkhdfedejbicaaGreatDoor
