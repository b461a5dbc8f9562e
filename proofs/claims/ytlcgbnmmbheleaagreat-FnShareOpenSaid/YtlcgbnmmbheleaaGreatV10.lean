/- Several texts in one. -/
import Derived.Test.YtlcgbnmmbheleaaGreatV7
import Derived.Test.YtlcgbnmmbheleaaGreatV9
import Derived.Conc.WgGenN3
namespace Go.Proofs.YtlcgbnmmbheleaaGreat
open Go Go.Conc Go.RowKit Go.Conc.Lib Go.ConcR.Gen Go.ConcN.Gen
open Go.ConcN (WgLive PayAt Has AtR0 RW DWs)
open Go.ConcR (KK WgAt stA smA rd wr mk DC0)
set_option linter.unusedVariables false
set_option linter.unusedSimpArgs false

def bC : Frame := baseD 48
noncomputable def bot : Frame := { (default : Frame) with fn := Tryz.prog.funcs.size, defers := [], mode := .panicking [goexitEntry] }
noncomputable def clBody : Code := Tryz.f48.body.getD .skip
noncomputable def clOps : Array Oper := match clBody with | .seq _ (.region _ ops _) => ops | _ => #[]
def clCall (K : Cw) (pu lv pi : Nat) : Deferred := { target := .fn (.func 48) #[.pointer (some ⟨K.Wg, 0, none⟩), .pointer (some ⟨pu, 0, none⟩), .pointer (some ⟨lv, 0, none⟩), .pointer (some ⟨pi, 0, none⟩)], args := #[] }
def clAct (K : Cw) (pu lv pi : Nat) (y4 y5 y6 y7 y8 y9 : Value) : Act :=
  ⟨#[.pointer (some ⟨K.Wg, 0, none⟩), .pointer (some ⟨pu, 0, none⟩), .pointer (some ⟨lv, 0, none⟩), .pointer (some ⟨pi, 0, none⟩), y4, y5, y6, y7, y8, y9], [dcall 49 #[.pointer (some ⟨K.Wg, 0, none⟩)]]⟩

def anaW : Ana := ⟨[50, 45, 46], [], [], []⟩
theorem anaW_good : anaW.good Tryz.prog = true := by kernel_rfl

structure HCl (K : Cw) (pu lv pi c : Nat) (A : Option Addr) (n cp : Nat) (ts : List Tk) (v : World) : Prop where
  lvc : v.cell? ⟨lv, 0, none⟩ = some (.slice (some ⟨K.C, 0, none⟩) K.n K.n)
  ic : v.cell? ⟨pi, 0, none⟩ = some (.int .i64 c)
  uc : v.cell? ⟨pu, 1, none⟩ = some (.slice A n cp)
  tk : RdT v v.heap.size A n ts
theorem HCl.rely {K : Cw} {pu lv pi c : Nat} {A : Option Addr} {n cp : Nat} {ts : List Tk} {v v₁ : World} (h : HCl K pu lv pi c A n cp ts v) (r : GR v v₁) : HCl K pu lv pi c A n cp ts v₁ :=
  ⟨(r.cell (cell_lt h.lvc)).trans h.lvc, (r.cell (cell_lt h.ic)).trans h.ic, (r.cell (cell_lt h.uc)).trans h.uc, h.tk.gr r⟩

theorem gv_op_k {P : Program} {mn : Bool} {A : Ana} {H : Nat → Prop} {B : Nat} {Stop : Goroutine → World → Prop} (hA : A.good P = true) {b : Frame} {a : Act} {k : List Item} {cs : List Frame} {v : World} {ops : Array Oper} {i : Nat} {rest : List Nat} {o : Oper} {n : Nat}
    (ho : ops[i]? = some o) (hw : Region.wanted o (yielded ops a.tmps) = true) (hk : b.kind ≠ .early) (hok : operOK P A b.fn o = true) (htr : ∀ t, A.tr b.fn t = [])
    (h : ∀ v₁, GR v v₁ → ∀ K' : Act → World → Prop, (∀ a' v', DG B v₁ v' (listed P b.fn a o v₁) ∧ GV P mn H B Stop n (G (b.at a' (.inRegion ops rest :: k)) cs) v' → K' a' v') → uponK o a K' ((execOp a.eval o).run P v₁)) :
    GV P mn H B Stop (n + 1) (G (b.at a (.inRegion ops (i :: rest) :: k)) cs) v := gv_op hA ho hw hk hok htr fun v₁ hr => h v₁ hr _ fun _ _ x => x

section
variable {K : Cw} {H : Nat → Prop} {B m : Nat} {Stop : Goroutine → World → Prop} {pu lv pi c n cp : Nat} {A : Option Addr} {ts : List Tk} {v : World} {y4 y5 y6 y7 y8 y9 : Value} {rest : List Nat}
set_option maxRecDepth 100000 in
theorem cl_op0 (hF : HCl K pu lv pi c A n cp ts v) (next : ∀ v', GR v v' → GV Tryz.prog false H B Stop m (G (bC.at (clAct K pu lv pi (.slice (some ⟨K.C, 0, none⟩) K.n K.n) y5 y6 y7 y8 y9) (.inRegion clOps (rest) :: [])) [bot]) v') :
    GV Tryz.prog false H B Stop (m + 1) (G (bC.at (clAct K pu lv pi y4 y5 y6 y7 y8 y9) (.inRegion clOps (0 :: rest) :: [])) [bot]) v := by
  simp only [clAct, clOps, clBody, Tryz.f48, Option.getD_some] at next ⊢
  refine gv_op_k (A := anaW) anaW_good rfl (by rfl) (by decide) (by kernel_rfl) (fun _ => rfl) (fun v₁ hr K' hK => ?_)
  have hc := (hF.rely hr).lvc
  go_simp
  refine hK _ _ ⟨?_, ?_⟩
  · exact DG.still _ (by co_evs (exact ⟨_, rfl, rfl, by simp⟩))
  · try walk_nrm
    exact next v₁ hr
set_option maxRecDepth 100000 in
theorem cl_op1 (hF : HCl K pu lv pi c A n cp ts v) (next : ∀ v', GR v v' → GV Tryz.prog false H B Stop m (G (bC.at (clAct K pu lv pi y4 (.int .i64 c) y6 y7 y8 y9) (.inRegion clOps (rest) :: [])) [bot]) v') :
    GV Tryz.prog false H B Stop (m + 1) (G (bC.at (clAct K pu lv pi y4 y5 y6 y7 y8 y9) (.inRegion clOps (1 :: rest) :: [])) [bot]) v := by
  simp only [clAct, clOps, clBody, Tryz.f48, Option.getD_some] at next ⊢
  refine gv_op_k (A := anaW) anaW_good rfl (by rfl) (by decide) (by kernel_rfl) (fun _ => rfl) (fun v₁ hr K' hK => ?_)
  have hc := (hF.rely hr).ic
  go_simp
  refine hK _ _ ⟨?_, ?_⟩
  · exact DG.still _ (by co_evs (exact ⟨_, rfl, rfl, by simp⟩))
  · try walk_nrm
    exact next v₁ hr
set_option maxRecDepth 100000 in
theorem cl_op2 (hF : HCl K pu lv pi c A n cp ts v) (next : ∀ v', GR v v' → GV Tryz.prog false H B Stop m (G (bC.at (clAct K pu lv pi y4 y5 (.pointer (some ⟨pu, 1, none⟩)) y7 y8 y9) (.inRegion clOps (rest) :: [])) [bot]) v') :
    GV Tryz.prog false H B Stop (m + 1) (G (bC.at (clAct K pu lv pi y4 y5 y6 y7 y8 y9) (.inRegion clOps (2 :: rest) :: [])) [bot]) v := by
  simp only [clAct, clOps, clBody, Tryz.f48, Option.getD_some] at next ⊢
  refine gv_op_k (A := anaW) anaW_good rfl (by rfl) (by decide) (by kernel_rfl) (fun _ => rfl) (fun v₁ hr K' hK => ?_)
  skip
  go_simp
  refine hK _ _ ⟨?_, ?_⟩
  · exact DG.still _ (by co_evs (exact ⟨_, rfl, rfl, by simp⟩))
  · try walk_nrm
    exact next v₁ hr
set_option maxRecDepth 100000 in
theorem cl_op3 (hF : HCl K pu lv pi c A n cp ts v) (next : ∀ v', GR v v' → GV Tryz.prog false H B Stop m (G (bC.at (clAct K pu lv pi y4 y5 (.pointer (some ⟨pu, 1, none⟩)) (.slice A n cp) y8 y9) (.inRegion clOps (rest) :: [])) [bot]) v') :
    GV Tryz.prog false H B Stop (m + 1) (G (bC.at (clAct K pu lv pi y4 y5 (.pointer (some ⟨pu, 1, none⟩)) y7 y8 y9) (.inRegion clOps (3 :: rest) :: [])) [bot]) v := by
  simp only [clAct, clOps, clBody, Tryz.f48, Option.getD_some] at next ⊢
  refine gv_op_k (A := anaW) anaW_good rfl (by rfl) (by decide) (by kernel_rfl) (fun _ => rfl) (fun v₁ hr K' hK => ?_)
  have hc := (hF.rely hr).uc
  go_simp
  refine hK _ _ ⟨?_, ?_⟩
  · exact DG.still _ (by co_evs (exact ⟨_, rfl, rfl, by simp⟩))
  · try walk_nrm
    exact next v₁ hr
set_option maxRecDepth 100000 in
theorem cl_op5 (hF : HCl K pu lv pi c A n cp ts v) (hcn : c < K.n) (next : ∀ v', GR v v' → GV Tryz.prog false H B Stop m (G (bC.at (clAct K pu lv pi (.slice (some ⟨K.C, 0, none⟩) K.n K.n) (.int .i64 c) y6 y7 y8 (.pointer (some ⟨K.C, c, none⟩))) (.inRegion clOps (rest) :: [])) [bot]) v') :
    GV Tryz.prog false H B Stop (m + 1) (G (bC.at (clAct K pu lv pi (.slice (some ⟨K.C, 0, none⟩) K.n K.n) (.int .i64 c) y6 y7 y8 y9) (.inRegion clOps (5 :: rest) :: [])) [bot]) v := by
  simp only [clAct, clOps, clBody, Tryz.f48, Option.getD_some] at next ⊢
  refine gv_op_k (A := anaW) anaW_good rfl (by rfl) (by decide) (by kernel_rfl) (fun _ => rfl) (fun v₁ hr K' hK => ?_)
  have k1 : (0 : Int) ≤ (c : Int) := by omega
  have k2 : (c : Int) < (K.n : Int) := by omega
  go_simp
  refine hK _ _ ⟨?_, ?_⟩
  · exact DG.still _ (by co_evs (exact ⟨_, rfl, rfl, by simp⟩))
  · try walk_nrm
    exact next v₁ hr
set_option maxRecDepth 100000 in
theorem cl_op4 (hB : B ≤ v.heap.size) (hn : n ≤ 900) (h3 : ∀ j, j < n → (ts[j]?.getD (0, [])).2.length = 3) (hb : ∀ j i : Nat, 0 ≤ (ts[j]?.getD (0, [])).2[i]?.getD 0 ∧ (ts[j]?.getD (0, [])).2[i]?.getD 0 ≤ 1000)
    {nf : Nat} (hcall : CallsC Tryz.prog false GR (DG B) 50 #[.slice A n cp] nf v fun r v' => ∃ A c, r = .slice A 3 c ∧ H1 v A (loadP ts) v')
    (next : ∀ r v', GR v v' → Fit (loadP ts) r v' → GV Tryz.prog false H B Stop m (G (bC.at (clAct K pu lv pi y4 y5 y6 (.slice A n cp) r y9) (.inRegion clOps (rest) :: [])) [bot]) v') :
    GV Tryz.prog false H B Stop (m + nf + 3) (G (bC.at (clAct K pu lv pi y4 y5 y6 (.slice A n cp) y8 y9) (.inRegion clOps (4 :: rest) :: [])) [bot]) v := by
  simp only [clAct, clOps, clBody, Tryz.f48, Option.getD_some] at next ⊢
  refine gv_call (A := anaW) anaW_good (f := 50) (Post := fun r v' => ∃ A c, r = .slice A 3 c ∧ H1 v A (loadP ts) v') (by kernel_rfl) (by kernel_rfl) rfl (by rfl) (by decide) rfl (by simpa [Act.eval] using hcall) (fun r v' hp => ?_)
  obtain ⟨A', c', rfl, h1⟩ := hp
  try walk_nrm
  exact next _ v' h1.gr ⟨A', c', rfl, h1.rd⟩
end

def sel (b : Bool) (v : Value) : Value := match b with | true => v | false => undef
theorem go_some {md : Region.Mode} {ops : Array Oper} {fuel t : Nat} {listed : Array Bool} {rs : List Nat} (hr : Region.ready md ops listed = rs) (hne : rs ≠ []) :
    ∃ i ∈ rs, ∃ t', Region.linearise.go md ops (fuel + 1) t listed [] = i :: Region.linearise.go md ops fuel t' (listed.setIfInBounds i true) [] := by
  have e : Region.linearise.go md ops (fuel + 1) t listed [] = match (Region.ready md ops listed)[t % (Region.ready md ops listed).length]? with
      | some i => Region.linearise.go md ops fuel (t / (Region.ready md ops listed).length) (listed.setIfInBounds i true) [i]
      | none => [].reverse := rfl
  rw [e, hr]
  have hlt : t % rs.length < rs.length := Nat.mod_lt _ (by cases rs with | nil => exact absurd rfl hne | cons _ _ => simp)
  rw [List.getElem?_eq_getElem hlt]
  exact ⟨_, List.getElem_mem hlt, t / rs.length, by show Region.linearise.go md ops fuel (t / rs.length) _ [_] = _; rw [linearise_go_acc]; rfl⟩

section
variable {K : Cw} {B nf : Nat} {pu lv pi c n cp : Nat} {A : Option Addr} {ts : List Tk}
set_option maxRecDepth 100000 in
theorem cl_any (hcn : c < K.n) (hld : K.ld c = loadP ts) (hn : n ≤ 900) (h3 : ∀ j, j < n → (ts[j]?.getD (0, [])).2.length = 3) (hb : ∀ j i : Nat, 0 ≤ (ts[j]?.getD (0, [])).2[i]?.getD 0 ∧ (ts[j]?.getD (0, [])).2[i]?.getD 0 ≤ 1000)
    (hcall : ∀ v : World, B ≤ v.heap.size → RdT v v.heap.size A n ts → CallsC Tryz.prog false GR (DG B) 50 #[.slice A n cp] nf v fun r v' => ∃ A c, r = .slice A 3 c ∧ H1 v A (loadP ts) v')
    {Stop : Goroutine → World → Prop} (hstop : ∀ r v, Fit (loadP ts) r v → Stop (G (bC.at (clAct K pu lv pi (.slice (some ⟨K.C, 0, none⟩) K.n K.n) (.int .i64 c) (.pointer (some ⟨pu, 1, none⟩)) (.slice A n cp) r (.pointer (some ⟨K.C, c, none⟩))) (.inRegion clOps [6] :: [])) [bot]) v) :
    ∀ (m : Nat) (x0 x1 x2 x3 x4 x5 : Bool) (r : Value) (t : Nat) (v : World), x0.toNat + x1.toNat + x2.toNat + x3.toNat + x4.toNat + x5.toNat + m = 6 → (x3 = true → x2 = true) → (x4 = true → x3 = true) → (x5 = true → x0 = true ∧ x1 = true ∧ x4 = true) →
      HCl K pu lv pi c A n cp ts v → B ≤ v.heap.size → (x4 = true → Fit (loadP ts) r v) →
      GV Tryz.prog false K.H B Stop (m * (nf + 3)) (G (bC.at (clAct K pu lv pi (sel x0 (.slice (some ⟨K.C, 0, none⟩) K.n K.n)) (sel x1 (.int .i64 c)) (sel x2 (.pointer (some ⟨pu, 1, none⟩))) (sel x3 (.slice A n cp)) (sel x4 r) (sel x5 (.pointer (some ⟨K.C, c, none⟩)))) (.inRegion clOps (Region.linearise.go .any clOps (m + 1) t #[x0, x1, x2, x3, x4, x5, false] []) :: [])) [bot]) v := by
  intro m
  induction m with
  | zero =>
    intro x0 x1 x2 x3 x4 x5 r t v hs h23 h34 h5 hF hB hf
    have z : x0 = true ∧ x1 = true ∧ x2 = true ∧ x3 = true ∧ x4 = true ∧ x5 = true := by
      cases x0 <;> cases x1 <;> cases x2 <;> cases x3 <;> cases x4 <;> cases x5 <;> simp at hs ⊢
    obtain ⟨rfl, rfl, rfl, rfl, rfl, rfl⟩ := z
    obtain ⟨i, hi, t', e⟩ := go_some (md := .any) (ops := clOps) (fuel := 0) (t := t) (listed := #[true, true, true, true, true, true, false]) (rs := [6]) (by kernel_rfl) (by simp)
    obtain rfl : i = 6 := by simpa using hi
    rw [e]
    exact GV.stop fun v₁ hr => hstop r v₁ ((hf rfl).gr hr)
  | succ m ih =>
    intro x0 x1 x2 x3 x4 x5 r t v hs h23 h34 h5 hF hB hf
    have hmul : (m + 1) * (nf + 3) = m * (nf + 3) + nf + 3 := by rw [Nat.succ_mul]; omega
    have one : ∀ {g : Goroutine} {v : World}, GV Tryz.prog false K.H B Stop (m * (nf + 3) + 1) g v → GV Tryz.prog false K.H B Stop ((m + 1) * (nf + 3)) g v := fun h => h.mono (by rw [hmul]; omega)
    have hcase : (x0 = false ∧ x1 = false ∧ x2 = false ∧ x3 = false ∧ x4 = false ∧ x5 = false) ∨ (x0 = false ∧ x1 = false ∧ x2 = true ∧ x3 = false ∧ x4 = false ∧ x5 = false) ∨ (x0 = false ∧ x1 = false ∧ x2 = true ∧ x3 = true ∧ x4 = false ∧ x5 = false) ∨ (x0 = false ∧ x1 = false ∧ x2 = true ∧ x3 = true ∧ x4 = true ∧ x5 = false) ∨ (x0 = true ∧ x1 = false ∧ x2 = false ∧ x3 = false ∧ x4 = false ∧ x5 = false) ∨ (x0 = true ∧ x1 = false ∧ x2 = true ∧ x3 = false ∧ x4 = false ∧ x5 = false) ∨ (x0 = true ∧ x1 = false ∧ x2 = true ∧ x3 = true ∧ x4 = false ∧ x5 = false) ∨ (x0 = true ∧ x1 = false ∧ x2 = true ∧ x3 = true ∧ x4 = true ∧ x5 = false) ∨ (x0 = false ∧ x1 = true ∧ x2 = false ∧ x3 = false ∧ x4 = false ∧ x5 = false) ∨ (x0 = false ∧ x1 = true ∧ x2 = true ∧ x3 = false ∧ x4 = false ∧ x5 = false) ∨ (x0 = false ∧ x1 = true ∧ x2 = true ∧ x3 = true ∧ x4 = false ∧ x5 = false) ∨ (x0 = false ∧ x1 = true ∧ x2 = true ∧ x3 = true ∧ x4 = true ∧ x5 = false) ∨ (x0 = true ∧ x1 = true ∧ x2 = false ∧ x3 = false ∧ x4 = false ∧ x5 = false) ∨ (x0 = true ∧ x1 = true ∧ x2 = true ∧ x3 = false ∧ x4 = false ∧ x5 = false) ∨ (x0 = true ∧ x1 = true ∧ x2 = true ∧ x3 = true ∧ x4 = false ∧ x5 = false) ∨ (x0 = true ∧ x1 = true ∧ x2 = true ∧ x3 = true ∧ x4 = true ∧ x5 = false) := by
      revert hs h23 h34 h5
      cases x0 <;> cases x1 <;> cases x2 <;> cases x3 <;> cases x4 <;> cases x5 <;> simp <;> omega
    rcases hcase with ⟨rfl, rfl, rfl, rfl, rfl, rfl⟩ | ⟨rfl, rfl, rfl, rfl, rfl, rfl⟩ | ⟨rfl, rfl, rfl, rfl, rfl, rfl⟩ | ⟨rfl, rfl, rfl, rfl, rfl, rfl⟩ | ⟨rfl, rfl, rfl, rfl, rfl, rfl⟩ | ⟨rfl, rfl, rfl, rfl, rfl, rfl⟩ | ⟨rfl, rfl, rfl, rfl, rfl, rfl⟩ | ⟨rfl, rfl, rfl, rfl, rfl, rfl⟩ | ⟨rfl, rfl, rfl, rfl, rfl, rfl⟩ | ⟨rfl, rfl, rfl, rfl, rfl, rfl⟩ | ⟨rfl, rfl, rfl, rfl, rfl, rfl⟩ | ⟨rfl, rfl, rfl, rfl, rfl, rfl⟩ | ⟨rfl, rfl, rfl, rfl, rfl, rfl⟩ | ⟨rfl, rfl, rfl, rfl, rfl, rfl⟩ | ⟨rfl, rfl, rfl, rfl, rfl, rfl⟩ | ⟨rfl, rfl, rfl, rfl, rfl, rfl⟩
    · obtain ⟨i, hi, t', e⟩ := go_some (md := .any) (ops := clOps) (fuel := m + 1) (t := t) (listed := #[false, false, false, false, false, false, false]) (rs := [0, 1, 2]) (by kernel_rfl) (by simp)
      rw [e]
      clear e
      simp only [List.mem_cons, List.not_mem_nil, or_false] at hi
      rcases hi with rfl | rfl | rfl
      · exact one (cl_op0 hF fun v' hr => ih true false false false false false r t' v' (by simp at hs ⊢; omega) (by simp) (by simp) (by simp) (hF.rely hr) (Nat.le_trans hB hr.size) (by intro h; cases h))
      · exact one (cl_op1 hF fun v' hr => ih false true false false false false r t' v' (by simp at hs ⊢; omega) (by simp) (by simp) (by simp) (hF.rely hr) (Nat.le_trans hB hr.size) (by intro h; cases h))
      · exact one (cl_op2 hF fun v' hr => ih false false true false false false r t' v' (by simp at hs ⊢; omega) (by simp) (by simp) (by simp) (hF.rely hr) (Nat.le_trans hB hr.size) (by intro h; cases h))
    · obtain ⟨i, hi, t', e⟩ := go_some (md := .any) (ops := clOps) (fuel := m + 1) (t := t) (listed := #[false, false, true, false, false, false, false]) (rs := [0, 1, 3]) (by kernel_rfl) (by simp)
      rw [e]
      clear e
      simp only [List.mem_cons, List.not_mem_nil, or_false] at hi
      rcases hi with rfl | rfl | rfl
      · exact one (cl_op0 hF fun v' hr => ih true false true false false false r t' v' (by simp at hs ⊢; omega) (by simp) (by simp) (by simp) (hF.rely hr) (Nat.le_trans hB hr.size) (by intro h; cases h))
      · exact one (cl_op1 hF fun v' hr => ih false true true false false false r t' v' (by simp at hs ⊢; omega) (by simp) (by simp) (by simp) (hF.rely hr) (Nat.le_trans hB hr.size) (by intro h; cases h))
      · exact one (cl_op3 hF fun v' hr => ih false false true true false false r t' v' (by simp at hs ⊢; omega) (by simp) (by simp) (by simp) (hF.rely hr) (Nat.le_trans hB hr.size) (by intro h; cases h))
    · obtain ⟨i, hi, t', e⟩ := go_some (md := .any) (ops := clOps) (fuel := m + 1) (t := t) (listed := #[false, false, true, true, false, false, false]) (rs := [0, 1, 4]) (by kernel_rfl) (by simp)
      rw [e]
      clear e
      simp only [List.mem_cons, List.not_mem_nil, or_false] at hi
      rcases hi with rfl | rfl | rfl
      · exact one (cl_op0 hF fun v' hr => ih true false true true false false r t' v' (by simp at hs ⊢; omega) (by simp) (by simp) (by simp) (hF.rely hr) (Nat.le_trans hB hr.size) (by intro h; cases h))
      · exact one (cl_op1 hF fun v' hr => ih false true true true false false r t' v' (by simp at hs ⊢; omega) (by simp) (by simp) (by simp) (hF.rely hr) (Nat.le_trans hB hr.size) (by intro h; cases h))
      · rw [hmul]
        exact cl_op4 hB hn h3 hb (hcall v hB hF.tk) fun r v' hr hft => ih false false true true true false r t' v' (by simp at hs ⊢; omega) (by simp) (by simp) (by simp) (hF.rely hr) (Nat.le_trans hB hr.size) (fun _ => hft)
    · obtain ⟨i, hi, t', e⟩ := go_some (md := .any) (ops := clOps) (fuel := m + 1) (t := t) (listed := #[false, false, true, true, true, false, false]) (rs := [0, 1]) (by kernel_rfl) (by simp)
      rw [e]
      clear e
      simp only [List.mem_cons, List.not_mem_nil, or_false] at hi
      rcases hi with rfl | rfl
      · exact one (cl_op0 hF fun v' hr => ih true false true true true false r t' v' (by simp at hs ⊢; omega) (by simp) (by simp) (by simp) (hF.rely hr) (Nat.le_trans hB hr.size) (fun _ => (hf rfl).gr hr))
      · exact one (cl_op1 hF fun v' hr => ih false true true true true false r t' v' (by simp at hs ⊢; omega) (by simp) (by simp) (by simp) (hF.rely hr) (Nat.le_trans hB hr.size) (fun _ => (hf rfl).gr hr))
    · obtain ⟨i, hi, t', e⟩ := go_some (md := .any) (ops := clOps) (fuel := m + 1) (t := t) (listed := #[true, false, false, false, false, false, false]) (rs := [1, 2]) (by kernel_rfl) (by simp)
      rw [e]
      clear e
      simp only [List.mem_cons, List.not_mem_nil, or_false] at hi
      rcases hi with rfl | rfl
      · exact one (cl_op1 hF fun v' hr => ih true true false false false false r t' v' (by simp at hs ⊢; omega) (by simp) (by simp) (by simp) (hF.rely hr) (Nat.le_trans hB hr.size) (by intro h; cases h))
      · exact one (cl_op2 hF fun v' hr => ih true false true false false false r t' v' (by simp at hs ⊢; omega) (by simp) (by simp) (by simp) (hF.rely hr) (Nat.le_trans hB hr.size) (by intro h; cases h))
    · obtain ⟨i, hi, t', e⟩ := go_some (md := .any) (ops := clOps) (fuel := m + 1) (t := t) (listed := #[true, false, true, false, false, false, false]) (rs := [1, 3]) (by kernel_rfl) (by simp)
      rw [e]
      clear e
      simp only [List.mem_cons, List.not_mem_nil, or_false] at hi
      rcases hi with rfl | rfl
      · exact one (cl_op1 hF fun v' hr => ih true true true false false false r t' v' (by simp at hs ⊢; omega) (by simp) (by simp) (by simp) (hF.rely hr) (Nat.le_trans hB hr.size) (by intro h; cases h))
      · exact one (cl_op3 hF fun v' hr => ih true false true true false false r t' v' (by simp at hs ⊢; omega) (by simp) (by simp) (by simp) (hF.rely hr) (Nat.le_trans hB hr.size) (by intro h; cases h))
    · obtain ⟨i, hi, t', e⟩ := go_some (md := .any) (ops := clOps) (fuel := m + 1) (t := t) (listed := #[true, false, true, true, false, false, false]) (rs := [1, 4]) (by kernel_rfl) (by simp)
      rw [e]
      clear e
      simp only [List.mem_cons, List.not_mem_nil, or_false] at hi
      rcases hi with rfl | rfl
      · exact one (cl_op1 hF fun v' hr => ih true true true true false false r t' v' (by simp at hs ⊢; omega) (by simp) (by simp) (by simp) (hF.rely hr) (Nat.le_trans hB hr.size) (by intro h; cases h))
      · rw [hmul]
        exact cl_op4 hB hn h3 hb (hcall v hB hF.tk) fun r v' hr hft => ih true false true true true false r t' v' (by simp at hs ⊢; omega) (by simp) (by simp) (by simp) (hF.rely hr) (Nat.le_trans hB hr.size) (fun _ => hft)
    · obtain ⟨i, hi, t', e⟩ := go_some (md := .any) (ops := clOps) (fuel := m + 1) (t := t) (listed := #[true, false, true, true, true, false, false]) (rs := [1]) (by kernel_rfl) (by simp)
      rw [e]
      clear e
      simp only [List.mem_cons, List.not_mem_nil, or_false] at hi
      subst hi
      · exact one (cl_op1 hF fun v' hr => ih true true true true true false r t' v' (by simp at hs ⊢; omega) (by simp) (by simp) (by simp) (hF.rely hr) (Nat.le_trans hB hr.size) (fun _ => (hf rfl).gr hr))
    · obtain ⟨i, hi, t', e⟩ := go_some (md := .any) (ops := clOps) (fuel := m + 1) (t := t) (listed := #[false, true, false, false, false, false, false]) (rs := [0, 2]) (by kernel_rfl) (by simp)
      rw [e]
      clear e
      simp only [List.mem_cons, List.not_mem_nil, or_false] at hi
      rcases hi with rfl | rfl
      · exact one (cl_op0 hF fun v' hr => ih true true false false false false r t' v' (by simp at hs ⊢; omega) (by simp) (by simp) (by simp) (hF.rely hr) (Nat.le_trans hB hr.size) (by intro h; cases h))
      · exact one (cl_op2 hF fun v' hr => ih false true true false false false r t' v' (by simp at hs ⊢; omega) (by simp) (by simp) (by simp) (hF.rely hr) (Nat.le_trans hB hr.size) (by intro h; cases h))
    · obtain ⟨i, hi, t', e⟩ := go_some (md := .any) (ops := clOps) (fuel := m + 1) (t := t) (listed := #[false, true, true, false, false, false, false]) (rs := [0, 3]) (by kernel_rfl) (by simp)
      rw [e]
      clear e
      simp only [List.mem_cons, List.not_mem_nil, or_false] at hi
      rcases hi with rfl | rfl
      · exact one (cl_op0 hF fun v' hr => ih true true true false false false r t' v' (by simp at hs ⊢; omega) (by simp) (by simp) (by simp) (hF.rely hr) (Nat.le_trans hB hr.size) (by intro h; cases h))
      · exact one (cl_op3 hF fun v' hr => ih false true true true false false r t' v' (by simp at hs ⊢; omega) (by simp) (by simp) (by simp) (hF.rely hr) (Nat.le_trans hB hr.size) (by intro h; cases h))
    · obtain ⟨i, hi, t', e⟩ := go_some (md := .any) (ops := clOps) (fuel := m + 1) (t := t) (listed := #[false, true, true, true, false, false, false]) (rs := [0, 4]) (by kernel_rfl) (by simp)
      rw [e]
      clear e
      simp only [List.mem_cons, List.not_mem_nil, or_false] at hi
      rcases hi with rfl | rfl
      · exact one (cl_op0 hF fun v' hr => ih true true true true false false r t' v' (by simp at hs ⊢; omega) (by simp) (by simp) (by simp) (hF.rely hr) (Nat.le_trans hB hr.size) (by intro h; cases h))
      · rw [hmul]
        exact cl_op4 hB hn h3 hb (hcall v hB hF.tk) fun r v' hr hft => ih false true true true true false r t' v' (by simp at hs ⊢; omega) (by simp) (by simp) (by simp) (hF.rely hr) (Nat.le_trans hB hr.size) (fun _ => hft)
    · obtain ⟨i, hi, t', e⟩ := go_some (md := .any) (ops := clOps) (fuel := m + 1) (t := t) (listed := #[false, true, true, true, true, false, false]) (rs := [0]) (by kernel_rfl) (by simp)
      rw [e]
      clear e
      simp only [List.mem_cons, List.not_mem_nil, or_false] at hi
      subst hi
      · exact one (cl_op0 hF fun v' hr => ih true true true true true false r t' v' (by simp at hs ⊢; omega) (by simp) (by simp) (by simp) (hF.rely hr) (Nat.le_trans hB hr.size) (fun _ => (hf rfl).gr hr))
    · obtain ⟨i, hi, t', e⟩ := go_some (md := .any) (ops := clOps) (fuel := m + 1) (t := t) (listed := #[true, true, false, false, false, false, false]) (rs := [2]) (by kernel_rfl) (by simp)
      rw [e]
      clear e
      simp only [List.mem_cons, List.not_mem_nil, or_false] at hi
      subst hi
      · exact one (cl_op2 hF fun v' hr => ih true true true false false false r t' v' (by simp at hs ⊢; omega) (by simp) (by simp) (by simp) (hF.rely hr) (Nat.le_trans hB hr.size) (by intro h; cases h))
    · obtain ⟨i, hi, t', e⟩ := go_some (md := .any) (ops := clOps) (fuel := m + 1) (t := t) (listed := #[true, true, true, false, false, false, false]) (rs := [3]) (by kernel_rfl) (by simp)
      rw [e]
      clear e
      simp only [List.mem_cons, List.not_mem_nil, or_false] at hi
      subst hi
      · exact one (cl_op3 hF fun v' hr => ih true true true true false false r t' v' (by simp at hs ⊢; omega) (by simp) (by simp) (by simp) (hF.rely hr) (Nat.le_trans hB hr.size) (by intro h; cases h))
    · obtain ⟨i, hi, t', e⟩ := go_some (md := .any) (ops := clOps) (fuel := m + 1) (t := t) (listed := #[true, true, true, true, false, false, false]) (rs := [4]) (by kernel_rfl) (by simp)
      rw [e]
      clear e
      simp only [List.mem_cons, List.not_mem_nil, or_false] at hi
      subst hi
      · rw [hmul]
        exact cl_op4 hB hn h3 hb (hcall v hB hF.tk) fun r v' hr hft => ih true true true true true false r t' v' (by simp at hs ⊢; omega) (by simp) (by simp) (by simp) (hF.rely hr) (Nat.le_trans hB hr.size) (fun _ => hft)
    · obtain ⟨i, hi, t', e⟩ := go_some (md := .any) (ops := clOps) (fuel := m + 1) (t := t) (listed := #[true, true, true, true, true, false, false]) (rs := [5]) (by kernel_rfl) (by simp)
      rw [e]
      clear e
      simp only [List.mem_cons, List.not_mem_nil, or_false] at hi
      subst hi
      · exact one (cl_op5 hF hcn fun v' hr => ih true true true true true true r t' v' (by simp at hs ⊢; omega) (by simp) (by simp) (by simp) (hF.rely hr) (Nat.le_trans hB hr.size) (fun _ => (hf rfl).gr hr))
end
end Go.Proofs.YtlcgbnmmbheleaaGreat


namespace Go.Proofs.YtlcgbnmmbheleaaGreat
open Go Go.Conc Go.RowKit Go.Conc.Lib Go.ConcR.Gen Go.ConcN.Gen
open Go.ConcN (WgLive PayAt Has AtR0 RW DWs)
open Go.ConcR (KK WgAt stA smA rd wr mk DC0)
set_option linter.unusedVariables false
set_option linter.unusedSimpArgs false

theorem loudC : (Tryz.prog.funcs[bC.fn]?).any (·.norace) = false := by kernel_rfl
section
variable {main : Bool} {b : Frame} {a : Act} {kk : List Item} {cs : List Frame} {w : World} {ops : Array Oper} {i : Nat} {rest : List Nat} {o : Oper}
theorem stepG_storeV {x y : Operand} (ho : ops[i]? = some o) (hw : Region.wanted o (yielded ops a.tmps) = true) (hk : b.kind ≠ .early) (hop : o.op = .store 48 x y)
    {ad : Addr} {A : Option Addr} {n c : Nat} {u : Value} (hx : a.eval x = .pointer (some ad)) (hy : a.eval y = .slice A n c) (hc : w.cell? ad = some u) (hz : w.frozen? ad = false) (hq : (Tryz.prog.funcs[b.fn]?).any (·.norace) = false) :
    stepG Tryz.prog main (G (b.at a (.inRegion ops (i :: rest) :: kk)) cs) w = .go (G (b.at (a.put o.dst undef) (.inRegion ops rest :: kk)) cs) (w.setCell ad (.slice A n c)) #[⟨.cell ad, true, false⟩] := by
  have hr : (execOp a.eval o).run Tryz.prog w = .ok .skip (w.setCell ad (.slice A n c)) := by
    unfold execOp
    simp only [hop, hx, hy]
    simp [go_sem, stored, hc, hz]
  have he : (execOp a.eval o).events Tryz.prog w #[] = #[⟨.cell ad, true, false⟩] := by
    unfold execOp
    simp only [hop, hx, hy]
    simp [go_sem, storedEv, hc, hz]
    rw [events_store _ _ _ _ _ _ (by rfl), hc]
    simp [hz]
  rw [stepG_none ho hw hk hr]
  unfold listed
  rw [he, seen_eq hq (by simp)]
end

theorem quitsTail (T : Array Value) : QuitsD Tryz.prog 2 0 (G { bC.at ⟨T, []⟩ [] with mode := .returning } [bot]) := by
  refine QuitsD.ctl (g' := G bot []) rfl (fun w => ?_) ?_
  · simp [G, stepG, unwind, doReturn, results, Frame.at, bC, baseD, bot, Tryz.func48, Tryz.f48, seen, GStep.after, goexitEntry]
  refine QuitsD.ctl (g' := { G bot [] with status := .finished }) rfl (fun w => ?_) ⟨rfl, rfl⟩
  simp [G, stepG, unwind, bot, goexitEntry, Frame.catches]
  rfl

theorem born_step (K : Cw) (pu lv pi : Nat) (w : World) : stepG Tryz.prog false (born Tryz.prog (clCall K pu lv pi)) w =
    .go (G (bC.at ⟨#[.pointer (some ⟨K.Wg, 0, none⟩), .pointer (some ⟨pu, 0, none⟩), .pointer (some ⟨lv, 0, none⟩), .pointer (some ⟨pi, 0, none⟩), undef, undef, undef, undef, undef, undef], []⟩ [.code clBody]) [bot]) w #[] := by
  simp [born, clCall, stepG, unwind, callDeferred, invoke, callFunc, Tryz.func48, Tryz.f48, seen, GStep.after, G, Frame.enter, Frame.at, bC, baseD, bot, clBody]

theorem goes_ctlW {K : Cw} {c : Nat} {Stop : Goroutine → World → Prop} {n : Nat} {g g' : Goroutine} {w : World} {F : World → Prop} (hs : g.status = .running) (h : ∀ w, stepG Tryz.prog false g w = .go g' w #[])
    (hF : ∀ w₁, RW K.ty K.Wg K.C K.n K.B c w w₁ → Goes Tryz.prog false (RW K.ty K.Wg K.C K.n K.B c) (DWs K.Wg No2 No2 K.C K.n (c + 1)) Stop n g' w₁) :
    Goes Tryz.prog false (RW K.ty K.Wg K.C K.n K.B c) (DWs K.Wg No2 No2 K.C K.n (c + 1)) Stop (n + 1) g w :=
  Goes.step hs fun w₁ h₁ => by
    rw [h w₁]
    exact ⟨dws_none (fun e he => by simp at he), hF w₁ h₁⟩

theorem doneTail {K : Cw} (hty : K.ty = lk.tWg) {c : Nat} {T : Array Value} {x : Value} (w : World) (hK : WgLive K.ty K.Wg w ∧ Has K.C c x w) :
    Goes Tryz.prog false (RW K.ty K.Wg K.C K.n K.B c) (DWs K.Wg No2 No2 K.C K.n (c + 1)) (AtR0 Tryz.prog K.ty K.Wg K.C K.n K.B (c + 1) x) 26
      (G (bC.at ⟨T, [dcall 49 #[.pointer (some ⟨K.Wg, 0, none⟩)]]⟩ (.inRegion clOps [] :: [])) [bot]) w := by
  have hr : ∀ {w w₁ : World}, (WgLive K.ty K.Wg w ∧ Has K.C c x w) → RW K.ty K.Wg K.C K.n K.B c w w₁ → (WgLive K.ty K.Wg w₁ ∧ Has K.C c x w₁) := fun h r => ⟨r.live h.1, r.cell.trans h.2⟩
  refine goes_ctlW (F := fun _ => True) rfl (fun w => stepG_region_end) fun w₁ h₁ => ?_
  replace hK := hr hK h₁
  refine goes_ctlW (F := fun _ => True) rfl (fun w => stepG_end) fun w₂ h₂ => ?_
  replace hK := hr hK h₂
  refine goes_ctlW (F := fun _ => True) rfl (fun w => stepG_unwind_enter rfl Tryz.func49 (nm_done lk) rfl) fun w₃ h₃ => ?_
  replace hK := hr hK h₃
  have hA := @doneN _ lk Tryz.prog wgLib No2 No2 K.Wg K.C K.n K.B (c + 1) x { bC.at ⟨T, []⟩ [] with mode := .returning } [bot] 2 rfl (quitsTail _) w₃
  rw [← hty] at hA
  exact hA hK

set_option maxRecDepth 100000 in
theorem atSt {K : Cw} (hty : K.ty = lk.tWg) {pu lv pi c : Nat} {y4 y5 y6 y7 r : Value} {v : World} (hf : Fit (K.ld c) r v) :
    AtSt Tryz.prog K c (G (bC.at (clAct K pu lv pi y4 y5 y6 y7 r (.pointer (some ⟨K.C, c, none⟩))) (.inRegion clOps [6] :: [])) [bot]) v := by
  obtain ⟨A, m, rfl, h1⟩ := id hf
  refine ⟨rfl, _, hf, fun w hl hp hc => ?_⟩
  obtain ⟨cs, hc1, hc2⟩ := hp
  have hcell : w.cell? ⟨K.C, c, none⟩ = some (cs[c]'(by omega)) := by simp [World.cell?, hc1, Array.getElem?_eq_getElem (show c < cs.size by omega)]
  have hfz : w.frozen? ⟨K.C, c, none⟩ = false := by simp [World.frozen?, hc1]
  have hlt : K.C < w.heap.size := (Array.getElem?_eq_some_iff.1 hc1).1
  refine ⟨_, stepG_storeV rfl (by rfl) (by decide) rfl rfl rfl hcell hfz loudC, 26, by omega, ?_⟩
  obtain ⟨st, sm, hwg⟩ := hl
  by_cases hne : K.C = K.Wg
  · exfalso
    have e : some (Go.ConcR.wgBlock K.ty st sm) = some (.cells cs 48) := by rw [← hwg, ← hne]; exact hc1
    have e2 : (Go.ConcR.wgBlock K.ty st sm) = .cells cs 48 := Option.some.inj e
    unfold Go.ConcR.wgBlock at e2
    injection e2 with _ e3 _
    rw [hty] at e3
    exact absurd e3 (by decide)
  · refine doneTail hty (w.setCell ⟨K.C, c, none⟩ (.slice A 3 m)) ⟨⟨st, sm, (Below.heap_setCell _ _ _ _ (fun e => hne e.symm)).trans hwg⟩, ?_⟩
    unfold Has World.cell?
    rw [setCell_put w _ _ hc1]
    simp [hlt, show c < cs.size by omega]

theorem GV.draw {P : Program} {mn : Bool} {H : Nat → Prop} {B n : Nat} {Stop : Goroutine → World → Prop} {g : Goroutine} {g' : Nat → Goroutine} {v : World} {qu : Question} (hs : g.status = .running)
    (h : ∀ w, stepG P mn g w = .go (g' (w.tape w.drawn qu)) { w with drawn := w.drawn + 1 } #[]) (hn : ∀ t v₁, GR v v₁ → GV P mn H B Stop n (g' t) v₁) : GV P mn H B Stop (n + 1) g v :=
  .inr ⟨hs, fun v₁ hr S w hv ht hd => ⟨_, { v₁ with drawn := v₁.drawn + 1 }, { w with drawn := w.drawn + 1 }, #[], h w, ⟨hv.os, hv.output, hv.size, hv.same, hv.dead, hv.hid, hv.plain, hv.views⟩, rfl, ht, by show v₁.drawn + 1 = w.drawn + 1; rw [hd], Nat.le_refl _, fun _ _ => rfl, drawG B v₁, by simp, hn _ _ (hr.trans (ownDrawG v₁))⟩⟩

set_option maxRecDepth 100000 in
theorem worker {K : Cw} (hty : K.ty = lk.tWg) {B : Nat} {pu lv pi c n cp : Nat} {A : Option Addr} {ts : List Tk} (hcn : c < K.n) (hld : K.ld c = loadP ts) (hn : n ≤ 900) (h3 : ∀ j, j < n → (ts[j]?.getD (0, [])).2.length = 3)
    (hb : ∀ j i : Nat, 0 ≤ (ts[j]?.getD (0, [])).2[i]?.getD 0 ∧ (ts[j]?.getD (0, [])).2[i]?.getD 0 ≤ 1000) (v : World) (hB : B ≤ v.heap.size) (hF : HCl K pu lv pi c A n cp ts v) :
    ∃ m, GV Tryz.prog false K.H B (AtSt Tryz.prog K c) m (born Tryz.prog (clCall K pu lv pi)) v := by
  obtain ⟨nf, hcall⟩ := loadOf_c (mn := false) B
  refine ⟨6 * (nf + 3) + 6, ?_⟩
  refine GV.ctl rfl (born_step K pu lv pi) ?_
  simp only [clBody, Tryz.f48, Option.getD_some]
  refine GV.ctl rfl (fun w => stepG_seq) ?_
  refine GV.ctl rfl (fun w => stepG_region) ?_
  simp only [List.size_toArray, List.length_cons, List.length_nil, Nat.reduceAdd, Nat.zero_add, List.range, List.range.loop]
  refine GV.ctl rfl (fun w => stepG_defer rfl (by rfl) (by decide) rfl) ?_
  walk_nrm
  refine GV.ctl rfl (fun w => stepG_region_end) ?_
  refine GV.draw (qu := .order bC.fn 1) (g' := fun t => G (bC.at _ (.inRegion _ (Region.schedule (Tryz.prog.follows .mixedOrders) _ t) :: [])) [bot]) rfl (fun w => stepG_region_draw) fun t v₁ hr => ?_
  have hm : Tryz.prog.follows .mixedOrders = true := by kernel_rfl
  simp only [Region.schedule, hm, Bool.true_or, if_true]
  have := cl_any (K := K) (B := B) (nf := nf) (pu := pu) (lv := lv) (pi := pi) (cp := cp) hcn hld hn h3 hb (fun v hB hT => hcall A n cp ts v hB hT hn h3 hb) (Stop := AtSt Tryz.prog K c)
    (fun r v hf => atSt hty (by rw [hld]; exact hf)) 6 false false false false false false undef t v₁ (by simp) (by simp) (by simp) (by simp) (hF.rely hr) (Nat.le_trans hB hr.size) (by simp)
  have e : Region.linearise .any clOps t = Region.linearise.go .any clOps (6 + 1) t #[false, false, false, false, false, false, false] [] := rfl
  rw [← e] at this
  show GV _ _ _ _ _ _ (G (bC.at (clAct K pu lv pi undef undef undef undef undef undef) _) _) v₁
  exact this
end Go.Proofs.YtlcgbnmmbheleaaGreat

namespace Go.Proofs.YtlcgbnmmbheleaaGreat
open Go Go.Conc Go.RowKit Go.Conc.Lib Go.ConcR.Gen Go.ConcN.Gen
open Go.ConcN (WgLive st_flag st_waiters)
open Go.ConcR (KK WgAt stA smA rd wr mk Payload DC0)
set_option linter.unusedVariables false
set_option linter.unusedSimpArgs false
variable [Payload] {L : WgLink}

omit [Payload] in
theorem Goes.quiet {P : Program} {mn : Bool} {K : Cw} {O : Nat → Prop} {R : World → World → Prop} {Stop : Goroutine → World → Prop} : ∀ {n : Nat} {g : Goroutine} {w : World}, Goes P mn R DC0 Stop n g w → Goes P mn R (DS K O) Stop n g w
  | 0, _, _, h => h
  | n + 1, g, w, h => h.imp id fun ⟨hs, h⟩ => ⟨hs, fun w₁ h₁ => by
    have := h w₁ h₁
    revert this
    cases stepG P mn g w₁ <;> simp only [GStep.goes, imp_self]
    rintro ⟨⟨rfl, rfl⟩, h2⟩
    exact ⟨.idle K O _, Goes.quiet h2⟩⟩
omit [Payload] in
theorem Goes.flat {P : Program} {mn : Bool} {K : Cw} {O : Nat → Prop} {R : World → World → Prop} {Stop : Goroutine → World → Prop} {m : Nat} (hR : ∀ w, R w w) : ∀ {n : Nat} {g : Goroutine} {w : World}, Goes P mn R DC0 (fun g w => Goes P mn R (DS K O) Stop m g w) n g w → Goes P mn R (DS K O) Stop (m + n) g w
  | 0, g, w, h => h w (hR w)
  | n + 1, g, w, h => by
    rcases h with h | ⟨hs, h⟩
    · have key : ∀ k, Goes P mn R (DS K O) Stop (m + k) g w := fun k => by
        induction k with
        | zero => exact h w (hR w)
        | succ k ih => exact ih.more
      exact key (n + 1)
    · refine .inr ⟨hs, fun w₁ h₁ => ?_⟩
      have := h w₁ h₁
      revert this
      cases stepG P mn g w₁ <;> simp only [GStep.goes, imp_self]
      rintro ⟨⟨rfl, rfl⟩, h2⟩
      exact ⟨.idle K O _, Goes.flat hR h2⟩
omit [Payload] in
theorem rs_rely {K : Cw} {O : Nat → Prop} {F : World → Prop} (hF2 : ∀ w w', RS K O w w' → F w → F w') {w w₁ : World} (h : F w ∧ WgLive K.ty K.Wg w) (r : RS K O w w₁) : F w₁ ∧ WgLive K.ty K.Wg w₁ := ⟨hF2 _ _ r h.1, r.live h.2⟩
omit [Payload] in
theorem rs_setCell {K : Cw} {O : Nat → Prop} (hOW : ¬ O K.Wg) {w : World} {a : Addr} (ha : a.block = K.Wg) (x : Value) (hl : WgLive K.ty K.Wg (w.setCell a x)) : RS K O w (w.setCell a x) :=
  ⟨by rw [World.size_setCell]; exact Nat.le_refl _, fun b hb => Below.heap_setCell _ _ _ _ (by rw [ha]; rintro rfl; exact hb.elim (fun h => h.2.1 rfl) hOW), fun _ => hl⟩

section
variable {P : Program} {K : Cw} {O : Nat → Prop} {j : Nat} {AnchW Fin Next : Goroutine → World → Prop} {F : World → Prop}
  {b₀ : Frame} {a₀ : Act} {ops₀ : Array Oper} {i₀ : Nat} {rest₀ : List Nat} {k₀ : List Item} {cs : List Frame} {mT : Nat}
omit [Payload] in
theorem ds_said (mkk : Addr → Mark) (hm : mkk = .read ∨ mkk = .write) (w : World) : DS K O w w #[⟨.mark (mkk (smA K.Wg)), false, true⟩] :=
  ⟨.refl _ w, rfl, fun e he => .inr ⟨smA K.Wg, by rw [Array.mem_singleton] at he; subst he; rcases hm with rfl | rfl <;> simp, rfl⟩⟩

set_option maxRecDepth 100000 in
set_option maxHeartbeats 8000000 in
theorem cwAdd (H : WgLib P L) (hOW : ¬ O K.Wg) (hF2 : ∀ w w', RS K O w w' → F w → F w')
    (hT : ∀ w, F w → WgLive K.ty K.Wg w → Goes P true (RS K O) (DS K O) (TGo P K O j Next) mT (G (b₀.at (a₀.put ((ops₀[i₀]?).bind (·.dst)) (.tuple #[])) (.inRegion ops₀ rest₀ :: k₀)) cs) w)
    (w : World) (hF : F w ∧ WgLive K.ty K.Wg w) :
    Goes P true (RS K O) (DS K O) (TKdS P K O j Next) 12
      (G ((base L.add).at ⟨#[.pointer (some ⟨K.Wg, 0, none⟩), .int .i64 1, undef, undef, undef, undef, undef, undef, undef, undef, undef, undef, undef, undef, undef, undef, undef, undef, undef, undef, undef, undef, undef, undef, undef, undef, undef, undef, undef, undef, undef, undef, undef, undef, undef, undef, undef, undef, undef, undef, undef, undef, undef, undef, undef, undef, undef, undef, undef, undef, undef, undef, undef, undef, undef, undef, undef, undef, undef, undef, undef, undef, undef, undef, undef, undef, undef, undef, undef, undef, undef, undef, undef, undef, undef, undef, undef, undef, undef, undef, undef, undef, undef, undef, undef, undef, undef, undef, undef, undef, undef, undef, undef, undef, undef, undef, undef, undef, undef, undef, undef, undef, undef, undef, undef, undef, undef, undef, undef, undef, undef, undef, undef, undef, undef, undef, undef], []⟩ [.code (body_add L)]) (b₀.at a₀ (.inRegion ops₀ (i₀ :: rest₀) :: k₀) :: cs)) w := by
  lib_facts
  simp only [body_add, addFn, Option.getD_some]
  refine Goes.quiet ?_
  u_c stepG_seq (rs_rely hF2) hF
  u_cond true (rs_rely hF2) hF
  u_c stepG_seq (rs_rely hF2) hF
  u_c stepG_seq (rs_rely hF2) hF
  u_reg (rs_rely hF2) hF
  u_op (rs_rely hF2) hF
  u_op (rs_rely hF2) hF
  u_c stepG_region_end (rs_rely hF2) hF
  u_cond false (rs_rely hF2) hF
  u_c stepG_skip (rs_rely hF2) hF
  u_c stepG_seq (rs_rely hF2) hF
  u_reg (rs_rely hF2) hF
  refine Goes.stop (fun w₁ h₁ => ?_)
  replace hF := rs_rely hF2 hF h₁
  clear h₁
  refine ⟨rfl, _, stepG_mark0 .disable (by simp) rfl rfl (by k_ne) rfl H.f_disable (x_disable_n L) (x_disable_b L) (x_disable_x L) (x_disable_f L), 60, Goes.quiet ?_⟩
  walk_nrm
  u_c stepG_region_end (rs_rely hF2) hF
  u_reg (rs_rely hF2) hF
  u_defer (rs_rely hF2) hF
  u_c stepG_region_end (rs_rely hF2) hF
  u_c stepG_seq (rs_rely hF2) hF
  u_reg (rs_rely hF2) hF
  u_op (rs_rely hF2) hF
  u_c stepG_region_end (rs_rely hF2) hF
  u_c stepG_seq (rs_rely hF2) hF
  u_c stepG_seq (rs_rely hF2) hF
  u_reg (rs_rely hF2) hF
  u_bub (rs_rely hF2) hF
  u_c stepG_region_end (rs_rely hF2) hF
  u_cond false (rs_rely hF2) hF
  u_c stepG_skip (rs_rely hF2) hF
  u_c stepG_seq (rs_rely hF2) hF
  u_reg (rs_rely hF2) hF
  u_op (rs_rely hF2) hF
  u_op (rs_rely hF2) hF
  u_op (rs_rely hF2) hF
  u_op (rs_rely hF2) hF
  u_op (rs_rely hF2) hF
  u_op (rs_rely hF2) hF
  u_call H.f_uAdd (nm_uAdd L) uAddFn (rs_rely hF2) hF
  u_c stepG_seq (rs_rely hF2) hF
  u_reg (rs_rely hF2) hF
  u_op (rs_rely hF2) hF
  u_c stepG_region_end (rs_rely hF2) hF
  u_c stepG_seq (rs_rely hF2) hF
  u_reg (rs_rely hF2) hF
  u_op (rs_rely hF2) hF
  u_op (rs_rely hF2) hF
  u_op (rs_rely hF2) hF
  u_op (rs_rely hF2) hF
  refine Goes.stop (fun w₂ h₂ => ?_)
  replace hF := rs_rely hF2 hF h₂
  clear h₂
  refine ⟨rfl, fun v hv hw => ?_⟩
  rcases Nat.eq_zero_or_pos v with rfl | hvp
  · -- the count is now 1
    replace hw : WgAt K.ty K.Wg w₂ 0 0 := by simpa using hw
    have z : (((0 : Nat) : Int) + 1) * KK = KK := by simp
    rw [z]
    have e0 : IntKind.u64.wrap (0 + 4294967296) = KK := by decide
    refine ⟨_, (stepG_add_atomic rfl rfl (by k_ne) rfl H.f_addU64 (x_addU64_n L) (x_addU64_b L) (x_addU64_x L) .u64 (x_addU64_f L) rfl rfl hw.cellSt (hw.thaw 0)).trans (by rw [e0]; rfl), 80 + 80, ?_⟩
    have hl : WgLive K.ty K.Wg (w₂.setCell (stA K.Wg) (.int .u64 KK)) := ⟨_, _, hw.setSt _⟩
    replace hF : F (w₂.setCell (stA K.Wg) (.int .u64 KK)) ∧ WgLive K.ty K.Wg (w₂.setCell (stA K.Wg) (.int .u64 KK)) := ⟨hF2 _ _ (rs_setCell hOW rfl _ hl) hF.1, hl⟩
    clear hw hl
    simp only [KK] at hF ⊢
    refine Goes.flat (RS.refl K O) ?_
    walk_nrm
    u_op (rs_rely hF2) hF
    u_c stepG_region_end (rs_rely hF2) hF
    u_c stepG_ret' (rs_rely hF2) hF
    u_leave1 H.f_uAdd (rs_rely hF2) hF
    u_op (rs_rely hF2) hF
    u_c stepG_region_end (rs_rely hF2) hF
    u_c stepG_seq (rs_rely hF2) hF
    u_c stepG_seq (rs_rely hF2) hF
    u_reg (rs_rely hF2) hF
    u_op (rs_rely hF2) hF
    u_op (rs_rely hF2) hF
    u_op (rs_rely hF2) hF
    u_op (rs_rely hF2) hF
    u_skip (rs_rely hF2) hF
    u_skip (rs_rely hF2) hF
    u_op (rs_rely hF2) hF
    u_c stepG_region_end (rs_rely hF2) hF
    u_cond false (rs_rely hF2) hF
    u_c stepG_skip (rs_rely hF2) hF
    u_c stepG_seq (rs_rely hF2) hF
    u_reg (rs_rely hF2) hF
    u_op (rs_rely hF2) hF
    u_op (rs_rely hF2) hF
    u_op (rs_rely hF2) hF
    u_op (rs_rely hF2) hF
    u_c stepG_region_end (rs_rely hF2) hF
    u_c stepG_seq (rs_rely hF2) hF
    u_reg (rs_rely hF2) hF
    u_op (rs_rely hF2) hF
    u_op (rs_rely hF2) hF
    u_op (rs_rely hF2) hF
    u_op (rs_rely hF2) hF
    u_c stepG_region_end (rs_rely hF2) hF
    u_c stepG_seq (rs_rely hF2) hF
    u_c stepG_seq (rs_rely hF2) hF
    u_reg (rs_rely hF2) hF
    u_op (rs_rely hF2) hF
    u_op (rs_rely hF2) hF
    u_op (rs_rely hF2) hF
    u_op (rs_rely hF2) hF
    u_op (rs_rely hF2) hF
    u_op (rs_rely hF2) hF
    u_op (rs_rely hF2) hF
    u_op (rs_rely hF2) hF
    u_op (rs_rely hF2) hF
    u_op (rs_rely hF2) hF
    u_c stepG_region_end (rs_rely hF2) hF
    u_cond true (rs_rely hF2) hF
    u_reg (rs_rely hF2) hF
    u_op (rs_rely hF2) hF
    u_op (rs_rely hF2) hF
    u_op (rs_rely hF2) hF
    u_conv H.underlying_tPU32 H.room_tU32 (WgLive.cell1 hF.2).choose_spec (rs_rely hF2) hF
    refine Goes.stop (fun w₃ h₃ => ?_)
    replace hF := rs_rely hF2 hF h₃
    clear h₃
    u_in (rs_rely hF2) hF
    rw [stepG_markAt .read (by simp) rfl rfl (by k_ne) rfl H.f_raceRead (x_raceRead_n L) (x_raceRead_b L) (x_raceRead_x L) (x_raceRead_f L) (ad := smA K.Wg) (by simp [Act.eval, smA])]
    simp only [goes_go]
    refine ⟨ds_said .read (.inl rfl) _, Goes.quiet ?_⟩
    walk_nrm
    u_c stepG_region_end (rs_rely hF2) hF
    u_c stepG_seq (rs_rely hF2) hF
    u_c stepG_seq (rs_rely hF2) hF
    u_reg (rs_rely hF2) hF
    u_op (rs_rely hF2) hF
    u_op (rs_rely hF2) hF
    u_c stepG_region_end (rs_rely hF2) hF
    u_cond false (rs_rely hF2) hF
    u_c stepG_skip (rs_rely hF2) hF
    u_c stepG_seq (rs_rely hF2) hF
    u_c stepG_seq (rs_rely hF2) hF
    u_reg (rs_rely hF2) hF
    u_op (rs_rely hF2) hF
    u_op (rs_rely hF2) hF
    u_op (rs_rely hF2) hF
    u_skip (rs_rely hF2) hF
    u_skip (rs_rely hF2) hF
    u_op (rs_rely hF2) hF
    u_op (rs_rely hF2) hF
    u_skip (rs_rely hF2) hF
    u_skip (rs_rely hF2) hF
    u_skip (rs_rely hF2) hF
    u_skip (rs_rely hF2) hF
    u_op (rs_rely hF2) hF
    u_c stepG_region_end (rs_rely hF2) hF
    u_cond false (rs_rely hF2) hF
    u_c stepG_skip (rs_rely hF2) hF
    u_c stepG_seq (rs_rely hF2) hF
    u_c stepG_seq (rs_rely hF2) hF
    u_reg (rs_rely hF2) hF
    u_op (rs_rely hF2) hF
    u_op (rs_rely hF2) hF
    u_op (rs_rely hF2) hF
    u_skip (rs_rely hF2) hF
    u_skip (rs_rely hF2) hF
    u_op (rs_rely hF2) hF
    u_c stepG_region_end (rs_rely hF2) hF
    u_cond true (rs_rely hF2) hF
    u_c stepG_ret' (rs_rely hF2) hF
    refine Goes.stop (fun w₄ h₄ => ?_)
    replace hF := rs_rely hF2 hF h₄
    clear h₄
    refine ⟨rfl, _, stepG_unwind_entry (v := .tuple #[]) (evs := #[mk .enable]) rfl H.f_enable (x_enable_n L) (x_enable_b L) (x_enable_x L) (x_enable_f L) (by simp [Extern.Race.none_]) (by simp [mk]) (by simp [mk]), mT + 1, Goes.flat (RS.refl K O) (n := 1) (m := mT) ?_⟩
    u_leave0 H.f_add (rs_rely hF2) hF
    exact Goes.stop (fun w' h' => by have := rs_rely hF2 hF h'; exact hT _ this.1 this.2)
  · -- it is more
    obtain ⟨V, hV⟩ : ∃ V : Int, V = (v : Int) + 1 := ⟨_, rfl⟩
    obtain ⟨S, hS⟩ : ∃ S : Int, S = V * KK := ⟨_, rfl⟩
    have eS : IntKind.u64.wrap ((v : Int) * KK + 4294967296) = S := by rw [IntKind.wrap_u64, hS, hV]; simp only [KK]; omega
    rw [← hV, ← hS]
    have a1 : S / 4294967296 = V := by rw [hS]; simp only [KK]; omega
    have b1 : bits .and .u64 S 2147483648 = 0 := by rw [hS, hV]; have := st_flag (v + 1) 0 (by omega) (by omega); simpa [KK] using this
    have b2 : bits .and .u64 S 2147483647 = 0 := by rw [hS, hV]; have := st_waiters (v + 1) 0 (by omega) (by omega); simpa [KK] using this
    have c1 : IntKind.i32.wrap V = V := by rw [IntKind.wrap_i32]; omega
    have hV1 : 1 < V := by omega
    have hV2 : V < 2147483648 := by omega
    have q1 : (V == 1) = false := by simp; omega
    have q2 : decide (V = 1) = false := decide_eq_false (by omega)
    have q3 : decide (V < 0) = false := decide_eq_false (by omega)
    have q4 : decide (0 < V) = true := decide_eq_true (by omega)
    have q5 : (V == 0) = false := by simp; omega
    have q6 : decide (V = 0) = false := decide_eq_false (by omega)
    refine ⟨_, (stepG_add_atomic rfl rfl (by k_ne) rfl H.f_addU64 (x_addU64_n L) (x_addU64_b L) (x_addU64_x L) .u64 (x_addU64_f L) rfl rfl hw.cellSt (hw.thaw 0)).trans (by rw [eS]; rfl), 150, Goes.quiet ?_⟩
    have hl : WgLive K.ty K.Wg (w₂.setCell (stA K.Wg) (.int .u64 S)) := ⟨_, _, hw.setSt _⟩
    replace hF : F (w₂.setCell (stA K.Wg) (.int .u64 S)) ∧ WgLive K.ty K.Wg (w₂.setCell (stA K.Wg) (.int .u64 S)) := ⟨hF2 _ _ (rs_setCell hOW rfl _ hl) hF.1, hl⟩
    clear hw hS hV eS hl
    walk_nrm
    u_op (rs_rely hF2) hF
    u_c stepG_region_end (rs_rely hF2) hF
    u_c stepG_ret' (rs_rely hF2) hF
    u_leave1 H.f_uAdd (rs_rely hF2) hF
    u_op (rs_rely hF2) hF
    u_c stepG_region_end (rs_rely hF2) hF
    u_c stepG_seq (rs_rely hF2) hF
    u_c stepG_seq (rs_rely hF2) hF
    u_reg (rs_rely hF2) hF
    u_op (rs_rely hF2) hF
    u_op (rs_rely hF2) hF
    u_op (rs_rely hF2) hF
    u_op (rs_rely hF2) hF
    u_skip (rs_rely hF2) hF
    u_skip (rs_rely hF2) hF
    u_op (rs_rely hF2) hF
    u_c stepG_region_end (rs_rely hF2) hF
    u_cond false (rs_rely hF2) hF
    u_c stepG_skip (rs_rely hF2) hF
    u_c stepG_seq (rs_rely hF2) hF
    u_reg (rs_rely hF2) hF
    u_op (rs_rely hF2) hF
    u_op (rs_rely hF2) hF
    u_op (rs_rely hF2) hF
    u_op (rs_rely hF2) hF
    u_c stepG_region_end (rs_rely hF2) hF
    u_c stepG_seq (rs_rely hF2) hF
    u_reg (rs_rely hF2) hF
    u_op (rs_rely hF2) hF
    u_op (rs_rely hF2) hF
    u_op (rs_rely hF2) hF
    u_op (rs_rely hF2) hF
    u_c stepG_region_end (rs_rely hF2) hF
    u_c stepG_seq (rs_rely hF2) hF
    u_c stepG_seq (rs_rely hF2) hF
    u_reg (rs_rely hF2) hF
    u_op (rs_rely hF2) hF
    u_op (rs_rely hF2) hF
    u_op (rs_rely hF2) hF
    u_op (rs_rely hF2) hF
    u_op (rs_rely hF2) hF
    u_op (rs_rely hF2) hF
    u_op (rs_rely hF2) hF
    u_op (rs_rely hF2) hF
    u_op (rs_rely hF2) hF
    u_op (rs_rely hF2) hF
    u_c stepG_region_end (rs_rely hF2) hF
    u_cond false (rs_rely hF2) hF
    u_c stepG_skip (rs_rely hF2) hF
    u_c stepG_seq (rs_rely hF2) hF
    u_c stepG_seq (rs_rely hF2) hF
    u_reg (rs_rely hF2) hF
    u_op (rs_rely hF2) hF
    u_op (rs_rely hF2) hF
    u_c stepG_region_end (rs_rely hF2) hF
    u_cond false (rs_rely hF2) hF
    u_c stepG_skip (rs_rely hF2) hF
    u_c stepG_seq (rs_rely hF2) hF
    u_c stepG_seq (rs_rely hF2) hF
    u_reg (rs_rely hF2) hF
    u_op (rs_rely hF2) hF
    u_op (rs_rely hF2) hF
    u_op (rs_rely hF2) hF
    u_skip (rs_rely hF2) hF
    u_skip (rs_rely hF2) hF
    u_op (rs_rely hF2) hF
    u_op (rs_rely hF2) hF
    u_skip (rs_rely hF2) hF
    u_skip (rs_rely hF2) hF
    u_skip (rs_rely hF2) hF
    u_skip (rs_rely hF2) hF
    u_op (rs_rely hF2) hF
    u_c stepG_region_end (rs_rely hF2) hF
    u_cond false (rs_rely hF2) hF
    u_c stepG_skip (rs_rely hF2) hF
    u_c stepG_seq (rs_rely hF2) hF
    u_c stepG_seq (rs_rely hF2) hF
    u_reg (rs_rely hF2) hF
    u_op (rs_rely hF2) hF
    u_op (rs_rely hF2) hF
    u_op (rs_rely hF2) hF
    u_skip (rs_rely hF2) hF
    u_skip (rs_rely hF2) hF
    u_op (rs_rely hF2) hF
    u_c stepG_region_end (rs_rely hF2) hF
    u_cond true (rs_rely hF2) hF
    u_c stepG_ret' (rs_rely hF2) hF
    refine Goes.stop (fun w₃ h₃ => ?_)
    replace hF := rs_rely hF2 hF h₃
    clear h₃
    refine ⟨rfl, _, stepG_unwind_entry (v := .tuple #[]) (evs := #[mk .enable]) rfl H.f_enable (x_enable_n L) (x_enable_b L) (x_enable_x L) (x_enable_f L) (by simp [Extern.Race.none_]) (by simp [mk]) (by simp [mk]), mT + 1, Goes.flat (RS.refl K O) (n := 1) (m := mT) ?_⟩
    u_leave0 H.f_add (rs_rely hF2) hF
    exact Goes.stop (fun w' h' => by have := rs_rely hF2 hF h'; exact hT _ this.1 this.2)
end
end Go.Proofs.YtlcgbnmmbheleaaGreat

