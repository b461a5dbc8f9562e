/- Several texts in one. -/
import Derived.Test.YtlcgbnmmbheleaaGreatVI
import Derived.Test.YtlcgbnmmbheleaaGreatV34
import Derived.Test.YtlcgbnmmbheleaaGreatVH
namespace Go.Proofs.YtlcgbnmmbheleaaGreat
open Go Go.Conc Go.RowKit Go.MuLone
set_option linter.unusedVariables false
set_option linter.unusedSimpArgs false
attribute [local go_sem ↓] Go.wp_at_zero Go.wp_at_succ

structure GB (B : Nat) (v v' : World) : Prop where
  os : v'.os = v.os
  output : v'.output = v.output
  size : v.heap.size ≤ v'.heap.size
  rows : ∀ b, b < B → v'.heap[b]? = v.heap[b]?
section
variable {B B' : Nat} {v v₁ v' v'' : World}
theorem GB.refl (B : Nat) (v : World) : GB B v v := ⟨rfl, rfl, Nat.le_refl _, fun _ _ => rfl⟩
theorem GB.trans (h : GB B v v') (k : GB B v' v'') : GB B v v'' := ⟨k.os.trans h.os, k.output.trans h.output, Nat.le_trans h.size k.size, fun b hb => (k.rows b hb).trans (h.rows b hb)⟩
theorem GB.mono (h : GB B v v') (hb : B' ≤ B) : GB B' v v' := ⟨h.os, h.output, h.size, fun b hb' => h.rows b (Nat.lt_of_lt_of_le hb' hb)⟩
theorem GB.of_below (h : Below B v v') : GB B v v' := ⟨h.os, h.output, h.size, h.block⟩
theorem GB.from (e : SameHeap v₁ v) (r : GB B v₁ v') : GB B v v' := ⟨r.os.trans e.os, r.output.trans e.output, by rw [← e.heap]; exact r.size, fun b hb => by rw [← e.heap]; exact r.rows b hb⟩
theorem GB.same (r : GB B v v') (e : SameHeap v'' v') : GB B v v'' := ⟨e.os.trans r.os, e.output.trans r.output, by rw [e.heap]; exact r.size, fun b hb => by rw [e.heap]; exact r.rows b hb⟩
theorem GB.gr (h : GB v.heap.size v v') : GR v v' := ⟨h.os, h.output, h.size, h.rows⟩
theorem GB.of_gr (h : GR v v') (hb : B ≤ v.heap.size) : GB B v v' := ⟨h.os, h.output, h.size, fun b hb' => h.rows b (Nat.lt_of_lt_of_le hb' hb)⟩
theorem GB.set {p : Addr} (hp : B ≤ p.block) (x : Value) : GB B v (v.setCell p x) := ⟨rfl, rfl, by rw [World.size_setCell]; exact Nat.le_refl _, fun b hb => Below.heap_setCell _ _ _ _ (by omega)⟩
theorem GB.blk {b : Nat} {t : TypeId} {cs : Array Value} (h : Blk v b t cs) (r : GB B v v') (hb : b < B) : Blk v' b t cs := (r.rows b hb).trans h
theorem GB.new (o : Obj) (hb : B ≤ v.heap.size) : GB B v (v.alloc o) := .of_gr (below_gr (alloc_up v o)) hb
end
theorem HostV.same {v w : World} {hb n1 c1 n : Nat} {A1 : Option Addr} {room : List Int} {us : List Un} (h : HostV v hb A1 n1 c1 n room us) (e : w.heap = v.heap) : HostV w hb A1 n1 c1 n room us :=
  ⟨(World.cell?_of_block (by rw [e])).trans h.c2, (World.cell?_of_block (by rw [e])).trans h.c3, by rw [e]; exact h.lt, h.rm.gain (fun p y hy => (World.cell?_of_block (by rw [e])).trans hy) (by rw [e]; exact Nat.le_refl _), h.un.gain (fun p y hy => (World.cell?_of_block (by rw [e])).trans hy) (by rw [e]; exact Nat.le_refl _)⟩
theorem KeepTI.same {v w : World} (e : w.heap = v.heap) : KeepTI v w := fun b _ => by rw [e]
theorem HostR.same {v w : World} {base hb n1 c1 n : Nat} {l : Int} {A1 : Option Addr} {room : List Int} {us : List Un} (h : HostR v base hb l A1 n1 c1 n room us) (e : w.heap = v.heap) : HostR w base hb l A1 n1 c1 n room us := by
  obtain ⟨vs, zs, tk, X⟩ := h
  exact ⟨vs, zs, tk, X.keep (KeepTI.same e) (by rw [e])⟩
theorem HostR.lk {v : World} {base hb n1 c1 n : Nat} {l : Int} {A1 : Option Addr} {room : List Int} {us : List Un} (h : HostR v base hb l A1 n1 c1 n room us) : v.cell? ⟨hb, 0, none⟩ = some (.int .i32 l) ∧ v.frozen? ⟨hb, 0, none⟩ = false := by
  obtain ⟨vs, zs, tk, X⟩ := h
  exact X.lk
theorem HostR.ge {v : World} {base hb n1 c1 n : Nat} {l : Int} {A1 : Option Addr} {room : List Int} {us : List Un} (h : HostR v base hb l A1 n1 c1 n room us) : base ≤ hb := by
  obtain ⟨vs, zs, tk, X⟩ := h
  exact X.ge
theorem HostR.setL {v : World} {base hb n1 c1 n : Nat} {l l' : Int} {A1 : Option Addr} {room : List Int} {us : List Un} (h : HostR v base hb l A1 n1 c1 n room us) : HostR (v.setCell ⟨hb, 0, none⟩ (.int .i32 l')) base hb l' A1 n1 c1 n room us := by
  obtain ⟨vs, zs, tk, X⟩ := h
  exact ⟨vs, zs, tk, X.setL⟩
theorem HostR.post {v : World} {base hb n1 c1 n : Nat} {A1 : Option Addr} {room : List Int} {us : List Un} (h : HostR v base hb 0 A1 n1 c1 n room us) : HostP v hb A1 n1 c1 n room us := by
  obtain ⟨vs, zs, tk, X⟩ := h
  exact X.post

noncomputable def opBody : Code := Tryz.f31.body.getD .skip
noncomputable def opC0 : Code := match opBody with | .seq a _ => a | _ => .skip
noncomputable def opOps1 : Array Oper := match opBody with | .seq _ (.seq (.region _ ops _) _) => ops | _ => #[]
noncomputable def opOps2 : Array Oper := match opBody with | .seq _ (.seq _ (.seq (.region _ ops _) _)) => ops | _ => #[]
noncomputable def opRest : Code := match opBody with | .seq _ (.seq _ (.seq _ r)) => r | _ => .skip
theorem opBody_eq : ∃ i j, opBody = .seq opC0 (.seq (.region i opOps1 false) (.seq (.region j opOps2 false) opRest)) := ⟨_, _, by rfl⟩
def HoQ (t : Nat) (base hb : Nat) (A1 : Option Addr) (n1 c1 n : Nat) (room : List Int) (R : List Int × List Un × Int) (w : World) (e : Exit) (a : Act) (w' : World) : Prop :=
  e = .ret ∧ a.defers = [] ∧ a.tmps.getD t undef = .int .i64 R.2.2 ∧ HostR w' base hb 1 A1 n1 c1 n room R.2.1 ∧ Below base w w'
def opT (hb : Nat) (node : Int) (op : Bool) : Array Value := #[.pointer (some ⟨hb, 0, none⟩), .int .i64 node, .bool op, undef, undef, undef, .int .i64 0, .pointer (some ⟨hb, 0, none⟩), .pointer (some ⟨hb, 0, none⟩), .pointer (some ⟨hb, 0, none⟩), .tuple #[], .pointer (some ⟨hb, 0, none⟩), .pointer (some ⟨hb, 0, none⟩), .pointer (some ⟨hb, 0, none⟩), undef, undef, undef, undef, undef, undef, undef, undef, undef, undef, undef, undef, undef, undef, undef, undef, undef, undef, undef, undef, undef, undef, undef, undef, undef, undef, undef, undef, undef, undef, undef, undef, undef, undef, undef, undef]

set_option maxRecDepth 100000 in
set_option maxHeartbeats 1600000 in
theorem op_rest (base hb : Nat) (A1 : Option Addr) (n1 c1 n : Nat) (room : List Int) (us : List Un) (node : Int) (op : Bool) (w : World) (h : HostR w base hb 1 A1 n1 c1 n room us) (hok : clOk room us = true) :
    opRest.wp Tryz.prog (HoQ 6 base hb A1 n1 c1 n room (opnP room us node op) w) ⟨opT hb node op, []⟩ w := by
  obtain ⟨vs, zs, tk, X⟩ := h
  have HX := qh X
  have hl : us.length = n := X.un.1
  have hn10 := X.n
  have hb0 := X.ge
  have B1 := qh (Below.refl base w)
  have Hok := qh hok
  have Hl := qh hl
  have n1' : (0 : Int) ≤ (n : Int) := by omega
  have n2' : (n : Int) ≤ 10 := by omega
  have v1 : IntKind.i64.wrap ((n : Int) - 1) = (n : Int) - 1 := wr64 (by omega) (by omega)
  clear X hok hl
  simp only [opRest, opBody, Tryz.f31, Option.getD_some, opT]
  have c3 := HX.out.view.c3
  go_wp2_with fail
  refine (within_any node 0 ((n : Int) - 1) w).mono ?_; rintro e w3 ⟨rfl, rfl⟩
  clear c3
  cases hin : inR 0 ((n : Int) - 1) node with
  | false =>
    have Hin := qh (show inR 0 ((us.length : Int) - 1) node = false from by rw [Hl.out]; exact hin)
    clear hin
    go_wp2_with fail
    exact ⟨rfl, rfl, by rw [opnP_none Hok.out Hin.out]; rfl, by rw [opnP_none Hok.out Hin.out]; exact ⟨_, _, _, HX.out⟩, B1.out⟩
  | true =>
    obtain ⟨m0, m1⟩ := inR_iff.1 hin
    obtain ⟨k, rfl⟩ := Int.eq_ofNat_of_zero_le m0
    have Hin := qh (show inR 0 ((us.length : Int) - 1) (k : Int) = true from by rw [Hl.out]; exact hin)
    have hk : k < n := by omega
    have kl : (k : Int) < 10 := by omega
    obtain ⟨b, o, A', m', c', hA, lb, hc1, hc2, hmc, hrd⟩ := HX.out.view.un.at_ hk
    injection hA with hA
    injection hA with hA1 hA2
    subst hA1 hA2
    have hm := hrd.len
    clear hin hrd
    cases hop : (us[k]?.getD (false, [])).1 == op with
    | true =>
      have Ho := qh (show (us[k]?.getD (false, [])).1 = op from by simpa using hop)
      clear hop
      rw [Ho.out] at hc1
      have hee : (op == op) = true := by simp
      go_wp2_with fail
      exact ⟨rfl, rfl, by rw [opnP_twice Hok.out Hin.out Ho.out]; rfl, by rw [opnP_twice Hok.out Hin.out Ho.out]; exact ⟨_, _, _, HX.out⟩, B1.out⟩
    | false =>
      have Ho := qh (show (us[k]?.getD (false, [])).1 ≠ op from by simpa using hop)
      by_cases hbz : 0 < (us[k]?.getD (false, [])).2.length
      · have Hb := qh hbz
        have hmp : (0 : Int) < (m' : Int) := by omega
        clear hbz hm
        generalize (us[k]?.getD (false, [])).1 = o1 at hc1 hop
        go_wp2_with fail
        exact ⟨rfl, rfl, by rw [opnP_busy Hok.out Hin.out Ho.out Hb.out]; rfl, by rw [opnP_busy Hok.out Hin.out Ho.out Hb.out]; exact ⟨_, _, _, HX.out⟩, B1.out⟩
      · have Hb := qh hbz
        have hmp : ¬ (0 : Int) < (m' : Int) := by omega
        clear hbz hm
        have HS := qh (HX.out.setU (i := k * 2) (by omega) (.bool op) (HX.out.un.open_ hk))
        have hf1 := HX.out.blk.frozen (4 + k * 2)
        have B2 := qh (B1.out.setCell (p := ⟨hb, 4 + k * 2, none⟩) hb0 (.bool op))
        generalize (us[k]?.getD (false, [])).1 = o1 at hc1 hop
        go_wp2_with fail
        exact ⟨rfl, rfl, by rw [opnP_yes Hok.out Hin.out Ho.out Hb.out]; rfl, by rw [opnP_yes Hok.out Hin.out Ho.out Hb.out]; exact ⟨_, _, _, HS.out⟩, B2.out⟩

section
variable {H : Nat → Prop} {v : World} {base hb n1 c1 n : Nat} {A1 : Option Addr} {room : List Int} {us : List Un}
set_option maxRecDepth 100000 in
set_option maxHeartbeats 1000000 in
theorem openH_v (node : Int) (op : Bool) (h : HostR v base hb 0 A1 n1 c1 n room us) (hok : clOk room us = true) :
    CallsV Tryz.prog H 31 #[.pointer (some ⟨hb, 0, none⟩), .int .i64 node, .bool op] v (fun x v' => x = .int .i64 (opnP room us node op).2.2 ∧ HostR v' base hb 0 A1 n1 c1 n room (opnP room us node op).2.1 ∧ GB base v v') := by
  refine ⟨_, opBody, Tryz.func31, by kernel_rfl, by rfl, fun cs => ?_⟩
  have e : (#[Value.pointer (some ⟨hb, 0, none⟩), .int .i64 node, .bool op] ++ Array.replicate (Tryz.f31.ntmps - (#[Value.pointer (some ⟨hb, 0, none⟩), .int .i64 node, .bool op] : Array Value).size) undef) = #[.pointer (some ⟨hb, 0, none⟩), .int .i64 node, .bool op, undef, undef, undef, undef, undef, undef, undef, undef, undef, undef, undef, undef, undef, undef, undef, undef, undef, undef, undef, undef, undef, undef, undef, undef, undef, undef, undef, undef, undef, undef, undef, undef, undef, undef, undef, undef, undef, undef, undef, undef, undef, undef, undef, undef, undef, undef, undef] := by kernel_rfl
  obtain ⟨ri, rj, he⟩ := opBody_eq
  rw [e, he]
  clear e he
  refine KV.seqC anaA_good (Nm := fun v₁ a v' => a = ⟨#[.pointer (some ⟨hb, 0, none⟩), .int .i64 node, .bool op, undef, undef, undef, .int .i64 0, undef, undef, undef, undef, undef, undef, undef, undef, undef, undef, undef, undef, undef, undef, undef, undef, undef, undef, undef, undef, undef, undef, undef, undef, undef, undef, undef, undef, undef, undef, undef, undef, undef, undef, undef, undef, undef, undef, undef, undef, undef, undef, undef], []⟩ ∧ v' = v₁) (Rt := fun _ _ _ => False) (by kernel_rfl) (by kernel_rfl) rfl (by kernel_rfl) (fun v₁ hs => ?_) (fun v₁ a' v' hs hq => ?_) (fun _ _ _ _ _ h => h.elim)
  · simp only [opC0, opBody, Tryz.f31, Option.getD_some]
    go_wp2
  obtain ⟨rfl, rfl⟩ := hq
  refine KV.heap (v := v) ?_ ⟨hs.heap.symm, hs.os.symm, hs.output.symm⟩
  clear hs v'
  refine KV.ctl rfl (fun w => stepG_seq) ?_
  refine KV.ctl rfl (fun w => stepG_region) ?_
  rw [show List.range opOps1.size = [0, 1, 2, 3] from rfl]
  simp only [opOps1, opBody, Tryz.f31, Option.getD_some]
  refine KV.op anaA_good rfl (by rfl) (by decide) (by kernel_rfl) (fun t => anaA.noTr_spec (by kernel_rfl) t) (fun v₁ hs K' hK' => ?_)
  go_simp
  refine hK' _ _ ?_
  try walk_nrm
  clear hK' K'
  refine KV.heap (v := v) ?_ ⟨hs.heap.symm, hs.os.symm, hs.output.symm⟩
  clear hs v₁
  refine KV.op anaA_good rfl (by rfl) (by decide) (by kernel_rfl) (fun t => anaA.noTr_spec (by kernel_rfl) t) (fun v₁ hs K' hK' => ?_)
  go_simp
  refine hK' _ _ ?_
  try walk_nrm
  clear hK' K'
  refine KV.heap (v := v) ?_ ⟨hs.heap.symm, hs.os.symm, hs.output.symm⟩
  clear hs v₁
  refine KV.op anaA_good rfl (by rfl) (by decide) (by kernel_rfl) (fun t => anaA.noTr_spec (by kernel_rfl) t) (fun v₁ hs K' hK' => ?_)
  go_simp
  refine hK' _ _ ?_
  try walk_nrm
  clear hK' K'
  refine KV.heap (v := v) ?_ ⟨hs.heap.symm, hs.os.symm, hs.output.symm⟩
  clear hs v₁
  refine KV.lock (p := ⟨hb, 0, none⟩) muLib rfl (by rfl) (by decide) rfl (by kernel_rfl) rfl h.lk.1 h.lk.2 ?_
  try walk_nrm
  refine KV.ctl rfl (fun w => stepG_region_end) ?_
  refine KV.ctl rfl (fun w => stepG_seq) ?_
  refine KV.ctl rfl (fun w => stepG_region) ?_
  rw [show List.range opOps2.size = [0, 1, 2, 3] from rfl]
  simp only [opOps2, opBody, Tryz.f31, Option.getD_some]
  refine KV.op anaA_good rfl (by rfl) (by decide) (by kernel_rfl) (fun t => anaA.noTr_spec (by kernel_rfl) t) (fun v₁ hs K' hK' => ?_)
  go_simp
  refine hK' _ _ ?_
  try walk_nrm
  clear hK' K'
  refine KV.heap (v := v.setCell ⟨hb, 0, none⟩ (.int .i32 1)) ?_ ⟨hs.heap.symm, hs.os.symm, hs.output.symm⟩
  clear hs v₁
  refine KV.op anaA_good rfl (by rfl) (by decide) (by kernel_rfl) (fun t => anaA.noTr_spec (by kernel_rfl) t) (fun v₁ hs K' hK' => ?_)
  go_simp
  refine hK' _ _ ?_
  try walk_nrm
  clear hK' K'
  refine KV.heap (v := v.setCell ⟨hb, 0, none⟩ (.int .i32 1)) ?_ ⟨hs.heap.symm, hs.os.symm, hs.output.symm⟩
  clear hs v₁
  refine KV.op anaA_good rfl (by rfl) (by decide) (by kernel_rfl) (fun t => anaA.noTr_spec (by kernel_rfl) t) (fun v₁ hs K' hK' => ?_)
  go_simp
  refine hK' _ _ ?_
  try walk_nrm
  clear hK' K'
  refine KV.heap (v := v.setCell ⟨hb, 0, none⟩ (.int .i32 1)) ?_ ⟨hs.heap.symm, hs.os.symm, hs.output.symm⟩
  clear hs v₁
  refine KV.defer rfl (by rfl) (by decide) rfl ?_
  try walk_nrm
  refine KV.ctl rfl (fun w => stepG_region_end) ?_
  have h1 : HostR (v.setCell ⟨hb, 0, none⟩ (.int .i32 1)) base hb 1 A1 n1 c1 n room us := h.setL
  have g1 : GB base v (v.setCell ⟨hb, 0, none⟩ (.int .i32 1)) := GB.set h.ge _
  generalize v.setCell ⟨hb, 0, none⟩ (.int .i32 1) = v1 at h1 g1 ⊢
  refine KV.codeD anaA_good (ds := [dcall 57 #[.pointer (some ⟨hb, 0, none⟩)]]) (T := opT hb node op) (Q := HoQ 6 base hb A1 n1 c1 n room (opnP room us node op)) (by kernel_rfl) rfl (fun t => anaA.noTr_spec (by kernel_rfl) t) (by kernel_rfl) (fun v₁ hs => op_rest base hb A1 n1 c1 n room us node op v₁ (h1.same hs.heap) hok) (fun v₁ e a' v' h => .inr h.1) (fun v₁ a' v' hs hq => nomatch hq.1) (fun v₁ a' v' todo hs hq hd => ?_)
  obtain ⟨_, _, hx, hr, hbl⟩ := hq
  have g2 := g1.trans (GB.from hs (GB.of_below hbl))
  refine KV.unlock (L := muLink) muLib rfl hr.lk.1 hr.lk.2 (.stop ?_)
  exact ⟨_, ⟨a'.tmps, []⟩, todo, _, Tryz.func31, rfl, rfl, resultsC_tmp rfl a'.tmps, hx, hr.setL, g2.trans (GB.set hr.ge _)⟩
end

noncomputable def hcBody : Code := Tryz.f55.body.getD .skip
noncomputable def hcC0 : Code := match hcBody with | .seq a _ => a | _ => .skip
noncomputable def hcOps1 : Array Oper := match hcBody with | .seq _ (.seq (.region _ ops _) _) => ops | _ => #[]
noncomputable def hcOps2 : Array Oper := match hcBody with | .seq _ (.seq _ (.seq (.region _ ops _) _)) => ops | _ => #[]
noncomputable def hcRest : Code := match hcBody with | .seq _ (.seq _ (.seq _ r)) => r | _ => .skip
theorem hcBody_eq : ∃ i j, hcBody = .seq hcC0 (.seq (.region i hcOps1 false) (.seq (.region j hcOps2 false) hcRest)) := ⟨_, _, by rfl⟩
def hcT (hb gr : Nat) : Array Value := #[.pointer (some ⟨hb, 0, none⟩), undef, .pointer (some ⟨gr, 0, none⟩), .pointer (some ⟨hb, 0, none⟩), .pointer (some ⟨hb, 0, none⟩), .pointer (some ⟨hb, 0, none⟩), .tuple #[], .pointer (some ⟨hb, 0, none⟩), .pointer (some ⟨hb, 0, none⟩), .pointer (some ⟨hb, 0, none⟩), undef, undef, undef, undef, undef, undef, undef, undef, undef, undef, undef, undef, undef, undef, undef, undef, undef, undef]
def HcQ (hb gr : Nat) (n1 n : Nat) (room : List Int) (us : List Un) (w : World) (e : Exit) (a : Act) (w' : World) : Prop :=
  e = .ret ∧ a.defers = [] ∧ a.tmps.getD 2 undef = .pointer (some ⟨gr, 0, none⟩) ∧ ∃ A3 c3 A4 c4, w'.cell? ⟨hb, 0, none⟩ = some (.int .i32 1) ∧ w'.frozen? ⟨hb, 0, none⟩ = false ∧ (∃ cs, Blk w' hb 97 cs) ∧
    Blk w' gr 26 #[.slice A3 n1 c3, .slice A4 n c4] ∧ OwnC w' gr (.slice A3 n1 c3) (.slice A4 n c4) n1 n room us ∧ Below gr w w'

set_option maxRecDepth 100000 in
set_option maxHeartbeats 1600000 in
theorem hc_rest (hb gr : Nat) (A1 : Option Addr) (n1 c1 n : Nat) (room : List Int) (us : List Un) (w2 : World) (hV : HostV w2 hb A1 n1 c1 n room us) (hL : w2.cell? ⟨hb, 0, none⟩ = some (.int .i32 1)) (hF : w2.frozen? ⟨hb, 0, none⟩ = false)
    (hZ : Blk w2 gr 26 #[.slice none 0 0, .slice none 0 0]) (hK : ∃ cs, Blk w2 hb 97 cs) (hs : ShU us) (hn1 : n1 ≤ 1048576) (hn : n ≤ 10) (hlt : hb < gr) :
    hcRest.wp Tryz.prog (HcQ hb gr n1 n room us w2) ⟨hcT hb gr, []⟩ w2 := by
  obtain ⟨kcs, hK⟩ := hK
  have V1 := qh hV
  have L1 := qh hL
  have F1 := qh hF
  have Z1 := qh hZ
  have K1 := qh hK
  have B1 := qh (Below.refl gr w2)
  have n1' : (0 : Int) ≤ (n : Int) := by omega
  have n2' : (n : Int) ≤ 10 := by omega
  clear hV hL hF hZ hK
  simp only [hcRest, hcBody, Tryz.f55, Option.getD_some, hcT]
  go_wp2_with fail
  refine wp_region_mixL (.take 0 (.take 1 (.take 2 (.take 3 (.take 4 (.take 5 (.take 6 (.take 7 (.take 8 (.take 9 (.take 10 (.take 11 (.take 12 (.take 13 (.take 14 (.take 15 (.take 16 (.bar 17 (.bar 18 .nil))))))))))))))))))) [] (fun w' => w'.cell? ⟨hb, 2, none⟩ = some (.slice A1 n1 c1) ∧ w'.cell? ⟨hb, 3, none⟩ = some (.int .i64 (n : Int))) (by kernel_rfl) (by kernel_rfl) ⟨V1.out.c2, V1.out.c3⟩ (fun _ => ?_)
  repeat ((first | refine lxS (by rfl) (by rfl) ?_ | (refine lxT (v := ?_) (by rfl) (by rfl) (fun z y => ?_) ?_; rotate_left; (focus ((try dsimp only at y); (go_simp <;> with_reducible rfl); done)))); (try simp only [Act.put,pS,pZ,pC]))
  (refine lxB (by rfl) (fun K hK => ?_); go_simp)
  refine (copyOfC_any A1 (some ⟨hb, 4, none⟩) n1 c1 n n room us w2.drew ⟨V1.out.rm.drewN 1, V1.out.un.drewN 1⟩ hs hn1).mono ?_; rintro e w3 ⟨A3, c3, A4, c4, rfl, hoc, hb3⟩
  have up3 := (Below.refl w2.heap.size w2).drew.trans hb3
  have V3 := qh (V1.out.up up3)
  have lh2 := V1.out.lt
  have L3 := qh ((up3.cell (p := ⟨hb, 0, none⟩) lh2).trans L1.out)
  have F3 := qh ((up3.frozen (p := ⟨hb, 0, none⟩) lh2).trans F1.out)
  have Z3 := qh (Z1.out.below up3 Z1.out.lt)
  have K3 := qh (K1.out.below up3 K1.out.lt)
  have B3 := qh (B1.out.trans (up3.mono (show gr ≤ w2.heap.size by have := Z1.out.lt; omega)))
  have O3 := qh (hoc.low (show gr ≤ w2.drew.heap.size from by have := Z1.out.lt; show gr ≤ w2.heap.size; omega))
  have lz2 := Z1.out.lt
  have y2 := Z3.out.frozen 0
  have y3 := Z3.out.frozen 1
  have y0 := Z3.out.cell 0
  have y1 := Z3.out.cell 1
  simp only [gT, gZ, gS] at y0 y1
  clear hoc hb3 up3 V1 L1 F1 Z1 B1
  ((try dsimp only); refine nxK hK _ _ (⟨V3.out.c2, V3.out.c3⟩) ?_; clear hK K; (try simp only [Act.put,pS,pZ,pC]))
  (refine lxB (by rfl) (fun K hK => ?_); go_simp)
  clear y0 y1 y2 y3
  have KT := qh ((KeepTU.set_ Z3.out (by decide) (by decide) (by decide) 0 (.slice A3 n1 c3)).trans (KeepTU.set_ (Z3.out.set_ 0 (.slice A3 n1 c3)) (by decide) (by decide) (by decide) 1 (.slice A4 n c4)))
  have K9 := qh ((K3.out.far (p := ⟨gr, 0, none⟩) (by show hb ≠ gr; omega) (.slice A3 n1 c3)).far (p := ⟨gr, 1, none⟩) (by show hb ≠ gr; omega) (.slice A4 n c4))
  have EQ := qh ((Z3.out.set_ 0 (.slice A3 n1 c3)).set_ 1 (.slice A4 n c4))
  have B9 := qh ((B3.out.setCell (p := ⟨gr, 0, none⟩) (by show gr ≤ gr; omega) (.slice A3 n1 c3)).setCell (p := ⟨gr, 1, none⟩) (by show gr ≤ gr; omega) (.slice A4 n c4))
  have kk : ∀ q : Addr, q.block = hb → ((w3.setCell ⟨gr, 0, none⟩ (.slice A3 n1 c3)).setCell ⟨gr, 1, none⟩ (.slice A4 n c4)).cell? q = w3.cell? q := fun q hq => by
    rw [World.cell?_setCell_other _ _ _ _ (fun e => by subst e; simp at hq; omega), World.cell?_setCell_other _ _ _ _ (fun e => by subst e; simp at hq; omega)]
  have c2 := (kk ⟨hb, 2, none⟩ rfl).trans V3.out.c2
  have c3' := (kk ⟨hb, 3, none⟩ rfl).trans V3.out.c3
  have L9 := qh ((kk ⟨hb, 0, none⟩ rfl).trans L3.out)
  have F9 := qh (show ((w3.setCell ⟨gr, 0, none⟩ (.slice A3 n1 c3)).setCell ⟨gr, 1, none⟩ (.slice A4 n c4)).frozen? ⟨hb, 0, none⟩ = false from by rw [World.frozen?_setCell, World.frozen?_setCell]; exact F3.out)
  have C2 := qh c2
  have C3 := qh c3'
  clear kk c2 c3'
  ((try dsimp only); refine nxK hK _ _ (⟨C2.out, C3.out⟩) ?_; clear hK K; (try simp only [Act.put,pS,pZ,pC]))
  generalize (w3.setCell ⟨gr, 0, none⟩ (.slice A3 n1 c3)).setCell ⟨gr, 1, none⟩ (.slice A4 n c4) = w9 at KT EQ B9 L9 F9 K9 ⊢
  refine wpMixL_nil ?_
  go_wp2_with fail
  exact ⟨rfl, rfl, rfl, A3, c3, A4, c4, L9.out, F9.out, ⟨_, K9.out⟩, EQ.out, O3.out.keepTU KT.out, B9.out⟩

theorem results_cl {fn : Func} {t : Tmp} (hf : fn.results = #[.cell t 26]) {T : Array Value} {gr : Nat} {x y : Value} {w : World} (ht : T.getD t undef = .pointer (some ⟨gr, 0, none⟩)) (hb : Blk w gr 26 #[x, y]) :
    (results fn T).run Tryz.prog w = .ok (.agg #[x, y]) w := by
  have z0 : w.cell? ⟨gr, 0, none⟩ = some x := hb.cell 0
  have z1 : w.cell? ⟨gr, 1, none⟩ = some y := hb.cell 1
  rw [Array.getD_eq_getD_getElem?] at ht
  simp [results, hf, go_sem, ht, z0, z1]
theorem KeepTU.same {v w : World} (e : w.heap = v.heap) : KeepTU v w := fun b _ => by rw [e]

section
variable {H : Nat → Prop} {v : World} {hb n1 c1 n : Nat} {A1 : Option Addr} {room : List Int} {us : List Un}
set_option maxRecDepth 100000 in
set_option maxHeartbeats 1000000 in
theorem clusterH_v (h : HostP v hb A1 n1 c1 n room us) (hsh : ShU us) (hn1 : n1 ≤ 1048576) (hn : n ≤ 10) :
    CallsM Tryz.prog H 55 #[.pointer (some ⟨hb, 0, none⟩)] v (fun x v' => ∃ A3 c3 A4 c4, x = .agg #[.slice A3 n1 c3, .slice A4 n c4] ∧ OwnC v' v.heap.size (.slice A3 n1 c3) (.slice A4 n c4) n1 n room us ∧ GB hb v v') := by
  refine ⟨_, hcBody, Tryz.func55, by kernel_rfl, by rfl, fun cs => ?_⟩
  have e : (#[Value.pointer (some ⟨hb, 0, none⟩)] ++ Array.replicate (Tryz.f55.ntmps - (#[Value.pointer (some ⟨hb, 0, none⟩)] : Array Value).size) undef) = #[.pointer (some ⟨hb, 0, none⟩), undef, undef, undef, undef, undef, undef, undef, undef, undef, undef, undef, undef, undef, undef, undef, undef, undef, undef, undef, undef, undef, undef, undef, undef, undef, undef, undef] := by kernel_rfl
  obtain ⟨ri, rj, he⟩ := hcBody_eq
  rw [e, he]
  clear e he
  have hlt := h.v.lt
  refine KV.seqC anaA_good (Nm := fun v₁ a v' => a = ⟨#[.pointer (some ⟨hb, 0, none⟩), undef, .pointer (some ⟨v₁.heap.size, 0, none⟩), undef, undef, undef, undef, undef, undef, undef, undef, undef, undef, undef, undef, undef, undef, undef, undef, undef, undef, undef, undef, undef, undef, undef, undef, undef], []⟩ ∧ v' = v₁.alloc (.cells #[.slice none 0 0, .slice none 0 0] 26)) (Rt := fun _ _ _ => False) (by kernel_rfl) (by kernel_rfl) rfl (by kernel_rfl) (fun v₁ hs => ?_) (fun v₁ a' v' hs hq => ?_) (fun _ _ _ _ _ h => h.elim)
  · simp only [hcC0, hcBody, Tryz.f55, Option.getD_some]
    go_wp2
  obtain ⟨rfl, rfl⟩ := hq
  rw [hs.heap]
  refine KV.heap (v := v.alloc (.cells #[.slice none 0 0, .slice none 0 0] 26)) ?_ ⟨by show v.heap.push _ = v₁.heap.push _; rw [hs.heap], hs.os.symm, hs.output.symm⟩
  clear hs v₁
  have hal := alloc_up v (.cells #[.slice none 0 0, .slice none 0 0] 26)
  have hZ : Blk (v.alloc (.cells #[.slice none 0 0, .slice none 0 0] 26)) v.heap.size 26 #[.slice none 0 0, .slice none 0 0] := Blk.new v _ _
  have hk := (hal.cell (p := ⟨hb, 0, none⟩) hlt).trans h.lock
  have hf := (hal.frozen (p := ⟨hb, 0, none⟩) hlt).trans h.free
  have hV := h.v.up hal
  obtain ⟨hcs, hbk⟩ := h.bk
  have hK := hbk.alloc (.cells #[.slice none 0 0, .slice none 0 0] 26)
  have g0 : GB hb v (v.alloc (.cells #[.slice none 0 0, .slice none 0 0] 26)) := GB.new _ (by omega)
  clear hal h hbk
  generalize hgr : v.heap.size = gr at hZ hlt ⊢
  generalize v.alloc (.cells #[.slice none 0 0, .slice none 0 0] 26) = v0 at hZ hk hf hV hK g0 ⊢
  refine KV.ctl rfl (fun w => stepG_seq) ?_
  refine KV.ctl rfl (fun w => stepG_region) ?_
  rw [show List.range hcOps1.size = [0, 1, 2, 3] from rfl]
  simp only [hcOps1, hcBody, Tryz.f55, Option.getD_some]
  refine KV.op anaA_good rfl (by rfl) (by decide) (by kernel_rfl) (fun t => anaA.noTr_spec (by kernel_rfl) t) (fun v₁ hs K' hK' => ?_)
  go_simp
  refine hK' _ _ ?_
  try walk_nrm
  clear hK' K'
  refine KV.heap (v := v0) ?_ ⟨hs.heap.symm, hs.os.symm, hs.output.symm⟩
  clear hs v₁
  refine KV.op anaA_good rfl (by rfl) (by decide) (by kernel_rfl) (fun t => anaA.noTr_spec (by kernel_rfl) t) (fun v₁ hs K' hK' => ?_)
  go_simp
  refine hK' _ _ ?_
  try walk_nrm
  clear hK' K'
  refine KV.heap (v := v0) ?_ ⟨hs.heap.symm, hs.os.symm, hs.output.symm⟩
  clear hs v₁
  refine KV.op anaA_good rfl (by rfl) (by decide) (by kernel_rfl) (fun t => anaA.noTr_spec (by kernel_rfl) t) (fun v₁ hs K' hK' => ?_)
  go_simp
  refine hK' _ _ ?_
  try walk_nrm
  clear hK' K'
  refine KV.heap (v := v0) ?_ ⟨hs.heap.symm, hs.os.symm, hs.output.symm⟩
  clear hs v₁
  refine KV.lock (p := ⟨hb, 0, none⟩) muLib rfl (by rfl) (by decide) rfl (by kernel_rfl) rfl hk hf ?_
  try walk_nrm
  refine KV.ctl rfl (fun w => stepG_region_end) ?_
  refine KV.ctl rfl (fun w => stepG_seq) ?_
  refine KV.ctl rfl (fun w => stepG_region) ?_
  rw [show List.range hcOps2.size = [0, 1, 2, 3] from rfl]
  simp only [hcOps2, hcBody, Tryz.f55, Option.getD_some]
  refine KV.op anaA_good rfl (by rfl) (by decide) (by kernel_rfl) (fun t => anaA.noTr_spec (by kernel_rfl) t) (fun v₁ hs K' hK' => ?_)
  go_simp
  refine hK' _ _ ?_
  try walk_nrm
  clear hK' K'
  refine KV.heap (v := v0.setCell ⟨hb, 0, none⟩ (.int .i32 1)) ?_ ⟨hs.heap.symm, hs.os.symm, hs.output.symm⟩
  clear hs v₁
  refine KV.op anaA_good rfl (by rfl) (by decide) (by kernel_rfl) (fun t => anaA.noTr_spec (by kernel_rfl) t) (fun v₁ hs K' hK' => ?_)
  go_simp
  refine hK' _ _ ?_
  try walk_nrm
  clear hK' K'
  refine KV.heap (v := v0.setCell ⟨hb, 0, none⟩ (.int .i32 1)) ?_ ⟨hs.heap.symm, hs.os.symm, hs.output.symm⟩
  clear hs v₁
  refine KV.op anaA_good rfl (by rfl) (by decide) (by kernel_rfl) (fun t => anaA.noTr_spec (by kernel_rfl) t) (fun v₁ hs K' hK' => ?_)
  go_simp
  refine hK' _ _ ?_
  try walk_nrm
  clear hK' K'
  refine KV.heap (v := v0.setCell ⟨hb, 0, none⟩ (.int .i32 1)) ?_ ⟨hs.heap.symm, hs.os.symm, hs.output.symm⟩
  clear hs v₁
  refine KV.defer rfl (by rfl) (by decide) rfl ?_
  try walk_nrm
  refine KV.ctl rfl (fun w => stepG_region_end) ?_
  have hV1 := hV.lockV (v := .int .i32 1) hk
  have hL1 := World.cell?_setCell_same v0 ⟨hb, 0, none⟩ (.int .i32 1) hk
  have hF1 : (v0.setCell ⟨hb, 0, none⟩ (.int .i32 1)).frozen? ⟨hb, 0, none⟩ = false := by rw [World.frozen?_setCell]; exact hf
  have hZ1 := hZ.far (p := ⟨hb, 0, none⟩) (by show gr ≠ hb; omega) (.int .i32 1)
  have hK1 := hK.set_ 0 (.int .i32 1)
  have g1 : GB hb v (v0.setCell ⟨hb, 0, none⟩ (.int .i32 1)) := g0.trans (GB.set (p := ⟨hb, 0, none⟩) (Nat.le_refl hb) _)
  generalize v0.setCell ⟨hb, 0, none⟩ (.int .i32 1) = v1 at hV1 hL1 hF1 hZ1 hK1 g1 ⊢
  clear hV hk hf hZ hK g0
  refine KV.codeD anaA_good (ds := [dcall 57 #[.pointer (some ⟨hb, 0, none⟩)]]) (T := hcT hb gr) (Q := HcQ hb gr n1 n room us) (by kernel_rfl) rfl (fun t => anaA.noTr_spec (by kernel_rfl) t) (by kernel_rfl)
    (fun v₁ hs => hc_rest hb gr A1 n1 c1 n room us v₁ (hV1.same hs.heap) ((World.cell?_of_block (by rw [hs.heap])).trans hL1) (by unfold World.frozen?; rw [hs.heap]; exact hF1) (ViewOf_cells_of hZ1 hs.heap) ⟨_, ViewOf_cells_of hK1 hs.heap⟩ hsh hn1 hn hlt)
    (fun v₁ e a' v' h => .inr h.1) (fun v₁ a' v' hs hq => nomatch hq.1) (fun v₁ a' v' todo hs hq hd => ?_)
  obtain ⟨_, _, hx, A3, c3, A4, c4, hl2, hf2, ⟨kc, hk2⟩, hz2, hoc, hbl⟩ := hq
  have g2 := g1.trans ((GB.from hs (GB.of_below hbl)).mono (by omega))
  refine KV.unlock (L := muLink) muLib rfl hl2 hf2 (.stop ?_)
  have hz3 := hz2.far (p := ⟨hb, 0, none⟩) (by show gr ≠ hb; omega) (.int .i32 0)
  have kt := KeepTU.set_ hk2 (by decide) (by decide) (by decide) 0 (.int .i32 0)
  exact ⟨_, ⟨a'.tmps, []⟩, todo, _, Tryz.func55, rfl, rfl, results_cl rfl hx hz3, A3, c3, A4, c4, rfl, hoc.keepTU kt, g2.trans (GB.set (p := ⟨hb, 0, none⟩) (Nat.le_refl hb) _)⟩
end
end Go.Proofs.YtlcgbnmmbheleaaGreat

namespace Go.Proofs.YtlcgbnmmbheleaaGreat
open Go Go.Conc Go.RowKit
set_option linter.unusedVariables false
set_option linter.unusedSimpArgs false

theorem results_cl2 {fn : Func} {t u : Tmp} (hf : fn.results = #[.cell t 26, .tmp u]) {T : Array Value} {gr : Nat} {x y z : Value} {w : World} (ht : T.getD t undef = .pointer (some ⟨gr, 0, none⟩)) (hu : T.getD u undef = z) (hb : Blk w gr 26 #[x, y]) :
    (results fn T).run Tryz.prog w = .ok (.tuple #[.agg #[x, y], z]) w := by
  have z0 : w.cell? ⟨gr, 0, none⟩ = some x := hb.cell 0
  have z1 : w.cell? ⟨gr, 1, none⟩ = some y := hb.cell 1
  rw [Array.getD_eq_getD_getElem?] at ht hu
  simp [results, hf, go_sem, ht, hu, z0, z1]

noncomputable def ocBody : Code := Tryz.f30.body.getD .skip
noncomputable def ocC0 : Code := match ocBody with | .seq a _ => a | _ => .skip
noncomputable def ocOps1 : Array Oper := match ocBody with | .seq _ (.seq (.region _ ops _) _) => ops | _ => #[]
theorem ocBody_eq : ∃ i, ocBody = .seq ocC0 (.seq (.region i ocOps1 false) .ret) := ⟨_, by rfl⟩
section
variable {H : Nat → Prop} {v : World} {base hb n1 c1 n gn go : Nat} {A1 : Option Addr} {room : List Int} {us : List Un}
set_option maxRecDepth 100000 in
set_option maxHeartbeats 1000000 in
theorem clusterOpen1_v (node : Int) (op : Bool) (h : HostR v base hb 0 A1 n1 c1 n room us) (hok : clOk room us = true) (hn : v.cell? ⟨gn, 0, none⟩ = some (.int .i64 node)) (ho : v.cell? ⟨go, 0, none⟩ = some (.bool op)) :
    CallsV Tryz.prog H 30 #[.pointer (some ⟨hb, 0, none⟩), .pointer (some ⟨gn, 0, none⟩), .pointer (some ⟨go, 0, none⟩)] v (fun x v' => x = .int .i64 (opnP room us node op).2.2 ∧ HostR v' base hb 0 A1 n1 c1 n room (opnP room us node op).2.1 ∧ GB base v v') := by
  refine ⟨_, ocBody, Tryz.func30, by kernel_rfl, by rfl, fun cs => ?_⟩
  have e : (#[Value.pointer (some ⟨hb, 0, none⟩), .pointer (some ⟨gn, 0, none⟩), .pointer (some ⟨go, 0, none⟩)] ++ Array.replicate (Tryz.f30.ntmps - (#[Value.pointer (some ⟨hb, 0, none⟩), .pointer (some ⟨gn, 0, none⟩), .pointer (some ⟨go, 0, none⟩)] : Array Value).size) undef) = #[.pointer (some ⟨hb, 0, none⟩), .pointer (some ⟨gn, 0, none⟩), .pointer (some ⟨go, 0, none⟩), undef, undef, undef, undef, undef, undef] := by kernel_rfl
  obtain ⟨ri, he⟩ := ocBody_eq
  rw [e, he]
  clear e he
  refine KV.seqC anaA_good (Nm := fun v₁ a v' => a = ⟨#[.pointer (some ⟨hb, 0, none⟩), .pointer (some ⟨gn, 0, none⟩), .pointer (some ⟨go, 0, none⟩), undef, .int .i64 0, undef, undef, undef, undef], []⟩ ∧ v' = v₁) (Rt := fun _ _ _ => False) (by kernel_rfl) (by kernel_rfl) rfl (by kernel_rfl) (fun v₁ hs => ?_) (fun v₁ a' v' hs hq => ?_) (fun _ _ _ _ _ h => h.elim)
  · simp only [ocC0, ocBody, Tryz.f30, Option.getD_some]
    go_wp2
  obtain ⟨rfl, rfl⟩ := hq
  refine KV.heap (v := v) ?_ ⟨hs.heap.symm, hs.os.symm, hs.output.symm⟩
  clear hs v'
  refine KV.ctl rfl (fun w => stepG_seq) ?_
  refine KV.ctl rfl (fun w => stepG_region) ?_
  rw [show List.range ocOps1.size = [0, 1, 2, 3, 4] from rfl]
  simp only [ocOps1, ocBody, Tryz.f30, Option.getD_some]
  refine KV.op anaA_good rfl (by rfl) (by decide) (by kernel_rfl) (fun t => anaA.noTr_spec (by kernel_rfl) t) (fun v₁ hs K' hK' => ?_)
  go_simp
  refine hK' _ _ ?_
  try walk_nrm
  clear hK' K'
  refine KV.heap (v := v) ?_ ⟨hs.heap.symm, hs.os.symm, hs.output.symm⟩
  clear hs v₁
  refine KV.op anaA_good rfl (by rfl) (by decide) (by kernel_rfl) (fun t => anaA.noTr_spec (by kernel_rfl) t) (fun v₁ hs K' hK' => ?_)
  have x0 := hs.cell hn
  go_simp
  refine hK' _ _ ?_
  try walk_nrm
  clear hK' K' x0
  refine KV.heap (v := v) ?_ ⟨hs.heap.symm, hs.os.symm, hs.output.symm⟩
  clear hs v₁
  refine KV.op anaA_good rfl (by rfl) (by decide) (by kernel_rfl) (fun t => anaA.noTr_spec (by kernel_rfl) t) (fun v₁ hs K' hK' => ?_)
  have x0 := hs.cell ho
  go_simp
  refine hK' _ _ ?_
  try walk_nrm
  clear hK' K' x0
  refine KV.heap (v := v) ?_ ⟨hs.heap.symm, hs.os.symm, hs.output.symm⟩
  clear hs v₁
  refine KV.callV rfl (by rfl) (by decide) rfl (Post := fun x v' => x = .int .i64 (opnP room us node op).2.2 ∧ HostR v' base hb 0 A1 n1 c1 n room (opnP room us node op).2.1 ∧ GB base v v') ?_ (fun x v3 hp => ?_)
  · have hus := openH_v (H := H) node op h hok
    simpa [Act.eval, Act.put] using hus
  obtain ⟨rfl, h3, g3⟩ := hp
  generalize (opnP room us node op).2.2 = code
  try walk_nrm
  refine KV.op anaA_good rfl (by rfl) (by decide) (by kernel_rfl) (fun t => anaA.noTr_spec (by kernel_rfl) t) (fun v₁ hs K' hK' => ?_)
  go_simp
  refine hK' _ _ ?_
  try walk_nrm
  clear hK' K'
  refine KV.heap (v := v3) ?_ ⟨hs.heap.symm, hs.os.symm, hs.output.symm⟩
  clear hs v₁
  refine KV.ctl rfl (fun w => stepG_region_end) ?_
  refine KV.endC anaA_good (Rt := fun v₁ a v' => a.defers = [] ∧ a.tmps.getD 4 undef = .int .i64 code ∧ v' = v₁) (by kernel_rfl) (by kernel_rfl) rfl (by kernel_rfl) (fun v₁ hs => ?_) (fun v₁ a' v' todo hs hq => ?_)
  · go_wp2
  · obtain ⟨q1, q2, rfl⟩ := hq
    exact ⟨_, a', todo, _, Tryz.func30, q1, rfl, resultsC_tmp rfl a'.tmps, q2, h3.same hs.heap, g3.same hs⟩
end

noncomputable def dnBody : Code := Tryz.f29.body.getD .skip
noncomputable def dnC0 : Code := match dnBody with | .seq a _ => a | _ => .skip
noncomputable def dnC1 : Code := match dnBody with | .seq _ (.seq a _) => a | _ => .skip
noncomputable def dnC3 : Code := match dnBody with | .seq _ (.seq _ (.seq a _)) => a | _ => .skip
noncomputable def dnOps4 : Array Oper := match dnBody with | .seq _ (.seq _ (.seq _ (.seq (.region _ ops _) _))) => ops | _ => #[]
noncomputable def dnOps5 : Array Oper := match dnBody with | .seq _ (.seq _ (.seq _ (.seq _ (.seq (.region _ ops _) _)))) => ops | _ => #[]
theorem dnBody_eq : ∃ i j, dnBody = .seq dnC0 (.seq dnC1 (.seq dnC3 (.seq (.region i dnOps4 false) (.seq (.region j dnOps5 false) .ret)))) := ⟨_, _, by rfl⟩
set_option maxRecDepth 100000 in
theorem dn_c1 (F : FuncId) (caps : Array Value) (A1 A2 : Option Addr) (n1 c1 n2 c2 gb : Nat) (room : List Int) (us : List Un) (v : World) (h : RdC v A1 A2 n1 n2 room us) (hok : clOk room us = true) (hbox : Blk v gb 26 #[.slice A1 n1 c1, .slice A2 n2 c2]) :
    dnC1.wp Tryz.prog (fun e a v' => (e = .normal ∧ a = ⟨#[.agg #[.slice A1 n1 c1, .slice A2 n2 c2], .func (.func F) #[] caps, .pointer (some ⟨gb, 0, none⟩), undef, .pointer (some ⟨gb + 1, 0, none⟩), .int .i64 0, undef, undef, .agg #[.slice A1 n1 c1, .slice A2 n2 c2], .bool true, .bool false, undef, undef, undef, undef, undef, undef, undef, undef, undef], []⟩ ∧ GR v v') ∨ (e = .ret ∧ False)) ⟨#[.agg #[.slice A1 n1 c1, .slice A2 n2 c2], .func (.func F) #[] caps, .pointer (some ⟨gb, 0, none⟩), undef, .pointer (some ⟨gb + 1, 0, none⟩), .int .i64 0, undef, undef, undef, undef, undef, undef, undef, undef, undef, undef, undef, undef, undef, undef], []⟩ v := by
  have x0 := hbox.cell 0
  have x1 := hbox.cell 1
  simp only [gT, gZ, gS] at x0 x1
  have Hr := qh h
  have Hok := qh hok
  clear h hbox hok
  simp only [dnC1, dnBody, Tryz.f29, Option.getD_some]
  go_wp2_with fail
  clear x0 x1
  refine (clusterValidI_any A1 A2 n1 c1 n2 c2 room us v Hr.out (clOk_sh Hok.out)).mono ?_; rintro e w2 ⟨rfl, hb2⟩
  have B2 := qh hb2
  clear hb2
  rw [Hok.out]
  go_wp2_with fail
  exact below_gr B2.out
set_option maxRecDepth 100000 in
theorem dn_c3 (F : FuncId) (caps : Array Value) (A1 A2 : Option Addr) (n1 c1 n2 c2 gb : Nat) (room : List Int) (us : List Un) (v : World) (h : RdC v A1 A2 n1 n2 room us) (hok : clOk room us = true) (hbox : Blk v gb 26 #[.slice A1 n1 c1, .slice A2 n2 c2]) :
    dnC3.wp Tryz.prog (fun e a v' => (e = .normal ∧ ∃ hb A3 c3, a = ⟨#[.agg #[.slice A1 n1 c1, .slice A2 n2 c2], .func (.func F) #[] caps, .pointer (some ⟨gb, 0, none⟩), undef, .pointer (some ⟨gb + 1, 0, none⟩), .int .i64 0, .pointer (some ⟨hb, 0, none⟩), undef, .agg #[.slice A1 n1 c1, .slice A2 n2 c2], .bool true, .bool false, undef, .agg #[.slice A1 n1 c1, .slice A2 n2 c2], .pointer (some ⟨hb, 0, none⟩), undef, undef, undef, undef, undef, undef], []⟩ ∧ HostR v' v.heap.size hb 0 A3 n1 c3 n2 room us ∧ GR v v') ∨ (e = .ret ∧ False)) ⟨#[.agg #[.slice A1 n1 c1, .slice A2 n2 c2], .func (.func F) #[] caps, .pointer (some ⟨gb, 0, none⟩), undef, .pointer (some ⟨gb + 1, 0, none⟩), .int .i64 0, undef, undef, .agg #[.slice A1 n1 c1, .slice A2 n2 c2], .bool true, .bool false, undef, undef, undef, undef, undef, undef, undef, undef, undef], []⟩ v := by
  have x0 := hbox.cell 0
  have x1 := hbox.cell 1
  simp only [gT, gZ, gS] at x0 x1
  have Hr := qh h
  have Hok := qh hok
  clear h hbox hok
  simp only [dnC3, dnBody, Tryz.f29, Option.getD_some]
  go_wp2_with fail
  clear x0 x1
  refine (hostOf_any A1 A2 n1 c1 n2 c2 room us v Hr.out Hok.out).mono ?_; rintro e w2 ⟨hb, A3, c3, rfl, hh, hb2⟩
  have B2 := qh hb2
  have H2 := qh hh
  clear hb2 hh
  go_wp2_with fail
  exact ⟨⟨_, _, H2.out⟩, below_gr B2.out⟩

section
variable {H : Nat → Prop} {v : World} {n1 c1 n2 c2 : Nat} {A1 A2 : Option Addr} {room : List Int} {us : List Un} {F : FuncId} {caps : Array Value} {us' : List Un} {code : Int}
set_option maxRecDepth 100000 in
set_option maxHeartbeats 1000000 in
theorem done_v (h : RdC v A1 A2 n1 n2 room us) (hok : clOk room us = true) (hok' : clOk room us' = true)
    (hF : ∀ W base hb A3 c3, GB v.heap.size v W → v.heap.size ≤ base → HostR W base hb 0 A3 n1 c3 n2 room us → CallsM Tryz.prog H F (#[.pointer (some ⟨hb, 0, none⟩)] ++ caps) W (fun x v' => x = .int .i64 code ∧ HostR v' base hb 0 A3 n1 c3 n2 room us' ∧ GB base W v')) :
    CallsM Tryz.prog H 29 #[.agg #[.slice A1 n1 c1, .slice A2 n2 c2], .func (.func F) #[] caps] v (fun x v' => ∃ A3 c3 A4 c4, x = .tuple #[.agg #[.slice A3 n1 c3, .slice A4 n2 c4], .int .i64 code] ∧ OwnC v' v.heap.size (.slice A3 n1 c3) (.slice A4 n2 c4) n1 n2 room us' ∧ GB v.heap.size v v') := by
  refine ⟨_, dnBody, Tryz.func29, by kernel_rfl, by rfl, fun cs => ?_⟩
  have e : (#[Value.agg #[.slice A1 n1 c1, .slice A2 n2 c2], .func (.func F) #[] caps] ++ Array.replicate (Tryz.f29.ntmps - (#[Value.agg #[.slice A1 n1 c1, .slice A2 n2 c2], .func (.func F) #[] caps] : Array Value).size) undef) = #[.agg #[.slice A1 n1 c1, .slice A2 n2 c2], .func (.func F) #[] caps, undef, undef, undef, undef, undef, undef, undef, undef, undef, undef, undef, undef, undef, undef, undef, undef, undef, undef] := by kernel_rfl
  obtain ⟨ri, rj, he⟩ := dnBody_eq
  rw [e, he]
  clear e he
  have hl1 := h.a.len
  have hl2 := h.b.len
  have f1 := clOk_facts hok
  refine KV.seqC anaA_good (Nm := fun v₁ a v' => a = ⟨#[.agg #[.slice A1 n1 c1, .slice A2 n2 c2], .func (.func F) #[] caps, .pointer (some ⟨v₁.heap.size, 0, none⟩), undef, .pointer (some ⟨v₁.heap.size + 1, 0, none⟩), .int .i64 0, undef, undef, undef, undef, undef, undef, undef, undef, undef, undef, undef, undef, undef, undef], []⟩ ∧ v' = (v₁.alloc (.cells #[.slice A1 n1 c1, .slice A2 n2 c2] 26)).alloc (.cells #[.slice none 0 0, .slice none 0 0] 26)) (Rt := fun _ _ _ => False) (by kernel_rfl) (by kernel_rfl) rfl (by kernel_rfl) (fun v₁ hs => ?_) (fun v₁ a' v' hs hq => ?_) (fun _ _ _ _ _ h => h.elim)
  · simp only [dnC0, dnBody, Tryz.f29, Option.getD_some]
    go_wp2
  obtain ⟨rfl, rfl⟩ := hq
  rw [hs.heap]
  refine KV.heap (v := (v.alloc (.cells #[.slice A1 n1 c1, .slice A2 n2 c2] 26)).alloc (.cells #[.slice none 0 0, .slice none 0 0] 26)) ?_ ((hs.alloc _).alloc _).sym
  clear hs v₁
  have sz : (v.alloc (.cells #[.slice A1 n1 c1, .slice A2 n2 c2] 26)).heap.size = v.heap.size + 1 := World.size_alloc _ _
  have hZ := Blk.new (v.alloc (.cells #[.slice A1 n1 c1, .slice A2 n2 c2] 26)) 26 #[.slice none 0 0, .slice none 0 0]
  rw [sz] at hZ
  have B1 := (alloc_up v (.cells #[.slice A1 n1 c1, .slice A2 n2 c2] 26)).alloc (by rw [sz]; omega) (.cells #[.slice none 0 0, .slice none 0 0] 26)
  have P1 := (Blk.new v 26 #[.slice A1 n1 c1, .slice A2 n2 c2]).alloc (.cells #[.slice none 0 0, .slice none 0 0] 26)
  have H1 := h.up B1
  have g1 := GB.of_below B1
  clear sz B1
  generalize hgb : v.heap.size = gb at P1 hZ g1 hF ⊢
  generalize (v.alloc (.cells #[.slice A1 n1 c1, .slice A2 n2 c2] 26)).alloc (.cells #[.slice none 0 0, .slice none 0 0] 26) = v1 at P1 hZ g1 H1 ⊢
  refine KV.seqC anaA_good (Nm := fun v₁ a v' => a = ⟨#[.agg #[.slice A1 n1 c1, .slice A2 n2 c2], .func (.func F) #[] caps, .pointer (some ⟨gb, 0, none⟩), undef, .pointer (some ⟨gb + 1, 0, none⟩), .int .i64 0, undef, undef, .agg #[.slice A1 n1 c1, .slice A2 n2 c2], .bool true, .bool false, undef, undef, undef, undef, undef, undef, undef, undef, undef], []⟩ ∧ GR v₁ v') (Rt := fun _ _ _ => False) (by kernel_rfl) (by kernel_rfl) rfl (by kernel_rfl) (fun v₁ hs => ?_) (fun v₁ a' v' hs hq => ?_) (fun _ _ _ _ _ h => h.elim)
  · exact dn_c1 F caps A1 A2 n1 c1 n2 c2 gb room us v₁ (H1.same hs.heap) hok (ViewOf_cells_of P1 hs.heap)
  obtain ⟨rfl, hg⟩ := hq
  replace hg := GR.from hs hg
  have lz := hZ.lt
  have g2 := g1.trans (GB.of_gr hg (by omega))
  have P2 := P1.grr hg
  have Z2 := hZ.grr hg
  have H2 := H1.gr hg
  clear hg hs P1 hZ H1 g1 lz
  generalize v' = v2 at g2 P2 Z2 H2 ⊢
  refine KV.seqC anaA_good (Nm := fun v₁ a v' => ∃ hb A3 c3, a = ⟨#[.agg #[.slice A1 n1 c1, .slice A2 n2 c2], .func (.func F) #[] caps, .pointer (some ⟨gb, 0, none⟩), undef, .pointer (some ⟨gb + 1, 0, none⟩), .int .i64 0, .pointer (some ⟨hb, 0, none⟩), undef, .agg #[.slice A1 n1 c1, .slice A2 n2 c2], .bool true, .bool false, undef, .agg #[.slice A1 n1 c1, .slice A2 n2 c2], .pointer (some ⟨hb, 0, none⟩), undef, undef, undef, undef, undef, undef], []⟩ ∧ HostR v' v₁.heap.size hb 0 A3 n1 c3 n2 room us ∧ GR v₁ v') (Rt := fun _ _ _ => False) (by kernel_rfl) (by kernel_rfl) rfl (by kernel_rfl) (fun v₁ hs => ?_) (fun v₁ a' v' hs hq => ?_) (fun _ _ _ _ _ h => h.elim)
  · exact dn_c3 F caps A1 A2 n1 c1 n2 c2 gb room us v₁ (H2.same hs.heap) hok (ViewOf_cells_of P2 hs.heap)
  obtain ⟨hb, A3, c3, rfl, hh, hg⟩ := hq
  rw [hs.heap] at hh
  replace hg := GR.from hs hg
  have lz := Z2.lt
  have g3 := g2.trans (GB.of_gr hg (by omega))
  have Z3 := Z2.grr hg
  have hge := hh.ge
  clear hg hs P2 H2 g2
  generalize v2.heap.size = base at hh lz hge
  generalize v' = v3 at g3 Z3 hh ⊢
  refine KV.ctl rfl (fun w => stepG_seq) ?_
  refine KV.ctl rfl (fun w => stepG_region) ?_
  rw [show List.range dnOps4.size = [0, 1, 2, 3] from rfl]
  simp only [dnOps4, dnBody, Tryz.f29, Option.getD_some]
  refine KV.op anaA_good rfl (by rfl) (by decide) (by kernel_rfl) (fun t => anaA.noTr_spec (by kernel_rfl) t) (fun v₁ hs K' hK' => ?_)
  go_simp
  refine hK' _ _ ?_
  try walk_nrm
  clear hK' K'
  refine KV.heap (v := v3) ?_ ⟨hs.heap.symm, hs.os.symm, hs.output.symm⟩
  clear hs v₁
  refine KV.op anaA_good rfl (by rfl) (by decide) (by kernel_rfl) (fun t => anaA.noTr_spec (by kernel_rfl) t) (fun v₁ hs K' hK' => ?_)
  go_simp
  refine hK' _ _ ?_
  try walk_nrm
  clear hK' K'
  refine KV.heap (v := v3) ?_ ⟨hs.heap.symm, hs.os.symm, hs.output.symm⟩
  clear hs v₁
  refine KV.callT (f := F) (caps := caps) rfl (by rfl) (by decide) rfl rfl (Post := fun x v' => x = .int .i64 code ∧ HostR v' base hb 0 A3 n1 c3 n2 room us' ∧ GB base v3 v') ?_ (fun x v4 hp => ?_)
  · have hus := hF v3 base hb A3 c3 g3 (by omega) hh
    simpa [Act.eval, Act.put] using hus
  obtain ⟨rfl, h4, g4⟩ := hp
  have Z4 := GB.blk Z3 g4 (by omega)
  replace g4 := g3.trans (g4.mono (by omega))
  clear g3 Z3 hh
  try walk_nrm
  refine KV.op anaA_good rfl (by rfl) (by decide) (by kernel_rfl) (fun t => anaA.noTr_spec (by kernel_rfl) t) (fun v₁ hs K' hK' => ?_)
  go_simp
  refine hK' _ _ ?_
  try walk_nrm
  clear hK' K'
  refine KV.heap (v := v4) ?_ ⟨hs.heap.symm, hs.os.symm, hs.output.symm⟩
  clear hs v₁
  refine KV.ctl rfl (fun w => stepG_region_end) ?_
  refine KV.ctl rfl (fun w => stepG_seq) ?_
  refine KV.ctl rfl (fun w => stepG_region) ?_
  rw [show List.range dnOps5.size = [0, 1, 2, 3, 4] from rfl]
  simp only [dnOps5, dnBody, Tryz.f29, Option.getD_some]
  refine KV.op anaA_good rfl (by rfl) (by decide) (by kernel_rfl) (fun t => anaA.noTr_spec (by kernel_rfl) t) (fun v₁ hs K' hK' => ?_)
  go_simp
  refine hK' _ _ ?_
  try walk_nrm
  clear hK' K'
  refine KV.heap (v := v4) ?_ ⟨hs.heap.symm, hs.os.symm, hs.output.symm⟩
  clear hs v₁
  refine KV.callM rfl (by rfl) (by decide) rfl (Post := fun x v' => ∃ A3 c3 A4 c4, x = .agg #[.slice A3 n1 c3, .slice A4 n2 c4] ∧ OwnC v' v4.heap.size (.slice A3 n1 c3) (.slice A4 n2 c4) n1 n2 room us' ∧ GB hb v4 v') ?_ (fun x v5 hp => ?_)
  · have hus := clusterH_v (H := H) h4.post (clOk_sh hok') (by omega) (by omega)
    simpa [Act.eval, Act.put] using hus
  obtain ⟨A5, c5, A6, c6, rfl, h5, g5⟩ := hp
  have Z5 := GB.blk Z4 g5 (by omega)
  have hsz4 : gb ≤ v4.heap.size := by have := Z4.lt; omega
  replace g5 := g4.trans (g5.mono (by omega))
  replace h5 := h5.low hsz4
  clear g4 Z4 h4
  try walk_nrm
  refine KV.op anaA_good rfl (by rfl) (by decide) (by kernel_rfl) (fun t => anaA.noTr_spec (by kernel_rfl) t) (fun v₁ hs K' hK' => ?_)
  go_simp
  refine hK' _ _ ?_
  try walk_nrm
  clear hK' K'
  refine KV.heap (v := v5) ?_ ⟨hs.heap.symm, hs.os.symm, hs.output.symm⟩
  clear hs v₁
  refine KV.op anaA_good rfl (by rfl) (by decide) (by kernel_rfl) (fun t => anaA.noTr_spec (by kernel_rfl) t) (fun v₁ hs K' hK' => ?_)
  have hbx := ViewOf_cells_of Z5 hs.heap
  have y0 := hbx.cell 0
  have y1 := hbx.cell 1
  simp only [gT, gZ, gS] at y0 y1
  have y2 := hbx.frozen 0
  have y3 := hbx.frozen 1
  clear hbx
  go_simp
  refine hK' _ _ ?_
  try walk_nrm
  clear hK' K' y0 y1 y2 y3
  refine KV.heap (v := (v5.setCell ⟨gb + 1, 0, none⟩ (.slice A5 n1 c5)).setCell ⟨gb + 1, 1, none⟩ (.slice A6 n2 c6)) ?_ ((hs.set _ _).set _ _).sym
  clear hs v₁
  have kt := (KeepTU.set_ Z5 (by decide) (by decide) (by decide) 0 (.slice A5 n1 c5)).trans (KeepTU.set_ (Z5.set_ 0 (.slice A5 n1 c5)) (by decide) (by decide) (by decide) 1 (.slice A6 n2 c6))
  have EQ := (Z5.set_ 0 (.slice A5 n1 c5)).set_ 1 (.slice A6 n2 c6)
  have g6 := (g5.trans (GB.set (p := ⟨gb + 1, 0, none⟩) (by show gb ≤ gb + 1; omega) (.slice A5 n1 c5))).trans (GB.set (p := ⟨gb + 1, 1, none⟩) (by show gb ≤ gb + 1; omega) (.slice A6 n2 c6))
  replace h5 := h5.keepTU kt
  clear kt g5 Z5
  generalize (v5.setCell ⟨gb + 1, 0, none⟩ (.slice A5 n1 c5)).setCell ⟨gb + 1, 1, none⟩ (.slice A6 n2 c6) = v6 at EQ g6 h5 ⊢
  refine KV.op anaA_good rfl (by rfl) (by decide) (by kernel_rfl) (fun t => anaA.noTr_spec (by kernel_rfl) t) (fun v₁ hs K' hK' => ?_)
  go_simp
  refine hK' _ _ ?_
  try walk_nrm
  clear hK' K'
  refine KV.heap (v := v6) ?_ ⟨hs.heap.symm, hs.os.symm, hs.output.symm⟩
  clear hs v₁
  refine KV.ctl rfl (fun w => stepG_region_end) ?_
  refine KV.endC anaA_good (Rt := fun v₁ a v' => a.defers = [] ∧ (a.tmps.getD 4 undef = .pointer (some ⟨gb + 1, 0, none⟩) ∧ a.tmps.getD 5 undef = .int .i64 code) ∧ v' = v₁) (by kernel_rfl) (by kernel_rfl) rfl (by kernel_rfl) (fun v₁ hs => ?_) (fun v₁ a' v' todo hs hq => ?_)
  · go_wp2
  · obtain ⟨q1, ⟨q2, q3⟩, rfl⟩ := hq
    exact ⟨_, a', todo, _, Tryz.func29, q1, rfl, results_cl2 rfl q2 q3 (ViewOf_cells_of EQ hs.heap), A5, c5, A6, c6, rfl, h5.keepTU (KeepTU.same hs.heap), g6.same hs⟩
end

noncomputable def coBody : Code := Tryz.f8.body.getD .skip
noncomputable def coC0 : Code := match coBody with | .seq a _ => a | _ => .skip
noncomputable def coOps1 : Array Oper := match coBody with | .seq _ (.seq (.region _ ops _) _) => ops | _ => #[]
theorem coBody_eq : ∃ i, coBody = .seq coC0 (.seq (.region i coOps1 false) .ret) := ⟨_, by rfl⟩
section
variable {H : Nat → Prop} {v : World} {n1 c1 n2 c2 : Nat} {A1 A2 : Option Addr} {room : List Int} {us : List Un}
set_option maxRecDepth 100000 in
set_option maxHeartbeats 1000000 in
theorem clusterOpen_v (node : Int) (op : Bool) (h : RdC v A1 A2 n1 n2 room us) (hok : clOk room us = true) :
    CallsM Tryz.prog H 8 #[.agg #[.slice A1 n1 c1, .slice A2 n2 c2], .int .i64 node, .bool op] v (fun x v' => ∃ A3 c3 A4 c4, x = .tuple #[.agg #[.slice A3 n1 c3, .slice A4 n2 c4], .int .i64 (opnP room us node op).2.2] ∧ RdC v' A3 A4 n1 n2 room (opnP room us node op).2.1 ∧ GR v v') := by
  refine ⟨_, coBody, Tryz.func8, by kernel_rfl, by rfl, fun cs => ?_⟩
  have e : (#[Value.agg #[.slice A1 n1 c1, .slice A2 n2 c2], .int .i64 node, .bool op] ++ Array.replicate (Tryz.f8.ntmps - (#[Value.agg #[.slice A1 n1 c1, .slice A2 n2 c2], .int .i64 node, .bool op] : Array Value).size) undef) = #[.agg #[.slice A1 n1 c1, .slice A2 n2 c2], .int .i64 node, .bool op, undef, undef, undef, undef, undef, undef, undef, undef, undef, undef] := by kernel_rfl
  obtain ⟨ri, he⟩ := coBody_eq
  rw [e, he]
  clear e he
  have hok' := (opn_facts (node := node) (op := op) hok).2.1
  refine KV.seqC anaA_good (Nm := fun v₁ a v' => a = ⟨#[.agg #[.slice A1 n1 c1, .slice A2 n2 c2], .int .i64 node, .bool op, .pointer (some ⟨v₁.heap.size, 0, none⟩), .pointer (some ⟨v₁.heap.size + 1, 0, none⟩), .pointer (some ⟨v₁.heap.size + 2, 0, none⟩), .pointer (some ⟨v₁.heap.size + 3, 0, none⟩), .int .i64 0, undef, undef, undef, undef, undef], []⟩ ∧ v' = (((v₁.alloc (.cells #[.slice A1 n1 c1, .slice A2 n2 c2] 26)).alloc (.cells #[.int .i64 node] 3)).alloc (.cells #[.bool op] 4)).alloc (.cells #[.slice none 0 0, .slice none 0 0] 26)) (Rt := fun _ _ _ => False) (by kernel_rfl) (by kernel_rfl) rfl (by kernel_rfl) (fun v₁ hs => ?_) (fun v₁ a' v' hs hq => ?_) (fun _ _ _ _ _ h => h.elim)
  · simp only [coC0, coBody, Tryz.f8, Option.getD_some]
    go_wp2
  obtain ⟨rfl, rfl⟩ := hq
  rw [hs.heap]
  refine KV.heap (v := (((v.alloc (.cells #[.slice A1 n1 c1, .slice A2 n2 c2] 26)).alloc (.cells #[.int .i64 node] 3)).alloc (.cells #[.bool op] 4)).alloc (.cells #[.slice none 0 0, .slice none 0 0] 26)) ?_ ((((hs.alloc _).alloc _).alloc _).alloc _).sym
  clear hs v₁
  obtain ⟨P1, N1, G1, Z1, g1, H1⟩ : Blk ((((v.alloc (.cells #[.slice A1 n1 c1, .slice A2 n2 c2] 26)).alloc (.cells #[.int .i64 node] 3)).alloc (.cells #[.bool op] 4)).alloc (.cells #[.slice none 0 0, .slice none 0 0] 26)) v.heap.size 26 #[.slice A1 n1 c1, .slice A2 n2 c2] ∧ Blk ((((v.alloc (.cells #[.slice A1 n1 c1, .slice A2 n2 c2] 26)).alloc (.cells #[.int .i64 node] 3)).alloc (.cells #[.bool op] 4)).alloc (.cells #[.slice none 0 0, .slice none 0 0] 26)) (v.heap.size + 1) 3 #[.int .i64 node] ∧ Blk ((((v.alloc (.cells #[.slice A1 n1 c1, .slice A2 n2 c2] 26)).alloc (.cells #[.int .i64 node] 3)).alloc (.cells #[.bool op] 4)).alloc (.cells #[.slice none 0 0, .slice none 0 0] 26)) (v.heap.size + 2) 4 #[.bool op] ∧
      Blk ((((v.alloc (.cells #[.slice A1 n1 c1, .slice A2 n2 c2] 26)).alloc (.cells #[.int .i64 node] 3)).alloc (.cells #[.bool op] 4)).alloc (.cells #[.slice none 0 0, .slice none 0 0] 26)) (v.heap.size + 3) 26 #[.slice none 0 0, .slice none 0 0] ∧ GB v.heap.size v ((((v.alloc (.cells #[.slice A1 n1 c1, .slice A2 n2 c2] 26)).alloc (.cells #[.int .i64 node] 3)).alloc (.cells #[.bool op] 4)).alloc (.cells #[.slice none 0 0, .slice none 0 0] 26)) ∧ RdC ((((v.alloc (.cells #[.slice A1 n1 c1, .slice A2 n2 c2] 26)).alloc (.cells #[.int .i64 node] 3)).alloc (.cells #[.bool op] 4)).alloc (.cells #[.slice none 0 0, .slice none 0 0] 26)) A1 A2 n1 n2 room us := by
    have s1 : (v.alloc (.cells #[.slice A1 n1 c1, .slice A2 n2 c2] 26)).heap.size = v.heap.size + 1 := World.size_alloc _ _
    have s2 : ((v.alloc (.cells #[.slice A1 n1 c1, .slice A2 n2 c2] 26)).alloc (.cells #[.int .i64 node] 3)).heap.size = v.heap.size + 2 := by rw [World.size_alloc, s1]
    have s3 : (((v.alloc (.cells #[.slice A1 n1 c1, .slice A2 n2 c2] 26)).alloc (.cells #[.int .i64 node] 3)).alloc (.cells #[.bool op] 4)).heap.size = v.heap.size + 3 := by rw [World.size_alloc, s2]
    have b1 := Blk.new v 26 #[.slice A1 n1 c1, .slice A2 n2 c2]
    have b2 := Blk.new (v.alloc (.cells #[.slice A1 n1 c1, .slice A2 n2 c2] 26)) 3 #[.int .i64 node]
    have b3 := Blk.new ((v.alloc (.cells #[.slice A1 n1 c1, .slice A2 n2 c2] 26)).alloc (.cells #[.int .i64 node] 3)) 4 #[.bool op]
    have b4 := Blk.new (((v.alloc (.cells #[.slice A1 n1 c1, .slice A2 n2 c2] 26)).alloc (.cells #[.int .i64 node] 3)).alloc (.cells #[.bool op] 4)) 26 #[.slice none 0 0, .slice none 0 0]
    rw [s1] at b2
    rw [s2] at b3
    rw [s3] at b4
    have hB := (((alloc_up v (.cells #[.slice A1 n1 c1, .slice A2 n2 c2] 26)).alloc (by omega) (.cells #[.int .i64 node] 3)).alloc (by omega) (.cells #[.bool op] 4)).alloc (by omega) (.cells #[.slice none 0 0, .slice none 0 0] 26)
    exact ⟨((b1.alloc _).alloc _).alloc _, (b2.alloc _).alloc _, b3.alloc _, b4, GB.of_below hB, h.up hB⟩
  generalize hgb : v.heap.size = gb at P1 N1 G1 Z1 g1 ⊢
  generalize (((v.alloc (.cells #[.slice A1 n1 c1, .slice A2 n2 c2] 26)).alloc (.cells #[.int .i64 node] 3)).alloc (.cells #[.bool op] 4)).alloc (.cells #[.slice none 0 0, .slice none 0 0] 26) = v1 at P1 N1 G1 Z1 g1 H1 ⊢
  refine KV.ctl rfl (fun w => stepG_seq) ?_
  refine KV.ctl rfl (fun w => stepG_region) ?_
  rw [show List.range coOps1.size = [0, 1, 2, 3, 4, 5, 6] from rfl]
  simp only [coOps1, coBody, Tryz.f8, Option.getD_some]
  refine KV.op anaA_good rfl (by rfl) (by decide) (by kernel_rfl) (fun t => anaA.noTr_spec (by kernel_rfl) t) (fun v₁ hs K' hK' => ?_)
  have hbx := ViewOf_cells_of P1 hs.heap
  have x0 := hbx.cell 0
  have x1 := hbx.cell 1
  simp only [gT, gZ, gS] at x0 x1
  clear hbx
  go_simp
  refine hK' _ _ ?_
  try walk_nrm
  clear hK' K' x0 x1
  refine KV.heap (v := v1) ?_ ⟨hs.heap.symm, hs.os.symm, hs.output.symm⟩
  clear hs v₁
  refine KV.makeFunc rfl (by rfl) (by decide) rfl ?_
  try walk_nrm
  have lz1 := Z1.lt
  refine KV.callM rfl (by rfl) (by decide) rfl (Post := fun x v' => ∃ A3 c3 A4 c4, x = .tuple #[.agg #[.slice A3 n1 c3, .slice A4 n2 c4], .int .i64 (opnP room us node op).2.2] ∧ OwnC v' v1.heap.size (.slice A3 n1 c3) (.slice A4 n2 c4) n1 n2 room (opnP room us node op).2.1 ∧ GB v1.heap.size v1 v') ?_ (fun x v5 hp => ?_)
  · have hus := done_v (H := H) (c1 := c1) (c2 := c2) (F := 30) (caps := #[.pointer (some ⟨gb + 1, 0, none⟩), .pointer (some ⟨gb + 2, 0, none⟩)]) (code := (opnP room us node op).2.2) H1 hok hok' (fun W base hb A3 c3 hg hbs hh =>
      (clusterOpen1_v node op hh hok ((GB.blk N1 hg N1.lt).cell 0) ((GB.blk G1 hg G1.lt).cell 0)).toM)
    simpa [Act.eval, Act.put] using hus
  obtain ⟨A5, c5, A6, c6, rfl, h5, g5⟩ := hp
  have Z5 := GB.blk Z1 g5 lz1
  replace h5 := h5.low (show gb ≤ v1.heap.size by omega)
  replace g5 := g1.trans (g5.mono (show gb ≤ v1.heap.size by omega))
  clear g1 P1 N1 G1 Z1 H1 lz1
  generalize (opnP room us node op).2.2 = code
  try walk_nrm
  refine KV.op anaA_good rfl (by rfl) (by decide) (by kernel_rfl) (fun t => anaA.noTr_spec (by kernel_rfl) t) (fun v₁ hs K' hK' => ?_)
  go_simp
  refine hK' _ _ ?_
  try walk_nrm
  clear hK' K'
  refine KV.heap (v := v5) ?_ ⟨hs.heap.symm, hs.os.symm, hs.output.symm⟩
  clear hs v₁
  refine KV.op anaA_good rfl (by rfl) (by decide) (by kernel_rfl) (fun t => anaA.noTr_spec (by kernel_rfl) t) (fun v₁ hs K' hK' => ?_)
  go_simp
  refine hK' _ _ ?_
  try walk_nrm
  clear hK' K'
  refine KV.heap (v := v5) ?_ ⟨hs.heap.symm, hs.os.symm, hs.output.symm⟩
  clear hs v₁
  refine KV.op anaA_good rfl (by rfl) (by decide) (by kernel_rfl) (fun t => anaA.noTr_spec (by kernel_rfl) t) (fun v₁ hs K' hK' => ?_)
  have hbx := ViewOf_cells_of Z5 hs.heap
  have y0 := hbx.cell 0
  have y1 := hbx.cell 1
  simp only [gT, gZ, gS] at y0 y1
  have y2 := hbx.frozen 0
  have y3 := hbx.frozen 1
  clear hbx
  go_simp
  refine hK' _ _ ?_
  try walk_nrm
  clear hK' K' y0 y1 y2 y3
  refine KV.heap (v := (v5.setCell ⟨gb + 3, 0, none⟩ (.slice A5 n1 c5)).setCell ⟨gb + 3, 1, none⟩ (.slice A6 n2 c6)) ?_ ((hs.set _ _).set _ _).sym
  clear hs v₁
  have kt := (KeepTU.set_ Z5 (by decide) (by decide) (by decide) 0 (.slice A5 n1 c5)).trans (KeepTU.set_ (Z5.set_ 0 (.slice A5 n1 c5)) (by decide) (by decide) (by decide) 1 (.slice A6 n2 c6))
  have EQ := (Z5.set_ 0 (.slice A5 n1 c5)).set_ 1 (.slice A6 n2 c6)
  have g6 := (g5.trans (GB.set (p := ⟨gb + 3, 0, none⟩) (by show gb ≤ gb + 3; omega) (.slice A5 n1 c5))).trans (GB.set (p := ⟨gb + 3, 1, none⟩) (by show gb ≤ gb + 3; omega) (.slice A6 n2 c6))
  replace h5 := h5.keepTU kt
  clear kt g5 Z5
  generalize (v5.setCell ⟨gb + 3, 0, none⟩ (.slice A5 n1 c5)).setCell ⟨gb + 3, 1, none⟩ (.slice A6 n2 c6) = v6 at EQ g6 h5 ⊢
  refine KV.op anaA_good rfl (by rfl) (by decide) (by kernel_rfl) (fun t => anaA.noTr_spec (by kernel_rfl) t) (fun v₁ hs K' hK' => ?_)
  go_simp
  refine hK' _ _ ?_
  try walk_nrm
  clear hK' K'
  refine KV.heap (v := v6) ?_ ⟨hs.heap.symm, hs.os.symm, hs.output.symm⟩
  clear hs v₁
  refine KV.ctl rfl (fun w => stepG_region_end) ?_
  refine KV.endC anaA_good (Rt := fun v₁ a v' => a.defers = [] ∧ (a.tmps.getD 6 undef = .pointer (some ⟨gb + 3, 0, none⟩) ∧ a.tmps.getD 7 undef = .int .i64 code) ∧ v' = v₁) (by kernel_rfl) (by kernel_rfl) rfl (by kernel_rfl) (fun v₁ hs => ?_) (fun v₁ a' v' todo hs hq => ?_)
  · go_wp2
  · obtain ⟨q1, ⟨q2, q3⟩, rfl⟩ := hq
    subst hgb
    exact ⟨_, a', todo, _, Tryz.func8, q1, rfl, results_cl2 rfl q2 q3 (ViewOf_cells_of EQ hs.heap), A5, c5, A6, c6, rfl, (h5.keepTU (KeepTU.same hs.heap)).rd (by have := h.a.len; have := (clOk_facts hok).1; omega) (clOk_sh hok'), (g6.same hs).gr⟩
end
end Go.Proofs.YtlcgbnmmbheleaaGreat
