/- Several texts in one. -/
import Derived.Test.YtlcgbnmmbheleaaGreatVI
import Derived.Test.YtlcgbnmmbheleaaGreatV34
import Derived.Test.YtlcgbnmmbheleaaGreatVH
namespace Go.Proofs.YtlcgbnmmbheleaaGreat
open Go Go.Conc Go.RowKit Go.MuLone
set_option linter.unusedVariables false
set_option linter.unusedSimpArgs false
attribute [local go_sem ↓] Go.wp_at_zero Go.wp_at_succ

structure GB (B : Nat) (v v' : World) : Prop where
  os : v'.os = v.os
  output : v'.output = v.output
  size : v.heap.size ≤ v'.heap.size
  rows : ∀ b, b < B → v'.heap[b]? = v.heap[b]?
section
variable {B B' : Nat} {v v₁ v' v'' : World}
theorem GB.refl (B : Nat) (v : World) : GB B v v := ⟨rfl, rfl, Nat.le_refl _, fun _ _ => rfl⟩
theorem GB.trans (h : GB B v v') (k : GB B v' v'') : GB B v v'' := ⟨k.os.trans h.os, k.output.trans h.output, Nat.le_trans h.size k.size, fun b hb => (k.rows b hb).trans (h.rows b hb)⟩
theorem GB.mono (h : GB B v v') (hb : B' ≤ B) : GB B' v v' := ⟨h.os, h.output, h.size, fun b hb' => h.rows b (Nat.lt_of_lt_of_le hb' hb)⟩
theorem GB.of_below (h : Below B v v') : GB B v v' := ⟨h.os, h.output, h.size, h.block⟩
theorem GB.from (e : SameHeap v₁ v) (r : GB B v₁ v') : GB B v v' := ⟨r.os.trans e.os, r.output.trans e.output, by rw [← e.heap]; exact r.size, fun b hb => by rw [← e.heap]; exact r.rows b hb⟩
theorem GB.same (r : GB B v v') (e : SameHeap v'' v') : GB B v v'' := ⟨e.os.trans r.os, e.output.trans r.output, by rw [e.heap]; exact r.size, fun b hb => by rw [e.heap]; exact r.rows b hb⟩
theorem GB.gr (h : GB v.heap.size v v') : GR v v' := ⟨h.os, h.output, h.size, h.rows⟩
theorem GB.of_gr (h : GR v v') (hb : B ≤ v.heap.size) : GB B v v' := ⟨h.os, h.output, h.size, fun b hb' => h.rows b (Nat.lt_of_lt_of_le hb' hb)⟩
theorem GB.set {p : Addr} (hp : B ≤ p.block) (x : Value) : GB B v (v.setCell p x) := ⟨rfl, rfl, by rw [World.size_setCell]; exact Nat.le_refl _, fun b hb => Below.heap_setCell _ _ _ _ (by omega)⟩
theorem GB.blk {b : Nat} {t : TypeId} {cs : Array Value} (h : Blk v b t cs) (r : GB B v v') (hb : b < B) : Blk v' b t cs := (r.rows b hb).trans h
theorem GB.new (o : Obj) (hb : B ≤ v.heap.size) : GB B v (v.alloc o) := .of_gr (below_gr (alloc_up v o)) hb
end
theorem HostV.same {v w : World} {hb n1 c1 n : Nat} {A1 : Option Addr} {room : List Int} {us : List Un} (h : HostV v hb A1 n1 c1 n room us) (e : w.heap = v.heap) : HostV w hb A1 n1 c1 n room us :=
  ⟨(World.cell?_of_block (by rw [e])).trans h.c2, (World.cell?_of_block (by rw [e])).trans h.c3, by rw [e]; exact h.lt, h.rm.gain (fun p y hy => (World.cell?_of_block (by rw [e])).trans hy) (by rw [e]; exact Nat.le_refl _), h.un.gain (fun p y hy => (World.cell?_of_block (by rw [e])).trans hy) (by rw [e]; exact Nat.le_refl _)⟩
theorem KeepTI.same {v w : World} (e : w.heap = v.heap) : KeepTI v w := fun b _ => by rw [e]
theorem HostR.same {v w : World} {base hb n1 c1 n : Nat} {l : Int} {A1 : Option Addr} {room : List Int} {us : List Un} (h : HostR v base hb l A1 n1 c1 n room us) (e : w.heap = v.heap) : HostR w base hb l A1 n1 c1 n room us := by
  obtain ⟨vs, zs, tk, X⟩ := h
  exact ⟨vs, zs, tk, X.keep (KeepTI.same e) (by rw [e])⟩
theorem HostR.lk {v : World} {base hb n1 c1 n : Nat} {l : Int} {A1 : Option Addr} {room : List Int} {us : List Un} (h : HostR v base hb l A1 n1 c1 n room us) : v.cell? ⟨hb, 0, none⟩ = some (.int .i32 l) ∧ v.frozen? ⟨hb, 0, none⟩ = false := by
  obtain ⟨vs, zs, tk, X⟩ := h
  exact X.lk
theorem HostR.ge {v : World} {base hb n1 c1 n : Nat} {l : Int} {A1 : Option Addr} {room : List Int} {us : List Un} (h : HostR v base hb l A1 n1 c1 n room us) : base ≤ hb := by
  obtain ⟨vs, zs, tk, X⟩ := h
  exact X.ge
theorem HostR.setL {v : World} {base hb n1 c1 n : Nat} {l l' : Int} {A1 : Option Addr} {room : List Int} {us : List Un} (h : HostR v base hb l A1 n1 c1 n room us) : HostR (v.setCell ⟨hb, 0, none⟩ (.int .i32 l')) base hb l' A1 n1 c1 n room us := by
  obtain ⟨vs, zs, tk, X⟩ := h
  exact ⟨vs, zs, tk, X.setL⟩
theorem HostR.post {v : World} {base hb n1 c1 n : Nat} {A1 : Option Addr} {room : List Int} {us : List Un} (h : HostR v base hb 0 A1 n1 c1 n room us) : HostP v hb A1 n1 c1 n room us := by
  obtain ⟨vs, zs, tk, X⟩ := h
  exact X.post

def HoQ (t : Nat) (base hb : Nat) (A1 : Option Addr) (n1 c1 n : Nat) (room : List Int) (R : List Int × List Un × Int) (w : World) (e : Exit) (a : Act) (w' : World) : Prop :=
  e = .ret ∧ a.defers = [] ∧ a.tmps.getD t undef = .int .i64 R.2.2 ∧ HostR w' base hb 1 A1 n1 c1 n room R.2.1 ∧ Below base w w'
section
variable {H : Nat → Prop} {v : World} {base hb n1 c1 n : Nat} {A1 : Option Addr} {room : List Int} {us : List Un}
end

noncomputable def hcBody : Code := Tryz.f55.body.getD .skip
noncomputable def hcC0 : Code := match hcBody with | .seq a _ => a | _ => .skip
noncomputable def hcOps1 : Array Oper := match hcBody with | .seq _ (.seq (.region _ ops _) _) => ops | _ => #[]
noncomputable def hcOps2 : Array Oper := match hcBody with | .seq _ (.seq _ (.seq (.region _ ops _) _)) => ops | _ => #[]
noncomputable def hcRest : Code := match hcBody with | .seq _ (.seq _ (.seq _ r)) => r | _ => .skip
theorem hcBody_eq : ∃ i j, hcBody = .seq hcC0 (.seq (.region i hcOps1 false) (.seq (.region j hcOps2 false) hcRest)) := ⟨_, _, by rfl⟩
def hcT (hb gr : Nat) : Array Value := #[.pointer (some ⟨hb, 0, none⟩), undef, .pointer (some ⟨gr, 0, none⟩), .pointer (some ⟨hb, 0, none⟩), .pointer (some ⟨hb, 0, none⟩), .pointer (some ⟨hb, 0, none⟩), .tuple #[], .pointer (some ⟨hb, 0, none⟩), .pointer (some ⟨hb, 0, none⟩), .pointer (some ⟨hb, 0, none⟩), undef, undef, undef, undef, undef, undef, undef, undef, undef, undef, undef, undef, undef, undef, undef, undef, undef, undef]
def HcQ (hb gr : Nat) (n1 n : Nat) (room : List Int) (us : List Un) (w : World) (e : Exit) (a : Act) (w' : World) : Prop :=
  e = .ret ∧ a.defers = [] ∧ a.tmps.getD 2 undef = .pointer (some ⟨gr, 0, none⟩) ∧ ∃ A3 c3 A4 c4, w'.cell? ⟨hb, 0, none⟩ = some (.int .i32 1) ∧ w'.frozen? ⟨hb, 0, none⟩ = false ∧ (∃ cs, Blk w' hb 97 cs) ∧
    Blk w' gr 26 #[.slice A3 n1 c3, .slice A4 n c4] ∧ OwnC w' gr (.slice A3 n1 c3) (.slice A4 n c4) n1 n room us ∧ Below gr w w'

set_option maxRecDepth 100000 in
set_option maxHeartbeats 1600000 in
theorem hc_rest (hb gr : Nat) (A1 : Option Addr) (n1 c1 n : Nat) (room : List Int) (us : List Un) (w2 : World) (hV : HostV w2 hb A1 n1 c1 n room us) (hL : w2.cell? ⟨hb, 0, none⟩ = some (.int .i32 1)) (hF : w2.frozen? ⟨hb, 0, none⟩ = false)
    (hZ : Blk w2 gr 26 #[.slice none 0 0, .slice none 0 0]) (hK : ∃ cs, Blk w2 hb 97 cs) (hs : ShU us) (hn1 : n1 ≤ 1048576) (hn : n ≤ 10) (hlt : hb < gr) :
    hcRest.wp Tryz.prog (HcQ hb gr n1 n room us w2) ⟨hcT hb gr, []⟩ w2 := by
  obtain ⟨kcs, hK⟩ := hK
  have V1 := qh hV
  have L1 := qh hL
  have F1 := qh hF
  have Z1 := qh hZ
  have K1 := qh hK
  have B1 := qh (Below.refl gr w2)
  have n1' : (0 : Int) ≤ (n : Int) := by omega
  have n2' : (n : Int) ≤ 10 := by omega
  clear hV hL hF hZ hK
  simp only [hcRest, hcBody, Tryz.f55, Option.getD_some, hcT]
  go_wp2_with fail
  refine wp_region_mixL (.take 0 (.take 1 (.take 2 (.take 3 (.take 4 (.take 5 (.take 6 (.take 7 (.take 8 (.take 9 (.take 10 (.take 11 (.take 12 (.take 13 (.take 14 (.take 15 (.take 16 (.bar 17 (.bar 18 .nil))))))))))))))))))) [] (fun w' => w'.cell? ⟨hb, 2, none⟩ = some (.slice A1 n1 c1) ∧ w'.cell? ⟨hb, 3, none⟩ = some (.int .i64 (n : Int))) (by kernel_rfl) (by kernel_rfl) ⟨V1.out.c2, V1.out.c3⟩ (fun _ => ?_)
  repeat ((first | refine lxS (by rfl) (by rfl) ?_ | (refine lxT (v := ?_) (by rfl) (by rfl) (fun z y => ?_) ?_; rotate_left; (focus ((try dsimp only at y); (go_simp <;> with_reducible rfl); done)))); (try simp only [Act.put,pS,pZ,pC]))
  (refine lxB (by rfl) (fun K hK => ?_); go_simp)
  refine (copyOfC_any A1 (some ⟨hb, 4, none⟩) n1 c1 n n room us w2.drew ⟨V1.out.rm.drewN 1, V1.out.un.drewN 1⟩ hs hn1).mono ?_; rintro e w3 ⟨A3, c3, A4, c4, rfl, hoc, hb3⟩
  have up3 := (Below.refl w2.heap.size w2).drew.trans hb3
  have V3 := qh (V1.out.up up3)
  have lh2 := V1.out.lt
  have L3 := qh ((up3.cell (p := ⟨hb, 0, none⟩) lh2).trans L1.out)
  have F3 := qh ((up3.frozen (p := ⟨hb, 0, none⟩) lh2).trans F1.out)
  have Z3 := qh (Z1.out.below up3 Z1.out.lt)
  have K3 := qh (K1.out.below up3 K1.out.lt)
  have B3 := qh (B1.out.trans (up3.mono (show gr ≤ w2.heap.size by have := Z1.out.lt; omega)))
  have O3 := qh (hoc.low (show gr ≤ w2.drew.heap.size from by have := Z1.out.lt; show gr ≤ w2.heap.size; omega))
  have lz2 := Z1.out.lt
  have y2 := Z3.out.frozen 0
  have y3 := Z3.out.frozen 1
  have y0 := Z3.out.cell 0
  have y1 := Z3.out.cell 1
  simp only [gT, gZ, gS] at y0 y1
  clear hoc hb3 up3 V1 L1 F1 Z1 B1
  ((try dsimp only); refine nxK hK _ _ (⟨V3.out.c2, V3.out.c3⟩) ?_; clear hK K; (try simp only [Act.put,pS,pZ,pC]))
  (refine lxB (by rfl) (fun K hK => ?_); go_simp)
  clear y0 y1 y2 y3
  have KT := qh ((KeepTU.set_ Z3.out (by decide) (by decide) (by decide) 0 (.slice A3 n1 c3)).trans (KeepTU.set_ (Z3.out.set_ 0 (.slice A3 n1 c3)) (by decide) (by decide) (by decide) 1 (.slice A4 n c4)))
  have K9 := qh ((K3.out.far (p := ⟨gr, 0, none⟩) (by show hb ≠ gr; omega) (.slice A3 n1 c3)).far (p := ⟨gr, 1, none⟩) (by show hb ≠ gr; omega) (.slice A4 n c4))
  have EQ := qh ((Z3.out.set_ 0 (.slice A3 n1 c3)).set_ 1 (.slice A4 n c4))
  have B9 := qh ((B3.out.setCell (p := ⟨gr, 0, none⟩) (by show gr ≤ gr; omega) (.slice A3 n1 c3)).setCell (p := ⟨gr, 1, none⟩) (by show gr ≤ gr; omega) (.slice A4 n c4))
  have kk : ∀ q : Addr, q.block = hb → ((w3.setCell ⟨gr, 0, none⟩ (.slice A3 n1 c3)).setCell ⟨gr, 1, none⟩ (.slice A4 n c4)).cell? q = w3.cell? q := fun q hq => by
    rw [World.cell?_setCell_other _ _ _ _ (fun e => by subst e; simp at hq; omega), World.cell?_setCell_other _ _ _ _ (fun e => by subst e; simp at hq; omega)]
  have c2 := (kk ⟨hb, 2, none⟩ rfl).trans V3.out.c2
  have c3' := (kk ⟨hb, 3, none⟩ rfl).trans V3.out.c3
  have L9 := qh ((kk ⟨hb, 0, none⟩ rfl).trans L3.out)
  have F9 := qh (show ((w3.setCell ⟨gr, 0, none⟩ (.slice A3 n1 c3)).setCell ⟨gr, 1, none⟩ (.slice A4 n c4)).frozen? ⟨hb, 0, none⟩ = false from by rw [World.frozen?_setCell, World.frozen?_setCell]; exact F3.out)
  have C2 := qh c2
  have C3 := qh c3'
  clear kk c2 c3'
  ((try dsimp only); refine nxK hK _ _ (⟨C2.out, C3.out⟩) ?_; clear hK K; (try simp only [Act.put,pS,pZ,pC]))
  generalize (w3.setCell ⟨gr, 0, none⟩ (.slice A3 n1 c3)).setCell ⟨gr, 1, none⟩ (.slice A4 n c4) = w9 at KT EQ B9 L9 F9 K9 ⊢
  refine wpMixL_nil ?_
  go_wp2_with fail
  exact ⟨rfl, rfl, rfl, A3, c3, A4, c4, L9.out, F9.out, ⟨_, K9.out⟩, EQ.out, O3.out.keepTU KT.out, B9.out⟩

theorem results_cl {fn : Func} {t : Tmp} (hf : fn.results = #[.cell t 26]) {T : Array Value} {gr : Nat} {x y : Value} {w : World} (ht : T.getD t undef = .pointer (some ⟨gr, 0, none⟩)) (hb : Blk w gr 26 #[x, y]) :
    (results fn T).run Tryz.prog w = .ok (.agg #[x, y]) w := by
  have z0 : w.cell? ⟨gr, 0, none⟩ = some x := hb.cell 0
  have z1 : w.cell? ⟨gr, 1, none⟩ = some y := hb.cell 1
  rw [Array.getD_eq_getD_getElem?] at ht
  simp [results, hf, go_sem, ht, z0, z1]
theorem KeepTU.same {v w : World} (e : w.heap = v.heap) : KeepTU v w := fun b _ => by rw [e]

section
variable {H : Nat → Prop} {v : World} {hb n1 c1 n : Nat} {A1 : Option Addr} {room : List Int} {us : List Un}
set_option maxRecDepth 100000 in
set_option maxHeartbeats 1000000 in
theorem clusterH_v (h : HostP v hb A1 n1 c1 n room us) (hsh : ShU us) (hn1 : n1 ≤ 1048576) (hn : n ≤ 10) :
    CallsM Tryz.prog H 55 #[.pointer (some ⟨hb, 0, none⟩)] v (fun x v' => ∃ A3 c3 A4 c4, x = .agg #[.slice A3 n1 c3, .slice A4 n c4] ∧ OwnC v' v.heap.size (.slice A3 n1 c3) (.slice A4 n c4) n1 n room us ∧ GB hb v v') := by
  refine ⟨_, hcBody, Tryz.func55, by kernel_rfl, by rfl, fun cs => ?_⟩
  have e : (#[Value.pointer (some ⟨hb, 0, none⟩)] ++ Array.replicate (Tryz.f55.ntmps - (#[Value.pointer (some ⟨hb, 0, none⟩)] : Array Value).size) undef) = #[.pointer (some ⟨hb, 0, none⟩), undef, undef, undef, undef, undef, undef, undef, undef, undef, undef, undef, undef, undef, undef, undef, undef, undef, undef, undef, undef, undef, undef, undef, undef, undef, undef, undef] := by kernel_rfl
  obtain ⟨ri, rj, he⟩ := hcBody_eq
  rw [e, he]
  clear e he
  have hlt := h.v.lt
  refine KV.seqC anaA_good (Nm := fun v₁ a v' => a = ⟨#[.pointer (some ⟨hb, 0, none⟩), undef, .pointer (some ⟨v₁.heap.size, 0, none⟩), undef, undef, undef, undef, undef, undef, undef, undef, undef, undef, undef, undef, undef, undef, undef, undef, undef, undef, undef, undef, undef, undef, undef, undef, undef], []⟩ ∧ v' = v₁.alloc (.cells #[.slice none 0 0, .slice none 0 0] 26)) (Rt := fun _ _ _ => False) (by kernel_rfl) (by kernel_rfl) rfl (by kernel_rfl) (fun v₁ hs => ?_) (fun v₁ a' v' hs hq => ?_) (fun _ _ _ _ _ h => h.elim)
  · simp only [hcC0, hcBody, Tryz.f55, Option.getD_some]
    go_wp2
  obtain ⟨rfl, rfl⟩ := hq
  rw [hs.heap]
  refine KV.heap (v := v.alloc (.cells #[.slice none 0 0, .slice none 0 0] 26)) ?_ ⟨by show v.heap.push _ = v₁.heap.push _; rw [hs.heap], hs.os.symm, hs.output.symm⟩
  clear hs v₁
  have hal := alloc_up v (.cells #[.slice none 0 0, .slice none 0 0] 26)
  have hZ : Blk (v.alloc (.cells #[.slice none 0 0, .slice none 0 0] 26)) v.heap.size 26 #[.slice none 0 0, .slice none 0 0] := Blk.new v _ _
  have hk := (hal.cell (p := ⟨hb, 0, none⟩) hlt).trans h.lock
  have hf := (hal.frozen (p := ⟨hb, 0, none⟩) hlt).trans h.free
  have hV := h.v.up hal
  obtain ⟨hcs, hbk⟩ := h.bk
  have hK := hbk.alloc (.cells #[.slice none 0 0, .slice none 0 0] 26)
  have g0 : GB hb v (v.alloc (.cells #[.slice none 0 0, .slice none 0 0] 26)) := GB.new _ (by omega)
  clear hal h hbk
  generalize hgr : v.heap.size = gr at hZ hlt ⊢
  generalize v.alloc (.cells #[.slice none 0 0, .slice none 0 0] 26) = v0 at hZ hk hf hV hK g0 ⊢
  refine KV.ctl rfl (fun w => stepG_seq) ?_
  refine KV.ctl rfl (fun w => stepG_region) ?_
  rw [show List.range hcOps1.size = [0, 1, 2, 3] from rfl]
  simp only [hcOps1, hcBody, Tryz.f55, Option.getD_some]
  refine KV.op anaA_good rfl (by rfl) (by decide) (by kernel_rfl) (fun t => anaA.noTr_spec (by kernel_rfl) t) (fun v₁ hs K' hK' => ?_)
  go_simp
  refine hK' _ _ ?_
  try walk_nrm
  clear hK' K'
  refine KV.heap (v := v0) ?_ ⟨hs.heap.symm, hs.os.symm, hs.output.symm⟩
  clear hs v₁
  refine KV.op anaA_good rfl (by rfl) (by decide) (by kernel_rfl) (fun t => anaA.noTr_spec (by kernel_rfl) t) (fun v₁ hs K' hK' => ?_)
  go_simp
  refine hK' _ _ ?_
  try walk_nrm
  clear hK' K'
  refine KV.heap (v := v0) ?_ ⟨hs.heap.symm, hs.os.symm, hs.output.symm⟩
  clear hs v₁
  refine KV.op anaA_good rfl (by rfl) (by decide) (by kernel_rfl) (fun t => anaA.noTr_spec (by kernel_rfl) t) (fun v₁ hs K' hK' => ?_)
  go_simp
  refine hK' _ _ ?_
  try walk_nrm
  clear hK' K'
  refine KV.heap (v := v0) ?_ ⟨hs.heap.symm, hs.os.symm, hs.output.symm⟩
  clear hs v₁
  refine KV.lock (p := ⟨hb, 0, none⟩) muLib rfl (by rfl) (by decide) rfl (by kernel_rfl) rfl hk hf ?_
  try walk_nrm
  refine KV.ctl rfl (fun w => stepG_region_end) ?_
  refine KV.ctl rfl (fun w => stepG_seq) ?_
  refine KV.ctl rfl (fun w => stepG_region) ?_
  rw [show List.range hcOps2.size = [0, 1, 2, 3] from rfl]
  simp only [hcOps2, hcBody, Tryz.f55, Option.getD_some]
  refine KV.op anaA_good rfl (by rfl) (by decide) (by kernel_rfl) (fun t => anaA.noTr_spec (by kernel_rfl) t) (fun v₁ hs K' hK' => ?_)
  go_simp
  refine hK' _ _ ?_
  try walk_nrm
  clear hK' K'
  refine KV.heap (v := v0.setCell ⟨hb, 0, none⟩ (.int .i32 1)) ?_ ⟨hs.heap.symm, hs.os.symm, hs.output.symm⟩
  clear hs v₁
  refine KV.op anaA_good rfl (by rfl) (by decide) (by kernel_rfl) (fun t => anaA.noTr_spec (by kernel_rfl) t) (fun v₁ hs K' hK' => ?_)
  go_simp
  refine hK' _ _ ?_
  try walk_nrm
  clear hK' K'
  refine KV.heap (v := v0.setCell ⟨hb, 0, none⟩ (.int .i32 1)) ?_ ⟨hs.heap.symm, hs.os.symm, hs.output.symm⟩
  clear hs v₁
  refine KV.op anaA_good rfl (by rfl) (by decide) (by kernel_rfl) (fun t => anaA.noTr_spec (by kernel_rfl) t) (fun v₁ hs K' hK' => ?_)
  go_simp
  refine hK' _ _ ?_
  try walk_nrm
  clear hK' K'
  refine KV.heap (v := v0.setCell ⟨hb, 0, none⟩ (.int .i32 1)) ?_ ⟨hs.heap.symm, hs.os.symm, hs.output.symm⟩
  clear hs v₁
  refine KV.defer rfl (by rfl) (by decide) rfl ?_
  try walk_nrm
  refine KV.ctl rfl (fun w => stepG_region_end) ?_
  have hV1 := hV.lockV (v := .int .i32 1) hk
  have hL1 := World.cell?_setCell_same v0 ⟨hb, 0, none⟩ (.int .i32 1) hk
  have hF1 : (v0.setCell ⟨hb, 0, none⟩ (.int .i32 1)).frozen? ⟨hb, 0, none⟩ = false := by rw [World.frozen?_setCell]; exact hf
  have hZ1 := hZ.far (p := ⟨hb, 0, none⟩) (by show gr ≠ hb; omega) (.int .i32 1)
  have hK1 := hK.set_ 0 (.int .i32 1)
  have g1 : GB hb v (v0.setCell ⟨hb, 0, none⟩ (.int .i32 1)) := g0.trans (GB.set (p := ⟨hb, 0, none⟩) (Nat.le_refl hb) _)
  generalize v0.setCell ⟨hb, 0, none⟩ (.int .i32 1) = v1 at hV1 hL1 hF1 hZ1 hK1 g1 ⊢
  clear hV hk hf hZ hK g0
  refine KV.codeD anaA_good (ds := [dcall 57 #[.pointer (some ⟨hb, 0, none⟩)]]) (T := hcT hb gr) (Q := HcQ hb gr n1 n room us) (by kernel_rfl) rfl (fun t => anaA.noTr_spec (by kernel_rfl) t) (by kernel_rfl)
    (fun v₁ hs => hc_rest hb gr A1 n1 c1 n room us v₁ (hV1.same hs.heap) ((World.cell?_of_block (by rw [hs.heap])).trans hL1) (by unfold World.frozen?; rw [hs.heap]; exact hF1) (ViewOf_cells_of hZ1 hs.heap) ⟨_, ViewOf_cells_of hK1 hs.heap⟩ hsh hn1 hn hlt)
    (fun v₁ e a' v' h => .inr h.1) (fun v₁ a' v' hs hq => nomatch hq.1) (fun v₁ a' v' todo hs hq hd => ?_)
  obtain ⟨_, _, hx, A3, c3, A4, c4, hl2, hf2, ⟨kc, hk2⟩, hz2, hoc, hbl⟩ := hq
  have g2 := g1.trans ((GB.from hs (GB.of_below hbl)).mono (by omega))
  refine KV.unlock (L := muLink) muLib rfl hl2 hf2 (.stop ?_)
  have hz3 := hz2.far (p := ⟨hb, 0, none⟩) (by show gr ≠ hb; omega) (.int .i32 0)
  have kt := KeepTU.set_ hk2 (by decide) (by decide) (by decide) 0 (.int .i32 0)
  exact ⟨_, ⟨a'.tmps, []⟩, todo, _, Tryz.func55, rfl, rfl, results_cl rfl hx hz3, A3, c3, A4, c4, rfl, hoc.keepTU kt, g2.trans (GB.set (p := ⟨hb, 0, none⟩) (Nat.le_refl hb) _)⟩
end
end Go.Proofs.YtlcgbnmmbheleaaGreat

namespace Go.Proofs.YtlcgbnmmbheleaaGreat
open Go Go.Conc Go.RowKit
set_option linter.unusedVariables false
set_option linter.unusedSimpArgs false

theorem results_cl2 {fn : Func} {t u : Tmp} (hf : fn.results = #[.cell t 26, .tmp u]) {T : Array Value} {gr : Nat} {x y z : Value} {w : World} (ht : T.getD t undef = .pointer (some ⟨gr, 0, none⟩)) (hu : T.getD u undef = z) (hb : Blk w gr 26 #[x, y]) :
    (results fn T).run Tryz.prog w = .ok (.tuple #[.agg #[x, y], z]) w := by
  have z0 : w.cell? ⟨gr, 0, none⟩ = some x := hb.cell 0
  have z1 : w.cell? ⟨gr, 1, none⟩ = some y := hb.cell 1
  rw [Array.getD_eq_getD_getElem?] at ht hu
  simp [results, hf, go_sem, ht, hu, z0, z1]

section
variable {H : Nat → Prop} {v : World} {base hb n1 c1 n gn go : Nat} {A1 : Option Addr} {room : List Int} {us : List Un}
end

noncomputable def dnBody : Code := Tryz.f29.body.getD .skip
noncomputable def dnC0 : Code := match dnBody with | .seq a _ => a | _ => .skip
noncomputable def dnC1 : Code := match dnBody with | .seq _ (.seq a _) => a | _ => .skip
noncomputable def dnC3 : Code := match dnBody with | .seq _ (.seq _ (.seq a _)) => a | _ => .skip
noncomputable def dnOps4 : Array Oper := match dnBody with | .seq _ (.seq _ (.seq _ (.seq (.region _ ops _) _))) => ops | _ => #[]
noncomputable def dnOps5 : Array Oper := match dnBody with | .seq _ (.seq _ (.seq _ (.seq _ (.seq (.region _ ops _) _)))) => ops | _ => #[]
theorem dnBody_eq : ∃ i j, dnBody = .seq dnC0 (.seq dnC1 (.seq dnC3 (.seq (.region i dnOps4 false) (.seq (.region j dnOps5 false) .ret)))) := ⟨_, _, by rfl⟩
set_option maxRecDepth 100000 in
theorem dn_c1 (F : FuncId) (caps : Array Value) (A1 A2 : Option Addr) (n1 c1 n2 c2 gb : Nat) (room : List Int) (us : List Un) (v : World) (h : RdC v A1 A2 n1 n2 room us) (hok : clOk room us = true) (hbox : Blk v gb 26 #[.slice A1 n1 c1, .slice A2 n2 c2]) :
    dnC1.wp Tryz.prog (fun e a v' => (e = .normal ∧ a = ⟨#[.agg #[.slice A1 n1 c1, .slice A2 n2 c2], .func (.func F) #[] caps, .pointer (some ⟨gb, 0, none⟩), undef, .pointer (some ⟨gb + 1, 0, none⟩), .int .i64 0, undef, undef, .agg #[.slice A1 n1 c1, .slice A2 n2 c2], .bool true, .bool false, undef, undef, undef, undef, undef, undef, undef, undef, undef], []⟩ ∧ GR v v') ∨ (e = .ret ∧ False)) ⟨#[.agg #[.slice A1 n1 c1, .slice A2 n2 c2], .func (.func F) #[] caps, .pointer (some ⟨gb, 0, none⟩), undef, .pointer (some ⟨gb + 1, 0, none⟩), .int .i64 0, undef, undef, undef, undef, undef, undef, undef, undef, undef, undef, undef, undef, undef, undef], []⟩ v := by
  have x0 := hbox.cell 0
  have x1 := hbox.cell 1
  simp only [gT, gZ, gS] at x0 x1
  have Hr := qh h
  have Hok := qh hok
  clear h hbox hok
  simp only [dnC1, dnBody, Tryz.f29, Option.getD_some]
  go_wp2_with fail
  clear x0 x1
  refine (clusterValidI_any A1 A2 n1 c1 n2 c2 room us v Hr.out (clOk_sh Hok.out)).mono ?_; rintro e w2 ⟨rfl, hb2⟩
  have B2 := qh hb2
  clear hb2
  rw [Hok.out]
  go_wp2_with fail
  exact below_gr B2.out
set_option maxRecDepth 100000 in
theorem dn_c3 (F : FuncId) (caps : Array Value) (A1 A2 : Option Addr) (n1 c1 n2 c2 gb : Nat) (room : List Int) (us : List Un) (v : World) (h : RdC v A1 A2 n1 n2 room us) (hok : clOk room us = true) (hbox : Blk v gb 26 #[.slice A1 n1 c1, .slice A2 n2 c2]) :
    dnC3.wp Tryz.prog (fun e a v' => (e = .normal ∧ ∃ hb A3 c3, a = ⟨#[.agg #[.slice A1 n1 c1, .slice A2 n2 c2], .func (.func F) #[] caps, .pointer (some ⟨gb, 0, none⟩), undef, .pointer (some ⟨gb + 1, 0, none⟩), .int .i64 0, .pointer (some ⟨hb, 0, none⟩), undef, .agg #[.slice A1 n1 c1, .slice A2 n2 c2], .bool true, .bool false, undef, .agg #[.slice A1 n1 c1, .slice A2 n2 c2], .pointer (some ⟨hb, 0, none⟩), undef, undef, undef, undef, undef, undef], []⟩ ∧ HostR v' v.heap.size hb 0 A3 n1 c3 n2 room us ∧ GR v v') ∨ (e = .ret ∧ False)) ⟨#[.agg #[.slice A1 n1 c1, .slice A2 n2 c2], .func (.func F) #[] caps, .pointer (some ⟨gb, 0, none⟩), undef, .pointer (some ⟨gb + 1, 0, none⟩), .int .i64 0, undef, undef, .agg #[.slice A1 n1 c1, .slice A2 n2 c2], .bool true, .bool false, undef, undef, undef, undef, undef, undef, undef, undef, undef], []⟩ v := by
  have x0 := hbox.cell 0
  have x1 := hbox.cell 1
  simp only [gT, gZ, gS] at x0 x1
  have Hr := qh h
  have Hok := qh hok
  clear h hbox hok
  simp only [dnC3, dnBody, Tryz.f29, Option.getD_some]
  go_wp2_with fail
  clear x0 x1
  refine (hostOf_any A1 A2 n1 c1 n2 c2 room us v Hr.out Hok.out).mono ?_; rintro e w2 ⟨hb, A3, c3, rfl, hh, hb2⟩
  have B2 := qh hb2
  have H2 := qh hh
  clear hb2 hh
  go_wp2_with fail
  exact ⟨⟨_, _, H2.out⟩, below_gr B2.out⟩

section
variable {H : Nat → Prop} {v : World} {n1 c1 n2 c2 : Nat} {A1 A2 : Option Addr} {room : List Int} {us : List Un} {F : FuncId} {caps : Array Value} {us' : List Un} {code : Int}
set_option maxRecDepth 100000 in
set_option maxHeartbeats 1000000 in
theorem done_v (h : RdC v A1 A2 n1 n2 room us) (hok : clOk room us = true) (hok' : clOk room us' = true)
    (hF : ∀ W base hb A3 c3, GB v.heap.size v W → v.heap.size ≤ base → HostR W base hb 0 A3 n1 c3 n2 room us → CallsM Tryz.prog H F (#[.pointer (some ⟨hb, 0, none⟩)] ++ caps) W (fun x v' => x = .int .i64 code ∧ HostR v' base hb 0 A3 n1 c3 n2 room us' ∧ GB base W v')) :
    CallsM Tryz.prog H 29 #[.agg #[.slice A1 n1 c1, .slice A2 n2 c2], .func (.func F) #[] caps] v (fun x v' => ∃ A3 c3 A4 c4, x = .tuple #[.agg #[.slice A3 n1 c3, .slice A4 n2 c4], .int .i64 code] ∧ OwnC v' v.heap.size (.slice A3 n1 c3) (.slice A4 n2 c4) n1 n2 room us' ∧ GB v.heap.size v v') := by
  refine ⟨_, dnBody, Tryz.func29, by kernel_rfl, by rfl, fun cs => ?_⟩
  have e : (#[Value.agg #[.slice A1 n1 c1, .slice A2 n2 c2], .func (.func F) #[] caps] ++ Array.replicate (Tryz.f29.ntmps - (#[Value.agg #[.slice A1 n1 c1, .slice A2 n2 c2], .func (.func F) #[] caps] : Array Value).size) undef) = #[.agg #[.slice A1 n1 c1, .slice A2 n2 c2], .func (.func F) #[] caps, undef, undef, undef, undef, undef, undef, undef, undef, undef, undef, undef, undef, undef, undef, undef, undef, undef, undef] := by kernel_rfl
  obtain ⟨ri, rj, he⟩ := dnBody_eq
  rw [e, he]
  clear e he
  have hl1 := h.a.len
  have hl2 := h.b.len
  have f1 := clOk_facts hok
  refine KV.seqC anaA_good (Nm := fun v₁ a v' => a = ⟨#[.agg #[.slice A1 n1 c1, .slice A2 n2 c2], .func (.func F) #[] caps, .pointer (some ⟨v₁.heap.size, 0, none⟩), undef, .pointer (some ⟨v₁.heap.size + 1, 0, none⟩), .int .i64 0, undef, undef, undef, undef, undef, undef, undef, undef, undef, undef, undef, undef, undef, undef], []⟩ ∧ v' = (v₁.alloc (.cells #[.slice A1 n1 c1, .slice A2 n2 c2] 26)).alloc (.cells #[.slice none 0 0, .slice none 0 0] 26)) (Rt := fun _ _ _ => False) (by kernel_rfl) (by kernel_rfl) rfl (by kernel_rfl) (fun v₁ hs => ?_) (fun v₁ a' v' hs hq => ?_) (fun _ _ _ _ _ h => h.elim)
  · simp only [dnC0, dnBody, Tryz.f29, Option.getD_some]
    go_wp2
  obtain ⟨rfl, rfl⟩ := hq
  rw [hs.heap]
  refine KV.heap (v := (v.alloc (.cells #[.slice A1 n1 c1, .slice A2 n2 c2] 26)).alloc (.cells #[.slice none 0 0, .slice none 0 0] 26)) ?_ ((hs.alloc _).alloc _).sym
  clear hs v₁
  have sz : (v.alloc (.cells #[.slice A1 n1 c1, .slice A2 n2 c2] 26)).heap.size = v.heap.size + 1 := World.size_alloc _ _
  have hZ := Blk.new (v.alloc (.cells #[.slice A1 n1 c1, .slice A2 n2 c2] 26)) 26 #[.slice none 0 0, .slice none 0 0]
  rw [sz] at hZ
  have B1 := (alloc_up v (.cells #[.slice A1 n1 c1, .slice A2 n2 c2] 26)).alloc (by rw [sz]; omega) (.cells #[.slice none 0 0, .slice none 0 0] 26)
  have P1 := (Blk.new v 26 #[.slice A1 n1 c1, .slice A2 n2 c2]).alloc (.cells #[.slice none 0 0, .slice none 0 0] 26)
  have H1 := h.up B1
  have g1 := GB.of_below B1
  clear sz B1
  generalize hgb : v.heap.size = gb at P1 hZ g1 hF ⊢
  generalize (v.alloc (.cells #[.slice A1 n1 c1, .slice A2 n2 c2] 26)).alloc (.cells #[.slice none 0 0, .slice none 0 0] 26) = v1 at P1 hZ g1 H1 ⊢
  refine KV.seqC anaA_good (Nm := fun v₁ a v' => a = ⟨#[.agg #[.slice A1 n1 c1, .slice A2 n2 c2], .func (.func F) #[] caps, .pointer (some ⟨gb, 0, none⟩), undef, .pointer (some ⟨gb + 1, 0, none⟩), .int .i64 0, undef, undef, .agg #[.slice A1 n1 c1, .slice A2 n2 c2], .bool true, .bool false, undef, undef, undef, undef, undef, undef, undef, undef, undef], []⟩ ∧ GR v₁ v') (Rt := fun _ _ _ => False) (by kernel_rfl) (by kernel_rfl) rfl (by kernel_rfl) (fun v₁ hs => ?_) (fun v₁ a' v' hs hq => ?_) (fun _ _ _ _ _ h => h.elim)
  · exact dn_c1 F caps A1 A2 n1 c1 n2 c2 gb room us v₁ (H1.same hs.heap) hok (ViewOf_cells_of P1 hs.heap)
  obtain ⟨rfl, hg⟩ := hq
  replace hg := GR.from hs hg
  have lz := hZ.lt
  have g2 := g1.trans (GB.of_gr hg (by omega))
  have P2 := P1.grr hg
  have Z2 := hZ.grr hg
  have H2 := H1.gr hg
  clear hg hs P1 hZ H1 g1 lz
  generalize v' = v2 at g2 P2 Z2 H2 ⊢
  refine KV.seqC anaA_good (Nm := fun v₁ a v' => ∃ hb A3 c3, a = ⟨#[.agg #[.slice A1 n1 c1, .slice A2 n2 c2], .func (.func F) #[] caps, .pointer (some ⟨gb, 0, none⟩), undef, .pointer (some ⟨gb + 1, 0, none⟩), .int .i64 0, .pointer (some ⟨hb, 0, none⟩), undef, .agg #[.slice A1 n1 c1, .slice A2 n2 c2], .bool true, .bool false, undef, .agg #[.slice A1 n1 c1, .slice A2 n2 c2], .pointer (some ⟨hb, 0, none⟩), undef, undef, undef, undef, undef, undef], []⟩ ∧ HostR v' v₁.heap.size hb 0 A3 n1 c3 n2 room us ∧ GR v₁ v') (Rt := fun _ _ _ => False) (by kernel_rfl) (by kernel_rfl) rfl (by kernel_rfl) (fun v₁ hs => ?_) (fun v₁ a' v' hs hq => ?_) (fun _ _ _ _ _ h => h.elim)
  · exact dn_c3 F caps A1 A2 n1 c1 n2 c2 gb room us v₁ (H2.same hs.heap) hok (ViewOf_cells_of P2 hs.heap)
  obtain ⟨hb, A3, c3, rfl, hh, hg⟩ := hq
  rw [hs.heap] at hh
  replace hg := GR.from hs hg
  have lz := Z2.lt
  have g3 := g2.trans (GB.of_gr hg (by omega))
  have Z3 := Z2.grr hg
  have hge := hh.ge
  clear hg hs P2 H2 g2
  generalize v2.heap.size = base at hh lz hge
  generalize v' = v3 at g3 Z3 hh ⊢
  refine KV.ctl rfl (fun w => stepG_seq) ?_
  refine KV.ctl rfl (fun w => stepG_region) ?_
  rw [show List.range dnOps4.size = [0, 1, 2, 3] from rfl]
  simp only [dnOps4, dnBody, Tryz.f29, Option.getD_some]
  refine KV.op anaA_good rfl (by rfl) (by decide) (by kernel_rfl) (fun t => anaA.noTr_spec (by kernel_rfl) t) (fun v₁ hs K' hK' => ?_)
  go_simp
  refine hK' _ _ ?_
  try walk_nrm
  clear hK' K'
  refine KV.heap (v := v3) ?_ ⟨hs.heap.symm, hs.os.symm, hs.output.symm⟩
  clear hs v₁
  refine KV.op anaA_good rfl (by rfl) (by decide) (by kernel_rfl) (fun t => anaA.noTr_spec (by kernel_rfl) t) (fun v₁ hs K' hK' => ?_)
  go_simp
  refine hK' _ _ ?_
  try walk_nrm
  clear hK' K'
  refine KV.heap (v := v3) ?_ ⟨hs.heap.symm, hs.os.symm, hs.output.symm⟩
  clear hs v₁
  refine KV.callT (f := F) (caps := caps) rfl (by rfl) (by decide) rfl rfl (Post := fun x v' => x = .int .i64 code ∧ HostR v' base hb 0 A3 n1 c3 n2 room us' ∧ GB base v3 v') ?_ (fun x v4 hp => ?_)
  · have hus := hF v3 base hb A3 c3 g3 (by omega) hh
    simpa [Act.eval, Act.put] using hus
  obtain ⟨rfl, h4, g4⟩ := hp
  have Z4 := GB.blk Z3 g4 (by omega)
  replace g4 := g3.trans (g4.mono (by omega))
  clear g3 Z3 hh
  try walk_nrm
  refine KV.op anaA_good rfl (by rfl) (by decide) (by kernel_rfl) (fun t => anaA.noTr_spec (by kernel_rfl) t) (fun v₁ hs K' hK' => ?_)
  go_simp
  refine hK' _ _ ?_
  try walk_nrm
  clear hK' K'
  refine KV.heap (v := v4) ?_ ⟨hs.heap.symm, hs.os.symm, hs.output.symm⟩
  clear hs v₁
  refine KV.ctl rfl (fun w => stepG_region_end) ?_
  refine KV.ctl rfl (fun w => stepG_seq) ?_
  refine KV.ctl rfl (fun w => stepG_region) ?_
  rw [show List.range dnOps5.size = [0, 1, 2, 3, 4] from rfl]
  simp only [dnOps5, dnBody, Tryz.f29, Option.getD_some]
  refine KV.op anaA_good rfl (by rfl) (by decide) (by kernel_rfl) (fun t => anaA.noTr_spec (by kernel_rfl) t) (fun v₁ hs K' hK' => ?_)
  go_simp
  refine hK' _ _ ?_
  try walk_nrm
  clear hK' K'
  refine KV.heap (v := v4) ?_ ⟨hs.heap.symm, hs.os.symm, hs.output.symm⟩
  clear hs v₁
  refine KV.callM rfl (by rfl) (by decide) rfl (Post := fun x v' => ∃ A3 c3 A4 c4, x = .agg #[.slice A3 n1 c3, .slice A4 n2 c4] ∧ OwnC v' v4.heap.size (.slice A3 n1 c3) (.slice A4 n2 c4) n1 n2 room us' ∧ GB hb v4 v') ?_ (fun x v5 hp => ?_)
  · have hus := clusterH_v (H := H) h4.post (clOk_sh hok') (by omega) (by omega)
    simpa [Act.eval, Act.put] using hus
  obtain ⟨A5, c5, A6, c6, rfl, h5, g5⟩ := hp
  have Z5 := GB.blk Z4 g5 (by omega)
  have hsz4 : gb ≤ v4.heap.size := by have := Z4.lt; omega
  replace g5 := g4.trans (g5.mono (by omega))
  replace h5 := h5.low hsz4
  clear g4 Z4 h4
  try walk_nrm
  refine KV.op anaA_good rfl (by rfl) (by decide) (by kernel_rfl) (fun t => anaA.noTr_spec (by kernel_rfl) t) (fun v₁ hs K' hK' => ?_)
  go_simp
  refine hK' _ _ ?_
  try walk_nrm
  clear hK' K'
  refine KV.heap (v := v5) ?_ ⟨hs.heap.symm, hs.os.symm, hs.output.symm⟩
  clear hs v₁
  refine KV.op anaA_good rfl (by rfl) (by decide) (by kernel_rfl) (fun t => anaA.noTr_spec (by kernel_rfl) t) (fun v₁ hs K' hK' => ?_)
  have hbx := ViewOf_cells_of Z5 hs.heap
  have y0 := hbx.cell 0
  have y1 := hbx.cell 1
  simp only [gT, gZ, gS] at y0 y1
  have y2 := hbx.frozen 0
  have y3 := hbx.frozen 1
  clear hbx
  go_simp
  refine hK' _ _ ?_
  try walk_nrm
  clear hK' K' y0 y1 y2 y3
  refine KV.heap (v := (v5.setCell ⟨gb + 1, 0, none⟩ (.slice A5 n1 c5)).setCell ⟨gb + 1, 1, none⟩ (.slice A6 n2 c6)) ?_ ((hs.set _ _).set _ _).sym
  clear hs v₁
  have kt := (KeepTU.set_ Z5 (by decide) (by decide) (by decide) 0 (.slice A5 n1 c5)).trans (KeepTU.set_ (Z5.set_ 0 (.slice A5 n1 c5)) (by decide) (by decide) (by decide) 1 (.slice A6 n2 c6))
  have EQ := (Z5.set_ 0 (.slice A5 n1 c5)).set_ 1 (.slice A6 n2 c6)
  have g6 := (g5.trans (GB.set (p := ⟨gb + 1, 0, none⟩) (by show gb ≤ gb + 1; omega) (.slice A5 n1 c5))).trans (GB.set (p := ⟨gb + 1, 1, none⟩) (by show gb ≤ gb + 1; omega) (.slice A6 n2 c6))
  replace h5 := h5.keepTU kt
  clear kt g5 Z5
  generalize (v5.setCell ⟨gb + 1, 0, none⟩ (.slice A5 n1 c5)).setCell ⟨gb + 1, 1, none⟩ (.slice A6 n2 c6) = v6 at EQ g6 h5 ⊢
  refine KV.op anaA_good rfl (by rfl) (by decide) (by kernel_rfl) (fun t => anaA.noTr_spec (by kernel_rfl) t) (fun v₁ hs K' hK' => ?_)
  go_simp
  refine hK' _ _ ?_
  try walk_nrm
  clear hK' K'
  refine KV.heap (v := v6) ?_ ⟨hs.heap.symm, hs.os.symm, hs.output.symm⟩
  clear hs v₁
  refine KV.ctl rfl (fun w => stepG_region_end) ?_
  refine KV.endC anaA_good (Rt := fun v₁ a v' => a.defers = [] ∧ (a.tmps.getD 4 undef = .pointer (some ⟨gb + 1, 0, none⟩) ∧ a.tmps.getD 5 undef = .int .i64 code) ∧ v' = v₁) (by kernel_rfl) (by kernel_rfl) rfl (by kernel_rfl) (fun v₁ hs => ?_) (fun v₁ a' v' todo hs hq => ?_)
  · go_wp2
  · obtain ⟨q1, ⟨q2, q3⟩, rfl⟩ := hq
    exact ⟨_, a', todo, _, Tryz.func29, q1, rfl, results_cl2 rfl q2 q3 (ViewOf_cells_of EQ hs.heap), A5, c5, A6, c6, rfl, h5.keepTU (KeepTU.same hs.heap), g6.same hs⟩
end

section
variable {H : Nat → Prop} {v : World} {n1 c1 n2 c2 : Nat} {A1 A2 : Option Addr} {room : List Int} {us : List Un}
end
end Go.Proofs.YtlcgbnmmbheleaaGreat

namespace Go.Proofs.YtlcgbnmmbheleaaGreat
open Go Go.Conc Go.RowKit Go.MuLone
set_option linter.unusedVariables false
set_option linter.unusedSimpArgs false
attribute [local go_sem ↓] Go.wp_at_zero Go.wp_at_succ

noncomputable def arBody : Code := Tryz.f35.body.getD .skip
noncomputable def arC0 : Code := match arBody with | .seq a _ => a | _ => .skip
noncomputable def arOps1 : Array Oper := match arBody with | .seq _ (.seq (.region _ ops _) _) => ops | _ => #[]
noncomputable def arOps2 : Array Oper := match arBody with | .seq _ (.seq _ (.seq (.region _ ops _) _)) => ops | _ => #[]
noncomputable def arRest : Code := match arBody with | .seq _ (.seq _ (.seq _ r)) => r | _ => .skip
theorem arBody_eq : ∃ i j, arBody = .seq arC0 (.seq (.region i arOps1 false) (.seq (.region j arOps2 false) arRest)) := ⟨_, _, by rfl⟩
def arT (hb gx : Nat) (id : Int) (A3 : Option Addr) (n3 c3 : Nat) (g : Bool) : Array Value := #[.pointer (some ⟨hb, 0, none⟩), .agg #[.int .i64 id, .slice A3 n3 c3], .bool g, undef, .pointer (some ⟨gx, 0, none⟩), undef, .int .i64 0, undef, undef, undef, .pointer (some ⟨hb, 0, none⟩), .pointer (some ⟨hb, 0, none⟩), .pointer (some ⟨hb, 0, none⟩), .tuple #[], .pointer (some ⟨hb, 0, none⟩), .pointer (some ⟨hb, 0, none⟩), .pointer (some ⟨hb, 0, none⟩), undef, undef, undef, undef, undef, undef, undef, undef, undef, undef, undef, undef, undef, undef, undef, undef, undef, undef, undef, undef, undef, undef, undef, undef, undef, undef, undef, undef, undef, undef, undef, undef, undef, undef, undef, undef, undef, undef, undef, undef, undef, undef, undef, undef, undef, undef, undef, undef, undef, undef, undef]

set_option maxRecDepth 100000 in
set_option maxHeartbeats 6400000 in
theorem ar_rest (base hb gx : Nat) (A1 A3 : Option Addr) (n1 c1 n n3 c3 : Nat) (room : List Int) (us : List Un) (id : Int) (xs : List Int) (g : Bool) (vs zs : List Value) (tk : Nat → Value) (w2 : World) (X : HostX w2 base hb 1 A1 n1 c1 n room us vs zs tk) (hok : clOk room us = true) (hx : RdI w2 w2.heap.size A3 n3 xs) (hc3 : n3 ≤ c3)
    (hP : Blk w2 gx 40 #[.int .i64 id, .slice A3 n3 c3]) (hbl : hb < gx) (hold : ∀ i, i < n → ∀ b, (tk i).ownBlock = some b → b < gx) :
    arRest.wp Tryz.prog (HoQ 6 base hb A1 n1 c1 n room (cavP room us id xs g) w2) ⟨arT hb gx id A3 n3 c3 g, []⟩ w2 := by
  obtain ⟨i0, hi0, hz0, hz1, hz2⟩ := info_parts task_info
  have HR := qh hx
  have HX := qh X
  have hl : us.length = n := X.un.1
  have hn10 := X.n
  have hb0 := X.ge
  have B1 := qh (Below.refl base w2)
  have P1 := qh hP
  have Hok := qh hok
  have Hl := qh hl
  have Hold := qh hold
  have lz : base ≤ w2.heap.size := by have := X.blk.lt; omega
  clear X hok hl hx hP hold
  simp only [arRest, arBody, Tryz.f35, Option.getD_some, arT]
  go_wp2_with fail
  have lx := P1.out.lt
  refine wp_region_mixL (.take 0 (.take 1 (.take 2 (.take 3 (.take 4 (.bar 5 (.bar 6 (.take 7 .nil)))))))) [] (fun w' => w'.cell? ⟨hb, 2, none⟩ = some (.slice A1 n1 c1) ∧ w'.cell? ⟨gx, 0, none⟩ = some (.int .i64 id) ∧ w'.cell? ⟨gx, 1, none⟩ = some (.slice A3 n3 c3)) (by kernel_rfl) (by kernel_rfl) ⟨HX.out.view.c2, P1.out.cell 0, P1.out.cell 1⟩ (fun _ => ?_)
  have XU := qh (HX.out.up (Below.refl _ _).drew)
  have RU := qh (HR.out.up (Below.refl _ _).drew)
  have PU := qh P1.out.drew
  have BU := qh B1.out.drew
  have lzu : base ≤ w2.drew.heap.size := lz
  generalize w2.drew = u2 at XU RU PU BU lzu ⊢
  clear HX HR P1 B1 lz
  repeat ((first | refine lxS (by rfl) (by rfl) ?_ | (refine lxT (v := ?_) (by rfl) (by rfl) (fun z y => ?_) ?_; rotate_left; (focus ((try dsimp only at y); (go_simp <;> with_reducible rfl); done)))); (try simp only [Act.put,pS,pZ,pC]))
  (refine lxB (by rfl) (fun K hK => ?_); go_simp)
  have up3 := alloc_up u2 (.cells #[.int .i64 id, .slice A3 n3 c3] 40)
  have X3 := qh (XU.out.up up3)
  have R3 := qh (RU.out.up up3)
  have P3 := qh (PU.out.below up3 PU.out.lt)
  have B3 := qh (BU.out.trans (up3.mono lzu))
  have Y3 := qh (Blk.new u2 40 #[.int .i64 id, .slice A3 n3 c3])
  have lz3 : base ≤ (u2.alloc (.cells #[.int .i64 id, .slice A3 n3 c3] 40)).heap.size := Nat.le_trans lzu up3.size
  ((try dsimp only); refine nxK hK _ _ (⟨X3.out.view.c2, P3.out.cell 0, P3.out.cell 1⟩) ?_; clear hK K; (try simp only [Act.put,pS,pZ,pC]))
  generalize u2.heap.size = gy at Y3 ⊢
  generalize u2.alloc (.cells #[.int .i64 id, .slice A3 n3 c3] 40) = w3 at X3 R3 P3 B3 Y3 lz3 ⊢
  clear XU RU PU BU up3
  have Rt3 := qh (show RdT w3 w3.heap.size (some ⟨gy, 0, none⟩) 1 [(id, xs)] from ⟨rfl, by omega, fun _ => ⟨gy, 0, rfl, Y3.out.lt, fun j hj => by
    obtain rfl : j = 0 := by omega
    exact ⟨A3, n3, c3, Y3.out.cell 0, Y3.out.cell 1, hc3, R3.out⟩⟩⟩)
  (refine lxB (by rfl) (fun K hK => ?_); go_simp)
  refine (tasksValidI_any A1 (some ⟨gy, 0, none⟩) n1 c1 1 1 room [(id, xs)] w3 X3.out.view.rm Rt3.out).mono ?_; rintro e w4 ⟨rfl, hb4⟩
  obtain ⟨bt, hbt⟩ : ∃ bt, bt = tasksOk room [(id, xs)] := ⟨_, rfl⟩
  rw [← hbt]
  have Hbt := qh hbt
  clear hbt
  have X4 := qh (X3.out.up hb4)
  have R4 := qh (R3.out.up hb4)
  have P4 := qh (P3.out.below hb4 P3.out.lt)
  have B4 := qh (B3.out.trans (hb4.mono lz3))
  have lz4 : base ≤ w4.heap.size := Nat.le_trans lz3 hb4.size
  ((try dsimp only); refine nxK hK _ _ (⟨X4.out.view.c2, P4.out.cell 0, P4.out.cell 1⟩) ?_; clear hK K; (try simp only [Act.put,pS,pZ,pC]))
  clear X3 R3 P3 B3 Y3 Rt3 hb4
  repeat ((first | refine lxS (by rfl) (by rfl) ?_ | (refine lxT (v := ?_) (by rfl) (by rfl) (fun z y => ?_) ?_; rotate_left; (focus ((try dsimp only at y); (go_simp <;> with_reducible rfl); done)))); (try simp only [Act.put,pS,pZ,pC]))
  refine wpMixL_nil ?_
  cases bt with
  | false =>
    have Htv := qh Hbt.out.symm
    go_wp2_with fail
    exact ⟨rfl, rfl, by rw [cavP_task Hok.out Htv.out]; rfl, by rw [cavP_task Hok.out Htv.out]; exact ⟨_, _, _, X4.out⟩, B4.out⟩
  | true =>
    have Htv := qh Hbt.out.symm
    have z0 := P4.out.cell 0
    simp only [gT, gZ, gS] at z0
    go_wp2_with fail
    refine (find_any hb A1 n1 c1 n room us id w4 X4.out.view hn10).mono ?_; rintro e w5 ⟨rfl, hb5⟩
    have X5 := qh (X4.out.up hb5)
    have R5 := qh (R4.out.up hb5)
    have P5 := qh (P4.out.below hb5 P4.out.lt)
    have B5 := qh (B4.out.trans (hb5.mono lz4))
    have lz5 : base ≤ w5.heap.size := Nat.le_trans lz4 hb5.size
    clear X4 R4 P4 B4 hb5 z0
    rcases whereP_or (us.map (·.2)) id with hw | ⟨k, hw, hkl⟩
    · have Hw := qh hw
      have hfi : findU us id = (-1, -1) := by unfold findU; rw [hw, if_pos (by omega)]
      rw [hfi]
      have m1 : ¬ (0 : Int) ≤ -1 := by omega
      have hvx : vecOk xs = true := tasksOk_vecs Htv.out (id, xs) (List.mem_singleton.2 rfl)
      have Hv := qh hvx
      have hxl : n3 = 3 := by have := R5.out.len; have := vecOk_len hvx; omega
      have Hn3 := qh hxl
      have hR := R5.out
      rw [hxl] at hR
      have R5' := qh hR
      clear hw hfi hvx hxl hR R5
      dsimp only
      have z0 := P5.out.cell 0
      have z1 := P5.out.cell 1
      simp only [gT, gZ, gS] at z0 z1
      rw [Hn3.out] at z1
      go_wp2_with fail
      have hr3 : 3 ≤ n1 := by
        have h1 := (clOk_facts Hok.out).1
        have h2 := X5.out.view.rm.len
        omega
      refine (place_any hb A1 A3 n1 c1 n c3 room us id xs g w5 X5.out.view hn10 hr3 R5'.out (fun u hu => ⟨((clOk_vecs Hok.out).2 u hu).1, ((clOk_vecs Hok.out).2 u hu).2⟩) Hv.out).mono ?_; rintro e w6 ⟨rfl, hb6⟩
      rw [place_arv Hok.out Htv.out]
      have X6 := qh (X5.out.up hb6)
      have R6 := qh (R5'.out.up hb6)
      have P6 := qh (P5.out.below hb6 P5.out.lt)
      have B6 := qh (B5.out.trans (hb6.mono lz5))
      have lz6 : base ≤ w6.heap.size := Nat.le_trans lz5 hb6.size
      clear X5 R5' P5 B5 hb6 z0 z1
      rcases arvAt_or (room := room) (us := us) (xs := xs) (g := g) with ha | ⟨k, ha⟩
      · have Ha := qh ha
        rw [ha]
        have m2 : (-1 : Int) < 0 := by omega
        clear ha
        go_wp2_with fail
        exact ⟨rfl, rfl, by rw [cavP_new Hok.out Htv.out Hw.out, arvP_none Ha.out]; rfl, by rw [cavP_new Hok.out Htv.out Hw.out, arvP_none Ha.out]; exact ⟨_, _, _, X6.out⟩, B6.out⟩
      · obtain ⟨hkl, hfit⟩ := arv_fits ha
        have Ha := qh ha
        rw [ha]
        have m2 : ¬ (k : Int) < 0 := by omega
        have ht14 := clOk_total Hok.out
        clear ha hfit
        go_wp2_with fail
        refine (tasks_any hb A1 n1 c1 n room us w6 X6.out.view hn10 (by omega)).mono ?_; rintro e w7 ⟨rfl, hb7⟩
        have X7 := qh (X6.out.up hb7)
        have R7 := qh (R6.out.up hb7)
        have P7 := qh (P6.out.below hb7 P6.out.lt)
        have B7 := qh (B6.out.trans (hb7.mono lz6))
        have lz7 : base ≤ w7.heap.size := Nat.le_trans lz6 hb7.size
        clear X6 R6 P6 B6 hb7
        by_cases hfull : (us.map (·.2)).flatten.length = 14
        · have Hf := qh hfull
          have m3 : (14 : Int) ≤ (((us.map (·.2)).flatten.length : Nat) : Int) := by omega
          clear hfull
          generalize (us.map (·.2)).flatten.length = tot at m3 ⊢
          go_wp2_with fail
          exact ⟨rfl, rfl, by rw [cavP_new Hok.out Htv.out Hw.out, arvP_full Hf.out]; rfl, by rw [cavP_new Hok.out Htv.out Hw.out, arvP_full Hf.out]; exact ⟨_, _, _, X7.out⟩, B7.out⟩
        · have Hf := qh hfull
          have m3 : ¬ (14 : Int) ≤ (((us.map (·.2)).flatten.length : Nat) : Int) := by omega
          clear hfull
          generalize (us.map (·.2)).flatten.length = tot at m3 ⊢
          have hkn : k < n := by have := Hl.out; omega
          have m4 : (0 : Int) ≤ (k : Int) := by omega
          have m5 : (k : Int) < 10 := by omega
          have hm14 := ((clOk_facts Hok.out).2.2.2 _ (un_mem (k := k) hkl)).1
          -- the node is open
          have X8 := qh (X7.out.setU (i := k * 2) (by omega) (.bool true) (X7.out.un.open_ (op := true) hkn))
          have hc7 := X7.out.blk.cell (4 + k * 2)
          rw [hostC_unit, List.getElem?_append_left (by rw [X7.out.un.2.1]; omega), (X7.out.un.2.2.1 k hkn).1] at hc7
          have hf7 := X7.out.blk.frozen (4 + k * 2)
          have hc : ∀ q : Addr, q.block ≠ hb → (w7.setCell ⟨hb, 4 + k * 2, none⟩ (.bool true)).cell? q = w7.cell? q := fun q hq => World.cell?_setCell_other _ _ _ _ (fun e => hq (by rw [← e]))
          have P8 := qh (P7.out.far (p := ⟨hb, 4 + k * 2, none⟩) (by show gx ≠ hb; omega) (.bool true))
          have B8 := qh (B7.out.setCell (p := ⟨hb, 4 + k * 2, none⟩) hb0 (.bool true))
          have hR8 : RdI (w7.setCell ⟨hb, 4 + k * 2, none⟩ (.bool true)) w7.heap.size A3 3 xs := ⟨R7.out.1, R7.out.2.1, fun hn => by
            obtain ⟨bb, oo, e, hbb, hcc⟩ := R7.out.2.2 hn
            refine ⟨bb, oo, e, hbb, fun j hj => ?_⟩
            rw [World.cell?_setCell_other _ _ _ _ (fun e => by
              have h1 := hcc j hj
              rw [← e, hc7] at h1
              injection h1 with h1
              cases h1)]
            exact hcc j hj⟩
          have hsz8 : (w7.setCell ⟨hb, 4 + k * 2, none⟩ (.bool true)).heap.size = w7.heap.size := by simp [World.setCell]
          have lz8 : base ≤ (w7.setCell ⟨hb, 4 + k * 2, none⟩ (.bool true)).heap.size := by rw [hsz8]; exact lz7
          rw [← hsz8] at hR8
          have R8 := qh hR8
          clear hc hR8 hsz8
          generalize (us[k]?.getD (false, [])).1 = o1 at hc7
          go_wp2_with fail
          generalize w7.setCell ⟨hb, 4 + k * 2, none⟩ (.bool true) = w8 at X8 P8 B8 R8 lz8 ⊢
          clear hc7 hf7 X7 R7 P7 B7 lz7
          -- the task is appended
          obtain ⟨hc1, hc2, Ak, mk, ck, vt, htkk, hown, hnd⟩ := X8.out.un.2.2.1 k hkn
          have hg8 : ((us.set k (true, (us[k]?.getD (false, [])).2))[k]?.getD (false, [])) = (true, (us[k]?.getD (false, [])).2) := by rw [List.getElem?_set_self hkl]; rfl
          rw [hg8] at hnd
          have hmk : mk = (us[k]?.getD (false, [])).2.length := hnd.1.symm
          have Hcell := qh (show w8.cell? ⟨hb, 4 + k * 2 + 1, none⟩ = some (.slice Ak mk ck) from by rw [Nat.add_assoc, X8.out.cellU (by omega), hc2, htkk])
          have Hown := qh hown
          have Hnd := qh hnd
          have Htkk := qh htkk
          have mm : mk ≤ 14 := by omega
          have lx8 := P8.out.lt
          clear hc1 hc2 hown hnd htkk hmk hm14
          have hop9 : ∀ W : World, Below w8.heap.size w8 W → W.cell? ⟨hb, 4 + k * 2 + 1, none⟩ = some (.slice Ak mk ck) ∧ W.cell? ⟨gx, 0, none⟩ = some (.int .i64 id) ∧ W.cell? ⟨gx, 1, none⟩ = some (.slice A3 3 c3) := fun W hW => by
            refine ⟨(hW.cell (p := ⟨hb, 4 + k * 2 + 1, none⟩) X8.out.blk.lt).trans Hcell.out, (P8.out.below hW P8.out.lt).cell 0, ?_⟩
            have := (P8.out.below hW P8.out.lt).cell 1
            rw [Hn3.out] at this
            exact this
          have Hop9 := qh hop9
          clear hop9
          refine wp_region_mixL (.take 0 (.take 1 (.take 2 (.take 3 (.take 4 (.take 5 (.take 6 (.take 7 (.take 8 (.take 9 (.take 13 (.take 14 (.bar 10 (.bar 11 (.bar 12 (.take 15 (.take 16 (.last 17 .nil)))))))))))))))))) [17] (fun w' => w'.cell? ⟨hb, 4 + k * 2 + 1, none⟩ = some (.slice Ak mk ck) ∧ w'.cell? ⟨gx, 0, none⟩ = some (.int .i64 id) ∧ w'.cell? ⟨gx, 1, none⟩ = some (.slice A3 3 c3)) (by kernel_rfl) (by kernel_rfl) (Hop9.out _ (Below.refl _ _).drew) (fun _ => ?_)
          have U9 := qh ((Below.refl w8.heap.size w8).drew)
          have R9 := qh (R8.out.up (Below.refl _ _).drew)
          have X9 := qh (X8.out.up (Below.refl _ _).drew)
          have B9 := qh B8.out.drew
          have Own9 := qh (World.ownsRow.drew Hown.out)
          have Nd9 := qh (Hnd.out.keepTI (KeepTI.drew w8))
          have lz9 : base ≤ w8.drew.heap.size := lz8
          have le9 : w8.heap.size ≤ w8.drew.heap.size := Nat.le_refl _
          generalize w8.drew = w9 at U9 R9 X9 B9 Own9 Nd9 lz9 le9 ⊢
          clear R8 X8 P8 B8 Hown Hnd Hcell lz8
          repeat ((first | refine lxS (by rfl) (by rfl) ?_ | (refine lxT (v := ?_) (by rfl) (by rfl) (fun z y => ?_) ?_; rotate_left; (focus ((try dsimp only at y); (go_simp <;> with_reducible rfl); done)))); (try simp only [Act.put,pS,pZ,pC]))
          (refine lxB (by rfl) (fun K hK => ?_); go_simp)
          refine (copyOf_any A3 3 c3 id xs w9 R9.out (by omega)).mono ?_; rintro e u1 ⟨Ax, cx, rfl, hox, hb1⟩
          have U1 := qh (U9.out.trans (hb1.mono le9))
          have X1 := qh (X9.out.up hb1)
          have B1' := qh (B9.out.trans (hb1.mono lz9))
          have O1 := qh (own_up' Own9.out hb1)
          have N1 := qh (Nd9.out.keepTI (KeepTI.up hb1))
          have Ox1 := qh (own_lo hox lz9)
          have lu1 : base ≤ u1.heap.size := Nat.le_trans lz9 hb1.size
          have le1 : w8.heap.size ≤ u1.heap.size := Nat.le_trans le9 hb1.size
          ((try dsimp only); refine nxK hK _ _ (Hop9.out _ U1.out) ?_; clear hK K; (try simp only [Act.put,pS,pZ,pC]))
          clear hox hb1 X9 B9 Own9 Nd9 U9 R9
          repeat ((first | refine lxS (by rfl) (by rfl) ?_ | (refine lxT (v := ?_) (by rfl) (by rfl) (fun z y => ?_) ?_; rotate_left; (focus ((try dsimp only at y); (go_simp <;> with_reducible rfl); done)))); (try simp only [Act.put,pS,pZ,pC]))
          (refine lxB (by rfl) (fun K hK => ?_); go_simp)
          have al2 := alloc_up u1 (.cells #[.int .i64 id, .slice Ax 3 cx] 40)
          have U2 := qh (U1.out.trans (al2.mono le1))
          have X2 := qh (X1.out.up al2)
          have B2' := qh (B1'.out.trans (al2.mono lu1))
          have O2 := qh (own_up' O1.out al2)
          have N2 := qh (N1.out.keepTI (KeepTI.up al2))
          have Ox2 := qh (own_up' Ox1.out al2)
          have S2 := qh (lit2 u1 40 (.int .i64 id) (.slice Ax 3 cx))
          have lu2 : base ≤ (u1.alloc (.cells #[.int .i64 id, .slice Ax 3 cx] 40)).heap.size := Nat.le_trans lu1 al2.size
          have le2 : w8.heap.size ≤ (u1.alloc (.cells #[.int .i64 id, .slice Ax 3 cx] 40)).heap.size := Nat.le_trans le1 al2.size
          ((try dsimp only); refine nxK hK _ _ (Hop9.out _ U2.out) ?_; clear hK K; (try simp only [Act.put,pS,pZ,pC]))
          clear al2 X1 B1' O1 N1 Ox1 U1
          generalize u1.heap.size = gs at S2 ⊢
          generalize u1.alloc (.cells #[.int .i64 id, .slice Ax 3 cx] 40) = u2 at U2 X2 B2' O2 N2 Ox2 S2 lu2 le2 ⊢
          refine lxB (by rfl) (fun K hK => ?_)
          rw [if_pos (by rfl)]
          refine wp_append_src _ _ _ 30 (by rfl) base 40 i0 _ 2 32 Tryz.underlying30 hi0 hz0 hz1 hz2 rfl (by omega) (.slice Ak mk ck) mk vt (by rfl) O2.out (some ⟨gs, 0, none⟩) 1 1 [.int .i64 id, .slice Ax 3 cx] (by rfl) S2.out (one2 _ _ rfl rfl) (by unfold maxLen; omega) (by omega) lu2 ?_
          intro v6 u3 hown6 hgrow6 hrow6
          obtain ⟨A8, c8, rfl⟩ := own_shape hown6
          have hne : ∀ cs, Blk u2 hb 97 cs → (Value.slice Ak mk ck).ownBlock ≠ some hb := fun cs hc => own_blk_ne O2.out hc (by decide)
          have Blk3 := qh (show Blk u3 hb 97 (hostC 1 A1 n1 c1 n (vs.set (k * 2) (.bool true) ++ zs)) from X2.out.blk.grown hgrow6 (fun e => hne _ X2.out.blk e.symm))
          have Rm3 := qh (own_keepB X2.out.rm (w' := u3) (fun b cs hb' hc => hgrow6.block b hc.lt (fun e => own_blk_ne O2.out hc (by decide) e.symm)))
          have N3 := qh ((N2.out.snoc (id := id) Ox2.out).grown O2.out (by decide) hgrow6)
          have Un3 := qh (X2.out.un.grow (w' := u3) hkn (by rw [Htkk.out]; exact hgrow6) hown6 N3.out (by
            rw [Htkk.out]
            rcases hrow6 with h | h
            · exact .inl h
            · exact .inr h))
          have B3' := qh (B2'.out.grown hgrow6 lu2 (fun j e => (O2.out.lt j e).1))
          have hc3 := Blk3.out.cell (4 + k * 2 + 1)
          rw [Nat.add_assoc, hostC_unit, List.getElem?_append_left (by rw [X2.out.un.2.1]; omega), (X2.out.un.2.2.1 k hkn).2.1, Htkk.out, ← Nat.add_assoc] at hc3
          have hgx : u3.cell? ⟨gx, 0, none⟩ = some (.int .i64 id) ∧ u3.cell? ⟨gx, 1, none⟩ = some (.slice A3 3 c3) := by
            have hb2 : u3.heap[gx]? = u2.heap[gx]? := hgrow6.block gx (by omega) (fun e => by
              have := Hold.out k hkn gx (by rw [Htkk.out]; exact e.symm)
              omega)
            have h2 := Hop9.out _ U2.out
            exact ⟨(World.cell?_of_block (a := ⟨gx, 0, none⟩) hb2).trans h2.2.1, (World.cell?_of_block (a := ⟨gx, 1, none⟩) hb2).trans h2.2.2⟩
          have hf3 := Blk3.out.frozen (4 + k * 2 + 1)
          ((try dsimp only); refine nxK hK _ _ (⟨hc3, hgx.1, hgx.2⟩) ?_; clear hK K; (try simp only [Act.put,pS,pZ,pC]))
          clear hown6 hgrow6 hrow6 X2 B2' O2 N2 Ox2 S2 U2 N3
          repeat ((first | refine lxS (by rfl) (by rfl) ?_ | (refine lxT (v := ?_) (by rfl) (by rfl) (fun z y => ?_) ?_; rotate_left; (focus ((try dsimp only at y); (go_simp <;> with_reducible rfl); done)))); (try simp only [Act.put,pS,pZ,pC]))
          (refine wpMixL_last (by rfl) (fun K hK => ?_); go_simp)
          ((try dsimp only); refine hK.out _ _ ?_; clear hK K; (try simp only [Act.put,pS,pZ,pC]))
          refine wpMixL_nil ?_
          have hlv : (vs.set (k * 2) (.bool true)).length = n * 2 := by have := Un3.out.2.1; simpa using this
          have hus : (us.set k (true, (us[k]?.getD (false, [])).2)).set k (((us.set k (true, (us[k]?.getD (false, [])).2))[k]?.getD (false, [])).1, (us[k]?.getD (false, [])).2 ++ [(id, xs)]) = us.set k (true, (us[k]?.getD (false, [])).2 ++ [(id, xs)]) := by rw [hg8, List.set_set]
          have Un4 := Un3.out
          rw [hus] at Un4
          have X6 := qh (show HostX (u3.setCell ⟨hb, 4 + k * 2 + 1, none⟩ (.slice A8 (mk + 1) c8)) base hb 1 A1 n1 c1 n room (us.set k (true, (us[k]?.getD (false, [])).2 ++ [(id, xs)])) ((vs.set (k * 2) (.bool true)).set (k * 2 + 1) (.slice A8 (mk + 1) c8)) zs (fun i => if i = k then .slice A8 (mk + 1) c8 else tk i) from by
            have hkt : KeepTI u3 (u3.setCell ⟨hb, 4 + k * 2 + 1, none⟩ (.slice A8 (mk + 1) c8)) := KeepTI.set_ Blk3.out (by decide) (by decide) _ _
            refine ⟨?_, hb0, own_keepTI Rm3.out (.inl rfl) hkt, Un4.keepTI hkt, hn10⟩
            have := Blk3.out.set_ (4 + k * 2 + 1) (.slice A8 (mk + 1) c8)
            rwa [Nat.add_assoc, hostC_set, List.set_append_left _ _ (by rw [hlv]; omega)] at this)
          have B6 := qh (B3'.out.setCell (p := ⟨hb, 4 + k * 2 + 1, none⟩) hb0 (.slice A8 (mk + 1) c8))
          generalize u3.setCell ⟨hb, 4 + k * 2 + 1, none⟩ (.slice A8 (mk + 1) c8) = w6 at X6 B6 ⊢
          clear hc3 hgx hf3 Rm3 Un3 Blk3 B3' hus Un4 hne hg8
          go_wp2_with fail
          exact ⟨rfl, rfl, by rw [cavP_new Hok.out Htv.out Hw.out, arvP_yes Ha.out Hf.out]; rfl, by rw [cavP_new Hok.out Htv.out Hw.out, arvP_yes Ha.out Hf.out]; exact ⟨_, _, _, X6.out⟩, B6.out⟩
    · have Hw := qh hw
      obtain ⟨_, hhas⟩ := where_has hw
      have hkl' : k < us.length := by
        have := (where_has hw).1
        rwa [List.length_map] at this
      rw [map_snd_at hkl'] at hhas
      obtain ⟨q, hq⟩ : ∃ q : Nat, atP (us[k]?.getD (false, [])).2 id = (q : Int) := by
        rcases atP_or (us[k]?.getD (false, [])).2 id with ⟨hh, _⟩ | ⟨_, q, e, _⟩
        · rw [hhas] at hh; cases hh
        · exact ⟨q, e⟩
      have hfi : findU us id = ((k : Int), (q : Int)) := by unfold findU; rw [hw, if_neg (by omega), Int.toNat_natCast, hq]
      rw [hfi]
      have m0 : (0 : Int) ≤ (k : Int) := by omega
      clear hw hfi hhas hq
      dsimp only
      go_wp2_with fail
      exact ⟨rfl, rfl, by rw [cavP_twice Hok.out Htv.out Hw.out]; rfl, by rw [cavP_twice Hok.out Htv.out Hw.out]; exact ⟨_, _, _, X5.out⟩, B5.out⟩

section
variable {H : Nat → Prop} {v : World} {base hb n1 c1 n : Nat} {A1 : Option Addr} {room : List Int} {us : List Un}
set_option maxRecDepth 100000 in
set_option maxHeartbeats 1000000 in
theorem arriveH_v (A3 : Option Addr) (n3 c3 : Nat) (id : Int) (xs : List Int) (g : Bool) (h : HostR v base hb 0 A1 n1 c1 n room us) (hok : clOk room us = true) (hx : RdI v v.heap.size A3 n3 xs) (hc3 : n3 ≤ c3) :
    CallsV Tryz.prog H 35 #[.pointer (some ⟨hb, 0, none⟩), .agg #[.int .i64 id, .slice A3 n3 c3], .bool g] v (fun x v' => x = .int .i64 (cavP room us id xs g).2.2 ∧ HostR v' base hb 0 A1 n1 c1 n room (cavP room us id xs g).2.1 ∧ GB base v v') := by
  refine ⟨_, arBody, Tryz.func35, by kernel_rfl, by rfl, fun cs => ?_⟩
  have e : (#[Value.pointer (some ⟨hb, 0, none⟩), .agg #[.int .i64 id, .slice A3 n3 c3], .bool g] ++ Array.replicate (Tryz.f35.ntmps - (#[Value.pointer (some ⟨hb, 0, none⟩), .agg #[.int .i64 id, .slice A3 n3 c3], .bool g] : Array Value).size) undef) = #[.pointer (some ⟨hb, 0, none⟩), .agg #[.int .i64 id, .slice A3 n3 c3], .bool g, undef, undef, undef, undef, undef, undef, undef, undef, undef, undef, undef, undef, undef, undef, undef, undef, undef, undef, undef, undef, undef, undef, undef, undef, undef, undef, undef, undef, undef, undef, undef, undef, undef, undef, undef, undef, undef, undef, undef, undef, undef, undef, undef, undef, undef, undef, undef, undef, undef, undef, undef, undef, undef, undef, undef, undef, undef, undef, undef, undef, undef, undef, undef, undef, undef] := by kernel_rfl
  obtain ⟨ri, rj, he⟩ := arBody_eq
  rw [e, he]
  clear e he
  obtain ⟨vs, zs, tk, X⟩ := h
  refine KV.seqC anaA_good (Nm := fun v₁ a v' => a = ⟨#[.pointer (some ⟨hb, 0, none⟩), .agg #[.int .i64 id, .slice A3 n3 c3], .bool g, undef, .pointer (some ⟨v₁.heap.size, 0, none⟩), undef, .int .i64 0, undef, undef, undef, undef, undef, undef, undef, undef, undef, undef, undef, undef, undef, undef, undef, undef, undef, undef, undef, undef, undef, undef, undef, undef, undef, undef, undef, undef, undef, undef, undef, undef, undef, undef, undef, undef, undef, undef, undef, undef, undef, undef, undef, undef, undef, undef, undef, undef, undef, undef, undef, undef, undef, undef, undef, undef, undef, undef, undef, undef, undef], []⟩ ∧ v' = v₁.alloc (.cells #[.int .i64 id, .slice A3 n3 c3] 40)) (Rt := fun _ _ _ => False) (by kernel_rfl) (by kernel_rfl) rfl (by kernel_rfl) (fun v₁ hs => ?_) (fun v₁ a' v' hs hq => ?_) (fun _ _ _ _ _ h => h.elim)
  · simp only [arC0, arBody, Tryz.f35, Option.getD_some]
    go_wp2
  obtain ⟨rfl, rfl⟩ := hq
  rw [hs.heap]
  refine KV.heap (v := v.alloc (.cells #[.int .i64 id, .slice A3 n3 c3] 40)) ?_ (hs.alloc _).sym
  clear hs v₁
  have hal := alloc_up v (.cells #[.int .i64 id, .slice A3 n3 c3] 40)
  have X0 := X.up hal
  have hk := X0.lk.1
  have hf := X0.lk.2
  have HX := X0.setL (l' := 1)
  have HR := (hx.up hal).lock (v := .int .i32 1) hk
  have hbl := X.blk.lt
  have hb0 := X.ge
  have hold := X.un.old
  have P1 := (Blk.new v 40 #[.int .i64 id, .slice A3 n3 c3]).far (p := ⟨hb, 0, none⟩) (by show v.heap.size ≠ hb; omega) (.int .i32 1)
  have g1 : GB base v (v.alloc (.cells #[.int .i64 id, .slice A3 n3 c3] 40)) := GB.new _ (by omega)
  have hsz : ((v.alloc (.cells #[.int .i64 id, .slice A3 n3 c3] 40)).setCell ⟨hb, 0, none⟩ (.int .i32 1)).heap.size = (v.alloc (.cells #[.int .i64 id, .slice A3 n3 c3] 40)).heap.size := by simp [World.setCell]
  rw [← hsz] at HR
  clear hal X0 hsz
  generalize v.heap.size = gx at P1 hbl hold ⊢
  refine KV.ctl rfl (fun w => stepG_seq) ?_
  refine KV.ctl rfl (fun w => stepG_region) ?_
  rw [show List.range arOps1.size = [0, 1, 2, 3] from rfl]
  simp only [arOps1, arBody, Tryz.f35, Option.getD_some]
  refine KV.op anaA_good rfl (by rfl) (by decide) (by kernel_rfl) (fun t => anaA.noTr_spec (by kernel_rfl) t) (fun v₁ hs K' hK' => ?_)
  go_simp
  refine hK' _ _ ?_
  try walk_nrm
  clear hK' K'
  refine KV.heap (v := v.alloc (.cells #[.int .i64 id, .slice A3 n3 c3] 40)) ?_ ⟨hs.heap.symm, hs.os.symm, hs.output.symm⟩
  clear hs v₁
  refine KV.op anaA_good rfl (by rfl) (by decide) (by kernel_rfl) (fun t => anaA.noTr_spec (by kernel_rfl) t) (fun v₁ hs K' hK' => ?_)
  go_simp
  refine hK' _ _ ?_
  try walk_nrm
  clear hK' K'
  refine KV.heap (v := v.alloc (.cells #[.int .i64 id, .slice A3 n3 c3] 40)) ?_ ⟨hs.heap.symm, hs.os.symm, hs.output.symm⟩
  clear hs v₁
  refine KV.op anaA_good rfl (by rfl) (by decide) (by kernel_rfl) (fun t => anaA.noTr_spec (by kernel_rfl) t) (fun v₁ hs K' hK' => ?_)
  go_simp
  refine hK' _ _ ?_
  try walk_nrm
  clear hK' K'
  refine KV.heap (v := v.alloc (.cells #[.int .i64 id, .slice A3 n3 c3] 40)) ?_ ⟨hs.heap.symm, hs.os.symm, hs.output.symm⟩
  clear hs v₁
  refine KV.lock (p := ⟨hb, 0, none⟩) muLib rfl (by rfl) (by decide) rfl (by kernel_rfl) rfl hk hf ?_
  try walk_nrm
  refine KV.ctl rfl (fun w => stepG_region_end) ?_
  replace g1 := g1.trans (GB.set (p := ⟨hb, 0, none⟩) hb0 (.int .i32 1))
  generalize (v.alloc (.cells #[.int .i64 id, .slice A3 n3 c3] 40)).setCell ⟨hb, 0, none⟩ (.int .i32 1) = v1 at P1 HX HR g1 ⊢
  clear hk hf
  refine KV.ctl rfl (fun w => stepG_seq) ?_
  refine KV.ctl rfl (fun w => stepG_region) ?_
  rw [show List.range arOps2.size = [0, 1, 2, 3] from rfl]
  simp only [arOps2, arBody, Tryz.f35, Option.getD_some]
  refine KV.op anaA_good rfl (by rfl) (by decide) (by kernel_rfl) (fun t => anaA.noTr_spec (by kernel_rfl) t) (fun v₁ hs K' hK' => ?_)
  go_simp
  refine hK' _ _ ?_
  try walk_nrm
  clear hK' K'
  refine KV.heap (v := v1) ?_ ⟨hs.heap.symm, hs.os.symm, hs.output.symm⟩
  clear hs v₁
  refine KV.op anaA_good rfl (by rfl) (by decide) (by kernel_rfl) (fun t => anaA.noTr_spec (by kernel_rfl) t) (fun v₁ hs K' hK' => ?_)
  go_simp
  refine hK' _ _ ?_
  try walk_nrm
  clear hK' K'
  refine KV.heap (v := v1) ?_ ⟨hs.heap.symm, hs.os.symm, hs.output.symm⟩
  clear hs v₁
  refine KV.op anaA_good rfl (by rfl) (by decide) (by kernel_rfl) (fun t => anaA.noTr_spec (by kernel_rfl) t) (fun v₁ hs K' hK' => ?_)
  go_simp
  refine hK' _ _ ?_
  try walk_nrm
  clear hK' K'
  refine KV.heap (v := v1) ?_ ⟨hs.heap.symm, hs.os.symm, hs.output.symm⟩
  clear hs v₁
  refine KV.defer rfl (by rfl) (by decide) rfl ?_
  try walk_nrm
  refine KV.ctl rfl (fun w => stepG_region_end) ?_
  refine KV.codeD anaA_good (ds := [dcall 57 #[.pointer (some ⟨hb, 0, none⟩)]]) (T := arT hb gx id A3 n3 c3 g) (Q := HoQ 6 base hb A1 n1 c1 n room (cavP room us id xs g)) (by kernel_rfl) rfl (fun t => anaA.noTr_spec (by kernel_rfl) t) (by kernel_rfl)
    (fun v₁ hs => ar_rest base hb gx A1 A3 n1 c1 n n3 c3 room us id xs g vs zs tk v₁ (HX.keep (KeepTI.same hs.heap) (by rw [hs.heap])) hok (HR.gain (fun p y hy => hs.cell hy) (by rw [hs.heap]; exact Nat.le_refl _)) hc3 (ViewOf_cells_of P1 hs.heap) hbl hold)
    (fun v₁ e a' v' h => .inr h.1) (fun v₁ a' v' hs hq => nomatch hq.1) (fun v₁ a' v' todo hs hq hd => ?_)
  obtain ⟨_, _, hx, hr, hbw⟩ := hq
  have g2 := g1.trans (GB.from hs (GB.of_below hbw))
  refine KV.unlock (L := muLink) muLib rfl hr.lk.1 hr.lk.2 (.stop ?_)
  exact ⟨_, ⟨a'.tmps, []⟩, todo, _, Tryz.func35, rfl, rfl, resultsC_tmp rfl a'.tmps, hx, hr.setL, g2.trans (GB.set hr.ge _)⟩
end

noncomputable def acBody : Code := Tryz.f34.body.getD .skip
noncomputable def acC0 : Code := match acBody with | .seq a _ => a | _ => .skip
noncomputable def acOps1 : Array Oper := match acBody with | .seq _ (.seq (.region _ ops _) _) => ops | _ => #[]
theorem acBody_eq : ∃ i, acBody = .seq acC0 (.seq (.region i acOps1 false) .ret) := ⟨_, by rfl⟩
section
variable {H : Nat → Prop} {v : World} {base hb n1 c1 n gn go n3 c3 : Nat} {A1 A3 : Option Addr} {room : List Int} {us : List Un} {id : Int} {xs : List Int} {g : Bool}
set_option maxRecDepth 100000 in
set_option maxHeartbeats 1000000 in
theorem clusterArrive1_v (h : HostR v base hb 0 A1 n1 c1 n room us) (hok : clOk room us = true) (hn : v.cell? ⟨gn, 0, none⟩ = some (.int .i64 id)) (hn1 : v.cell? ⟨gn, 1, none⟩ = some (.slice A3 n3 c3)) (ho : v.cell? ⟨go, 0, none⟩ = some (.bool g)) (hx : RdI v v.heap.size A3 n3 xs) (hc3 : n3 ≤ c3) :
    CallsV Tryz.prog H 34 #[.pointer (some ⟨hb, 0, none⟩), .pointer (some ⟨gn, 0, none⟩), .pointer (some ⟨go, 0, none⟩)] v (fun x v' => x = .int .i64 (cavP room us id xs g).2.2 ∧ HostR v' base hb 0 A1 n1 c1 n room (cavP room us id xs g).2.1 ∧ GB base v v') := by
  refine ⟨_, acBody, Tryz.func34, by kernel_rfl, by rfl, fun cs => ?_⟩
  have e : (#[Value.pointer (some ⟨hb, 0, none⟩), .pointer (some ⟨gn, 0, none⟩), .pointer (some ⟨go, 0, none⟩)] ++ Array.replicate (Tryz.f34.ntmps - (#[Value.pointer (some ⟨hb, 0, none⟩), .pointer (some ⟨gn, 0, none⟩), .pointer (some ⟨go, 0, none⟩)] : Array Value).size) undef) = #[.pointer (some ⟨hb, 0, none⟩), .pointer (some ⟨gn, 0, none⟩), .pointer (some ⟨go, 0, none⟩), undef, undef, undef, undef, undef, undef] := by kernel_rfl
  obtain ⟨ri, he⟩ := acBody_eq
  rw [e, he]
  clear e he
  refine KV.seqC anaA_good (Nm := fun v₁ a v' => a = ⟨#[.pointer (some ⟨hb, 0, none⟩), .pointer (some ⟨gn, 0, none⟩), .pointer (some ⟨go, 0, none⟩), undef, .int .i64 0, undef, undef, undef, undef], []⟩ ∧ v' = v₁) (Rt := fun _ _ _ => False) (by kernel_rfl) (by kernel_rfl) rfl (by kernel_rfl) (fun v₁ hs => ?_) (fun v₁ a' v' hs hq => ?_) (fun _ _ _ _ _ h => h.elim)
  · simp only [acC0, acBody, Tryz.f34, Option.getD_some]
    go_wp2
  obtain ⟨rfl, rfl⟩ := hq
  refine KV.heap (v := v) ?_ hs.sym
  clear hs v'
  refine KV.ctl rfl (fun w => stepG_seq) ?_
  refine KV.ctl rfl (fun w => stepG_region) ?_
  rw [show List.range acOps1.size = [0, 1, 2, 3, 4] from rfl]
  simp only [acOps1, acBody, Tryz.f34, Option.getD_some]
  refine KV.op anaA_good rfl (by rfl) (by decide) (by kernel_rfl) (fun t => anaA.noTr_spec (by kernel_rfl) t) (fun v₁ hs K' hK' => ?_)
  go_simp
  refine hK' _ _ ?_
  try walk_nrm
  clear hK' K'
  refine KV.heap (v := v) ?_ ⟨hs.heap.symm, hs.os.symm, hs.output.symm⟩
  clear hs v₁
  refine KV.op anaA_good rfl (by rfl) (by decide) (by kernel_rfl) (fun t => anaA.noTr_spec (by kernel_rfl) t) (fun v₁ hs K' hK' => ?_)
  have x0 := hs.cell hn
  have x1 := hs.cell hn1
  go_simp
  refine hK' _ _ ?_
  try walk_nrm
  clear hK' K' x0 x1
  refine KV.heap (v := v) ?_ ⟨hs.heap.symm, hs.os.symm, hs.output.symm⟩
  clear hs v₁
  refine KV.op anaA_good rfl (by rfl) (by decide) (by kernel_rfl) (fun t => anaA.noTr_spec (by kernel_rfl) t) (fun v₁ hs K' hK' => ?_)
  have x0 := hs.cell ho
  go_simp
  refine hK' _ _ ?_
  try walk_nrm
  clear hK' K' x0
  refine KV.heap (v := v) ?_ ⟨hs.heap.symm, hs.os.symm, hs.output.symm⟩
  clear hs v₁
  refine KV.callV rfl (by rfl) (by decide) rfl (Post := fun x v' => x = .int .i64 (cavP room us id xs g).2.2 ∧ HostR v' base hb 0 A1 n1 c1 n room (cavP room us id xs g).2.1 ∧ GB base v v') ?_ (fun x v3 hp => ?_)
  · have hus := arriveH_v (H := H) A3 n3 c3 id xs g h hok hx hc3
    simpa [Act.eval, Act.put] using hus
  obtain ⟨rfl, h3, g3⟩ := hp
  generalize (cavP room us id xs g).2.2 = code
  try walk_nrm
  refine KV.op anaA_good rfl (by rfl) (by decide) (by kernel_rfl) (fun t => anaA.noTr_spec (by kernel_rfl) t) (fun v₁ hs K' hK' => ?_)
  go_simp
  refine hK' _ _ ?_
  try walk_nrm
  clear hK' K'
  refine KV.heap (v := v3) ?_ ⟨hs.heap.symm, hs.os.symm, hs.output.symm⟩
  clear hs v₁
  refine KV.ctl rfl (fun w => stepG_region_end) ?_
  refine KV.endC anaA_good (Rt := fun v₁ a v' => a.defers = [] ∧ a.tmps.getD 4 undef = .int .i64 code ∧ v' = v₁) (by kernel_rfl) (by kernel_rfl) rfl (by kernel_rfl) (fun v₁ hs => ?_) (fun v₁ a' v' todo hs hq => ?_)
  · go_wp2
  · obtain ⟨q1, q2, rfl⟩ := hq
    exact ⟨_, a', todo, _, Tryz.func34, q1, rfl, resultsC_tmp rfl a'.tmps, q2, h3.same hs.heap, g3.same hs⟩
end

noncomputable def caBody : Code := Tryz.f14.body.getD .skip
noncomputable def caC0 : Code := match caBody with | .seq a _ => a | _ => .skip
noncomputable def caOps1 : Array Oper := match caBody with | .seq _ (.seq (.region _ ops _) _) => ops | _ => #[]
theorem caBody_eq : ∃ i, caBody = .seq caC0 (.seq (.region i caOps1 false) .ret) := ⟨_, by rfl⟩
section
variable {H : Nat → Prop} {v : World} {n1 c1 n2 c2 : Nat} {A1 A2 : Option Addr} {room : List Int} {us : List Un}
set_option maxRecDepth 100000 in
set_option maxHeartbeats 1000000 in
theorem clusterArrive_v (A3 : Option Addr) (n3 c3 : Nat) (id : Int) (xs : List Int) (g : Bool) (h : RdC v A1 A2 n1 n2 room us) (hok : clOk room us = true) (hx : RdI v v.heap.size A3 n3 xs) (hc3 : n3 ≤ c3) :
    CallsM Tryz.prog H 14 #[.agg #[.slice A1 n1 c1, .slice A2 n2 c2], .agg #[.int .i64 id, .slice A3 n3 c3], .bool g] v (fun x v' => ∃ A5 c5 A6 c6, x = .tuple #[.agg #[.slice A5 n1 c5, .slice A6 n2 c6], .int .i64 (cavP room us id xs g).2.2] ∧ RdC v' A5 A6 n1 n2 room (cavP room us id xs g).2.1 ∧ GR v v') := by
  refine ⟨_, caBody, Tryz.func14, by kernel_rfl, by rfl, fun cs => ?_⟩
  have e : (#[Value.agg #[.slice A1 n1 c1, .slice A2 n2 c2], .agg #[.int .i64 id, .slice A3 n3 c3], .bool g] ++ Array.replicate (Tryz.f14.ntmps - (#[Value.agg #[.slice A1 n1 c1, .slice A2 n2 c2], .agg #[.int .i64 id, .slice A3 n3 c3], .bool g] : Array Value).size) undef) = #[.agg #[.slice A1 n1 c1, .slice A2 n2 c2], .agg #[.int .i64 id, .slice A3 n3 c3], .bool g, undef, undef, undef, undef, undef, undef, undef, undef, undef, undef] := by kernel_rfl
  obtain ⟨ri, he⟩ := caBody_eq
  rw [e, he]
  clear e he
  have hok' := (cav_facts (id := id) (xs := xs) (g := g) hok).2.1
  refine KV.seqC anaA_good (Nm := fun v₁ a v' => a = ⟨#[.agg #[.slice A1 n1 c1, .slice A2 n2 c2], .agg #[.int .i64 id, .slice A3 n3 c3], .bool g, .pointer (some ⟨v₁.heap.size, 0, none⟩), .pointer (some ⟨v₁.heap.size + 1, 0, none⟩), .pointer (some ⟨v₁.heap.size + 2, 0, none⟩), .pointer (some ⟨v₁.heap.size + 3, 0, none⟩), .int .i64 0, undef, undef, undef, undef, undef], []⟩ ∧ v' = (((v₁.alloc (.cells #[.slice A1 n1 c1, .slice A2 n2 c2] 26)).alloc (.cells #[.int .i64 id, .slice A3 n3 c3] 40)).alloc (.cells #[.bool g] 4)).alloc (.cells #[.slice none 0 0, .slice none 0 0] 26)) (Rt := fun _ _ _ => False) (by kernel_rfl) (by kernel_rfl) rfl (by kernel_rfl) (fun v₁ hs => ?_) (fun v₁ a' v' hs hq => ?_) (fun _ _ _ _ _ h => h.elim)
  · simp only [caC0, caBody, Tryz.f14, Option.getD_some]
    go_wp2
  obtain ⟨rfl, rfl⟩ := hq
  rw [hs.heap]
  refine KV.heap (v := (((v.alloc (.cells #[.slice A1 n1 c1, .slice A2 n2 c2] 26)).alloc (.cells #[.int .i64 id, .slice A3 n3 c3] 40)).alloc (.cells #[.bool g] 4)).alloc (.cells #[.slice none 0 0, .slice none 0 0] 26)) ?_ ((((hs.alloc _).alloc _).alloc _).alloc _).sym
  clear hs v₁
  obtain ⟨P1, N1, G1, Z1, g1, H1, HX1⟩ : Blk ((((v.alloc (.cells #[.slice A1 n1 c1, .slice A2 n2 c2] 26)).alloc (.cells #[.int .i64 id, .slice A3 n3 c3] 40)).alloc (.cells #[.bool g] 4)).alloc (.cells #[.slice none 0 0, .slice none 0 0] 26)) v.heap.size 26 #[.slice A1 n1 c1, .slice A2 n2 c2] ∧ Blk ((((v.alloc (.cells #[.slice A1 n1 c1, .slice A2 n2 c2] 26)).alloc (.cells #[.int .i64 id, .slice A3 n3 c3] 40)).alloc (.cells #[.bool g] 4)).alloc (.cells #[.slice none 0 0, .slice none 0 0] 26)) (v.heap.size + 1) 40 #[.int .i64 id, .slice A3 n3 c3] ∧ Blk ((((v.alloc (.cells #[.slice A1 n1 c1, .slice A2 n2 c2] 26)).alloc (.cells #[.int .i64 id, .slice A3 n3 c3] 40)).alloc (.cells #[.bool g] 4)).alloc (.cells #[.slice none 0 0, .slice none 0 0] 26)) (v.heap.size + 2) 4 #[.bool g] ∧
      Blk ((((v.alloc (.cells #[.slice A1 n1 c1, .slice A2 n2 c2] 26)).alloc (.cells #[.int .i64 id, .slice A3 n3 c3] 40)).alloc (.cells #[.bool g] 4)).alloc (.cells #[.slice none 0 0, .slice none 0 0] 26)) (v.heap.size + 3) 26 #[.slice none 0 0, .slice none 0 0] ∧ GB v.heap.size v ((((v.alloc (.cells #[.slice A1 n1 c1, .slice A2 n2 c2] 26)).alloc (.cells #[.int .i64 id, .slice A3 n3 c3] 40)).alloc (.cells #[.bool g] 4)).alloc (.cells #[.slice none 0 0, .slice none 0 0] 26)) ∧ RdC ((((v.alloc (.cells #[.slice A1 n1 c1, .slice A2 n2 c2] 26)).alloc (.cells #[.int .i64 id, .slice A3 n3 c3] 40)).alloc (.cells #[.bool g] 4)).alloc (.cells #[.slice none 0 0, .slice none 0 0] 26)) A1 A2 n1 n2 room us ∧ RdI ((((v.alloc (.cells #[.slice A1 n1 c1, .slice A2 n2 c2] 26)).alloc (.cells #[.int .i64 id, .slice A3 n3 c3] 40)).alloc (.cells #[.bool g] 4)).alloc (.cells #[.slice none 0 0, .slice none 0 0] 26)) ((((v.alloc (.cells #[.slice A1 n1 c1, .slice A2 n2 c2] 26)).alloc (.cells #[.int .i64 id, .slice A3 n3 c3] 40)).alloc (.cells #[.bool g] 4)).alloc (.cells #[.slice none 0 0, .slice none 0 0] 26)).heap.size A3 n3 xs := by
    have s1 : (v.alloc (.cells #[.slice A1 n1 c1, .slice A2 n2 c2] 26)).heap.size = v.heap.size + 1 := World.size_alloc _ _
    have s2 : ((v.alloc (.cells #[.slice A1 n1 c1, .slice A2 n2 c2] 26)).alloc (.cells #[.int .i64 id, .slice A3 n3 c3] 40)).heap.size = v.heap.size + 2 := by rw [World.size_alloc, s1]
    have s3 : (((v.alloc (.cells #[.slice A1 n1 c1, .slice A2 n2 c2] 26)).alloc (.cells #[.int .i64 id, .slice A3 n3 c3] 40)).alloc (.cells #[.bool g] 4)).heap.size = v.heap.size + 3 := by rw [World.size_alloc, s2]
    have b1 := Blk.new v 26 #[.slice A1 n1 c1, .slice A2 n2 c2]
    have b2 := Blk.new (v.alloc (.cells #[.slice A1 n1 c1, .slice A2 n2 c2] 26)) 40 #[.int .i64 id, .slice A3 n3 c3]
    have b3 := Blk.new ((v.alloc (.cells #[.slice A1 n1 c1, .slice A2 n2 c2] 26)).alloc (.cells #[.int .i64 id, .slice A3 n3 c3] 40)) 4 #[.bool g]
    have b4 := Blk.new (((v.alloc (.cells #[.slice A1 n1 c1, .slice A2 n2 c2] 26)).alloc (.cells #[.int .i64 id, .slice A3 n3 c3] 40)).alloc (.cells #[.bool g] 4)) 26 #[.slice none 0 0, .slice none 0 0]
    rw [s1] at b2
    rw [s2] at b3
    rw [s3] at b4
    have hB := (((alloc_up v (.cells #[.slice A1 n1 c1, .slice A2 n2 c2] 26)).alloc (by omega) (.cells #[.int .i64 id, .slice A3 n3 c3] 40)).alloc (by omega) (.cells #[.bool g] 4)).alloc (by omega) (.cells #[.slice none 0 0, .slice none 0 0] 26)
    exact ⟨((b1.alloc _).alloc _).alloc _, (b2.alloc _).alloc _, b3.alloc _, b4, GB.of_below hB, h.up hB, hx.up hB⟩
  generalize hgb : v.heap.size = gb at P1 N1 G1 Z1 g1 ⊢
  generalize (((v.alloc (.cells #[.slice A1 n1 c1, .slice A2 n2 c2] 26)).alloc (.cells #[.int .i64 id, .slice A3 n3 c3] 40)).alloc (.cells #[.bool g] 4)).alloc (.cells #[.slice none 0 0, .slice none 0 0] 26) = v1 at P1 N1 G1 Z1 g1 H1 HX1 ⊢
  refine KV.ctl rfl (fun w => stepG_seq) ?_
  refine KV.ctl rfl (fun w => stepG_region) ?_
  rw [show List.range caOps1.size = [0, 1, 2, 3, 4, 5, 6] from rfl]
  simp only [caOps1, caBody, Tryz.f14, Option.getD_some]
  refine KV.op anaA_good rfl (by rfl) (by decide) (by kernel_rfl) (fun t => anaA.noTr_spec (by kernel_rfl) t) (fun v₁ hs K' hK' => ?_)
  have hbx := ViewOf_cells_of P1 hs.heap
  have x0 := hbx.cell 0
  have x1 := hbx.cell 1
  simp only [gT, gZ, gS] at x0 x1
  clear hbx
  go_simp
  refine hK' _ _ ?_
  try walk_nrm
  clear hK' K' x0 x1
  refine KV.heap (v := v1) ?_ ⟨hs.heap.symm, hs.os.symm, hs.output.symm⟩
  clear hs v₁
  refine KV.makeFunc rfl (by rfl) (by decide) rfl ?_
  try walk_nrm
  have lz1 := Z1.lt
  refine KV.callM rfl (by rfl) (by decide) rfl (Post := fun x v' => ∃ A5 c5 A6 c6, x = .tuple #[.agg #[.slice A5 n1 c5, .slice A6 n2 c6], .int .i64 (cavP room us id xs g).2.2] ∧ OwnC v' v1.heap.size (.slice A5 n1 c5) (.slice A6 n2 c6) n1 n2 room (cavP room us id xs g).2.1 ∧ GB v1.heap.size v1 v') ?_ (fun x v5 hp => ?_)
  · have hus := done_v (H := H) (c1 := c1) (c2 := c2) (F := 34) (caps := #[.pointer (some ⟨gb + 1, 0, none⟩), .pointer (some ⟨gb + 2, 0, none⟩)]) (code := (cavP room us id xs g).2.2) H1 hok hok' (fun W base hb A9 c9 hg hbs hh =>
      (clusterArrive1_v hh hok ((GB.blk N1 hg N1.lt).cell 0) ((GB.blk N1 hg N1.lt).cell 1) ((GB.blk G1 hg G1.lt).cell 0) (HX1.keep (fun p hp => World.cell?_of_block (hg.rows _ hp)) hg.size) hc3).toM)
    simpa [Act.eval, Act.put] using hus
  obtain ⟨A5, c5, A6, c6, rfl, h5, g5⟩ := hp
  have Z5 := GB.blk Z1 g5 lz1
  replace h5 := h5.low (show gb ≤ v1.heap.size by omega)
  replace g5 := g1.trans (g5.mono (show gb ≤ v1.heap.size by omega))
  clear g1 P1 N1 G1 Z1 H1 HX1 lz1
  generalize (cavP room us id xs g).2.2 = code
  try walk_nrm
  refine KV.op anaA_good rfl (by rfl) (by decide) (by kernel_rfl) (fun t => anaA.noTr_spec (by kernel_rfl) t) (fun v₁ hs K' hK' => ?_)
  go_simp
  refine hK' _ _ ?_
  try walk_nrm
  clear hK' K'
  refine KV.heap (v := v5) ?_ ⟨hs.heap.symm, hs.os.symm, hs.output.symm⟩
  clear hs v₁
  refine KV.op anaA_good rfl (by rfl) (by decide) (by kernel_rfl) (fun t => anaA.noTr_spec (by kernel_rfl) t) (fun v₁ hs K' hK' => ?_)
  go_simp
  refine hK' _ _ ?_
  try walk_nrm
  clear hK' K'
  refine KV.heap (v := v5) ?_ ⟨hs.heap.symm, hs.os.symm, hs.output.symm⟩
  clear hs v₁
  refine KV.op anaA_good rfl (by rfl) (by decide) (by kernel_rfl) (fun t => anaA.noTr_spec (by kernel_rfl) t) (fun v₁ hs K' hK' => ?_)
  have hbx := ViewOf_cells_of Z5 hs.heap
  have y0 := hbx.cell 0
  have y1 := hbx.cell 1
  simp only [gT, gZ, gS] at y0 y1
  have y2 := hbx.frozen 0
  have y3 := hbx.frozen 1
  clear hbx
  go_simp
  refine hK' _ _ ?_
  try walk_nrm
  clear hK' K' y0 y1 y2 y3
  refine KV.heap (v := (v5.setCell ⟨gb + 3, 0, none⟩ (.slice A5 n1 c5)).setCell ⟨gb + 3, 1, none⟩ (.slice A6 n2 c6)) ?_ ((hs.set _ _).set _ _).sym
  clear hs v₁
  have kt := (KeepTU.set_ Z5 (by decide) (by decide) (by decide) 0 (.slice A5 n1 c5)).trans (KeepTU.set_ (Z5.set_ 0 (.slice A5 n1 c5)) (by decide) (by decide) (by decide) 1 (.slice A6 n2 c6))
  have EQ := (Z5.set_ 0 (.slice A5 n1 c5)).set_ 1 (.slice A6 n2 c6)
  have g6 := (g5.trans (GB.set (p := ⟨gb + 3, 0, none⟩) (by show gb ≤ gb + 3; omega) (.slice A5 n1 c5))).trans (GB.set (p := ⟨gb + 3, 1, none⟩) (by show gb ≤ gb + 3; omega) (.slice A6 n2 c6))
  replace h5 := h5.keepTU kt
  clear kt g5 Z5
  generalize (v5.setCell ⟨gb + 3, 0, none⟩ (.slice A5 n1 c5)).setCell ⟨gb + 3, 1, none⟩ (.slice A6 n2 c6) = v6 at EQ g6 h5 ⊢
  refine KV.op anaA_good rfl (by rfl) (by decide) (by kernel_rfl) (fun t => anaA.noTr_spec (by kernel_rfl) t) (fun v₁ hs K' hK' => ?_)
  go_simp
  refine hK' _ _ ?_
  try walk_nrm
  clear hK' K'
  refine KV.heap (v := v6) ?_ ⟨hs.heap.symm, hs.os.symm, hs.output.symm⟩
  clear hs v₁
  refine KV.ctl rfl (fun w => stepG_region_end) ?_
  refine KV.endC anaA_good (Rt := fun v₁ a v' => a.defers = [] ∧ (a.tmps.getD 6 undef = .pointer (some ⟨gb + 3, 0, none⟩) ∧ a.tmps.getD 7 undef = .int .i64 code) ∧ v' = v₁) (by kernel_rfl) (by kernel_rfl) rfl (by kernel_rfl) (fun v₁ hs => ?_) (fun v₁ a' v' todo hs hq => ?_)
  · go_wp2
  · obtain ⟨q1, ⟨q2, q3⟩, rfl⟩ := hq
    subst hgb
    exact ⟨_, a', todo, _, Tryz.func14, q1, rfl, results_cl2 rfl q2 q3 (ViewOf_cells_of EQ hs.heap), A5, c5, A6, c6, rfl, (h5.keepTU (KeepTU.same hs.heap)).rd (by have := h.a.len; have := (clOk_facts hok).1; omega) (clOk_sh hok'), (g6.same hs).gr⟩
end
end Go.Proofs.YtlcgbnmmbheleaaGreat
