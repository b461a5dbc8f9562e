/- Several texts in one. -/
import Derived.Test.YtlcgbnmmbheleaaGreatV19
import Derived.Conc.MuLone
import Derived.Conc.DeferLaws
import Derived.Conc.AtomicLaws2
import Derived.Conc.MarkLaws
namespace Go.Proofs.YtlcgbnmmbheleaaGreat
open Go Go.Conc Go.RowKit Go.Conc.Locks
set_option linter.unusedVariables false
set_option linter.unusedSimpArgs false

def KVD (P : Program) (H : Nat → Prop) (Tgt : Goroutine → World → Prop) (dd : Nat) (g : Goroutine) (v : World) : Prop :=
  ∀ (S : Nat → Prop) (w : World) (gs : Array Goroutine) (sl : Option (Nat × Nat)) (t : Trace) (q : Nat → Nat), ViewOf S H v w → gs[0]? = some g → Leavers P t gs q → PastD S gs.size w.heap.size t dd →
    ∃ (N : Nat) (gs' : Array Goroutine) (g' : Goroutine) (v' w' : World) (S' : Nat → Prop) (sl' : Option (Nat × Nat)) (t' : Trace) (q' : Nat → Nat),
      runNT P N (crowd gs w sl) t = (.next (crowd gs' w' sl'), t') ∧ gs'[0]? = some g' ∧ Leavers P t' gs' q' ∧ PastK S' gs'.size w'.heap.size t' ∧ ViewOf S' H v' w' ∧ Tgt g' v' ∧ Kept S H w S' w'

section
variable {P : Program} {A : Ana} {H : Nat → Prop} {Tgt : Goroutine → World → Prop} {g : Goroutine} {v v' : World} {dd : Nat}
theorem KVD.zero (h : KVD P H Tgt 0 g v) : KV P H Tgt g v := h
theorem KV.zero (h : KV P H Tgt g v) : KVD P H Tgt 0 g v := h
theorem KVD.heap (h : KVD P H Tgt dd g v) (e : SameHeap v v') : KVD P H Tgt dd g v' := fun S w gs sl t q hv h0 hL hP => h S w gs sl t q (hv.same_heap e) h0 hL hP

theorem KVD.one (hs : g.status = .running) (h : ∀ S w, ViewOf S H v w → ∀ d, ∃ g' v' w' es e', stepG P true g (w.at d) = .go g' w' es ∧ ViewOf S H v' w' ∧ (∀ e ∈ es, looseE S w'.heap.size e) ∧ deafBehind dd es = e' ∧ w'.tape = w.tape ∧ w.heap.size ≤ w'.heap.size ∧ (∀ b : Nat, S b ∨ H b → w'.heap[b]? = w.heap[b]?) ∧ KVD P H Tgt e' g' v') : KVD P H Tgt dd g v :=
  fun S w gs sl t q hv h0 hL hP => by
    obtain ⟨k, gs1, d2, sl1, t1, q1, d, sl2, r1, r2, r3, r4, r5, r6⟩ := turn0 (P := P) (S := S) hs w _ gs w.drawn sl t q rfl h0 hL hP
    obtain ⟨g', v', w', es, e', hst, hv', hes, rfl, ht, hsz, hk, hn⟩ := h S w hv d
    obtain ⟨s1, s2, s3, s4⟩ := step0_beside hst r2 r4 r5
    obtain ⟨N, gs2, g2, v2, w2, S2, sl3, t2, q2, u1, u2, u3, u4, u5, u6, u7⟩ := hn S w' _ sl2 _ q1 hv' s3 s4 (by rw [s2]; exact r6.loose hsz hes)
    refine ⟨k + 1 + N, gs2, g2, v2, w2, S2, sl3, t2, q2, ?_, u2, u3, u4, u5, u6, (Kept.mk ht hsz (fun b hb => hk b (.inr hb)) fun _ hb => .inl hb).trans u7⟩
    rw [runNT_add, runNT_add, show runNT P k (crowd gs w sl) t = _ from r1]
    dsimp only
    rw [s1]
    exact u1
theorem KVD.ctl {g' : Goroutine} (hs : g.status = .running) (h : ∀ w, stepG P true g w = .go g' w #[]) (hn : KVD P H Tgt dd g' v) : KVD P H Tgt dd g v :=
  .one hs fun S w hv d => ⟨g', v, w.at d, #[], dd, h _, hv.at d, by simp, rfl, rfl, Nat.le_refl _, fun _ _ => rfl, hn⟩

theorem deaf_tame {S : Nat → Prop} {N : Nat} {es : Array Event} (h : ∀ e ∈ es, tameE S N e) (d : Nat) : deafBehind d es = d := deafBehind_still (fun e he => tame_said (h e he)) d

section
variable {b : Frame} {a : Act} {k : List Item} {cs : List Frame} {ops : Array Oper} {i : Nat} {rest : List Nat} {o : Oper} {f : FuncId} {fn : Func} {ars : Array Operand} {ats : Array TypeId}
theorem KVD.op (hA : A.good P = true) (ho : ops[i]? = some o) (hw : Region.wanted o (yielded ops a.tmps) = true) (hk : b.kind ≠ .early) (hok : operOK P A b.fn o = true) (htr : ∀ t, A.tr b.fn t = [])
    (h : ∀ v₁, SameHeap v₁ v → ∀ K' : Act → World → Prop, (∀ a' v', KVD P H Tgt dd (G (b.at a' (.inRegion ops rest :: k)) cs) v' → K' a' v') → uponK o a K' ((execOp a.eval o).run P v₁)) :
    KVD P H Tgt dd (G (b.at a (.inRegion ops (i :: rest) :: k)) cs) v := by
  refine .one rfl fun S w hv d => ?_
  have hg := h { v with tape := w.tape, drawn := d } ⟨rfl, rfl, rfl⟩ (fun a' v' => KVD P H Tgt dd (G (b.at a' (.inRegion ops rest :: k)) cs) v') (fun _ _ x => x)
  have hv1 : ViewOf S H { v with tape := w.tape, drawn := d } (w.at d) := (hv.at d).same_heap ⟨rfl, rfl, rfl⟩
  rcases lk_execOp (S := S) (H := H) hA hok a.tmps (fun t h => absurd (htr t) h) a.eval (fun t => rfl) (fun g => rfl) (fun x => rfl) _ _ hv1 (fun i _ q => rfl) with ⟨x, v', e1, e2⟩ | ⟨n, x, v', w', e1, e2, e3, e4, e5, e6, e7, e8⟩
  · rw [e1] at hg; exact hg.elim
  · rw [e1] at hg
    have ht : ∀ e ∈ listed P b.fn a o (w.at d), tameE S w'.heap.size e := fun e he => (e7 #[] e (mem_listed he)).resolve_left (by simp)
    cases x with
    | value y => exact ⟨_, v', w', _, dd, stepG_value ho hw hk e2, e4, fun e he => .inl (ht e he), deaf_tame ht dd, e6.tape, e6.size, e6.kept, hg⟩
    | skip => exact ⟨_, v', w', _, dd, stepG_none ho hw hk e2, e4, fun e he => .inl (ht e he), deaf_tame ht dd, e6.tape, e6.size, e6.kept, hg⟩
    | _ => exact hg.elim

theorem KVD.dis (ho : ops[i]? = some o) (hw : Region.wanted o (yielded ops a.tmps) = true) (hk : b.kind ≠ .early) (hop : o.op = .call { callee := .value (.func f), args := ars, argTypes := ats })
    (hf : P.funcs[f]? = some fn) (hname : (fn.name == "runtime.NumGoroutine") = false) (hb : fn.body.isNone = true) (hn : Extern.findNext fn = none) (he : Extern.find fn = some (fun _ => do mark .disable; pure Extern.Race.none_))
    (next : KVD P H Tgt (dd + 1) (G (b.at (a.put o.dst (.tuple #[])) (.inRegion ops rest :: k)) cs) v) : KVD P H Tgt dd (G (b.at a (.inRegion ops (i :: rest) :: k)) cs) v :=
  .one rfl fun S w hv d => ⟨_, v, w.at d, _, dd + 1, stepG_mark0 .disable (by simp) ho hw hk hop hf hname hb hn he, hv.at d, fun e he => by
    rw [Array.mem_singleton] at he
    subst he
    exact .inr (.inl rfl), rfl, rfl, Nat.le_refl _, fun _ _ => rfl, next⟩
theorem KVD.en (ho : ops[i]? = some o) (hw : Region.wanted o (yielded ops a.tmps) = true) (hk : b.kind ≠ .early) (hop : o.op = .call { callee := .value (.func f), args := ars, argTypes := ats })
    (hf : P.funcs[f]? = some fn) (hname : (fn.name == "runtime.NumGoroutine") = false) (hb : fn.body.isNone = true) (hn : Extern.findNext fn = none) (he : Extern.find fn = some (fun _ => do mark .enable; pure Extern.Race.none_))
    (next : KVD P H Tgt dd (G (b.at (a.put o.dst (.tuple #[])) (.inRegion ops rest :: k)) cs) v) : KVD P H Tgt (dd + 1) (G (b.at a (.inRegion ops (i :: rest) :: k)) cs) v :=
  .one rfl fun S w hv d => ⟨_, v, w.at d, _, dd, stepG_mark0 .enable (by simp) ho hw hk hop hf hname hb hn he, hv.at d, fun e he => by
    rw [Array.mem_singleton] at he
    subst he
    exact .inr (.inr (.inl rfl)), rfl, rfl, Nat.le_refl _, fun _ _ => rfl, next⟩
theorem KVD.say (mk : Addr → Mark) (hm : mk = .acquire ∨ mk = .releaseMerge) (ho : ops[i]? = some o) (hw : Region.wanted o (yielded ops a.tmps) = true) (hk : b.kind ≠ .early) (hop : o.op = .call { callee := .value (.func f), args := ars, argTypes := ats })
    (hf : P.funcs[f]? = some fn) (hname : (fn.name == "runtime.NumGoroutine") = false) (hb : fn.body.isNone = true) (hn : Extern.findNext fn = none) (he : Extern.find fn = some (Extern.Race.marked mk)) {ad : Addr} (hx : (ars.map a.eval)[0]? = some (.pointer (some ad)))
    (next : KVD P H Tgt dd (G (b.at (a.put o.dst (.tuple #[])) (.inRegion ops rest :: k)) cs) v) : KVD P H Tgt dd (G (b.at a (.inRegion ops (i :: rest) :: k)) cs) v :=
  .one rfl fun S w hv d => ⟨_, v, w.at d, _, dd, stepG_markAt mk (by rcases hm with rfl | rfl <;> simp) ho hw hk hop hf hname hb hn he hx, hv.at d, fun e he => by
    rw [Array.mem_singleton] at he
    subst he
    exact .inr (.inr (.inr ⟨ad, hm.imp (fun h => by rw [h]) (fun h => by rw [h])⟩)), by rcases hm with rfl | rfl <;> rfl, rfl, Nat.le_refl _, fun _ _ => rfl, next⟩

theorem view_cell {S : Nat → Prop} {w : World} (hv : ViewOf S H v w) {ad : Addr} {x : Value} (hc : v.cell? ad = some x) : ¬ S ad.block ∧ ¬ H ad.block ∧ w.cell? ad = some x ∧ v.frozen? ad = w.frozen? ad := by
  have hg : ¬ (S ad.block ∨ H ad.block) := fun h => by rw [cell_gone hv h] at hc; cases hc
  have hs : ¬ S ad.block := fun x => hg (.inl x)
  have hh : ¬ H ad.block := fun x => hg (.inr x)
  exact ⟨hs, hh, by rw [← cell_view hv hs hh, hc], by unfold World.frozen?; rw [hv.same _ hs hh]⟩
theorem KVD.rw1 {ad : Addr} {x y z : Value} (hc : v.cell? ad = some x) (hz : v.frozen? ad = false)
    (hst : ∀ w : World, w.cell? ad = some x → w.frozen? ad = false → stepG P true (G (b.at a (.inRegion ops (i :: rest) :: k)) cs) w = .go (G (b.at (a.put o.dst z) (.inRegion ops rest :: k)) cs) (w.setCell ad y) #[⟨.cell ad, false, true⟩, ⟨.cell ad, true, true⟩])
    (next : KVD P H Tgt dd (G (b.at (a.put o.dst z) (.inRegion ops rest :: k)) cs) (v.setCell ad y)) : KVD P H Tgt dd (G (b.at a (.inRegion ops (i :: rest) :: k)) cs) v :=
  .one rfl fun S w hv d => by
    obtain ⟨hs, hh, hcw, hfz⟩ := view_cell hv hc
    obtain ⟨g1, g2, g3⟩ := setCell_view (hv.at d) hs hh hc y
    have hlt := cell_lt hcw
    refine ⟨_, v.setCell ad y, (w.at d).setCell ad y, _, dd, hst (w.at d) hcw (by rw [← hz, hfz]; rfl), g1, fun e he => ?_, ?_, g3.tape, g3.size, g3.kept, next⟩
    · have hn : ad.block < ((w.at d).setCell ad y).heap.size := by rw [World.size_setCell]; exact hlt
      rcases (by simpa using he : e = ⟨.cell ad, false, true⟩ ∨ e = ⟨.cell ad, true, true⟩) with rfl | rfl <;> exact .inl ⟨hs, hn⟩
    · exact deafBehind_still (fun e he => by rcases (by simpa using he : e = ⟨.cell ad, false, true⟩ ∨ e = ⟨.cell ad, true, true⟩) with rfl | rfl <;> exact ⟨by simp, by simp⟩) dd
theorem KVD.conv {src dst t : TypeId} {x : Operand} {ad : Addr} {y : Value} (ho : ops[i]? = some o) (hw : Region.wanted o (yielded ops a.tmps) = true) (hk : b.kind ≠ .early) (hop : o.op = .convert src dst x) (hx : a.eval x = .pointer (some ad))
    (hsrc : P.underlying src = some (.pointer t)) (hdst : P.underlying dst = some .unsafePointer) (hsz : (P.info? t).map (fun i => decide (i.size = 0)) = some false) (hc : v.cell? ad = some y)
    (next : KVD P H Tgt dd (G (b.at (a.put o.dst (.pointer (some ad))) (.inRegion ops rest :: k)) cs) v) : KVD P H Tgt dd (G (b.at a (.inRegion ops (i :: rest) :: k)) cs) v :=
  .one rfl fun S w hv d => by
    obtain ⟨hs, hh, hcw, hfz⟩ := view_cell hv hc
    have hcv := run_convert_to_unsafe (P := P) (w := w.at d) hsrc hdst hsz hcw
    have hce := fun es => events_convert_to_unsafe (P := P) (w := w.at d) hsrc hdst hsz hcw es
    have hr : (execOp a.eval o).run P (w.at d) = .ok (.value (.pointer (some ad))) (w.at d) := by
      unfold execOp
      simp [hop, hx, hcv, Result.andThen]
    have hl : listed P b.fn a o (w.at d) = #[] := by
      unfold listed execOp
      simp [hop, hx, hce, hcv, Result.evThen, seen_none]
    refine ⟨_, v, w.at d, _, dd, stepG_value ho hw hk hr, hv.at d, ?_, ?_, rfl, Nat.le_refl _, fun _ _ => rfl, next⟩
    · rw [hl]; simp
    · rw [hl]; rfl
theorem KVD.enter {args : Array Operand} {c : Code} (vs T : Array Value) (ho : ops[i]? = some o) (hw : Region.wanted o (yielded ops a.tmps) = true) (hk : b.kind ≠ .early) (hop : o.op = .call { callee := .value (.func f), args, argTypes := ats })
    (hfn : P.funcs[f]? = some fn) (hname : (fn.name == "runtime.NumGoroutine") = false) (hbody : fn.body = some c) (hvs : args.map a.eval = vs) (hT : vs ++ Array.replicate (fn.ntmps - vs.size) undef = T)
    (next : KVD P H Tgt dd (G ((base f).at { tmps := T, defers := [] } [.code c]) (b.at a (.inRegion ops (i :: rest) :: k) :: cs)) v) :
    KVD P H Tgt dd (G (b.at a (.inRegion ops (i :: rest) :: k)) cs) v := by
  have hb' : fn.body.isNone = false := by rw [hbody]; rfl
  subst hvs hT
  refine .ctl rfl (fun w => ?_) next
  rw [← enter_at _ hfn hbody, stepG_enter ho hw hk (run_call_body hop hfn hname hb')]
  have : listed P b.fn a o w = #[] := by unfold listed; rw [events_call_body hop hfn hname hb']; exact seen_none P _
  rw [this]
theorem KVD.leave {b' : Frame} {a' : Act} {todo : List Item} {x : Value} (hn : b'.kind = .normal) (hd : a'.defers = []) (hf : P.funcs[b'.fn]? = some fn) (hr : ResultsC P fn a'.tmps x) (ho : ops[i]? = some o)
    (next : KVD P H Tgt dd (G (b.at (a.put o.dst x) (.inRegion ops rest :: k)) cs) v) : KVD P H Tgt dd (G { b'.at a' todo with mode := .returning } (b.at a (.inRegion ops (i :: rest) :: k) :: cs)) v :=
  .ctl rfl (fun w => by rw [stepG_leave hn hd hf (hr w).1 (hr w).2, Frame.finish_at, ho]; rfl) next
end
end

def anaNo : Ana := ⟨[], [], [], []⟩
section
variable {P : Program} {L : MuLink} {H : Nat → Prop} {Tgt : Goroutine → World → Prop} {v : World}
theorem anaNo_good : anaNo.good P = true := rfl

set_option maxRecDepth 100000 in
set_option maxHeartbeats 1000000 in
theorem ilock_d (HL : MuLib P L) (p : Addr) (hc : v.cell? p = some (.int .i32 0)) (hz : v.frozen? p = false) {cs : List Frame}
    (next : ∀ a todo, a.defers = [] → KVD P H Tgt 0 (G { (base L.ilock).at a todo with mode := .returning } cs) (v.setCell p (.int .i32 1))) :
    KVD P H Tgt 0 (G ((base L.ilock).at ⟨#[.pointer (some p), undef, undef, undef, undef, undef, undef, undef, undef, undef, undef, undef, undef], []⟩ [.code ((ilockFn L).body.getD .skip)]) cs) v := by
  have h_runUnderlying_tIMutex := HL.runUnderlying_tIMutex
  have h_sizeOf_tIMutex := HL.sizeOf_tIMutex
  have h_isAgg_tIMutex := HL.isAgg_tIMutex
  have h_zeroValue_tIMutex := HL.zeroValue_tIMutex
  have h_runUnderlying_tMutex := HL.runUnderlying_tMutex
  have h_sizeOf_tMutex := HL.sizeOf_tMutex
  have h_isAgg_tMutex := HL.isAgg_tMutex
  have h_zeroValue_tMutex := HL.zeroValue_tMutex
  have h_runUnderlying_tPMutex := HL.runUnderlying_tPMutex
  have h_sizeOf_tPMutex := HL.sizeOf_tPMutex
  have h_isAgg_tPMutex := HL.isAgg_tPMutex
  have h_zeroValue_tPMutex := HL.zeroValue_tPMutex
  have h_runUnderlying_tPIMutex := HL.runUnderlying_tPIMutex
  have h_sizeOf_tPIMutex := HL.sizeOf_tPIMutex
  have h_isAgg_tPIMutex := HL.isAgg_tPIMutex
  have h_zeroValue_tPIMutex := HL.zeroValue_tPIMutex
  have h_runUnderlying_t21 := HL.runUnderlying_t21
  have h_sizeOf_t21 := HL.sizeOf_t21
  have h_isAgg_t21 := HL.isAgg_t21
  have h_zeroValue_t21 := HL.zeroValue_t21
  have hc1 : (v.setCell p (.int .i32 1)).cell? p = some (.int .i32 1) := World.cell?_setCell_same _ _ _ hc
  simp only [ilockFn, Option.getD_some]
  refine KVD.ctl rfl (fun w => stepG_seq) ?_
  refine KVD.ctl rfl (fun w => stepG_region) ?_
  rw [show List.range _ = [0] from rfl]
  refine KVD.dis rfl (by rfl) (by k_ne) rfl HL.f_disable (by kernel_rfl) (by kernel_rfl) (by kernel_rfl) (by kernel_rfl) ?_
  try walk_nrm
  refine KVD.ctl rfl (fun w => stepG_region_end) ?_
  refine KVD.ctl rfl (fun w => stepG_seq) ?_
  refine KVD.ctl rfl (fun w => stepG_seq) ?_
  refine KVD.ctl rfl (fun w => stepG_region) ?_
  rw [show List.range _ = [0, 1, 2, 3] from rfl]
  refine KVD.op anaNo_good rfl (by rfl) (by k_ne) (by kernel_rfl) (fun t => anaNo.noTr_spec (by kernel_rfl) t) (fun v₁ hs K' hK' => ?_)
  go_simp
  refine hK' _ _ ?_
  try walk_nrm
  clear hK' K'
  refine KVD.heap (v := v) ?_ ⟨hs.heap.symm, hs.os.symm, hs.output.symm⟩
  clear hs v₁
  refine KVD.op anaNo_good rfl (by rfl) (by k_ne) (by kernel_rfl) (fun t => anaNo.noTr_spec (by kernel_rfl) t) (fun v₁ hs K' hK' => ?_)
  go_simp
  refine hK' _ _ ?_
  try walk_nrm
  clear hK' K'
  refine KVD.heap (v := v) ?_ ⟨hs.heap.symm, hs.os.symm, hs.output.symm⟩
  clear hs v₁
  refine KVD.op anaNo_good rfl (by rfl) (by k_ne) (by kernel_rfl) (fun t => anaNo.noTr_spec (by kernel_rfl) t) (fun v₁ hs K' hK' => ?_)
  go_simp
  refine hK' _ _ ?_
  try walk_nrm
  clear hK' K'
  refine KVD.heap (v := v) ?_ ⟨hs.heap.symm, hs.os.symm, hs.output.symm⟩
  clear hs v₁
  refine KVD.rw1 hc hz (fun w h1 h2 => stepG_cas_hit rfl (by rfl) (by k_ne) rfl HL.f_cas32 (by kernel_rfl) (by kernel_rfl) (by kernel_rfl) .i32 (by kernel_rfl) rfl rfl rfl h1 h2) ?_
  try walk_nrm
  refine KVD.ctl rfl (fun w => stepG_region_end) ?_
  refine KVD.ctl rfl (fun w => stepG_cond (t := true) rfl) ?_
  refine KVD.ctl rfl (fun w => stepG_seq) ?_
  refine KVD.ctl rfl (fun w => stepG_cond (t := true) rfl) ?_
  refine KVD.ctl rfl (fun w => stepG_seq) ?_
  refine KVD.ctl rfl (fun w => stepG_region) ?_
  rw [show List.range _ = [0] from rfl]
  refine KVD.en rfl (by rfl) (by k_ne) rfl HL.f_enable (by kernel_rfl) (by kernel_rfl) (by kernel_rfl) (by kernel_rfl) ?_
  try walk_nrm
  refine KVD.ctl rfl (fun w => stepG_region_end) ?_
  refine KVD.ctl rfl (fun w => stepG_region) ?_
  rw [show List.range _ = [0, 1, 2] from rfl]
  refine KVD.op anaNo_good rfl (by rfl) (by k_ne) (by kernel_rfl) (fun t => anaNo.noTr_spec (by kernel_rfl) t) (fun v₁ hs K' hK' => ?_)
  go_simp
  refine hK' _ _ ?_
  try walk_nrm
  clear hK' K'
  refine KVD.heap (v := v.setCell p (.int .i32 1)) ?_ ⟨hs.heap.symm, hs.os.symm, hs.output.symm⟩
  clear hs v₁
  refine KVD.conv rfl (by rfl) (by k_ne) rfl rfl HL.underlying_tPIMutex HL.underlying_tUP HL.room_tIMutex hc1 ?_
  try walk_nrm
  refine KVD.say .acquire (.inl rfl) (ad := p) rfl (by rfl) (by k_ne) rfl HL.f_acquire (by kernel_rfl) (by kernel_rfl) (by kernel_rfl) (by kernel_rfl) (by simp [Act.eval]) ?_
  try walk_nrm
  refine KVD.ctl rfl (fun w => stepG_region_end) ?_
  refine KVD.ctl rfl (fun w => stepG_ret') ?_
  exact next _ _ rfl

set_option maxRecDepth 100000 in
set_option maxHeartbeats 1000000 in
theorem iunlock_d (HL : MuLib P L) (p : Addr) (hc : v.cell? p = some (.int .i32 1)) (hz : v.frozen? p = false) {cs : List Frame}
    (next : ∀ a todo, a.defers = [] → KVD P H Tgt 0 (G { (base L.iunlock).at a todo with mode := .returning } cs) (v.setCell p (.int .i32 0))) :
    KVD P H Tgt 0 (G ((base L.iunlock).at ⟨#[.pointer (some p), undef, undef, undef, undef, undef, undef, undef, undef, undef, undef, undef, undef, undef, undef, undef, undef, undef, undef, undef, undef], []⟩ [.code ((iunlockFn L).body.getD .skip)]) cs) v := by
  have h_runUnderlying_tIMutex := HL.runUnderlying_tIMutex
  have h_sizeOf_tIMutex := HL.sizeOf_tIMutex
  have h_isAgg_tIMutex := HL.isAgg_tIMutex
  have h_zeroValue_tIMutex := HL.zeroValue_tIMutex
  have h_runUnderlying_tMutex := HL.runUnderlying_tMutex
  have h_sizeOf_tMutex := HL.sizeOf_tMutex
  have h_isAgg_tMutex := HL.isAgg_tMutex
  have h_zeroValue_tMutex := HL.zeroValue_tMutex
  have h_runUnderlying_tPMutex := HL.runUnderlying_tPMutex
  have h_sizeOf_tPMutex := HL.sizeOf_tPMutex
  have h_isAgg_tPMutex := HL.isAgg_tPMutex
  have h_zeroValue_tPMutex := HL.zeroValue_tPMutex
  have h_runUnderlying_tPIMutex := HL.runUnderlying_tPIMutex
  have h_sizeOf_tPIMutex := HL.sizeOf_tPIMutex
  have h_isAgg_tPIMutex := HL.isAgg_tPIMutex
  have h_zeroValue_tPIMutex := HL.zeroValue_tPIMutex
  have h_runUnderlying_t21 := HL.runUnderlying_t21
  have h_sizeOf_t21 := HL.sizeOf_t21
  have h_isAgg_t21 := HL.isAgg_t21
  have h_zeroValue_t21 := HL.zeroValue_t21
  simp only [iunlockFn, Option.getD_some]
  refine KVD.ctl rfl (fun w => stepG_seq) ?_
  refine KVD.ctl rfl (fun w => stepG_cond (t := true) rfl) ?_
  refine KVD.ctl rfl (fun w => stepG_seq) ?_
  refine KVD.ctl rfl (fun w => stepG_region) ?_
  rw [show List.range _ = [0, 1, 2, 3] from rfl]
  refine KVD.op anaNo_good rfl (by rfl) (by k_ne) (by kernel_rfl) (fun t => anaNo.noTr_spec (by kernel_rfl) t) (fun v₁ hs K' hK' => ?_)
  go_simp
  refine hK' _ _ ?_
  try walk_nrm
  clear hK' K'
  refine KVD.heap (v := v) ?_ ⟨hs.heap.symm, hs.os.symm, hs.output.symm⟩
  clear hs v₁
  refine KVD.op anaNo_good rfl (by rfl) (by k_ne) (by kernel_rfl) (fun t => anaNo.noTr_spec (by kernel_rfl) t) (fun v₁ hs K' hK' => ?_)
  go_simp
  refine hK' _ _ ?_
  try walk_nrm
  clear hK' K'
  refine KVD.heap (v := v) ?_ ⟨hs.heap.symm, hs.os.symm, hs.output.symm⟩
  clear hs v₁
  refine KVD.op anaNo_good rfl (by rfl) (by k_ne) (by kernel_rfl) (fun t => anaNo.noTr_spec (by kernel_rfl) t) (fun v₁ hs K' hK' => ?_)
  go_simp
  refine hK' _ _ ?_
  try walk_nrm
  clear hK' K'
  refine KVD.heap (v := v) ?_ ⟨hs.heap.symm, hs.os.symm, hs.output.symm⟩
  clear hs v₁
  refine KVD.op anaNo_good rfl (by rfl) (by k_ne) (by kernel_rfl) (fun t => anaNo.noTr_spec (by kernel_rfl) t) (fun v₁ hs K' hK' => ?_)
  have hcv : v₁.cell? p = some (.int .i32 1) := (World.cell?_of_block (by rw [hs.heap])).trans hc
  go_simp
  refine hK' _ _ ?_
  try walk_nrm
  clear hK' K' hcv
  refine KVD.heap (v := v) ?_ ⟨hs.heap.symm, hs.os.symm, hs.output.symm⟩
  clear hs v₁
  refine KVD.ctl rfl (fun w => stepG_region_end) ?_
  refine KVD.ctl rfl (fun w => stepG_seq) ?_
  refine KVD.ctl rfl (fun w => stepG_region) ?_
  rw [show List.range _ = [0, 1, 2] from rfl]
  refine KVD.op anaNo_good rfl (by rfl) (by k_ne) (by kernel_rfl) (fun t => anaNo.noTr_spec (by kernel_rfl) t) (fun v₁ hs K' hK' => ?_)
  go_simp
  refine hK' _ _ ?_
  try walk_nrm
  clear hK' K'
  refine KVD.heap (v := v) ?_ ⟨hs.heap.symm, hs.os.symm, hs.output.symm⟩
  clear hs v₁
  refine KVD.conv rfl (by rfl) (by k_ne) rfl rfl HL.underlying_tPIMutex HL.underlying_tUP HL.room_tIMutex hc ?_
  try walk_nrm
  refine KVD.say .releaseMerge (.inr rfl) (ad := p) rfl (by rfl) (by k_ne) rfl HL.f_relMerge (by kernel_rfl) (by kernel_rfl) (by kernel_rfl) (by kernel_rfl) (by simp [Act.eval]) ?_
  try walk_nrm
  refine KVD.ctl rfl (fun w => stepG_region_end) ?_
  refine KVD.ctl rfl (fun w => stepG_region) ?_
  rw [show List.range _ = [0] from rfl]
  refine KVD.dis rfl (by rfl) (by k_ne) rfl HL.f_disable (by kernel_rfl) (by kernel_rfl) (by kernel_rfl) (by kernel_rfl) ?_
  try walk_nrm
  refine KVD.ctl rfl (fun w => stepG_region_end) ?_
  refine KVD.ctl rfl (fun w => stepG_seq) ?_
  refine KVD.ctl rfl (fun w => stepG_region) ?_
  rw [show List.range _ = [0, 1, 2, 3, 4] from rfl]
  refine KVD.op anaNo_good rfl (by rfl) (by k_ne) (by kernel_rfl) (fun t => anaNo.noTr_spec (by kernel_rfl) t) (fun v₁ hs K' hK' => ?_)
  go_simp
  refine hK' _ _ ?_
  try walk_nrm
  clear hK' K'
  refine KVD.heap (v := v) ?_ ⟨hs.heap.symm, hs.os.symm, hs.output.symm⟩
  clear hs v₁
  refine KVD.op anaNo_good rfl (by rfl) (by k_ne) (by kernel_rfl) (fun t => anaNo.noTr_spec (by kernel_rfl) t) (fun v₁ hs K' hK' => ?_)
  go_simp
  refine hK' _ _ ?_
  try walk_nrm
  clear hK' K'
  refine KVD.heap (v := v) ?_ ⟨hs.heap.symm, hs.os.symm, hs.output.symm⟩
  clear hs v₁
  refine KVD.op anaNo_good rfl (by rfl) (by k_ne) (by kernel_rfl) (fun t => anaNo.noTr_spec (by kernel_rfl) t) (fun v₁ hs K' hK' => ?_)
  go_simp
  refine hK' _ _ ?_
  try walk_nrm
  clear hK' K'
  refine KVD.heap (v := v) ?_ ⟨hs.heap.symm, hs.os.symm, hs.output.symm⟩
  clear hs v₁
  refine KVD.rw1 hc hz (fun w h1 h2 => stepG_add_atomic rfl (by rfl) (by k_ne) rfl HL.f_add32 (by kernel_rfl) (by kernel_rfl) (by kernel_rfl) .i32 (by kernel_rfl) rfl rfl h1 h2) ?_
  rw [show IntKind.i32.wrap (1 + -1) = 0 from by decide]
  try walk_nrm
  refine KVD.op anaNo_good rfl (by rfl) (by k_ne) (by kernel_rfl) (fun t => anaNo.noTr_spec (by kernel_rfl) t) (fun v₁ hs K' hK' => ?_)
  go_simp
  refine hK' _ _ ?_
  try walk_nrm
  clear hK' K'
  refine KVD.heap (v := v.setCell p (.int .i32 0)) ?_ ⟨hs.heap.symm, hs.os.symm, hs.output.symm⟩
  clear hs v₁
  refine KVD.ctl rfl (fun w => stepG_region_end) ?_
  refine KVD.ctl rfl (fun w => stepG_seq) ?_
  refine KVD.ctl rfl (fun w => stepG_seq) ?_
  refine KVD.ctl rfl (fun w => stepG_region) ?_
  rw [show List.range _ = [0, 1] from rfl]
  refine KVD.op anaNo_good rfl (by rfl) (by k_ne) (by kernel_rfl) (fun t => anaNo.noTr_spec (by kernel_rfl) t) (fun v₁ hs K' hK' => ?_)
  go_simp
  refine hK' _ _ ?_
  try walk_nrm
  clear hK' K'
  refine KVD.heap (v := v.setCell p (.int .i32 0)) ?_ ⟨hs.heap.symm, hs.os.symm, hs.output.symm⟩
  clear hs v₁
  refine KVD.op anaNo_good rfl (by rfl) (by k_ne) (by simp [operOK, kindOK, dstOK, plainTB, HL.underlying_t21, Ana.tr, anaNo]) (fun t => anaNo.noTr_spec (by kernel_rfl) t) (fun v₁ hs K' hK' => ?_)
  go_simp
  refine hK' _ _ ?_
  try walk_nrm
  clear hK' K'
  refine KVD.heap (v := v.setCell p (.int .i32 0)) ?_ ⟨hs.heap.symm, hs.os.symm, hs.output.symm⟩
  clear hs v₁
  refine KVD.ctl rfl (fun w => stepG_region_end) ?_
  refine KVD.ctl rfl (fun w => stepG_cond (t := false) rfl) ?_
  simp only [Bool.false_eq_true, if_false]
  refine KVD.ctl rfl (fun w => stepG_skip) ?_
  refine KVD.ctl rfl (fun w => stepG_region) ?_
  rw [show List.range _ = [0] from rfl]
  refine KVD.en rfl (by rfl) (by k_ne) rfl HL.f_enable (by kernel_rfl) (by kernel_rfl) (by kernel_rfl) (by kernel_rfl) ?_
  try walk_nrm
  refine KVD.ctl rfl (fun w => stepG_region_end) ?_
  refine KVD.ctl rfl (fun w => stepG_end) ?_
  exact next _ _ rfl

set_option maxRecDepth 100000 in
set_option maxHeartbeats 1000000 in
theorem KV.lock (HL : MuLib P L) {b : Frame} {a : Act} {k : List Item} {cs : List Frame} {ops : Array Oper} {i : Nat} {rest : List Nat} {o : Oper} {args : Array Operand} {ats : Array TypeId} {p : Addr}
    (ho : ops[i]? = some o) (hw : Region.wanted o (yielded ops a.tmps) = true) (hk : b.kind ≠ .early) (hop : o.op = .call { callee := .value (.func L.lock), args, argTypes := ats }) (harg : args.map a.eval = #[.pointer (some p)])
    (hsp : p.spot = none) (hc : v.cell? p = some (.int .i32 0)) (hz : v.frozen? p = false)
    (next : KV P H Tgt (G (b.at (a.put o.dst (.tuple #[])) (.inRegion ops rest :: k)) cs) (v.setCell p (.int .i32 1))) :
    KV P H Tgt (G (b.at a (.inRegion ops (i :: rest) :: k)) cs) v := by
  have h_runUnderlying_tIMutex := HL.runUnderlying_tIMutex
  have h_sizeOf_tIMutex := HL.sizeOf_tIMutex
  have h_isAgg_tIMutex := HL.isAgg_tIMutex
  have h_zeroValue_tIMutex := HL.zeroValue_tIMutex
  have h_runUnderlying_tMutex := HL.runUnderlying_tMutex
  have h_sizeOf_tMutex := HL.sizeOf_tMutex
  have h_isAgg_tMutex := HL.isAgg_tMutex
  have h_zeroValue_tMutex := HL.zeroValue_tMutex
  have h_runUnderlying_tPMutex := HL.runUnderlying_tPMutex
  have h_sizeOf_tPMutex := HL.sizeOf_tPMutex
  have h_isAgg_tPMutex := HL.isAgg_tPMutex
  have h_zeroValue_tPMutex := HL.zeroValue_tPMutex
  have h_runUnderlying_tPIMutex := HL.runUnderlying_tPIMutex
  have h_sizeOf_tPIMutex := HL.sizeOf_tPIMutex
  have h_isAgg_tPIMutex := HL.isAgg_tPIMutex
  have h_zeroValue_tPIMutex := HL.zeroValue_tPIMutex
  have h_runUnderlying_t21 := HL.runUnderlying_t21
  have h_sizeOf_t21 := HL.sizeOf_t21
  have h_isAgg_t21 := HL.isAgg_t21
  have h_zeroValue_t21 := HL.zeroValue_t21
  refine KVD.zero (KVD.enter #[.pointer (some p)] #[.pointer (some p), undef, undef, undef, undef, undef] ho hw hk hop HL.f_lock (by kernel_rfl) rfl harg (by kernel_rfl) ?_)
  refine KVD.ctl rfl (fun w => stepG_region) ?_
  rw [show List.range _ = [0, 1, 2, 3] from rfl]
  refine KVD.op anaNo_good rfl (by rfl) (by k_ne) (by kernel_rfl) (fun t => anaNo.noTr_spec (by kernel_rfl) t) (fun v₁ hs K' hK' => ?_)
  go_simp
  refine hK' _ _ ?_
  try walk_nrm
  clear hK' K'
  refine KVD.heap (v := v) ?_ ⟨hs.heap.symm, hs.os.symm, hs.output.symm⟩
  clear hs v₁
  refine KVD.op anaNo_good rfl (by rfl) (by k_ne) (by kernel_rfl) (fun t => anaNo.noTr_spec (by kernel_rfl) t) (fun v₁ hs K' hK' => ?_)
  go_simp
  refine hK' _ _ ?_
  try walk_nrm
  clear hK' K'
  refine KVD.heap (v := v) ?_ ⟨hs.heap.symm, hs.os.symm, hs.output.symm⟩
  clear hs v₁
  refine KVD.op anaNo_good rfl (by rfl) (by k_ne) (by kernel_rfl) (fun t => anaNo.noTr_spec (by kernel_rfl) t) (fun v₁ hs K' hK' => ?_)
  go_simp
  refine hK' _ _ ?_
  try walk_nrm
  clear hK' K'
  refine KVD.heap (v := v) ?_ ⟨hs.heap.symm, hs.os.symm, hs.output.symm⟩
  clear hs v₁
  refine KVD.enter #[.pointer (some p)] #[.pointer (some p), undef, undef, undef, undef, undef, undef, undef, undef, undef, undef, undef, undef] rfl (by rfl) (by k_ne) rfl HL.f_ilock (by kernel_rfl) rfl (by kernel_rfl) (by kernel_rfl) ?_
  refine ilock_d HL p hc hz fun a' todo hd => ?_
  refine KVD.leave rfl hd HL.f_ilock (resultsC_none rfl _) rfl ?_
  try walk_nrm
  refine KVD.ctl rfl (fun w => stepG_region_end) ?_
  refine KVD.ctl rfl (fun w => stepG_end) ?_
  exact KVD.leave rfl rfl HL.f_lock (resultsC_none rfl _) ho (KV.zero next)

theorem KV.defer {b : Frame} {a : Act} {k : List Item} {cs : List Frame} {ops : Array Oper} {i : Nat} {rest : List Nat} {o : Oper} {f : FuncId} {ars : Array Operand} {ats : Array TypeId} (ho : ops[i]? = some o) (hw : Region.wanted o (yielded ops a.tmps) = true) (hk : b.kind ≠ .early)
    (hop : o.op = .defer { callee := .value (.func f), args := ars, argTypes := ats }) (next : KV P H Tgt (G (b.at (Act.put ⟨a.tmps, dcall f (ars.map a.eval) :: a.defers⟩ o.dst undef) (.inRegion ops rest :: k)) cs) v) :
    KV P H Tgt (G (b.at a (.inRegion ops (i :: rest) :: k)) cs) v := .ctl rfl (fun w => stepG_defer ho hw hk hop) next

set_option maxRecDepth 100000 in
set_option maxHeartbeats 1000000 in
theorem KV.unlock (HL : MuLib P L) {b : Frame} {T : Array Value} {ds : List Deferred} {todo : List Item} {cs : List Frame} {p : Addr} (hsp : p.spot = none) (hc : v.cell? p = some (.int .i32 1)) (hz : v.frozen? p = false)
    (next : KV P H Tgt (G { b.at ⟨T, ds⟩ todo with mode := .returning } cs) (v.setCell p (.int .i32 0))) :
    KV P H Tgt (G { b.at ⟨T, dcall L.unlock #[.pointer (some p)] :: ds⟩ todo with mode := .returning } cs) v := by
  have h_runUnderlying_tIMutex := HL.runUnderlying_tIMutex
  have h_sizeOf_tIMutex := HL.sizeOf_tIMutex
  have h_isAgg_tIMutex := HL.isAgg_tIMutex
  have h_zeroValue_tIMutex := HL.zeroValue_tIMutex
  have h_runUnderlying_tMutex := HL.runUnderlying_tMutex
  have h_sizeOf_tMutex := HL.sizeOf_tMutex
  have h_isAgg_tMutex := HL.isAgg_tMutex
  have h_zeroValue_tMutex := HL.zeroValue_tMutex
  have h_runUnderlying_tPMutex := HL.runUnderlying_tPMutex
  have h_sizeOf_tPMutex := HL.sizeOf_tPMutex
  have h_isAgg_tPMutex := HL.isAgg_tPMutex
  have h_zeroValue_tPMutex := HL.zeroValue_tPMutex
  have h_runUnderlying_tPIMutex := HL.runUnderlying_tPIMutex
  have h_sizeOf_tPIMutex := HL.sizeOf_tPIMutex
  have h_isAgg_tPIMutex := HL.isAgg_tPIMutex
  have h_zeroValue_tPIMutex := HL.zeroValue_tPIMutex
  have h_runUnderlying_t21 := HL.runUnderlying_t21
  have h_sizeOf_t21 := HL.sizeOf_t21
  have h_isAgg_t21 := HL.isAgg_t21
  have h_zeroValue_t21 := HL.zeroValue_t21
  refine KVD.zero (KVD.ctl rfl (fun w => stepG_unwind_enter rfl HL.f_unlock (by kernel_rfl) rfl) ?_)
  rw [show (#[Value.pointer (some p)] ++ Array.replicate ((unlockFn L).ntmps - (#[Value.pointer (some p)] : Array Value).size) undef) = #[.pointer (some p), undef, undef, undef, undef, undef] from by kernel_rfl]
  refine KVD.ctl rfl (fun w => stepG_region) ?_
  rw [show List.range _ = [0, 1, 2, 3] from rfl]
  refine KVD.op anaNo_good rfl (by rfl) (by k_ne) (by kernel_rfl) (fun t => anaNo.noTr_spec (by kernel_rfl) t) (fun v₁ hs K' hK' => ?_)
  go_simp
  refine hK' _ _ ?_
  try walk_nrm
  clear hK' K'
  refine KVD.heap (v := v) ?_ ⟨hs.heap.symm, hs.os.symm, hs.output.symm⟩
  clear hs v₁
  refine KVD.op anaNo_good rfl (by rfl) (by k_ne) (by kernel_rfl) (fun t => anaNo.noTr_spec (by kernel_rfl) t) (fun v₁ hs K' hK' => ?_)
  go_simp
  refine hK' _ _ ?_
  try walk_nrm
  clear hK' K'
  refine KVD.heap (v := v) ?_ ⟨hs.heap.symm, hs.os.symm, hs.output.symm⟩
  clear hs v₁
  refine KVD.op anaNo_good rfl (by rfl) (by k_ne) (by kernel_rfl) (fun t => anaNo.noTr_spec (by kernel_rfl) t) (fun v₁ hs K' hK' => ?_)
  go_simp
  refine hK' _ _ ?_
  try walk_nrm
  clear hK' K'
  refine KVD.heap (v := v) ?_ ⟨hs.heap.symm, hs.os.symm, hs.output.symm⟩
  clear hs v₁
  refine KVD.enter #[.pointer (some p)] #[.pointer (some p), undef, undef, undef, undef, undef, undef, undef, undef, undef, undef, undef, undef, undef, undef, undef, undef, undef, undef, undef, undef] rfl (by rfl) (by k_ne) rfl HL.f_iunlock (by kernel_rfl) rfl (by kernel_rfl) (by kernel_rfl) ?_
  refine iunlock_d HL p hc hz fun a' todo hd => ?_
  refine KVD.leave rfl hd HL.f_iunlock (resultsC_none rfl _) rfl ?_
  try walk_nrm
  refine KVD.ctl rfl (fun w => stepG_region_end) ?_
  refine KVD.ctl rfl (fun w => stepG_end) ?_
  exact KVD.ctl rfl (fun w => stepG_leave_deferred (v := .tuple #[]) rfl rfl HL.f_unlock (by simp [results, unlockFn]) (by simp [results, unlockFn]) rfl) (KV.zero next)
end
end Go.Proofs.YtlcgbnmmbheleaaGreat

namespace Go.Proofs.YtlcgbnmmbheleaaGreat
open Go Go.Conc Go.RowKit
set_option linter.unusedVariables false
set_option linter.unusedSimpArgs false

def RetM (P : Program) (f : FuncId) (cs : List Frame) (Post : Value → World → Prop) (g : Goroutine) (v : World) : Prop :=
  ∃ fn a todo x, P.funcs[f]? = some fn ∧ a.defers = [] ∧ g = G { (base f).at a todo with mode := .returning } cs ∧ (results fn a.tmps).run P v = .ok x v ∧ Post x v
def CallsM (P : Program) (H : Nat → Prop) (f : FuncId) (args : Array Value) (v : World) (Post : Value → World → Prop) : Prop :=
  ∃ fn c, P.funcs[f]? = some fn ∧ (fn.name == "runtime.NumGoroutine") = false ∧ fn.body = some c ∧
    ∀ cs, KV P H (RetM P f cs Post) (G ((base f).at { tmps := args ++ Array.replicate (fn.ntmps - args.size) undef, defers := [] } [.code c]) cs) v
section
variable {P : Program} {H : Nat → Prop} {Tgt : Goroutine → World → Prop} {v v' : World} {f : FuncId} {args : Array Value} {Post Post' : Value → World → Prop}
theorem RetV.toM {cs : List Frame} {g : Goroutine} (h : RetV P f cs Post g v) : RetM P f cs Post g v := by
  obtain ⟨fn, a, todo, x, h1, h2, h3, h4, h5⟩ := h
  exact ⟨fn, a, todo, x, h1, h2, h3, (h4 v).1, h5⟩
theorem CallsV.toM (h : CallsV P H f args v Post) : CallsM P H f args v Post := by
  obtain ⟨fn, c, h1, h2, h3, h4⟩ := h
  exact ⟨fn, c, h1, h2, h3, fun cs => (h4 cs).mono fun g' v' hr => hr.toM⟩
theorem RetM.mono {cs : List Frame} {g : Goroutine} (h : RetM P f cs Post g v) (hp : ∀ x v, Post x v → Post' x v) : RetM P f cs Post' g v := by
  obtain ⟨fn, a, todo, x, h1, h2, h3, h4, h5⟩ := h
  exact ⟨fn, a, todo, x, h1, h2, h3, h4, hp _ _ h5⟩
theorem CallsM.mono (h : CallsM P H f args v Post) (hp : ∀ x v, Post x v → Post' x v) : CallsM P H f args v Post' := by
  obtain ⟨fn, c, h1, h2, h3, h4⟩ := h
  exact ⟨fn, c, h1, h2, h3, fun cs => (h4 cs).mono fun g' v' hr => hr.mono hp⟩

theorem KV.retM {cs : List Frame} {c : Frame} {fn : Func} {a : Act} {todo : List Item} {x : Value} (h1 : P.funcs[f]? = some fn) (h2 : a.defers = []) (h4 : (results fn a.tmps).run P v = .ok x v)
    (next : KV P H Tgt (G (c.finish x) cs) v) : KV P H Tgt (G { (base f).at a todo with mode := .returning } (c :: cs)) v := by
  refine .one rfl fun S w hv d => ?_
  rcases rd_results (P := P) (S := S) (H := H) fn a.tmps v (w.at d) (hv.at d) with ⟨h, v', e⟩ | ⟨y, e1, e2, e3, e4⟩
  · rw [h4] at e; cases e
  · rw [h4] at e1
    cases e1
    exact ⟨_, v, w.at d, _, stepG_ret (fr := { (base f).at a todo with mode := .returning }) rfl rfl h2 h1 e2 c cs, hv.at d, fun e he => (e3 #[] e (mem_seen he)).resolve_left (by simp), rfl, Nat.le_refl _, fun _ _ => rfl, next⟩

section
variable {b : Frame} {a : Act} {k : List Item} {cs : List Frame} {ops : Array Oper} {i : Nat} {rest : List Nat} {o : Oper} {ars : Array Operand} {ats : Array TypeId}
theorem KV.callM (ho : ops[i]? = some o) (hw : Region.wanted o (yielded ops a.tmps) = true) (hk : b.kind ≠ .early) (hop : o.op = .call { callee := .value (.func f), args := ars, argTypes := ats })
    (hc : CallsM P H f (ars.map a.eval) v Post) (next : ∀ x v', Post x v' → KV P H Tgt (G (b.at (a.put o.dst x) (.inRegion ops rest :: k)) cs) v') :
    KV P H Tgt (G (b.at a (.inRegion ops (i :: rest) :: k)) cs) v := by
  obtain ⟨fn, body, hfn, hname, hbody, hkv⟩ := hc
  have hb' : fn.body.isNone = false := by rw [hbody]; rfl
  refine .ctl (g' := G (Frame.enter P f (ars.map a.eval) .normal) (b.at a (.inRegion ops (i :: rest) :: k) :: cs)) rfl (fun w => ?_) ?_
  · rw [stepG_enter ho hw hk (run_call_body hop hfn hname hb')]
    have : listed P b.fn a o w = #[] := by unfold listed; rw [events_call_body hop hfn hname hb']; exact seen_none P _
    rw [this]
  · rw [enter_at _ hfn hbody]
    refine (hkv _).then fun g' v' hr => ?_
    obtain ⟨fn', a', todo, x, h1, h2, rfl, h4, h5⟩ := hr
    refine KV.retM h1 h2 h4 ?_
    rw [Frame.finish_at, ho]
    exact next x v' h5
theorem KV.callT {t : Tmp} {caps : Array Value} (ho : ops[i]? = some o) (hw : Region.wanted o (yielded ops a.tmps) = true) (hk : b.kind ≠ .early) (hop : o.op = .call { callee := .value (.tmp t), args := ars, argTypes := ats })
    (ht : a.eval (.tmp t) = .func (.func f) #[] caps)
    (hc : CallsM P H f (ars.map a.eval ++ caps) v Post) (next : ∀ x v', Post x v' → KV P H Tgt (G (b.at (a.put o.dst x) (.inRegion ops rest :: k)) cs) v') :
    KV P H Tgt (G (b.at a (.inRegion ops (i :: rest) :: k)) cs) v := by
  obtain ⟨fn, body, hfn, hname, hbody, hkv⟩ := hc
  have h1 : ¬ fn.name = "runtime.NumGoroutine" := by simpa using hname
  have hr : ∀ w, (execOp a.eval o).run P w = .ok (.enter f (ars.map a.eval ++ caps)) w := fun w => by
    unfold execOp
    simp [hop, resolve, Deferred.ofValue, invoke, callFunc, hfn, h1, hbody, ht]
  have hv : ∀ w es, (execOp a.eval o).events P w es = es := fun w es => by
    unfold execOp
    simp [hop, resolve, Deferred.ofValue, invoke, callFunc, hfn, h1, hbody, ht]
  refine .ctl (g' := G (Frame.enter P f (ars.map a.eval ++ caps) .normal) (b.at a (.inRegion ops (i :: rest) :: k) :: cs)) rfl (fun w => ?_) ?_
  · rw [stepG_enter ho hw hk (hr w)]
    have : listed P b.fn a o w = #[] := by unfold listed; rw [hv]; exact seen_none P _
    rw [this]
  · rw [enter_at _ hfn hbody]
    refine (hkv _).then fun g' v' hr => ?_
    obtain ⟨fn', a', todo, x, h1, h2, rfl, h4, h5⟩ := hr
    refine KV.retM h1 h2 h4 ?_
    rw [Frame.finish_at, ho]
    exact next x v' h5
theorem KV.makeFunc {fnn : Fn} {first caps : Array Operand} (ho : ops[i]? = some o) (hw : Region.wanted o (yielded ops a.tmps) = true) (hk : b.kind ≠ .early) (hop : o.op = .makeFunc fnn first caps)
    (next : KV P H Tgt (G (b.at (a.put o.dst (.func fnn (first.map a.eval) (caps.map a.eval))) (.inRegion ops rest :: k)) cs) v) : KV P H Tgt (G (b.at a (.inRegion ops (i :: rest) :: k)) cs) v := by
  refine .ctl rfl (fun w => ?_) next
  have e1 : (execOp a.eval o).run P w = .ok (.value (.func fnn (first.map a.eval) (caps.map a.eval))) w := by
    unfold execOp
    simp [hop, Instr.makeFunc]
  have e2 : listed P b.fn a o w = #[] := by
    unfold listed execOp
    simp [hop, Instr.makeFunc, seen_none]
  rw [stepG_value ho hw hk e1, e2]
end
end
end Go.Proofs.YtlcgbnmmbheleaaGreat
