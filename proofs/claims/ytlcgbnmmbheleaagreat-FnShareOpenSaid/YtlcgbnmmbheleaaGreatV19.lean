/- Several texts in one. -/
import Derived.Laws.OwnMore
import Derived.Test.YtlcgbnmmbheleaaGreatV18
namespace Go.Proofs.YtlcgbnmmbheleaaGreat
open Go Go.Conc
set_option linter.unusedVariables false
set_option linter.unusedSimpArgs false

structure Kept (S H : Nat → Prop) (w : World) (S' : Nat → Prop) (w' : World) : Prop where
  tape : w'.tape = w.tape
  size : w.heap.size ≤ w'.heap.size
  hid : ∀ b, H b → w'.heap[b]? = w.heap[b]?
  new : ∀ b, S' b → S b ∨ w.heap.size ≤ b
theorem Kept.refl (S H : Nat → Prop) (w : World) : Kept S H w S w := ⟨rfl, Nat.le_refl _, fun _ _ => rfl, fun _ h => .inl h⟩
theorem Kept.trans {S S' S'' H : Nat → Prop} {w w' w'' : World} (h : Kept S H w S' w') (k : Kept S' H w' S'' w'') : Kept S H w S'' w'' :=
  ⟨k.tape.trans h.tape, Nat.le_trans h.size k.size, fun b hb => (k.hid b hb).trans (h.hid b hb), fun b hb => (k.new b hb).elim (h.new b) fun x => .inr (Nat.le_trans h.size x)⟩

def KV (P : Program) (H : Nat → Prop) (Tgt : Goroutine → World → Prop) (g : Goroutine) (v : World) : Prop :=
  ∀ (S : Nat → Prop) (w : World) (gs : Array Goroutine) (sl : Option (Nat × Nat)) (t : Trace) (q : Nat → Nat), ViewOf S H v w → gs[0]? = some g → Leavers P t gs q → PastK S gs.size w.heap.size t →
    ∃ (N : Nat) (gs' : Array Goroutine) (g' : Goroutine) (v' w' : World) (S' : Nat → Prop) (sl' : Option (Nat × Nat)) (t' : Trace) (q' : Nat → Nat),
      runNT P N (crowd gs w sl) t = (.next (crowd gs' w' sl'), t') ∧ gs'[0]? = some g' ∧ Leavers P t' gs' q' ∧ PastK S' gs'.size w'.heap.size t' ∧ ViewOf S' H v' w' ∧ Tgt g' v' ∧ Kept S H w S' w'

section
variable {P : Program} {A : Ana} {H : Nat → Prop} {Tgt Tgt' : Goroutine → World → Prop} {g : Goroutine} {v v' : World}

theorem KV.stop (h : Tgt g v) : KV P H Tgt g v := fun S w gs sl t q hv h0 hL hP => ⟨0, gs, g, v, w, S, sl, t, q, rfl, h0, hL, hP, hv, h, .refl S H w⟩
theorem KV.then (h : KV P H Tgt' g v) (hn : ∀ g' v', Tgt' g' v' → KV P H Tgt g' v') : KV P H Tgt g v := fun S w gs sl t q hv h0 hL hP => by
  obtain ⟨N, gs1, g1, v1, w1, S1, sl1, t1, q1, r1, r2, r3, r4, r5, r6, r7⟩ := h S w gs sl t q hv h0 hL hP
  obtain ⟨M, gs2, g2, v2, w2, S2, sl2, t2, q2, u1, u2, u3, u4, u5, u6, u7⟩ := hn g1 v1 r6 S1 w1 gs1 sl1 t1 q1 r5 r2 r3 r4
  exact ⟨N + M, gs2, g2, v2, w2, S2, sl2, t2, q2, by rw [runNT_add, r1]; exact u1, u2, u3, u4, u5, u6, r7.trans u7⟩
theorem KV.mono (h : KV P H Tgt' g v) (hn : ∀ g' v', Tgt' g' v' → Tgt g' v') : KV P H Tgt g v := h.then fun g' v' x => .stop (hn g' v' x)

theorem ViewOf.same_heap {S : Nat → Prop} {w : World} (h : ViewOf S H v w) (e : SameHeap v' v) : ViewOf S H v' w :=
  ⟨e.os.trans h.os, e.output.trans h.output, by rw [e.heap]; exact h.size, fun b h1 h2 => by rw [e.heap]; exact h.same b h1 h2, fun b hb => by rw [e.heap]; exact h.dead b hb, fun b hb => by rw [e.heap]; exact h.hid b hb, fun b cs ty => by rw [e.heap]; exact h.plain b cs ty, fun b a u hb => h.views b a u (by rw [← e.heap]; exact hb)⟩
theorem ViewOf.at {S : Nat → Prop} {w : World} (h : ViewOf S H v w) (d : Nat) : ViewOf S H v (w.at d) := ⟨h.os, h.output, h.size, h.same, h.dead, h.hid, h.plain, h.views⟩
theorem KV.heap (h : KV P H Tgt g v) (e : SameHeap v v') : KV P H Tgt g v' := fun S w gs sl t q hv h0 hL hP => h S w gs sl t q (hv.same_heap e) h0 hL hP

theorem KV.of_reach (h : ∀ S w, ViewOf S H v w → Reach P S H (fun g' w' => ∃ v', ViewOf S H v' w' ∧ KV P H Tgt g' v') g w) : KV P H Tgt g v := fun S w gs sl t q hv h0 hL hP => by
  obtain ⟨N, gs1, g1, w1, sl1, t1, q1, r1, r2, r3, ⟨v1, r4, r5⟩, r6, r7, r8, r9, r10⟩ := reach_beside (h S w hv) gs sl t q h0 hL hP
  obtain ⟨M, gs2, g2, v2, w2, S2, sl2, t2, q2, u1, u2, u3, u4, u5, u6, u7⟩ := r5 S w1 gs1 sl1 t1 q1 r4 r3 r6 r7
  exact ⟨N + M, gs2, g2, v2, w2, S2, sl2, t2, q2, by rw [runNT_add, r1]; exact u1, u2, u3, u4, u5, u6, (Kept.mk r8 r9 (fun b hb => r10 b (.inr hb)) fun _ hb => .inl hb).trans u7⟩

theorem KV.ctl {g' : Goroutine} (hs : g.status = .running) (h : ∀ w, stepG P true g w = .go g' w #[]) (hn : KV P H Tgt g' v) : KV P H Tgt g v :=
  .of_reach fun S w hv => .step (fun _ => g') (fun d => w.at d) (fun _ => #[]) hs (fun d => h _) (fun d e he => by simp at he) (fun _ => rfl) (fun _ => Nat.le_refl _) (fun _ _ _ => rfl) fun d => .stop ⟨v, hv.at d, hn⟩

theorem KV.one (hs : g.status = .running) (h : ∀ S w, ViewOf S H v w → ∀ d, ∃ g' v' w' es, stepG P true g (w.at d) = .go g' w' es ∧ ViewOf S H v' w' ∧ (∀ e ∈ es, tameE S w'.heap.size e) ∧ w'.tape = w.tape ∧ w.heap.size ≤ w'.heap.size ∧ (∀ b : Nat, S b ∨ H b → w'.heap[b]? = w.heap[b]?) ∧ KV P H Tgt g' v') : KV P H Tgt g v :=
  .of_reach fun S w hv => by
    have hf : ∀ d, ∃ p : Goroutine × World × World × Array Event, stepG P true g (w.at d) = .go p.1 p.2.2.1 p.2.2.2 ∧ ViewOf S H p.2.1 p.2.2.1 ∧ (∀ e ∈ p.2.2.2, tameE S p.2.2.1.heap.size e) ∧ p.2.2.1.tape = w.tape ∧ w.heap.size ≤ p.2.2.1.heap.size ∧ (∀ b : Nat, S b ∨ H b → p.2.2.1.heap[b]? = w.heap[b]?) ∧ KV P H Tgt p.1 p.2.1 := fun d =>
      let ⟨g', v', w', es, x⟩ := h S w hv d
      ⟨(g', v', w', es), x⟩
    obtain ⟨p, hp⟩ := Classical.axiomOfChoice hf
    exact .step (fun d => (p d).1) (fun d => (p d).2.2.1) (fun d => (p d).2.2.2) hs (fun d => (hp d).1) (fun d => (hp d).2.2.1) (fun d => (hp d).2.2.2.1) (fun d => (hp d).2.2.2.2.1) (fun d => (hp d).2.2.2.2.2.1) fun d => .stop ⟨(p d).2.1, (hp d).2.1, (hp d).2.2.2.2.2.2⟩

theorem KV.op (hA : A.good P = true) {b : Frame} {a : Act} {k : List Item} {cs : List Frame} {ops : Array Oper} {i : Nat} {rest : List Nat} {o : Oper}
    (ho : ops[i]? = some o) (hw : Region.wanted o (yielded ops a.tmps) = true) (hk : b.kind ≠ .early) (hok : operOK P A b.fn o = true) (htr : ∀ t, A.tr b.fn t = [])
    (h : ∀ v₁, SameHeap v₁ v → ∀ K' : Act → World → Prop, (∀ a' v', KV P H Tgt (G (b.at a' (.inRegion ops rest :: k)) cs) v' → K' a' v') → uponK o a K' ((execOp a.eval o).run P v₁)) :
    KV P H Tgt (G (b.at a (.inRegion ops (i :: rest) :: k)) cs) v := by
  refine .one rfl fun S w hv d => ?_
  have hg := h { v with tape := w.tape, drawn := d } ⟨rfl, rfl, rfl⟩ (fun a' v' => KV P H Tgt (G (b.at a' (.inRegion ops rest :: k)) cs) v') (fun _ _ x => x)
  have hv1 : ViewOf S H { v with tape := w.tape, drawn := d } (w.at d) := (hv.at d).same_heap ⟨rfl, rfl, rfl⟩
  rcases lk_execOp (S := S) (H := H) hA hok a.tmps (fun t h => absurd (htr t) h) a.eval (fun t => rfl) (fun g => rfl) (fun x => rfl) _ _ hv1 (fun i _ q => rfl) with ⟨x, v', e1, e2⟩ | ⟨n, x, v', w', e1, e2, e3, e4, e5, e6, e7, e8⟩
  · rw [e1] at hg; exact hg.elim
  · rw [e1] at hg
    cases x with
    | value y => exact ⟨_, v', w', _, stepG_value ho hw hk e2, e4, fun e he => (e7 #[] e (mem_listed he)).resolve_left (by simp), e6.tape, e6.size, e6.kept, hg⟩
    | skip => exact ⟨_, v', w', _, stepG_none ho hw hk e2, e4, fun e he => (e7 #[] e (mem_listed he)).resolve_left (by simp), e6.tape, e6.size, e6.kept, hg⟩
    | _ => exact hg.elim

theorem KV.codeD (hA : A.good P = true) {b : Frame} {T : Array Value} {ds : List Deferred} {c : Code} {k : List Item} {cs : List Frame} {Q : World → Exit → Act → World → Prop} (hb : A.inB b.fn = true) (hk : b.kind = .normal) (htr : ∀ t, A.tr b.fn t = []) (hc : codeOK P A b.fn c = true)
    (hwp : ∀ v₁, SameHeap v₁ v → c.wp P (Q v₁) ⟨T, []⟩ v₁) (hQ : ∀ v₁ e a' v', Q v₁ e a' v' → e = .normal ∨ e = .ret)
    (hn : ∀ v₁ a' v', SameHeap v₁ v → Q v₁ .normal a' v' → a'.defers = [] → KV P H Tgt (G (b.at ⟨a'.tmps, ds⟩ k) cs) v')
    (hr : ∀ v₁ a' v' todo, SameHeap v₁ v → Q v₁ .ret a' v' → a'.defers = [] → KV P H Tgt (G { b.at ⟨a'.tmps, ds⟩ todo with mode := .returning } cs) v') :
    KV P H Tgt (G (b.at ⟨T, ds⟩ (.code c :: k)) cs) v := by
  refine .of_reach fun S w hv => ?_
  have hok : FrOK P A (b.at ⟨T, []⟩ [.code c]) := ⟨hb, hk, rfl, rfl, fun t ht => absurd (htr t) ht, fun it hi => by
    obtain rfl : it = .code c := by simpa [Frame.at] using hi
    exact hc⟩
  have := lift_run (Tgt := fun g' w' => ∃ v', ViewOf S H v' w' ∧ KV P H Tgt g' v') (Q := fun v₁ fr v' => ∃ e a', Q v₁ e a' v' ∧ ((e = .normal ∧ fr = b.at a' [.code (.refuse "")]) ∨ (e = .ret ∧ ∃ todo, fr = { b.at a' todo with mode := .returning }))) hA hok rfl (kl := ([.code (.refuse "")], [])) (kc := (k, ds)) (.inr rfl) hv
    (fun v₁ hsv => by
      obtain ⟨e, a', v', hq, harr⟩ := hwp v₁ hsv b [.code (.refuse "")] [c0]
      rcases hQ v₁ e a' v' hq with rfl | rfl
      · obtain ⟨N, hN⟩ : Steps P _ _ := harr
        exact ⟨N, _, v', hN, fun ch hc => (by cases hc), .normal, a', hq, .inl ⟨rfl, rfl⟩⟩
      · obtain ⟨todo, N, hN⟩ := harr
        exact ⟨N, _, v', hN, fun ch hc => (by cases hc), .ret, a', hq, .inr ⟨rfl, todo, rfl⟩⟩) cs (fun v₁ f v' w' hsv ⟨e, a', hq, hx⟩ hf hvw ht hs hkp => by
      have hfd := hf.defers
      obtain ⟨f1, f2, f3, f4, f5, f6, f7⟩ := f
      dsimp only at hfd
      subst hfd
      obtain ⟨T', ds'⟩ := a'
      rcases hx with ⟨rfl, hx⟩ | ⟨rfl, todo, hx⟩
      · have h0 := congrArg Frame.todo hx
        have h1 := congrArg Frame.fn hx
        have h2 := congrArg Frame.tmps hx
        have h3 := congrArg Frame.defers hx
        have h4 := congrArg Frame.mode hx
        have h5 := congrArg Frame.kind hx
        have h6 := congrArg Frame.roundOf hx
        simp only [ext, Frame.at, List.append_nil] at h1 h2 h3 h4 h5 h6
        have h7 : f3 = [] := by simpa [ext, Frame.at] using h0
        subst h1 h2 h3 h4 h5 h6 h7
        exact ⟨v', hvw, hn v₁ _ v' hsv hq rfl⟩
      · have h1 := congrArg Frame.fn hx
        have h2 := congrArg Frame.tmps hx
        have h3 := congrArg Frame.defers hx
        have h4 := congrArg Frame.mode hx
        have h5 := congrArg Frame.kind hx
        have h6 := congrArg Frame.roundOf hx
        simp only [ext, Frame.at, List.append_nil] at h1 h2 h3 h4 h5 h6
        subst h1 h2 h3 h4 h5 h6
        exact ⟨v', hvw, hr v₁ _ v' _ hsv hq rfl⟩)
  exact this
theorem KV.code (hA : A.good P = true) {b : Frame} {a : Act} {c : Code} {k : List Item} {cs : List Frame} {Q : World → Exit → Act → World → Prop} (hb : A.inB b.fn = true) (hk : b.kind = .normal) (hd : a.defers = []) (htr : ∀ t, A.tr b.fn t = []) (hc : codeOK P A b.fn c = true)
    (hwp : ∀ v₁, SameHeap v₁ v → c.wp P (Q v₁) a v₁) (hQ : ∀ v₁ e a' v', Q v₁ e a' v' → e = .normal ∨ e = .ret)
    (hn : ∀ v₁ a' v', SameHeap v₁ v → Q v₁ .normal a' v' → KV P H Tgt (G (b.at a' k) cs) v')
    (hr : ∀ v₁ a' v' todo, SameHeap v₁ v → Q v₁ .ret a' v' → KV P H Tgt (G { b.at a' todo with mode := .returning } cs) v') :
    KV P H Tgt (G (b.at a (.code c :: k)) cs) v := by
  obtain ⟨T, ds⟩ := a
  dsimp only at hd
  subst hd
  refine KV.codeD hA hb hk htr hc hwp hQ (fun v₁ a' v' hs hq hd => ?_) (fun v₁ a' v' todo hs hq hd => ?_)
  · obtain ⟨T', ds'⟩ := a'
    dsimp only at hd
    subst hd
    exact hn v₁ _ v' hs hq
  · obtain ⟨T', ds'⟩ := a'
    dsimp only at hd
    subst hd
    exact hr v₁ _ v' _ hs hq

theorem KV.call (hA : A.good P = true) {b : Frame} {a : Act} {k : List Item} {cs : List Frame} {ops : Array Oper} {i : Nat} {rest : List Nat} {o : Oper} {f : FuncId} {args : Array Operand} {ats : Array TypeId} {R : World → Value → World → Prop}
    (hf : A.inF f = true) (hn : A.noTr f = true) (ho : ops[i]? = some o) (hw : Region.wanted o (yielded ops a.tmps) = true) (hk : b.kind ≠ .early) (hop : o.op = .call { callee := .value (.func f), args, argTypes := ats })
    (hcall : ∀ v₁, SameHeap v₁ v → Calls P f (args.map a.eval) v₁ fun e v' => ∃ x, e = .returned x ∧ R v₁ x v')
    (hnext : ∀ v₁ x v', SameHeap v₁ v → R v₁ x v' → KV P H Tgt (G (b.at (a.put o.dst x) (.inRegion ops rest :: k)) cs) v') :
    KV P H Tgt (G (b.at a (.inRegion ops (i :: rest) :: k)) cs) v := by
  obtain ⟨fn, body, hfn, hbody, _, hname, hres, _⟩ := fn_of_good hA hf
  have hb' : fn.body.isNone = false := by rw [hbody]; rfl
  have hfin : ∀ r, (b.at a (.inRegion ops (i :: rest) :: k)).finish r = b.at (a.put o.dst r) (.inRegion ops rest :: k) := fun r => by rw [Frame.finish_at, ho]; rfl
  refine .ctl (g' := G (Frame.enter P f (args.map a.eval) .normal) (b.at a (.inRegion ops (i :: rest) :: k) :: cs)) rfl (fun w => ?_) (.of_reach fun S w hv => ?_)
  · rw [stepG_enter ho hw hk (run_call_body hop hfn hname hb')]
    have : listed P b.fn a o w = #[] := by unfold listed; rw [events_call_body hop hfn hname hb']; exact seen_none P _
    rw [this]
  · refine lift_calls (R := fun v₁ e v' => ∃ x, e = .returned x ∧ R v₁ x v') hA hf hn hv (fun v₁ e v' ⟨x, h, _⟩ => ⟨x, h⟩) hcall (b.at a (.inRegion ops (i :: rest) :: k) :: cs) (fun v₁ v' fr x w' hsv ⟨x', hx, hR⟩ hvw hleave hfrn hfr ht hs hkp => ?_)
    cases hx
    obtain ⟨hm2, hd2, hk2, fn3, hf3, hr3⟩ := hleave
    refine ⟨v', hvw, .one rfl fun S2 w2 hv2 d => ?_⟩
    obtain ⟨fn2, hf2, ⟨q, v2, he⟩ | ⟨z, e1, e2, e3, e4⟩⟩ := res_plain hA hfr (hv2.at d)
    · rw [hf2] at hf3; cases hf3
      rw [he] at hr3; cases hr3
    · have hzx : z = x := by
        rw [hf2] at hf3; cases hf3
        rw [e1] at hr3; cases hr3; rfl
      subst hzx
      refine ⟨_, v', w2.at d, _, stepG_ret hm2 hk2 hd2 hf2 e2 _ cs, hv2.at d, fun e he => e4 e (mem_seen he), rfl, Nat.le_refl _, fun _ _ => rfl, ?_⟩
      rw [hfin]
      exact hnext v₁ z v' hsv hR
end
end Go.Proofs.YtlcgbnmmbheleaaGreat

namespace Go.Proofs.YtlcgbnmmbheleaaGreat
open Go Go.RowKit

theorem own_blk_ne {w : World} {base s n g : Nat} {t t' : TypeId} {v : Value} {xs : List Value} {cs : Array Value} (h : w.ownsRow base t s v n xs) (hb : Blk w g t' cs) (ht : t ≠ t') : v.ownBlock ≠ some g := by
  intro e
  rcases h.2 with ⟨rfl, _⟩ | ⟨g', _, _, rfl, _, hg, _⟩
  · cases e
  · simp [Value.ownBlock] at e
    subst e
    unfold Blk at hb
    rw [hg] at hb
    injection hb with e
    injection e with _ e
    exact ht e
theorem own_le {w : World} {base s n c : Nat} {e : TypeId} {A : Option Addr} {xs : List Value} (h : w.ownsRow base e s (.slice A n c) n xs) : n ≤ 9223372036854775807 := by
  rcases h.2 with ⟨_, h0⟩ | ⟨g, cap, cur, he, _, _, h1, h2, _⟩
  · omega
  · unfold maxLen at h2; omega
theorem box_pair (t : TypeId) (w : World) (v0 v1 : Value) {w' : World} (hb : Below (w.heap.size + 1) (w.alloc (.cells #[v0, v1] t)) w') : w'.cell? ⟨w.heap.size, 0, none⟩ = some v0 ∧ w'.cell? ⟨w.heap.size, 1, none⟩ = some v1 := by
  constructor
  · rw [hb.cell (by simp)]; exact (Blk.new w _ _).cell 0
  · rw [hb.cell (by simp)]; exact (Blk.new w _ _).cell 1
theorem lit1 (w : World) (t : TypeId) (v : Value) : Src (w.alloc (.cells #[v] t)) 1 (some ⟨w.heap.size, 0, none⟩) 1 [v] :=
  ⟨rfl, fun _ => ⟨_, rfl, fun j u hu => by rw [addr_add, Nat.zero_add, (Blk.new w t #[v]).cell]; simpa using hu⟩⟩
theorem lit2 (w : World) (t : TypeId) (a b : Value) : Src (w.alloc (.cells #[a, b] t)) 2 (some ⟨w.heap.size, 0, none⟩) 1 [a, b] :=
  ⟨rfl, fun _ => ⟨_, rfl, fun j u hu => by rw [addr_add, Nat.zero_add, (Blk.new w t #[a, b]).cell]; simpa using hu⟩⟩
theorem one1 (v : Value) (h : v.oneCell' = true) : ∀ u ∈ [v], u.oneCell' = true := by simpa using h
theorem one2 (a b : Value) (h : a.oneCell' = true) (h' : b.oneCell' = true) : ∀ u ∈ [a, b], u.oneCell' = true := by simp [h, h']
theorem own_alloc {w : World} {base s n : Nat} {t : TypeId} {v : Value} {xs : List Value} (h : w.ownsRow base t s v n xs) (o : Obj) : (w.alloc o).ownsRow base t s v n xs := own_keep h (fun b hb => Below.heap_alloc _ _ _ (h.lt b hb).2)
theorem own_up' {w w' : World} {base s n : Nat} {t : TypeId} {v : Value} {xs : List Value} (h : w.ownsRow base t s v n xs) (hb : Below w.heap.size w w') : w'.ownsRow base t s v n xs := own_keep h (fun b hlt => hb.block b (h.lt b hlt).2)
def BnCells (w : World) (B : Nat) (vs : List Value) (bs : List (List Tk)) : Prop :=
  vs.length = bs.length ∧ ∀ j, j < bs.length → ∃ A' m c, vs[j]? = some (.slice A' m c) ∧ m ≤ c ∧ RdT w B A' m (bs[j]?.getD [])
theorem BnCells.nil {w : World} {B : Nat} : BnCells w B [] [] := ⟨rfl, fun j hj => by simp at hj⟩
theorem BnCells.keep {w w' : World} {B B' : Nat} {vs : List Value} {bs : List (List Tk)} (h : BnCells w B vs bs) (hk : ∀ p : Addr, p.block < B → w'.cell? p = w.cell? p) (hB : B ≤ B') : BnCells w' B' vs bs :=
  ⟨h.1, fun j hj => by obtain ⟨A', m, c, h1, h2, h3⟩ := h.2 j hj; exact ⟨A', m, c, h1, h2, h3.keep hk hB⟩⟩
theorem BnCells.snoc {w : World} {B : Nat} {vs : List Value} {bs : List (List Tk)} {A : Option Addr} {m c : Nat} {ts : List Tk} (h : BnCells w B vs bs) (hr : RdT w B A m ts) (hc : m ≤ c) : BnCells w B (vs ++ [.slice A m c]) (bs ++ [ts]) := by
  have hl := h.1
  refine ⟨by simp [hl], fun j hj => ?_⟩
  by_cases e : j < bs.length
  · obtain ⟨A', m', c', h1, h2, h3⟩ := h.2 j e
    exact ⟨A', m', c', by rw [List.getElem?_append_left (by omega)]; exact h1, h2, by rw [List.getElem?_append_left e]; exact h3⟩
  · have : j = bs.length := by simp at hj; omega
    subst this
    exact ⟨A, m, c, by rw [List.getElem?_append_right (by omega), hl, Nat.sub_self]; rfl, hc, by rw [List.getElem?_append_right (by omega), Nat.sub_self]; exact hr⟩
theorem RdB.of_own {w : World} {base B n c : Nat} {e : TypeId} {A : Option Addr} {vs : List Value} {bs : List (List Tk)} (h : w.ownsRow base e 1 (.slice A n c) n vs) (ht : BnCells w B vs bs) (hB : B ≤ w.heap.size) (hn : n ≤ 9223372036854775807) : RdB w w.heap.size A n bs := by
  have hl : bs.length = n := by have := h.1; have := ht.1; omega
  refine ⟨hl, hn, fun hp => ?_⟩
  obtain ⟨g, cap, hv, _, hlt⟩ := h.form hp
  have hA : A = some ⟨g, 0, none⟩ := by injection hv
  subst hA
  refine ⟨g, 0, rfl, hlt, fun j hj => ?_⟩
  obtain ⟨A', m, c', h1, h2, h3⟩ := ht.2 j (by omega)
  have e1 := h.cells (g := g) rfl _ _ h1
  rw [addr_add] at e1
  exact ⟨A', m, c', e1, h2, h3.more hB⟩
structure RdC (w : World) (A1 A2 : Option Addr) (n1 n2 : Nat) (room : List Int) (us : List Un) : Prop where
  a : RdI w w.heap.size A1 n1 room
  b : RdN w w.heap.size A2 n2 us
theorem RdC.up {w w' : World} {A1 A2 : Option Addr} {n1 n2 : Nat} {room : List Int} {us : List Un} (h : RdC w A1 A2 n1 n2 room us) (hb : Below w.heap.size w w') : RdC w' A1 A2 n1 n2 room us := ⟨h.a.up hb, h.b.up hb⟩
def ShU (us : List Un) : Prop := us.length ≤ 1000 ∧ ∀ u ∈ us, u.2.length ≤ 1000 ∧ ∀ t ∈ u.2, t.2.length ≤ 1000
def ShV (us : List Un) : Prop := us.length ≤ 1048576 ∧ ((us.map (·.2)).flatten).length ≤ 1048576
theorem un_mem {us : List Un} {k : Nat} (hk : k < us.length) : us[k]?.getD (false, []) ∈ us := by rw [List.getElem?_eq_getElem hk]; exact List.getElem_mem hk
theorem tk_mem {ts : List Tk} {k : Nat} (hk : k < ts.length) : ts[k]?.getD (0, []) ∈ ts := by rw [List.getElem?_eq_getElem hk]; exact List.getElem_mem hk
theorem unit_info : (Tryz.prog.info? 32).map (fun i => (i.zero, i.size, i.bytes)) = some (some (.agg #[.bool false, .slice none 0 0]), 2, 32) := by kernel_rfl
theorem slice_info' : (Tryz.prog.info? 30).map (fun i => (i.zero, i.size, i.bytes)) = some (some (.slice none 0 0), 1, 24) := by kernel_rfl
end Go.Proofs.YtlcgbnmmbheleaaGreat

namespace Go.Proofs.YtlcgbnmmbheleaaGreat
open Go Go.Conc Go.RowKit Go.Conc.Lib Go.ConcR.Gen Go.ConcN.Gen
open Go.ConcN (WgLive PayAt)
open Go.ConcR (KK WgAt stA smA rd wr mk DC0)
set_option linter.unusedVariables false
set_option linter.unusedSimpArgs false

noncomputable def uC0 : Code := match uBody with | .seq a _ => a | _ => .skip
noncomputable def uC1 : Code := match uBody with | .seq _ (.seq a _) => a | _ => .skip
noncomputable def uOps2 : Array Oper := match uBody with | .seq _ (.seq _ (.seq (.region _ ops _) _)) => ops | _ => #[]
noncomputable def uR3 : Code := match uBody with | .seq _ (.seq _ (.seq _ r)) => r | _ => .skip
section
variable {K : Cw} {AnchW : Goroutine → World → Prop} {W : World} {lv cb n c2 r : Nat} {A2 : Option Addr} {cs : List Frame} {y0 y1 y2 y7 y8 y9 y10 : Value}
def uT3 (K : Cw) (lv cb : Nat) (y0 y2 y7 y8 y9 y10 : Value) : Array Value :=
  #[y0, .pointer (some ⟨cb, 0, none⟩), y2, .pointer (some ⟨lv, 0, none⟩), .pointer (some ⟨K.Wg, 0, none⟩), undef, undef, y7, y8, y9, y10, undef, undef, undef, undef, undef, undef, undef, undef, undef, undef, undef, undef, undef]
set_option maxRecDepth 100000 in
set_option maxHeartbeats 4000000 in
theorem uStart (hcb : cb < K.B ∧ cb ≠ K.Wg ∧ cb ≠ K.C ∧ ¬ K.S cb) (hc : W.cell? ⟨cb, 1, none⟩ = some (.slice A2 n c2))
    (ih : ∃ m, ∀ (J : Nat → Value) (w : World), FU K W w ∧ WgLive K.ty K.Wg w → Goes Tryz.prog true (RS K no0) (DS K no0) (StopS Tryz.prog K AnchW r) m (uHead K lv A2 n c2 0 J cs) w) :
    ∃ m, ∀ (w : World), FU K W w ∧ WgLive K.ty K.Wg w → Goes Tryz.prog true (RS K no0) (DS K no0) (StopS Tryz.prog K AnchW r) m (G (bU.at ⟨uT3 K lv cb y0 y2 y7 y8 y9 y10, []⟩ (.inRegion uOps2 [] :: [.code uR3])) cs) w := by
  obtain ⟨mi, ih⟩ := ih
  refine ⟨(mi + 30 + 1) + 30, fun w hF => ?_⟩
  simp only [uHead, uTH, uLB, uBody, uT3, uOps2, uR3, Tryz.f22, Option.getD_some] at ih ⊢
  refine Goes.flat (RS.refl K no0) ?_
  u_c stepG_region_end (rs_rely (fun w w' r h => FU.rely r h)) hF
  u_c stepG_seq (rs_rely (fun w w' r h => FU.rely r h)) hF
  u_c stepG_seq (rs_rely (fun w w' r h => FU.rely r h)) hF
  u_reg (rs_rely (fun w w' r h => FU.rely r h)) hF
  u_op (rs_rely (fun w w' r h => FU.rely r h)) hF
  refine Goes.stop (fun w₁ h₁ => ?_)
  replace hF := (rs_rely (fun w w' r h => FU.rely r h)) hF h₁
  clear h₁
  refine Goes.step rfl (fun w₂ h₂ => ?_)
  replace hF := (rs_rely (fun w w' r h => FU.rely r h)) hF h₂
  clear h₂
  have hc1 := (hF.1.cell (p := ⟨cb, 1, none⟩) hcb.1 hcb.2.1 hcb.2.2.1).trans hc
  refine goes_oper_k rfl (by rfl) (by decide) (fun K' hK' => ?_)
  go_simp
  refine hK' _ _ ⟨⟨.refl _ _, rfl, fun e he => ?_⟩, ?_⟩
  · have hm := mem_listed he
    simp [go_sem, *] at hm
    subst hm
    exact .inl ⟨_, _, rfl, fun h => h.elim hcb.2.2.2 hcb.2.1, hcb.2.2.1, .inl ⟨hcb.1, rfl⟩⟩
  clear hK' K' hc1
  try walk_nrm
  refine Goes.flat (RS.refl K no0) ?_
  repeat (first | (u_c stepG_region_end (rs_rely (fun w w' r h => FU.rely r h)) hF) | (u_c stepG_skip (rs_rely (fun w w' r h => FU.rely r h)) hF) | (u_c stepG_block (rs_rely (fun w w' r h => FU.rely r h)) hF) | (u_c stepG_loop (rs_rely (fun w w' r h => FU.rely r h)) hF) | (u_op (rs_rely (fun w w' r h => FU.rely r h)) hF))
  refine Goes.stop (fun w' h' => ?_)
  have := ih (fun k => if k = 0 then y0 else if k = 1 then .pointer (some ⟨cb, 0, none⟩) else if k = 2 then y2 else if k = 7 then y7 else if k = 8 then y8 else if k = 9 then y9 else if k = 10 then y10 else if k = 11 then .pointer (some ⟨cb, 1, none⟩) else undef) w' ((rs_rely (fun w w' r h => FU.rely r h)) hF h')
  exact this
end

/-! ### contracts over views -/
def RetV (P : Program) (f : FuncId) (cs : List Frame) (Post : Value → World → Prop) (g : Goroutine) (v : World) : Prop :=
  ∃ fn a todo x, P.funcs[f]? = some fn ∧ a.defers = [] ∧ g = G { (base f).at a todo with mode := .returning } cs ∧ ResultsC P fn a.tmps x ∧ Post x v
def CallsV (P : Program) (H : Nat → Prop) (f : FuncId) (args : Array Value) (v : World) (Post : Value → World → Prop) : Prop :=
  ∃ fn c, P.funcs[f]? = some fn ∧ (fn.name == "runtime.NumGoroutine") = false ∧ fn.body = some c ∧
    ∀ cs, KV P H (RetV P f cs Post) (G ((base f).at { tmps := args ++ Array.replicate (fn.ntmps - args.size) undef, defers := [] } [.code c]) cs) v
section
variable {P : Program} {H : Nat → Prop} {Tgt : Goroutine → World → Prop} {v v' : World} {f : FuncId} {args : Array Value} {Post Post' : Value → World → Prop}
theorem RetV.mono {cs : List Frame} {g : Goroutine} (h : RetV P f cs Post g v) (hp : ∀ x v, Post x v → Post' x v) : RetV P f cs Post' g v := by
  obtain ⟨fn, a, todo, x, h1, h2, h3, h4, h5⟩ := h
  exact ⟨fn, a, todo, x, h1, h2, h3, h4, hp _ _ h5⟩
theorem CallsV.mono (h : CallsV P H f args v Post) (hp : ∀ x v, Post x v → Post' x v) : CallsV P H f args v Post' := by
  obtain ⟨fn, c, h1, h2, h3, h4⟩ := h
  exact ⟨fn, c, h1, h2, h3, fun cs => (h4 cs).mono fun g' v' hr => hr.mono hp⟩
theorem CallsV.heap (h : CallsV P H f args v Post) (e : SameHeap v v') : CallsV P H f args v' Post := by
  obtain ⟨fn, c, h1, h2, h3, h4⟩ := h
  exact ⟨fn, c, h1, h2, h3, fun cs => (h4 cs).heap e⟩
theorem KV.callV {b : Frame} {a : Act} {k : List Item} {cs : List Frame} {ops : Array Oper} {i : Nat} {rest : List Nat} {o : Oper} {args : Array Operand} {ats : Array TypeId}
    (ho : ops[i]? = some o) (hw : Region.wanted o (yielded ops a.tmps) = true) (hk : b.kind ≠ .early) (hop : o.op = .call { callee := .value (.func f), args, argTypes := ats })
    (hc : CallsV P H f (args.map a.eval) v Post) (next : ∀ x v', Post x v' → KV P H Tgt (G (b.at (a.put o.dst x) (.inRegion ops rest :: k)) cs) v') :
    KV P H Tgt (G (b.at a (.inRegion ops (i :: rest) :: k)) cs) v := by
  obtain ⟨fn, body, hfn, hname, hbody, hkv⟩ := hc
  have hb' : fn.body.isNone = false := by rw [hbody]; rfl
  refine .ctl (g' := G (Frame.enter P f (args.map a.eval) .normal) (b.at a (.inRegion ops (i :: rest) :: k) :: cs)) rfl (fun w => ?_) ?_
  · rw [stepG_enter ho hw hk (run_call_body hop hfn hname hb')]
    have : listed P b.fn a o w = #[] := by unfold listed; rw [events_call_body hop hfn hname hb']; exact seen_none P _
    rw [this]
  · rw [enter_at _ hfn hbody]
    refine (hkv _).then fun g' v' hr => ?_
    obtain ⟨fn', a', todo, x, h1, h2, rfl, h4, h5⟩ := hr
    refine .ctl (g' := G (b.at (a.put o.dst x) (.inRegion ops rest :: k)) cs) rfl (fun w => ?_) (next x v' h5)
    rw [stepG_leave rfl h2 h1 (h4 w).1 (h4 w).2, Frame.finish_at, ho]
    rfl
end

/-! ### usage's contract -/
structure UOk (us : List Un) : Prop where
  pos : 1 ≤ us.length
  len : us.length ≤ 1000
  n900 : ∀ k : Nat, (us[k]?.getD (false, [])).2.length ≤ 900
  n3 : ∀ k j : Nat, j < (us[k]?.getD (false, [])).2.length → ((us[k]?.getD (false, [])).2[j]?.getD (0, [])).2.length = 3
  nb : ∀ k j i : Nat, 0 ≤ ((us[k]?.getD (false, [])).2[j]?.getD (0, [])).2[i]?.getD 0 ∧ ((us[k]?.getD (false, [])).2[j]?.getD (0, [])).2[i]?.getD 0 ≤ 1000
def UsP (us : List Un) (v : World) (x : Value) (v' : World) : Prop :=
  ∃ C cs, x = .slice (some ⟨C, 0, none⟩) us.length us.length ∧ v.heap.size ≤ C ∧ v'.heap[C]? = some (.cells cs 48) ∧ cs.size = us.length ∧
    (∀ c, c < us.length → ∃ y, cs[c]? = some y ∧ Fit (loadP (us[c]?.getD (false, [])).2) y v') ∧ GR v v'

def uV1 (A1 A2 : Option Addr) (n1 c1 n c2 cb : Nat) : Array Value := #[.agg #[.slice A1 n1 c1, .slice A2 n c2], .pointer (some ⟨cb, 0, none⟩), .slice none 0 0, undef, undef, undef, undef, undef, undef, undef, undef, undef, undef, undef, undef, undef, undef, undef, undef, undef, undef, undef, undef, undef]
def uV2 (A1 A2 : Option Addr) (n1 c1 n c2 cb : Nat) : Array Value := #[.agg #[.slice A1 n1 c1, .slice A2 n c2], .pointer (some ⟨cb, 0, none⟩), .slice none 0 0, .pointer (some ⟨cb + 2, 0, none⟩), undef, undef, undef, .pointer (some ⟨cb, 1, none⟩), .slice A2 n c2, .int .i64 n, .slice (some ⟨cb + 1, 0, none⟩) n n, undef, undef, undef, undef, undef, undef, undef, undef, undef, undef, undef, undef, undef]
set_option maxRecDepth 100000 in
theorem u_c0 (A1 A2 : Option Addr) (n1 c1 n c2 : Nat) (v : World) :
    uC0.wp Tryz.prog (fun e a v' => e = .normal ∧ a = ⟨uV1 A1 A2 n1 c1 n c2 v.heap.size, []⟩ ∧ v' = v.alloc (.cells #[.slice A1 n1 c1, .slice A2 n c2] 26))
      ⟨#[.agg #[.slice A1 n1 c1, .slice A2 n c2], undef, undef, undef, undef, undef, undef, undef, undef, undef, undef, undef, undef, undef, undef, undef, undef, undef, undef, undef, undef, undef, undef, undef], []⟩ v := by
  simp only [uC0, uBody, Tryz.f22, Option.getD_some, uV1]
  go_wp2
set_option maxRecDepth 100000 in
set_option maxHeartbeats 1000000 in
theorem u_c1 (A1 A2 : Option Addr) (n1 c1 n c2 cb : Nat) (hn : n ≤ 1000) (v : World) (hc : v.cell? ⟨cb, 1, none⟩ = some (.slice A2 n c2)) (hs : v.heap.size = cb + 1) :
    uC1.wp Tryz.prog (fun e a v' => e = .normal ∧ a = ⟨uV2 A1 A2 n1 c1 n c2 cb, []⟩ ∧ v' = (v.alloc (.cells (madeCells #[.slice none 0 0] n) 48)).alloc (.cells #[.slice (some ⟨cb + 1, 0, none⟩) n n] 50)) ⟨uV1 A1 A2 n1 c1 n c2 cb, []⟩ v := by
  obtain ⟨i0, hi0, hz0, hz1, hz2⟩ : ∃ i, (Tryz.prog).info? 48 = some i ∧ i.zero = some (.slice none 0 0) ∧ i.size = 1 ∧ i.bytes = 24 := ⟨_, rfl, rfl, rfl, rfl⟩
  have hmk := run_make_n (P := Tryz.prog) 50 48 i0 _ Tryz.underlying50 hi0 hz0 n (by rw [hz2]; omega) (by omega)
  rw [hz1, Nat.mul_one] at hmk
  clear hi0 hz0 hz1 hz2
  simp only [uC1, uBody, Tryz.f22, Option.getD_some, uV1, uV2]
  go_wp2

theorem RdT.gain {v v' : World} {B B' n : Nat} {A : Option Addr} {ts : List Tk} (h : RdT v B A n ts) (hc : ∀ (p : Addr) (y : Value), p.block < B → v.cell? p = some y → v'.cell? p = some y) (hB : B ≤ B') : RdT v' B' A n ts :=
  ⟨h.1, h.2.1, fun hn => by
    obtain ⟨b, o, e, hb, hx⟩ := h.2.2 hn
    refine ⟨b, o, e, by omega, fun j hj => ?_⟩
    obtain ⟨A', m, c, h1, h2, h3, h4⟩ := hx j hj
    refine ⟨A', m, c, hc _ _ hb h1, hc _ _ hb h2, h3, h4.1, h4.2.1, fun h0 => ?_⟩
    obtain ⟨b', o', e', hb', hx'⟩ := h4.2.2 h0
    exact ⟨b', o', e', by omega, fun j hj => hc _ _ hb' (hx' j hj)⟩⟩

def anaU : Ana := ⟨[], [], [22], []⟩
theorem anaU_good : anaU.good Tryz.prog = true := by kernel_rfl

section
variable {H : Nat → Prop} {n : Nat} {v : World} {cs : List Frame} {T : Array Value} {lv C : Nat}
set_option maxRecDepth 100000 in
theorem uEnd {Post : Value → World → Prop} (hT : T.size = 24) (h3 : T[3]? = some (.pointer (some ⟨lv, 0, none⟩))) (hc : v.cell? ⟨lv, 0, none⟩ = some (.slice (some ⟨C, 0, none⟩) n n)) (hp : ∀ v', SameHeap v' v → Post (.slice (some ⟨C, 0, none⟩) n n) v') :
    KV Tryz.prog H (RetV Tryz.prog 22 cs Post) (G (bU.at ⟨T, []⟩ (.inRegion uOps9 [] :: [.code uT10])) cs) v := by
  refine KV.ctl rfl (fun w => stepG_region_end) ?_
  refine KV.code anaU_good (Q := fun v₁ e a v' => e = .ret ∧ a.defers = [] ∧ a.tmps.getD 2 undef = .slice (some ⟨C, 0, none⟩) n n ∧ v' = v₁) (by kernel_rfl) rfl rfl (fun _ => rfl) (by kernel_rfl) (fun v₁ hs => ?_) (fun _ _ _ _ h => .inr h.1) (fun _ _ _ _ h => nomatch h.1) (fun v₁ a' v' todo hs h => ?_)
  · have hc1 : v₁.cell? ⟨lv, 0, none⟩ = some (.slice (some ⟨C, 0, none⟩) n n) := by
      rw [← hc]; exact World.cell?_of_block (by rw [hs.heap])
    have h3' : T[3]'(by omega) = .pointer (some ⟨lv, 0, none⟩) := by
      rw [Array.getElem?_eq_getElem (by omega)] at h3
      exact Option.some.inj h3
    clear h3 hc
    simp only [uT10, uTail, uBody, Tryz.f22, Option.getD_some]
    go_wp2
  · obtain ⟨_, h1, h2, rfl⟩ := h
    refine .stop ⟨_, a', todo, _, Tryz.func22, h1, rfl, resultsC_tmp rfl a'.tmps, ?_⟩
    rw [show a'.tmps.getD 2 undef = _ from h2]
    exact hp _ hs
end

theorem uBody_eq : ∃ i, uBody = .seq uC0 (.seq uC1 (.seq (.region i uOps2 false) uR3)) := ⟨_, by rfl⟩
theorem new_wg : (∀ w : World, (Instr.alloc 85 true (.tuple #[])).run Tryz.prog w = .ok (.pointer (some ⟨w.heap.size, 0, none⟩)) (w.alloc (Go.ConcR.wgBlock 85 0 0))) ∧ ∀ (w : World) (es : Array Event), (Instr.alloc 85 true (.tuple #[])).events Tryz.prog w es = es := ⟨fun _ => by kernel_rfl, fun _ _ => by kernel_rfl⟩

section
variable {H : Nat → Prop} {v : World} {cs : List Frame} {A1 A2 : Option Addr} {n1 c1 c2 cb : Nat} {us : List Un} {Post : Value → World → Prop}
set_option maxRecDepth 100000 in
set_option maxHeartbeats 1000000 in
theorem uCrowd (hu : UOk us) (hr : RdN v cb A2 us.length us) (h0 : v.cell? ⟨cb, 1, none⟩ = some (.slice A2 us.length c2)) (h1 : v.heap[cb + 1]? = some (.cells (madeCells #[.slice none 0 0] us.length) 48)) (h2 : v.cell? ⟨cb + 2, 0, none⟩ = some (.slice (some ⟨cb + 1, 0, none⟩) us.length us.length)) (hs : v.heap.size = cb + 3)
    (hp : ∀ v' cs, v'.os = v.os → v'.output = v.output → v.heap.size ≤ v'.heap.size → (∀ b, b < cb → v'.heap[b]? = v.heap[b]?) → v'.heap[cb + 1]? = some (.cells cs 48) → cs.size = us.length → (∀ c, c < us.length → ∃ y, cs[c]? = some y ∧ Fit (loadP (us[c]?.getD (false, [])).2) y v') → Post (.slice (some ⟨cb + 1, 0, none⟩) us.length us.length) v') :
    KV Tryz.prog H (RetV Tryz.prog 22 cs Post) (G (bU.at ⟨uV2 A1 A2 n1 c1 us.length c2 cb, []⟩ (.inRegion uOps2 [0] :: [.code uR3])) cs) v := by
  intro S w gs sl t q hv hg hL hP
  have hlen := hu.len
  have hpos := hu.pos
  have hsz : w.heap.size = cb + 3 := hv.size.symm.trans hs
  have seen : ∀ (p : Addr) (y : Value), v.cell? p = some y → ¬ S p.block ∧ ¬ H p.block ∧ w.cell? p = some y := fun p y hy => by
    have hn : ¬ (S p.block ∨ H p.block) := fun hb => by rw [cell_gone hv hb] at hy; cases hy
    exact ⟨fun hb => hn (.inl hb), fun hb => hn (.inr hb), by rw [← cell_view hv (fun hb => hn (.inl hb)) (fun hb => hn (.inr hb))]; exact hy⟩
  have hC : ¬ S (cb + 1) ∧ ¬ H (cb + 1) := by
    constructor
    · intro hb
      obtain ⟨_, _, _, _, e⟩ := hv.dead _ hb
      rw [h1] at e
      have e' := congrArg Array.size (show madeCells #[Value.slice none 0 0] us.length = #[] by injection e with e; injection e)
      rw [size_madeCells] at e'
      simp at e'
      rw [e'] at hpos
      exact absurd hpos (by decide)
    · intro hb
      rcases hv.hid _ hb with ⟨_, _, _, e⟩ | ⟨_, _, _, e⟩ <;> rw [h1] at e <;> cases e
  -- the group's variable is made
  obtain ⟨k, gs1, d, sl1, t1, q1, r1, r2, r3, r4, r5⟩ := silent_beside (fun _ => G (bU.at ⟨uT3 ⟨S, H, w.heap.size, cb + 1, us.length, 0, 0, 0, fun _ => []⟩ (cb + 2) cb (.agg #[.slice A1 n1 c1, .slice A2 us.length c2]) (.slice none 0 0) (.pointer (some ⟨cb, 1, none⟩)) (.slice A2 us.length c2) (.int .i64 us.length) (.slice (some ⟨cb + 1, 0, none⟩) us.length us.length), []⟩ (.inRegion uOps2 [] :: [.code uR3])) cs) (fun d => (w.at d).alloc (Go.ConcR.wgBlock 85 0 0)) rfl (fun d => by
    have e := stepG_new (main := true) (b := bU) (a := ⟨uV2 A1 A2 n1 c1 us.length c2 cb, []⟩) (kk := [.code uR3]) (cs := cs) (w := w.at d) (ops := uOps2) (i := 0) (rest := []) (o := (uOps2[0]?).getD default) (t := 85) (row := #[.int .u64 0, .int .u32 0]) (by rfl) (by rfl) fewU (by rfl) new_wg.1 new_wg.2
    exact e) hg hL hP
  let W : World := (w.at d).alloc (Go.ConcR.wgBlock 85 0 0)
  let K : Cw := ⟨S, H, w.heap.size, cb + 1, us.length, gs.size - 1, w.heap.size + 1, 85, fun i => loadP (us[i]?.getD (false, [])).2⟩
  have hWs : W.heap.size = w.heap.size + 1 := by show (w.heap.push _).size = _; simp
  have hold : ∀ b, b < w.heap.size → W.heap[b]? = w.heap[b]? := fun b hb => by show (w.heap.push _)[b]? = _; rw [Array.getElem?_push, if_neg (by omega)]
  have hB : ∀ b, S b ∨ H b → b < w.heap.size := fun b hb => hv.hidden hb
  have hK : K.Ok := ⟨Nat.lt_succ_self _, by show cb + 1 < w.heap.size + 1; omega, by show cb + 1 ≠ w.heap.size; omega, fun hb => Nat.lt_irrefl _ (hB _ (.inl hb)), hC.1, fun hb => Nat.lt_irrefl _ (hB _ (.inr hb)), hC.2, fun b hb => Nat.lt_succ_of_lt (hB _ (.inl hb)), fun b hb => Nat.lt_succ_of_lt (hB _ (.inr hb)), by show us.length < _; omega⟩
  obtain ⟨hv0, _, _⟩ := push_view (S := S) (H := H) (v := v) (w := w.at d) (hv.at d) (o := Go.ConcR.wgBlock 85 0 0) rfl
  have seenW : ∀ (p : Addr) (y : Value), v.cell? p = some y → p.block < w.heap.size ∧ W.cell? p = some y := fun p y hy => by
    have hb : p.block < w.heap.size := by have := cell_lt hy; have := hv.size; omega
    exact ⟨hb, (World.cell?_of_block (hold _ hb)).trans (seen p y hy).2.2⟩
  have hbox := seen _ _ h0
  have hlv := seen _ _ h2
  obtain ⟨bu, ou, e2, hbu, hun⟩ := hr.2.2 (by omega)
  have hU : ∀ i, i < K.n → ∃ op Ai ni ci ts, Units K W (cb + 2) bu ou i op Ai ni ci ts := fun i hi => by
    obtain ⟨A', m, c, g1, g2, g3, g4⟩ := hun i hi
    have hs1 := seen _ _ g1
    have hm : (us[i]?.getD (false, [])).2.length = m := g4.1
    refine ⟨_, A', m, c, (us[i]?.getD (false, [])).2, ⟨by show cb + 2 < w.heap.size + 1; omega, by show cb + 2 ≠ w.heap.size; omega, by show cb + 2 ≠ cb + 1; omega, hlv.1, hlv.2.1⟩, (seenW _ _ h2).2, ⟨by show bu < w.heap.size + 1; omega, by show bu ≠ w.heap.size; omega, by show bu ≠ cb + 1; omega, hs1.1, hs1.2.1⟩, (seenW _ _ g1).2, (seenW _ _ g2).2, fun u hu1 hu2 => ?_, ?_, fun j hj => ?_, hu.nb i, rfl⟩
    · refine g4.gain (B' := u.heap.size) (fun p y hp hy => ?_) ?_
      · have hsp := seen p y hy
        have hq := seenW p y hy
        exact (World.cell?_of_block (hu1 p.block ⟨Nat.lt_succ_of_lt hq.1, hsp.1, hsp.2.1, Nat.ne_of_lt hq.1, by show p.block ≠ cb + 1; omega⟩)).trans hq.2
      · have : w.heap.size + 1 ≤ u.heap.size := hu2
        omega
    · rw [← hm]; exact hu.n900 i
    · exact hu.n3 i j (by rw [hm]; exact hj)
  obtain ⟨m, hm⟩ := uStart (K := K) (W := W) (lv := cb + 2) (cb := cb) (cs := cs) (y0 := .agg #[.slice A1 n1 c1, .slice A2 us.length c2]) (y2 := .slice none 0 0) (y7 := .pointer (some ⟨cb, 1, none⟩)) (y8 := .slice A2 us.length c2) (y9 := .int .i64 us.length) (y10 := .slice (some ⟨cb + 1, 0, none⟩) us.length us.length)
    (r := K.n) (AnchW := AnchU K W (cb + 2) cs) ⟨by show cb < w.heap.size + 1; omega, by show cb ≠ w.heap.size; omega, by show cb ≠ cb + 1; omega, hbox.1⟩ (seenW _ _ h0).2 (by
      obtain ⟨m, hm⟩ := uLoop (K := K) (W := W) (lv := cb + 2) (bu := bu) (ou := ou) (n := us.length) (c2 := c2) (cs := cs) rfl hK hWs.symm rfl (by show us.length ≤ 1000; omega) (fun _ => e2) hU K.n (Nat.le_refl _)
      rw [Nat.sub_self] at hm
      exact ⟨m, hm⟩)
  have hWg : WgAt K.ty K.Wg W 0 0 := by show (w.heap.push _)[w.heap.size]? = _; simp; rfl
  have hsp := spw_of (hm W ⟨⟨fun _ _ _ _ => rfl, Nat.le_of_eq hWs.symm⟩, ⟨0, 0, hWg⟩⟩)
  have hpay : PayAt K.C K.n W := ⟨_, (hold (cb + 1) (by omega)).trans ((hv.same _ hC.1 hC.2).symm.trans h1), by rw [size_madeCells]⟩
  obtain ⟨N, gs', a', w', v', sl', t', q', xs, s1, s2, s3, s4, s5, s6, s7, s8, s9, s10, s11, s12, s13⟩ := crowd_all (sl := sl1) hK (anchU_run (K := K) (W := W) (lv := cb + 2) (cs := cs)) anchU_round (Fin := FinU K W (cb + 2) cs) r3 (by
    have : 0 < gs.size := (Array.getElem?_eq_some_iff.1 hg).1
    show gs1.size = gs.size - 1 + 1
    omega) r4 r5 hv0 hWs hWg hpay hsp
  obtain ⟨T, hT, hT3, rfl, hFU⟩ := s3
  have hrow : ∀ b, b < w.heap.size → b ≠ cb + 1 → v'.heap[b]? = v.heap[b]? := fun b hb hb1 => by
    refine (s9 b (Nat.lt_succ_of_lt hb) (Nat.ne_of_lt hb) hb1).trans ?_
    show (v.heap.push _)[b]? = _
    rw [Array.getElem?_push, if_neg (by have := hv.size; omega)]
  have hend := uEnd (H := H) (v := v') (cs := cs) (T := T) (lv := cb + 2) (C := cb + 1) (n := us.length) (Post := Post) hT hT3 ((World.cell?_of_block (hrow (cb + 2) (by omega) (by omega))).trans h2) (fun v'' he => by
    refine hp v'' xs (he.os.trans s7.1) (he.output.trans s7.2) ?_ (fun b hb => ?_) ?_ s11 (fun c hc => ?_)
    · rw [he.heap]
      have e : (v.heap.push (Go.ConcR.wgBlock 85 0 0)).size ≤ v'.heap.size := s8
      rw [Array.size_push] at e
      omega
    · rw [he.heap]; exact hrow b (by omega) (by omega)
    · rw [he.heap]; exact s10
    · obtain ⟨y, g1, g2⟩ := s12 c hc
      exact ⟨y, g1, g2.gain (fun p y hy => (World.cell?_of_block (by rw [he.heap])).trans hy) (by rw [he.heap]; exact Nat.le_refl _)⟩)
  have hmv : Mv (fun b => b = w.heap.size ∨ b = cb + 1) W w' := s13
  have hkept : Kept S H w K.S1 w' := ⟨hmv.tape, by have := hmv.size; omega, fun b hb => (hmv.rows b (by have := hB b (.inr hb); omega) fun e => e.elim (fun e => by have := hB b (.inr hb); omega) fun e => hC.2 (e ▸ hb)).trans (hold b (hB b (.inr hb))), fun b hb => hb.elim .inl fun e => .inr (Nat.le_of_eq e.symm)⟩
  obtain ⟨M, gs2, g2, v2, w2, S2, sl2, t2, q2, u1, u2, u3, u4, u5, u6, u7⟩ := hend K.S1 w' gs' sl' t' q' s6 s2 s4 s5
  have s1' : runNT Tryz.prog N (crowd gs1 W sl1) t1 = _ := s1
  exact ⟨k + (N + M), gs2, g2, v2, w2, S2, sl2, t2, q2, by rw [runNT_add, r1]; show runNT _ (N + M) (crowd gs1 W sl1) t1 = _; rw [runNT_add, s1']; exact u1, u2, u3, u4, u5, u6, hkept.trans u7⟩

set_option maxRecDepth 100000 in
set_option maxHeartbeats 1000000 in
theorem usage_v (hu : UOk us) (h : RdN v v.heap.size A2 us.length us) : CallsV Tryz.prog H 22 #[.agg #[.slice A1 n1 c1, .slice A2 us.length c2]] v (UsP us v) := by
  refine ⟨_, uBody, Tryz.func22, by kernel_rfl, by rfl, fun cs => ?_⟩
  obtain ⟨i, hb⟩ := uBody_eq
  have e : (#[Value.agg #[.slice A1 n1 c1, .slice A2 us.length c2]] ++ Array.replicate (Tryz.f22.ntmps - (#[Value.agg #[.slice A1 n1 c1, .slice A2 us.length c2]] : Array Value).size) undef) = #[.agg #[.slice A1 n1 c1, .slice A2 us.length c2], undef, undef, undef, undef, undef, undef, undef, undef, undef, undef, undef, undef, undef, undef, undef, undef, undef, undef, undef, undef, undef, undef, undef] := by kernel_rfl
  rw [e, hb]
  clear e hb
  refine KV.ctl rfl (fun w => stepG_seq) ?_
  refine KV.code anaU_good (Q := fun v₁ e a v' => e = .normal ∧ a = ⟨uV1 A1 A2 n1 c1 us.length c2 v₁.heap.size, []⟩ ∧ v' = v₁.alloc (.cells #[.slice A1 n1 c1, .slice A2 us.length c2] 26)) (by kernel_rfl) rfl rfl (fun _ => rfl) (by kernel_rfl) (fun v₁ hs => u_c0 A1 A2 n1 c1 us.length c2 v₁) (fun _ _ _ _ h => .inl h.1) (fun v₁ a' v' hs h => ?_) (fun _ _ _ _ _ h => nomatch h.1)
  obtain ⟨_, rfl, rfl⟩ := h
  rw [hs.heap]
  refine KV.heap (v := v.alloc (.cells #[.slice A1 n1 c1, .slice A2 us.length c2] 26)) ?_ ⟨by show v.heap.push _ = v₁.heap.push _; rw [hs.heap], hs.os.symm, hs.output.symm⟩
  refine KV.ctl rfl (fun w => stepG_seq) ?_
  have hw : (v.alloc (.cells #[.slice A1 n1 c1, .slice A2 us.length c2] 26)).heap = v.heap.push (.cells #[.slice A1 n1 c1, .slice A2 us.length c2] 26) := rfl
  have hbox : ∀ u : World, u.heap = v.heap.push (.cells #[.slice A1 n1 c1, .slice A2 us.length c2] 26) → u.cell? ⟨v.heap.size, 1, none⟩ = some (.slice A2 us.length c2) ∧ u.heap.size = v.heap.size + 1 := fun u hu => ⟨by simp [World.cell?, hu], by rw [hu]; simp⟩
  have hw2 : (v.alloc (.cells #[.slice A1 n1 c1, .slice A2 us.length c2] 26)).os = v.os := rfl
  have hw3 : (v.alloc (.cells #[.slice A1 n1 c1, .slice A2 us.length c2] 26)).output = v.output := rfl
  generalize v.alloc (.cells #[.slice A1 n1 c1, .slice A2 us.length c2] 26) = v1 at hw hw2 hw3 ⊢
  refine KV.code anaU_good (Q := fun v₁ e a v' => e = .normal ∧ a = ⟨uV2 A1 A2 n1 c1 us.length c2 v.heap.size, []⟩ ∧ v' = (v₁.alloc (.cells (madeCells #[.slice none 0 0] us.length) 48)).alloc (.cells #[.slice (some ⟨v.heap.size + 1, 0, none⟩) us.length us.length] 50)) (by kernel_rfl) rfl rfl (fun _ => rfl) (by kernel_rfl)
    (fun v₁ hs => u_c1 A1 A2 n1 c1 us.length c2 v.heap.size hu.len v₁ (hbox _ (hs.heap.trans hw)).1 (hbox _ (hs.heap.trans hw)).2) (fun _ _ _ _ h => .inl h.1) (fun v₁ a' v' hs h => ?_) (fun _ _ _ _ _ h => nomatch h.1)
  obtain ⟨_, rfl, rfl⟩ := h
  have h3 : ((v₁.alloc (.cells (madeCells #[.slice none 0 0] us.length) 48)).alloc (.cells #[.slice (some ⟨v.heap.size + 1, 0, none⟩) us.length us.length] 50)).heap = ((v.heap.push (.cells #[.slice A1 n1 c1, .slice A2 us.length c2] 26)).push (.cells (madeCells #[.slice none 0 0] us.length) 48)).push (.cells #[.slice (some ⟨v.heap.size + 1, 0, none⟩) us.length us.length] 50) := by
    show (v₁.heap.push _).push _ = _
    rw [hs.heap, hw]
  have h4 : ((v₁.alloc (.cells (madeCells #[.slice none 0 0] us.length) 48)).alloc (.cells #[.slice (some ⟨v.heap.size + 1, 0, none⟩) us.length us.length] 50)).os = v.os := hs.os.trans hw2
  have h5 : ((v₁.alloc (.cells (madeCells #[.slice none 0 0] us.length) 48)).alloc (.cells #[.slice (some ⟨v.heap.size + 1, 0, none⟩) us.length us.length] 50)).output = v.output := hs.output.trans hw3
  generalize (v₁.alloc (.cells (madeCells #[.slice none 0 0] us.length) 48)).alloc (.cells #[.slice (some ⟨v.heap.size + 1, 0, none⟩) us.length us.length] 50) = v2 at h3 h4 h5 ⊢
  clear hs hw hw2 hw3 hbox
  have hold : ∀ b, b < v.heap.size → v2.heap[b]? = v.heap[b]? := fun b hb => by
    rw [h3, Array.getElem?_push, if_neg (by simp; omega), Array.getElem?_push, if_neg (by simp; omega), Array.getElem?_push, if_neg (by omega)]
  refine KV.ctl rfl (fun w => stepG_seq) ?_
  refine KV.ctl rfl (fun w => stepG_region) ?_
  have e3 : List.range uOps2.size = [0] := by rfl
  rw [e3]
  refine uCrowd hu (h.keep (fun p hp => World.cell?_of_block (hold _ hp)) (Nat.le_refl _)) ?_ ?_ ?_ ?_ (fun v' xs g1 g2 g3 g4 g5 g6 g7 => ?_)
  · simp only [World.cell?]
    rw [h3, Array.getElem?_push, if_neg (by simp only [Array.size_push]; omega), Array.getElem?_push, if_neg (by simp only [Array.size_push]; omega), Array.getElem?_push, if_pos rfl]
    rfl
  · rw [h3, Array.getElem?_push, if_neg (by simp only [Array.size_push]; omega), Array.getElem?_push, if_pos (by simp only [Array.size_push])]
  · simp only [World.cell?]
    rw [h3, Array.getElem?_push, if_pos (by simp only [Array.size_push])]
    rfl
  · rw [h3]; simp
  · refine ⟨_, xs, rfl, Nat.le_succ _, g5, g6, g7, ⟨g1.trans h4, g2.trans h5, ?_, fun b hb => (g4 b hb).trans (hold b hb)⟩⟩
    have := congrArg Array.size h3
    simp at this
    omega
end
end Go.Proofs.YtlcgbnmmbheleaaGreat
