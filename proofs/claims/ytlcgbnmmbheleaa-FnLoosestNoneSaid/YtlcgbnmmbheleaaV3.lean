/- Several texts in one. -/
import Derived.Test.YtlcgbnmmbheleaaLiStep
import Derived.Conc.CrowdTrace
import Derived.Conc.CrowdInv
namespace Go.Proofs.Ytlcgbnmmbheleaa
open Go Go.Conc
set_option linter.unusedVariables false
set_option linter.unusedSimpArgs false
section
variable {P : Program} {A : Ana} {S H : Nat → Prop} {mn : Bool}

def c0 : Frame := { fn := 0, tmps := #[], todo := [.code (.refuse "")], defers := [{ target := .nil, args := #[] }], mode := .run, kind := .normal }

theorem step_c0 (x : Value) (u : World) : ∃ o u', step P (lone (c0.finish x) [] u) = .ended o u' := by
  exact ⟨_, _, step_lone_ended (o := _) (w' := u) rfl⟩
theorem step_c0_panic (chain : List PanicEntry) (u : World) : ∃ o u', step P (lone (c0.raise chain) [] u) = .ended o u' := by
  refine ⟨_, _, step_lone_ended (o := _) (w' := u) (by
    simp only [stepG, unwind, c0, Frame.raise, callDeferred]
    rfl)⟩

theorem runN_ended {m : Machine} {o : Outcome} {u : World} (h : step P m = .ended o u) : ∀ k m', runN P (k + 1) m ≠ .next m' := by
  intro k m' hr
  simp [runN, h] at hr

def Below1 (A : Ana) (c : Frame) : Prop := c.mode = .run ∧ c.defers = [] ∧ A.inB c.fn = true

theorem doomed (hA : A.good P = true) : ∀ (up : List Frame), (∀ c ∈ up, Below1 A c) → ∀ (fr : Frame) (chain : List PanicEntry) (u : World), fr.mode = .panicking chain → fr.defers = [] → A.inB fr.fn = true →
    ∀ (M : Nat) (fr' : Frame) (v' : World), (∀ ch, fr'.mode ≠ .panicking ch) → runN P M (lone fr (up ++ [c0]) u) ≠ .next (lone fr' [c0] v')
  | up, hup, fr, chain, u, hm, hd, hf, 0, fr', v', hr => by
    intro h
    have h' : lone fr (up ++ [c0]) u = lone fr' [c0] v' := by simpa [runN] using h
    have : fr = fr' := by simp [lone] at h'; exact h'.2.1
    subst this
    exact hr chain hm
  | up, hup, fr, chain, u, hm, hd, hf, M + 1, fr', v', hr => by
    intro h
    obtain ⟨fn, body, hfn, _⟩ := shape_of_good hA hf
    have hc : fr.catches P = false := by unfold Frame.catches; rw [hfn]
    cases up with
    | nil =>
      have hst : step P (lone fr [c0] u) = .next (lone (c0.raise chain) [] u) := by
        refine step_lone_go ?_
        obtain ⟨fn', tmps, todo, defers, mode, kind, rnd⟩ := fr
        dsimp only at hm hd
        subst hm hd
        simp [stepG, unwind, hc]
      have h2 : runN P M (lone (c0.raise chain) [] u) = .next (lone fr' [c0] v') := by
        have : runN P (M + 1) (lone fr [c0] u) = .next (lone fr' [c0] v') := h
        simpa [runN, hst] using this
      cases M with
      | zero => simp [runN, lone] at h2
      | succ M =>
        obtain ⟨o, u', he⟩ := step_c0_panic (P := P) chain u
        exact runN_ended he M _ h2
    | cons c up =>
      obtain ⟨hcm, hcd, hcf⟩ := hup c List.mem_cons_self
      have hst : step P (lone fr (c :: up ++ [c0]) u) = .next (lone (c.raise chain) (up ++ [c0]) u) := by
        refine step_lone_go ?_
        obtain ⟨fn', tmps, todo, defers, mode, kind, rnd⟩ := fr
        dsimp only at hm hd
        subst hm hd
        simp [stepG, unwind, hc]
      have h2 : runN P M (lone (c.raise chain) (up ++ [c0]) u) = .next (lone fr' [c0] v') := by
        have : runN P (M + 1) (lone fr (c :: up ++ [c0]) u) = .next (lone fr' [c0] v') := h
        unfold runN at this
        rw [hst] at this
        exact this
      have hrm : c.raise chain = { c with mode := .panicking chain } := by unfold Frame.raise; rw [hcm]
      rw [hrm] at h2
      exact doomed hA up (fun y hy => hup y (List.mem_cons_of_mem _ hy)) { c with mode := .panicking chain } chain u rfl hcd hcf M fr' v' hr h2

/-! ### stacks -/
def exts (k : List Item) : List Frame → List Frame
  | [] => []
  | [f] => [ext f k]
  | f :: g :: l => f :: exts k (g :: l)
def tp (k : List Item) (fr : Frame) : List Frame → Frame
  | [] => ext fr k
  | _ :: _ => fr
theorem ext_inj {f f' : Frame} {k : List Item} (h : ext f k = ext f' k) : f = f' := by
  obtain ⟨a1, a2, a3, a4, a5, a6, a7⟩ := f
  obtain ⟨b1, b2, b3, b4, b5, b6, b7⟩ := f'
  simp only [ext, Frame.mk.injEq, List.append_cancel_right_eq] at h
  obtain ⟨rfl, rfl, rfl, rfl, rfl, rfl, rfl⟩ := h
  rfl
theorem exts_len (k : List Item) : ∀ l, (exts k l).length = l.length
  | [] => rfl
  | [f] => rfl
  | f :: g :: l => by show (exts k (g :: l)).length + 1 = _; rw [exts_len k (g :: l)]; rfl
theorem exts_inj {k : List Item} : ∀ {l l' : List Frame}, exts k l = exts k l' → l = l'
  | [], [], _ => rfl
  | [], [_], h => by cases h
  | [], _ :: _ :: _, h => by cases h
  | [_], [], h => by cases h
  | [f], [f'], h => by
    have : ext f k = ext f' k := by simpa [exts] using h
    rw [ext_inj this]
  | [_], _ :: _ :: _, h => by have := congrArg List.length h; simp [exts_len] at this
  | _ :: _ :: _, [], h => by cases h
  | _ :: _ :: _, [_], h => by have := congrArg List.length h; simp [exts_len] at this
  | f :: g :: l, f' :: g' :: l', h => by
    have h' : f :: exts k (g :: l) = f' :: exts k (g' :: l') := h
    injection h' with h1 h2
    rw [h1, exts_inj h2]
theorem tp_inj {k : List Item} {f f' : Frame} {l : List Frame} (h : tp k f l = tp k f' l) : f = f' := by
  cases l with
  | nil => exact ext_inj h
  | cons _ _ => exact h
theorem exts_below {k : List Item} : ∀ {l : List Frame}, (∀ c ∈ l, WaitOK P A c) → ∀ c ∈ exts k l, Below1 A c
  | [], _, c, hc => by cases hc
  | [f], h, c, hc => by
    have : c = ext f k := by simpa [exts] using hc
    subst this
    have := h f List.mem_cons_self
    exact ⟨this.mode, this.ok.defers, this.ok.f⟩
  | f :: g :: l, h, c, hc => by
    rcases List.mem_cons.1 (show c ∈ f :: exts k (g :: l) from hc) with rfl | hc
    · have := h c List.mem_cons_self
      exact ⟨this.mode, this.ok.defers, this.ok.f⟩
    · exact exts_below (fun y hy => h y (List.mem_cons_of_mem _ hy)) c hc

theorem step_stack (hA : A.good P = true) {fr : Frame} {up : List Frame} (h : FrOK P A fr) (hup : ∀ c ∈ up, WaitOK P A c) {kl kc : List Item} (hkl : ∀ id, exitTo id kl = none)
    (hm : (fr.mode = .run ∧ (up = [] → fr.todo = [] → kl = [] ∧ kc = [])) ∨ (fr.mode = .returning ∧ up ≠ []))
    {v w : World} (hv : ViewOf S H v w) (ha : Agree v w (drawsOf P fr w)) (tl tc : List Frame) :
    Bad (tp kl fr up) (exts kl up ++ tl) (stepG P mn (G (tp kl fr up) (exts kl up ++ tl)) v) ∨
    ∃ fr' up' v' w' es, stepG P mn (G (tp kl fr up) (exts kl up ++ tl)) v = .go (G (tp kl fr' up') (exts kl up' ++ tl)) v' es ∧ stepG P mn (G (tp kc fr up) (exts kc up ++ tc)) w = .go (G (tp kc fr' up') (exts kc up' ++ tc)) w' es ∧
      FrOK P A fr' ∧ (∀ c ∈ up', WaitOK P A c) ∧ (fr'.mode = .run ∨ fr'.mode = .returning) ∧ ViewOf S H v' w' ∧ Onto S H (drawsOf P fr w) v v' ∧ Onto S H (drawsOf P fr w) w w' ∧ ∀ e ∈ es, tameE S w'.heap.size e := by
  rcases hm with ⟨hm, hnil⟩ | ⟨hm, hne⟩
  · cases up with
    | nil =>
      rcases step_plain hA h hm hv ha hkl (hnil rfl) tl tc with hb | ⟨fr', v', w', es, hstep, g1, g2, g3, g4, g5, g6⟩
      · exact .inl hb
      · rcases hstep with ⟨h1, h2⟩ | ⟨h1, h2, h3⟩
        · exact .inr ⟨fr', [], v', w', es, h1, h2, g1, fun c hc => (by cases hc), g2, g3, g4, g5, g6⟩
        · exact .inr ⟨fr', [fr], v', w', es, h1, h2, g1, fun c hc => (by rcases List.mem_cons.1 hc with rfl | hc; exact h3; cases hc), g2, g3, g4, g5, g6⟩
    | cons u us =>
      have := step_plain (mn := mn) hA h hm hv ha (kl := []) (kc := []) (fun id => rfl) (fun _ => ⟨rfl, rfl⟩) (exts kl (u :: us) ++ tl) (exts kc (u :: us) ++ tc)
      rw [ext_nil] at this
      rcases this with hb | ⟨fr', v', w', es, hstep, g1, g2, g3, g4, g5, g6⟩
      · exact .inl hb
      · rw [ext_nil, ext_nil] at hstep
        rcases hstep with ⟨h1, h2⟩ | ⟨h1, h2, h3⟩
        · exact .inr ⟨fr', u :: us, v', w', es, h1, h2, g1, hup, g2, g3, g4, g5, g6⟩
        · refine .inr ⟨fr', fr :: u :: us, v', w', es, h1, h2, g1, fun c hc => ?_, g2, g3, g4, g5, g6⟩
          rcases List.mem_cons.1 hc with rfl | hc
          · exact h3
          · exact hup c hc
  · cases up with
    | nil => exact absurd rfl hne
    | cons u us =>
      have hd : drawsOf P fr w = 0 := by unfold drawsOf; rw [hm]
      rw [hd]
      rcases step_return (mn := mn) hA h hm hv with hbad | ⟨x, es, hxv, hxw, htame⟩
      · exact .inl (.inl (hbad _))
      have huw := hup u List.mem_cons_self
      cases us with
      | nil =>
        obtain ⟨ops, i, rest, kk, o, ht, ho, hdst⟩ := huw.at_
        obtain ⟨u', e1, e2, e3, _⟩ := wait_finish huw x kl
        obtain ⟨u2, e1', _⟩ := wait_finish huw x kc
        have hu : u2 = u' := by
          have htx : ∀ k, (ext u k).finish x = ext { u with tmps := (match (ops[i]?).bind (·.dst) with | some d => u.tmps.setIfInBounds d x | none => u.tmps), todo := .inRegion ops rest :: kk } k := fun k => by
            rw [finish_region (show (ext u k).todo = .inRegion ops (i :: rest) :: (kk ++ k) by show u.todo ++ k = _; rw [ht]; rfl)]; rfl
          rw [htx] at e1 e1'
          rw [← ext_inj e1, ← ext_inj e1']
        subst hu
        refine .inr ⟨u2, [], v, w, es, ?_, ?_, e2, fun c hc => (by cases hc), .inl e3, hv, .refl S H v, .refl S H w, htame⟩
        · show stepG P mn (G fr (ext u kl :: tl)) v = _
          rw [hxv, e1]; rfl
        · show stepG P mn (G fr (ext u kc :: tc)) w = _
          rw [hxw, e1']; rfl
      | cons u1 us =>
        obtain ⟨u', e1, e2, e3, _⟩ := wait_finish huw x []
        rw [ext_nil, ext_nil] at e1
        refine .inr ⟨u', u1 :: us, v, w, es, ?_, ?_, e2, fun c hc => hup c (List.mem_cons_of_mem _ hc), .inl e3, hv, .refl S H v, .refl S H w, htame⟩
        · show stepG P mn (G fr (u :: (exts kl (u1 :: us) ++ tl))) v = _
          rw [hxv, e1]; rfl
        · show stepG P mn (G fr (u :: (exts kc (u1 :: us) ++ tc))) w = _
          rw [hxw, e1]; rfl

structure SameHeap (v w : World) : Prop where
  heap : v.heap = w.heap
  os : v.os = w.os
  output : v.output = w.output

inductive Reach (P : Program) (S H : Nat → Prop) (Tgt : Goroutine → World → Prop) : Goroutine → World → Prop
  | stop {g : Goroutine} {w : World} : Tgt g w → Reach P S H Tgt g w
  | step {g : Goroutine} {w : World} (g' : Nat → Goroutine) (w' : Nat → World) (es : Nat → Array Event) : g.status = .running → (∀ d, stepG P true g (w.at d) = .go (g' d) (w' d) (es d)) → (∀ d, ∀ e ∈ es d, tameE S (w' d).heap.size e) →
      (∀ d, (w' d).tape = w.tape) → (∀ d, w.heap.size ≤ (w' d).heap.size) → (∀ d b, S b ∨ H b → (w' d).heap[b]? = w.heap[b]?) → (∀ d, Reach P S H Tgt (g' d) (w' d)) → Reach P S H Tgt g w

/-! ### the sequence that would never come there -/
structure Sit where
  fr : Frame
  up : List Frame
  w : World

section
variable (P S H) (kc : List Item) (cs : List Frame) (Tgt : Goroutine → World → Prop)
def Steps1 (s : Sit) (d : Nat) (s' : Sit) : Prop :=
  ∃ es, stepG P true (G (tp kc s.fr s.up) (exts kc s.up ++ cs)) (s.w.at d) = .go (G (tp kc s'.fr s'.up) (exts kc s'.up ++ cs)) s'.w es ∧ (∀ e ∈ es, tameE S s'.w.heap.size e) ∧ s'.w.tape = s.w.tape ∧ s.w.heap.size ≤ s'.w.heap.size ∧ ∀ b, S b ∨ H b → s'.w.heap[b]? = s.w.heap[b]?
def NotIn (s : Sit) : Prop := ¬ Reach P S H Tgt (G (tp kc s.fr s.up) (exts kc s.up ++ cs)) s.w

theorem bad_draw {s : Sit} (h : NotIn P S H kc cs Tgt s) : ∃ d, ∀ s', Steps1 P S H kc cs s d s' → NotIn P S H kc cs Tgt s' := by
  refine Classical.byContradiction fun hc => h ?_
  have hc' : ∀ d, ∃ s', Steps1 P S H kc cs s d s' ∧ Reach P S H Tgt (G (tp kc s'.fr s'.up) (exts kc s'.up ++ cs)) s'.w := fun d => Classical.byContradiction fun hn => hc ⟨d, fun s' h1 h2 => hn ⟨s', h1, h2⟩⟩
  have hf : ∀ d, ∃ p : Sit × Array Event, stepG P true (G (tp kc s.fr s.up) (exts kc s.up ++ cs)) (s.w.at d) = .go (G (tp kc p.1.fr p.1.up) (exts kc p.1.up ++ cs)) p.1.w p.2 ∧ (∀ e ∈ p.2, tameE S p.1.w.heap.size e) ∧ p.1.w.tape = s.w.tape ∧ s.w.heap.size ≤ p.1.w.heap.size ∧ (∀ b, S b ∨ H b → p.1.w.heap[b]? = s.w.heap[b]?) ∧ Reach P S H Tgt (G (tp kc p.1.fr p.1.up) (exts kc p.1.up ++ cs)) p.1.w := fun d => by
    obtain ⟨s', ⟨es, h1, h2, h3, h4, h5⟩, h6⟩ := hc' d
    exact ⟨(s', es), h1, h2, h3, h4, h5, h6⟩
  have hch := Classical.axiomOfChoice hf
  obtain ⟨p, hp⟩ := hch
  exact .step (fun d => G (tp kc (p d).1.fr (p d).1.up) (exts kc (p d).1.up ++ cs)) (fun d => (p d).1.w) (fun d => (p d).2) rfl (fun d => (hp d).1) (fun d => (hp d).2.1) (fun d => (hp d).2.2.1) (fun d => (hp d).2.2.2.1) (fun d => (hp d).2.2.2.2.1) (fun d => (hp d).2.2.2.2.2)

open Classical in
noncomputable def drawAt (s : Sit) : Nat := if h : NotIn P S H kc cs Tgt s then (bad_draw P S H kc cs Tgt h).choose else 0
open Classical in
noncomputable def nextSit (s : Sit) : Sit := if h : ∃ s', Steps1 P S H kc cs s (drawAt P S H kc cs Tgt s) s' then h.choose else s
noncomputable def sitAt (s : Sit) : Nat → Sit
  | 0 => s
  | k + 1 => nextSit P S H kc cs Tgt (sitAt s k)
noncomputable def askedTo (s : Sit) : Nat → Nat
  | 0 => 0
  | k + 1 => askedTo s k + drawsOf P (sitAt P S H kc cs Tgt s k).fr ((sitAt P S H kc cs Tgt s k).w.at (drawAt P S H kc cs Tgt (sitAt P S H kc cs Tgt s k)))
open Classical in
noncomputable def tapeOf (s : Sit) : Nat → Question → Nat := fun j q =>
  if h : ∃ k, askedTo P S H kc cs Tgt s k ≤ j ∧ j < askedTo P S H kc cs Tgt s (k + 1) then
    s.w.tape (drawAt P S H kc cs Tgt (sitAt P S H kc cs Tgt s h.choose) + (j - askedTo P S H kc cs Tgt s h.choose)) q
  else 0

theorem askedTo_mono (s : Sit) {i j : Nat} (h : i ≤ j) : askedTo P S H kc cs Tgt s i ≤ askedTo P S H kc cs Tgt s j := by
  induction h with
  | refl => exact Nat.le_refl _
  | step _ ih => exact Nat.le_trans ih (Nat.le_add_right _ _)

theorem tapeOf_at (s : Sit) (k i : Nat) (hi : i < drawsOf P (sitAt P S H kc cs Tgt s k).fr ((sitAt P S H kc cs Tgt s k).w.at (drawAt P S H kc cs Tgt (sitAt P S H kc cs Tgt s k)))) (q : Question) :
    tapeOf P S H kc cs Tgt s (askedTo P S H kc cs Tgt s k + i) q = s.w.tape (drawAt P S H kc cs Tgt (sitAt P S H kc cs Tgt s k) + i) q := by
  have h : ∃ k', askedTo P S H kc cs Tgt s k' ≤ askedTo P S H kc cs Tgt s k + i ∧ askedTo P S H kc cs Tgt s k + i < askedTo P S H kc cs Tgt s (k' + 1) := ⟨k, by omega, by show _ < askedTo P S H kc cs Tgt s k + _; omega⟩
  have hk : h.choose = k := by
    obtain ⟨h1, h2⟩ := h.choose_spec
    rcases Nat.lt_trichotomy h.choose k with hlt | he | hgt
    · have := askedTo_mono P S H kc cs Tgt s (show h.choose + 1 ≤ k by omega)
      omega
    · exact he
    · have := askedTo_mono P S H kc cs Tgt s (show k + 1 ≤ h.choose by omega)
      have e : askedTo P S H kc cs Tgt s (k + 1) = askedTo P S H kc cs Tgt s k + drawsOf P (sitAt P S H kc cs Tgt s k).fr ((sitAt P S H kc cs Tgt s k).w.at (drawAt P S H kc cs Tgt (sitAt P S H kc cs Tgt s k))) := rfl
      omega
  unfold tapeOf
  rw [dif_pos h, hk, Nat.add_sub_cancel_left]
end

theorem G_inj {fr fr' : Frame} {cs cs' : List Frame} (h : G fr cs = G fr' cs') : fr = fr' ∧ cs = cs' := by
  unfold Conc.G at h
  injection h with h1 h2
  exact ⟨h1, h2⟩
theorem view_at {v w : World} (hv : ViewOf S H v w) (d : Nat) : ViewOf S H v (w.at d) := ⟨hv.os, hv.output, hv.size, hv.same, hv.dead, hv.hid, hv.plain, hv.views⟩

theorem runN_succ {m m1 : Machine} {k : Nat} (h : runN P k m = .next m1) : runN P (k + 1) m = step P m1 := by
  have := runN_add P k 1 m
  rw [h] at this
  rw [this]
  simp only [runN]
  cases step P m1 <;> rfl

def Tail (kl kc : List Item) : Prop := (kl = [] ∧ kc = []) ∨ kl = [.code (.refuse "")]

theorem lift_run (hA : A.good P = true) {fr0 : Frame} (hfr0 : FrOK P A fr0) (hm0 : fr0.mode = .run) {kl kc : List Item} (hk : Tail kl kc) {v0 w0 : World} (hv0 : ViewOf S H v0 w0) {Q : World → Frame → World → Prop}
    (hrun : ∀ v, SameHeap v v0 → ∃ N fr v', runN P N (lone (ext fr0 kl) [c0] v) = .next (lone fr [c0] v') ∧ (∀ ch, fr.mode ≠ .panicking ch) ∧ Q v fr v') (cs : List Frame) {Tgt : Goroutine → World → Prop}
    (hT : ∀ v f v' w', SameHeap v v0 → Q v (ext f kl) v' → FrOK P A f → ViewOf S H v' w' → w'.tape = w0.tape → w0.heap.size ≤ w'.heap.size → (∀ b, S b ∨ H b → w'.heap[b]? = w0.heap[b]?) → Tgt (G (ext f kc) cs) w') :
    Reach P S H Tgt (G (ext fr0 kc) cs) w0 := by
  refine Classical.byContradiction fun hnot => ?_
  have hkl : ∀ id, exitTo id kl = none := fun id => by rcases hk with ⟨h, _⟩ | h <;> rw [h] <;> rfl
  let s0 : Sit := ⟨fr0, [], w0⟩
  have hs0 : NotIn P S H kc cs Tgt s0 := hnot
  let T := tapeOf P S H kc cs Tgt s0
  let v : World := { v0 with tape := T, drawn := 0 }
  have hsv : SameHeap v v0 := ⟨rfl, rfl, rfl⟩
  obtain ⟨N, fr, v', hN, hmfr, hq⟩ := hrun v hsv
  -- the invariant
  have key : ∀ k, k ≤ N → ∃ vk, runN P k (lone (ext fr0 kl) [c0] v) = .next (lone (tp kl (sitAt P S H kc cs Tgt s0 k).fr (sitAt P S H kc cs Tgt s0 k).up) (exts kl (sitAt P S H kc cs Tgt s0 k).up ++ [c0]) vk) ∧
      ViewOf S H vk (sitAt P S H kc cs Tgt s0 k).w ∧ vk.tape = T ∧ vk.drawn = askedTo P S H kc cs Tgt s0 k ∧ FrOK P A (sitAt P S H kc cs Tgt s0 k).fr ∧ (∀ c ∈ (sitAt P S H kc cs Tgt s0 k).up, WaitOK P A c) ∧
      ((sitAt P S H kc cs Tgt s0 k).fr.mode = .run ∨ (sitAt P S H kc cs Tgt s0 k).fr.mode = .returning) ∧ NotIn P S H kc cs Tgt (sitAt P S H kc cs Tgt s0 k) ∧ (sitAt P S H kc cs Tgt s0 k).w.tape = w0.tape ∧ w0.heap.size ≤ (sitAt P S H kc cs Tgt s0 k).w.heap.size ∧
      ∀ b, S b ∨ H b → (sitAt P S H kc cs Tgt s0 k).w.heap[b]? = w0.heap[b]? := by
    intro k
    induction k with
    | zero =>
      intro _
      exact ⟨v, rfl, ⟨hv0.os, hv0.output, hv0.size, hv0.same, hv0.dead, hv0.hid, hv0.plain, hv0.views⟩, rfl, rfl, hfr0, fun c hc => (by cases hc), .inl hm0, hs0, rfl, Nat.le_refl _, fun _ _ => rfl⟩
    | succ k ih =>
      intro hk1
      obtain ⟨vk, r1, r2, r3, r4, r5, r6, r7, r8, r9, r10, r11⟩ := ih (by omega)
      generalize hsk : sitAt P S H kc cs Tgt s0 k = s at *
      have hnext : sitAt P S H kc cs Tgt s0 (k + 1) = nextSit P S H kc cs Tgt s := by rw [← hsk]; rfl
      have hask : askedTo P S H kc cs Tgt s0 (k + 1) = askedTo P S H kc cs Tgt s0 k + drawsOf P s.fr (s.w.at (drawAt P S H kc cs Tgt s)) := by rw [← hsk]; rfl
      have hstepk := runN_succ r1
      have hgo : ∃ m, step P (lone (tp kl s.fr s.up) (exts kl s.up ++ [c0]) vk) = .next m ∧ runN P (N - (k + 1)) m = .next (lone fr [c0] v') := by
        have e : N = k + 1 + (N - (k + 1)) := by omega
        rw [e, runN_add, hstepk] at hN
        cases hst : step P (lone (tp kl s.fr s.up) (exts kl s.up ++ [c0]) vk) with
        | next m => rw [hst] at hN; exact ⟨m, rfl, hN⟩
        | ended o u => rw [hst] at hN; cases hN
      obtain ⟨m, hm1, hm2⟩ := hgo
      by_cases hstop : s.fr.mode = .returning ∧ s.up = []
      · exfalso
        obtain ⟨h1, h2⟩ := hstop
        have hx5 : FrOK P A s.fr := r5
        have hst : (∃ o u, step P (lone (tp kl s.fr s.up) (exts kl s.up ++ [c0]) vk) = .ended o u) ∨ ∃ y, step P (lone (tp kl s.fr s.up) (exts kl s.up ++ [c0]) vk) = .next (lone (c0.finish y) [] vk) := by
          rw [h2]
          obtain ⟨fn2, hf2, ⟨o, v2, he⟩ | ⟨y, e1, e2, e3, e4⟩⟩ := res_plain hA r5 r2
          · obtain ⟨o, u, es, hb⟩ := stepG_ret_bad (mn := true) (fr := ext s.fr kl) h1 r5.defers hf2 he [c0]
            exact .inl ⟨o, u, step_lone_ended (by show (stepG P true (G (ext s.fr kl) [c0]) vk).bare = _; rw [hb]; rfl)⟩
          · have hb := stepG_ret (mn := true) (fr := ext s.fr kl) h1 r5.kind r5.defers hf2 e1 c0 []
            exact .inr ⟨y, step_lone_go (by show (stepG P true (G (ext s.fr kl) [c0]) vk).bare = _; rw [hb]; rfl)⟩
        rcases hst with ⟨o, u, hst⟩ | ⟨y, hst⟩
        · rw [hst] at hm1; cases hm1
        rw [hst] at hm1
        cases hm1
        cases hM : N - (k + 1) with
        | zero => rw [hM] at hm2; simp [runN, lone] at hm2
        | succ M =>
          rw [hM] at hm2
          obtain ⟨o, u', he⟩ := step_c0 (P := P) y vk
          exact runN_ended he M _ hm2
      · by_cases hend : s.fr.mode = .run ∧ s.up = [] ∧ s.fr.todo = [] ∧ kl ≠ []
        · exfalso
          obtain ⟨h1, h2, h3, h4⟩ := hend
          have hkl' : kl = [.code (.refuse "")] := hk.resolve_left fun x => h4 x.1
          have : ∃ o u, step P (lone (tp kl s.fr s.up) (exts kl s.up ++ [c0]) vk) = .ended o u := by
            rw [h2, hkl']
            generalize s.fr = fr1 at *
            obtain ⟨fn', tmps, todo, defers, mode, kind, rnd⟩ := fr1
            dsimp only at h1 h3
            subst h1 h3
            exact ⟨_, vk, step_lone_ended rfl⟩
          obtain ⟨o, u, he⟩ := this
          rw [he] at hm1; cases hm1
        · have hmode : (s.fr.mode = .run ∧ (s.up = [] → s.fr.todo = [] → kl = [] ∧ kc = [])) ∨ (s.fr.mode = .returning ∧ s.up ≠ []) := by
            rcases r7 with h | h
            · refine .inl ⟨h, fun h2 h3 => ?_⟩
              rcases hk with hk | hk
              · exact hk
              · exact absurd ⟨h, h2, h3, by rw [hk]; simp⟩ hend
            · exact .inr ⟨h, fun h2 => hstop ⟨h, h2⟩⟩
          have hagree : Agree vk (s.w.at (drawAt P S H kc cs Tgt s)) (drawsOf P s.fr (s.w.at (drawAt P S H kc cs Tgt s))) := by
            intro i hi q
            rw [r3, r4]
            have := tapeOf_at P S H kc cs Tgt s0 k i (by rw [hsk]; exact hi) q
            rw [hsk] at this
            show T (askedTo P S H kc cs Tgt s0 k + i) q = s.w.tape (drawAt P S H kc cs Tgt s + i) q
            rw [r9]
            exact this
          rcases step_stack hA r5 r6 hkl hmode (view_at r2 (drawAt P S H kc cs Tgt s)) hagree [c0] cs with hbad | ⟨fr', up', v1, w1, es, g1, g2, g3, g4, g5, g6, g7, g8, g9⟩
          · exfalso
            have hbel : ∀ c ∈ exts kl s.up, Below1 A c := exts_below r6
            have htop : (tp kl s.fr s.up).defers = [] ∧ A.inB (tp kl s.fr s.up).fn = true := by
              cases s.up with
              | nil => exact ⟨r5.defers, r5.f⟩
              | cons _ _ => exact ⟨r5.defers, r5.f⟩
            rcases hbad with ⟨o, u, es, hb⟩ | ⟨chain, u, es, hb⟩
            · have := step_lone_ended (P := P) (fr := tp kl s.fr s.up) (cs := exts kl s.up ++ [c0]) (w := vk) (w' := u) (o := o) (by show (stepG P true (G (tp kl s.fr s.up) (exts kl s.up ++ [c0])) vk).bare = _; rw [hb]; rfl)
              rw [this] at hm1; cases hm1
            · have := step_lone_go (P := P) (fr := tp kl s.fr s.up) (fr' := { tp kl s.fr s.up with mode := .panicking chain }) (cs := exts kl s.up ++ [c0]) (cs' := exts kl s.up ++ [c0]) (w := vk) (w' := u) (by show (stepG P true (G (tp kl s.fr s.up) (exts kl s.up ++ [c0])) vk).bare = _; rw [hb]; rfl)
              rw [this] at hm1; cases hm1
              exact doomed hA (exts kl s.up) hbel { tp kl s.fr s.up with mode := .panicking chain } chain u rfl htop.1 htop.2 _ fr v' hmfr hm2
          · have hs1 : Steps1 P S H kc cs s (drawAt P S H kc cs Tgt s) ⟨fr', up', w1⟩ := ⟨es, g2, g9, g8.tape, g8.size, g8.kept⟩
            have hex : ∃ s', Steps1 P S H kc cs s (drawAt P S H kc cs Tgt s) s' := ⟨_, hs1⟩
            have hne : nextSit P S H kc cs Tgt s = ⟨fr', up', w1⟩ := by
              unfold nextSit
              rw [dif_pos hex]
              obtain ⟨es2, h2, _⟩ := hex.choose_spec
              rw [g2] at h2
              injection h2 with h3 h4 h5
              obtain ⟨h6, h7⟩ := G_inj h3
              have h8 := exts_inj (List.append_cancel_right h7)
              generalize hex.choose = c at *
              obtain ⟨a, b, c⟩ := c
              dsimp only at h4 h6 h8
              subst h4 h8
              rw [tp_inj h6]
            rw [hnext, hne, hask]
            refine ⟨v1, ?_, g6, g7.tape.trans r3, by rw [g7.drawn, r4], g3, g4, g5, ?_, g8.tape.trans r9, Nat.le_trans r10 g8.size, fun b hb => (g8.kept b hb).trans (r11 b hb)⟩
            · rw [hstepk]
              exact step_lone_go (by show (stepG P true (G (tp kl s.fr s.up) (exts kl s.up ++ [c0])) vk).bare = _; rw [g1]; rfl)
            · have hd := (bad_draw P S H kc cs Tgt r8).choose_spec
              have hda : drawAt P S H kc cs Tgt s = (bad_draw P S H kc cs Tgt r8).choose := by unfold drawAt; rw [dif_pos r8]
              rw [hda] at hs1
              exact hd _ hs1
  obtain ⟨vN, r1, r2, r3, r4, r5, r6, r7, r8, r9, r10, r11⟩ := key N (Nat.le_refl _)
  rw [hN] at r1
  have heq : lone fr [c0] v' = lone (tp kl (sitAt P S H kc cs Tgt s0 N).fr (sitAt P S H kc cs Tgt s0 N).up) (exts kl (sitAt P S H kc cs Tgt s0 N).up ++ [c0]) vN := by injection r1
  have h1 : fr = tp kl (sitAt P S H kc cs Tgt s0 N).fr (sitAt P S H kc cs Tgt s0 N).up ∧ [c0] = exts kl (sitAt P S H kc cs Tgt s0 N).up ++ [c0] ∧ v' = vN := by
    unfold lone at heq
    injection heq with a b c
    have hb := congrArg (fun gs : Array Goroutine => gs.toList) b
    dsimp only at hb
    injection hb with hb1 hb2
    injection hb1 with e1 e2
    exact ⟨e1, e2, a⟩
  obtain ⟨h2, h3, h4⟩ := h1
  have hup : (sitAt P S H kc cs Tgt s0 N).up = [] := by
    cases hu : (sitAt P S H kc cs Tgt s0 N).up with
    | nil => rfl
    | cons a l => rw [hu] at h3; have := congrArg List.length h3; simp [exts_len] at this
  rw [hup] at h2
  refine r8 ?_
  rw [hup]
  refine .stop ?_
  subst h4
  rw [h2] at hq
  exact hT v _ v' _ hsv hq r5 r2 r9 r10 r11

theorem lift_calls (hA : A.good P = true) {f : FuncId} (hf : A.inF f = true) (hn : A.noTr f = true) {args : Array Value} {v0 w0 : World} (hv0 : ViewOf S H v0 w0) {R : World → Ending → World → Prop}
    (hR : ∀ v e v', R v e v' → ∃ x, e = .returned x) (hcall : ∀ v, SameHeap v v0 → Calls P f args v (R v)) (cs : List Frame) {Tgt : Goroutine → World → Prop}
    (hT : ∀ v v' fr x w', SameHeap v v0 → R v (.returned x) v' → ViewOf S H v' w' → fr.leaving P v' (.returned x) → fr.fn = f → FrOK P A fr → w'.tape = w0.tape → w0.heap.size ≤ w'.heap.size → (∀ b, S b ∨ H b → w'.heap[b]? = w0.heap[b]?) → Tgt (G fr cs) w') :
    Reach P S H Tgt (G (Frame.enter P f args .normal) cs) w0 := by
  obtain ⟨fn, body, hfn1, hbody, hcode, _, hres, hini⟩ := fn_of_good hA hf
  have hok : FrOK P A (Frame.enter P f args .normal) := ⟨Ana.inB_of hf, rfl, rfl, rfl, fun t h2 => absurd (A.noTr_spec hn t) h2, fun it hi => by
    have : it = .code body := by
      simp only [Frame.enter, hfn1, Option.bind_some, hbody, Option.getD_some, List.mem_singleton] at hi
      exact hi
    subst this
    exact hcode⟩
  have := lift_run (Tgt := Tgt) (Q := fun v fr v' => ∃ x, R v (.returned x) v' ∧ fr.fn = f ∧ fr.leaving P v' (.returned x)) hA hok rfl (.inl ⟨rfl, rfl⟩) hv0 (fun v hsv => by
    obtain ⟨e, v', fr, hr, hcomes, hfn, hleave⟩ := hcall v hsv [c0]
    obtain ⟨x, rfl⟩ := hR v e v' hr
    obtain ⟨N, hN⟩ : Steps P (lone (Frame.enter P f args .normal) [c0] v) (lone fr [c0] v') := hcomes
    rw [ext_nil]
    exact ⟨N, fr, v', hN, fun ch hc => (by rw [hleave.1] at hc; cases hc), x, hr, hfn, hleave⟩) cs (fun v f' v' w' h1 ⟨x, h2, h3, h4⟩ h5 h6 h7 h8 h9 => by
      rw [ext_nil] at *
      exact hT v v' f' x w' h1 h2 h6 h4 h3 h5 h7 h8 h9)
  rw [ext_nil] at this
  exact this
end
end Go.Proofs.Ytlcgbnmmbheleaa

namespace Go.Proofs.Ytlcgbnmmbheleaa
open Go Go.Conc
open Go.ConcN (CT OkW Ok0 Apart sumTo upd sumTo_upd upd_ne upd_same)
set_option linter.unusedVariables false
set_option linter.unusedSimpArgs false

def ShS (S : Nat → Prop) : Loc → Prop := fun l => ∃ a, l = .cell a ∧ S a.block
abbrev No2 : Nat → Loc → Prop := fun _ _ => False
theorem apart_no (S : Nat → Prop) : Apart (ShS S) No2 No2 := ⟨fun _ _ _ h _ => h.elim, fun _ _ _ h _ => h, fun _ _ h _ => h, fun _ _ h _ => h⟩

structure PastK (S : Nat → Prop) (gs N : Nat) (t : Trace) : Prop where
  ct : CT (ShS S) No2 No2 t (gs - 1)
  over : t.HandedOver
  hears : Deaf t 0 = 0
  low : ∀ op ∈ t, ∀ x, op.act.touch? = some x → x.loc.low N

section
variable {P : Program} {A : Ana} {S H : Nat → Prop} {gs N N' : Nat} {t : Trace}

theorem PastK.mono (h : PastK S gs N t) (hN : N ≤ N') : PastK S gs N' t := ⟨h.ct, h.over, h.hears, fun op hop x hx => Loc.low_mono hN (h.low op hop x hx)⟩

theorem tame_touch {e : Event} (h : tameE S N e) {x : Touch} (hx : (MemAct.ofEvent e).touch? = some x) : ¬ ShS S x.loc := by
  obtain ⟨loc, wr, sy⟩ := e
  cases loc with
  | cell a =>
    have hx' : some (⟨.cell a, wr, if sy then .atomic else .plain⟩ : Touch) = some x := hx
    cases hx'
    exact fun ⟨b, e, hb⟩ => by cases e; exact h.1 hb
  | obj r =>
    cases wr <;> cases sy <;> cases hx <;> exact fun ⟨b, e, hb⟩ => (by cases e)
  | mark m => cases m <;> first | exact h.elim | (cases hx)
  | _ => exact h.elim
theorem tame_low {e : Event} (h : tameE S N e) {x : Touch} (hx : (MemAct.ofEvent e).touch? = some x) : x.loc.low N := by
  obtain ⟨loc, wr, sy⟩ := e
  cases loc with
  | cell a =>
    have hx' : some (⟨.cell a, wr, if sy then .atomic else .plain⟩ : Touch) = some x := hx
    cases hx'
    exact h.2
  | obj r => cases wr <;> cases sy <;> cases hx <;> exact h.2
  | mark m => cases m <;> first | exact h.elim | (cases hx)
  | _ => exact h.elim
theorem tame_said {e : Event} (h : tameE S N e) : e.loc ≠ .mark .disable ∧ e.loc ≠ .mark .enable := by
  obtain ⟨loc, wr, sy⟩ := e
  cases loc with
  | mark m => cases m <;> first | exact h.elim | exact ⟨by simp, by simp⟩
  | _ => exact ⟨by simp, by simp⟩

theorem PastK.own (h : PastK S gs N t) {fn : FuncId} {pos : String} {es : Array Event} (hN : N ≤ N') (hes : ∀ e ∈ es, tameE S N' e) : PastK S gs N' (t ++ MemOp.ofEvents 0 fn pos es) := by
  have hu : ∀ op ∈ MemOp.ofEvents 0 fn pos es, ∃ e ∈ es, op = { g := 0, fn, pos, act := .ofEvent e } := fun op hop => Go.Conc.mem_ofEvents hop
  refine ⟨h.ct.app0 (apart_no S) fun op hop => ?_, handedOver_app h.over fun op hop => .inl (by obtain ⟨e, _, rfl⟩ := hu op hop; rfl), ?_, fun op hop x hx => ?_⟩
  · obtain ⟨e, he, rfl⟩ := hu op hop
    exact ⟨rfl, fun x hx => .inr ⟨tame_touch (hes e he) hx, fun _ _ _ h => h, fun _ _ _ _ h => h⟩⟩
  · rw [Deaf_own, deafBehind_still (fun e he => tame_said (hes e he))]
    exact h.hears
  · rcases Array.mem_append.1 hop with hop | hop
    · exact Loc.low_mono hN (h.low op hop x hx)
    · obtain ⟨e, he, rfl⟩ := hu op hop
      exact tame_low (hes e he) hx

theorem PastK.mute (h : PastK S gs N t) {g : Nat} (hg : 1 ≤ g) (hgs : g ≤ gs - 1) {fn : FuncId} {pos : String} {es : Array Event} (hes : ∀ e ∈ es, e.mute = true) : PastK S gs N (t ++ MemOp.ofEvents g fn pos es) := by
  have hu : ∀ op ∈ MemOp.ofEvents g fn pos es, ∃ e ∈ es, op = { g, fn, pos, act := .ofEvent e } := fun op hop => Go.Conc.mem_ofEvents hop
  have hn : ∀ op ∈ MemOp.ofEvents g fn pos es, op.act.touch? = none := fun op hop => by obtain ⟨e, he, rfl⟩ := hu op hop; exact touch_mute (hes e he)
  refine ⟨h.ct.appW (apart_no S) hg hgs fun op hop => ?_, handedOver_app h.over fun op hop => .inr (hn op hop), ?_, fun op hop x hx => ?_⟩
  · refine ⟨by obtain ⟨e, he, rfl⟩ := hu op hop; rfl, fun x hx => ?_⟩
    rw [hn op hop] at hx; cases hx
  · rw [Deaf_other t (show g ≠ 0 by omega) _ (fun op hop => by obtain ⟨e, _, rfl⟩ := hu op hop; rfl)]
    exact h.hears
  · rcases Array.mem_append.1 hop with hop | hop
    · exact h.low op hop x hx
    · rw [hn op hop] at hx; cases hx

theorem turn0 {a : Goroutine} (hrun : a.status = .running) (w : World) : ∀ (M : Nat) (gs : Array Goroutine) (d1 : Nat) (sl : Option (Nat × Nat)) (t : Trace) (q : Nat → Nat), sumTo gs.size q = M → gs[0]? = some a → Leavers P t gs q → PastK S gs.size N t →
    ∃ (k : Nat) (gs1 : Array Goroutine) (d2 : Nat) (sl1 : Option (Nat × Nat)) (t1 : Trace) (q1 : Nat → Nat) (d : Nat) (sl2 : Option (Nat × Nat)), runNT P k (crowd gs (w.at d1) sl) t = (.next (crowd gs1 (w.at d2) sl1), t1) ∧
      stepT P (crowd gs1 (w.at d2) sl1) = runT P (crowd gs1 (w.at d) sl2) 0 ∧ gs1.size = gs.size ∧ gs1[0]? = some a ∧ Leavers P t1 gs1 q1 ∧ PastK S gs1.size N t1 := by
  intro M
  induction M using Nat.strongRecOn with
  | ind M ihM =>
    intro gs d1 sl t q hM h0 hL hP
    have haw : ∀ g ∈ gs, awake g := by
      intro g hg
      obtain ⟨i, hi, rfl⟩ := Array.mem_iff_getElem.1 hg
      rcases Nat.eq_zero_or_pos i with rfl | hpos
      · have : gs[0] = a := by simpa [Array.getElem?_eq_getElem hi] using h0
        rw [this]; exact awake_of (.inl hrun)
      · exact awake_of ((hL.old i _ hpos (Array.getElem?_eq_getElem hi)).status.elim .inl fun x => .inr (.inr x))
    obtain ⟨i, g, d, sl', hi, hg, hpick⟩ := crowd_pick (P := P) (w := w.at d1) (sl := sl) haw ⟨0, a, h0, hrun⟩
    rcases Nat.eq_zero_or_pos i with rfl | hpos
    · exact ⟨0, gs, d1, sl, t, q, d, sl', rfl, hpick, rfl, h0, hL, hP⟩
    · have hq := hL.old i g hpos hi
      have hi0 : (i == 0) = false := by simp; omega
      have hlt : i < gs.size := (Array.getElem?_eq_some_iff.1 hi).1
      cases hqi : q i with
      | zero => rw [hqi] at hq; rw [hq.1] at hg; cases hg
      | succ k =>
        rw [hqi] at hq
        rcases hq with ⟨hf, _⟩ | ⟨_, gq, eq, hm, hstp, hq'⟩
        · rw [hf] at hg; cases hg
        have hsum : sumTo gs.size (upd q i k) + (k + 1) = sumTo gs.size q + k := by
          have := sumTo_upd q k id hlt
          simpa [hqi] using this
        have hrunT := runT_crowd_go (P := P) (sl := sl') (i := i) hi (by rw [hi0]; exact hstp ((w.at d1).at d))
        have hsz : ((gs.map (woken P g gq ((w.at d1).at d))).setIfInBounds i gq).size = gs.size := by simp
        have hdo : ∀ j, j ≠ i → Deaf (t ++ MemOp.ofEvents i g.frame.fn g.frame.place eq) j = Deaf t j := fun j hj => Deaf_other t (g := j) (g' := i) (fun e => hj e.symm) _ (fun op hop => by obtain ⟨e, _, rfl⟩ := Go.Conc.mem_ofEvents hop; rfl)
        obtain ⟨K, gs2, d2, sl2, t2, q2, d3, sl3, r1, r2, r3, r4, r5, r6⟩ := ihM (sumTo gs.size (upd q i k)) (by omega) ((gs.map (woken P g gq ((w.at d1).at d))).setIfInBounds i gq) d sl' (t ++ MemOp.ofEvents i g.frame.fn g.frame.place eq) (upd q i k) (by rw [hsz])
          (by
            have hne : i ≠ 0 := by omega
            rw [Array.getElem?_setIfInBounds_ne hne, Array.getElem?_map, h0]
            simp [woken_run hrun])
          ⟨fun j x hj hx => by
            by_cases hji : i = j
            · subst hji
              rw [Array.getElem?_setIfInBounds_self_of_lt (by simpa using hlt)] at hx
              obtain rfl := Option.some.inj hx
              rw [upd_same, Deaf_own]
              exact hq'
            · rw [Array.getElem?_setIfInBounds_ne hji, Array.getElem?_map] at hx
              obtain ⟨y, hy, rfl⟩ := Option.map_eq_some_iff.1 hx
              have hqj := hL.old j y hj hy
              rw [woken_quitsD hqj, upd_ne q k (Ne.symm hji), hdo j (Ne.symm hji)]
              exact hqj, fun j hj => by rw [hdo j (by simp at hj; omega)]; exact hL.above j (by simpa using hj)⟩
          (by rw [hsz]; exact hP.mute hpos (by omega) hm)
        exact ⟨K + 1, gs2, d2, sl2, t2, q2, d3, sl3, by simp only [runNT, hpick, hrunT]; exact r1, r2, r3.trans hsz, r4, r5, r6⟩

theorem step0_beside {a a' : Goroutine} {w w' : World} {es : Array Event} {gs : Array Goroutine} {q : Nat → Nat} {d2 d : Nat} {sl1 sl2 : Option (Nat × Nat)} (hst : stepG P true a (w.at d) = .go a' w' es)
    (hpick : stepT P (crowd gs (w.at d2) sl1) = runT P (crowd gs (w.at d) sl2) 0) (h0 : gs[0]? = some a) (hL : Leavers P t gs q) :
    runNT P 1 (crowd gs (w.at d2) sl1) t = (.next (crowd ((gs.map (woken P a a' w')).setIfInBounds 0 a') w' sl2), t ++ MemOp.ofEvents 0 a.frame.fn a.frame.place es) ∧
    ((gs.map (woken P a a' w')).setIfInBounds 0 a').size = gs.size ∧ ((gs.map (woken P a a' w')).setIfInBounds 0 a')[0]? = some a' ∧ Leavers P (t ++ MemOp.ofEvents 0 a.frame.fn a.frame.place es) ((gs.map (woken P a a' w')).setIfInBounds 0 a') q := by
  have hstep : stepG P (0 == 0) a (w.at d) = .go a' w' es := hst
  have hrunT := runT_crowd_go (P := P) (sl := sl2) (i := 0) h0 hstep
  have hlt : 0 < gs.size := (Array.getElem?_eq_some_iff.1 h0).1
  have hdo : ∀ j, j ≠ 0 → Deaf (t ++ MemOp.ofEvents 0 a.frame.fn a.frame.place es) j = Deaf t j := fun j hj => Deaf_other t (g := j) (g' := 0) (by omega) _ (fun op hop => by obtain ⟨e, _, rfl⟩ := Go.Conc.mem_ofEvents hop; rfl)
  refine ⟨by simp only [runNT, hpick, hrunT], by simp, by simp [hlt], ⟨fun j x hj hx => ?_, fun j hj => by rw [hdo j (by simp at hj; omega)]; exact hL.above j (by simpa using hj)⟩⟩
  have hne : 0 ≠ j := by omega
  rw [Array.getElem?_setIfInBounds_ne hne, Array.getElem?_map] at hx
  obtain ⟨y, hy, rfl⟩ := Option.map_eq_some_iff.1 hx
  have hq := hL.old j y hj hy
  rw [woken_quitsD hq, hdo j (by omega)]
  exact hq

theorem silent_beside {a : Goroutine} {w : World} (g' : Nat → Goroutine) (w' : Nat → World) (hrun : a.status = .running) (hst : ∀ d, stepG P true a (w.at d) = .go (g' d) (w' d) #[]) {gs : Array Goroutine} {sl : Option (Nat × Nat)} {q : Nat → Nat}
    (h0 : gs[0]? = some a) (hL : Leavers P t gs q) (hP : PastK S gs.size N t) :
    ∃ (k : Nat) (gs1 : Array Goroutine) (d : Nat) (sl1 : Option (Nat × Nat)) (t1 : Trace) (q1 : Nat → Nat), runNT P k (crowd gs w sl) t = (.next (crowd gs1 (w' d) sl1), t1) ∧ gs1.size = gs.size ∧ gs1[0]? = some (g' d) ∧ Leavers P t1 gs1 q1 ∧ PastK S gs1.size N t1 := by
  obtain ⟨k, gs1, d2, sl1, t1, q1, d, sl2, r1, r2, r3, r4, r5, r6⟩ := turn0 (P := P) (S := S) (N := N) hrun w _ gs w.drawn sl t q rfl h0 hL hP
  obtain ⟨s1, s2, s3, s4⟩ := step0_beside (hst d) r2 r4 r5
  refine ⟨k + 1, _, d, sl2, _, q1, ?_, s2.trans r3, s3, s4, ?_⟩
  · rw [runNT_add, show runNT P k (crowd gs w sl) t = _ from r1]
    exact s1
  · rw [s2]
    exact r6.own (Nat.le_refl _) (by simp)

theorem reach_beside {Tgt : Goroutine → World → Prop} {a : Goroutine} {w : World} (hR : Reach P S H Tgt a w) :
    ∀ (gs : Array Goroutine) (sl : Option (Nat × Nat)) (t : Trace) (q : Nat → Nat), gs[0]? = some a → Leavers P t gs q → PastK S gs.size w.heap.size t →
      ∃ (N : Nat) (gs' : Array Goroutine) (a' : Goroutine) (w' : World) (sl' : Option (Nat × Nat)) (t' : Trace) (q' : Nat → Nat),
        runNT P N (crowd gs w sl) t = (.next (crowd gs' w' sl'), t') ∧ gs'.size = gs.size ∧ gs'[0]? = some a' ∧ Tgt a' w' ∧ Leavers P t' gs' q' ∧ PastK S gs'.size w'.heap.size t' ∧
        w'.tape = w.tape ∧ w.heap.size ≤ w'.heap.size ∧ ∀ b, S b ∨ H b → w'.heap[b]? = w.heap[b]? := by
  induction hR with
  | @stop a w h =>
    intro gs sl t q h0 hL hP
    exact ⟨0, gs, a, w, sl, t, q, rfl, rfl, h0, h, hL, hP, rfl, Nat.le_refl _, fun _ _ => rfl⟩
  | @step a w g' w' es hrun hst htame htape hsize hkept hnext ih =>
    intro gs sl t q h0 hL hP
    obtain ⟨k, gs1, d2, sl1, t1, q1, d, sl2, r1, r2, r3, r4, r5, r6⟩ := turn0 (P := P) (S := S) hrun w _ gs w.drawn sl t q rfl h0 hL hP
    obtain ⟨s1, s2, s3, s4⟩ := step0_beside (hst d) r2 r4 r5
    obtain ⟨N, gs2, a2, w2, sl3, t2, q2, u1, u2, u3, u4, u5, u6, u7, u8, u9⟩ := ih d _ sl2 _ q1 s3 s4 (by rw [s2]; exact r6.own (hsize d) (htame d))
    refine ⟨k + 1 + N, gs2, a2, w2, sl3, t2, q2, ?_, u2.trans (s2.trans r3), u3, u4, u5, u6, u7.trans (htape d), Nat.le_trans (hsize d) u8, fun b hb => (u9 b hb).trans (hkept d b hb)⟩
    rw [runNT_add, runNT_add, show runNT P k (crowd gs w sl) t = _ from r1]
    dsimp only
    rw [s1]
    exact u1
end
end Go.Proofs.Ytlcgbnmmbheleaa

namespace Go.Proofs.Ytlcgbnmmbheleaa
open Go Go.Conc
open Go.ConcN (CT OkW Ok0 Apart PermW RelBy)
open Go.ConcR (stA smA)
set_option linter.unusedVariables false
set_option linter.unusedSimpArgs false

structure Cw where
  S : Nat → Prop
  H : Nat → Prop
  Wg : Nat
  C : Nat
  n : Nat
  j0 : Nat
  B : Nat
  ty : TypeId
  ld : Nat → List Int

def Cw.S1 (K : Cw) (b : Nat) : Prop := K.S b ∨ b = K.Wg

def OwnL (K : Cw) (ow : Nat → Nat) (k : Nat) (l : Loc) : Prop :=
  1 ≤ k ∧ ∃ a : Addr, l = .cell a ∧ ¬ K.S1 a.block ∧ ((ow a.block = k ∧ a.block ≠ K.C) ∨ (a.block = K.C ∧ K.j0 < k ∧ a.off = k - 1 - K.j0))
def RdL (K : Cw) (ow lw : Nat → Nat) (k : Nat) (l : Loc) : Prop :=
  1 ≤ k ∧ ∃ a : Addr, l = .cell a ∧ ¬ K.S1 a.block ∧ ow a.block = 0 ∧ a.block < lw (k - 1) ∧ a.block ≠ K.C

section
variable {K : Cw} {ow ow' lw : Nat → Nat} {t t0 u : Trace} {J N N' : Nat}

theorem apart_ow (K : Cw) (ow lw : Nat → Nat) : Apart (ShS K.S1) (OwnL K ow) (RdL K ow lw) := by
  refine ⟨?_, ?_, ?_, ?_⟩
  · rintro k k' l ⟨h1, a, rfl, _, h2⟩ ⟨h3, b, e, _, h4⟩
    cases e
    rcases h2 with ⟨h2, h5⟩ | ⟨h2, h5, h6⟩ <;> rcases h4 with ⟨h4, h7⟩ | ⟨h4, h7, h8⟩
    · omega
    · exact absurd h4 h5
    · exact absurd h2 h7
    · omega
  · rintro k k' l ⟨h1, a, rfl, _, h2⟩ ⟨h3, b, e, _, h4, h5, h6⟩
    cases e
    rcases h2 with ⟨h2, h7⟩ | ⟨h2, h7, h8⟩
    · omega
    · exact h6 h2
  · rintro k l ⟨h1, a, rfl, hs, h2⟩ ⟨b, e, hb⟩
    cases e; exact hs hb
  · rintro k l ⟨h1, a, rfl, hs, h2⟩ ⟨b, e, hb⟩
    cases e; exact hs hb

structure Tr (K : Cw) (ow lw : Nat → Nat) (J N : Nat) (t0 t : Trace) : Prop where
  since : ∃ u, t = t0 ++ u ∧ ∀ op ∈ u, op.g = 0 ∨ ∀ x, op.act.touch? = some x → K.j0 < op.g ∧ (ShS K.S1 x.loc ∨ (x.kind ≠ .atomic ∧ x.loc.isMemory = true))
  ct : CT (ShS K.S1) (OwnL K ow) (RdL K ow lw) t J
  low : ∀ op ∈ t, ∀ x, op.act.touch? = some x → x.loc.low N
  norel : ∀ i, t0.size ≤ i → t.act? i ≠ some (.mark (.release (stA K.Wg)))
  old : ∀ op ∈ t0, op.g ≤ K.j0

theorem Tr.grow (h : Tr K ow lw J N t0 t) (hN : N ≤ N') (how : ∀ b, b < N → ow' b = ow b) (hz : ∀ b, N ≤ b → ow b = 0) (hlw : ∀ i, lw i ≤ N) : Tr K ow' lw J N' t0 t := by
  have hno : ∀ i a, touchAt t i = some a → a.loc.low N := fun i a ha => by
    obtain ⟨op, h1, h2⟩ := touch_of ha
    exact h.low op (mem_of_getElem? h1) a h2
  have c := h.ct
  refine ⟨h.since, ⟨c.quiet, fun k k1 kj l hl i a ha e => ?_, fun k k1 kj l hl => ?_, fun l hs hl => ?_, fun l hs hl => ?_, c.nr, c.gs⟩, fun op hop x hx => Loc.low_mono hN (h.low op hop x hx), h.norel, h.old⟩
  · have hlow := hno i a ha
    obtain ⟨h1, ad, rfl, hs, h2⟩ := hl
    rw [e] at hlow
    have hlow' : ad.block < N := hlow
    exact c.own k k1 kj _ ⟨h1, ad, rfl, hs, by rw [how _ hlow'] at h2; exact h2⟩ i a ha e
  · obtain ⟨h1, ad, rfl, hs, h2, h3, h4⟩ := hl
    have hlow' : ad.block < N := Nat.lt_of_lt_of_le h3 (hlw _)
    exact c.rd k k1 kj _ ⟨h1, ad, rfl, hs, by rw [how _ hlow'] at h2; exact h2, h3, h4⟩
  · refine c.free l hs fun k k1 kj => ⟨fun ho => ?_, fun hr => ?_⟩
    · refine (hl k k1 kj).1 ?_
      obtain ⟨h1, ad, rfl, hs', h2⟩ := ho
      refine ⟨h1, ad, rfl, hs', h2.imp (fun ⟨e, x⟩ => ⟨?_, x⟩) id⟩
      rcases Nat.lt_or_ge ad.block N with hb | hb
      · rw [how _ hb, e]
      · have := hz _ hb; omega
    · refine (hl k k1 kj).2 ?_
      obtain ⟨h1, ad, rfl, hs', h2, h3, h4⟩ := hr
      exact ⟨h1, ad, rfl, hs', by rw [how _ (Nat.lt_of_lt_of_le h3 (hlw _))]; exact h2, h3, h4⟩
  · refine c.mine l hs fun k k1 kj ho => hl k k1 kj ?_
    obtain ⟨h1, ad, rfl, hs', h2⟩ := ho
    refine ⟨h1, ad, rfl, hs', h2.imp (fun ⟨e, x⟩ => ⟨?_, x⟩) id⟩
    rcases Nat.lt_or_ge ad.block N with hb | hb
    · rw [how _ hb, e]
    · have := hz _ hb; omega

theorem Tr.begin {gs : Nat} (h : PastK K.S gs K.Wg t) (hg : gs - 1 = K.j0) (hS : ∀ b, ow b = 0) (hlw : ∀ i, i < K.j0 → lw i = 0) (hN : K.Wg ≤ N) : Tr K ow lw K.j0 N t t := by
  have hno : ∀ i a, touchAt t i = some a → a.loc.low K.Wg := fun i a ha => by
    obtain ⟨op, h1, h2⟩ := touch_of ha
    exact h.low op (mem_of_getElem? h1) a h2
  have c := h.ct
  have hsh : ∀ l, ¬ ShS K.S1 l → ¬ ShS K.S l := fun l hn ⟨a, e, ha⟩ => hn ⟨a, e, .inl ha⟩
  refine ⟨⟨#[], by simp, by simp⟩, ⟨fun i op x hi hx hs => ?_, fun k k1 kj l hl => ?_, fun k k1 kj l hl => ?_, fun l hs hl => c.free l (hsh l hs) fun _ _ _ => ⟨id, id⟩, fun l hs hl => c.mine l (hsh l hs) fun _ _ _ => id, c.nr, fun i op hi => by rw [← hg]; exact c.gs i op hi⟩,
    fun op hop x hx => Loc.low_mono hN (h.low op hop x hx), fun i hi hx => ?_, fun op hop => ?_⟩
  · obtain ⟨a, e, ha⟩ := hs
    rcases ha with ha | ha
    · exact c.quiet i op x hi hx ⟨a, e, ha⟩
    · have := hno i x (by rw [touchAt_of hi]; exact hx)
      rw [e] at this
      have hlt : a.block < K.Wg := this
      omega
  · obtain ⟨h1, a, rfl, _, h2⟩ := hl
    rcases h2 with ⟨h2, _⟩ | ⟨_, h2, _⟩
    · have := hS a.block; omega
    · omega
  · obtain ⟨h1, a, rfl, _, _, h2, _⟩ := hl
    rw [hlw (k - 1) (by omega)] at h2; omega
  · have := lt_of_act? hx
    omega
  · obtain ⟨i, hi, rfl⟩ := Array.mem_iff_getElem.1 hop
    rw [← hg]
    exact c.gs i _ (by simp [hi])

theorem Tr.handed (h : Tr K ow lw J N t0 t) (h0 : t0.HandedOver) {q : Nat} (all : ∀ g, K.j0 < g → g ≤ J → ∃ r, RelBy (stA K.Wg) t g r ∧ r < q)
    (hq : t.act? q = some (.mark (.acquire (stA K.Wg)))) (hg : t.g? q = some 0) (hh : t.heard q) : t.HandedOver := by
  obtain ⟨u, rfl, hu⟩ := h.since
  intro i g hgi hne hc
  have hgJ : g ≤ J := by
    obtain ⟨op, ho, rfl⟩ := Option.map_eq_some_iff.1 hgi
    exact h.ct.gs i op ho
  rcases Nat.lt_or_ge K.j0 g with hnew | hold
  · obtain ⟨r, hr, hrq⟩ := all g hnew hgJ
    have hr0 : t0.size ≤ r := Nat.le_of_not_lt fun hlt => by
      obtain ⟨z, hz, hzg⟩ := Option.map_eq_some_iff.1 hr.g
      rw [getElem?_append_old hlt] at hz
      have := h.old z (mem_of_getElem? hz)
      omega
    have edge : HappensBefore (t0 ++ u) r q := .single (.inr ⟨.marked hrq (.inr hr.act) hq (fun k hk _ => h.norel k (by omega)), hr.heard, hh⟩)
    have hle : i ≤ r := Nat.le_of_not_lt fun hlt => hr.after i hlt hgi hc
    rcases Nat.lt_or_ge i r with hlt | hge
    · exact ⟨q, hg, .trans (.single (.inl ⟨hlt, g, hgi, hr.g⟩)) edge⟩
    · obtain rfl : i = r := by omega
      exact ⟨q, hg, edge⟩
  · obtain ⟨op, ho, rfl⟩ := Option.map_eq_some_iff.1 hgi
    rcases getElem?_append_cases ho with ⟨hi, ho'⟩ | ⟨_, hou⟩
    · obtain ⟨j, hj, hb⟩ := h0 i op.g (by simp [Trace.g?, ho']) hne ((counts_old hi).1 hc)
      have hjl : j < t0.size := by
        unfold Trace.g? at hj
        obtain ⟨z, hz, _⟩ := Option.map_eq_some_iff.1 hj
        exact lt_size_of_getElem? hz
      exact ⟨j, by rw [g?_old hjl]; exact hj, hb_app u hb⟩
    · obtain ⟨x, hx, _⟩ := hc
      have hx' : op.act.touch? = some x := by
        obtain ⟨op', h1, h2⟩ := touch_of hx
        rw [ho] at h1; cases h1; exact h2
      rcases hu op hou with h0 | h1
      · exact absurd h0 hne
      · have := (h1 x hx').1; omega

theorem Tr.finish {gs gs0 : Nat} (h : Tr K ow lw J N t0 t) (h0 : PastK K.S gs0 K.Wg t0) (hover : t.HandedOver) (hd : Deaf t 0 = 0) (hJ : gs - 1 = J) : PastK K.S1 gs N t := by
  have c := h.ct
  have kn : ∀ l, ¬ ShS K.S1 l → Perm t 0 l := by
    obtain ⟨u, rfl, hu⟩ := h.since
    intro l hs i a ha e
    obtain ⟨op, ho, hoa⟩ := touch_of ha
    rcases getElem?_append_cases ho with ⟨hi, ho'⟩ | ⟨_, hou⟩
    · refine (h0.ct.free l (fun ⟨b, e, hb⟩ => hs ⟨b, e, .inl hb⟩) (fun _ _ _ => ⟨id, id⟩) i a ?_ e).app u
      rw [touchAt_of ho']; exact hoa
    · rcases hu op hou with hz | hz
      · have := knows_own ho
        rwa [hz] at this
      · obtain ⟨h1, h2⟩ := hz a hoa
        have h3 := h2.resolve_left (by rw [e]; exact hs)
        obtain ⟨j, hj, hb⟩ := hover i op.g (by simp [Trace.g?, ho]) (by omega) ⟨a, by simpa [Trace.act?, ho] using hoa, h3.2, .inl h3.1⟩
        obtain ⟨z, hz1, hz2⟩ := Option.map_eq_some_iff.1 hj
        exact ⟨j, z, hz1, hz2, .inr hb⟩
  exact ⟨⟨c.quiet, fun _ _ _ _ h => h.elim, fun _ _ _ _ h => h.elim, fun l hs _ => kn l hs, fun l hs _ => PermW.of (kn l hs), c.nr, fun i op hi => by rw [hJ]; exact c.gs i op hi⟩, hover, hd, h.low⟩
end
end Go.Proofs.Ytlcgbnmmbheleaa
