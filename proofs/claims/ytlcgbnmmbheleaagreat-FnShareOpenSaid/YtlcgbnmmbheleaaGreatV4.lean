/- Several texts in one. -/
import Derived.Test.YtlcgbnmmbheleaaGreatV3
import Derived.Conc.CompanyDraw
import Derived.Test.YtlcgbnmmbheleaaGreatRows
import Derived.WalkKit
import Derived.WalkSpells
import Derived.WalkLawsBesides
import Derived.Lib.Hide
import Derived.Deep.QuietTactic
import Derived.BigQuiet
import Derived.Deep.Draws
import Derived.Deep.RegionHeld3
import Derived.Deep.RegionWith
import Derived.Deep.AppendLies
import Derived.Maps.AppendAt
import Derived.Laws.AppendOwnNone
namespace Go.Proofs.YtlcgbnmmbheleaaGreat
open Go Go.Conc
set_option linter.unusedVariables false
set_option linter.unusedSimpArgs false

structure GR (v v₁ : World) : Prop where
  os : v₁.os = v.os
  output : v₁.output = v.output
  size : v.heap.size ≤ v₁.heap.size
  rows : ∀ b : Nat, b < v.heap.size → v₁.heap[b]? = v.heap[b]?
theorem GR.refl (v : World) : GR v v := ⟨rfl, rfl, Nat.le_refl _, fun _ _ => rfl⟩
theorem GR.trans {a b c : World} (h : GR a b) (k : GR b c) : GR a c :=
  ⟨k.os.trans h.os, k.output.trans h.output, Nat.le_trans h.size k.size, fun i hi => (k.rows i (Nat.lt_of_lt_of_le hi h.size)).trans (h.rows i hi)⟩

def EvG (B : Nat) (e : Event) : Prop := ∃ a : Addr, e.loc = .cell a ∧ e.sync = false ∧ (e.write = true → B ≤ a.block)
structure Cellish (w w' : World) : Prop where
  size : w.heap.size ≤ w'.heap.size
  old : ∀ b : Nat, b < w.heap.size → w'.heap[b]? = w.heap[b]? ∨ ∃ cs cs' ty fr, w.heap[b]? = some (.cells cs ty fr) ∧ w'.heap[b]? = some (.cells cs' ty fr)
  new : ∀ b : Nat, w.heap.size ≤ b → b < w'.heap.size → ∃ cs ty fr, w'.heap[b]? = some (.cells cs ty fr)
theorem Cellish.same {w w' : World} (h : w'.heap = w.heap) : Cellish w w' :=
  ⟨by rw [h]; exact Nat.le_refl _, fun b _ => .inl (by rw [h]), fun b h1 h2 => by rw [h] at h2; omega⟩
theorem Cellish.trans {a b c : World} (h : Cellish a b) (k : Cellish b c) : Cellish a c := by
  refine ⟨Nat.le_trans h.size k.size, fun i hi => ?_, fun i h1 h2 => ?_⟩
  · rcases h.old i hi with e | ⟨cs, cs', ty, fr, e1, e2⟩
    · rcases k.old i (Nat.lt_of_lt_of_le hi h.size) with e' | ⟨cs, cs', ty, fr, e1, e2⟩
      · exact .inl (e'.trans e)
      · exact .inr ⟨cs, cs', ty, fr, e ▸ e1, e2⟩
    · rcases k.old i (Nat.lt_of_lt_of_le hi h.size) with e' | ⟨cs1, cs1', ty1, fr1, e3, e4⟩
      · exact .inr ⟨cs, cs', ty, fr, e1, e'.trans e2⟩
      · rw [e2] at e3; cases e3
        exact .inr ⟨cs, cs1', ty, fr, e1, e4⟩
  · rcases Nat.lt_or_ge i b.heap.size with hb | hb
    · obtain ⟨cs, ty, fr, e⟩ := h.new i h1 hb
      rcases k.old i hb with e' | ⟨cs1, cs1', ty1, fr1, e3, e4⟩
      · exact ⟨cs, ty, fr, e'.trans e⟩
      · exact ⟨_, _, _, e4⟩
    · exact k.new i hb h2
theorem Cellish.push (w : World) (cs : Array Value) (ty : TypeId) (fr : Nat × Nat) : Cellish w { w with heap := w.heap.push (.cells cs ty fr) } :=
  ⟨by simp only [Array.size_push]; omega, fun b hb => .inl (by simp only [Array.getElem?_push]; rw [if_neg (by omega)]), fun b h1 h2 => by
    simp only [Array.size_push] at h2
    have : b = w.heap.size := by omega
    subst this
    exact ⟨cs, ty, fr, by simp only [Array.getElem?_push, if_true]⟩⟩
theorem Cellish.alloc (w : World) (cs : Array Value) (ty : TypeId) (fr : Nat × Nat) : Cellish w (w.alloc (.cells cs ty fr)) := Cellish.push w cs ty fr
theorem Cellish.setCell (w : World) (a : Addr) (x : Value) {y : Value} (hc : w.cell? a = some y) : Cellish w (w.setCell a x) := by
  have hb : ∃ c e f, w.heap[a.block]? = some (.cells c e f) := by
    unfold World.cell? at hc
    split at hc
    · rename_i c e f h; exact ⟨c, e, f, h⟩
    · cases hc
  obtain ⟨c, e, f, hb⟩ := hb
  rw [setCell_put w a x hb]
  refine ⟨by simp, fun b h => ?_, fun b h1 h2 => ?_⟩
  · by_cases hab : a.block = b
    · subst hab
      exact .inr ⟨c, _, e, f, hb, by simp [h]; rfl⟩
    · exact .inl (by simp [Array.getElem?_setIfInBounds, hab])
  · simp at h2; omega

structure DG (B : Nat) (v v' : World) (es : Array Event) : Prop where
  os : v'.os = v.os
  output : v'.output = v.output
  low : ∀ b : Nat, b < B → v'.heap[b]? = v.heap[b]?
  cells : Cellish v v'
  evs : ∀ e ∈ es, EvG B e
theorem DG.idle (B : Nat) (v : World) : DG B v v #[] := ⟨rfl, rfl, fun _ _ => rfl, .same rfl, by simp⟩
theorem DG.mono {B B' : Nat} {v v' : World} {es : Array Event} (h : DG B v v' es) (hb : B' ≤ B) : DG B' v v' es :=
  ⟨h.os, h.output, fun b hb' => h.low b (by omega), h.cells, fun e he => let ⟨a, h1, h2, h3⟩ := h.evs e he; ⟨a, h1, h2, fun hw => Nat.le_trans hb (h3 hw)⟩⟩
theorem termsG (B : Nat) : Terms GR (DG B) := ⟨fun _ _ _ h k => h.trans k, DG.idle B⟩
theorem drawG (B : Nat) : LetsDraw (DG B) := fun w => ⟨rfl, rfl, fun _ _ => rfl, .same rfl, by simp⟩
theorem ownDrawG (w : World) : GR w { w with drawn := w.drawn + 1 } := ⟨rfl, rfl, Nat.le_refl _, fun _ _ => rfl⟩

section
variable {P : Program} {mn : Bool} {A : Ana} {H : Nat → Prop} {B : Nat} {Stop Stop' : Goroutine → World → Prop}

def Tied (P : Program) (mn : Bool) (H : Nat → Prop) (B : Nat) (K : Goroutine → World → Prop) (g : Goroutine) (v₁ : World) : Prop :=
  ∀ S w, ViewOf S H v₁ w → v₁.tape = w.tape → v₁.drawn = w.drawn → ∃ g' v' w' es, stepG P mn g w = .go g' w' es ∧ ViewOf S H v' w' ∧ w'.tape = w.tape ∧ v'.tape = w'.tape ∧ v'.drawn = w'.drawn ∧
    w.heap.size ≤ w'.heap.size ∧ (∀ b : Nat, S b ∨ H b → w'.heap[b]? = w.heap[b]?) ∧ DG B v₁ v' es ∧ (∀ e ∈ es, tameE S w'.heap.size e) ∧ K g' v'

def GV (P : Program) (mn : Bool) (H : Nat → Prop) (B : Nat) (Stop : Goroutine → World → Prop) : Nat → Goroutine → World → Prop
  | 0, g, v => ∀ v₁, GR v v₁ → Stop g v₁
  | n + 1, g, v => (∀ v₁, GR v v₁ → Stop g v₁) ∨ (g.status = .running ∧ ∀ v₁, GR v v₁ → Tied P mn H B (GV P mn H B Stop n) g v₁)

theorem Tied.mono {K K' : Goroutine → World → Prop} {g : Goroutine} {v : World} (h : Tied P mn H B K g v) (hk : ∀ g v, K g v → K' g v) : Tied P mn H B K' g v := fun S w a b c =>
  let ⟨g', v', w', es, h1, h2, h3, h4, h5, h6, h7, h8, h9, h10⟩ := h S w a b c
  ⟨g', v', w', es, h1, h2, h3, h4, h5, h6, h7, h8, h9, hk _ _ h10⟩
theorem GV.stop {n : Nat} {g : Goroutine} {v : World} (h : ∀ v₁, GR v v₁ → Stop g v₁) : GV P mn H B Stop n g v := by
  cases n with
  | zero => exact h
  | succ n => exact .inl h
theorem GV.more : ∀ {n : Nat} {g : Goroutine} {v : World}, GV P mn H B Stop n g v → GV P mn H B Stop (n + 1) g v
  | 0, _, _, h => .inl h
  | n + 1, _, _, h => h.imp id fun ⟨a, b⟩ => ⟨a, fun v₁ hr => (b v₁ hr).mono fun _ _ x => GV.more x⟩
theorem GV.mono {n n' : Nat} {g : Goroutine} {v : World} (h : GV P mn H B Stop n g v) (hn : n ≤ n') : GV P mn H B Stop n' g v := by
  induction hn with
  | refl => exact h
  | step _ ih => exact ih.more
theorem GV.rely {n : Nat} {g : Goroutine} {v v₁ : World} (h : GV P mn H B Stop n g v) (hr : GR v v₁) : GV P mn H B Stop n g v₁ := by
  cases n with
  | zero => exact fun v₂ h2 => h v₂ (hr.trans h2)
  | succ n => exact h.imp (fun x v₂ h2 => x v₂ (hr.trans h2)) fun ⟨a, b⟩ => ⟨a, fun v₂ h2 => b v₂ (hr.trans h2)⟩
theorem GV.then {m : Nat} (hm : ∀ g v, Stop g v → GV P mn H B Stop' m g v) : ∀ {n : Nat} {g : Goroutine} {v : World}, GV P mn H B Stop n g v → GV P mn H B Stop' (m + n) g v
  | 0, g, v, h => hm g v (h v (.refl v))
  | n + 1, g, v, h => by
    rcases h with h | ⟨a, b⟩
    · exact (hm g v (h v (.refl v))).mono (by omega)
    · exact .inr ⟨a, fun v₁ hr => (b v₁ hr).mono fun _ _ x => GV.then hm x⟩
theorem GV.ctl {n : Nat} {g g' : Goroutine} {v : World} (hs : g.status = .running) (h : ∀ w, stepG P mn g w = .go g' w #[]) (hn : GV P mn H B Stop n g' v) : GV P mn H B Stop (n + 1) g v :=
  .inr ⟨hs, fun v₁ hr S w hv ht hd => ⟨g', v₁, w, #[], h w, hv, rfl, ht, hd, Nat.le_refl _, fun _ _ => rfl, .idle B v₁, by simp, hn.rely hr⟩⟩

/-! ### the bottom of the lone walk -/
theorem stepG_c0 (x : Value) (u : World) : ∃ o u' es, stepG P mn (G (c0.finish x) []) u = .ended o u' es := ⟨_, _, _, rfl⟩
theorem stepG_c0_panic (chain : List PanicEntry) (u : World) : ∃ o u' es, stepG P mn (G (c0.raise chain) []) u = .ended o u' es :=
  ⟨_, _, _, by
    simp only [G, stepG, unwind, c0, Frame.raise, callDeferred]
    rfl⟩

theorem doomedG {R : World → World → Prop} {D : World → World → Array Event → Prop} (hR : ∀ w, R w w) (hA : A.good P = true) (hS : ∀ g v, Stop g v → ∀ ch, g.frame.mode ≠ .panicking ch) :
    ∀ (M : Nat) (up : List Frame), (∀ c ∈ up, Below1 A c) → ∀ (fr : Frame) (chain : List PanicEntry) (u : World), fr.mode = .panicking chain → fr.defers = [] → A.inB fr.fn = true → ¬ Goes P mn R D Stop M (G fr (up ++ [c0])) u
  | 0, up, hup, fr, chain, u, hm, hd, hf => fun h => hS _ _ (h u (hR u)) chain hm
  | M + 1, up, hup, fr, chain, u, hm, hd, hf => by
    rintro (h | ⟨_, h⟩)
    · exact hS _ _ (h u (hR u)) chain hm
    · have h := h u (hR u)
      obtain ⟨fn, body, hfn, _⟩ := shape_of_good hA hf
      have hc : fr.catches P = false := by unfold Frame.catches; rw [hfn]
      cases up with
      | nil =>
        have hst : stepG P mn (G fr ([] ++ [c0])) u = .go (G (c0.raise chain) []) u #[] := by
          obtain ⟨fn', tmps, todo, defers, mode, kind, rnd⟩ := fr
          dsimp only at hm hd
          subst hm hd
          simp [G, stepG, unwind, hc]
        rw [hst] at h
        have h2 := h.2
        cases M with
        | zero => exact hS _ _ (h2 u (hR u)) chain rfl
        | succ M =>
          rcases h2 with h2 | ⟨_, h2⟩
          · exact hS _ _ (h2 u (hR u)) chain rfl
          · have h2 := h2 u (hR u)
            obtain ⟨o, u', es, he⟩ := stepG_c0_panic (P := P) (mn := mn) chain u
            rw [he] at h2
            exact h2
      | cons c up =>
        obtain ⟨hcm, hcd, hcf⟩ := hup c List.mem_cons_self
        have hst : stepG P mn (G fr (c :: up ++ [c0])) u = .go (G (c.raise chain) (up ++ [c0])) u #[] := by
          obtain ⟨fn', tmps, todo, defers, mode, kind, rnd⟩ := fr
          dsimp only at hm hd
          subst hm hd
          simp [G, stepG, unwind, hc]
        rw [hst] at h
        have hrm : c.raise chain = { c with mode := .panicking chain } := by unfold Frame.raise; rw [hcm]
        rw [hrm] at h
        exact doomedG hR hA hS M up (fun y hy => hup y (List.mem_cons_of_mem _ hy)) { c with mode := .panicking chain } chain u rfl hcd hcf h.2

theorem below_wait {c : Frame} (h : ∃ g, WaitOK P A g c) : Below1 A c := ⟨h.choose_spec.mode, h.choose_spec.ok.defers, h.choose_spec.ok.f⟩

theorem lift_goes (hA : A.good P = true) (hS : ∀ g v, Stop g v → ∃ fr, g = G fr [c0] ∧ fr.mode = .returning) (tc : List Frame) :
    ∀ (n : Nat) (fr : Frame) (up : List Frame) (v : World), FrOK P A fr → UpOK P A fr.fn up → (fr.mode = .run ∨ fr.mode = .returning) → Goes P mn GR (DG B) Stop n (G fr (up ++ [c0])) v →
      GV P mn H B (fun g v => ∃ fr, g = G fr tc ∧ FrOK P A fr ∧ Stop (G fr [c0]) v) n (G fr (up ++ tc)) v := by
  have hS' : ∀ g v, Stop g v → ∀ ch, g.frame.mode ≠ .panicking ch := fun g v h ch => by
    obtain ⟨fr, rfl, hm⟩ := hS g v h
    show fr.mode ≠ _
    rw [hm]; simp
  have hend : ∀ (M : Nat) (x : Value) (u : World), ¬ Goes P mn GR (DG B) Stop M (G (c0.finish x) []) u := by
    intro M x u h
    have no : ∀ u, ¬ Stop (G (c0.finish x) []) u := fun u hs => by
      obtain ⟨fr, h1, _⟩ := hS _ _ hs
      have := congrArg Goroutine.callers h1
      cases this
    cases M with
    | zero => exact no u (h u (.refl u))
    | succ M =>
      rcases h with h | ⟨_, h⟩
      · exact no u (h u (.refl u))
      · have h := h u (.refl u)
        obtain ⟨o, u', es, he⟩ := stepG_c0 (P := P) (mn := mn) x u
        rw [he] at h
        exact h
  have atStop : ∀ (n : Nat) (fr : Frame) (up : List Frame) (v : World), FrOK P A fr → (∀ v₁, GR v v₁ → Stop (G fr (up ++ [c0])) v₁) → GV P mn H B (fun g v => ∃ fr, g = G fr tc ∧ FrOK P A fr ∧ Stop (G fr [c0]) v) n (G fr (up ++ tc)) v := by
    intro n fr up v hfr h
    refine GV.stop fun v₁ hr => ?_
    obtain ⟨fr', h1, _⟩ := hS _ _ (h v₁ hr)
    have hup : up = [] := by
      have h2 : up ++ [c0] = [c0] := congrArg Goroutine.callers h1
      have := congrArg List.length h2
      simp at this
      exact this
    subst hup
    exact ⟨fr, rfl, hfr, h v₁ hr⟩
  intro n
  induction n with
  | zero => exact fun fr up v hfr _ _ h => atStop 0 fr up v hfr h
  | succ n ih =>
    intro fr up v hfr hup hm h
    rcases h with h | ⟨_, h⟩
    · exact atStop _ fr up v hfr h
    · refine .inr ⟨rfl, fun v₁ hr S w hv ht hd => ?_⟩
      have hg := h v₁ hr
      rcases hm with hm | hm
      · have hag : Agree v₁ w (drawsOf P fr w) := fun i _ q => by rw [ht, hd]
        have hp := step_plain (mn := mn) hA hfr hm hv hag (kl := ([], [])) (kc := ([], [])) (fun _ => rfl) (fun _ => ⟨rfl, rfl⟩) (up ++ [c0]) (up ++ tc)
        rw [ext_nil] at hp
        rcases hp with hb | ⟨fr', v', w', es, hstep, g1, g2, g3, g4, g5, g6⟩
        · exfalso
          rcases hb with ⟨o, u, es, e⟩ | ⟨chain, u, es, e⟩
          · rw [e] at hg; exact hg
          · rw [e] at hg
            exact doomedG (fun w => GR.refl w) hA hS' n up (fun c hc => below_wait (hup.mem c hc)) { fr with mode := .panicking chain } chain u rfl hfr.defers hfr.f hg.2
        · have hdr : v'.drawn = w'.drawn := by rw [g4.drawn, g5.drawn, hd]
          have htp : v'.tape = w'.tape := by rw [g4.tape, g5.tape, ht]
          rcases hstep with ⟨h1, h2, h3⟩ | ⟨h1, h2, h3⟩
          · rw [ext_nil] at h1 h2
            rw [h1] at hg
            exact ⟨_, v', w', es, h2, g3, g5.tape, htp, hdr, g5.size, g5.kept, hg.1, g6, ih fr' up v' g1 (h3 ▸ hup) g2 hg.2⟩
          · rw [ext_nil] at h1 h2
            rw [h1] at hg
            exact ⟨_, v', w', es, h2, g3, g5.tape, htp, hdr, g5.size, g5.kept, hg.1, g6, ih fr' (fr :: up) v' g1 ⟨h3, hup⟩ g2 hg.2⟩
      · rcases step_return (mn := mn) hA hfr hm hv with hbad | ⟨x, es, hxr, hxv, hxw, htame⟩
        · exfalso
          obtain ⟨o, u, es, e⟩ := hbad (up ++ [c0])
          rw [e] at hg
          exact hg
        cases up with
        | nil =>
          exfalso
          have e := hxv c0 []
          rw [List.nil_append, e] at hg
          exact hend _ _ _ hg.2
        | cons c up =>
          obtain ⟨c', e1, e2, e3, e4, _⟩ := wait_finish hup.1 x hxr ([], [])
          rw [ext_nil, ext_nil] at e1
          have e := hxv c (up ++ [c0])
          rw [List.cons_append, e, e1] at hg
          have e' := hxw c (up ++ tc)
          rw [e1] at e'
          exact ⟨_, v₁, w, es, e', hv, rfl, ht, hd, Nat.le_refl _, fun _ _ => rfl, hg.1, htame, ih c' up v₁ e2 (e4 ▸ hup.2) (.inl e3) hg.2⟩

theorem frOK_enter (hA : A.good P = true) {f : FuncId} (hf : A.inF f = true) (hn : A.noTr f = true) (args : Array Value) : FrOK P A (Frame.enter P f args .normal) := by
  obtain ⟨fn, body, hfn1, hbody, hcode, _, hres, hini⟩ := fn_of_good hA hf
  exact ⟨Ana.inB_of hf, rfl, rfl, rfl, fun t h2 => absurd (A.noTr_spec hn t) h2, fun it hi => by
    have : it = .code body := by
      simp only [Frame.enter, hfn1, Option.bind_some, hbody, Option.getD_some, List.mem_singleton] at hi
      exact hi
    subst this
    exact hcode⟩

theorem gv_call (hA : A.good P = true) {b : Frame} {a : Act} {k : List Item} {cs : List Frame} {v : World} {ops : Array Oper} {i : Nat} {rest : List Nat} {o : Oper} {f : FuncId} {args : Array Operand} {ats : Array TypeId}
    {nf m : Nat} {Post : Value → World → Prop} (hf : A.inF f = true) (hn : A.noTr f = true)
    (ho : ops[i]? = some o) (hw : Region.wanted o (yielded ops a.tmps) = true) (hk : b.kind ≠ .early) (hop : o.op = .call { callee := .value (.func f), args, argTypes := ats })
    (hcall : CallsC P mn GR (DG B) f (args.map a.eval) nf v Post)
    (hnext : ∀ r v', Post r v' → GV P mn H B Stop m (G (b.at (a.put o.dst r) (.inRegion ops rest :: k)) cs) v') :
    GV P mn H B Stop (m + nf + 3) (G (b.at a (.inRegion ops (i :: rest) :: k)) cs) v := by
  obtain ⟨fn, c, hfn, hname, hbody, hwp⟩ := hcall
  have hfin : ∀ r, (b.at a (.inRegion ops (i :: rest) :: k)).finish r = b.at (a.put o.dst r) (.inRegion ops rest :: k) := fun r => by rw [Frame.finish_at, ho]; rfl
  -- the callee's own walk, above the bottom
  have hgo : Goes P mn GR (DG B) (fun g v => ∃ a' todo, g = G { (base f).at a' todo with mode := .returning } [c0] ∧ a'.defers = [] ∧ ∃ r v₀, GR v₀ v ∧ ResultsC P fn a'.tmps r ∧ Post r v₀) (1 + nf)
      (G ((base f).at { tmps := args.map a.eval ++ Array.replicate (fn.ntmps - (args.map a.eval).size) undef, defers := [] } [.code c]) [c0]) v := by
    refine hwp (base f) [] [c0] _ 1 rfl (by simp [base]) fun e a' w' q => ?_
    cases e with
    | normal =>
      obtain ⟨hd, r, hr, hp⟩ := q
      unfold After
      exact Goes.step rfl fun w₁ h₁ => by
        rw [stepG_end]
        exact ⟨DG.idle B _, Goes.stop fun w₂ h₂ => ⟨a', [], rfl, hd, r, w', h₁.trans h₂, hr, hp⟩⟩
    | ret =>
      obtain ⟨hd, r, hr, hp⟩ := q
      exact fun todo => Goes.stop fun w₂ h₂ => ⟨a', todo, rfl, hd, r, w', h₂, hr, hp⟩
    | exit id => exact q.elim
    | goto l => exact q.elim
    | panic ch => exact q.elim
    | outgrown => exact q.elim
  rw [← enter_at _ hfn hbody] at hgo
  have hl := lift_goes (P := P) (mn := mn) (H := H) (B := B) hA (by
    rintro g v ⟨a', todo, rfl, _⟩
    exact ⟨_, rfl, rfl⟩) (b.at a (.inRegion ops (i :: rest) :: k) :: cs) (1 + nf) _ [] v (frOK_enter hA hf hn _) trivial (.inl rfl) hgo
  have hl2 := GV.then (Stop' := Stop) (m := m + 1) (fun g v hg => by
    obtain ⟨fr, rfl, _, a', todo, h1, hd, r, v₀, hgr, hr, hp⟩ := hg
    have hfr : fr = { (base f).at a' todo with mode := .returning } := congrArg Goroutine.frame h1
    subst hfr
    refine GV.ctl rfl (fun w => ?_) ((hnext r v₀ hp).rely hgr)
    rw [stepG_leave (b := base f) rfl hd hfn (hr w).1 (hr w).2, hfin]) hl
  have hb' : fn.body.isNone = false := by rw [hbody]; rfl
  have e : m + nf + 3 = (m + 1 + (1 + nf)) + 1 := by omega
  rw [e]
  refine GV.ctl rfl (fun w => ?_) hl2
  rw [stepG_enter ho hw hk (run_call_body hop hfn hname hb')]
  have : listed P b.fn a o w = #[] := by unfold listed; rw [events_call_body hop hfn hname hb']; exact seen_none P _
  rw [this]
  rfl

theorem gv_op (hA : A.good P = true) {b : Frame} {a : Act} {k : List Item} {cs : List Frame} {v : World} {ops : Array Oper} {i : Nat} {rest : List Nat} {o : Oper} {n : Nat}
    (ho : ops[i]? = some o) (hw : Region.wanted o (yielded ops a.tmps) = true) (hk : b.kind ≠ .early) (hok : operOK P A b.fn o = true) (htr : ∀ t, A.tr b.fn t = [])
    (h : ∀ v₁, GR v v₁ → uponK o a (fun a' v' => DG B v₁ v' (listed P b.fn a o v₁) ∧ GV P mn H B Stop n (G (b.at a' (.inRegion ops rest :: k)) cs) v') ((execOp a.eval o).run P v₁)) :
    GV P mn H B Stop (n + 1) (G (b.at a (.inRegion ops (i :: rest) :: k)) cs) v := by
  refine .inr ⟨rfl, fun v₁ hr S w hv ht hd => ?_⟩
  have hg := h v₁ hr
  have hag : Agree v₁ w ((resW ((execOp a.eval o).run P w)).drawn - w.drawn) := fun i _ q => by rw [ht, hd]
  rcases lk_execOp (S := S) (H := H) hA hok a.tmps (fun t h => absurd (htr t) h) a.eval (fun t => rfl) (fun g => rfl) (fun x => rfl) v₁ w hv hag with ⟨x, v', e1, e2⟩ | ⟨n, x, v', w', e1, e2, e3, e4, e5, e6, e7, e8⟩
  · rw [e1] at hg; exact hg.elim
  · have hdr : v'.drawn = w'.drawn := by rw [e5.drawn, e6.drawn, hd]
    have htp : v'.tape = w'.tape := by rw [e5.tape, e6.tape, ht]
    have hls : listed P b.fn a o v₁ = listed P b.fn a o w := by unfold listed; rw [e8]
    rw [e1] at hg
    cases x with
    | value y => exact ⟨_, v', w', _, stepG_value ho hw hk e2, e4, e6.tape, htp, hdr, e6.size, e6.kept, hls ▸ hg.1, fun e he => (e7 #[] e (mem_listed he)).resolve_left (by simp), hg.2⟩
    | skip => exact ⟨_, v', w', _, stepG_none ho hw hk e2, e4, e6.tape, htp, hdr, e6.size, e6.kept, hls ▸ hg.1, fun e he => (e7 #[] e (mem_listed he)).resolve_left (by simp), hg.2⟩
    | _ => exact hg.elim
end
end Go.Proofs.YtlcgbnmmbheleaaGreat

namespace Go.Proofs.YtlcgbnmmbheleaaGreat
open Go.RowKit

/-! Short names (a claim's size is bounded). -/
theorem qh {p : Prop} (h : p) : Hid p := Go.Lib.hid h
theorem gT {α : Type _} {xs : List α} {i : Nat} : xs.toArray[i]? = xs[i]? := _root_.List.getElem?_toArray
theorem gZ {α : Type _} {a : α} {l : List α} : (a :: l)[0]? = some a := _root_.List.getElem?_cons_zero
theorem gS {α : Type _} {a : α} {i : Nat} {l : List α} : (a :: l)[i + 1]? = l[i]? := _root_.List.getElem?_cons_succ
theorem pS {α : Type _} (l : List α) (i : Nat) (a : α) : l.toArray.setIfInBounds i a = (l.set i a).toArray := _root_.List.setIfInBounds_toArray l i a
theorem pZ {α : Type _} {x : α} {xs : List α} {a : α} : (x :: xs).set 0 a = a :: xs := _root_.List.set_cons_zero
theorem pC {α : Type _} {x : α} {xs : List α} {i : Nat} {a : α} : (x :: xs).set (i + 1) a = x :: xs.set i a := _root_.List.set_cons_succ
theorem nxK {S : World → Prop} {W K : Act → World → Prop} (h : Shut (∀ a w, S w → (S w → W a w) → K a w)) (a : Act) (w : World) (s : S w) (g : W a w) : K a w := h.out a w s (fun _ => g)

abbrev Tk := Int × List Int

def RdI (w : World) (B : Nat) (A : Option Addr) (n : Nat) (xs : List Int) : Prop :=
  xs.length = n ∧ n ≤ 9223372036854775807 ∧ (0 < n → ∃ b o, A = some ⟨b, o, none⟩ ∧ b < B ∧ ∀ j, j < n → w.cell? ⟨b, o + j, none⟩ = some (.int .i64 (xs[j]?.getD 0)))

def RdT (w : World) (B : Nat) (A : Option Addr) (n : Nat) (ts : List Tk) : Prop :=
  ts.length = n ∧ n ≤ 9223372036854775807 ∧ (0 < n → ∃ b o, A = some ⟨b, o, none⟩ ∧ b < B ∧ ∀ j, j < n → ∃ A' m c,
    w.cell? ⟨b, o + j * 2, none⟩ = some (.int .i64 (ts[j]?.getD (0, [])).1) ∧ w.cell? ⟨b, o + j * 2 + 1, none⟩ = some (.slice A' m c) ∧ m ≤ c ∧
    RdI w B A' m (ts[j]?.getD (0, [])).2)

def RdB (w : World) (B : Nat) (A : Option Addr) (n : Nat) (bs : List (List Tk)) : Prop :=
  bs.length = n ∧ n ≤ 9223372036854775807 ∧ (0 < n → ∃ b o, A = some ⟨b, o, none⟩ ∧ b < B ∧ ∀ j, j < n → ∃ A' m c,
    w.cell? ⟨b, o + j, none⟩ = some (.slice A' m c) ∧ m ≤ c ∧ RdT w B A' m (bs[j]?.getD []))

section
variable {w w' : World} {B B' n k : Nat} {A : Option Addr} {xs : List Int} {ts : List Tk} {bs : List (List Tk)}

theorem RdI.len (h : RdI w B A n xs) : xs.length = n := h.1
theorem RdT.len (h : RdT w B A n ts) : ts.length = n := h.1
theorem RdB.len (h : RdB w B A n bs) : bs.length = n := h.1
theorem RdI.le (h : RdI w B A n xs) : n ≤ 9223372036854775807 := h.2.1
theorem RdT.le (h : RdT w B A n ts) : n ≤ 9223372036854775807 := h.2.1
theorem RdB.le (h : RdB w B A n bs) : n ≤ 9223372036854775807 := h.2.1

theorem RdI.nil : RdI w B A 0 [] := ⟨rfl, by omega, fun h => absurd h (by omega)⟩
theorem RdT.nil : RdT w B A 0 [] := ⟨rfl, by omega, fun h => absurd h (by omega)⟩
theorem RdB.nil : RdB w B A 0 [] := ⟨rfl, by omega, fun h => absurd h (by omega)⟩

theorem RdI.at_ (h : RdI w B A n xs) (hk : k < n) : ∃ b o, A = some ⟨b, o, none⟩ ∧ b < B ∧ w.cell? ⟨b, o + k, none⟩ = some (.int .i64 (xs[k]?.getD 0)) := by
  obtain ⟨b, o, e, hb, hc⟩ := h.2.2 (by omega)
  exact ⟨b, o, e, hb, hc k hk⟩
theorem RdT.at_ (h : RdT w B A n ts) (hk : k < n) : ∃ b o A' m c, A = some ⟨b, o, none⟩ ∧ b < B ∧ w.cell? ⟨b, o + k * 2, none⟩ = some (.int .i64 (ts[k]?.getD (0, [])).1) ∧
    w.cell? ⟨b, o + k * 2 + 1, none⟩ = some (.slice A' m c) ∧ m ≤ c ∧ RdI w B A' m (ts[k]?.getD (0, [])).2 := by
  obtain ⟨b, o, e, hb, hc⟩ := h.2.2 (by omega)
  obtain ⟨A', m, c, h1, h2, h3, h4⟩ := hc k hk
  exact ⟨b, o, A', m, c, e, hb, h1, h2, h3, h4⟩
theorem RdB.at_ (h : RdB w B A n bs) (hk : k < n) : ∃ b o A' m c, A = some ⟨b, o, none⟩ ∧ b < B ∧ w.cell? ⟨b, o + k, none⟩ = some (.slice A' m c) ∧ m ≤ c ∧ RdT w B A' m (bs[k]?.getD []) := by
  obtain ⟨b, o, e, hb, hc⟩ := h.2.2 (by omega)
  obtain ⟨A', m, c, h1, h2, h3⟩ := hc k hk
  exact ⟨b, o, A', m, c, e, hb, h1, h2, h3⟩

theorem RdI.keep (h : RdI w B A n xs) (hk : ∀ p : Addr, p.block < B → w'.cell? p = w.cell? p) (hB : B ≤ B') : RdI w' B' A n xs :=
  ⟨h.1, h.2.1, fun hn => by
    obtain ⟨b, o, e, hb, hc⟩ := h.2.2 hn
    exact ⟨b, o, e, by omega, fun j hj => (hk ⟨b, o + j, none⟩ hb).trans (hc j hj)⟩⟩
theorem RdT.keep (h : RdT w B A n ts) (hk : ∀ p : Addr, p.block < B → w'.cell? p = w.cell? p) (hB : B ≤ B') : RdT w' B' A n ts :=
  ⟨h.1, h.2.1, fun hn => by
    obtain ⟨b, o, e, hb, hc⟩ := h.2.2 hn
    refine ⟨b, o, e, by omega, fun j hj => ?_⟩
    obtain ⟨A', m, c, h1, h2, h3, h4⟩ := hc j hj
    exact ⟨A', m, c, (hk ⟨b, o + j * 2, none⟩ hb).trans h1, (hk ⟨b, o + j * 2 + 1, none⟩ hb).trans h2, h3, h4.keep hk hB⟩⟩
theorem RdB.keep (h : RdB w B A n bs) (hk : ∀ p : Addr, p.block < B → w'.cell? p = w.cell? p) (hB : B ≤ B') : RdB w' B' A n bs :=
  ⟨h.1, h.2.1, fun hn => by
    obtain ⟨b, o, e, hb, hc⟩ := h.2.2 hn
    refine ⟨b, o, e, by omega, fun j hj => ?_⟩
    obtain ⟨A', m, c, h1, h2, h3⟩ := hc j hj
    exact ⟨A', m, c, (hk ⟨b, o + j, none⟩ hb).trans h1, h2, h3.keep hk hB⟩⟩

theorem RdI.below (h : RdI w B A n xs) (hb : Below B w w') : RdI w' B A n xs := h.keep (fun _ hp => hb.cell hp) (Nat.le_refl _)
theorem RdT.below (h : RdT w B A n ts) (hb : Below B w w') : RdT w' B A n ts := h.keep (fun _ hp => hb.cell hp) (Nat.le_refl _)
theorem RdB.below (h : RdB w B A n bs) (hb : Below B w w') : RdB w' B A n bs := h.keep (fun _ hp => hb.cell hp) (Nat.le_refl _)
theorem RdI.more (h : RdI w B A n xs) (hB : B ≤ B') : RdI w B' A n xs := h.keep (fun _ _ => rfl) hB
theorem RdT.more (h : RdT w B A n ts) (hB : B ≤ B') : RdT w B' A n ts := h.keep (fun _ _ => rfl) hB
theorem RdB.more (h : RdB w B A n bs) (hB : B ≤ B') : RdB w B' A n bs := h.keep (fun _ _ => rfl) hB
theorem RdI.drewN (h : RdI w B A n xs) (m : Nat) : RdI (w.drewN m) B A n xs := h
theorem RdT.drewN (h : RdT w B A n ts) (m : Nat) : RdT (w.drewN m) B A n ts := h
theorem RdB.drewN (h : RdB w B A n bs) (m : Nat) : RdB (w.drewN m) B A n bs := h
theorem RdI.up (h : RdI w w.heap.size A n xs) (hb : Below w.heap.size w w') : RdI w' w'.heap.size A n xs := (h.below hb).more hb.size
theorem RdT.up (h : RdT w w.heap.size A n ts) (hb : Below w.heap.size w w') : RdT w' w'.heap.size A n ts := (h.below hb).more hb.size
theorem RdB.up (h : RdB w w.heap.size A n bs) (hb : Below w.heap.size w w') : RdB w' w'.heap.size A n bs := (h.below hb).more hb.size
end

theorem own_ne {w : World} {base : Nat} {e : TypeId} {size : Nat} {v : Value} {n : Nat} {xs : List Value} (h : w.ownsRow base e size v n xs) {b : Nat} (hb : b < base) : v.ownBlock ≠ some b :=
  fun he => by have := (h.lt b he).1; omega

theorem own_shape {w : World} {base : Nat} {e : TypeId} {size : Nat} {v : Value} {n : Nat} {xs : List Value} (h : w.ownsRow base e size v n xs) : ∃ A c, v = .slice A n c := by
  rcases h.2 with ⟨rfl, rfl⟩ | ⟨g, cap, cur, rfl, _⟩
  · exact ⟨_, _, rfl⟩
  · exact ⟨_, _, rfl⟩

def Blk (w : World) (g : Nat) (t : TypeId) (cs : Array Value) : Prop := w.heap[g]? = some (.cells cs t (0, 0))
section
variable {w w' : World} {g : Nat} {t : TypeId} {cs : Array Value}
theorem Blk.lt (h : Blk w g t cs) : g < w.heap.size := (Array.getElem?_eq_some_iff.1 h).1
theorem Blk.cell (h : Blk w g t cs) (i : Nat) : w.cell? ⟨g, i, none⟩ = cs[i]? := cell_of_row w g i cs t (0, 0) h
theorem Blk.frozen (h : Blk w g t cs) (i : Nat) : w.frozen? ⟨g, i, none⟩ = false := by unfold Blk at h; simp [World.frozen?, h]
theorem Blk.new (w : World) (t : TypeId) (cs : Array Value) : Blk (w.alloc (.cells cs t)) w.heap.size t cs := heap_alloc_new w _
theorem Blk.drew (h : Blk w g t cs) : Blk w.drew g t cs := h
theorem Blk.drewN (h : Blk w g t cs) (n : Nat) : Blk (w.drewN n) g t cs := h
theorem Blk.alloc (h : Blk w g t cs) (o : Obj) : Blk (w.alloc o) g t cs := (Below.heap_alloc w o g h.lt).trans h
theorem Blk.set_ (h : Blk w g t cs) (i : Nat) (u : Value) : Blk (w.setCell ⟨g, i, none⟩ u) g t (cs.setIfInBounds i u) := by
  unfold Blk at h ⊢
  simp [World.setCell, Array.getElem?_modify, h]
theorem Blk.far (h : Blk w g t cs) {p : Addr} (hp : g ≠ p.block) (u : Value) : Blk (w.setCell p u) g t cs := (Below.heap_setCell w p u g hp).trans h
theorem Blk.below {B : Nat} (h : Blk w g t cs) (hb : Below B w w') (hg : g < B) : Blk w' g t cs := (hb.block g hg).trans h
theorem Blk.grown {row : Option Nat} (h : Blk w g t cs) (hb : w.grownBy w' row) (hg : some g ≠ row) : Blk w' g t cs := (hb.block g h.lt hg).trans h
end

theorem wr64 {x : Int} (h1 : -9223372036854775808 ≤ x) (h2 : x ≤ 9223372036854775807) : IntKind.i64.wrap x = x := IntWalk.i64_in _ ⟨h1, h2⟩

theorem ret_int {k : IntKind} {a b : Int} (h : a = b) : Ending.returned (.int k a) = .returned (.int k b) := by rw [h]
theorem ret_bool {a b : Bool} (h : a = b) : Ending.returned (.bool a) = .returned (.bool b) := by rw [h]
theorem below_drewN {B : Nat} {a w : World} (h : Below B a w) (n : Nat) : Below B a (w.drewN n) := ⟨h.os, h.tape, h.output, h.size, h.block⟩

/-! ### A range of numbers, at 64 bits -/
def inR (lo hi n : Int) : Bool := decide (lo ≤ n) && decide (n ≤ hi)
theorem inR_iff {lo hi n : Int} : inR lo hi n = true ↔ lo ≤ n ∧ n ≤ hi := by simp [inR]

end Go.Proofs.YtlcgbnmmbheleaaGreat

namespace Go.Proofs.YtlcgbnmmbheleaaGreat

theorem all_iff_getD {xs : List Int} {p : Int → Bool} : xs.all p = true ↔ ∀ j, j < xs.length → p (xs[j]?.getD 0) = true := by
  rw [List.all_eq_true]
  constructor
  · intro h j hj
    rw [List.getElem?_eq_getElem hj]
    exact h _ (List.getElem_mem _)
  · intro h x hx
    obtain ⟨j, hj, rfl⟩ := List.getElem_of_mem hx
    have := h j hj
    rwa [List.getElem?_eq_getElem hj] at this

def vecOk (xs : List Int) : Bool := xs.length == 3 && xs.all (inR 0 20)
theorem vecOk_len {xs : List Int} (h : vecOk xs = true) : xs.length = 3 := by simp [vecOk] at h; exact h.1
theorem vecOk_bd {xs : List Int} (h : vecOk xs = true) (j : Nat) : 0 ≤ xs[j]?.getD 0 ∧ xs[j]?.getD 0 ≤ 20 := by
  simp only [vecOk, Bool.and_eq_true] at h
  by_cases hj : j < xs.length
  · exact inR_iff.1 (all_iff_getD.1 h.2 j hj)
  · rw [List.getElem?_eq_none (by omega)]; simp
theorem vecOk_of_all {xs : List Int} (h : ∀ j, j < xs.length → inR 0 20 (xs[j]?.getD 0) = true) : vecOk xs = (xs.length == 3) := by
  rw [vecOk, all_iff_getD.2 h, Bool.and_true]
theorem vecOk_no {xs : List Int} {k : Nat} (hk : k < xs.length) (h : inR 0 20 (xs[k]?.getD 0) = false) : vecOk xs = false := by
  rw [vecOk, Bool.and_eq_false_iff]; right
  rw [← Bool.not_eq_true, all_iff_getD]
  intro hh; rw [hh k hk] at h; cases h

def fits3 (a b : List Int) : Bool := decide (a[0]?.getD 0 ≤ b[0]?.getD 0) && decide (a[1]?.getD 0 ≤ b[1]?.getD 0) && decide (a[2]?.getD 0 ≤ b[2]?.getD 0)
theorem fits3_iff {a b : List Int} : fits3 a b = true ↔ ∀ j, j < 3 → a[j]?.getD 0 ≤ b[j]?.getD 0 := by
  simp only [fits3, Bool.and_eq_true, decide_eq_true_eq]
  constructor
  · intro h j hj
    match j, hj with
    | 0, _ => exact h.1.1
    | 1, _ => exact h.1.2
    | 2, _ => exact h.2
  · intro h; exact ⟨⟨h 0 (by omega), h 1 (by omega)⟩, h 2 (by omega)⟩
theorem fits3_no {a b : List Int} {k : Nat} (hk : k < 3) (h : b[k]?.getD 0 < a[k]?.getD 0) : fits3 a b = false := by
  rw [← Bool.not_eq_true, fits3_iff]; intro hh; have := hh k hk; omega

def vecFits (a b : List Int) : Bool := vecOk a && vecOk b && fits3 a b

def add3 (a b : List Int) : List Int := [a[0]?.getD 0 + b[0]?.getD 0, a[1]?.getD 0 + b[1]?.getD 0, a[2]?.getD 0 + b[2]?.getD 0]
theorem add3_at {a b : List Int} {j : Nat} (h : j < 3) : (add3 a b)[j]?.getD 0 = a[j]?.getD 0 + b[j]?.getD 0 := by
  match j, h with
  | 0, _ => rfl
  | 1, _ => rfl
  | 2, _ => rfl
@[simp] theorem add3_len (a b : List Int) : (add3 a b).length = 3 := rfl

def roomOk (r : List Int) : Bool := vecOk r && r.all (fun x => decide (1 ≤ x))

def loadP (ts : List Tk) : List Int := ts.foldl (fun s t => add3 s t.2) [0, 0, 0]

def hasP (ts : List Tk) (id : Int) : Bool := ts.any (fun t => t.1 == id)

def taskOk (room : List Int) (t : Tk) : Bool := inR 1 40 t.1 && vecFits t.2 room

def tasksOk (room : List Int) (ts : List Tk) : Bool := roomOk room && decide (ts.length ≤ 14) && ts.all (taskOk room) && decide ((ts.map (·.1)).Nodup)

def binsOk (room : List Int) (bs : List (List Tk)) : Bool := decide (bs.length ≤ 14) && tasksOk room bs.flatten && bs.all (fun b => fits3 (loadP b) room)

def whereP (bs : List (List Tk)) (id : Int) : Int := match bs.findIdx? (fun b => hasP b id) with | some i => i | none => -1

end Go.Proofs.YtlcgbnmmbheleaaGreat
