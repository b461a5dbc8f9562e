/- The lift of lone contracts, 1: an operation's run in a view of the world (some blocks of it emptied, another tape) and in the world itself: where the view's run yields a value, the world's own run yields the same. -/
import Derived.Conc.Beside
import Derived.Conc.Events
import Derived.Conc.LoneCalls
namespace Go.Proofs.Ytlcgbnmmbheleaa
open Go
set_option linter.unusedVariables false
set_option linter.unusedSimpArgs false

def resW {α : Type} : Result α → World
  | .ok _ w => w
  | .halt _ w => w

theorem ask_mono {α : Type} : ∀ (x : Ask α) (w : World), w.drawn ≤ (w.ask x).2.drawn
  | .done a, w => Nat.le_refl _
  | .ask what range k, w => by
    unfold World.ask
    dsimp only
    split
    · exact ask_mono _ w
    · exact Nat.le_trans (Nat.le_succ _) (ask_mono (k _) { w with drawn := w.drawn + 1 })
theorem sys_mono (w : World) (c : Sys) : w.drawn ≤ (w.sys c).2.drawn := by
  unfold World.sys
  have h := ask_mono (Kernel.perform c w.os) w
  split
  · exact Nat.le_refl _
  · rename_i r os w' h1 h2
    rw [h2] at h
    exact h

theorem viewStore_drawn {P : Program} {w w' : World} {at_ a : Addr} {u : TypeId} {v : Value} {b : Bool} {x : List Addr} (h : w.viewStore P at_ u a v b = .ok (w', x)) : w'.drawn = w.drawn := by
  unfold World.viewStore at h
  simp only [bind, Except.bind, pure, Except.pure] at h
  repeat' (split at h)
  all_goals first | (cases h; rfl) | cases h | skip

theorem run_mono {α : Type} (P : Program) (s : Sem α) (w : World) : w.drawn ≤ (resW (s.run P w)).drawn := by
  induction s generalizing w with
  | pure a => exact Nat.le_refl _
  | load m a k ih =>
    simp only [Sem.run]
    split
    · exact ih _ _
    · split
      · exact ih _ _
      · exact Nat.le_refl _
  | store m a v k ih =>
    have key : w.drawn ≤ (resW (match w.cell? a with
      | some _ => if w.frozen? a then .halt (.unsupported (.unsafePointer "a write to bytes that a string shares")) w else k.run P (w.setCell a v)
      | none => match w.farStore P a v (m == .atomic) with
        | .ok (w, _) => k.run P w
        | .error h => .halt h w)).drawn := by
      split
      · split
        · exact Nat.le_refl _
        · exact ih (w.setCell a v)
      · split
        · rename_i w' x hf
          have : w'.drawn = w.drawn := by
            unfold World.farStore at hf
            split at hf
            · split at hf
              · rename_i y he
                cases hf
                exact viewStore_drawn he
              · cases hf
            · cases hf
          rw [← this]; exact ih w'
        · exact Nat.le_refl _
    cases v <;> first | exact key | exact Nat.le_refl _
  | new o k ih => exact ih _ { w with heap := w.heap.push o }
  | shape r k ih => exact ih _ w
  | freeze a n k ih =>
    have := ih (w.freeze a n)
    have e : (w.freeze a n).drawn = w.drawn := by unfold World.freeze; split <;> rfl
    rw [e] at this; exact this
  | frozen a k ih => exact ih _ w
  | getObj r k ih =>
    simp only [Sem.run]
    split
    · exact Nat.le_refl _
    · exact ih _ w
    · exact Nat.le_refl _
  | setObj r o k ih =>
    simp only [Sem.run]
    split
    · exact Nat.le_refl _
    · exact ih { w with heap := w.heap.setIfInBounds r o }
    · exact Nat.le_refl _
  | choose q k ih =>
    simp only [Sem.run]
    split
    · exact ih _ w
    · exact Nat.le_trans (Nat.le_succ _) (ih _ { w with drawn := w.drawn + 1 })
  | sys c k ih => exact Nat.le_trans (sys_mono w c) (ih _ (w.sys c).2)
  | program k ih => exact ih _ w
  | mark m k ih => exact ih w
  | halt h => exact Nat.le_refl _

/-! ### a view of a world -/
structure ViewOf (S H : Nat → Prop) (v w : World) : Prop where
  os : v.os = w.os
  output : v.output = w.output
  size : v.heap.size = w.heap.size
  same : ∀ b : Nat, ¬ S b → ¬ H b → v.heap[b]? = w.heap[b]?
  dead : ∀ b : Nat, S b → ∃ cs ty fr, w.heap[b]? = some (.cells cs ty fr) ∧ v.heap[b]? = some (.cells #[] ty fr)
  hid : ∀ b : Nat, H b → (∃ cs ty, w.heap[b]? = some (.pending cs ty) ∧ v.heap[b]? = some (.coro none)) ∨ ∃ a u, w.heap[b]? = some (.view a u) ∧ v.heap[b]? = some (.view ⟨0, 0, some 0⟩ 0)
  plain : ∀ (b : Nat) (cs : Array Value) (ty : TypeId), v.heap[b]? ≠ some (.pending cs ty)
  views : ∀ (b : Nat) (a : Addr) (u : TypeId), v.heap[b]? = some (.view a u) → a.spot.isSome = true

def oddObj : Obj → Bool
  | .pending .. | .view .. => true
  | _ => false

def Agree (v w : World) (n : Nat) : Prop := ∀ i, i < n → ∀ q, v.tape (v.drawn + i) q = w.tape (w.drawn + i) q

def okHalt : Halt → Prop
  | .panic _ | .stuck _ => True
  | .unsupported (.initOrder _) => False
  | .unsupported _ => True
  | _ => False

def tameE (S : Nat → Prop) (N : Nat) (e : Event) : Prop :=
  match e.loc with
  | .cell a => ¬ S a.block ∧ a.block < N
  | .obj r => ¬ S r ∧ r < N
  | .mark .disable | .mark .enable | .mark (.acquire _) | .mark (.release _) | .mark (.releaseMerge _) | .mark (.read _) | .mark (.write _) => False
  | .mark _ => True
  | _ => False

theorem tameE.mono {S : Nat → Prop} {N M : Nat} {e : Event} (h : tameE S N e) (hm : N ≤ M) : tameE S M e := by
  unfold tameE at *
  split <;> simp_all <;> omega

structure Onto (S H : Nat → Prop) (n : Nat) (w w' : World) : Prop where
  tape : w'.tape = w.tape
  drawn : w'.drawn = w.drawn + n
  size : w.heap.size ≤ w'.heap.size
  kept : ∀ b : Nat, S b ∨ H b → w'.heap[b]? = w.heap[b]?

theorem Onto.refl (S H : Nat → Prop) (w : World) : Onto S H 0 w w := ⟨rfl, rfl, Nat.le_refl _, fun _ _ => rfl⟩
theorem Onto.trans {S H : Nat → Prop} {n m : Nat} {a b c : World} (h : Onto S H n a b) (k : Onto S H m b c) : Onto S H (n + m) a c :=
  ⟨k.tape.trans h.tape, by rw [k.drawn, h.drawn]; omega, Nat.le_trans h.size k.size, fun b hb => (k.kept b hb).trans (h.kept b hb)⟩

def tamed (S : Nat → Prop) (N : Nat) (es es' : Array Event) : Prop := ∀ e ∈ es', e ∈ es ∨ tameE S N e

def LikeAt {α : Type} (P : Program) (S H : Nat → Prop) (ok : α → Prop) (s : Sem α) (v w : World) : Prop :=
  (∃ h v', s.run P v = .halt h v' ∧ okHalt h) ∨
  ∃ n a v' w', s.run P v = .ok a v' ∧ s.run P w = .ok a w' ∧ ok a ∧ ViewOf S H v' w' ∧ Onto S H n v v' ∧ Onto S H n w w' ∧ (∀ es, tamed S w'.heap.size es (s.events P w es)) ∧ ∀ es, s.events P v es = s.events P w es

def Like {α : Type} (P : Program) (S H : Nat → Prop) (ok : α → Prop) (s : Sem α) : Prop :=
  ∀ v w, ViewOf S H v w → Agree v w ((resW (s.run P w)).drawn - w.drawn) → LikeAt P S H ok s v w

def Dies {α : Type} (P : Program) (s : Sem α) : Prop := ∀ w : World, ∃ h w', s.run P w = .halt h w' ∧ okHalt h
def WellHalts {α : Type} (P : Program) (s : Sem α) : Prop := ∀ w h w', s.run P w = .halt h w' → okHalt h

section
variable {P : Program} {S H : Nat → Prop} {α β : Type}

theorem dies_bind {s : Sem α} {f : α → Sem β} (hs : WellHalts P s) (hf : ∀ a, Dies P (f a)) : Dies P (s.bind f) := fun w => by
  rw [Sem.run_bind']
  cases hr : s.run P w with
  | halt h w' => exact ⟨h, w', rfl, hs w h w' hr⟩
  | ok a w' => exact hf a w'
theorem dies_halt {h : Halt} (hh : okHalt h) : Dies P (Sem.halt h : Sem α) := fun w => ⟨h, w, rfl, hh⟩
theorem well_bind {s : Sem α} {f : α → Sem β} (hs : WellHalts P s) (hf : ∀ a, WellHalts P (f a)) : WellHalts P (s.bind f) := fun w h w' e => by
  rw [Sem.run_bind'] at e
  cases hr : s.run P w with
  | halt h1 w1 => rw [hr] at e; cases e; exact hs w _ _ hr
  | ok a w1 => rw [hr] at e; exact hf a w1 h w' e
theorem well_pure (a : α) : WellHalts P (Sem.pure a) := fun w h w' e => by cases e
theorem well_halt {h : Halt} (hh : okHalt h) : WellHalts P (Sem.halt h : Sem α) := fun w h' w' e => by cases e; exact hh
theorem Dies.well {s : Sem α} (h : Dies P s) : WellHalts P s := fun w x w' e => by
  obtain ⟨h1, w1, e1, o⟩ := h w
  rw [e1] at e; cases e; exact o
theorem like_dies {ok : α → Prop} {s : Sem α} (h : Dies P s) : Like P S H ok s := fun v w _ _ => .inl (h v)

theorem Like.mono {ok ok' : α → Prop} {s : Sem α} (h : Like P S H ok s) (hk : ∀ a, ok a → ok' a) : Like P S H ok' s := fun v w hv ha => by
  rcases h v w hv ha with x | ⟨n, a, v', w', h1, h2, h3, h4⟩
  · exact .inl x
  · exact .inr ⟨n, a, v', w', h1, h2, hk a h3, h4⟩

theorem like_pure {ok : α → Prop} {a : α} (h : ok a) : Like P S H ok (Sem.pure a) := fun v w hv _ =>
  .inr ⟨0, a, v, w, rfl, rfl, h, hv, .refl S H v, .refl S H w, fun es e he => .inl he, fun es => rfl⟩

theorem like_halt {ok : α → Prop} {h : Halt} (hh : okHalt h) : Like P S H ok (Sem.halt h : Sem α) := fun v w _ _ => .inl ⟨h, v, rfl, hh⟩

theorem like_bind {ok1 : α → Prop} {ok : β → Prop} {s : Sem α} {f : α → Sem β} (h1 : Like P S H ok1 s) (h2 : ∀ a, ok1 a → Like P S H ok (f a)) : Like P S H ok (s.bind f) := by
  intro v w hv ha
  have e1 := Sem.run_bind' P s f w
  have m1 := run_mono P s w
  have hpre : Agree v w ((resW (s.run P w)).drawn - w.drawn) := by
    intro i hi q
    refine ha i ?_ q
    rw [e1]
    cases hr : s.run P w with
    | halt h w1 => rw [hr] at hi; exact hi
    | ok a w1 =>
      rw [hr] at hi m1
      have m2 := run_mono P (f a) w1
      have hi' : i < w1.drawn - w.drawn := hi
      have m1' : w.drawn ≤ w1.drawn := m1
      show i < (resW ((f a).run P w1)).drawn - w.drawn
      omega
  rcases h1 v w hv hpre with ⟨h, v', hh, ho⟩ | ⟨n, a, v1, w1, q1, q2, q3, q4, q5, q6, q7, q8⟩
  · refine .inl ⟨h, v', ?_, ho⟩
    rw [Sem.run_bind', hh]; rfl
  · have e2 : (s.bind f).run P w = (f a).run P w1 := by rw [e1, q2]; rfl
    have e3 : (s.bind f).run P v = (f a).run P v1 := by rw [Sem.run_bind', q1]; rfl
    have ha2 : Agree v1 w1 ((resW ((f a).run P w1)).drawn - w1.drawn) := by
      intro i hi q
      rw [q5.tape, q6.tape, q5.drawn, q6.drawn, Nat.add_assoc, Nat.add_assoc]
      refine ha (n + i) ?_ q
      rw [e2]
      have := q6.drawn
      omega
    rcases h2 a q3 v1 w1 q4 ha2 with ⟨h, v', hh, ho⟩ | ⟨m, b, v2, w2, r1, r2, r3, r4, r5, r6, r7, r8⟩
    · exact .inl ⟨h, v', by rw [e3, hh], ho⟩
    · refine .inr ⟨n + m, b, v2, w2, by rw [e3, r1], by rw [e2, r2], r3, r4, q5.trans r5, q6.trans r6, fun es e he => ?_, fun es => ?_⟩
      · rw [Sem.events_bind', q2] at he
        rcases r7 _ e he with x | x
        · exact (q7 es e x).imp id (·.mono r6.size)
        · exact .inr x
      · rw [Sem.events_bind', Sem.events_bind', q1, q2, Result.evThen_ok, Result.evThen_ok, q8]; exact r8 _

/-! ### the primitives -/
theorem far_error {v w : World} (hv : ViewOf S H v w) {a : Addr} (m : Bool) :
    (∃ h, v.farLoad P a m = .error h ∧ okHalt h) ∧ ∀ x, ∃ h, v.farStore P a x m = .error h ∧ okHalt h := by
  unfold World.farLoad World.farStore World.noCell
  cases ho : v.heap[a.block]? with
  | none => exact ⟨⟨_, rfl, trivial⟩, fun x => ⟨_, rfl, trivial⟩⟩
  | some o =>
    cases o with
    | view at_ u =>
      have hsp := hv.views _ _ _ ho
      have hse : ∀ b, ∃ e, v.seen P at_ u a b = .error e := fun b => by
        unfold World.seen
        rw [hsp, Bool.or_true]
        exact ⟨_, rfl⟩
      obtain ⟨e, he⟩ := hse m
      constructor
      · have : v.viewLoad P at_ u a m = .error e := by unfold World.viewLoad; rw [he]; rfl
        exact ⟨.unsupported (.unsafePointer e), by simp only [this], trivial⟩
      · intro x
        have : ∃ e, v.viewStore P at_ u a x m = .error e := by
          unfold World.viewStore
          rw [he]
          cases tight P P.depth u <;> exact ⟨_, rfl⟩
        obtain ⟨e', this⟩ := this
        exact ⟨.unsupported (.unsafePointer e'), by simp only [this], trivial⟩
    | pending c t => exact absurd ho (hv.plain _ _ _)
    | _ => exact ⟨⟨_, rfl, trivial⟩, fun x => ⟨_, rfl, trivial⟩⟩

theorem cell_view {v w : World} (hv : ViewOf S H v w) {a : Addr} (hs : ¬ S a.block) (hh : ¬ H a.block) : v.cell? a = w.cell? a := by
  unfold World.cell?; rw [hv.same _ hs hh]
theorem cell_gone {v w : World} (hv : ViewOf S H v w) {a : Addr} (h : S a.block ∨ H a.block) : v.cell? a = none := by
  unfold World.cell?
  rcases h with hs | hh
  · obtain ⟨_, ty, fr, _, h⟩ := hv.dead _ hs; rw [h]; simp
  · rcases hv.hid _ hh with ⟨_, _, _, h⟩ | ⟨_, _, _, h⟩ <;> rw [h]

theorem cell_lt {w : World} {a : Addr} {x : Value} (h : w.cell? a = some x) : a.block < w.heap.size := by
  unfold World.cell? at h
  cases hb : w.heap[a.block]? with
  | none => simp [hb] at h
  | some o => exact (Array.getElem?_eq_some_iff.1 hb).1

theorem like_load (a : Addr) (m : Mode) : Like P S H (fun _ => True) (load a m) := by
  intro v w hv _
  cases hx : v.cell? a with
  | none =>
    obtain ⟨⟨h, h1, h2⟩, _⟩ := far_error (P := P) hv (a := a) (m == .atomic)
    exact .inl ⟨h, v, by simp only [load, Sem.run, hx, h1], h2⟩
  | some x =>
    have hg : ¬ (S a.block ∨ H a.block) := fun h => by rw [cell_gone hv h] at hx; cases hx
    have hs : ¬ S a.block := fun x => hg (.inl x)
    have hh : ¬ H a.block := fun x => hg (.inr x)
    have hx' : w.cell? a = some x := by rw [← cell_view hv hs hh, hx]
    refine .inr ⟨0, x, v, w, by simp only [load, Sem.run, hx], by simp only [load, Sem.run, hx'], trivial, hv, .refl S H v, .refl S H w, fun es e he => ?_, fun es => by rw [events_load, events_load, hx, hx']⟩
    rw [events_load, hx'] at he
    rcases Array.mem_push.1 he with h | h
    · exact .inl h
    · subst h; exact .inr ⟨hs, cell_lt hx'⟩

theorem put_view {v w : World} (hv : ViewOf S H v w) {r : Nat} (hs : ¬ S r) (hh : ¬ H r) {o : Obj} (ho : oddObj o = false) : ViewOf S H { v with heap := v.heap.setIfInBounds r o } { w with heap := w.heap.setIfInBounds r o } := by
  refine ⟨hv.os, hv.output, by simp [hv.size], fun b hb hc => ?_, fun b hb => ?_, fun b hb => ?_, fun b cs ty h => ?_, fun b a u h => ?_⟩
  · simp only [Array.getElem?_setIfInBounds, hv.size]
    split
    · rfl
    · exact hv.same _ hb hc
  · have hne : r ≠ b := fun e => hs (e ▸ hb)
    simp only [Array.getElem?_setIfInBounds, if_neg hne]
    exact hv.dead b hb
  · have hne : r ≠ b := fun e => hh (e ▸ hb)
    simp only [Array.getElem?_setIfInBounds, if_neg hne]
    exact hv.hid b hb
  · simp only [Array.getElem?_setIfInBounds] at h
    split at h
    · split at h
      · cases h; cases ho
      · cases h
    · exact hv.plain _ _ _ h
  · simp only [Array.getElem?_setIfInBounds] at h
    split at h
    · split at h
      · cases h; cases ho
      · cases h
    · exact hv.views _ _ _ h
theorem put_onto (w : World) {r : Nat} (hs : ¬ S r) (hh : ¬ H r) (o : Obj) : Onto S H 0 w { w with heap := w.heap.setIfInBounds r o } :=
  ⟨rfl, rfl, by simp, fun b hb => by
    have hne : r ≠ b := fun e => by subst e; exact hb.elim hs hh
    simp only [Array.getElem?_setIfInBounds, if_neg hne]⟩

theorem setCell_put (w : World) (a : Addr) (x : Value) {c : Array Value} {e : TypeId} {f : Nat × Nat} (h : w.heap[a.block]? = some (.cells c e f)) :
    w.setCell a x = { w with heap := w.heap.setIfInBounds a.block (.cells (if a.spot.isSome then c else c.setIfInBounds a.off x) e f) } := by
  have hb := (Array.getElem?_eq_some_iff.1 h).1
  have e1 : w.heap.modify a.block (fun
      | .cells c elem frozen => .cells (if a.spot.isSome then c else c.setIfInBounds a.off x) elem frozen
      | o => o) = w.heap.setIfInBounds a.block (.cells (if a.spot.isSome then c else c.setIfInBounds a.off x) e f) := by
    apply Array.ext_getElem?
    intro j
    simp only [Array.getElem?_modify, Array.getElem?_setIfInBounds]
    split
    · rename_i hj
      subst hj
      rw [h]
      rfl
    · rfl
  exact congrArg (fun hp => ({ w with heap := hp } : World)) e1

theorem setCell_view {v w : World} (hv : ViewOf S H v w) {a : Addr} (hs : ¬ S a.block) (hh : ¬ H a.block) {y : Value} (hc : v.cell? a = some y) (x : Value) :
    ViewOf S H (v.setCell a x) (w.setCell a x) ∧ Onto S H 0 v (v.setCell a x) ∧ Onto S H 0 w (w.setCell a x) := by
  have hb : ∃ c e f, v.heap[a.block]? = some (.cells c e f) := by
    unfold World.cell? at hc
    split at hc
    · rename_i c e f h; exact ⟨c, e, f, h⟩
    · cases hc
  obtain ⟨c, e, f, hb⟩ := hb
  have hb' : w.heap[a.block]? = some (.cells c e f) := by rw [← hv.same _ hs hh, hb]
  rw [setCell_put v a x hb, setCell_put w a x hb']
  exact ⟨put_view hv hs hh rfl, put_onto v hs hh _, put_onto w hs hh _⟩

theorem like_store (a : Addr) (x : Value) (m : Mode) : Like P S H (fun _ => True) (store a x m) := by
  intro v w hv _
  by_cases hx1 : x.oneCell' = true
  · cases hx : v.cell? a with
    | none =>
      obtain ⟨h, h1, h2⟩ := (far_error (P := P) hv (a := a) (m == .atomic)).2 x
      exact .inl ⟨h, v, by cases x <;> first | (simp [Value.oneCell'] at hx1; done) | simp only [store, Sem.run, hx, h1], h2⟩
    | some y =>
      have hg : ¬ (S a.block ∨ H a.block) := fun h => by rw [cell_gone hv h] at hx; cases hx
      have hs : ¬ S a.block := fun x => hg (.inl x)
      have hh : ¬ H a.block := fun x => hg (.inr x)
      have hx' : w.cell? a = some y := by rw [← cell_view hv hs hh, hx]
      have hfz : v.frozen? a = w.frozen? a := by unfold World.frozen?; rw [hv.same _ hs hh]
      cases hz : v.frozen? a with
      | true => exact .inl ⟨.unsupported (.unsafePointer "a write to bytes that a string shares"), v, by cases x <;> first | (simp [Value.oneCell'] at hx1; done) | simp only [store, Sem.run, hx, hz, if_true], trivial⟩
      | false =>
        have hz' : w.frozen? a = false := by rw [← hfz, hz]
        obtain ⟨g1, g2, g3⟩ := setCell_view hv hs hh hx x
        refine .inr ⟨0, (), v.setCell a x, w.setCell a x, ?_, ?_, trivial, g1, g2, g3, fun es e he => ?_, fun es => by rw [events_store P v es a x m hx1, events_store P w es a x m hx1, hx, hx']; simp only [hz, hz']⟩
        · cases x <;> first | (simp [Value.oneCell'] at hx1; done) | simp [store, Sem.run, hx, hz]
        · cases x <;> first | (simp [Value.oneCell'] at hx1; done) | simp [store, Sem.run, hx', hz']
        · rw [events_store P w es a x m hx1, hx'] at he
          simp only [hz', Bool.false_eq_true, if_false] at he
          rcases Array.mem_push.1 he with h | h
          · exact .inl h
          · subst h
            refine .inr ⟨hs, ?_⟩
            have := cell_lt hx'
            have := g3.size
            show a.block < _
            omega
  · refine .inl ⟨.stuck "store: not the value of one cell", v, ?_, trivial⟩
    cases x <;> first | (simp [Value.oneCell'] at hx1; done) | rfl

theorem push_view {v w : World} (hv : ViewOf S H v w) {o : Obj} (ho : oddObj o = false) :
    ViewOf S H { v with heap := v.heap.push o } { w with heap := w.heap.push o } ∧ Onto S H 0 v { v with heap := v.heap.push o } ∧ Onto S H 0 w { w with heap := w.heap.push o } := by
  have hsz := hv.size
  have hlt : ∀ b, S b ∨ H b → b < w.heap.size := fun b hb => by
    rcases hb with hs | hh
    · obtain ⟨_, _, _, h, _⟩ := hv.dead b hs; exact (Array.getElem?_eq_some_iff.1 h).1
    · rcases hv.hid b hh with ⟨_, _, h, _⟩ | ⟨_, _, h, _⟩ <;> exact (Array.getElem?_eq_some_iff.1 h).1
  have old : ∀ (u : World) b, b < u.heap.size → ({ u with heap := u.heap.push o } : World).heap[b]? = u.heap[b]? := fun u b hb => by
    simp only [Array.getElem?_push]; rw [if_neg (by omega)]
  refine ⟨⟨hv.os, hv.output, by simp [hsz], fun b hs hh => ?_, fun b hb => ?_, fun b hb => ?_, fun b cs ty h => ?_, fun b a u h => ?_⟩, ⟨rfl, rfl, by simp, fun b hb => old v b (by rw [hsz]; exact hlt b hb)⟩, ⟨rfl, rfl, by simp, fun b hb => old w b (hlt b hb)⟩⟩
  · simp only [Array.getElem?_push, hsz]
    split
    · rfl
    · exact hv.same _ hs hh
  · rw [old v b (by rw [hsz]; exact hlt b (.inl hb)), old w b (hlt b (.inl hb))]; exact hv.dead b hb
  · rw [old v b (by rw [hsz]; exact hlt b (.inr hb)), old w b (hlt b (.inr hb))]; exact hv.hid b hb
  · simp only [Array.getElem?_push] at h
    split at h
    · cases h; cases ho
    · exact hv.plain _ _ _ h
  · simp only [Array.getElem?_push] at h
    split at h
    · cases h; cases ho
    · exact hv.views _ _ _ h

theorem like_newObj {o : Obj} (ho : oddObj o = false) : Like P S H (fun _ => True) (newObj o) := fun v w hv _ =>
  let ⟨g1, g2, g3⟩ := push_view hv ho
  .inr ⟨0, v.heap.size, _, _, rfl, by simp [newObj, Sem.run, hv.size], trivial, g1, g2, g3, fun es e he => .inl he, fun es => rfl⟩

theorem like_choose (q : Question) : Like P S H (fun _ => True) (choose q) := by
  intro v w hv ha
  cases hf : q.forced with
  | true => exact .inr ⟨0, 0, v, w, by simp [choose, Sem.run, hf], by simp [choose, Sem.run, hf], trivial, hv, .refl S H v, .refl S H w, fun es e he => by rw [events_choose] at he; exact .inl he, fun es => by rw [events_choose, events_choose]⟩
  | false =>
    have ew : (choose q).run P w = .ok (q.cut (w.tape w.drawn q)) { w with drawn := w.drawn + 1 } := by simp [choose, Sem.run, hf]
    have e0 : v.tape v.drawn q = w.tape w.drawn q := by
      have := ha 0 (by rw [ew]; show 0 < w.drawn + 1 - w.drawn; omega) q
      simpa using this
    have ev : (choose q).run P v = .ok (q.cut (w.tape w.drawn q)) { v with drawn := v.drawn + 1 } := by simp [choose, Sem.run, hf, e0]
    exact .inr ⟨1, _, _, _, ev, ew, trivial, ⟨hv.os, hv.output, hv.size, hv.same, hv.dead, hv.hid, hv.plain, hv.views⟩, ⟨rfl, rfl, Nat.le_refl _, fun _ _ => rfl⟩, ⟨rfl, rfl, Nat.le_refl _, fun _ _ => rfl⟩, fun es e he => by rw [events_choose] at he; exact .inl he, fun es => by rw [events_choose, events_choose]⟩

theorem like_program : Like P S H (fun p => p = P) program := fun v w hv _ => .inr ⟨0, P, v, w, rfl, rfl, rfl, hv, .refl S H v, .refl S H w, fun es e he => .inl he, fun es => rfl⟩

theorem like_mark {m : Mark} (hm : ∀ N, tameE S N ⟨.mark m, false, true⟩) : Like P S H (fun _ => True) (mark m) := fun v w hv _ =>
  .inr ⟨0, (), v, w, rfl, rfl, trivial, hv, .refl S H v, .refl S H w, fun es e he => by
    rw [events_mark] at he
    rcases Array.mem_push.1 he with h | h
    · exact .inl h
    · subst h; exact .inr (hm _), fun es => rfl⟩

theorem like_getObj {ok : β → Prop} (r : Nat) {f : Obj → Sem β} (h1 : ¬ S r → ¬ H r → ∀ o, oddObj o = false → Like P S H ok (f o)) (h2 : Dies P (f (.coro none))) (h3 : Dies P (f (.view ⟨0, 0, some 0⟩ 0))) (h4 : ∀ a u, Dies P (f (.view a u))) :
    Like P S H ok ((getObj r).bind f) := by
  intro v w hv ha
  cases ho : v.heap[r]? with
  | none => exact .inl ⟨.stuck "getObj: no such block", v, by rw [Sem.run_bind']; simp [getObj, Sem.run, ho, Result.andThen], trivial⟩
  | some o =>
    by_cases hc : ∃ c e f, o = .cells c e f
    · obtain ⟨c, e, g, rfl⟩ := hc
      exact .inl ⟨.stuck "getObj: a row of cells", v, by rw [Sem.run_bind']; simp [getObj, Sem.run, ho, Result.andThen], trivial⟩
    · have run1 : ∀ u : World, u.heap[r]? = some o → (getObj r).run P u = .ok o u := fun u hu => by
        cases o <;> first | exact absurd ⟨_, _, _, rfl⟩ hc | simp only [getObj, Sem.run, hu]
      have hs : ¬ S r := fun hs => by
        obtain ⟨_, ty, fr, _, h⟩ := hv.dead r hs
        rw [h] at ho; cases ho; exact hc ⟨_, _, _, rfl⟩
      by_cases hh : H r
      · have hd : Dies P (f o) := by
          rcases hv.hid r hh with ⟨_, _, _, h⟩ | ⟨_, _, _, h⟩ <;> rw [h] at ho <;> cases ho
          · exact h2
          · exact h3
        obtain ⟨x, v', e1, e2⟩ := hd v
        exact .inl ⟨x, v', by rw [Sem.run_bind', run1 v ho]; exact e1, e2⟩
      · have ho' : w.heap[r]? = some o := by rw [← hv.same _ hs hh, ho]
        cases hodd : oddObj o with
        | true =>
          cases o <;> first | (cases hodd; done) | skip
          · exact absurd ho (hv.plain _ _ _)
          · rename_i a u
            obtain ⟨x, v', e1, e2⟩ := h4 a u v
            exact .inl ⟨x, v', by rw [Sem.run_bind', run1 v ho]; exact e1, e2⟩
        | false =>
          have e3 : ∀ es, (getObj r).events P w es = es.push ⟨.obj r, false, o.isChan⟩ := fun es => by
            unfold Sem.events
            cases o <;> first | exact absurd ⟨_, _, _, rfl⟩ hc | simp only [getObj, Sem.runT, ho']
          have ev : ((getObj r).bind f).run P v = (f o).run P v := by rw [Sem.run_bind', run1 v ho]; rfl
          have ew : ((getObj r).bind f).run P w = (f o).run P w := by rw [Sem.run_bind', run1 w ho']; rfl
          rw [ew] at ha
          rcases h1 hs hh o hodd v w hv ha with ⟨x, v', e1, e2⟩ | ⟨n, a, v', w', q1, q2, q3, q4, q5, q6, q7, q8⟩
          · exact .inl ⟨x, v', by rw [ev]; exact e1, e2⟩
          · have e4 : ∀ es, (getObj r).events P v es = es.push ⟨.obj r, false, o.isChan⟩ := fun es => by
              unfold Sem.events
              cases o <;> first | exact absurd ⟨_, _, _, rfl⟩ hc | simp only [getObj, Sem.runT, ho]
            refine .inr ⟨n, a, v', w', by rw [ev]; exact q1, by rw [ew]; exact q2, q3, q4, q5, q6, fun es e he => ?_, fun es => by rw [Sem.events_bind', Sem.events_bind', run1 v ho, run1 w ho', Result.evThen_ok, Result.evThen_ok, e3, e4]; exact q8 _⟩
            rw [Sem.events_bind', run1 w ho'] at he
            have he' : e ∈ (f o).events P w ((getObj r).events P w es) := he
            rcases q7 _ e he' with x | x
            · rw [e3] at x
              rcases Array.mem_push.1 x with h | h
              · exact .inl h
              · subst h
                have := (Array.getElem?_eq_some_iff.1 ho').1
                have := q6.size
                exact .inr ⟨hs, by omega⟩
            · exact .inr x

theorem like_setObj {r : Nat} (hs : ¬ S r) (hh : ¬ H r) {o : Obj} (hodd : oddObj o = false) : Like P S H (fun _ => True) (setObj r o) := by
  intro v w hv _
  have e := hv.same _ hs hh
  cases ho : v.heap[r]? with
  | none => exact .inl ⟨.stuck "setObj: no such block", v, by simp only [setObj, Sem.run, ho], trivial⟩
  | some o1 =>
    have ho' : w.heap[r]? = some o1 := by rw [← e, ho]
    by_cases hc : ∃ c e f, o1 = .cells c e f
    · obtain ⟨c, e, f, rfl⟩ := hc
      exact .inl ⟨.stuck "setObj: a row of cells", v, by simp only [setObj, Sem.run, ho], trivial⟩
    · have e1 : (setObj r o).run P v = .ok () { v with heap := v.heap.setIfInBounds r o } := by
        cases o1 <;> first | exact absurd ⟨_, _, _, rfl⟩ hc | simp only [setObj, Sem.run, ho]
      have e2 : (setObj r o).run P w = .ok () { w with heap := w.heap.setIfInBounds r o } := by
        cases o1 <;> first | exact absurd ⟨_, _, _, rfl⟩ hc | simp only [setObj, Sem.run, ho']
      refine .inr ⟨0, (), _, _, e1, e2, trivial, put_view hv hs hh hodd, put_onto v hs hh o, put_onto w hs hh o, fun es e he => ?_, fun es => by
        unfold Sem.events
        cases o1 <;> first | exact absurd ⟨_, _, _, rfl⟩ hc | simp only [setObj, Sem.runT, ho, ho']⟩
      have e3 : (setObj r o).events P w es = es.push ⟨.obj r, true, o.isChan⟩ := by
        unfold Sem.events
        cases o1 <;> first | exact absurd ⟨_, _, _, rfl⟩ hc | simp only [setObj, Sem.runT, ho']
      rw [e3] at he
      rcases Array.mem_push.1 he with h | h
      · exact .inl h
      · subst h
        refine .inr ⟨hs, ?_⟩
        have := (Array.getElem?_eq_some_iff.1 ho').1
        simpa using this
end
end Go.Proofs.Ytlcgbnmmbheleaa
