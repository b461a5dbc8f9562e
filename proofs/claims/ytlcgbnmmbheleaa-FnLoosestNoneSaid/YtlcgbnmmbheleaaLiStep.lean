/- The lift of lone contracts, 3: which code is plain (a check by program over its operations), and one step of a goroutine that runs plain code: in a view of the world as in the world itself. -/
import Derived.Test.YtlcgbnmmbheleaaV1
namespace Go.Proofs.Ytlcgbnmmbheleaa
open Go
set_option linter.unusedVariables false
set_option linter.unusedSimpArgs false

structure Ana where
  fs : List FuncId
  trs : List (FuncId × Tmp × List FuncId)
  bs : List FuncId := []
def Ana.inF (A : Ana) (f : FuncId) : Bool := A.fs.contains f
def Ana.inB (A : Ana) (f : FuncId) : Bool := A.fs.contains f || A.bs.contains f
theorem Ana.inB_of {A : Ana} {f : FuncId} (h : A.inF f = true) : A.inB f = true := by unfold Ana.inB; unfold Ana.inF at h; rw [h]; rfl
def Ana.tr (A : Ana) (f : FuncId) (t : Tmp) : List FuncId := ((A.trs.find? fun e => e.1 == f && e.2.1 == t).map (·.2.2)).getD []
def Ana.noTr (A : Ana) (f : FuncId) : Bool := A.trs.all fun e => e.1 != f
theorem Ana.noTr_spec {A : Ana} {f : FuncId} (h : A.noTr f = true) (t : Tmp) : A.tr f t = [] := by
  unfold Ana.tr
  have : (A.trs.find? fun e => e.1 == f && e.2.1 == t) = none := by
    rw [List.find?_eq_none]
    intro e he hc
    have := (List.all_eq_true.1 h) e he
    simp at this hc
    exact this hc.1
  rw [this]; rfl

def okVal (ids : List FuncId) (v : Value) : Prop := v = undef ∨ ∃ g first cap, g ∈ ids ∧ v = .func (.func g) first cap
theorem okVal.mono {ids ids' : List FuncId} {v : Value} (h : okVal ids v) (hs : ∀ g ∈ ids, g ∈ ids') : okVal ids' v := by
  rcases h with h | ⟨g, a, b, hg, h⟩
  · exact .inl h
  · exact .inr ⟨g, a, b, hs g hg, h⟩

def plainTB (P : Program) (t : TypeId) : Bool := match P.underlying t with
  | some (.int _) | some .bool => true
  | _ => false
def intTB (P : Program) (t : TypeId) : Bool := match P.underlying t with
  | some (.int _) => true
  | _ => false
def mapTB (P : Program) (t : TypeId) : Bool := match P.underlying t with
  | some (.map k _) => plainTB P k
  | _ => false
def sliceTB (P : Program) (t : TypeId) : Bool := match P.underlying t with
  | some (.slice _) => true
  | _ => false
def tracked (A : Ana) (f : FuncId) (ids : List FuncId) : Operand → Bool
  | .tmp t => A.tr f t != [] && (A.tr f t).all (ids.contains ·)
  | .func g => ids.contains g
  | _ => false
def callOK (P : Program) (A : Ana) (f : FuncId) (c : Call) : Bool := match c.callee with
  | .builtin .append | .builtin .max | .builtin .min => true
  | .builtin .len | .builtin .cap => (c.argTypes[0]?).all (sliceTB P)
  | .value (.func g) => A.inF g && (List.range c.args.size).all fun i => A.tr g i == [] || (c.args[i]?).all (tracked A f (A.tr g i))
  | .value (.tmp t) => A.tr f t != [] && (A.tr f t).all fun g => A.inF g && A.noTr g
  | _ => false
def kindOK (P : Program) (A : Ana) (f : FuncId) : Op → Bool
  | .move _ | .assign _ | .pick .. | .alloc _ | .box .. | .buildSlice .. | .load .. | .store .. | .unOp .. | .makeInterface .. | .makeMap .. | .makeSlice .. | .fieldAddr .. | .indexAddr .. | .extract .. | .panic _ | .build .. | .slice .. | .nilCheck _ => true
  | .convert s d _ => intTB P s && intTB P d
  | .binOp _ t _ _ _ => plainTB P t
  | .lookup t _ _ _ | .mapUpdate t _ _ _ => mapTB P t
  | .call c => callOK P A f c
  | _ => false
def dstOK (A : Ana) (f : FuncId) (o : Oper) : Bool := match o.dst with
  | none => true
  | some d => A.tr f d == [] || (match o.op with | .move x | .assign x => tracked A f (A.tr f d) x | _ => false)
def operOK (P : Program) (A : Ana) (f : FuncId) (o : Oper) : Bool := kindOK P A f o.op && dstOK A f o
def codeOK (P : Program) (A : Ana) (f : FuncId) : Code → Bool
  | .skip | .label _ | .ret | .exit _ | .refuse _ => true
  | .region _ ops _ => ops.all (operOK P A f)
  | .seq a b | .cond _ a b => codeOK P A f a && codeOK P A f b
  | .block _ c | .loop c | .scope c => codeOK P A f c
  | _ => false
def resOK (fn : Func) : Bool := true
def fnOK (P : Program) (A : Ana) (f : FuncId) : Bool := match P.funcs[f]? with
  | some fn => (match fn.body with | some c => codeOK P A f c | none => false) && fn.name != "runtime.NumGoroutine" && resOK fn && !P.inits.contains f
  | none => false
def shapeOK (P : Program) (f : FuncId) : Bool := match P.funcs[f]? with
  | some fn => fn.body.isSome && fn.name != "runtime.NumGoroutine" && resOK fn && !P.inits.contains f
  | none => false
def Ana.good (P : Program) (A : Ana) : Bool := A.fs.all (fnOK P A) && A.bs.all (shapeOK P)

theorem plainTB_spec {P : Program} {t : TypeId} (h : plainTB P t = true) : plainT P t := by
  unfold plainTB at h
  split at h
  · rename_i k e; exact .inl ⟨k, e⟩
  · rename_i e; exact .inr e
  · cases h
theorem intTB_spec {P : Program} {t : TypeId} (h : intTB P t = true) : ∃ k, P.underlying t = some (.int k) := by
  unfold intTB at h
  split at h
  · rename_i k e; exact ⟨k, e⟩
  · cases h
theorem mapTB_spec {P : Program} {t : TypeId} (h : mapTB P t = true) : ∃ k e, P.underlying t = some (.map k e) ∧ plainT P k := by
  unfold mapTB at h
  split at h
  · rename_i k e he; exact ⟨k, e, he, plainTB_spec h⟩
  · cases h
theorem sliceTB_spec {P : Program} {t : TypeId} (h : sliceTB P t = true) : ∃ e, P.underlying t = some (.slice e) := by
  unfold sliceTB at h
  split at h
  · rename_i e he; exact ⟨e, he⟩
  · cases h

section
variable {P : Program} {A : Ana} {S H : Nat → Prop} {mn : Bool}

def okNext (A : Ana) (f : FuncId) (o : Oper) : Next → Prop
  | .value v => ∀ d, o.dst = some d → A.tr f d ≠ [] → okVal (A.tr f d) v
  | .skip => True
  | .enter g args => A.inF g = true ∧ (∀ d, o.dst = some d → A.tr f d = []) ∧ ∀ t, A.tr g t ≠ [] → okVal (A.tr g t) (args.getD t undef)
  | _ => False

theorem fn_of_good (hA : A.good P = true) {g : FuncId} (hg : A.inF g = true) : ∃ fn c, P.funcs[g]? = some fn ∧ fn.body = some c ∧ codeOK P A g c = true ∧ (fn.name == "runtime.NumGoroutine") = false ∧ resOK fn = true ∧ P.inits.contains g = false := by
  unfold Ana.good at hA
  rw [Bool.and_eq_true] at hA
  have h := (List.all_eq_true.1 hA.1) g (by simpa [Ana.inF] using hg)
  unfold fnOK at h
  cases hf : P.funcs[g]? with
  | none => rw [hf] at h; cases h
  | some fn =>
    rw [hf] at h
    cases hb : fn.body with
    | none => simp [hb] at h
    | some c =>
      simp only [hb, Bool.and_eq_true, bne_iff_ne, Bool.not_eq_true', ne_eq] at h
      exact ⟨fn, c, rfl, hb, h.1.1.1, by simpa using h.1.1.2, h.1.2, h.2⟩

theorem shape_of_good (hA : A.good P = true) {g : FuncId} (hg : A.inB g = true) : ∃ fn c, P.funcs[g]? = some fn ∧ fn.body = some c ∧ (fn.name == "runtime.NumGoroutine") = false ∧ resOK fn = true ∧ P.inits.contains g = false := by
  by_cases hf : A.inF g = true
  · obtain ⟨fn, c, h1, h2, _, h3, h4, h5⟩ := fn_of_good hA hf
    exact ⟨fn, c, h1, h2, h3, h4, h5⟩
  · unfold Ana.good at hA
    rw [Bool.and_eq_true] at hA
    have hb : A.bs.contains g = true := by
      unfold Ana.inB at hg
      unfold Ana.inF at hf
      rw [Bool.or_eq_true] at hg
      exact hg.resolve_left hf
    have h := (List.all_eq_true.1 hA.2) g (by simpa using hb)
    unfold shapeOK at h
    cases hf : P.funcs[g]? with
    | none => rw [hf] at h; cases h
    | some fn =>
      rw [hf] at h
      cases hb : fn.body with
      | none => simp [hb] at h
      | some c =>
        simp only [hb, Option.isSome_some, Bool.true_and, Bool.and_eq_true, bne_iff_ne, Bool.not_eq_true', ne_eq] at h
        exact ⟨fn, c, rfl, hb, by simpa using h.1.1, h.1.2, h.2⟩

theorem lk_callFunc (hA : A.good P = true) {g : FuncId} (hg : A.inF g = true) (args : Array Value) : Like P S H (fun n => n = .enter g args) (callFunc g args) := by
  obtain ⟨fn, c, hf, hb, _, hn, _⟩ := fn_of_good hA hg
  unfold callFunc
  refine lk_bind like_program ?_
  rintro p rfl
  rw [hf]
  dsimp only
  rw [hn, hb]
  exact lk_pure rfl

theorem ids_of_tracked {f : FuncId} {ids : List FuncId} {x : Operand} {tmps : Array Value} (h : tracked A f ids x = true) (ht : ∀ t, A.tr f t ≠ [] → okVal (A.tr f t) (tmps.getD t undef)) (ρ : Operand → Value)
    (hρ : ∀ t, ρ (.tmp t) = tmps.getD t undef) (hφ : ∀ g, ρ (.func g) = .func (.func g) #[] #[]) : okVal ids (ρ x) := by
  cases x with
  | tmp t =>
    unfold tracked at h
    simp only [Bool.and_eq_true, bne_iff_ne, ne_eq] at h
    rw [hρ]
    exact (ht t h.1).mono fun g hg => by simpa using (List.all_eq_true.1 h.2) g hg
  | func g =>
    unfold tracked at h
    rw [hφ]
    exact .inr ⟨g, _, _, by simpa using h, rfl⟩
  | _ => cases h

theorem lk_value {f : FuncId} {o : Oper} (hd : ∀ d, o.dst = some d → A.tr f d = []) {s : Sem Value} (h : Like P S H (fun _ => True) s) : Like P S H (okNext A f o) (do pure (.value (← s)) : Sem Next) :=
  lk_bind h fun v _ => lk_pure fun d h1 h2 => absurd (hd d h1) h2
theorem lk_unit {f : FuncId} {o : Oper} {s : Sem Unit} (h : Like P S H (fun _ => True) s) : Like P S H (okNext A f o) (do s; pure .skip : Sem Next) :=
  lk_bind h fun v _ => lk_pure trivial

theorem lk_execOp (hA : A.good P = true) {f : FuncId} {o : Oper} (ho : operOK P A f o = true) (tmps : Array Value) (ht : ∀ t, A.tr f t ≠ [] → okVal (A.tr f t) (tmps.getD t undef)) (ρ : Operand → Value)
    (hρ : ∀ t, ρ (.tmp t) = tmps.getD t undef) (hφ : ∀ g, ρ (.func g) = .func (.func g) #[] #[]) : Like P S H (okNext A f o) (execOp ρ o) := by
  unfold operOK at ho
  rw [Bool.and_eq_true] at ho
  obtain ⟨hk, hd⟩ := ho
  have hmv : ∀ x, (o.op = .move x ∨ o.op = .assign x) → okNext A f o (.value (ρ x)) := fun x hx d h1 h2 => by
    unfold dstOK at hd
    rw [h1] at hd
    rcases hx with hx | hx <;> rw [hx] at hd <;> simp only [Bool.or_eq_true, beq_iff_eq] at hd <;> exact ids_of_tracked (hd.resolve_left h2) ht ρ hρ hφ
  have hun : (∀ x, o.op ≠ .move x ∧ o.op ≠ .assign x) → ∀ d, o.dst = some d → A.tr f d = [] := fun hx d h1 => by
    unfold dstOK at hd
    rw [h1] at hd
    simp only [Bool.or_eq_true, beq_iff_eq] at hd
    rcases hd with h | h
    · exact h
    · exfalso
      split at h
      · rename_i x e; exact (hx x).1 e
      · rename_i x e; exact (hx x).2 e
      · cases h
  obtain ⟨dst, op, ty, pos, aft, gd⟩ := o
  dsimp only at *
  cases op <;> first | (cases hk; done) | skip
  case move x => exact lk_pure (hmv x (.inl rfl))
  case assign x => exact lk_pure (hmv x (.inr rfl))
  all_goals have hun' := hun (fun x => ⟨by simp, by simp⟩)
  case pick c a b => exact lk_bind (lk_asBool _) fun b _ => lk_pure fun d h1 h2 => absurd (hun' d h1) h2
  case alloc t => exact lk_value hun' (lk_alloc t)
  case box t x => exact lk_value hun' (lk_box t _)
  case buildSlice t n ps => exact lk_value hun' (lk_buildSlice t n _)
  case load t x => exact lk_value hun' (lk_loadAt t _)
  case store t x y => exact lk_unit (lk_storeAt t _ _)
  case binOp op t x y u => exact lk_value hun' (lk_bind (lk_eqGuard (plainTB_spec hk) x y _ _) fun _ _ => lk_binOp op (plainTB_spec hk) _ _)
  case unOp op t x => exact lk_value hun' (lk_unary op _)
  case makeInterface t x => exact lk_value hun' (lk_makeInterface t _)
  case makeMap t r => exact lk_value hun' (lk_makeMap t _)
  case makeSlice t l c => exact lk_value hun' (lk_makeSlice t _ _)
  case fieldAddr t x i => exact lk_value hun' (lk_fieldAt t _ i)
  case indexAddr t x i => exact lk_value hun' (lk_indexAt t _ _)
  case lookup t x i ok =>
    obtain ⟨k, e, h1, h2⟩ := mapTB_spec hk
    exact lk_value hun' (lk_lookup h1 h2 _ _ _)
  case mapUpdate t m k v =>
    obtain ⟨k, e, h1, h2⟩ := mapTB_spec hk
    exact lk_unit (lk_mapUpdate h1 h2 _ _ _)
  case extract t i => exact lk_value hun' (lk_extract _ i)
  case build t ps => exact lk_value hun' (lk_build t _)
  case slice t x l h m => exact lk_value hun' (lk_sliceAt t _ _ _ _)
  case convert s d x =>
    have hk' : (intTB P s && intTB P d) = true := hk
    rw [Bool.and_eq_true] at hk'
    obtain ⟨k1, e1⟩ := intTB_spec hk'.1
    obtain ⟨k2, e2⟩ := intTB_spec hk'.2
    exact lk_value hun' (lk_convert e1 e2 _)
  case nilCheck x =>
    have hv : ∀ v : Value, Like P S H (okNext A f ({ dst, op := .nilCheck x, type := ty, pos, after := aft, guard := gd } : Oper)) (pure (.value v) : Sem Next) := fun v => lk_pure fun d h1 h2 => absurd (hun' d h1) h2
    have hp : Like P S H (fun _ => True) program := like_program.mono fun _ _ => trivial
    unfold execOp
    dsimp only
    (repeat' first | with_reducible exact lk_pure trivial | with_reducible exact lk_stuck _ | ((with_reducible refine lk_uns ?_) <;> trivial) | with_reducible exact like_choose _ | with_reducible exact lk_rp _ | with_reducible exact lk_panic _ | with_reducible exact lk_asBool _ | with_reducible exact hv _ | with_reducible exact hp | with_reducible exact lk_nilAhead _ _ _ _ | (with_reducible refine lk_bind (ok1 := fun _ => True) ?_ fun _ _ => ?_) | split | dsimp only)
  case panic x => exact lk_value hun' (lk_panicOp _)
  case call c =>
    obtain ⟨callee, cargs, cts⟩ := c
    have hargs : ∀ g, ((List.range cargs.size).all fun i => A.tr g i == [] || (cargs[i]?).all (tracked A f (A.tr g i))) = true → ∀ t, A.tr g t ≠ [] → okVal (A.tr g t) ((cargs.map ρ).getD t undef) := by
      intro g hg t h2
      rw [Array.getD_eq_getD_getElem?, Array.getElem?_map]
      cases hx : cargs[t]? with
      | none => exact .inl rfl
      | some x =>
        have hlt := (Array.getElem?_eq_some_iff.1 hx).1
        have := (List.all_eq_true.1 hg) t (by simpa using hlt)
        rw [hx] at this
        simp only [Bool.or_eq_true, beq_iff_eq, Option.all_some] at this
        exact ids_of_tracked (this.resolve_left h2) ht ρ hρ hφ
    cases callee with
    | invoke r m => cases hk
    | builtin b =>
      cases b <;> first | (cases hk; done) | skip
      case append => exact lk_value hun' (lk_append _ _ _)
      case len =>
        refine lk_value hun' (lk_len _ _ _ fun u hu => ?_)
        have : (cts[0]?).all (sliceTB P) = true := hk
        rw [hu] at this
        exact sliceTB_spec this
      case cap =>
        refine lk_value hun' (lk_cap _ _ _ fun u hu => ?_)
        have : (cts[0]?).all (sliceTB P) = true := hk
        rw [hu] at this
        exact sliceTB_spec this
      case max => exact lk_value hun' (lk_max _ _ _)
      case min => exact lk_value hun' (lk_min _ _ _)
    | value x =>
      cases x with
      | func g =>
        have hk' : (A.inF g && (List.range cargs.size).all fun i => A.tr g i == [] || (cargs[i]?).all (tracked A f (A.tr g i))) = true := hk
        rw [Bool.and_eq_true] at hk'
        have e : execOp ρ { dst, op := .call { callee := .value (.func g), args := cargs, argTypes := cts }, type := ty, pos, after := aft, guard := gd } = callFunc g ((#[] ++ cargs.map ρ) ++ #[]) := by
          show ((do let d ← Deferred.ofValue (ρ (.func g)) (cargs.map ρ); invoke d.target d.args) : Sem Next) = _
          rw [hφ]; rfl
        rw [e]
        refine (lk_callFunc hA hk'.1 _).mono ?_
        rintro n rfl
        refine ⟨hk'.1, hun', ?_⟩
        rw [Array.empty_append, Array.append_empty]
        exact hargs g hk'.2
      | tmp t =>
        have hk' : (A.tr f t != [] && (A.tr f t).all fun g => A.inF g && A.noTr g) = true := hk
        simp only [Bool.and_eq_true, bne_iff_ne, ne_eq] at hk'
        rcases ht t hk'.1 with hv | ⟨g, first, cap, hg, hv⟩
        · have e : execOp ρ { dst, op := .call { callee := .value (.tmp t), args := cargs, argTypes := cts }, type := ty, pos, after := aft, guard := gd } = ((do let d ← Deferred.ofValue (ρ (.tmp t)) (cargs.map ρ); invoke d.target d.args) : Sem Next) := rfl
          rw [e, hρ, hv]
          exact lk_bind (ok1 := fun _ => False) (lk_stuck _) fun _ h => h.elim
        · have hgg := (List.all_eq_true.1 hk'.2) g hg
          rw [Bool.and_eq_true] at hgg
          have e : execOp ρ { dst, op := .call { callee := .value (.tmp t), args := cargs, argTypes := cts }, type := ty, pos, after := aft, guard := gd } = callFunc g ((first ++ cargs.map ρ) ++ cap) := by
            show ((do let d ← Deferred.ofValue (ρ (.tmp t)) (cargs.map ρ); invoke d.target d.args) : Sem Next) = _
            rw [hρ, hv]; rfl
          rw [e]
          refine (lk_callFunc hA hgg.1 _).mono ?_
          rintro n rfl
          exact ⟨hgg.1, hun', fun t h2 => absurd (A.noTr_spec hgg.2 t) h2⟩
      | _ => cases hk

/-! ### one step -/
def itemOK (P : Program) (A : Ana) (f : FuncId) : Item → Bool
  | .code c | .inLoop c => codeOK P A f c
  | .inBlock _ | .inScope _ => true
  | .inRegion ops _ => ops.all (operOK P A f)
  | _ => false

structure FrOK (P : Program) (A : Ana) (fr : Frame) : Prop where
  f : A.inB fr.fn = true
  kind : fr.kind = .normal
  round : fr.roundOf = none
  defers : fr.defers = []
  tr : ∀ t, A.tr fr.fn t ≠ [] → okVal (A.tr fr.fn t) (fr.tmps.getD t undef)
  todo : ∀ it ∈ fr.todo, itemOK P A fr.fn it = true

structure WaitOK (P : Program) (A : Ana) (fr : Frame) : Prop where
  ok : FrOK P A fr
  mode : fr.mode = .run
  at_ : ∃ ops i rest k o, fr.todo = .inRegion ops (i :: rest) :: k ∧ ops[i]? = some o ∧ ∀ d, o.dst = some d → A.tr fr.fn d = []

def drawsOf (P : Program) (fr : Frame) (w : World) : Nat := match fr.mode, fr.todo with
  | .run, .code (.region _ _ true) :: _ => 1
  | .run, .inRegion ops (i :: _) :: _ => match ops[i]? with
    | some o => if Region.wanted o (yielded ops fr.tmps) then (resW ((execOp fr.eval o).run P w)).drawn - w.drawn else 0
    | none => 0
  | _, _ => 0

def Bad (fr : Frame) (cs : List Frame) (Y : GStep) : Prop := (∃ o u es, Y = .ended o u es) ∨ ∃ chain u es, Y = .go (Conc.G { fr with mode := .panicking chain } cs) u es

open Go.Conc (G)

def ext (fr : Frame) (k : List Item) : Frame := { fr with todo := fr.todo ++ k }
theorem ext_nil (fr : Frame) : ext fr [] = fr := by unfold ext; rw [List.append_nil]

def Good (P : Program) (A : Ana) (S H : Nat → Prop) (n : Nat) (fr : Frame) (kl kc : List Item) (tl tc : List Frame) (v w : World) (Y X : GStep) : Prop :=
  ∃ fr' v' w' es, ((Y = .go (G (ext fr' kl) tl) v' es ∧ X = .go (G (ext fr' kc) tc) w' es) ∨ (Y = .go (G fr' (ext fr kl :: tl)) v' es ∧ X = .go (G fr' (ext fr kc :: tc)) w' es ∧ WaitOK P A fr)) ∧ FrOK P A fr' ∧ (fr'.mode = .run ∨ fr'.mode = .returning) ∧
    ViewOf S H v' w' ∧ Onto S H n v v' ∧ Onto S H n w w' ∧ ∀ e ∈ es, tameE S w'.heap.size e

theorem FrOK.put {fr : Frame} (h : FrOK P A fr) {todo : List Item} (ht : ∀ it ∈ todo, itemOK P A fr.fn it = true) {tmps : Array Value} (hs : ∀ t, A.tr fr.fn t ≠ [] → okVal (A.tr fr.fn t) (tmps.getD t undef)) (m : FrameMode) : FrOK P A { fr with todo, tmps, mode := m } :=
  ⟨h.f, h.kind, h.round, h.defers, hs, ht⟩

theorem good_still {fr : Frame} (h : FrOK P A fr) {todo : List Item} (ht : ∀ it ∈ todo, itemOK P A fr.fn it = true) {m : FrameMode} (hm : m = .run ∨ m = .returning) {v w : World} (hv : ViewOf S H v w) {kl kc : List Item} {tl tc : List Frame} {X Y : GStep}
    (hY : Y = .go (G (ext { fr with todo, mode := m } kl) tl) v #[]) (hX : X = .go (G (ext { fr with todo, mode := m } kc) tc) w #[]) : Good P A S H 0 fr kl kc tl tc v w Y X :=
  ⟨_, v, w, #[], .inl ⟨hY, hX⟩, h.put ht h.tr m, hm, hv, .refl S H v, .refl S H w, fun e he => by simp at he⟩

theorem exitTo_append (id : Nat) (l : List Item) : ∀ k : List Item, exitTo id (k ++ l) = match exitTo id k with | some k' => some (k' ++ l) | none => exitTo id l
  | [] => rfl
  | x :: k => by
    cases x with
    | inBlock id' =>
      show (if id' == id then some (k ++ l) else exitTo id (k ++ l)) = match (if id' == id then some k else exitTo id k) with | some k' => some (k' ++ l) | none => exitTo id l
      cases id' == id
      · exact exitTo_append id l k
      · rfl
    | _ => exact exitTo_append id l k

theorem exitTo_mem {id : Nat} : ∀ {k k' : List Item}, exitTo id k = some k' → ∀ it ∈ k', it ∈ k
  | [], _, h => by cases h
  | x :: k, k', h => by
    cases x with
    | inBlock id' =>
      unfold exitTo at h
      split at h
      · cases h; exact fun it hi => List.mem_cons_of_mem _ hi
      · exact fun it hi => List.mem_cons_of_mem _ (exitTo_mem h it hi)
    | _ => exact fun it hi => List.mem_cons_of_mem _ (exitTo_mem (show exitTo id k = some k' from h) it hi)

theorem put_tr {fr : Frame} (h : FrOK P A fr) {dst : Option Tmp} {x : Value} (hx : ∀ d, dst = some d → A.tr fr.fn d ≠ [] → okVal (A.tr fr.fn d) x) :
    ∀ t, A.tr fr.fn t ≠ [] → okVal (A.tr fr.fn t) ((match dst with | some d => fr.tmps.setIfInBounds d x | none => fr.tmps).getD t undef) := by
  intro t ht
  cases dst with
  | none => exact h.tr t ht
  | some d =>
    dsimp only
    rw [Array.getD_eq_getD_getElem?, Array.getElem?_setIfInBounds]
    split
    · rename_i e; subst e
      split
      · exact hx d rfl ht
      · exact .inl rfl
    · rw [← Array.getD_eq_getD_getElem?]; exact h.tr t ht

theorem finish_region {fr : Frame} {ops : Array Oper} {i : Nat} {rest : List Nat} {k : List Item} (ht : fr.todo = .inRegion ops (i :: rest) :: k) (x : Value) :
    fr.finish x = { fr with tmps := (match (ops[i]?).bind (·.dst) with | some d => fr.tmps.setIfInBounds d x | none => fr.tmps), todo := .inRegion ops rest :: k } := by
  unfold Frame.finish
  rw [ht]
  dsimp only
  cases (ops[i]?).bind (·.dst) <;> rfl

theorem stepG_exec {fr : Frame} {cs : List Frame} {w : World} (hm : fr.mode = .run) : stepG P mn (G fr cs) w = stepG.exec P mn true fr cs none w := by
  obtain ⟨fn, tmps, todo, defers, mode, kind, rnd⟩ := fr
  dsimp only at hm
  subst hm
  rfl

theorem exec_oper {fr : Frame} {cs : List Frame} {w : World} {ops : Array Oper} {i : Nat} {rest : List Nat} {k : List Item} {o : Oper} (ht : fr.todo = .inRegion ops (i :: rest) :: k) (hr : fr.roundOf = none)
    (ho : ops[i]? = some o) (hw : Region.wanted o (yielded ops fr.tmps) = true) : stepG.exec P mn true fr cs none w = stepG.apply P true fr cs none (execOp fr.eval o) w := by
  obtain ⟨fn, tmps, todo, defers, mode, kind, rnd⟩ := fr
  dsimp only at ht hr hw
  subst ht hr
  simp [stepG.exec, stepG.oper, Frame.oper?, ho, hw]

theorem exec_skip {fr : Frame} {cs : List Frame} {w : World} {ops : Array Oper} {i : Nat} {rest : List Nat} {k : List Item} (ht : fr.todo = .inRegion ops (i :: rest) :: k)
    (hw : ((ops[i]?).map (Region.wanted · (yielded ops fr.tmps))).getD false = false) : stepG.exec P mn true fr cs none w = .go (G (fr.finish undef) cs) w #[] := by
  obtain ⟨fn, tmps, todo, defers, mode, kind, rnd⟩ := fr
  dsimp only at ht hw
  subst ht
  simp only [stepG.exec, hw]
  rfl

theorem step_oper (hA : A.good P = true) {fr : Frame} (h : FrOK P A fr) (hm : fr.mode = .run) {ops : Array Oper} {i : Nat} {rest : List Nat} {k : List Item}
    (ht : fr.todo = .inRegion ops (i :: rest) :: k) {v w : World} (hv : ViewOf S H v w) (ha : Agree v w (drawsOf P fr w)) (kl kc : List Item) (tl tc : List Frame) :
    Bad (ext fr kl) tl (stepG P mn (G (ext fr kl) tl) v) ∨ Good P A S H (drawsOf P fr w) fr kl kc tl tc v w (stepG P mn (G (ext fr kl) tl) v) (stepG P mn (G (ext fr kc) tc) w) := by
  have hops : ops.all (operOK P A fr.fn) = true := h.todo (.inRegion ops (i :: rest)) (by rw [ht]; exact List.mem_cons_self)
  have hk : ∀ it ∈ k, itemOK P A fr.fn it = true := fun it hi => h.todo it (by rw [ht]; exact List.mem_cons_of_mem _ hi)
  have hrest : ∀ it ∈ Item.inRegion ops rest :: k, itemOK P A fr.fn it = true := fun it hi => by
    rcases List.mem_cons.1 hi with rfl | hi
    · exact hops
    · exact hk it hi
  have htx : ∀ x, (ext fr x).todo = .inRegion ops (i :: rest) :: (k ++ x) := fun x => by show fr.todo ++ x = _; rw [ht]; rfl
  have hfin : ∀ x y, (ext fr x).finish y = ext { fr with tmps := (match (ops[i]?).bind (·.dst) with | some d => fr.tmps.setIfInBounds d y | none => fr.tmps), todo := .inRegion ops rest :: k } x := fun x y => by rw [finish_region (htx x)]; rfl
  rw [stepG_exec (show (ext fr kl).mode = .run from hm), stepG_exec (show (ext fr kc).mode = .run from hm)]
  cases ho : ops[i]? with
  | none =>
    have hw : ((ops[i]?).map (Region.wanted · (yielded ops fr.tmps))).getD false = false := by rw [ho]; rfl
    have hd : drawsOf P fr w = 0 := by unfold drawsOf; rw [hm, ht]; dsimp only; rw [ho]
    rw [exec_skip (htx kl) hw, exec_skip (htx kc) hw, hd, hfin, hfin]
    exact .inr ⟨_, v, w, #[], .inl ⟨rfl, rfl⟩, h.put hrest (put_tr h (fun d hd _ => by rw [ho] at hd; cases hd)) _, .inl hm, hv, .refl S H v, .refl S H w, fun e he => by simp at he⟩
  | some o =>
    have hoo : operOK P A fr.fn o = true := by
      have := Array.all_eq_true.1 hops i (Array.getElem?_eq_some_iff.1 ho).1
      rwa [(Array.getElem?_eq_some_iff.1 ho).2] at this
    cases hw : Region.wanted o (yielded ops fr.tmps) with
    | false =>
      have hw' : ((ops[i]?).map (Region.wanted · (yielded ops fr.tmps))).getD false = false := by rw [ho]; exact hw
      have hd : drawsOf P fr w = 0 := by unfold drawsOf; rw [hm, ht]; dsimp only; rw [ho]; dsimp only; rw [if_neg (by rw [hw]; simp)]
      rw [exec_skip (htx kl) hw', exec_skip (htx kc) hw', hd, hfin, hfin]
      exact .inr ⟨_, v, w, #[], .inl ⟨rfl, rfl⟩, h.put hrest (put_tr h (fun d hd _ => .inl rfl)) _, .inl hm, hv, .refl S H v, .refl S H w, fun e he => by simp at he⟩
    | true =>
      have hd : drawsOf P fr w = (resW ((execOp fr.eval o).run P w)).drawn - w.drawn := by unfold drawsOf; rw [hm, ht]; dsimp only; rw [ho]; dsimp only; rw [if_pos hw]
      rw [hd] at ha ⊢
      have hex : ∀ (x : List Item) (t : List Frame) (u : World), stepG.exec P mn true (ext fr x) t none u = stepG.apply P true (ext fr x) t none (execOp fr.eval o) u := fun x t u => exec_oper (htx x) h.round ho hw
      rw [hex, hex]
      have hke : (fr.kind == CallKind.early) = false := by rw [h.kind]; rfl
      have hkx : ∀ x, ((ext fr x).kind == CallKind.early) = false := fun x => hke
      have hfx : ∀ x, (ext fr x).fn = fr.fn := fun x => rfl
      rcases lk_execOp (S := S) (H := H) hA hoo fr.tmps h.tr fr.eval (fun t => rfl) (fun g => rfl) v w hv ha with ⟨x, v', e1, e2⟩ | ⟨n, a, v', w', e1, e2, e3, e4, e5, e6, e7, e8⟩
      · refine .inl ?_
        cases x with
        | panic y =>
          refine .inr ⟨[{ v := y, recovered := false }], v', seen P fr.fn (if fr.kind == .early then #[] else (execOp fr.eval o).events P v #[]), ?_⟩
          simp only [stepG.apply, if_true, Sem.runT_eq, e1, GStep.after]
          have : (ext fr kl).raise [{ v := y, recovered := false }] = { ext fr kl with mode := .panicking [{ v := y, recovered := false }] } := by
            unfold Frame.raise
            rw [show (ext fr kl).mode = .run from hm]
          rw [this]
          rfl
        | stuck s =>
          refine .inl ⟨.stuck s ((ext fr kl).pos P), v', seen P fr.fn (if fr.kind == .early then #[] else (execOp fr.eval o).events P v #[]), ?_⟩
          simp only [stepG.apply, if_true, Sem.runT_eq, e1, GStep.after]
          rfl
        | unsupported u =>
          refine .inl ⟨.unsupported u ((ext fr kl).pos P), v', seen P fr.fn (if fr.kind == .early then #[] else (execOp fr.eval o).events P v #[]), ?_⟩
          cases u <;> first | (cases e2; done) | (simp only [stepG.apply, if_true, Sem.runT_eq, e1, GStep.after]; rfl)
        | _ => cases e2
      · have hn : (resW ((execOp fr.eval o).run P w)).drawn - w.drawn = n := by rw [e2]; show w'.drawn - w.drawn = n; rw [e6.drawn]; omega
        rw [hn]
        refine .inr ?_
        have htame : ∀ e ∈ seen P fr.fn ((execOp fr.eval o).events P w #[]), tameE S w'.heap.size e := fun e he => (e7 #[] e (Conc.mem_seen he)).resolve_left (by simp)
        cases a with
        | value x =>
          refine ⟨{ fr with tmps := (match (ops[i]?).bind (·.dst) with | some d => fr.tmps.setIfInBounds d x | none => fr.tmps), todo := .inRegion ops rest :: k }, v', w', seen P fr.fn ((execOp fr.eval o).events P w #[]), .inl ⟨?_, ?_⟩, ?_, .inl hm, e4, e5, e6, htame⟩
          · rw [← hfin]; simp [stepG.apply, e1, e8, GStep.after, hkx, hfx]; rfl
          · rw [← hfin]; simp [stepG.apply, e2, GStep.after, hkx, hfx]; rfl
          · exact h.put hrest (put_tr h (fun d hd hne => e3 d (by rw [ho] at hd; exact hd) hne)) _
        | skip =>
          refine ⟨{ fr with tmps := (match (ops[i]?).bind (·.dst) with | some d => fr.tmps.setIfInBounds d undef | none => fr.tmps), todo := .inRegion ops rest :: k }, v', w', seen P fr.fn ((execOp fr.eval o).events P w #[]), .inl ⟨?_, ?_⟩, ?_, .inl hm, e4, e5, e6, htame⟩
          · rw [← hfin]; simp [stepG.apply, e1, e8, GStep.after, hkx, hfx]; rfl
          · rw [← hfin]; simp [stepG.apply, e2, GStep.after, hkx, hfx]; rfl
          · exact h.put hrest (put_tr h (fun d hd hne => .inl rfl)) _
        | enter g args =>
          obtain ⟨hg, hdst, hargs⟩ := e3
          obtain ⟨fn, c, hf, hb, hc, hn1, hres, hini⟩ := fn_of_good hA hg
          refine ⟨Frame.enter P g args .normal, v', w', seen P fr.fn ((execOp fr.eval o).events P w #[]), .inr ⟨?_, ?_, ⟨h, hm, ops, i, rest, k, o, ht, ho, hdst⟩⟩, ?_, .inl rfl, e4, e5, e6, htame⟩
          · simp [stepG.apply, e1, e8, GStep.after, hkx, hfx, htx]; rfl
          · simp [stepG.apply, e2, GStep.after, hkx, hfx, htx]; rfl
          · refine ⟨Ana.inB_of hg, rfl, rfl, rfl, fun t h2 => ?_, fun it hi => ?_⟩
            · show okVal (A.tr g t) ((args ++ Array.replicate ((((P.funcs[g]?).map (·.ntmps)).getD 0) - args.size) undef).getD t undef)
              have := hargs t h2
              rw [Array.getD_eq_getD_getElem?] at this ⊢
              rw [Array.getElem?_append]
              split
              · exact this
              · rw [Array.getElem?_replicate]
                split <;> exact .inl rfl
            · have : it = .code c := by
                simp only [Frame.enter, hf, Option.bind_some, hb, Option.getD_some, List.mem_singleton] at hi
                exact hi
              subst this
              exact hc
        | _ => exact e3.elim

theorem drawsOf_zero {fr : Frame} {w : World} {it : Item} {k : List Item} (ht : fr.todo = it :: k) (h : ∀ id ops, it ≠ .code (.region id ops true)) (h2 : ∀ ops l, it ≠ .inRegion ops l) : drawsOf P fr w = 0 := by
  unfold drawsOf
  rw [ht]
  split
  · rename_i e; simp at e; exact absurd e.1 (h _ _)
  · rename_i e; simp at e; exact absurd e.1 (h2 _ _)
  · rfl

theorem step_plain (hA : A.good P = true) {fr : Frame} (h : FrOK P A fr) (hm : fr.mode = .run)
    {v w : World} (hv : ViewOf S H v w) (ha : Agree v w (drawsOf P fr w)) {kl kc : List Item} (hkl : ∀ id, exitTo id kl = none) (hnil : fr.todo = [] → kl = [] ∧ kc = []) (tl tc : List Frame) :
    Bad (ext fr kl) tl (stepG P mn (G (ext fr kl) tl) v) ∨ Good P A S H (drawsOf P fr w) fr kl kc tl tc v w (stepG P mn (G (ext fr kl) tl) v) (stepG P mn (G (ext fr kc) tc) w) := by
  have hmx : ∀ x, (ext fr x).mode = .run := fun x => hm
  have leave : (∀ it ∈ fr.todo, itemOK P A fr.fn it = true) → drawsOf P fr w = 0 →
      (∀ (x : List Item) (cs : List Frame) (u : World), (x = kl ∨ x = kc) → stepG.exec P mn true (ext fr x) cs none u = .go (G (ext { fr with mode := .returning } x) cs) u #[]) → Good P A S H (drawsOf P fr w) fr kl kc tl tc v w (stepG P mn (G (ext fr kl) tl) v) (stepG P mn (G (ext fr kc) tc) w) := by
    intro h1 hd h3
    rw [stepG_exec (hmx kl), stepG_exec (hmx kc), hd]
    exact good_still (m := .returning) h h.todo (.inr rfl) hv (h3 _ _ _ (.inl rfl)) (h3 _ _ _ (.inr rfl))
  have to : ∀ todo : List Item, (∀ it ∈ todo, itemOK P A fr.fn it = true) → drawsOf P fr w = 0 →
      (∀ (x : List Item) (cs : List Frame) (u : World), stepG.exec P mn true (ext fr x) cs none u = .go (G (ext { fr with todo, mode := .run } x) cs) u #[]) → Good P A S H (drawsOf P fr w) fr kl kc tl tc v w (stepG P mn (G (ext fr kl) tl) v) (stepG P mn (G (ext fr kc) tc) w) := by
    intro todo h1 hd h3
    rw [stepG_exec (hmx kl), stepG_exec (hmx kc), hd]
    exact good_still (m := .run) h h1 (.inl rfl) hv (h3 _ _ _) (h3 _ _ _)
  cases ht : fr.todo with
  | nil =>
    obtain ⟨rfl, rfl⟩ := hnil ht
    refine .inr (leave h.todo (by unfold drawsOf; rw [hm, ht]) fun x cs u hx => ?_)
    have hx' : x = [] := by rcases hx with h | h <;> exact h
    subst hx'
    obtain ⟨fn, tmps, todo, defers, mode, kind, rnd⟩ := fr
    have hr := h.round
    dsimp only at ht hr hm
    subst ht hr hm
    rfl
  | cons it k =>
    have hk : ∀ x ∈ k, itemOK P A fr.fn x = true := fun x hx => h.todo x (by rw [ht]; exact List.mem_cons_of_mem _ hx)
    have hit : itemOK P A fr.fn it = true := h.todo it (by rw [ht]; exact List.mem_cons_self)
    cases it with
    | inBlock id =>
      refine .inr (to k hk (drawsOf_zero ht (by simp) (by simp)) fun x cs u => ?_)
      obtain ⟨fn, tmps, todo, defers, mode, kind, rnd⟩ := fr
      dsimp only at ht hm; subst ht hm; rfl
    | inScope id =>
      refine .inr (to k hk (drawsOf_zero ht (by simp) (by simp)) fun x cs u => ?_)
      obtain ⟨fn, tmps, todo, defers, mode, kind, rnd⟩ := fr
      dsimp only at ht hm; subst ht hm; rfl
    | inLoop body =>
      refine .inr (to (.code body :: .inLoop body :: k) (fun x hx => ?_) (drawsOf_zero ht (by simp) (by simp)) fun x cs u => ?_)
      · rcases List.mem_cons.1 hx with rfl | hx
        · exact hit
        · rcases List.mem_cons.1 hx with rfl | hx
          · exact hit
          · exact hk x hx
      · obtain ⟨fn, tmps, todo, defers, mode, kind, rnd⟩ := fr
        dsimp only at ht hm; subst ht hm; rfl
    | inRegion ops l =>
      cases l with
      | nil =>
        refine .inr (to k hk (by unfold drawsOf; rw [hm, ht]) fun x cs u => ?_)
        obtain ⟨fn, tmps, todo, defers, mode, kind, rnd⟩ := fr
        dsimp only at ht hm; subst ht hm; rfl
      | cons i rest => exact step_oper hA h hm ht hv ha kl kc tl tc
    | code c =>
      have hc : codeOK P A fr.fn c = true := hit
      cases c with
      | skip =>
        refine .inr (to k hk (drawsOf_zero ht (by simp) (by simp)) fun x cs u => ?_)
        obtain ⟨fn, tmps, todo, defers, mode, kind, rnd⟩ := fr
        dsimp only at ht hm; subst ht hm; rfl
      | label l =>
        refine .inr (to k hk (drawsOf_zero ht (by simp) (by simp)) fun x cs u => ?_)
        obtain ⟨fn, tmps, todo, defers, mode, kind, rnd⟩ := fr
        dsimp only at ht hm; subst ht hm; rfl
      | ret =>
        refine .inr (leave h.todo (drawsOf_zero ht (by simp) (by simp)) fun x cs u hx => ?_)
        obtain ⟨fn, tmps, todo, defers, mode, kind, rnd⟩ := fr
        have hr := h.round
        dsimp only at ht hr hm
        subst ht hr hm
        rfl
      | refuse why =>
        refine .inl (.inl ?_)
        rw [stepG_exec (hmx kl)]
        obtain ⟨fn, tmps, todo, defers, mode, kind, rnd⟩ := fr
        dsimp only at ht hm; subst ht hm; exact ⟨_, _, _, rfl⟩
      | exit id =>
        cases he : exitTo id k with
        | some k' =>
          refine .inr (to k' (fun x hx => hk x (exitTo_mem he x hx)) (drawsOf_zero ht (by simp) (by simp)) fun x cs u => ?_)
          have he' : exitTo id (k ++ x) = some (k' ++ x) := by rw [exitTo_append, he]
          obtain ⟨fn, tmps, todo, defers, mode, kind, rnd⟩ := fr
          dsimp only at ht hm; subst ht hm
          simp [stepG.exec, ext, he']; rfl
        | none =>
          refine .inl (.inl ⟨.stuck "exit, goto: no such block or label" ((ext fr kl).pos P), v, #[], ?_⟩)
          have he' : exitTo id (k ++ kl) = none := by rw [exitTo_append, he]; exact hkl id
          rw [stepG_exec (hmx kl)]
          obtain ⟨fn, tmps, todo, defers, mode, kind, rnd⟩ := fr
          have hr := h.round
          dsimp only at ht hr hm; subst ht hm hr
          simp [stepG.exec, ext, he']
      | seq a b =>
        unfold codeOK at hc
        rw [Bool.and_eq_true] at hc
        refine .inr (to (.code a :: .code b :: k) (fun x hx => ?_) (drawsOf_zero ht (by simp) (by simp)) fun x cs u => ?_)
        · rcases List.mem_cons.1 hx with rfl | hx
          · exact hc.1
          · rcases List.mem_cons.1 hx with rfl | hx
            · exact hc.2
            · exact hk x hx
        · obtain ⟨fn, tmps, todo, defers, mode, kind, rnd⟩ := fr
          dsimp only at ht hm; subst ht hm; rfl
      | block id body =>
        refine .inr (to (.code body :: .inBlock id :: k) (fun x hx => ?_) (drawsOf_zero ht (by simp) (by simp)) fun x cs u => ?_)
        · rcases List.mem_cons.1 hx with rfl | hx
          · exact hc
          · rcases List.mem_cons.1 hx with rfl | hx
            · rfl
            · exact hk x hx
        · obtain ⟨fn, tmps, todo, defers, mode, kind, rnd⟩ := fr
          dsimp only at ht hm; subst ht hm; rfl
      | scope body =>
        refine .inr (to (.code body :: .inScope body :: k) (fun x hx => ?_) (drawsOf_zero ht (by simp) (by simp)) fun x cs u => ?_)
        · rcases List.mem_cons.1 hx with rfl | hx
          · exact hc
          · rcases List.mem_cons.1 hx with rfl | hx
            · rfl
            · exact hk x hx
        · obtain ⟨fn, tmps, todo, defers, mode, kind, rnd⟩ := fr
          dsimp only at ht hm; subst ht hm; rfl
      | loop body =>
        refine .inr (to (.code body :: .inLoop body :: k) (fun x hx => ?_) (drawsOf_zero ht (by simp) (by simp)) fun x cs u => ?_)
        · rcases List.mem_cons.1 hx with rfl | hx
          · exact hc
          · rcases List.mem_cons.1 hx with rfl | hx
            · exact hc
            · exact hk x hx
        · obtain ⟨fn, tmps, todo, defers, mode, kind, rnd⟩ := fr
          dsimp only at ht hm; subst ht hm; rfl
      | cond x a b =>
        unfold codeOK at hc
        rw [Bool.and_eq_true] at hc
        by_cases hb : ∃ t, fr.eval x = .bool t
        · obtain ⟨t, hb⟩ := hb
          refine .inr (to (.code (if t then a else b) :: k) (fun y hy => ?_) (drawsOf_zero ht (by simp) (by simp)) fun y cs u => ?_)
          · rcases List.mem_cons.1 hy with rfl | hy
            · cases t
              · exact hc.2
              · exact hc.1
            · exact hk y hy
          · have hb' : (ext fr y).eval x = .bool t := hb
            obtain ⟨fn, tmps, todo, defers, mode, kind, rnd⟩ := fr
            dsimp only at ht hm; subst ht hm
            unfold ext at hb' ⊢
            simp only [List.cons_append] at hb' ⊢
            simp only [stepG.exec, hb']
            rfl
        · refine .inl (.inl ⟨.stuck "cond: bool expected" ((ext fr kl).pos P), v, #[], ?_⟩)
          have hb' : ¬ ∃ t, (ext fr kl).eval x = .bool t := hb
          rw [stepG_exec (hmx kl)]
          obtain ⟨fn, tmps, todo, defers, mode, kind, rnd⟩ := fr
          dsimp only at ht hm; subst ht hm
          unfold ext at hb' ⊢
          simp only [List.cons_append] at hb' ⊢
          simp only [stepG.exec]
          split
          · rename_i t e; exact absurd ⟨t, e⟩ hb'
          · rfl
      | region id ops draw =>
        have hops : ops.all (operOK P A fr.fn) = true := hc
        have hall : ∀ l, ∀ x ∈ Item.inRegion ops l :: k, itemOK P A fr.fn x = true := fun l x hx => by
          rcases List.mem_cons.1 hx with rfl | hx
          · exact hops
          · exact hk x hx
        cases draw with
        | false =>
          refine .inr (to (.inRegion ops (List.range ops.size) :: k) (hall _) (drawsOf_zero ht (by simp) (by simp)) fun x cs u => ?_)
          obtain ⟨fn, tmps, todo, defers, mode, kind, rnd⟩ := fr
          dsimp only at ht hm; subst ht hm; rfl
        | true =>
          have hd : drawsOf P fr w = 1 := by unfold drawsOf; rw [hm, ht]
          rw [hd] at ha ⊢
          have hstep : ∀ (x : List Item) (cs : List Frame) (u : World), stepG P mn (G (ext fr x) cs) u = .go (G (ext { fr with todo := .inRegion ops (Region.schedule (P.follows .mixedOrders) ops (u.tape u.drawn (.order fr.fn id))) :: k, mode := .run } x) cs) { u with drawn := u.drawn + 1 } #[] := by
            intro x cs u
            rw [stepG_exec (hmx x)]
            obtain ⟨fn, tmps, todo, defers, mode, kind, rnd⟩ := fr
            dsimp only at ht hm; subst ht hm
            simp [stepG.exec, ext, choose, Sem.run, Question.forced, Question.cut]
            rfl
          have htape : v.tape v.drawn (.order fr.fn id) = w.tape w.drawn (.order fr.fn id) := by simpa using ha 0 (by omega) (.order fr.fn id)
          refine .inr ⟨{ fr with todo := .inRegion ops (Region.schedule (P.follows .mixedOrders) ops (v.tape v.drawn (.order fr.fn id))) :: k, mode := .run }, { v with drawn := v.drawn + 1 }, { w with drawn := w.drawn + 1 }, #[], .inl ⟨hstep _ _ _, by rw [htape]; exact hstep _ _ _⟩, h.put (hall _) h.tr .run, .inl rfl, ⟨hv.os, hv.output, hv.size, hv.same, hv.dead, hv.hid, hv.plain, hv.views⟩, ⟨rfl, rfl, Nat.le_refl _, fun _ _ => rfl⟩, ⟨rfl, rfl, Nat.le_refl _, fun _ _ => rfl⟩, fun e he => by simp at he⟩
      | _ => cases hc
    | _ => cases hit

theorem res_plain (hA : A.good P = true) {fr : Frame} (h : FrOK P A fr) {v w : World} (hv : ViewOf S H v w) : ∃ fn, P.funcs[fr.fn]? = some fn ∧ ((∃ o v', (results fn fr.tmps).run P v = .halt o v') ∨
    ∃ x, (results fn fr.tmps).run P v = .ok x v ∧ (results fn fr.tmps).run P w = .ok x w ∧ (results fn fr.tmps).events P v #[] = (results fn fr.tmps).events P w #[] ∧ ∀ e ∈ (results fn fr.tmps).events P w #[], tameE S w.heap.size e) := by
  obtain ⟨fn, body, hf, hb, _⟩ := shape_of_good hA h.f
  refine ⟨fn, hf, ?_⟩
  rcases rd_results (P := P) (S := S) (H := H) fn fr.tmps v w hv with hh | ⟨x, e1, e2, e3, e4⟩
  · exact .inl hh
  · exact .inr ⟨x, e1, e2, e4 _, fun e he => (e3 #[] e he).resolve_left (by simp)⟩

theorem stepG_ret {fr : Frame} {fn : Func} {x : Value} {u : World} (hm : fr.mode = .returning) (hk : fr.kind = .normal) (hd : fr.defers = []) (hf : P.funcs[fr.fn]? = some fn) (hr : (results fn fr.tmps).run P u = .ok x u) (c : Frame) (cs : List Frame) :
    stepG P mn (G fr (c :: cs)) u = .go (G (c.finish x) cs) u (seen P fr.fn ((results fn fr.tmps).events P u #[])) := by
  obtain ⟨fn', tmps, todo, defers, mode, kind, rnd⟩ := fr
  dsimp only at hm hk hd hf hr
  subst hm hk hd
  simp [stepG, G, unwind, hf, hr, doReturn, GStep.after]
theorem stepG_ret_bad {fr : Frame} {fn : Func} {h : Halt} {u u' : World} (hm : fr.mode = .returning) (hd : fr.defers = []) (hf : P.funcs[fr.fn]? = some fn) (hr : (results fn fr.tmps).run P u = .halt h u') (cs : List Frame) :
    ∃ o u2 es, stepG P mn (G fr cs) u = .ended o u2 es := by
  obtain ⟨fn', tmps, todo, defers, mode, kind, rnd⟩ := fr
  dsimp only at hm hd hf hr
  subst hm hd
  cases h <;> simp [stepG, G, unwind, hf, hr, GStep.after]

theorem step_return (hA : A.good P = true) {fr : Frame} (h : FrOK P A fr) (hm : fr.mode = .returning) {v w : World} (hv : ViewOf S H v w) :
    (∀ cs, ∃ o u es, stepG P mn (G fr cs) v = .ended o u es) ∨ ∃ x es, (∀ (c : Frame) (cs : List Frame), stepG P mn (G fr (c :: cs)) v = .go (G (c.finish x) cs) v es) ∧ (∀ (c : Frame) (cs : List Frame), stepG P mn (G fr (c :: cs)) w = .go (G (c.finish x) cs) w es) ∧ ∀ e ∈ es, tameE S w.heap.size e := by
  obtain ⟨fn, hf, ⟨o, v', he⟩ | ⟨x, e1, e2, e3, e4⟩⟩ := res_plain hA h hv
  · exact .inl fun cs => stepG_ret_bad hm h.defers hf he cs
  · refine .inr ⟨x, seen P fr.fn ((results fn fr.tmps).events P w #[]), fun c cs => ?_, fun c cs => stepG_ret hm h.kind h.defers hf e2 c cs, fun e he => e4 e (Conc.mem_seen he)⟩
    rw [← e3]
    exact stepG_ret hm h.kind h.defers hf e1 c cs

theorem wait_finish {c : Frame} (hc : WaitOK P A c) (x : Value) (k : List Item) : ∃ c', (ext c k).finish x = ext c' k ∧ FrOK P A c' ∧ c'.mode = .run ∧ c'.fn = c.fn ∧ c'.todo ≠ [] := by
  obtain ⟨ops, i, rest, kk, o, ht, ho, hdst⟩ := hc.at_
  have htx : (ext c k).todo = .inRegion ops (i :: rest) :: (kk ++ k) := by show c.todo ++ k = _; rw [ht]; rfl
  refine ⟨{ c with tmps := (match (ops[i]?).bind (·.dst) with | some d => c.tmps.setIfInBounds d x | none => c.tmps), todo := .inRegion ops rest :: kk }, by rw [finish_region htx]; rfl, ?_, hc.mode, rfl, by simp⟩
  refine hc.ok.put (fun it hi => ?_) (put_tr hc.ok (fun d hd hne => ?_)) _
  · rcases List.mem_cons.1 hi with rfl | hi
    · exact hc.ok.todo (.inRegion ops (i :: rest)) (by rw [ht]; exact List.mem_cons_self)
    · exact hc.ok.todo it (by rw [ht]; exact List.mem_cons_of_mem _ hi)
  · rw [ho] at hd; exact absurd (hdst d hd) hne
end
end Go.Proofs.Ytlcgbnmmbheleaa
