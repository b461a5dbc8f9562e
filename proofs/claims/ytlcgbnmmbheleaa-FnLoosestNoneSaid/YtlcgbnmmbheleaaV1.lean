/- Several texts in one. -/
import Derived.Test.YtlcgbnmmbheleaaLiSem
namespace Go.Proofs.Ytlcgbnmmbheleaa
open Go
set_option linter.unusedVariables false
set_option linter.unusedSimpArgs false
section
variable {P : Program} {S H : Nat → Prop} {α β : Type}

theorem lk_bind {ok1 : α → Prop} {ok : β → Prop} {s : Sem α} {f : α → Sem β} (h1 : Like P S H ok1 s) (h2 : ∀ a, ok1 a → Like P S H ok (f a)) : Like P S H ok (s >>= f) := like_bind h1 h2
theorem lk_pure {ok : α → Prop} {a : α} (h : ok a) : Like P S H ok (Pure.pure a : Sem α) := like_pure h
theorem lk_stuck {ok : α → Prop} (s : String) : Like P S H ok (stuck s : Sem α) := like_halt trivial
theorem lk_panic {ok : α → Prop} (v : Value) : Like P S H ok (goPanic v : Sem α) := like_halt trivial
theorem lk_uns {ok : α → Prop} {u : Unsupported} (h : okHalt (.unsupported u)) : Like P S H ok (unsupported u : Sem α) := like_halt h
theorem ds_bind {s : Sem α} {f : α → Sem β} (hs : WellHalts P s) (hf : ∀ a, Dies P (f a)) : Dies P (s >>= f) := dies_bind hs hf
theorem wl_bind {s : Sem α} {f : α → Sem β} (hs : WellHalts P s) (hf : ∀ a, WellHalts P (f a)) : WellHalts P (s >>= f) := well_bind hs hf
theorem wl_pure (a : α) : WellHalts P (Pure.pure a : Sem α) := well_pure a
theorem wl_stuck (s : String) : WellHalts P (stuck s : Sem α) := well_halt trivial
theorem ds_stuck (s : String) : Dies P (stuck s : Sem α) := dies_halt trivial
theorem ds_panic (v : Value) : Dies P (goPanic v : Sem α) := dies_halt trivial
theorem ds_uns {u : Unsupported} (h : okHalt (.unsupported u)) : Dies P (unsupported u : Sem α) := dies_halt h
theorem wl_ok {s : Sem α} (h : ∀ w : World, ∃ a w', s.run P w = .ok a w') : WellHalts P s := fun w x w' e => by
  obtain ⟨a, w1, h1⟩ := h w
  rw [h1] at e; cases e
theorem wl_program : WellHalts P program := wl_ok fun w => ⟨P, w, rfl⟩
theorem wl_newObj (o : Obj) : WellHalts P (newObj o) := wl_ok fun w => ⟨_, _, rfl⟩
theorem wl_frozen (a : Addr) : WellHalts P (frozen a) := wl_ok fun w => ⟨_, _, rfl⟩
theorem wl_mark (m : Mark) : WellHalts P (mark m) := wl_ok fun w => ⟨_, _, rfl⟩
theorem wl_sys (c : Sys) : WellHalts P (sys c) := wl_ok fun w => ⟨_, _, rfl⟩

theorem lk_typeInfo (t : TypeId) : Like P S H (fun i => P.info? t = some i) (typeInfo t) := by
  unfold typeInfo
  refine lk_bind like_program ?_
  rintro p rfl
  split
  · rename_i i h; exact lk_pure h
  · exact lk_stuck _
theorem lk_underlying (t : TypeId) : Like P S H (fun d => P.underlying t = some d) (underlying t) := by
  unfold underlying
  refine lk_bind like_program ?_
  rintro p rfl
  split
  · rename_i i h; exact lk_pure h
  · exact lk_stuck _
theorem wl_underlying (t : TypeId) : WellHalts P (underlying t) := by
  unfold underlying
  refine wl_bind wl_program fun p => ?_
  split
  · exact wl_pure _
  · exact wl_stuck _
theorem lk_zeroValue (t : TypeId) : Like P S H (fun _ => True) (zeroValue t) := by
  unfold zeroValue
  refine lk_bind (lk_typeInfo t) fun i _ => ?_
  split
  · exact lk_pure trivial
  · exact lk_uns trivial
theorem lk_sizeOf (t : TypeId) : Like P S H (fun _ => True) (sizeOf t) := lk_bind (lk_typeInfo t) fun i _ => lk_pure trivial
theorem lk_isAgg (t : TypeId) : Like P S H (fun _ => True) (isAgg t) := by
  unfold isAgg
  refine lk_bind (lk_underlying t) fun d _ => ?_
  split <;> exact lk_pure trivial
theorem lk_loadCellsFrom (a : Addr) : ∀ (n i : Nat) (acc : Array Value), Like P S H (fun _ => True) (loadCellsFrom a i n acc)
  | 0, i, acc => lk_pure trivial
  | n + 1, i, acc => lk_bind (like_load _ _) fun v _ => lk_loadCellsFrom a n (i + 1) _
theorem lk_loadCells (a : Addr) (n : Nat) : Like P S H (fun _ => True) (loadCells a n) := lk_loadCellsFrom a n 0 #[]
theorem lk_storeCells (a : Addr) : ∀ (vs : List Value) (i : Nat), Like P S H (fun _ => True) (storeCells a vs i)
  | [], i => lk_pure trivial
  | v :: vs, i => by unfold storeCells; exact lk_bind (like_store _ _ _) fun _ _ => lk_storeCells a vs (i + 1)
theorem lk_loadVar (t : TypeId) (a : Addr) : Like P S H (fun _ => True) (loadVar t a) := by
  unfold loadVar
  refine lk_bind (lk_isAgg t) fun b _ => ?_
  split
  · exact lk_bind (lk_sizeOf t) fun n _ => lk_bind (lk_loadCells a n) fun cs _ => lk_pure trivial
  · exact like_load _ _
theorem lk_storeVar (t : TypeId) (a : Addr) (v : Value) : Like P S H (fun _ => True) (storeVar t a v) := by
  unfold storeVar
  refine lk_bind (lk_sizeOf t) fun n _ => ?_
  split
  · exact lk_bind (ok1 := fun _ => False) (lk_stuck _) fun _ h => h.elim
  · exact lk_storeCells _ _ _
theorem lk_newRow (e : TypeId) (cs : Array Value) : Like P S H (fun _ => True) (newRow e cs) := lk_bind (like_newObj rfl) fun _ _ => lk_pure trivial
theorem lk_newVar (t : TypeId) (v : Value) : Like P S H (fun _ => True) (newVar t v) := lk_newRow _ _
theorem lk_part (t : TypeId) (cs : Array Value) (off : Nat) : Like P S H (fun _ => True) (part t cs off) := by
  unfold part
  refine lk_bind (lk_isAgg t) fun b _ => ?_
  split
  · exact lk_bind (lk_sizeOf t) fun n _ => lk_pure trivial
  · split
    · exact lk_pure trivial
    · exact lk_stuck _
theorem lk_askRoom (n : Nat) : Like P S H (fun _ => True) (askRoom n) := by
  unfold askRoom
  split
  · exact like_mark fun _ => trivial
  · exact lk_pure trivial
theorem wl_elemOf (t : TypeId) : WellHalts P (elemOf t) := by
  unfold elemOf
  refine wl_bind (wl_underlying t) fun d => ?_
  split
  · exact wl_pure _
  · exact wl_stuck _
theorem ds_runtimePanic (e : RuntimeError) : Dies P (runtimePanic e : Sem α) := by
  unfold runtimePanic
  refine ds_bind wl_program fun p => ?_
  cases e with
  | typeAssertion i c a m => exact ds_bind (wl_elemOf _) fun t => ds_bind (wl_bind (wl_newObj _) fun _ => wl_pure _) fun r => ds_panic _
  | panicNil => exact ds_bind (wl_elemOf _) fun t => ds_bind (wl_bind (wl_newObj _) fun _ => wl_pure _) fun r => ds_panic _
  | _ => exact ds_panic _
theorem ds_boundsPanic (k : IntKind) (x y : Int) (c : BoundsCode) : Dies P (boundsPanic k x y c : Sem α) := by
  have hc : ∀ q : Question, WellHalts P (Functor.map (fun (n : Nat) => n == 1) (choose q)) := fun q => wl_ok fun w => by
    obtain ⟨a, w', h⟩ : ∃ a w', (choose q).run P w = .ok a w' := by
      cases hf : q.forced with
      | true => exact ⟨0, w, by simp [choose, Sem.run, hf]⟩
      | false => exact ⟨_, _, by simp only [choose, Sem.run, hf, Bool.false_eq_true, if_false]; rfl⟩
    exact ⟨a == 1, w', by show (Sem.bind _ _).run P w = _; rw [Sem.run_bind', h]; rfl⟩
  unfold boundsPanic
  split
  · exact ds_bind (hc _) fun b => ds_runtimePanic _
  · exact ds_bind (wl_pure _) fun b => ds_runtimePanic _
theorem lk_rp {ok : α → Prop} (e : RuntimeError) : Like P S H ok (runtimePanic e : Sem α) := like_dies (ds_runtimePanic e)
theorem lk_bp {ok : α → Prop} (k : IntKind) (x y : Int) (c : BoundsCode) : Like P S H ok (boundsPanic k x y c : Sem α) := like_dies (ds_boundsPanic k x y c)
theorem lk_asIntOf (v : Value) : Like P S H (fun _ => True) (asIntOf v) := by
  unfold asIntOf
  split
  · exact lk_pure trivial
  · exact lk_uns trivial
  · exact lk_stuck _
theorem lk_asInt (v : Value) : Like P S H (fun _ => True) (asInt v) := lk_bind (lk_asIntOf v) fun _ _ => lk_pure trivial
theorem lk_asBool (v : Value) : Like P S H (fun _ => True) (asBool v) := by
  unfold asBool
  split
  · exact lk_pure trivial
  · exact lk_stuck _
theorem lk_sureAddr (v : Value) : Like P S H (fun _ => True) (Instr.sureAddr v) := by
  unfold Instr.sureAddr
  split
  · exact lk_pure trivial
  · exact lk_stuck _

/-! ### places seen as numbers -/
theorem shape_view {v w : World} (hv : ViewOf S H v w) (r : Nat) : v.shape? r = w.shape? r ∨ ∃ e n, v.shape? r = some (e, 0) ∧ w.shape? r = some (e, n) := by
  unfold World.shape?
  by_cases hs : S r
  · obtain ⟨cs, ty, fr, h1, h2⟩ := hv.dead r hs
    rw [h1, h2]
    exact .inr ⟨ty, cs.size, rfl, rfl⟩
  · by_cases hh : H r
    · rcases hv.hid r hh with ⟨_, _, h1, h2⟩ | ⟨_, _, h1, h2⟩ <;> rw [h1, h2] <;> exact .inl rfl
    · rw [hv.same r hs hh]; exact .inl rfl
theorem lk_shape {ok : β → Prop} {f : Option (TypeId × Nat) → Sem β} {r : Nat} (h1 : ∀ x, Like P S H ok (f x)) (h2 : ∀ e n, Dies P (f (some (e, 0))) ∨ f (some (e, n)) = f (some (e, 0))) : Like P S H ok (shape r >>= f) := by
  intro v w hv ha
  have ev : ∀ u : World, (shape r >>= f).run P u = (f (u.shape? r)).run P u := fun u => rfl
  have ee : ∀ (u : World) es, (shape r >>= f).events P u es = (f (u.shape? r)).events P u es := fun u es => rfl
  unfold LikeAt
  rw [ev] at ha
  simp only [ev, ee]
  rcases shape_view hv r with h | ⟨e, n, h3, h4⟩
  · rw [h]; exact h1 _ v w hv ha
  · rw [h4] at ha
    rw [h3, h4]
    rcases h2 e n with hd | he
    · exact .inl (hd v)
    · rw [he] at ha ⊢; exact h1 _ v w hv ha

theorem obj_view {v w : World} (hv : ViewOf S H v w) (r : Nat) (hsh : v.shape? r = none) :
    (v.heap[r]? = w.heap[r]? ∧ ¬ S r) ∨ ((∃ cs ty, w.heap[r]? = some (.pending cs ty)) ∧ v.heap[r]? = some (.coro none) ∧ ¬ S r) ∨ ((∃ a u, w.heap[r]? = some (.view a u)) ∧ v.heap[r]? = some (.view ⟨0, 0, some 0⟩ 0) ∧ ¬ S r) := by
  have hs : ¬ S r := fun hs => by
    obtain ⟨cs, ty, fr, h1, h2⟩ := hv.dead r hs
    unfold World.shape? at hsh
    rw [h2] at hsh; cases hsh
  by_cases hh : H r
  · rcases hv.hid r hh with ⟨a, b, h1, h2⟩ | ⟨a, b, h1, h2⟩
    · exact .inr (.inl ⟨⟨a, b, h1⟩, h2, hs⟩)
    · exact .inr (.inr ⟨⟨a, b, h1⟩, h2, hs⟩)
  · exact .inl ⟨hv.same r hs hh, hs⟩

theorem run_getObj {w : World} {r : Nat} {o : Obj} (h : w.heap[r]? = some o) (hc : w.shape? r = none) : (getObj r).run P w = .ok o w ∧ ∀ es, (getObj r).events P w es = es.push ⟨.obj r, false, o.isChan⟩ := by
  unfold World.shape? at hc
  rw [h] at hc
  unfold Sem.events
  cases o <;> first | (simp at hc; done) | exact ⟨by simp only [getObj, Sem.run, h], fun es => by simp only [getObj, Sem.runT, h]⟩

theorem lk_obj {ok : β → Prop} {f : Obj → Sem β} {r : Nat} (h1 : ∀ o, Like P S H ok (f o)) (h2 : ∀ cs ty, f (.pending cs ty) = f (.coro none)) (h3 : ∀ a u, Dies P (f (.view a u)) ∨ f (.view a u) = f (.view ⟨0, 0, some 0⟩ 0)) (h4 : Dies P (f (.view ⟨0, 0, some 0⟩ 0)) ∨ ∀ a u, f (.view a u) = f (.view ⟨0, 0, some 0⟩ 0))
    {v w : World} (hv : ViewOf S H v w) (hsh : v.shape? r = none) (hsh' : w.shape? r = none) (ha : Agree v w ((resW ((getObj r >>= f).run P w)).drawn - w.drawn)) : LikeAt P S H ok (getObj r >>= f) v w := by
  have key : ∀ o o', v.heap[r]? = some o → w.heap[r]? = some o' → ¬ S r → o.isChan = o'.isChan → (Dies P (f o) ∨ f o' = f o) → LikeAt P S H ok (getObj r >>= f) v w := by
    intro o o' ho ho' hs hch hk
    obtain ⟨r1, e1⟩ := run_getObj (P := P) ho hsh
    obtain ⟨r2, e2⟩ := run_getObj (P := P) ho' hsh'
    have ev : (getObj r >>= f).run P v = (f o).run P v := by show (Sem.bind _ _).run P v = _; rw [Sem.run_bind', r1]; rfl
    have ew : (getObj r >>= f).run P w = (f o').run P w := by show (Sem.bind _ _).run P w = _; rw [Sem.run_bind', r2]; rfl
    rcases hk with hd | he
    · obtain ⟨x, v', a1, a2⟩ := hd v
      exact .inl ⟨x, v', by rw [ev]; exact a1, a2⟩
    · rw [ew, he] at ha
      rcases h1 o v w hv ha with ⟨x, v', a1, a2⟩ | ⟨n, a, v', w', q1, q2, q3, q4, q5, q6, q7, q8⟩
      · exact .inl ⟨x, v', by rw [ev]; exact a1, a2⟩
      · refine .inr ⟨n, a, v', w', by rw [ev]; exact q1, by rw [ew, he]; exact q2, q3, q4, q5, q6, fun es e hm => ?_, fun es => by
          have z : ∀ u, (getObj r >>= f).events P u es = ((getObj r).run P u).evThen ((getObj r).events P u es) fun a w' es' => (f a).events P w' es' := fun u => Sem.events_bind' ..
          rw [z, z, r1, r2, Result.evThen_ok, Result.evThen_ok, he, e1, e2, hch]; exact q8 _⟩
        have hm' : e ∈ ((getObj r).run P w).evThen ((getObj r).events P w es) fun a w' es' => (f a).events P w' es' := by
          rw [← Sem.events_bind']; exact hm
        rw [r2, Result.evThen_ok, he, e2] at hm'
        rcases q7 _ e hm' with x | x
        · rcases Array.mem_push.1 x with h | h
          · exact .inl h
          · subst h
            have := (Array.getElem?_eq_some_iff.1 ho').1
            have := q6.size
            exact .inr ⟨hs, by omega⟩
        · exact .inr x
  rcases obj_view hv r hsh with ⟨h, hs⟩ | ⟨⟨cs, ty, hw⟩, h, hs⟩ | ⟨⟨a, u, hw⟩, h, hs⟩
  · cases ho : v.heap[r]? with
    | none => exact .inl ⟨.stuck "getObj: no such block", v, by show (Sem.bind _ _).run P v = _; rw [Sem.run_bind']; simp [getObj, Sem.run, ho, Result.andThen], trivial⟩
    | some o => exact key o o ho (by rw [← h, ho]) hs rfl (.inr rfl)
  · exact key _ _ h hw hs rfl (.inr (h2 cs ty))
  · refine key _ _ h hw hs rfl ?_
    rcases h4 with hd | he
    · exact .inl hd
    · exact .inr (he a u)

theorem lk_numberAt (r : Nat) : Like P S H (fun _ => True) (numberAt r) := by
  intro v w hv ha
  have e0 : numberAt r = (shape r >>= fun x => if x.isSome then Pure.pure none else getObj r >>= fun o => match o with | .number a lost => Pure.pure (some (a, lost)) | _ => Pure.pure none) := rfl
  rw [e0] at ha ⊢
  have ev : ∀ u : World, (shape r >>= fun x => if x.isSome then Pure.pure none else getObj r >>= fun o => match o with | .number a lost => Pure.pure (some (a, lost)) | _ => Pure.pure none : Sem (Option (Addr × Bool))).run P u = (if (u.shape? r).isSome then Pure.pure none else getObj r >>= fun o => match o with | .number a lost => Pure.pure (some (a, lost)) | _ => Pure.pure none : Sem (Option (Addr × Bool))).run P u := fun u => rfl
  have ee : ∀ (u : World) es, (shape r >>= fun x => if x.isSome then Pure.pure none else getObj r >>= fun o => match o with | .number a lost => Pure.pure (some (a, lost)) | _ => Pure.pure none : Sem (Option (Addr × Bool))).events P u es = (if (u.shape? r).isSome then Pure.pure none else getObj r >>= fun o => match o with | .number a lost => Pure.pure (some (a, lost)) | _ => Pure.pure none : Sem (Option (Addr × Bool))).events P u es := fun u es => rfl
  have hsome : (v.shape? r).isSome = (w.shape? r).isSome := by
    rcases shape_view hv r with h | ⟨e, n, h3, h4⟩
    · rw [h]
    · rw [h3, h4]; rfl
  unfold LikeAt
  rw [ev] at ha
  simp only [ev, ee]
  rw [hsome]
  cases hw : (w.shape? r).isSome with
  | true => exact lk_pure (ok := fun _ => True) trivial v w hv (by rw [hw] at ha; exact ha)
  | false =>
    rw [hw] at ha hsome
    have hsh : v.shape? r = none := by simpa using hsome
    have hsh' : w.shape? r = none := by simpa using hw
    refine lk_obj (f := fun o => match o with | .number a lost => Pure.pure (some (a, lost)) | _ => Pure.pure none) (fun o => ?_) (fun _ _ => rfl) (fun _ _ => .inr rfl) (.inr fun _ _ => rfl) hv hsh hsh' ha
    split <;> exact lk_pure trivial

theorem lk_viewAt {ok : β → Prop} {f : Option (Addr × TypeId) → Sem β} {r : Nat} (h1 : ∀ x, Dies P (f (some x))) (h2 : Like P S H ok (f none)) : Like P S H ok (viewAt r >>= f) := by
  have e0 : (viewAt r >>= f) = (shape r >>= fun x => if x.isSome then f none else getObj r >>= fun o => match o with | .view a t => f (some (a, t)) | _ => f none) := by
    refine congrArg (Sem.shape r) (funext fun x => ?_)
    show Sem.bind (if x.isSome then Pure.pure none else (getObj r >>= fun o => match o with | .view a t => Pure.pure (some (a, t)) | _ => Pure.pure none) : Sem (Option (Addr × TypeId))) f = _
    show _ = (if x.isSome then f none else getObj r >>= fun o => match o with | .view a t => f (some (a, t)) | _ => f none : Sem β)
    split
    · rfl
    · refine congrArg (Sem.getObj r) (funext fun o => ?_)
      cases o <;> rfl
  rw [e0]
  intro v w hv ha
  have ev : ∀ u : World, (shape r >>= fun x => if x.isSome then f none else getObj r >>= fun o => match o with | .view a t => f (some (a, t)) | _ => f none : Sem β).run P u = (if (u.shape? r).isSome then f none else getObj r >>= fun o => match o with | .view a t => f (some (a, t)) | _ => f none : Sem β).run P u := fun u => rfl
  have ee : ∀ (u : World) es, (shape r >>= fun x => if x.isSome then f none else getObj r >>= fun o => match o with | .view a t => f (some (a, t)) | _ => f none : Sem β).events P u es = (if (u.shape? r).isSome then f none else getObj r >>= fun o => match o with | .view a t => f (some (a, t)) | _ => f none : Sem β).events P u es := fun u es => rfl
  have hsome : (v.shape? r).isSome = (w.shape? r).isSome := by
    rcases shape_view hv r with h | ⟨e, n, h3, h4⟩
    · rw [h]
    · rw [h3, h4]; rfl
  unfold LikeAt
  rw [ev] at ha
  simp only [ev, ee]
  rw [hsome]
  cases hw : (w.shape? r).isSome with
  | true => exact h2 v w hv (by rw [hw] at ha; exact ha)
  | false =>
    rw [hw] at ha hsome
    have hsh : v.shape? r = none := by simpa using hsome
    have hsh' : w.shape? r = none := by simpa using hw
    refine lk_obj (f := fun o => match o with | .view a t => f (some (a, t)) | _ => f none) (fun o => ?_) (fun _ _ => rfl) (fun _ _ => .inl (h1 _)) (.inl (h1 _)) hv hsh hsh' ha
    split
    · exact like_dies (h1 _)
    · exact h2

theorem lk_behind (n : Addr) : Like P S H (fun _ => True) (behindNumber n) := lk_bind (lk_numberAt _) fun _ _ => lk_pure trivial
theorem lk_noView (a : Addr) : Like P S H (fun _ => True) (noView a) :=
  lk_viewAt (fun x => ds_uns trivial) (lk_pure trivial)
theorem lk_byteOf (a : Addr) : Like P S H (fun _ => True) (byteOf a) := by
  unfold byteOf
  split
  · exact lk_pure trivial
  · refine lk_bind like_program ?_
    rintro p rfl
    refine lk_bind (lk_noView a) fun _ _ => ?_
    refine lk_shape (fun x => ?_) (fun e n => .inr rfl)
    split
    · dsimp only
      split
      · exact lk_pure trivial
      · split
        · exact lk_pure trivial
        · exact lk_stuck _
    · exact lk_stuck _
theorem lk_unsafeAdd (ts : Array TypeId) (t : TypeId) (x len : Value) : Like P S H (fun _ => True) (Builtin.unsafeAdd_ ts t #[x, len]) := by
  cases x with
  | pointer ptr =>
    unfold Builtin.unsafeAdd_
    dsimp only
    refine lk_bind (lk_asInt len) fun n _ => ?_
    split
    · split
      · exact lk_viewAt (fun x => ds_uns trivial) (lk_pure trivial)
      · exact lk_uns trivial
    · split
      · exact lk_uns trivial
      · split
        · refine lk_shape (fun x => ?_) (fun e n => .inl ?_)
          · split
            · refine lk_bind like_program ?_
              rintro p rfl
              split
              · exact lk_pure trivial
              · exact lk_uns trivial
            · exact lk_uns trivial
          · dsimp only
            intro w
            refine ⟨.unsupported (.unsafePointer "Add"), w, ?_, trivial⟩
            show (Sem.bind _ _).run P w = _
            rw [Sem.run_bind']
            have hz : ∀ off m, cellAtBytes P P.depth e (0 / P.cellsOf e) off m = none := fun off m => by
              unfold cellAtBytes
              rw [Nat.zero_div]
              simp only [Nat.zero_mul, bind, Option.bind]
              split
              · rfl
              · split
                · rfl
                · rename_i x hx
                  dsimp only
                  split
                  · rfl
                  · rename_i h
                    exfalso
                    simp only [Bool.or_eq_true, decide_eq_true_eq, not_or] at h
                    have h1 := h.1
                    have h2 := h.2
                    have e0 : Int.ofNat 0 = 0 := rfl
                    rw [e0] at h2
                    omega
            simp only [program, Sem.run, Result.andThen, hz]
            rfl
        · exact lk_uns trivial
  | _ => exact lk_stuck _

theorem lk_asNumber (a : Addr) (b : Bool) : Like P S H (fun _ => True) (asNumber a b) := lk_bind (like_newObj rfl) fun _ _ => lk_pure trivial
theorem lk_underlying' (t : TypeId) : Like P S H (fun _ => True) (underlying t) := (lk_underlying t).mono fun _ _ => trivial
theorem lk_movedNumber (t : TypeId) (x y : Value) : Like P S H (fun _ => True) (movedNumber t x y) := by
  unfold movedNumber
  (repeat' first | with_reducible exact lk_pure trivial | with_reducible exact lk_stuck _ | ((with_reducible refine lk_uns ?_) <;> trivial) | with_reducible exact like_choose _ | with_reducible exact lk_rp _ | with_reducible exact lk_panic _ | with_reducible exact lk_asBool _ | with_reducible exact lk_underlying' _ | with_reducible exact lk_behind _ | with_reducible exact lk_unsafeAdd _ _ _ _ | with_reducible exact lk_asNumber _ _ | (with_reducible refine lk_bind (ok1 := fun _ => True) ?_ fun _ _ => ?_) | split | dsimp only)
theorem lk_movedPointer (t : TypeId) (x y : Value) : Like P S H (fun _ => True) (movedPointer t x y) := by
  unfold movedPointer
  (repeat' first | with_reducible exact lk_pure trivial | with_reducible exact lk_stuck _ | ((with_reducible refine lk_uns ?_) <;> trivial) | with_reducible exact like_choose _ | with_reducible exact lk_rp _ | with_reducible exact lk_panic _ | with_reducible exact lk_asBool _ | with_reducible exact lk_numberAt _ | with_reducible exact lk_unsafeAdd _ _ _ _ | (with_reducible refine lk_bind (ok1 := fun _ => True) ?_ fun _ _ => ?_) | split | dsimp only)
theorem lk_twoPlaces (a b : Addr) : Like P S H (fun _ => True) (Op.twoPlaces a b) := by
  unfold Op.twoPlaces
  refine lk_bind like_program ?_
  rintro p rfl
  split
  · exact lk_uns trivial
  · exact lk_bind (lk_byteOf a) fun _ _ => lk_bind (lk_byteOf b) fun _ _ => lk_pure trivial
theorem lk_addrSub (k : IntKind) (a b : Addr) : Like P S H (fun _ => True) (Op.addrSub k a b) := lk_bind (lk_twoPlaces a b) fun _ _ => lk_pure trivial
theorem lk_addrCmp (op : BinOp) (a b : Addr) : Like P S H (fun _ => True) (Op.addrCmp op a b) := by
  unfold Op.addrCmp
  refine lk_bind (lk_twoPlaces a b) fun x _ => ?_
  cases op <;> first | exact lk_pure trivial | exact lk_uns trivial
theorem lk_addrMod (k : IntKind) (a : Addr) (n : Int) : Like P S H (fun _ => True) (Op.addrMod k a n) := by
  unfold Op.addrMod
  refine lk_shape (fun x => ?_) (fun e n => .inr rfl)
  split
  · refine lk_bind (lk_typeInfo _) fun i _ => ?_
    dsimp only
    split
    · exact lk_uns trivial
    · exact lk_bind (lk_byteOf a) fun _ _ => lk_pure trivial
  · exact lk_uns trivial

/-! ### numbers -/
theorem lk_floatArith (op : BinOp) (k : FloatKind) (x y : Nat) : Like P S H (fun _ => True) (Op.floatArith op k x y) := by
  unfold Op.floatArith
  cases op <;> (repeat' first | with_reducible exact lk_pure trivial | with_reducible exact lk_stuck _ | ((with_reducible refine lk_uns ?_) <;> trivial) | with_reducible exact like_choose _ | with_reducible exact lk_rp _ | with_reducible exact lk_panic _ | with_reducible exact lk_asBool _  | (with_reducible refine lk_bind (ok1 := fun _ => True) ?_ fun _ _ => ?_) | split | dsimp only)
theorem lk_floatCmp (op : BinOp) (k : FloatKind) (x y : Nat) : Like P S H (fun _ => True) (Op.floatCmp op k x y) := by
  unfold Op.floatCmp
  cases op <;> (repeat' first | with_reducible exact lk_pure trivial | with_reducible exact lk_stuck _ | ((with_reducible refine lk_uns ?_) <;> trivial) | with_reducible exact like_choose _ | with_reducible exact lk_rp _ | with_reducible exact lk_panic _ | with_reducible exact lk_asBool _  | (with_reducible refine lk_bind (ok1 := fun _ => True) ?_ fun _ _ => ?_) | split | dsimp only)
theorem lk_cArith (op : BinOp) (k : FloatKind) (x y : Nat) : Like P S H (fun _ => True) (Op.Complex.arith op k x y) := by
  unfold Op.Complex.arith
  (repeat' first | with_reducible exact lk_pure trivial | with_reducible exact lk_stuck _ | ((with_reducible refine lk_uns ?_) <;> trivial) | with_reducible exact like_choose _ | with_reducible exact lk_rp _ | with_reducible exact lk_panic _ | with_reducible exact lk_asBool _ | with_reducible exact lk_floatArith _ _ _ _ | (with_reducible refine lk_bind (ok1 := fun _ => True) ?_ fun _ _ => ?_) | split | dsimp only)
theorem lk_cCmp (op : BinOp) (k : FloatKind) (x y : Nat) : Like P S H (fun _ => True) (Op.Complex.cmp op k x y) := by
  unfold Op.Complex.cmp
  (repeat' first | with_reducible exact lk_pure trivial | with_reducible exact lk_stuck _ | ((with_reducible refine lk_uns ?_) <;> trivial) | with_reducible exact like_choose _ | with_reducible exact lk_rp _ | with_reducible exact lk_panic _ | with_reducible exact lk_asBool _ | with_reducible exact lk_floatCmp _ _ _ _ | (with_reducible refine lk_bind (ok1 := fun _ => True) ?_ fun _ _ => ?_) | split | dsimp only)
theorem lk_ftf (s : FloatKind) (x : Nat) (d : FloatKind) : Like P S H (fun _ => True) (Conv.floatToFloat s x d) := by
  unfold Conv.floatToFloat
  (repeat' first | with_reducible exact lk_pure trivial | with_reducible exact lk_stuck _ | ((with_reducible refine lk_uns ?_) <;> trivial) | with_reducible exact like_choose _ | with_reducible exact lk_rp _ | with_reducible exact lk_panic _ | with_reducible exact lk_asBool _  | (with_reducible refine lk_bind (ok1 := fun _ => True) ?_ fun _ _ => ?_) | split | dsimp only)
theorem lk_cConv (s : FloatKind) (x : Nat) (d : FloatKind) : Like P S H (fun _ => True) (Op.Complex.conv s x d) := by
  unfold Op.Complex.conv
  (repeat' first | with_reducible exact lk_pure trivial | with_reducible exact lk_stuck _ | ((with_reducible refine lk_uns ?_) <;> trivial) | with_reducible exact like_choose _ | with_reducible exact lk_rp _ | with_reducible exact lk_panic _ | with_reducible exact lk_asBool _ | with_reducible exact lk_ftf _ _ _ | (with_reducible refine lk_bind (ok1 := fun _ => True) ?_ fun _ _ => ?_) | split | dsimp only)
theorem lk_cProduct (a b c d : Nat) : Like P S H (fun _ => True) (Op.Complex.product a b c d) := by
  unfold Op.Complex.product Op.Complex.add Op.Complex.sub Op.Complex.mul
  (repeat' first | with_reducible exact lk_pure trivial | with_reducible exact lk_stuck _ | ((with_reducible refine lk_uns ?_) <;> trivial) | with_reducible exact like_choose _ | with_reducible exact lk_rp _ | with_reducible exact lk_panic _ | with_reducible exact lk_asBool _ | with_reducible exact lk_cArith _ _ _ _ | (with_reducible refine lk_bind (ok1 := fun _ => True) ?_ fun _ _ => ?_) | split | dsimp only)
theorem lk_cCorrected (s a b c d : Nat) : Like P S H (fun _ => True) (Op.Complex.corrected s a b c d) := by
  unfold Op.Complex.corrected Op.Complex.add Op.Complex.sub Op.Complex.mul
  (repeat' first | with_reducible exact lk_pure trivial | with_reducible exact lk_stuck _ | ((with_reducible refine lk_uns ?_) <;> trivial) | with_reducible exact like_choose _ | with_reducible exact lk_rp _ | with_reducible exact lk_panic _ | with_reducible exact lk_asBool _ | with_reducible exact lk_cArith _ _ _ _ | (with_reducible refine lk_bind (ok1 := fun _ => True) ?_ fun _ _ => ?_) | split | dsimp only)
theorem lk_cQuotient (a b c d : Nat) : Like P S H (fun _ => True) (Op.Complex.quotient a b c d) := by
  unfold Op.Complex.quotient Op.Complex.add Op.Complex.sub Op.Complex.mul Op.Complex.quo
  (repeat' first | with_reducible exact lk_pure trivial | with_reducible exact lk_stuck _ | ((with_reducible refine lk_uns ?_) <;> trivial) | with_reducible exact like_choose _ | with_reducible exact lk_rp _ | with_reducible exact lk_panic _ | with_reducible exact lk_asBool _ | with_reducible exact lk_cArith _ _ _ _ | with_reducible exact lk_cCmp _ _ _ _ | with_reducible exact lk_cCorrected _ _ _ _ _ | (with_reducible refine lk_bind (ok1 := fun _ => True) ?_ fun _ _ => ?_) | split | dsimp only)
theorem lk_complexOp (op : BinOp) (k : FloatKind) (a b c d : Nat) : Like P S H (fun _ => True) (Op.complexOp op k a b c d) := by
  unfold Op.complexOp
  (repeat' first | with_reducible exact lk_pure trivial | with_reducible exact lk_stuck _ | ((with_reducible refine lk_uns ?_) <;> trivial) | with_reducible exact like_choose _ | with_reducible exact lk_rp _ | with_reducible exact lk_panic _ | with_reducible exact lk_asBool _ | with_reducible exact lk_cArith _ _ _ _ | with_reducible exact lk_cCmp _ _ _ _ | with_reducible exact lk_cConv _ _ _ | with_reducible exact lk_cProduct _ _ _ _ | with_reducible exact lk_cQuotient _ _ _ _ | (with_reducible refine lk_bind (ok1 := fun _ => True) ?_ fun _ _ => ?_) | split | dsimp only)
theorem lk_stringOp (op : BinOp) (x y : ByteArray) : Like P S H (fun _ => True) (Op.stringOp op x y) := by
  unfold Op.stringOp
  (repeat' first | with_reducible exact lk_pure trivial | with_reducible exact lk_stuck _ | ((with_reducible refine lk_uns ?_) <;> trivial) | with_reducible exact like_choose _ | with_reducible exact lk_rp _ | with_reducible exact lk_panic _ | with_reducible exact lk_asBool _  | (with_reducible refine lk_bind (ok1 := fun _ => True) ?_ fun _ _ => ?_) | split | dsimp only)
theorem lk_intArith (op : BinOp) (k : IntKind) (x y : Int) : Like P S H (fun _ => True) (Op.intArith op k x y) := by
  unfold Op.intArith
  (repeat' first | with_reducible exact lk_pure trivial | with_reducible exact lk_stuck _ | ((with_reducible refine lk_uns ?_) <;> trivial) | with_reducible exact like_choose _ | with_reducible exact lk_rp _ | with_reducible exact lk_panic _ | with_reducible exact lk_asBool _  | (with_reducible refine lk_bind (ok1 := fun _ => True) ?_ fun _ _ => ?_) | split | dsimp only)
theorem lk_intDiv (op : BinOp) (k : IntKind) (x y : Int) : Like P S H (fun _ => True) (Op.intDiv op k x y) := by
  unfold Op.intDiv
  (repeat' first | with_reducible exact lk_pure trivial | with_reducible exact lk_stuck _ | ((with_reducible refine lk_uns ?_) <;> trivial) | with_reducible exact like_choose _ | with_reducible exact lk_rp _ | with_reducible exact lk_panic _ | with_reducible exact lk_asBool _  | (with_reducible refine lk_bind (ok1 := fun _ => True) ?_ fun _ _ => ?_) | split | dsimp only)
theorem lk_intCmp (op : BinOp) (x y : Int) : Like P S H (fun _ => True) (Op.intCmp op x y) := by
  unfold Op.intCmp
  (repeat' first | with_reducible exact lk_pure trivial | with_reducible exact lk_stuck _ | ((with_reducible refine lk_uns ?_) <;> trivial) | with_reducible exact like_choose _ | with_reducible exact lk_rp _ | with_reducible exact lk_panic _ | with_reducible exact lk_asBool _  | (with_reducible refine lk_bind (ok1 := fun _ => True) ?_ fun _ _ => ?_) | split | dsimp only)
theorem lk_intBits (op : BinOp) (k : IntKind) (x y : Int) : Like P S H (fun _ => True) (Op.intBits op k x y) := by
  unfold Op.intBits
  (repeat' first | with_reducible exact lk_pure trivial | with_reducible exact lk_stuck _ | ((with_reducible refine lk_uns ?_) <;> trivial) | with_reducible exact like_choose _ | with_reducible exact lk_rp _ | with_reducible exact lk_panic _ | with_reducible exact lk_asBool _  | (with_reducible refine lk_bind (ok1 := fun _ => True) ?_ fun _ _ => ?_) | split | dsimp only)
theorem lk_shift (op : BinOp) (k : IntKind) (x : Int) (k' : IntKind) (y : Int) : Like P S H (fun _ => True) (Op.shift op k x k' y) := by
  unfold Op.shift
  (repeat' first | with_reducible exact lk_pure trivial | with_reducible exact lk_stuck _ | ((with_reducible refine lk_uns ?_) <;> trivial) | with_reducible exact like_choose _ | with_reducible exact lk_rp _ | with_reducible exact lk_panic _ | with_reducible exact lk_asBool _  | (with_reducible refine lk_bind (ok1 := fun _ => True) ?_ fun _ _ => ?_) | split | dsimp only)
theorem lk_unary (op : UnOp) (x : Value) : Like P S H (fun _ => True) (Op.unary op x) := by
  unfold Op.unary
  (repeat' first | with_reducible exact lk_pure trivial | with_reducible exact lk_stuck _ | ((with_reducible refine lk_uns ?_) <;> trivial) | with_reducible exact like_choose _ | with_reducible exact lk_rp _ | with_reducible exact lk_panic _ | with_reducible exact lk_asBool _ | with_reducible exact lk_intArith _ _ _ _ | with_reducible exact lk_intBits _ _ _ _ | (with_reducible refine lk_bind (ok1 := fun _ => True) ?_ fun _ _ => ?_) | split | dsimp only)

def plainT (P : Program) (t : TypeId) : Prop := (∃ k, P.underlying t = some (.int k)) ∨ P.underlying t = some .bool
theorem lk_equal {t : TypeId} (ht : plainT P t) (x y : Value) : Like P S H (fun _ => True) (Op.equal t x y) := by
  unfold Op.equal
  show Like P S H _ (Op.equalIn (9999 + 1) t x y)
  unfold Op.equalIn
  refine lk_bind (lk_underlying t) fun d hd => ?_
  have hb : ∀ n, Like P S H (fun _ => True) (behindNumber n) := lk_behind
  have ho : ∀ n, Like P S H (fun _ => True) (byteOf n) := lk_byteOf
  have hp : Like P S H (fun _ => True) program := like_program.mono fun _ _ => trivial
  have hi : ∀ t, Like P S H (fun _ => True) (typeInfo t) := fun t => (lk_typeInfo t).mono fun _ _ => trivial
  rcases ht with ⟨k, ht⟩ | ht <;> rw [ht] at hd <;> cases hd
  · cases x with
    | int k a => cases y with
      | pointer b =>
        cases b with
        | none => exact lk_uns trivial
        | some b =>
          cases a with
          | ofNat n => cases n with
            | zero => exact lk_pure trivial
            | succ n => exact lk_uns trivial
          | negSucc n => exact lk_uns trivial
      | int k' b =>
        show Like P S H _ (if k = k' then _ else _)
        split
        · exact lk_pure trivial
        · exact lk_stuck _
      | _ => exact lk_stuck _
    | pointer a =>
      cases a with
      | none => cases y <;> exact lk_uns trivial
      | some a => cases y with
        | pointer b =>
          cases b with
          | none => exact lk_uns trivial
          | some b =>
            refine lk_bind (hb _) fun x _ => lk_bind (hb _) fun y _ => ?_
            dsimp only
            (repeat' first | with_reducible exact lk_pure trivial | with_reducible exact lk_stuck _ | ((with_reducible refine lk_uns ?_) <;> trivial) | with_reducible exact like_choose _ | with_reducible exact lk_rp _ | with_reducible exact lk_panic _ | with_reducible exact lk_asBool _ | exact ho _ | exact hp | exact hi _ | (with_reducible refine lk_bind (ok1 := fun _ => True) ?_ fun _ _ => ?_) | split | dsimp only)
        | int k b =>
          cases b with
          | ofNat n => cases n with
            | zero => exact lk_pure trivial
            | succ n => exact lk_uns trivial
          | negSucc n => exact lk_uns trivial
        | _ => exact lk_uns trivial
    | _ => cases y <;> first | exact lk_stuck _ | exact lk_uns trivial
  · cases x <;> cases y <;> first | exact lk_stuck _ | exact lk_pure trivial
theorem lk_eqGuardIn {t : TypeId} (ht : plainT P t) (a b : Value) : Like P S H (fun _ => True) (Op.eqGuardIn Op.maxDepth t a b) := by
  show Like P S H _ (Op.eqGuardIn (9999 + 1) t a b)
  unfold Op.eqGuardIn
  refine lk_bind (lk_underlying t) fun d hd => ?_
  rcases ht with ⟨k, ht⟩ | ht <;> rw [ht] at hd <;> cases hd <;> cases a <;> cases b <;> exact lk_pure trivial
theorem lk_eqGuard {op : BinOp} {t : TypeId} (ht : plainT P t) (x y : Operand) (a b : Value) : Like P S H (fun _ => True) (eqGuard op t x y a b) := by
  have hi : ∀ a b, Like P S H (fun _ => True) (Op.eqGuardIn Op.maxDepth t a b) := lk_eqGuardIn ht
  have hp : Like P S H (fun _ => True) program := like_program.mono fun _ _ => trivial
  unfold eqGuard
  cases hop : (!(op matches .eql | .neq)) with
  | true => exact lk_pure trivial
  | false =>
    rw [if_neg (by simp)]
    cases a <;> cases b <;> first | exact lk_pure trivial | skip
    · (repeat' first | with_reducible exact lk_pure trivial | with_reducible exact lk_stuck _ | ((with_reducible refine lk_uns ?_) <;> trivial) | with_reducible exact like_choose _ | with_reducible exact lk_rp _ | with_reducible exact lk_panic _ | with_reducible exact lk_asBool _ | with_reducible exact hi _ _ | with_reducible exact hp | (with_reducible refine lk_bind (ok1 := fun _ => True) ?_ fun _ _ => ?_) | split | dsimp only)
    · (repeat' first | with_reducible exact lk_pure trivial | with_reducible exact lk_stuck _ | ((with_reducible refine lk_uns ?_) <;> trivial) | with_reducible exact like_choose _ | with_reducible exact lk_rp _ | with_reducible exact lk_panic _ | with_reducible exact lk_asBool _ | with_reducible exact hi _ _ | with_reducible exact hp | (with_reducible refine lk_bind (ok1 := fun _ => True) ?_ fun _ _ => ?_) | split | dsimp only)

theorem lk_binOp (op : BinOp) {t : TypeId} (ht : plainT P t) (x y : Value) : Like P S H (fun _ => True) (binOp op t x y) := by
  have he : ∀ x y, Like P S H (fun _ => True) (Op.equal t x y) := lk_equal ht
  have hb : ∀ n, Like P S H (fun _ => True) (behindNumber n) := lk_behind
  have hu : ∀ t, Like P S H (fun _ => True) (underlying t) := lk_underlying'
  unfold binOp
  (repeat' first | with_reducible exact lk_pure trivial | with_reducible exact lk_stuck _ | ((with_reducible refine lk_uns ?_) <;> trivial) | with_reducible exact like_choose _ | with_reducible exact lk_rp _ | with_reducible exact lk_panic _ | with_reducible exact lk_asBool _ | with_reducible exact he _ _ | with_reducible exact hb _ | with_reducible exact hu _ | with_reducible exact lk_shift _ _ _ _ _ | with_reducible exact lk_intArith _ _ _ _ | with_reducible exact lk_intDiv _ _ _ _ | with_reducible exact lk_intBits _ _ _ _ | with_reducible exact lk_intCmp _ _ _ | with_reducible exact lk_floatArith _ _ _ _ | with_reducible exact lk_floatCmp _ _ _ _ | with_reducible exact lk_complexOp _ _ _ _ _ _ | with_reducible exact lk_stringOp _ _ _ | with_reducible exact lk_movedPointer _ _ _ | with_reducible exact lk_movedNumber _ _ _ | with_reducible exact lk_addrSub _ _ _ | with_reducible exact lk_addrCmp _ _ _ | with_reducible exact lk_addrMod _ _ _ | (with_reducible refine lk_bind (ok1 := fun _ => True) ?_ fun _ _ => ?_) | split | dsimp only)

/-! ### memory -/
theorem lk_alloc (t : TypeId) : Like P S H (fun _ => True) (Instr.alloc t true (.tuple #[])) := by
  unfold Instr.alloc
  exact lk_bind (lk_zeroValue t) fun z _ => lk_bind (lk_newVar t z) fun _ _ => lk_pure trivial
theorem lk_box (t : TypeId) (v : Value) : Like P S H (fun _ => True) (Instr.box t v) := lk_bind (lk_newVar t v) fun _ _ => lk_pure trivial
theorem lk_loadAt (t : TypeId) (v : Value) : Like P S H (fun _ => True) (Instr.loadAt t v) := lk_bind (lk_sureAddr v) fun a _ => lk_loadVar t a
theorem lk_storeAt (t : TypeId) (v x : Value) : Like P S H (fun _ => True) (Instr.storeAt t v x) := lk_bind (lk_sureAddr v) fun a _ => lk_storeVar t a x
theorem lk_makeMap (t : TypeId) (r : Option Value) : Like P S H (fun _ => True) (Instr.makeMap t r) := by
  have ha : ∀ v, Like P S H (fun _ => True) (asInt v) := lk_asInt
  have hn : ∀ es, Like P S H (fun _ => True) (newObj (.map es 0)) := fun _ => like_newObj rfl
  unfold Instr.makeMap
  (repeat' first | with_reducible exact lk_pure trivial | with_reducible exact lk_stuck _ | ((with_reducible refine lk_uns ?_) <;> trivial) | with_reducible exact like_choose _ | with_reducible exact lk_rp _ | with_reducible exact lk_panic _ | with_reducible exact lk_asBool _ | with_reducible exact ha _ | with_reducible exact hn _ | with_reducible exact lk_underlying' _ | (with_reducible refine lk_bind (ok1 := fun _ => True) ?_ fun _ _ => ?_) | split | dsimp only)
theorem lk_makeSlice (t : TypeId) (l c : Value) : Like P S H (fun _ => True) (Instr.makeSlice t l c) := by
  have hi : ∀ t, Like P S H (fun _ => True) (typeInfo t) := fun t => (lk_typeInfo t).mono fun _ _ => trivial
  unfold Instr.makeSlice
  (repeat' first | with_reducible exact lk_pure trivial | with_reducible exact lk_stuck _ | ((with_reducible refine lk_uns ?_) <;> trivial) | with_reducible exact like_choose _ | with_reducible exact lk_rp _ | with_reducible exact lk_panic _ | with_reducible exact lk_asBool _ | with_reducible exact lk_asInt _ | with_reducible exact lk_underlying' _ | with_reducible exact hi _ | with_reducible exact lk_askRoom _ | with_reducible exact lk_sizeOf _ | with_reducible exact lk_zeroValue _ | with_reducible exact lk_newRow _ _ | (with_reducible refine lk_bind (ok1 := fun _ => True) ?_ fun _ _ => ?_) | split | dsimp only)
theorem lk_buildSlice (t : TypeId) (n : Nat) (ps : Array (Nat × Value)) : Like P S H (fun _ => True) (Instr.buildSlice t n ps) := by
  unfold Instr.buildSlice
  (repeat' first | with_reducible exact lk_pure trivial | with_reducible exact lk_stuck _ | ((with_reducible refine lk_uns ?_) <;> trivial) | with_reducible exact like_choose _ | with_reducible exact lk_rp _ | with_reducible exact lk_panic _ | with_reducible exact lk_asBool _ | with_reducible exact lk_underlying' _ | with_reducible exact lk_sizeOf _ | with_reducible exact lk_zeroValue _ | with_reducible exact lk_newRow _ _ | (with_reducible refine lk_bind (ok1 := fun _ => True) ?_ fun _ _ => ?_) | split | dsimp only)
theorem lk_partAt (a : Addr) (c b : Nat) : Like P S H (fun _ => True) (partAt a c b) := by
  unfold partAt
  (repeat' first | with_reducible exact lk_pure trivial | with_reducible exact lk_stuck _ | ((with_reducible refine lk_uns ?_) <;> trivial) | with_reducible exact like_choose _ | with_reducible exact lk_rp _ | with_reducible exact lk_panic _ | with_reducible exact lk_asBool _ | with_reducible exact lk_byteOf _ | (with_reducible refine lk_bind (ok1 := fun _ => True) ?_ fun _ _ => ?_) | split | dsimp only)
theorem lk_indexAt (t : TypeId) (x i : Value) : Like P S H (fun _ => True) (Instr.indexAt t x i) := by
  unfold Instr.indexAt
  (repeat' first | with_reducible exact lk_pure trivial | with_reducible exact lk_stuck _ | ((with_reducible refine lk_uns ?_) <;> trivial) | with_reducible exact like_choose _ | with_reducible exact lk_rp _ | with_reducible exact lk_panic _ | with_reducible exact lk_asBool _ | with_reducible exact lk_asIntOf _ | with_reducible exact lk_underlying' _ | with_reducible exact lk_sizeOf _ | with_reducible exact lk_sureAddr _ | with_reducible exact lk_bp _ _ _ _ | (with_reducible refine lk_bind (ok1 := fun _ => True) ?_ fun _ _ => ?_) | split | dsimp only)
theorem lk_fieldAt (t : TypeId) (x : Value) (i : Nat) : Like P S H (fun _ => True) (Instr.fieldAt t x i) := by
  unfold Instr.fieldAt fieldPlace
  (repeat' first | with_reducible exact lk_pure trivial | with_reducible exact lk_stuck _ | ((with_reducible refine lk_uns ?_) <;> trivial) | with_reducible exact like_choose _ | with_reducible exact lk_rp _ | with_reducible exact lk_panic _ | with_reducible exact lk_asBool _ | with_reducible exact lk_underlying' _ | with_reducible exact lk_sizeOf _ | with_reducible exact lk_sureAddr _ | with_reducible exact lk_partAt _ _ _ | (with_reducible refine lk_bind (ok1 := fun _ => True) ?_ fun _ _ => ?_) | split | dsimp only)
theorem lk_extract (t : Value) (i : Nat) : Like P S H (fun _ => True) (Instr.extract t i) := by
  unfold Instr.extract
  (repeat' first | with_reducible exact lk_pure trivial | with_reducible exact lk_stuck _ | ((with_reducible refine lk_uns ?_) <;> trivial) | with_reducible exact like_choose _ | with_reducible exact lk_rp _ | with_reducible exact lk_panic _ | with_reducible exact lk_asBool _  | (with_reducible refine lk_bind (ok1 := fun _ => True) ?_ fun _ _ => ?_) | split | dsimp only)
theorem lk_makeInterface (t : TypeId) (x : Value) : Like P S H (fun _ => True) (Instr.makeInterface t x) := by
  unfold Instr.makeInterface
  (repeat' first | with_reducible exact lk_pure trivial | with_reducible exact lk_stuck _ | ((with_reducible refine lk_uns ?_) <;> trivial) | with_reducible exact like_choose _ | with_reducible exact lk_rp _ | with_reducible exact lk_panic _ | with_reducible exact lk_asBool _ | with_reducible exact lk_underlying' _ | (with_reducible refine lk_bind (ok1 := fun _ => True) ?_ fun _ _ => ?_) | split | dsimp only)
theorem wl_panicnil : WellHalts P Instr.panicnil := by
  unfold Instr.panicnil
  refine wl_bind (wl_sys _) fun r => ?_
  split
  · exact wl_bind wl_program fun _ => wl_pure _
  · exact wl_stuck _
theorem ds_panicOp (x : Value) : Dies P (Instr.panic x) := by
  unfold Instr.panic
  split
  · exact ds_panic _
  · refine ds_bind wl_panicnil fun n => ?_
    split
    · exact ds_panic _
    · exact ds_runtimePanic _
  · exact ds_stuck _
theorem lk_panicOp (x : Value) : Like P S H (fun _ => True) (Instr.panic x) := like_dies (ds_panicOp x)

/-! ### a map of integers -/
theorem lk_checkKey (e : Bool) {t : TypeId} (ht : plainT P t) (v : Value) : Like P S H (fun _ => True) (Instr.checkKey e 10000 t v) := by
  show Like P S H _ (Instr.checkKey e (9999 + 1) t v)
  unfold Instr.checkKey
  refine lk_bind (lk_underlying t) fun d hd => ?_
  rcases ht with ⟨k, ht⟩ | ht <;> rw [ht] at hd <;> cases hd <;> cases v <;> exact lk_pure trivial
theorem lk_findAsking {t : TypeId} (ht : plainT P t) (k : Value) : ∀ (es : List MapEntry) (i : Nat), Like P S H (fun _ => True) (Instr.findAsking t k es i)
  | [], i => lk_pure trivial
  | e :: es, i => by
    unfold Instr.findAsking
    refine lk_bind (lk_equal ht _ _) fun b _ => ?_
    split
    · exact lk_pure trivial
    · exact lk_findAsking ht k es (i + 1)
theorem lk_findKey {t : TypeId} (ht : plainT P t) (k : Value) (es : List MapEntry) : Like P S H (fun _ => True) (Instr.findKey t k es) := by
  unfold Instr.findKey
  refine lk_bind (lk_underlying' t) fun d _ => ?_
  split
  · exact lk_pure trivial
  · exact lk_findAsking ht k es 0
theorem lk_keyThatStays (a b : Value) : Like P S H (fun _ => True) (Instr.keyThatStays a b) := by
  unfold Instr.keyThatStays
  (repeat' first | with_reducible exact lk_pure trivial | with_reducible exact lk_stuck _ | ((with_reducible refine lk_uns ?_) <;> trivial) | with_reducible exact like_choose _ | with_reducible exact lk_rp _ | with_reducible exact lk_panic _ | with_reducible exact lk_asBool _  | (with_reducible refine lk_bind (ok1 := fun _ => True) ?_ fun _ _ => ?_) | split | dsimp only)

theorem lk_getMap {ok : β → Prop} {f : Array MapEntry → Nat → Sem β} {g : Obj → Sem β} (r : Nat) (hg : ∀ es c, g (.map es c) = f es c) (hn : ∀ o, (∀ es c, o ≠ .map es c) → Dies P (g o))
    (h1 : ¬ S r → ¬ H r → ∀ es c, Like P S H ok (f es c)) : Like P S H ok (getObj r >>= g) := by
  refine like_getObj r (fun hs hh o _ => ?_) (hn _ fun _ _ => by simp) (hn _ fun _ _ => by simp) (fun a u => hn _ fun _ _ => by simp)
  cases o with
  | map es c => rw [hg]; exact h1 hs hh es c
  | _ => exact like_dies (hn _ fun _ _ => by simp)

theorem lk_lookup {t key elem : TypeId} (hm : P.underlying t = some (.map key elem)) (ht : plainT P key) (x ix : Value) (ok : Bool) : Like P S H (fun _ => True) (Instr.lookup t x ix ok) := by
  have rest : ∀ es : Array MapEntry, Like P S H (fun _ => True) (do
      Instr.checkKey es.isEmpty 10000 key ix
      let (v, k) ← match ← Instr.findKey key ix es.toList with
        | some (_, v) => pure (v, true)
        | none => pure (← zeroValue elem, false)
      pure (if ok then .tuple #[v, .bool k] else v)) := fun es => by
    refine lk_bind (lk_checkKey _ ht _) fun _ _ => lk_bind (lk_findKey ht _ _) fun o _ => ?_
    (repeat' first | with_reducible exact lk_pure trivial | with_reducible exact lk_stuck _ | ((with_reducible refine lk_uns ?_) <;> trivial) | with_reducible exact like_choose _ | with_reducible exact lk_rp _ | with_reducible exact lk_panic _ | with_reducible exact lk_asBool _ | with_reducible exact lk_zeroValue _ | (with_reducible refine lk_bind (ok1 := fun _ => True) ?_ fun _ _ => ?_) | split | dsimp only)
  unfold Instr.lookup
  refine lk_bind (lk_underlying t) fun d hd => ?_
  rw [hm] at hd; cases hd
  cases x with
  | map m =>
    cases m with
    | none => exact rest #[]
    | some r => exact lk_getMap r (fun es c => rfl) (fun o ho => by cases o <;> first | exact ds_stuck _ | exact absurd rfl (ho _ _)) (fun _ _ es c => rest es)
  | _ => exact lk_stuck _

theorem lk_mapUpdate {t key elem : TypeId} (hm : P.underlying t = some (.map key elem)) (ht : plainT P key) (m k v : Value) : Like P S H (fun _ => True) (Instr.mapUpdate t m k v) := by
  unfold Instr.mapUpdate
  refine lk_bind (lk_underlying t) fun d hd => ?_
  rw [hm] at hd; cases hd
  cases m with
  | map m =>
    cases m with
    | none => exact lk_rp _
    | some r =>
      refine lk_getMap r (fun es c => rfl) (fun o ho => by cases o <;> first | exact ds_stuck _ | exact absurd rfl (ho _ _)) (fun hs hh es c => ?_)
      refine lk_bind (lk_checkKey _ ht _) fun _ _ => lk_bind (lk_findKey ht _ _) fun o _ => ?_
      split
      · exact lk_bind (lk_keyThatStays _ _) fun _ _ => like_setObj hs hh rfl
      · exact like_setObj hs hh rfl
  | _ => exact lk_stuck _

/-! ### slices -/
theorem wl_holdsCells (a : Addr) (n : Nat) : WellHalts P (Builtin.holdsCells a n) := wl_ok fun w => by
  unfold Builtin.holdsCells
  show ∃ a' w', (Sem.bind (shape a.block) _).run P w = _
  rw [Sem.run_bind']
  cases h : w.shape? a.block with
  | none => exact ⟨false, w, by simp only [shape, Sem.run, Result.andThen, h]; rfl⟩
  | some x => exact ⟨_, w, by simp only [shape, Sem.run, Result.andThen, h]; rfl⟩
theorem wl_mayShare (a b c : Nat) (x : Option Addr) (v : Value) : WellHalts P (Builtin.mayShare a b c x v) := by
  unfold Builtin.mayShare
  repeat' first
    | exact wl_pure _
    | exact wl_holdsCells _ _
    | exact wl_frozen _
    | (refine wl_bind ?_ fun _ => ?_)
    | split
    | dsimp only
theorem lk_lenOf (v : Value) : Like P S H (fun _ => True) (Builtin.lenOf v) := by
  unfold Builtin.lenOf
  (repeat' first | with_reducible exact lk_pure trivial | with_reducible exact lk_stuck _ | ((with_reducible refine lk_uns ?_) <;> trivial) | with_reducible exact like_choose _ | with_reducible exact lk_rp _ | with_reducible exact lk_panic _ | with_reducible exact lk_asBool _  | (with_reducible refine lk_bind (ok1 := fun _ => True) ?_ fun _ _ => ?_) | split | dsimp only)
theorem lk_firstCells (a b : Nat) (v : Value) : Like P S H (fun _ => True) (Builtin.firstCells a b v) := by
  unfold Builtin.firstCells
  (repeat' first | with_reducible exact lk_pure trivial | with_reducible exact lk_stuck _ | ((with_reducible refine lk_uns ?_) <;> trivial) | with_reducible exact like_choose _ | with_reducible exact lk_rp _ | with_reducible exact lk_panic _ | with_reducible exact lk_asBool _ | with_reducible exact lk_loadCells _ _ | (with_reducible refine lk_bind (ok1 := fun _ => True) ?_ fun _ _ => ?_) | split | dsimp only)
set_option maxHeartbeats 3200000 in
theorem lk_append (ts : Array TypeId) (t : TypeId) (args : Array Value) : Like P S H (fun _ => True) (Builtin.append_ ts t args) := by
  have hi : ∀ t, Like P S H (fun _ => True) (typeInfo t) := fun t => (lk_typeInfo t).mono fun _ _ => trivial
  have hbig : ∀ (a b c : Nat) (x : Option Addr) (v : Value) (u : String), Like P S H (fun _ => True) (Builtin.mayShare a b c x v >>= fun s => if (!s) = true then mark .noRoom >>= fun _ => (unsupported (.resourceLimit u) : Sem Unit) else unsupported (.resourceLimit u)) := fun a b c x v u => like_dies (ds_bind (wl_mayShare _ _ _ _ _) fun b => by
      split
      · exact ds_bind (wl_mark _) fun _ => ds_uns trivial
      · exact ds_uns trivial)
  unfold Builtin.append_
  cases hu : ts[0]? with
  | none => exact lk_stuck _
  | some u =>
    cases hx : args[0]? with
    | none => exact lk_stuck _
    | some x =>
      cases hy : args[1]? with
      | none => exact lk_stuck _
      | some y =>
        refine lk_bind (lk_underlying' u) fun d _ => ?_
        cases d with
        | slice elem =>
          cases x with
          | slice base sLen sCap =>
            refine lk_bind (lk_sizeOf _) fun size _ => ?_
            dsimp only
            (repeat' first | with_reducible exact lk_pure trivial | with_reducible exact lk_stuck _ | ((with_reducible refine lk_uns ?_) <;> trivial) | with_reducible exact like_choose _ | with_reducible exact lk_rp _ | with_reducible exact lk_panic _ | with_reducible exact lk_asBool _ | with_reducible exact hbig _ _ _ _ _ _ | with_reducible exact hi _ | with_reducible exact lk_asInt _ | with_reducible exact lk_underlying' _ | with_reducible exact lk_zeroValue _ | with_reducible exact lk_firstCells _ _ _ | with_reducible exact lk_storeCells _ _ _ | with_reducible exact lk_askRoom _ | with_reducible exact lk_newRow _ _ | with_reducible exact lk_lenOf _ | (with_reducible refine lk_bind (ok1 := fun _ => True) ?_ fun _ _ => ?_) | split | dsimp only)
            all_goals (rename_i z zt; cases z <;> simp only [if_true, Bool.false_eq_true, if_false, Bool.not_true, Bool.not_false, true_or, false_or])
            all_goals (repeat' first | with_reducible exact lk_pure trivial | with_reducible exact lk_stuck _ | ((with_reducible refine lk_uns ?_) <;> trivial) | with_reducible exact like_choose _ | with_reducible exact lk_rp _ | with_reducible exact lk_panic _ | with_reducible exact lk_asBool _ | with_reducible exact hbig _ _ _ _ _ _ | with_reducible exact hi _ | with_reducible exact lk_asInt _ | with_reducible exact lk_underlying' _ | with_reducible exact lk_zeroValue _ | with_reducible exact lk_firstCells _ _ _ | with_reducible exact lk_storeCells _ _ _ | with_reducible exact lk_askRoom _ | with_reducible exact lk_newRow _ _ | with_reducible exact lk_lenOf _ | (with_reducible refine lk_bind (ok1 := fun _ => True) ?_ fun _ _ => ?_) | split | dsimp only)
          | _ => exact lk_stuck _
        | _ => exact lk_stuck _
theorem lk_len (ts : Array TypeId) (t : TypeId) (args : Array Value) (ht : ∀ u, ts[0]? = some u → ∃ e, P.underlying u = some (.slice e)) : Like P S H (fun _ => True) (Builtin.len_ ts t args) := by
  unfold Builtin.len_
  cases hu : ts[0]? with
  | none => exact lk_stuck _
  | some u =>
    cases hx : args[0]? with
    | none => exact lk_stuck _
    | some x =>
      obtain ⟨e, he⟩ := ht u hu
      refine lk_bind (lk_underlying u) fun d hd => ?_
      rw [he] at hd; cases hd
      cases x <;> first | exact lk_pure trivial | exact lk_stuck _
theorem lk_max2 (x y : Value) : Like P S H (fun _ => True) (Builtin.max2 x y) := by
  unfold Builtin.max2
  (repeat' first | with_reducible exact lk_pure trivial | with_reducible exact lk_stuck _ | ((with_reducible refine lk_uns ?_) <;> trivial) | with_reducible exact like_choose _ | with_reducible exact lk_rp _ | with_reducible exact lk_panic _ | with_reducible exact lk_asBool _ | with_reducible exact lk_stringOp _ _ _ | (with_reducible refine lk_bind (ok1 := fun _ => True) ?_ fun _ _ => ?_) | split | dsimp only)
theorem lk_min2 (x y : Value) : Like P S H (fun _ => True) (Builtin.min2 x y) := by
  unfold Builtin.min2
  (repeat' first | with_reducible exact lk_pure trivial | with_reducible exact lk_stuck _ | ((with_reducible refine lk_uns ?_) <;> trivial) | with_reducible exact like_choose _ | with_reducible exact lk_rp _ | with_reducible exact lk_panic _ | with_reducible exact lk_asBool _ | with_reducible exact lk_stringOp _ _ _ | (with_reducible refine lk_bind (ok1 := fun _ => True) ?_ fun _ _ => ?_) | split | dsimp only)
theorem lk_foldlM {f : Value → Value → Sem Value} (hf : ∀ x y, Like P S H (fun _ => True) (f x y)) : ∀ (l : List Value) (x : Value), Like P S H (fun _ => True) (l.foldlM f x)
  | [], x => lk_pure trivial
  | y :: l, x => lk_bind (hf x y) fun z _ => lk_foldlM hf l z
theorem lk_max (ts : Array TypeId) (t : TypeId) (args : Array Value) : Like P S H (fun _ => True) (Builtin.max_ ts t args) := by
  unfold Builtin.max_
  split
  · exact lk_stuck _
  · exact lk_foldlM lk_max2 _ _
theorem lk_min (ts : Array TypeId) (t : TypeId) (args : Array Value) : Like P S H (fun _ => True) (Builtin.min_ ts t args) := by
  unfold Builtin.min_
  split
  · exact lk_stuck _
  · exact lk_foldlM lk_min2 _ _
end
end Go.Proofs.Ytlcgbnmmbheleaa

namespace Go.Proofs.Ytlcgbnmmbheleaa
open Go
set_option linter.unusedVariables false
set_option linter.unusedSimpArgs false
section
variable {P : Program} {S H : Nat → Prop} {α β γ δ : Type}
theorem lk_foldL {f : δ → γ → Sem δ} (hf : ∀ x y, Like P S H (fun _ => True) (f x y)) : ∀ (l : List γ) (x : δ), Like P S H (fun _ => True) (l.foldlM f x)
  | [], x => lk_pure trivial
  | y :: l, x => lk_bind (hf x y) fun z _ => lk_foldL hf l z
theorem lk_mapA {f : γ → Sem δ} (hf : ∀ x, Like P S H (fun _ => True) (f x)) (xs : Array γ) : Like P S H (fun _ => True) (xs.mapM f) := by
  rw [Array.mapM_eq_foldlM, ← Array.foldlM_toList]
  refine lk_foldL (fun x y => ?_) _ _
  rw [map_eq_pure_bind]
  exact lk_bind (hf y) fun _ _ => lk_pure trivial
theorem lk_build (t : TypeId) (ps : Array (Nat × Value)) : Like P S H (fun _ => True) (Instr.build t ps) := by
  have hm : ∀ fields : Array Field, Like P S H (fun _ => True) (fields.mapM fun f => do pure (f.offset, ← sizeOf f.type)) := fun fields => lk_mapA (fun f => lk_bind (lk_sizeOf _) fun _ _ => lk_pure trivial) fields
  unfold Instr.build
  (repeat' first | with_reducible exact lk_pure trivial | with_reducible exact lk_stuck _ | ((with_reducible refine lk_uns ?_) <;> trivial) | with_reducible exact like_choose _ | with_reducible exact lk_rp _ | with_reducible exact lk_panic _ | with_reducible exact lk_asBool _ | with_reducible exact lk_underlying' _ | with_reducible exact lk_zeroValue _ | with_reducible exact lk_sizeOf _ | with_reducible exact hm _ | (with_reducible refine lk_bind (ok1 := fun _ => True) ?_ fun _ _ => ?_) | split | dsimp only)
theorem lk_sliceBound (x : Value) (y : Nat) (c : BoundsCode) : Like P S H (fun _ => True) (Instr.sliceBound x y c) := by
  unfold Instr.sliceBound
  (repeat' first | with_reducible exact lk_pure trivial | with_reducible exact lk_stuck _ | ((with_reducible refine lk_uns ?_) <;> trivial) | with_reducible exact like_choose _ | with_reducible exact lk_rp _ | with_reducible exact lk_panic _ | with_reducible exact lk_asBool _ | with_reducible exact lk_asIntOf _ | with_reducible exact lk_bp _ _ _ _ | (with_reducible refine lk_bind (ok1 := fun _ => True) ?_ fun _ _ => ?_) | split | dsimp only)
theorem lk_sliceBounds (b : Bool) (l c : Nat) (x y z : Option Value) : Like P S H (fun _ => True) (Instr.sliceBounds b l c x y z) := by
  unfold Instr.sliceBounds
  (repeat' first | with_reducible exact lk_pure trivial | with_reducible exact lk_stuck _ | ((with_reducible refine lk_uns ?_) <;> trivial) | with_reducible exact like_choose _ | with_reducible exact lk_rp _ | with_reducible exact lk_panic _ | with_reducible exact lk_asBool _ | with_reducible exact lk_sliceBound _ _ _ | (with_reducible refine lk_bind (ok1 := fun _ => True) ?_ fun _ _ => ?_) | split | dsimp only)
theorem lk_asAddr (v : Value) : Like P S H (fun _ => True) (asAddr v) := by
  unfold asAddr
  (repeat' first | with_reducible exact lk_pure trivial | with_reducible exact lk_stuck _ | ((with_reducible refine lk_uns ?_) <;> trivial) | with_reducible exact like_choose _ | with_reducible exact lk_rp _ | with_reducible exact lk_panic _ | with_reducible exact lk_asBool _  | (with_reducible refine lk_bind (ok1 := fun _ => True) ?_ fun _ _ => ?_) | split | dsimp only)
theorem lk_sliceOp (t : TypeId) (x : Value) (l h m : Option Value) : Like P S H (fun _ => True) (Instr.slice t x l h m) := by
  unfold Instr.slice
  (repeat' first | with_reducible exact lk_pure trivial | with_reducible exact lk_stuck _ | ((with_reducible refine lk_uns ?_) <;> trivial) | with_reducible exact like_choose _ | with_reducible exact lk_rp _ | with_reducible exact lk_panic _ | with_reducible exact lk_asBool _ | with_reducible exact lk_underlying' _ | with_reducible exact lk_sizeOf _ | with_reducible exact lk_sliceBounds _ _ _ _ _ _ | with_reducible exact lk_asAddr _ | (with_reducible refine lk_bind (ok1 := fun _ => True) ?_ fun _ _ => ?_) | split | dsimp only)
theorem lk_sliceAt (t : TypeId) (x : Value) (l h m : Option Value) : Like P S H (fun _ => True) (Instr.sliceAt t x l h m) := by
  unfold Instr.sliceAt
  (repeat' first | with_reducible exact lk_pure trivial | with_reducible exact lk_stuck _ | ((with_reducible refine lk_uns ?_) <;> trivial) | with_reducible exact like_choose _ | with_reducible exact lk_rp _ | with_reducible exact lk_panic _ | with_reducible exact lk_asBool _ | with_reducible exact lk_underlying' _ | with_reducible exact lk_sizeOf _ | with_reducible exact lk_sliceBounds _ _ _ _ _ _ | with_reducible exact lk_sureAddr _ | with_reducible exact lk_sliceOp _ _ _ _ _ | (with_reducible refine lk_bind (ok1 := fun _ => True) ?_ fun _ _ => ?_) | split | dsimp only)
theorem lk_followBlind : ∀ (l : List FieldStep) (t : TypeId) (x : Option Value), Like P S H (fun _ => True) (followBlind l t x)
  | [], t, x => lk_pure trivial
  | s :: rest, t, x => by
    have ih : ∀ t x, Like P S H (fun _ => True) (followBlind rest t x) := fun t x => lk_followBlind rest t x
    unfold followBlind
    (repeat' first | with_reducible exact lk_pure trivial | with_reducible exact lk_stuck _ | ((with_reducible refine lk_uns ?_) <;> trivial) | with_reducible exact like_choose _ | with_reducible exact lk_rp _ | with_reducible exact lk_panic _ | with_reducible exact lk_asBool _ | with_reducible exact lk_underlying' _ | with_reducible exact ih _ _ | with_reducible exact lk_part _ _ _ | (with_reducible refine lk_bind (ok1 := fun _ => True) ?_ fun _ _ => ?_) | split | dsimp only)
theorem lk_nilAhead : ∀ (n : Nat) (t : TypeId) (v : Value) (m : String), Like P S H (fun _ => True) (nilAhead n t v m)
  | 0, _, _, _ => lk_pure trivial
  | n + 1, t, v, m => by
    have ih : ∀ t v m, Like P S H (fun _ => True) (nilAhead n t v m) := fun t v m => lk_nilAhead n t v m
    have ht : ∀ t, Like P S H (fun _ => True) (typeInfo t) := fun t => (lk_typeInfo t).mono fun _ _ => trivial
    unfold nilAhead
    (repeat' first | with_reducible exact lk_pure trivial | with_reducible exact lk_stuck _ | ((with_reducible refine lk_uns ?_) <;> trivial) | with_reducible exact like_choose _ | with_reducible exact lk_rp _ | with_reducible exact lk_panic _ | with_reducible exact lk_asBool _ | with_reducible exact lk_underlying' _ | with_reducible exact ht _ | with_reducible exact ih _ _ _ | with_reducible exact lk_followBlind _ _ _ | (with_reducible refine lk_bind (ok1 := fun _ => True) ?_ fun _ _ => ?_) | split | dsimp only)
theorem lk_convert {s d : TypeId} {k k' : IntKind} (hs : P.underlying s = some (.int k)) (hd : P.underlying d = some (.int k')) (x : Value) : Like P S H (fun _ => True) (convert s d x) := by
  unfold convert
  refine lk_bind (lk_underlying s) fun a ha => lk_bind (lk_underlying d) fun b hb => ?_
  rw [hs] at ha; cases ha
  rw [hd] at hb; cases hb
  have hf : ∀ s b k, Like P S H (fun _ => True) (Conv.floatToInt s b k) := fun s b k => by
    unfold Conv.floatToInt
    (repeat' first | with_reducible exact lk_pure trivial | with_reducible exact lk_stuck _ | ((with_reducible refine lk_uns ?_) <;> trivial) | with_reducible exact like_choose _ | with_reducible exact lk_rp _ | with_reducible exact lk_panic _ | with_reducible exact lk_asBool _  | (with_reducible refine lk_bind (ok1 := fun _ => True) ?_ fun _ _ => ?_) | split | dsimp only)
  cases x <;> first | exact lk_pure trivial | exact lk_stuck _ | exact lk_uns trivial | exact hf _ _ _ | skip
  case pointer a => cases a <;> exact lk_uns trivial
theorem lk_cap (ts : Array TypeId) (t : TypeId) (args : Array Value) (ht : ∀ u, ts[0]? = some u → ∃ e, P.underlying u = some (.slice e)) : Like P S H (fun _ => True) (Builtin.cap_ ts t args) := by
  unfold Builtin.cap_
  cases hu : ts[0]? with
  | none => exact lk_stuck _
  | some u =>
    cases hx : args[0]? with
    | none => exact lk_stuck _
    | some x =>
      obtain ⟨e, he⟩ := ht u hu
      refine lk_bind (lk_underlying u) fun d hd => ?_
      rw [he] at hd; cases hd
      cases x <;> first | exact lk_pure trivial | exact lk_stuck _

/-! ### what only reads: a return's results -/
def Rd (P : Program) (S H : Nat → Prop) (s : Sem α) : Prop :=
  ∀ v w, ViewOf S H v w → (∃ h v', s.run P v = .halt h v') ∨ ∃ x, s.run P v = .ok x v ∧ s.run P w = .ok x w ∧ (∀ es, tamed S w.heap.size es (s.events P w es)) ∧ ∀ es, s.events P v es = s.events P w es
theorem rd_pure (x : α) : Rd P S H (pure x : Sem α) := fun v w hv => .inr ⟨x, rfl, rfl, fun es e he => .inl he, fun es => rfl⟩
theorem rd_dies {s : Sem α} (h : Dies P s) : Rd P S H s := fun v w hv => let ⟨h1, v', e, _⟩ := h v; .inl ⟨h1, v', e⟩
theorem rd_stuck (m : String) : Rd P S H (stuck m : Sem α) := fun v w hv => .inl ⟨_, v, rfl⟩
theorem rd_bind {s : Sem α} {f : α → Sem β} (h1 : Rd P S H s) (h2 : ∀ x, Rd P S H (f x)) : Rd P S H (s >>= f) := fun v w hv => by
  show (∃ h v', (s.bind f).run P v = .halt h v') ∨ ∃ x, (s.bind f).run P v = .ok x v ∧ (s.bind f).run P w = .ok x w ∧ (∀ es, tamed S w.heap.size es ((s.bind f).events P w es)) ∧ ∀ es, (s.bind f).events P v es = (s.bind f).events P w es
  rcases h1 v w hv with ⟨h, v', e⟩ | ⟨x, e1, e2, e3, e4⟩
  · exact .inl ⟨h, v', by rw [Sem.run_bind', e]; rfl⟩
  · rcases h2 x v w hv with ⟨h, v', e⟩ | ⟨y, g1, g2, g3, g4⟩
    · exact .inl ⟨h, v', by rw [Sem.run_bind', e1]; exact e⟩
    · refine .inr ⟨y, by rw [Sem.run_bind', e1]; exact g1, by rw [Sem.run_bind', e2]; exact g2, fun es e he => ?_, fun es => ?_⟩
      · rw [Sem.events_bind', e2] at he
        rcases g3 _ e he with h | h
        · exact e3 es e h
        · exact .inr h
      · rw [Sem.events_bind', Sem.events_bind', e1, e2]
        rw [e4]
        exact g4 _
theorem rd_program : Rd P S H program := fun v w hv => .inr ⟨P, rfl, rfl, fun es e he => .inl he, fun es => rfl⟩
theorem rd_load (a : Addr) (m : Mode) : Rd P S H (load a m) := by
  intro v w hv
  cases hx : v.cell? a with
  | none =>
    obtain ⟨⟨h, h1, h2⟩, _⟩ := far_error (P := P) hv (a := a) (m == .atomic)
    exact .inl ⟨h, v, by simp only [load, Sem.run, hx, h1]⟩
  | some x =>
    have hg : ¬ (S a.block ∨ H a.block) := fun h => by rw [cell_gone hv h] at hx; cases hx
    have hx' : w.cell? a = some x := by rw [← cell_view hv (fun x => hg (.inl x)) (fun x => hg (.inr x)), hx]
    refine .inr ⟨x, by simp only [load, Sem.run, hx], by simp only [load, Sem.run, hx'], fun es e he => ?_, fun es => by rw [events_load, events_load, hx, hx']⟩
    rw [events_load, hx'] at he
    rcases Array.mem_push.1 he with h | h
    · exact .inl h
    · subst h; exact .inr ⟨fun x => hg (.inl x), cell_lt hx'⟩
theorem rd_typeInfo (t : TypeId) : Rd P S H (typeInfo t) := by
  unfold typeInfo
  refine rd_bind rd_program fun p => ?_
  split
  · exact rd_pure _
  · exact rd_stuck _
theorem rd_underlying (t : TypeId) : Rd P S H (underlying t) := by
  unfold underlying
  refine rd_bind rd_program fun p => ?_
  split
  · exact rd_pure _
  · exact rd_stuck _
theorem rd_sizeOf (t : TypeId) : Rd P S H (sizeOf t) := rd_bind (rd_typeInfo t) fun _ => rd_pure _
theorem rd_isAgg (t : TypeId) : Rd P S H (isAgg t) := by
  unfold isAgg
  refine rd_bind (rd_underlying t) fun d => ?_
  split <;> exact rd_pure _
theorem rd_loadCellsFrom (a : Addr) : ∀ (n i : Nat) (acc : Array Value), Rd P S H (loadCellsFrom a i n acc)
  | 0, i, acc => rd_pure _
  | n + 1, i, acc => rd_bind (rd_load _ _) fun v => rd_loadCellsFrom a n (i + 1) _
theorem rd_loadVar (t : TypeId) (a : Addr) : Rd P S H (loadVar t a) := by
  unfold loadVar
  refine rd_bind (rd_isAgg t) fun b => ?_
  split
  · exact rd_bind (rd_sizeOf t) fun n => rd_bind (rd_loadCellsFrom a n 0 #[]) fun cs => rd_pure _
  · exact rd_load _ _
theorem rd_asAddr (v : Value) : Rd P S H (asAddr v) := by
  unfold asAddr
  split
  · exact rd_pure _
  · exact rd_dies (ds_runtimePanic _)
  · exact rd_stuck _
theorem rd_foldL {f : δ → γ → Sem δ} (hf : ∀ x y, Rd P S H (f x y)) : ∀ (l : List γ) (x : δ), Rd P S H (l.foldlM f x)
  | [], x => rd_pure _
  | y :: l, x => rd_bind (hf x y) fun z => rd_foldL hf l z
theorem rd_mapA {f : γ → Sem δ} (hf : ∀ x, Rd P S H (f x)) (xs : Array γ) : Rd P S H (xs.mapM f) := by
  rw [Array.mapM_eq_foldlM, ← Array.foldlM_toList]
  refine rd_foldL (fun x y => ?_) _ _
  rw [map_eq_pure_bind]
  exact rd_bind (hf y) fun _ => rd_pure _
theorem rd_results (fn : Func) (tmps : Array Value) : Rd P S H (results fn tmps) := by
  unfold results
  refine rd_bind (rd_mapA (fun x => ?_) _) fun vs => rd_pure _
  cases x with
  | tmp t => exact rd_pure _
  | cell a t => exact rd_bind (rd_asAddr _) fun _ => rd_loadVar _ _
end
end Go.Proofs.Ytlcgbnmmbheleaa
