/- Walks of a function that sends and receives over a channel in its own goroutine alone. No program in sight. -/
import Derived.Conc.LoneCalls
import Derived.WalkKit
namespace Go.Proofs.YtjjnbbkdjimcoaaGreat
set_option linter.unusedVariables false
open Go Go.RowKit Go.Conc

/-- A piece of code, in a frame of an ordinary call. -/
def WpN (P : Program) (c : Code) (Q : Exit → Act → World → Prop) (a : Act) (w : World) : Prop :=
  ∀ b : Frame, b.kind ≠ .early → ∀ (k : List Item) (cs : List Frame), ∃ e a' w', Q e a' w' ∧ Arrives P (lone (b.at a (.code c :: k)) cs w) b k cs e a' w'
/-- What is left of a region, in a frame of an ordinary call. -/
def OpsN (P : Program) (ops : Array Oper) (Q : Exit → Act → World → Prop) (l : List Nat) (a : Act) (w : World) : Prop :=
  ∀ b : Frame, b.kind ≠ .early → ∀ (k : List Item) (cs : List Frame), ∃ e a' w', Q e a' w' ∧ Arrives P (lone (b.at a (.inRegion ops l :: k)) cs w) b k cs e a' w'
section
variable {P : Program} {Q : Exit → Act → World → Prop} {a : Act} {w : World} {x y c : Code} {ops : Array Oper} {l rest : List Nat} {i : Nat} {o : Oper}
theorem wpN_of (h : c.wp P Q a w) : WpN P c Q a w := fun b _ k cs => h b k cs
theorem Arrives.over {m : Machine} {b : Frame} {t : Item} {k : List Item} {cs : List Frame} {e : Exit} (ht : t.plain = true) (he : e ≠ .normal) (h : Arrives P m b (t :: k) cs e a w) : Arrives P m b k cs e a w :=
  Arrives.pass ht (fun _ _ => .inl he) h
theorem wpN_seq (h : WpN P x (Exit.then (WpN P y Q) Q) a w) : WpN P (.seq x y) Q a w := fun b hb k cs => by
  obtain ⟨e, a1, w1, hq, hr⟩ := h b hb (.code y :: k) cs
  by_cases he : e = .normal
  · subst he
    obtain ⟨e2, a2, w2, hq2, hr2⟩ := (show WpN P y Q a1 w1 from hq) b hb k cs
    exact ⟨e2, a2, w2, hq2, Arrives.of_steps (Steps.head step_seq hr) hr2⟩
  · refine ⟨e, a1, w1, ?_, Arrives.of_steps (Steps.one step_seq) (Arrives.over rfl he hr)⟩
    cases e <;> first | exact absurd rfl he | exact hq
theorem wpN_skipTo (h : WpN P x (Exit.then (fun a w => Q .normal a w) Q) a w) : WpN P x Q a w := fun b hb k cs => by
  obtain ⟨e, a1, w1, hq, hr⟩ := h b hb k cs
  exact ⟨e, a1, w1, by cases e <;> exact hq, hr⟩
theorem wpN_block {id : Nat} (h : WpN P c (Exit.inBlock id Q) a w) : WpN P (.block id c) Q a w := fun b hb k cs => by
  obtain ⟨e, a1, w1, hq, hr⟩ := h b hb (.inBlock id :: k) cs
  have st := Steps.one (step_block (P := P) (b := b) (a := a) (k := k) (cs := cs) (w := w) (id := id) (c := c))
  cases e with
  | normal => exact ⟨.normal, a1, w1, hq, (st.trans hr).trans (Steps.one step_inBlock)⟩
  | exit j =>
    by_cases hj : j = id
    · subst hj
      exact ⟨.normal, a1, w1, by simpa [Exit.inBlock] using hq, st.trans (hr k (by simp [exitTo]))⟩
    · refine ⟨.exit j, a1, w1, by simpa [Exit.inBlock, hj] using hq, fun k' hk => st.trans (hr k' ?_)⟩
      have hne : (id == j) = false := by simpa using fun e => hj e.symm
      simp [exitTo, hne, hk]
  | goto t => exact ⟨.goto t, a1, w1, hq, fun k' hk => st.trans (hr k' (by simp [gotoIn, hk]))⟩
  | ret => exact ⟨.ret, a1, w1, hq, hr.imp fun _ h => st.trans h⟩
  | panic ch => exact ⟨.panic ch, a1, w1, hq, hr.imp fun _ h => st.trans h⟩
  | outgrown => exact ⟨.outgrown, a1, w1, hq, hr.imp (fun h => h) (Outgrown.of_steps st)⟩
theorem wpN_loop (I : Act → World → Prop) (m : Act → World → Nat) (h0 : I a w) (round : ∀ a w, I a w → WpN P c (Exit.then (fun a' w' => I a' w' ∧ m a' w' < m a w) Q) a w) : WpN P (.loop c) Q a w := fun b hb k cs => by
  suffices key : ∀ n a w, m a w = n → I a w → ∃ e a' w', Q e a' w' ∧ Arrives P (lone (b.at a (.code c :: .inLoop c :: k)) cs w) b k cs e a' w' by
    obtain ⟨e, a1, w1, hq, hr⟩ := key _ a w rfl h0
    exact ⟨e, a1, w1, hq, Arrives.of_steps (Steps.one step_loop) hr⟩
  intro n
  induction n using Nat.strongRecOn with
  | ind n ih =>
    intro a w hn hI
    obtain ⟨e, a1, w1, hq, hr⟩ := round a w hI b hb (.inLoop c :: k) cs
    by_cases he : e = .normal
    · subst he
      obtain ⟨h1, h2⟩ := (show I a1 w1 ∧ m a1 w1 < m a w from hq)
      obtain ⟨e2, a2, w2, hq2, hr2⟩ := ih (m a1 w1) (by omega) a1 w1 rfl h1
      exact ⟨e2, a2, w2, hq2, Arrives.of_steps (Steps.trans hr (Steps.one step_inLoop)) hr2⟩
    · refine ⟨e, a1, w1, ?_, Arrives.over rfl he hr⟩
      cases e <;> first | exact absurd rfl he | exact hq
theorem wpN_cond {t : Operand} {v : Bool} (hc : a.eval t = .bool v) (h : WpN P (if v then x else y) Q a w) : WpN P (.cond t x y) Q a w := fun b hb k cs =>
  let ⟨e, a1, w1, hq, hr⟩ := h b hb k cs
  ⟨e, a1, w1, hq, Arrives.of_steps (Steps.one (step_cond hc)) hr⟩
theorem wpN_region {id : Nat} (h : OpsN P ops Q (List.range ops.size) a w) : WpN P (.region id ops false) Q a w := fun b hb k cs =>
  let ⟨e, a1, w1, hq, hr⟩ := h b hb k cs
  ⟨e, a1, w1, hq, Arrives.of_steps (Steps.one step_region) hr⟩
theorem opsN_of (h : wpOps P ops Q l a w) : OpsN P ops Q l a w := fun b _ k cs => wp_ops l a w h b k cs
theorem opsN_nil (h : Q .normal a w) : OpsN P ops Q [] a w := fun _ _ _ _ => ⟨.normal, a, w, h, Steps.one step_region_end⟩
theorem frame_put (b : Frame) (ho : ops[i]? = some o) (k : List Item) (v : Value) : (b.at a (.inRegion ops (i :: rest) :: k)).finish v = b.at (a.put o.dst v) (.inRegion ops rest :: k) := by
  rw [Frame.finish_at, ho]; rfl
theorem opsN_value {v : Value} {w' : World} (ho : ops[i]? = some o) (hw : Region.wanted o (yielded ops a.tmps) = true) (hr : (execOp a.eval o).run P w = .ok (.value v) w') (h : OpsN P ops Q rest (a.put o.dst v) w') : OpsN P ops Q (i :: rest) a w := fun b hb k cs => by
  obtain ⟨e, a1, w1, hq, har⟩ := h b hb k cs
  refine ⟨e, a1, w1, hq, Arrives.of_steps (Steps.one (step_lone_go ?_)) har⟩
  rw [stepG_op ho hw, ← frame_put b ho]
  simp [stepG.apply, hr]
theorem opsN_send {ch cap s r : Nat} {buf : Array Value} {v z : Value} {tm : Bool} {w1 : World} (ho : ops[i]? = some o) (hw : Region.wanted o (yielded ops a.tmps) = true)
    (hr : (execOp a.eval o).run P w = .ok (.comm #[scase ch v z] true .send) w1) (hc : w1.heap[ch]? = some (.chan cap buf false s r tm)) (hroom : buf.size < cap)
    (h : OpsN P ops Q rest (a.put o.dst undef) (w1.setChan ch cap (buf.push v) false (s + 1) r tm)) : OpsN P ops Q (i :: rest) a w := fun b hb k cs => by
  obtain ⟨e, a1, w2, hq, har⟩ := h b hb k cs
  refine ⟨e, a1, w2, hq, Arrives.of_steps (Steps.one ?_) har⟩
  have hs := step_lone_send_room (stepG_comm (main := true) (k := k) (cs := cs) (rest := rest) ho hw hb hr) hc hroom
  rw [frame_put b ho] at hs
  exact hs
theorem opsN_recv {ch cap s r : Nat} {buf : Array Value} {z : Value} {ok closed tm : Bool} {w1 : World} (ho : ops[i]? = some o) (hw : Region.wanted o (yielded ops a.tmps) = true)
    (hr : (execOp a.eval o).run P w = .ok (.comm #[rcase ch z] true (.recv ok)) w1) (hc : w1.heap[ch]? = some (.chan cap buf closed s r tm)) (hsome : 0 < buf.size)
    (h : OpsN P ops Q rest (a.put o.dst (got ok (buf.getD 0 undef) true)) (w1.setChan ch cap (buf.extract 1 buf.size) closed s (r + 1) tm)) : OpsN P ops Q (i :: rest) a w := fun b hb k cs => by
  obtain ⟨e, a1, w2, hq, har⟩ := h b hb k cs
  refine ⟨e, a1, w2, hq, Arrives.of_steps (Steps.one ?_) har⟩
  have hs := step_lone_recv_buf ok (stepG_comm (main := true) (k := k) (cs := cs) (rest := rest) ho hw hb hr) hc hsome
  rw [frame_put b ho] at hs
  exact hs
theorem opsN_shut {ch cap s r : Nat} {z : Value} {ok tm : Bool} {w1 : World} (ho : ops[i]? = some o) (hw : Region.wanted o (yielded ops a.tmps) = true)
    (hr : (execOp a.eval o).run P w = .ok (.comm #[rcase ch z] true (.recv ok)) w1) (hc : w1.heap[ch]? = some (.chan cap #[] true s r tm))
    (h : OpsN P ops Q rest (a.put o.dst (got ok z false)) w1) : OpsN P ops Q (i :: rest) a w := fun b hb k cs => by
  obtain ⟨e, a1, w2, hq, har⟩ := h b hb k cs
  refine ⟨e, a1, w2, hq, Arrives.of_steps (Steps.one ?_) har⟩
  have hs := step_lone_recv_shut ok (stepG_comm (main := true) (k := k) (cs := cs) (rest := rest) ho hw hb hr) hc
  rw [frame_put b ho] at hs
  exact hs
end
theorem calls_of_wpN {P : Program} {f : FuncId} {fn : Func} {c : Code} {args : Array Value} {w : World} {R : Ending → World → Prop} (hf : P.funcs[f]? = some fn) (hb : fn.body = some c)
    (hno : ∀ w', ¬ R .outgrown w') (h : WpN P c (bodyPost P fn R) { tmps := args ++ Array.replicate (fn.ntmps - args.size) undef, defers := [] } w) : Calls P f args w R := fun cs => by
  obtain ⟨e, a1, w1, hq, har⟩ := h { (default : Frame) with fn := f, kind := .normal } (by simp) [] cs
  have hent : Frame.enter P f args .normal = Frame.at { (default : Frame) with fn := f, kind := .normal } { tmps := args ++ Array.replicate (fn.ntmps - args.size) undef, defers := [] } [.code c] := by
    simp [Frame.enter, Frame.at, hf, hb]
  rw [← hent] at har
  cases e with
  | normal =>
    obtain ⟨hd, v, hr, hR⟩ := hq
    exact ⟨.returned v, w1, _, hR, Steps.trans har (Steps.one step_end), rfl, rfl, hd, rfl, fn, hf, hr⟩
  | ret =>
    obtain ⟨hd, v, hr, hR⟩ := hq
    obtain ⟨todo, hs⟩ := har
    exact ⟨.returned v, w1, _, hR, hs, rfl, rfl, hd, rfl, fn, hf, hr⟩
  | panic ch =>
    obtain ⟨hd, hR⟩ := hq
    obtain ⟨todo, hs⟩ := har
    exact ⟨.panicked ch, w1, _, hR, hs, rfl, rfl, hd, fn, hf⟩
  | exit j => exact hq.elim
  | goto t => exact hq.elim
  | outgrown => exact (hno _ hq).elim
end Go.Proofs.YtjjnbbkdjimcoaaGreat
