/- Several texts in one. -/
import Derived.Test.YtdkhdfedejbicaaGreatDoorScShowI
namespace Go.Proofs.YtdkhdfedejbicaaGreatDoor
open Go.RowKit Go.MapKept

def SMap (w : World) (b : Nat) (l : List (ByteArray × Value)) : Prop :=
  ∃ es clock, w.heap[b]? = some (.map es clock) ∧ es.toList.map (fun e => (e.key, e.val)) = l.map (fun p => (Value.string p.1, p.2))
def lookS (l : List (ByteArray × Value)) (q : ByteArray) : Option Value := (l.find? (fun p => q == p.1)).map (·.2)

theorem findNow_str (q : ByteArray) : ∀ (es : List MapEntry) (l : List (ByteArray × Value)) (i : Nat), es.map (fun e => (e.key, e.val)) = l.map (fun p => (Value.string p.1, p.2)) →
    ∃ r, Instr.findNow .string (.string q) es i = some r ∧ r.map (·.2) = lookS l q
  | [], [], i, _ => ⟨none, rfl, rfl⟩
  | [], _ :: _, _, h => by cases h
  | _ :: _, [], _, h => by cases h
  | e :: es, p :: l, i, h => by
    simp only [List.map_cons, List.cons.injEq, Prod.mk.injEq] at h
    obtain ⟨⟨h1, h2⟩, h3⟩ := h
    cases hq : (q == p.1) with
    | true =>
      refine ⟨some (i, e.val), ?_, ?_⟩
      · simp only [Instr.findNow, Instr.sameNow, h1, hq]
      · simp [lookS, hq, h2]
    | false =>
      obtain ⟨r, hr, hl⟩ := findNow_str q es l (i + 1) h3
      refine ⟨r, ?_, ?_⟩
      · simp only [Instr.findNow, Instr.sameNow, h1, hq, hr]
      · rw [hl]; simp [lookS, hq]

section
variable {P : Program} {w w' : World} {b : Nat} {l : List (ByteArray × Value)}
theorem SMap.made (w : World) : SMap (w.alloc (.map #[] 0)) w.heap.size [] := ⟨#[], 0, heap_alloc_new w _, rfl⟩
theorem SMap.lt (h : SMap w b l) : b < w.heap.size := by obtain ⟨es, clock, hb, _⟩ := h; exact (Array.getElem?_eq_some_iff.1 hb).1
theorem SMap.of_block (h : SMap w b l) (hb : w'.heap[b]? = w.heap[b]?) : SMap w' b l := by obtain ⟨es, clock, h1, h2⟩ := h; exact ⟨es, clock, hb.trans h1, h2⟩
theorem SMap.alloc (h : SMap w b l) (o : Obj) : SMap (w.alloc o) b l := h.of_block (Below.heap_alloc w o b h.lt)
theorem SMap.below {B : Nat} (h : SMap w b l) (hb : Below B w w') (hB : b < B) : SMap w' b l := h.of_block (hb.block b hB)
theorem SMap.setCell (h : SMap w b l) {p : Addr} (hp : b ≠ p.block) (u : Value) : SMap (w.setCell p u) b l := h.of_block (Below.heap_setCell w p u b hp)

theorem SMap.look (h : SMap w b l) {t k e : TypeId} (ht : P.underlying t = some (.map k e)) (hk : P.underlying k = some .string) {z : Value} (hz : (zeroValue e).run P w = .ok z w) (q : ByteArray) :
    (Instr.lookup t (.map (some b)) (.string q) true).run P w = .ok (.tuple #[(lookS l q).getD z, .bool (lookS l q).isSome]) w := by
  obtain ⟨es, clock, hb, hm⟩ := h
  obtain ⟨r, hr, hl⟩ := findNow_str q es.toList l 0 hm
  have hck : (Instr.checkKey es.isEmpty 10000 k (.string q)).run P w = .ok () w := run_checkKey hk (by simp [IsKey]) _ _
  have hfk : (Instr.findKey k (.string q) es.toList).run P w = .ok r w := run_findKey hk hr
  have hgo : (getObj b).run P w = .ok (.map es clock) w := by simp [getObj, Sem.run, hb]
  rw [← hl]
  cases r with
  | none => simp [Instr.lookup, run_underlying ht, Result.andThen, hgo, hck, hfk, hz]
  | some r =>
    obtain ⟨i, v⟩ := r
    simp [Instr.lookup, run_underlying ht, Result.andThen, hgo, hck, hfk]

theorem SMap.put (h : SMap w b l) {t k e : TypeId} (ht : P.underlying t = some (.map k e)) (hk : P.underlying k = some .string) (q : ByteArray) (v : Value) (hn : lookS l q = none) :
    ∃ w', (Instr.mapUpdate t (.map (some b)) (.string q) v).run P w = .ok () w' ∧ SMap w' b (l ++ [(q, v)]) ∧ w.grownBy w' (some b) := by
  obtain ⟨es, clock, hb, hm⟩ := h
  obtain ⟨r, hr, hl⟩ := findNow_str q es.toList l 0 hm
  rw [hn] at hl
  have hck : (Instr.checkKey false 10000 k (.string q)).run P w = .ok () w := run_checkKey hk (by simp [IsKey]) _ _
  have hfk : (Instr.findKey k (.string q) es.toList).run P w = .ok r w := run_findKey hk hr
  have hgo : (getObj b).run P w = .ok (.map es clock) w := by simp [getObj, Sem.run, hb]
  cases r with
  | some r => cases hl
  | none =>
    refine ⟨{ w with heap := w.heap.setIfInBounds b (.map (es.push { key := .string q, val := v, born := clock }) (clock + 1)) }, ?_, ⟨_, _, (heap_set hb).1, ?_⟩, ⟨rfl, rfl, rfl, by simp, fun i _ hi => (heap_set hb).2 i (fun e => hi (by rw [e]))⟩⟩
    · simp [Instr.mapUpdate, run_underlying ht, Result.andThen, hgo, hck, hfk, run_setObj_map _ hb]
    · simp [hm]
end

section
variable {P : Program} {w : World} {ops : Array Oper} {rest : List Oper} {o : Oper} {a : Act} {Q : Exit → Act → World → Prop}
theorem wpList_looks (hg : o.guard = none) (m x : Operand) (t : TypeId) (hop : o.op = Op.lookup t m x true) (k e : TypeId) (ht : P.underlying t = some (.map k e)) (hk : P.underlying k = some .string)
    (z : Value) (hz : (zeroValue e).run P w = .ok z w) (b : Nat) (l : List (ByteArray × Value)) (hm : a.eval m = .map (some b)) (him : SMap w b l) (q : ByteArray) (hx : a.eval x = .string q) (v : Value) (y : Bool)
    (hv : (lookS l q).getD z = v) (hy : (lookS l q).isSome = y) (h : wpList P ops Q rest (a.put o.dst (.tuple #[v, .bool y])) w) : wpList P ops Q (o :: rest) a w := by
  refine wpList_plain hg fun K' hK' => ?_
  have hrun := him.look (P := P) ht hk hz q
  unfold Oper.wp
  simp [execOp, hop, hm, hx, hrun, Result.andThen, hv, hy]
  exact hK' _ _ h
theorem wpList_puts (hg : o.guard = none) (m x u : Operand) (t : TypeId) (hop : o.op = Op.mapUpdate t m x u ∨ o.op = Op.insert t m x u) (k e : TypeId) (ht : P.underlying t = some (.map k e)) (hk : P.underlying k = some .string)
    (b : Nat) (l : List (ByteArray × Value)) (hm : a.eval m = .map (some b)) (him : SMap w b l) (q : ByteArray) (v : Value) (hx : a.eval x = .string q) (hv : a.eval u = v) (hn : lookS l q = none)
    (h : ∀ w', SMap w' b (l ++ [(q, v)]) → w.grownBy w' (some b) → wpList P ops Q rest (a.put o.dst undef) w') : wpList P ops Q (o :: rest) a w := by
  refine wpList_plain hg fun K' hK' => ?_
  obtain ⟨w', hrun, r1, r2⟩ := him.put (P := P) ht hk q v hn
  unfold Oper.wp
  rcases hop with hop | hop <;>
  · simp [execOp, hop, hm, hx, hv, hrun, Result.andThen]
    exact hK' _ _ (h w' r1 r2)
end
end Go.Proofs.YtdkhdfedejbicaaGreatDoor

namespace Go.Proofs.YtdkhdfedejbicaaGreatDoor
set_option linter.unusedSimpArgs false
set_option linter.unusedVariables false
open Go Go.RowKit
attribute [local go_sem ↓] Go.wp_at_zero Go.wp_at_succ

def cmdV (n f b : Nat) : Value := .agg #[.int .i64 n, .func (.func f) #[] #[.pointer (some ⟨b, 0, none⟩)]]
def cmdL (b0 b1 b2 b3 b4 b5 : Nat) : List (ByteArray × Value) :=
  [(bs wArrive, cmdV 4 64 b0), (bs wGrant, cmdV 4 64 b1), (bs wDepart, cmdV 1 65 b2), (bs wOpen, cmdV 1 65 b3), (bs wClose, cmdV 1 65 b4), (bs wGather, cmdV 1 65 b5)]
structure CmdW (u : World) (gm b0 b1 b2 b3 b4 b5 : Nat) : Prop where
  m : SMap u gm (cmdL b0 b1 b2 b3 b4 b5)
  h0 : Blk u b0 4 #[.bool false]
  h1 : Blk u b1 4 #[.bool true]
  h2 : Blk u b2 3 #[.int .i64 2]
  h3 : Blk u b3 3 #[.int .i64 3]
  h4 : Blk u b4 3 #[.int .i64 4]
  h5 : Blk u b5 3 #[.int .i64 5]
theorem CmdW.up {u u' : World} {gm b0 b1 b2 b3 b4 b5 : Nat} (h : CmdW u gm b0 b1 b2 b3 b4 b5) (hb : Below u.heap.size u u') : CmdW u' gm b0 b1 b2 b3 b4 b5 :=
  ⟨h.m.below hb h.m.lt, h.h0.below hb h.h0.lt, h.h1.below hb h.h1.lt, h.h2.below hb h.h2.lt, h.h3.below hb h.h3.lt, h.h4.below hb h.h4.lt, h.h5.below hb h.h5.lt⟩

def MakesR (u : World) (f b n : Nat) (A : Option Addr) (c : Nat) (r : Rq) : Prop :=
  Calls Tryz.prog f #[.slice A n c, .pointer (some ⟨b, 0, none⟩)] u fun e u' => ∃ A7 n7 c7, e = .returned (rqV r A7 n7 c7) ∧ RdI u u.heap.size A7 n7 r.xs ∧ n7 ≤ c7 ∧ Below u.heap.size u u'

theorem makes_arrive {u : World} {b : Nat} {g : Bool} {A : Option Addr} {c : Nat} {ns : List Int} (hb : Blk u b 4 #[.bool g]) (h : RdI u u.heap.size A 4 ns) (hc : 4 ≤ c) : MakesR u 64 b 4 A c ⟨1, ns[0]?.getD 0, ns.drop 1, g, 0⟩ := by
  refine (arriving1_any g b A c ns u hb.lt (hb.cell 0) h hc).mono ?_
  rintro e u' ⟨A1, c1, rfl, h1, h2, h3⟩
  exact ⟨A1, 3, c1, rfl, h1, h2, h3⟩
theorem makes_plain {u : World} {b : Nat} {k : Int} {A : Option Addr} {c : Nat} {ns : List Int} (hb : Blk u b 3 #[.int .i64 k]) (h : RdI u u.heap.size A 1 ns) : MakesR u 65 b 1 A c (rqN k (ns[0]?.getD 0)) := by
  refine (plain1_any k b A 1 c ns u hb.lt (hb.cell 0) h (Nat.le_refl 1)).mono ?_
  rintro e u' ⟨rfl, h3⟩
  exact ⟨none, 0, 0, rfl, ⟨rfl, by omega, fun hp => by omega⟩, Nat.le_refl 0, h3⟩

theorem bs_beq (a b : Bs) : (bs a == bs b) = decide (a = b) := by
  show ((bs a).data == (bs b).data) = decide (a = b)
  by_cases h : a = b
  · subst h; simp
  · rw [decide_eq_false h, beq_eq_false_iff_ne]
    intro e
    exact h (by have := congrArg Array.toList e; simpa [bs] using this)

theorem cmd_cases (wd : Bs) (ns : List Int) (b0 b1 b2 b3 b4 b5 : Nat) :
    (lookS (cmdL b0 b1 b2 b3 b4 b5) (bs wd) = none ∧ cmdP wd ns = none) ∨
    (∃ n f b, lookS (cmdL b0 b1 b2 b3 b4 b5) (bs wd) = some (cmdV n f b) ∧ n ≤ 4 ∧ ns.length ≠ n ∧ cmdP wd ns = none) ∨
    (∃ n f b r, lookS (cmdL b0 b1 b2 b3 b4 b5) (bs wd) = some (cmdV n f b) ∧ n ≤ 4 ∧ ns.length = n ∧ cmdP wd ns = some r ∧ (∀ args w, (callFunc f args).run Tryz.prog w = .ok (.enter f args) w) ∧
      ∀ u gm A c, CmdW u gm b0 b1 b2 b3 b4 b5 → RdI u u.heap.size A n ns → n ≤ c → MakesR u f b n A c r) := by
  have e64 : ∀ args w, (callFunc 64 args).run Tryz.prog w = .ok (.enter 64 args) w := fun args w => by simp [go_sem]
  have e65 : ∀ args w, (callFunc 65 args).run Tryz.prog w = .ok (.enter 65 args) w := fun args w => by simp [go_sem]
  rcases word_cases wd with rfl | rfl | rfl | rfl | rfl | rfl | ⟨n1, n2, n3, n4, n5, n6⟩
  · by_cases h : ns.length = 4
    · exact .inr (.inr ⟨4, _, b0, _, rfl, Nat.le_refl _, h, by unfold cmdP; rw [if_pos ⟨.inl rfl, h⟩]; rfl, e64, fun u gm A c hC hr hc => makes_arrive hC.h0 hr hc⟩)
    · exact .inr (.inl ⟨4, _, b0, rfl, Nat.le_refl _, h, cmd_none (fun _ => h) (fun e => absurd e (by decide))⟩)
  · by_cases h : ns.length = 4
    · exact .inr (.inr ⟨4, _, b1, _, rfl, Nat.le_refl _, h, by unfold cmdP; rw [if_pos ⟨.inr rfl, h⟩]; rfl, e64, fun u gm A c hC hr hc => makes_arrive hC.h1 hr hc⟩)
    · exact .inr (.inl ⟨4, _, b1, rfl, Nat.le_refl _, h, cmd_none (fun _ => h) (fun e => absurd e (by decide))⟩)
  · by_cases h : ns.length = 1
    · exact .inr (.inr ⟨1, _, b2, _, rfl, by omega, h, by unfold cmdP; rw [if_neg (fun e => absurd e.1 (by decide)), if_pos ⟨rfl, h⟩], e65, fun u gm A c hC hr hc => makes_plain hC.h2 hr⟩)
    · exact .inr (.inl ⟨1, _, b2, rfl, by omega, h, cmd_none (fun e => absurd e (by decide)) (fun _ => h)⟩)
  · by_cases h : ns.length = 1
    · exact .inr (.inr ⟨1, _, b3, _, rfl, by omega, h, by unfold cmdP; rw [if_neg (fun e => absurd e.1 (by decide)), if_neg (fun e => absurd e.1 (by decide)), if_pos ⟨rfl, h⟩], e65, fun u gm A c hC hr hc => makes_plain hC.h3 hr⟩)
    · exact .inr (.inl ⟨1, _, b3, rfl, by omega, h, cmd_none (fun e => absurd e (by decide)) (fun _ => h)⟩)
  · by_cases h : ns.length = 1
    · exact .inr (.inr ⟨1, _, b4, _, rfl, by omega, h, by unfold cmdP; rw [if_neg (fun e => absurd e.1 (by decide)), if_neg (fun e => absurd e.1 (by decide)), if_neg (fun e => absurd e.1 (by decide)), if_pos ⟨rfl, h⟩], e65, fun u gm A c hC hr hc => makes_plain hC.h4 hr⟩)
    · exact .inr (.inl ⟨1, _, b4, rfl, by omega, h, cmd_none (fun e => absurd e (by decide)) (fun _ => h)⟩)
  · by_cases h : ns.length = 1
    · exact .inr (.inr ⟨1, _, b5, _, rfl, by omega, h, by unfold cmdP; rw [if_neg (fun e => absurd e.1 (by decide)), if_neg (fun e => absurd e.1 (by decide)), if_neg (fun e => absurd e.1 (by decide)), if_neg (fun e => absurd e.1 (by decide)), if_pos ⟨rfl, h⟩], e65, fun u gm A c hC hr hc => makes_plain hC.h5 hr⟩)
    · exact .inr (.inl ⟨1, _, b5, rfl, by omega, h, cmd_none (fun e => absurd e (by decide)) (fun _ => h)⟩)
  · refine .inl ⟨?_, cmd_none (fun e => by rcases e with e | e <;> contradiction) (fun e => by rcases e with e | e | e | e <;> contradiction)⟩
    simp [lookS, cmdL, bs_beq, n1, n2, n3, n4, n5, n6]

structure AnsW (u v : World) (gr gm b0 b1 b2 b3 b4 b5 : Nat) : Prop where
  b : Below gr u v
  r : Blk v gr 9 #[.string ⟨#[]⟩]
  c : CmdW v gm b0 b1 b2 b3 b4 b5
theorem AnsW.up {u v v' : World} {gr gm b0 b1 b2 b3 b4 b5 : Nat} (h : AnsW u v gr gm b0 b1 b2 b3 b4 b5) (hb : Below v.heap.size v v') : AnsW u v' gr gm b0 b1 b2 b3 b4 b5 :=
  ⟨h.b.trans (hb.mono (Nat.le_of_lt h.r.lt)), h.r.below hb h.r.lt, h.c.up hb⟩
theorem index_code (kc : Nat) (h : kc ≤ 5) (w : World) : (Instr.index 78 (.agg #[.string ⟨#[100, 111, 110, 101]⟩, .string ⟨#[98, 97, 100]⟩, .string ⟨#[116, 119, 105, 99, 101]⟩, .string ⟨#[102, 117, 108, 108]⟩, .string ⟨#[110, 111, 110, 101]⟩, .string ⟨#[98, 117, 115, 121]⟩]) (.int .i64 (kc : Int))).run Tryz.prog w = .ok (.string (bs (codeW (kc : Int)))) w := by
  rcases (show kc = 0 ∨ kc = 1 ∨ kc = 2 ∨ kc = 3 ∨ kc = 4 ∨ kc = 5 by omega) with rfl | rfl | rfl | rfl | rfl | rfl <;> kernel_rfl
structure EndW (u v : World) (gr gz base : Nat) (A6 A7 : Option Addr) (m7 c6 c7 : Nat) (us : List Un) : Prop where
  b : Below gr u v
  r : Blk v gr 9 #[.string ⟨#[]⟩]
  q : Blk v gz 35 #[.slice A6 3 c6, .slice A7 m7 c7]
  cw : OwnCW v base (.slice A6 3 c6) (.slice A7 m7 c7) 3 m7 [10, 10, 10] us
  l : gr < gz
theorem ans_same {w u v : World} {gr g m5 c4 c5 : Nat} {A4 A5 : Option Addr} {us : List Un} {l t : Bs} (El : lineP us l = (us, t)) (E : ExW w u g A4 A5 m5 c4 c5 us) (B : Below gr u v) (hg : u.heap.size = gr) :
    ∃ A6 A7 m7 c6 c7, Ending.returned (.string (bs t)) = .returned (.string (bs (lineP us l).2)) ∧ ExW w v g A6 A7 m7 c6 c7 (lineP us l).1 ∧ (∀ i, i < gr → i ≠ g → v.heap[i]? = u.heap[i]?) := by
  rw [El]
  exact ⟨A4, A5, m5, c4, c5, rfl, E.up (by rw [hg]; exact B), fun i hi _ => B.block i hi⟩
end Go.Proofs.YtdkhdfedejbicaaGreatDoor
