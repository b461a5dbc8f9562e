/- Several texts in one. -/
import Derived.Test.YtlcgbnmmbheleaaGreatV11
import Derived.Deep.DrawnRows
import Derived.MapKept
import Derived.Maps.OwnSet
import Derived.Maps.OwnOps
import Derived.Lib.AppendZeros
namespace Go.Proofs.YtlcgbnmmbheleaaGreat
open Go.RowKit
attribute [local go_sem ↓] Go.wp_at_zero Go.wp_at_succ


set_option maxRecDepth 100000 in
set_option maxHeartbeats 800000 in
theorem sameInts_any (A1 A2 : Option Addr) (n c1 c2 B1 B2 : Nat) (xs : List Int) (w : World) (h1 : RdI w B1 A1 n xs) (h2 : RdI w B2 A2 n xs) :
    Calls Tryz.prog 9 #[.slice A1 n c1, .slice A2 n c2] w fun e w' => e = .returned (.bool true) ∧ ∃ m, w.drewN m = w' := by
  have hn := h1.le
  have H1 := qh h1
  have H2 := qh h2
  clear h1 h2
  go_enter Tryz.func9, Tryz.ntmps9
  go_wp2
  go_loopw [5] (fun i wr => ∃ k m : Nat, i = .int .i64 k ∧ k ≤ n ∧ wr = w.drewN m) (fun i _ => n - (intOf i).toNat)
  case atStart => exact ⟨0, 0, rfl, Nat.zero_le _, rfl⟩
  case round =>
    obtain ⟨k, m, rfl, hk, rfl⟩ := hrel
    by_cases hlt : k < n
    · obtain ⟨b1, o1, rfl, hb1, hc1⟩ := H1.out.at_ hlt
      obtain ⟨b2, o2, rfl, hb2, hc2⟩ := H2.out.at_ hlt
      have k1 : (0 : Int) ≤ (k : Int) := by omega
      have k2 : (k : Int) < (n : Int) := by omega
      go_wp2
      go_quiet (fail)
      go_wp2
      go_roundw
      case rel => exact ⟨k + 1, _, by go_num, by omega, rfl⟩
      case measure => simp [intOf]; omega
    · go_wp2
      go_ret
      exact ⟨rfl, _, rfl⟩



end Go.Proofs.YtlcgbnmmbheleaaGreat

namespace Go.Proofs.YtlcgbnmmbheleaaGreat
open Go.RowKit Go.MapKept

def IMap (w : World) (b : Nat) (l : List (Int × Value)) : Prop :=
  ∃ es clock, w.heap[b]? = some (.map es clock) ∧ es.toList.map (fun e => (e.key, e.val)) = l.map (fun p => (Value.int .i64 p.1, p.2))
def lookL (l : List (Int × Value)) (q : Int) : Option Value := (l.find? (fun p => p.1 == q)).map (·.2)

theorem lookL_none {l : List (Int × Value)} {q : Int} (h : ∀ p ∈ l, p.1 ≠ q) : lookL l q = none := by
  unfold lookL
  have : l.find? (fun p => p.1 == q) = none := by
    rw [List.find?_eq_none]
    intro p hp
    simpa using h p hp
  rw [this]; rfl
theorem lookL_some {l : List (Int × Value)} {q : Int} (h : ∃ p ∈ l, p.1 = q) : ∃ p ∈ l, p.1 = q ∧ lookL l q = some p.2 := by
  unfold lookL
  cases hf : l.find? (fun p => p.1 == q) with
  | none =>
    rw [List.find?_eq_none] at hf
    obtain ⟨p, hp, he⟩ := h
    have := hf p hp
    simp [he] at this
  | some p =>
    exact ⟨p, List.mem_of_find?_eq_some hf, by have := List.find?_some hf; simpa using this, rfl⟩

theorem findNow_int (q : Int) : ∀ (es : List MapEntry) (l : List (Int × Value)) (i : Nat), es.map (fun e => (e.key, e.val)) = l.map (fun p => (Value.int .i64 p.1, p.2)) →
    ∃ r, Instr.findNow (.int .i64) (.int .i64 q) es i = some r ∧ r.map (·.2) = lookL l q
  | [], [], i, _ => ⟨none, rfl, rfl⟩
  | [], _ :: _, _, h => by cases h
  | _ :: _, [], _, h => by cases h
  | e :: es, p :: l, i, h => by
    simp only [List.map_cons, List.cons.injEq, Prod.mk.injEq] at h
    obtain ⟨⟨h1, h2⟩, h3⟩ := h
    by_cases hq : p.1 = q
    · refine ⟨some (i, e.val), ?_, ?_⟩
      · simp [Instr.findNow, Instr.sameNow, h1, hq]
      · simp [lookL, hq, h2]
    · obtain ⟨r, hr, hl⟩ := findNow_int q es l (i + 1) h3
      refine ⟨r, ?_, ?_⟩
      · have : (q == p.1) = false := by simp; exact fun e => hq e.symm
        simp [Instr.findNow, Instr.sameNow, h1, this, hr]
      · rw [hl]
        have : (p.1 == q) = false := by simp [hq]
        simp [lookL, this]

section
variable {P : Program} {w w' : World} {b : Nat} {l : List (Int × Value)}
theorem IMap.made (w : World) : IMap (w.alloc (.map #[] 0)) w.heap.size [] := ⟨#[], 0, heap_alloc_new w _, rfl⟩
theorem IMap.lt (h : IMap w b l) : b < w.heap.size := by obtain ⟨es, clock, hb, _⟩ := h; exact (Array.getElem?_eq_some_iff.1 hb).1
theorem IMap.of_block (h : IMap w b l) (hb : w'.heap[b]? = w.heap[b]?) : IMap w' b l := by obtain ⟨es, clock, h1, h2⟩ := h; exact ⟨es, clock, hb.trans h1, h2⟩
theorem IMap.alloc (h : IMap w b l) (o : Obj) : IMap (w.alloc o) b l := h.of_block (Below.heap_alloc w o b h.lt)
theorem IMap.drewN (h : IMap w b l) (n : Nat) : IMap (w.drewN n) b l := h
theorem IMap.below {B : Nat} (h : IMap w b l) (hb : Below B w w') (hB : b < B) : IMap w' b l := h.of_block (hb.block b hB)
theorem IMap.setCell (h : IMap w b l) {p : Addr} (hp : b ≠ p.block) (u : Value) : IMap (w.setCell p u) b l := h.of_block (Below.heap_setCell w p u b hp)

theorem IMap.look (h : IMap w b l) {t k e : TypeId} (ht : P.underlying t = some (.map k e)) (hk : P.underlying k = some (.int .i64)) {z : Value} (hz : (zeroValue e).run P w = .ok z w) (q : Int) (c : Bool) :
    (Instr.lookup t (.map (some b)) (.int .i64 q) c).run P w = .ok (if c then .tuple #[(lookL l q).getD z, .bool (lookL l q).isSome] else (lookL l q).getD z) w := by
  obtain ⟨es, clock, hb, hm⟩ := h
  obtain ⟨r, hr, hl⟩ := findNow_int q es.toList l 0 hm
  have hck : (Instr.checkKey es.isEmpty 10000 k (.int .i64 q)).run P w = .ok () w := run_checkKey hk (by simp [IsKey]) _ _
  have hfk : (Instr.findKey k (.int .i64 q) es.toList).run P w = .ok r w := run_findKey hk hr
  have hgo : (getObj b).run P w = .ok (.map es clock) w := by simp [getObj, Sem.run, hb]
  rw [← hl]
  cases r with
  | none =>
    cases c <;> simp [Instr.lookup, run_underlying ht, Result.andThen, hgo, hck, hfk, hz]
  | some r =>
    obtain ⟨i, v⟩ := r
    cases c <;> simp [Instr.lookup, run_underlying ht, Result.andThen, hgo, hck, hfk]

theorem IMap.put (h : IMap w b l) {t k e : TypeId} (ht : P.underlying t = some (.map k e)) (hk : P.underlying k = some (.int .i64)) (q : Int) (v : Value) (hn : lookL l q = none) :
    ∃ w', (Instr.mapUpdate t (.map (some b)) (.int .i64 q) v).run P w = .ok () w' ∧ IMap w' b (l ++ [(q, v)]) ∧ w.grownBy w' (some b) := by
  obtain ⟨es, clock, hb, hm⟩ := h
  obtain ⟨r, hr, hl⟩ := findNow_int q es.toList l 0 hm
  rw [hn] at hl
  have hck : (Instr.checkKey false 10000 k (.int .i64 q)).run P w = .ok () w := run_checkKey hk (by simp [IsKey]) _ _
  have hfk : (Instr.findKey k (.int .i64 q) es.toList).run P w = .ok r w := run_findKey hk hr
  have hgo : (getObj b).run P w = .ok (.map es clock) w := by simp [getObj, Sem.run, hb]
  cases r with
  | some r => cases hl
  | none =>
    refine ⟨{ w with heap := w.heap.setIfInBounds b (.map (es.push { key := .int .i64 q, val := v, born := clock }) (clock + 1)) }, ?_, ⟨_, _, (heap_set hb).1, ?_⟩, ⟨rfl, rfl, rfl, by simp, fun i _ hi => (heap_set hb).2 i (fun e => hi (by rw [e]))⟩⟩
    · simp [Instr.mapUpdate, run_underlying ht, Result.andThen, hgo, hck, hfk, run_setObj_map _ hb]
    · simp [hm]
end

section
variable {P : Program} {w : World} {ops : Array Oper} {rest : List Oper} {o : Oper} {a : Act} {Q : Exit → Act → World → Prop}
theorem wpList_look_ok (hg : o.guard = none) (m x : Operand) (t : TypeId) (hop : o.op = Op.lookup t m x true) (k e : TypeId) (ht : P.underlying t = some (.map k e)) (hk : P.underlying k = some (.int .i64))
    (z : Value) (hz : (zeroValue e).run P w = .ok z w) (b : Nat) (l : List (Int × Value)) (hm : a.eval m = .map (some b)) (him : IMap w b l) (q : Int) (hx : a.eval x = .int .i64 q) (v : Value) (y : Bool)
    (hv : (lookL l q).getD z = v) (hy : (lookL l q).isSome = y) (h : wpList P ops Q rest (a.put o.dst (.tuple #[v, .bool y])) w) : wpList P ops Q (o :: rest) a w := by
  refine wpList_plain hg fun K' hK' => ?_
  have hrun := him.look (P := P) ht hk hz q true
  unfold Oper.wp
  simp [execOp, hop, hm, hx, hrun, Result.andThen, hv, hy]
  exact hK' _ _ h
theorem wpList_put (hg : o.guard = none) (m x u : Operand) (t : TypeId) (hop : o.op = Op.mapUpdate t m x u) (k e : TypeId) (ht : P.underlying t = some (.map k e)) (hk : P.underlying k = some (.int .i64))
    (b : Nat) (l : List (Int × Value)) (hm : a.eval m = .map (some b)) (him : IMap w b l) (q : Int) (v : Value) (hx : a.eval x = .int .i64 q) (hv : a.eval u = v) (hn : lookL l q = none)
    (h : ∀ w', IMap w' b (l ++ [(q, v)]) → w.grownBy w' (some b) → wpList P ops Q rest (a.put o.dst undef) w') : wpList P ops Q (o :: rest) a w := by
  refine wpList_plain hg fun K' hK' => ?_
  obtain ⟨w', hrun, r1, r2⟩ := him.put (P := P) ht hk q v hn
  unfold Oper.wp
  simp [execOp, hop, hm, hx, hv, hrun, Result.andThen]
  exact hK' _ _ (h w' r1 r2)
end
end Go.Proofs.YtlcgbnmmbheleaaGreat

namespace Go.Proofs.YtlcgbnmmbheleaaGreat
open Go.RowKit

theorem zeroTask (w : World) : (zeroValue 40).run Tryz.prog w = .ok (.agg #[.int .i64 0, .slice none 0 0]) w := by kernel_rfl

theorem hasP_map {ts : List Tk} {id : Int} : hasP ts id = true ↔ id ∈ ts.map (·.1) := by
  simp only [hasP, List.any_eq_true, beq_iff_eq, List.mem_map]
theorem look_of_has {l : List (Int × Value)} {ts : List Tk} {id : Int} (hm : l.map (·.1) = ts.map (·.1)) (h : hasP ts id = true) : ∃ p ∈ l, p.1 = id ∧ lookL l id = some p.2 := by
  rw [hasP_map, ← hm, List.mem_map] at h
  exact lookL_some h
theorem look_of_not {l : List (Int × Value)} {ts : List Tk} {id : Int} (hm : l.map (·.1) = ts.map (·.1)) (h : hasP ts id = false) : lookL l id = none := by
  refine lookL_none (fun p hp he => ?_)
  have : hasP ts id = true := by rw [hasP_map, ← hm]; exact List.mem_map.2 ⟨p, hp, he⟩
  rw [h] at this; cases this

def IsTaskV (v : Value) : Prop := ∃ i A m c, v = .agg #[.int .i64 i, .slice A m c]

set_option maxRecDepth 100000 in
set_option maxHeartbeats 1600000 in
theorem tasksValidI_any (A1 A2 : Option Addr) (n1 c1 n2 c2 : Nat) (room : List Int) (ts : List Tk) (w : World) (h1 : RdI w w.heap.size A1 n1 room) (h2 : RdT w w.heap.size A2 n2 ts) :
    Calls Tryz.prog 62 #[.slice A1 n1 c1, .slice A2 n2 c2] w fun e w' => e = .returned (.bool (tasksOk room ts)) ∧ Below w.heap.size w w' := by
  have hl := qh h2.len
  have hn := h2.le
  have H1 := qh h1
  have H2 := qh h2
  clear h1 h2
  by_cases hr : roomOk room = true
  · by_cases h14 : n2 ≤ 14
    · have Hr := qh hr
      have hmm := @run_makeMap Tryz.prog
      go_enter Tryz.func62, Tryz.ntmps62
      go_wp2_with (go_at_call 101; refine (roomValid_any _ _ _ _ _ _ H1.out).mono ?_; rintro e w1 ⟨rfl, rfl⟩)
      clear hmm hr
      go_loopw [21] (fun i wr => ∃ k : Nat, i = .int .i64 k ∧ k ≤ n2 ∧ Below w.heap.size w wr ∧ (∃ l, IMap wr w.heap.size l ∧ l.map (·.1) = (ts.take k).map (·.1) ∧ ∀ p ∈ l, IsTaskV p.2) ∧ (∀ j, j < k → taskOk room (ts[j]?.getD (0, [])) = true ∧ hasP (ts.take j) (ts[j]?.getD (0, [])).1 = false)) (fun i _ => n2 - (intOf i).toNat)
      case atStart => exact ⟨0, rfl, Nat.zero_le _, (Below.refl _ _).alloc (Nat.le_refl _) _, ⟨[], IMap.made w, rfl, by simp⟩, by intro j hj; omega⟩
      case round =>
        obtain ⟨k, rfl, hk, hbel, ⟨l, hl1, hl2, hl3⟩, hall⟩ := hrel
        have Hall := qh hall
        have L1 := qh hl1
        have L2 := qh hl2
        have L3 := qh hl3
        clear hall hl1 hl2 hl3
        by_cases hlt : k < n2
        · obtain ⟨b, o, A', m', c', rfl, hb, hc1, hc2, hmc, hrd⟩ := (H2.out.below hbel).at_ hlt
          have lz := hbel.size
          have Hrd := qh hrd
          clear hrd
          have hkl : Hid (k < ts.length) := by have := hl.out; show _ < _; omega
          generalize hid0 : (ts[k]?.getD (0, [])).1 = id at hc1
          have Hid0 := qh hid0
          clear hid0
          have hal : ∀ (o1 o2 : Obj), Below w.heap.size wr ((wr.alloc o1).alloc o2) := fun o1 o2 => ((Below.refl _ _).alloc lz _).alloc (by simp; omega) _
          have Hal := qh hal
          clear hal
          by_cases hh : hasP (ts.take k) id = true
          · obtain ⟨p, hp, hpe, hlook⟩ := look_of_has L2.out hh
            obtain ⟨i', A'', m'', c'', hpv⟩ := L3.out p hp
            rw [hpv] at hlook
            have Hlook := qh hlook
            clear hlook hpv hpe
            go_wp2_with (at_lookup; refine wpList_look_ok rfl _ _ 134 rfl 3 40 Tryz.underlying134 Tryz.underlying3 _ (zeroTask _) w.heap.size l rfl (L1.out.alloc _) id rfl (.agg #[.int .i64 i', .slice A'' m'' c'']) true (by rw [Hlook.out]; rfl) (by rw [Hlook.out]; rfl) ?_)
            go_ret
            exact ⟨ret_bool (tasksOk_twice hkl.out (by rw [Hid0.out]; exact hh)).symm, hbel.trans (Hal.out _ _)⟩
          · have hh : hasP (ts.take k) id = false := by simpa using hh
            have Hlook := qh (look_of_not L2.out hh)
            have Hh := qh hh
            clear hh
            by_cases hid : inR 1 40 id = true
            · by_cases hf : vecFits (ts[k]?.getD (0, [])).2 room = true
              · have Hf := qh hf
                have Hin := qh hid
                go_wp2_with (first
                  | (at_lookup; refine wpList_look_ok rfl _ _ 134 rfl 3 40 Tryz.underlying134 Tryz.underlying3 _ (zeroTask _) w.heap.size l rfl (L1.out.alloc _) id rfl (.agg #[.int .i64 0, .slice none 0 0]) false (by rw [Hlook.out]; rfl) (by rw [Hlook.out]; rfl) ?_)
                  | (go_at_call 102; refine (idValid_any _ _).mono ?_; rintro e w1 ⟨rfl, rfl⟩)
                  | (go_at_call 103; refine (vecFitsI_any _ _ _ _ _ _ _ _ _ _ _ (Hrd.out.below (Hal.out _ _)) (H1.out.below (hbel.trans (Hal.out _ _)))).mono ?_; rintro e w1 ⟨rfl, rfl⟩)
                  | (at_mapUpdate; refine wpList_put rfl _ _ _ 134 rfl 3 40 Tryz.underlying134 Tryz.underlying3 w.heap.size l rfl ((L1.out.alloc _).alloc _) id _ rfl rfl Hlook.out ?_; intro w2 him2 hgrow2))
                have him := qh him2
                clear him2
                go_roundw
                case rel =>
                  refine ⟨k + 1, by go_num, by omega, (hbel.trans (Hal.out _ _)).grown hgrow2 (by simp; omega) (fun j e => by injection e with e; omega), ⟨_, him.out, ?_, ?_⟩, ?_⟩
                  · rw [List.map_append, L2.out, List.take_succ_eq_append_getElem hkl.out, List.map_append]
                    have := Hid0.out
                    rw [List.getElem?_eq_getElem hkl.out] at this
                    simp only [Option.getD_some] at this
                    simp [this]
                  · intro p hp
                    rw [List.mem_append] at hp
                    rcases hp with hp | hp
                    · exact L3.out p hp
                    · simp at hp; rw [hp]; exact ⟨_, _, _, _, rfl⟩
                  · intro j hj
                    by_cases e : j = k
                    · rw [e, Hid0.out]; exact ⟨by rw [taskOk, Hid0.out, Hin.out, Hf.out]; rfl, Hh.out⟩
                    · exact Hall.out j (by omega)
                case measure => simp [intOf]; omega
              · have hf : vecFits (ts[k]?.getD (0, [])).2 room = false := by simpa using hf
                have Hf := qh hf
                go_wp2_with (first
                  | (at_lookup; refine wpList_look_ok rfl _ _ 134 rfl 3 40 Tryz.underlying134 Tryz.underlying3 _ (zeroTask _) w.heap.size l rfl (L1.out.alloc _) id rfl (.agg #[.int .i64 0, .slice none 0 0]) false (by rw [Hlook.out]; rfl) (by rw [Hlook.out]; rfl) ?_)
                  | (go_at_call 102; refine (idValid_any _ _).mono ?_; rintro e w1 ⟨rfl, rfl⟩)
                  | (go_at_call 103; refine (vecFitsI_any _ _ _ _ _ _ _ _ _ _ _ (Hrd.out.below (Hal.out _ _)) (H1.out.below (hbel.trans (Hal.out _ _)))).mono ?_; rintro e w1 ⟨rfl, rfl⟩))
                go_ret
                exact ⟨ret_bool (tasksOk_bad hkl.out (by rw [taskOk, Hf.out, Bool.and_false])).symm, hbel.trans (Hal.out _ _)⟩
            · have hid : inR 1 40 id = false := by simpa using hid
              have Hin := qh hid
              go_wp2_with (first
                | (at_lookup; refine wpList_look_ok rfl _ _ 134 rfl 3 40 Tryz.underlying134 Tryz.underlying3 _ (zeroTask _) w.heap.size l rfl (L1.out.alloc _) id rfl (.agg #[.int .i64 0, .slice none 0 0]) false (by rw [Hlook.out]; rfl) (by rw [Hlook.out]; rfl) ?_)
                | (go_at_call 102; refine (idValid_any _ _).mono ?_; rintro e w1 ⟨rfl, rfl⟩))
              go_ret
              exact ⟨ret_bool (tasksOk_bad hkl.out (by rw [taskOk, Hid0.out, Hin.out, Bool.false_and])).symm, hbel.trans (Hal.out _ _)⟩
        · go_wp2
          go_ret
          refine ⟨ret_bool ?_, hbel⟩
          rw [tasksOk_all Hr.out (fun j hj => Hall.out j (by have := hl.out; omega)), hl.out]
          symm
          simpa using h14
    · have hmm := @run_makeMap Tryz.prog
      go_enter Tryz.func62, Tryz.ntmps62
      go_wp2_with (go_at_call 101; refine (roomValid_any _ _ _ _ _ _ H1.out).mono ?_; rintro e w1 ⟨rfl, rfl⟩)
      go_ret
      refine ⟨ret_bool ?_, Below.refl _ _⟩
      symm
      rw [← Bool.not_eq_true]
      intro hh
      have := tasksOk_len hh
      have := hl.out
      omega
  · have hr : roomOk room = false := by simpa using hr
    go_enter Tryz.func62, Tryz.ntmps62
    go_wp2_with (go_at_call 101; refine (roomValid_any _ _ _ _ _ _ H1.out).mono ?_; rintro e w1 ⟨rfl, rfl⟩)
    go_ret
    exact ⟨ret_bool (tasksOk_room hr).symm, Below.refl _ _⟩

theorem grow_zero (w : World) : Calls Tryz.prog 110 #[.slice none 0 0, .int .i64 0] w fun e w' => e = .returned (.slice none 0 0) ∧ w = w' := by
  go_enter Tryz.func110, Tryz.ntmps110
  go_wp2
  go_ret
  exact ⟨rfl, rfl⟩

theorem own_zero {w : World} {base g : Nat} {t : TypeId} {cap size : Nat} {cs : Array Value} (hb : w.heap[g]? = some (.cells cs t (0, 0))) (hg : base ≤ g) (hm : cap ≤ maxLen) (hs : cs.size = cap * size) :
    w.ownsRow base t size (.slice (some ⟨g, 0, none⟩) 0 cap) 0 [] :=
  ⟨by simp, .inr ⟨g, cap, cs, rfl, hg, hb, Nat.zero_le _, hm, hs, by simp⟩⟩

set_option maxRecDepth 100000 in
set_option maxHeartbeats 800000 in
theorem grow_any (n : Nat) (hn : n ≤ 1048576) (w : World) : Calls Tryz.prog 110 #[.slice none 0 0, .int .i64 (n : Int)] w fun e w' =>
    ∃ A c, e = .returned (.slice A 0 c) ∧ w'.ownsRow w.heap.size 40 2 (.slice A 0 c) 0 [] ∧ Below w.heap.size w w' := by
  rcases Nat.eq_zero_or_pos n with h0 | h0
  · subst h0
    exact (grow_zero w).mono fun e w' ⟨he, hw⟩ => ⟨none, 0, he, by rw [← hw]; exact World.ownsRow_nil _ _ _ _, by rw [← hw]; exact Below.refl _ _⟩
  · obtain ⟨i0, hi0, hz0, hz1, hz2⟩ := info_parts task_info
    have hrun := Lib.run_append_nil_zeros (P := Tryz.prog) w 30 3 30 40 i0 _ .i64 .i64 Tryz.underlying30 Tryz.underlying3 hi0 hz0 n h0 (by omega) (by omega) (by rw [hz2]; omega)
    have hcap := grownCap_le_maxLen w n 0 40 (by unfold maxLen; omega)
    have hge := grownCap_ge w n 0 40
    generalize hgc : grownCap w n 0 40 = gc at hrun hcap hge
    have Hcap := qh hcap
    have Hrun := qh hrun
    have Hgc := qh hgc
    have k1 : (0 : Int) < (n : Int) := by omega
    clear hcap hrun hgc
    go_enter Tryz.func110, Tryz.ntmps110
    go_wp2_with (at_builtin; refine Lib.wpList_append_run _ rfl _ _ _ _ rfl _ _ rfl rfl _ _ Hrun.out ?_)
    go_ret
    refine ⟨_, _, rfl, own_zero (heap_alloc_new w.drew _) (Nat.le_refl _) Hcap.out ?_, (Below.refl _ _).drew.alloc (Nat.le_refl _) _⟩
    simp [size_zeroCells]
    omega

set_option maxRecDepth 100000 in
set_option maxHeartbeats 1600000 in
theorem concat_any (A : Option Addr) (n c : Nat) (bs : List (List Tk)) (w : World) (h : RdB w w.heap.size A n bs) (hz : bs.flatten.length ≤ 1048576) :
    Calls Tryz.prog 73 #[.slice A n c] w fun e w' => ∃ A m c vs, e = .returned (.slice A m c) ∧ w'.ownsRow w.heap.size 40 2 (.slice A m c) m vs ∧ TkCells w' w.heap.size vs bs.flatten ∧ RdT w' w'.heap.size A m bs.flatten ∧ Below w.heap.size w w' := by
  obtain ⟨i0, hi0, hz0, hz1, hz2⟩ := info_parts task_info
  have hl := qh h.len
  have hn := h.le
  have H := qh h
  clear h
  go_enter Tryz.func73, Tryz.ntmps73
  go_wp2
  go_loop [3, 11] (fun s i => ∃ k q : Nat, i = .int .i64 k ∧ k ≤ n ∧ s = .int .i64 q ∧ q ≤ 1048576 ∧ Hid (q = (bs.take k).flatten.length)) (fun _ i => n - (intOf i).toNat)
  case atStart => exact ⟨0, 0, rfl, Nat.zero_le _, rfl, by omega, qh (by simp)⟩
  case round =>
    obtain ⟨k, q, rfl, hk, rfl, hq, hq2⟩ := hrel
    by_cases hlt : k < n
    · obtain ⟨b1, o1, A2, m2, c2, rfl, lb1, hc1, _, hr2⟩ := H.out.at_ hlt
      have hkl : Hid (k < bs.length) := by have := hl.out; show _ < _; omega
      have Hr2 := qh hr2
      clear hr2
      have e4 : q + m2 ≤ 1048576 := by
        have e3 := flat_take_le (bs := bs) (k + 1)
        rw [flat_take_succ hkl.out, List.length_append, Hr2.out.len, ← hq2.out] at e3; omega
      go_wp2
      go_round
      case rel => exact ⟨k + 1, q + m2, by go_num, by omega, by go_num, by omega, qh (by rw [flat_take_succ hkl.out, List.length_append, Hr2.out.len, ← hq2.out])⟩
      case measure => simp [intOf]; omega
    · have ek : k = n := by omega
      have hqf : Hid (q = bs.flatten.length) := by have := hq2.out; rw [ek, List.take_of_length_le (by have := hl.out; omega)] at this; exact this
      clear ek
      go_wp2_with (go_at_call 110; refine (grow_any _ hq _).mono ?_; rintro e w1 ⟨A0, c0, rfl, hown0, hb0⟩)
      have Hown0 := qh hown0
      clear hown0
      go_loopw [6, 27] (fun v i wr => ∃ k : Nat, i = .int .i64 k ∧ k ≤ n ∧ Below w.heap.size w wr ∧ ∃ A c m vs, v = .slice A m c ∧ Hid (m = (bs.take k).flatten.length) ∧ wr.ownsRow w.heap.size 40 2 v m vs ∧ TkCells wr w.heap.size vs (bs.take k).flatten) (fun _ i _ => n - (intOf i).toNat)
      case atStart => exact ⟨0, rfl, Nat.zero_le _, hb0, A0, c0, 0, [], rfl, qh rfl, Hown0.out, TkCells.nil⟩
      case round =>
        obtain ⟨k, rfl, hk, hbel, A1, c1, m1, vs, rfl, hm1, hown, htk⟩ := hrel
        have lz := hbel.size
        by_cases hlt : k < n
        · obtain ⟨b1, o1, A2, m2, c2, rfl, lb1, hc1, _, hr2⟩ := (H.out.below hbel).at_ hlt
          have hkl : Hid (k < bs.length) := by have := hl.out; show _ < _; omega
          obtain ⟨news, hsrc, htn⟩ := hr2.src
          have Hr2 := qh hr2
          clear hr2
          have e4 : m1 + m2 ≤ 1048576 := by
            have e3 := flat_take_le (bs := bs) (k + 1)
            rw [flat_take_succ hkl.out, List.length_append, Hr2.out.len, ← hm1.out] at e3; omega
          go_wp2_with (at_builtin; refine wpList_append_src _ rfl _ _ 30 rfl w.heap.size 40 i0 _ 2 32 Tryz.underlying30 hi0 hz0 hz1 hz2 rfl (by omega) (.slice A1 m1 c1) _ vs rfl hown A2 m2 c2 news rfl hsrc htn.one (by unfold maxLen; omega) (by omega) lz ?_; intro v' w2 hown1 hgrow hat)
          have hb' : Below w.heap.size w w2 := hbel.grown hgrow lz (fun j e => (hown.lt j e).1)
          have ht' := (htk.append htn).below ((Below.refl w.heap.size wr).grown hgrow lz (fun j e => (hown.lt j e).1))
          obtain ⟨A3, c3, rfl⟩ := own_shape hown1
          have Hown := qh hown1
          have Ht := qh ht'
          clear hown hown1 ht' htk htn hsrc
          go_roundw
          case rel => exact ⟨k + 1, by go_num, by omega, hb', A3, c3, m1 + m2, _, rfl, qh (by rw [flat_take_succ hkl.out, List.length_append, Hr2.out.len, ← hm1.out]), Hown.out, by rw [flat_take_succ hkl.out]; exact Ht.out⟩
          case measure => simp [intOf]; omega
        · have ek : k = n := by omega
          have e0 : bs.take k = bs := List.take_of_length_le (by have := hl.out; omega)
          rw [e0] at hm1 htk
          have Hown := qh hown
          have Ht := qh htk
          clear ek hown htk e0
          go_wp2
          go_ret
          exact ⟨A1, m1, c1, vs, rfl, Hown.out, Ht.out, RdT.of_own Hown.out Ht.out lz (by have := hm1.out; omega), hbel⟩

set_option maxRecDepth 100000 in
set_option maxHeartbeats 800000 in
theorem binsValidI_any (A1 A2 : Option Addr) (n1 c1 n2 c2 : Nat) (room : List Int) (bs : List (List Tk)) (w : World) (h1 : RdI w w.heap.size A1 n1 room) (h2 : RdB w w.heap.size A2 n2 bs) (hz : bs.flatten.length ≤ 1048576) :
    Calls Tryz.prog 42 #[.slice A1 n1 c1, .slice A2 n2 c2] w fun e w' => e = .returned (.bool (binsOk room bs)) ∧ Below w.heap.size w w' := by
  have hl := qh h2.len
  have hn := h2.le
  have H1 := qh h1
  have H2 := qh h2
  clear h1 h2
  by_cases h14 : n2 ≤ 14
  · by_cases hr : tasksOk room bs.flatten = true
    · have Hr := qh hr
      go_enter Tryz.func42, Tryz.ntmps42
      go_wp2_with fail
      refine (concat_any _ _ _ _ _ H2.out hz).mono ?_; rintro e w1 ⟨A3, n3, c3, vs, rfl, _, _, hr3, hb3⟩
      have Hr3 := qh hr3
      clear hr3
      go_wp2_with fail
      refine (tasksValidI_any _ _ _ _ _ _ _ _ _ (H1.out.up hb3) Hr3.out).mono ?_; rintro e w2 ⟨rfl, hb4⟩
      have hb5 : Below w.heap.size w w2 := hb3.trans (hb4.mono hb3.size)
      go_wp2
      go_loopw [19] (fun i wr => ∃ k : Nat, i = .int .i64 k ∧ k ≤ n2 ∧ Below w.heap.size w wr ∧ (∀ j, j < k → fits3 (loadP (bs[j]?.getD [])) room = true)) (fun i _ => n2 - (intOf i).toNat)
      case atStart => exact ⟨0, rfl, Nat.zero_le _, hb5, by intro j hj; omega⟩
      case round =>
        obtain ⟨k, rfl, hk, hbel, hall⟩ := hrel
        have Hall := qh hall
        clear hall
        by_cases hlt : k < n2
        · obtain ⟨b, o, A', m', c', rfl, hb, hc1, hmc, hrd⟩ := (H2.out.below hbel).at_ hlt
          have lz := hbel.size
          have hkl : Hid (k < bs.length) := by have := hl.out; show _ < _; omega
          have Hrd := qh (hrd.more lz)
          have hm : m' ≤ 14 := by have := hrd.len; have := bin_len hkl.out; have := tasksOk_len Hr.out; omega
          clear hrd
          have lo := qh (load_ok (fun t ht => tasksOk_vecs Hr.out t (bin_mem hkl.out ht)))
          by_cases hf : fits3 (loadP (bs[k]?.getD [])) room = true
          · go_wp2_with fail
            refine (loadOf_any _ _ _ _ _ Hrd.out (by omega) (fun j hj => lo.out.1 j (by have := Hrd.out.len; omega)) lo.out.2).mono ?_; rintro e w1 ⟨A4, c4, rfl, hr4, hb4⟩
            have Hr4 := qh hr4
            clear hr4
            go_wp2_with fail
            refine (fits_any _ _ _ _ _ _ _ _ _ _ Hr4.out ((H1.out.below hbel).below (hb4.mono lz)) (by have := H1.out.len; have := vecOk_len (roomOk_vec (tasksOk_room' Hr.out)); omega)).mono ?_; rintro e w3 ⟨rfl, rfl⟩
            have Hf := qh hf
            go_wp2
            go_roundw
            case rel => exact ⟨k + 1, by go_num, by omega, (hbel.trans (hb4.mono lz)), fun j hj => by
              by_cases e : j = k
              · rw [e]; exact Hf.out
              · exact Hall.out j (by omega)⟩
            case measure => simp [intOf]; omega
          · have hf : fits3 (loadP (bs[k]?.getD [])) room = false := by simpa using hf
            go_wp2_with fail
            refine (loadOf_any _ _ _ _ _ Hrd.out (by omega) (fun j hj => lo.out.1 j (by have := Hrd.out.len; omega)) lo.out.2).mono ?_; rintro e w1 ⟨A4, c4, rfl, hr4, hb4⟩
            have Hr4 := qh hr4
            clear hr4
            go_wp2_with fail
            refine (fits_any _ _ _ _ _ _ _ _ _ _ Hr4.out ((H1.out.below hbel).below (hb4.mono lz)) (by have := H1.out.len; have := vecOk_len (roomOk_vec (tasksOk_room' Hr.out)); omega)).mono ?_; rintro e w3 ⟨rfl, rfl⟩
            go_wp2
            go_ret
            refine ⟨ret_bool ?_, (hbel.trans (hb4.mono lz))⟩
            symm
            rw [binsOk, Bool.and_eq_false_iff]; right
            rw [← Bool.not_eq_true, allB_iff]
            intro hh
            have := hh k hkl.out
            rw [hf] at this; cases this
        · go_wp2
          go_ret
          refine ⟨ret_bool ?_, hbel⟩
          symm
          rw [binsOk, Hr.out, allB_iff.2 (fun j hj => Hall.out j (by have := hl.out; omega))]
          simp
          have := hl.out; omega
    · have hr : tasksOk room bs.flatten = false := by simpa using hr
      go_enter Tryz.func42, Tryz.ntmps42
      go_wp2_with fail
      refine (concat_any _ _ _ _ _ H2.out hz).mono ?_; rintro e w1 ⟨A3, n3, c3, vs, rfl, _, _, hr3, hb3⟩
      have Hr3 := qh hr3
      clear hr3
      go_wp2_with fail
      refine (tasksValidI_any _ _ _ _ _ _ _ _ _ (H1.out.up hb3) Hr3.out).mono ?_; rintro e w2 ⟨rfl, hb4⟩
      go_wp2
      go_ret
      exact ⟨ret_bool (by symm; simp [binsOk, hr]), hb3.trans (hb4.mono hb3.size)⟩
  · go_enter Tryz.func42, Tryz.ntmps42
    go_wp2
    go_ret
    exact ⟨ret_bool (by symm; rw [binsOk, decide_eq_false (by have := hl.out; omega)]; simp), Below.refl _ _⟩
end Go.Proofs.YtlcgbnmmbheleaaGreat
