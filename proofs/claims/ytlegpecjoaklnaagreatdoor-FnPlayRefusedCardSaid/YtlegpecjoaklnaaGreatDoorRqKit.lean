/- Plain facts and laws of memory for the laws of requests. -/
import Derived.Test.YtlegpecjoaklnaaGreatDoorRqRows
import Derived.Test.YtlegpecjoaklnaaGreatDoorWhereI
import Derived.Test.YtlegpecjoaklnaaGreatDoorDrawRqs
namespace Go.Proofs.YtlegpecjoaklnaaGreatDoor
set_option linter.unusedSimpArgs false
set_option linter.unusedVariables false
open Go Go.RowKit

/-- An append that a guard has let through. -/
theorem wpList_append_srcG {P : Program} {w : World} {ops : Array Oper} {rest : List Oper} {o : Oper} {a : Act} {Q : Exit → Act → World → Prop} (hgd : Region.wanted o (yielded ops a.tmps) = true) (s x : Operand) (t : TypeId)
    (ho : o.op = .call { callee := .builtin .append, args := #[s, x], argTypes := #[t, t] })
    (base : Nat) (e : TypeId) (i : TypeInfo) (z : Value) (size bytes : Nat) (ht : P.underlying t = some (.slice e)) (hi : P.info? e = some i) (hz : i.zero = some z)
    (hsize : i.size = size) (hby : i.bytes = bytes) (hzs : z.cells.size = size) (hsz : 0 < size)
    (v : Value) (n : Nat) (xs : List Value) (hs : a.eval s = v) (hown : w.ownsRow base e size v n xs)
    (A : Option Addr) (m c : Nat) (news : List Value) (hx : a.eval x = .slice A m c) (hr : Src w size A m news) (h1 : ∀ u ∈ news, u.oneCell' = true)
    (h63 : n + m ≤ maxLen) (hbytes : (n + m) * bytes ≤ 140737488355328) (hbase : base ≤ w.heap.size)
    (h : ∀ v' w', w'.ownsRow base e size v' (n + m) (xs ++ news) → w.grownBy w' v.ownBlock → (v'.ownBlock = v.ownBlock ∨ v'.ownBlock = some w.heap.size) → wpList P ops Q rest (a.put o.dst v') w') : wpList P ops Q (o :: rest) a w :=
  wpList_step fun K hK => by
    rw [if_pos hgd]
    exact wp_append_src w s x t ho base e i z size bytes ht hi hz hsize hby hzs hsz v n xs hs hown A m c news hx hr h1 h63 hbytes hbase fun v' w' h2 h3 h4 => hK _ _ (h v' w' h2 h3 h4)

/-- A slice of integers, as a source. -/
theorem int_all {w : World} {B n : Nat} {A : Option Addr} {xs : List Int} (h : RdI w B A n xs) : Src w 1 A n (xs.map (Value.int .i64)) := by
  have hl := h.len
  refine ⟨by rw [List.length_map]; omega, fun hp => ?_⟩
  obtain ⟨b, o, rfl, _, _⟩ := h.at_ hp
  refine ⟨_, rfl, fun j u hj => ?_⟩
  have hjn : j < n := by
    rcases Nat.lt_or_ge j n with h' | h'
    · exact h'
    · rw [List.getElem?_eq_none (by simp; omega)] at hj; cases hj
  obtain ⟨b', o', e1, _, e3⟩ := h.at_ hjn
  injection e1 with e1
  injection e1 with e1 e2
  subst e1 e2
  rw [addr_add, e3, ← hj, List.getElem?_map, List.getElem?_eq_getElem (by omega)]
  rfl
theorem ints_one' {xs : List Int} : ∀ u ∈ xs.map (Value.int .i64), u.oneCell' = true := by
  intro u hu
  obtain ⟨x, _, rfl⟩ := List.mem_map.1 hu
  rfl

theorem playP_sh {room : List Int} {us : List Un} (rs : List Rq) : ShU (playP room us rs).2.1 ∧ (playP room us rs).1.length ≤ 3 := by
  by_cases h : clOk room us = true ∧ rs.length ≤ 30
  · rw [play_yes h.1 h.2]; exact ⟨clOk_sh (play_ok rs us h.1).1, Nat.le_of_eq (clOk_facts h.1).1⟩
  · rw [play_bad h]; exact ⟨⟨by simp, fun u hu => by simp at hu⟩, by simp⟩
theorem counts2 {room : List Int} {us : List Un} (h : clOk room us = true) : (countsP room us)[2]?.getD 0 = (totalP us : Int) := by
  unfold countsP
  rw [if_pos h]
  show (cntN us us.length : Int) = _
  rw [cntN_total]
theorem counts_len {room : List Int} {us : List Un} (h : clOk room us = true) : (countsP room us).length = 3 := by unfold countsP; rw [if_pos h]; rfl
theorem adds_snoc : ∀ {rs : List Rq} {cs : List Int} {k : Nat}, k < rs.length → k < cs.length → addsP (rs.take (k + 1)) (cs.take (k + 1)) = addsP (rs.take k) (cs.take k) + addP (rs[k]?.getD rq0) (cs[k]?.getD 0)
  | [], _, _, h, _ => by simp at h
  | r :: rs, [], _, _, h => by simp at h
  | r :: rs, c :: cs, 0, _, _ => by simp [addsP]
  | r :: rs, c :: cs, k + 1, h, h' => by
    have ih := adds_snoc (rs := rs) (cs := cs) (k := k) (by simpa using h) (by simpa using h')
    simp only [List.take_succ_cons, addsP, ih, gS]
    omega
theorem adds_bd : ∀ (rs : List Rq) (cs : List Int), -(rs.length : Int) ≤ addsP rs cs ∧ addsP rs cs ≤ rs.length
  | [], cs => by simp [addsP]
  | r :: rs, [] => by simp [addsP]; omega
  | r :: rs, c :: cs => by
    have ih := adds_bd rs cs
    have h1 : -1 ≤ addP r c ∧ addP r c ≤ 1 := by unfold addP; split <;> split <;> omega
    simp only [addsP, List.length_cons]
    omega
theorem done_snoc : ∀ {rs : List Rq} {cs : List Int} {k : Nat}, k < rs.length → k < cs.length → doneR (rs.take (k + 1)) (cs.take (k + 1)) = if cs[k]?.getD 0 = 0 then doneR (rs.take k) (cs.take k) ++ [rs[k]?.getD rq0] else doneR (rs.take k) (cs.take k)
  | [], _, _, h, _ => by simp at h
  | r :: rs, [], _, _, h => by simp at h
  | r :: rs, c :: cs, 0, _, _ => by
    simp only [List.take_succ_cons, List.take_zero, doneR, gZ, Option.getD_some, List.nil_append]
  | r :: rs, c :: cs, k + 1, h, h' => by
    have ih := done_snoc (rs := rs) (cs := cs) (k := k) (by simpa using h) (by simpa using h')
    simp only [List.take_succ_cons, doneR, ih, gS]
    split <;> split <;> rfl
theorem total_bd {us : List Un} (h : ShU us) : totalP us ≤ 1000000 := by
  unfold totalP
  have h1 := h.1
  have h2 : ∀ (l : List Un), (∀ u ∈ l, u.2.length ≤ 1000) → (l.map (·.2)).flatten.length ≤ 1000 * l.length := fun l => by
    induction l with
    | nil => intro _; simp
    | cons a l ih =>
      intro hl
      have := ih (fun u hu => hl u (by simp [hu]))
      have := hl a (by simp)
      simp only [List.map_cons, List.flatten_cons, List.length_append, List.length_cons]
      omega
  have h3 := h2 us (fun u hu => by have := (h.2 u hu).1; omega)
  omega
end Go.Proofs.YtlegpecjoaklnaaGreatDoor
