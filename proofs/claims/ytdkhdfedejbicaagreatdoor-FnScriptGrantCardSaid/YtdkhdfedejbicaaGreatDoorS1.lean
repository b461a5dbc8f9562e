/- Several texts in one. -/
import Derived.Test.YtdkhdfedejbicaaGreatDoorWhereI
import Derived.Lib.Split
import Derived.Lib.ItoaNum
import Derived.Test.YtdkhdfedejbicaaGreatDoorReadsU
import Derived.Laws.IdiomStrings
import Derived.Lib.SmallJoins
namespace Go.Proofs.YtdkhdfedejbicaaGreatDoor
set_option linter.unusedVariables false
set_option linter.unusedSimpArgs false

abbrev Bs := List UInt8
def cutP (c : UInt8) : Bs → List Bs
  | [] => [[]]
  | x :: xs => if x = c then [] :: cutP c xs else match cutP c xs with | [] => [[x]] | w :: ws => (x :: w) :: ws
theorem cut_ne (c : UInt8) : ∀ l, cutP c l ≠ []
  | [] => by simp [cutP]
  | x :: xs => by
    unfold cutP
    split
    · simp
    · split <;> simp
theorem cut_end (c : UInt8) : ∀ {a : Bs}, (∀ x ∈ a, x ≠ c) → cutP c a = [a]
  | [], _ => rfl
  | x :: xs, h => by
    rw [cutP, if_neg (h x (List.mem_cons_self ..)), cut_end c (fun y hy => h y (List.mem_cons_of_mem _ hy))]
theorem cut_at (c : UInt8) : ∀ {a : Bs} {b : Bs}, (∀ x ∈ a, x ≠ c) → cutP c (a ++ c :: b) = a :: cutP c b
  | [], b, _ => by simp [cutP]
  | x :: xs, b, h => by
    rw [List.cons_append, cutP, if_neg (h x (List.mem_cons_self ..)), cut_at c (fun y hy => h y (List.mem_cons_of_mem _ hy))]
theorem cut_len (c : UInt8) : ∀ l, (cutP c l).length = l.count c + 1
  | [] => rfl
  | x :: xs => by
    rw [cutP]
    by_cases h : x = c
    · rw [if_pos h, List.length_cons, cut_len c xs, h, List.count_cons_self]
    · rw [if_neg h, List.count_cons_of_ne h, ← cut_len c xs]
      cases hc : cutP c xs with
      | nil => exact absurd hc (cut_ne c xs)
      | cons w ws => rfl
def isDig (b : UInt8) : Bool := decide (48 ≤ b.toNat ∧ b.toNat ≤ 57)
def digV (b : UInt8) : Int := (b.toNat : Int) - 48
def numV (w : Bs) : Int := w.foldl (fun n b => 10 * n + digV b) 0
def wordOk (w : Bs) : Bool := decide (1 ≤ w.length ∧ w.length ≤ 2) && !(decide (w.length = 2) && decide (w[0]?.getD 0 = 48))
def numP (w : Bs) : Option Int := if wordOk w && w.all isDig then some (numV w) else none
def numsP : List Bs → Option (List Int)
  | [] => some []
  | w :: ws => match numP w with | none => none | some n => (numsP ws).map (n :: ·)
theorem nums_snoc : ∀ {ws : List Bs} {ns : List Int} {w : Bs} {n : Int}, numsP ws = some ns → numP w = some n → numsP (ws ++ [w]) = some (ns ++ [n])
  | [], ns, w, n, h, hn => by
    simp only [numsP, Option.some.injEq] at h
    subst h
    simp [numsP, hn]
  | u :: ws, ns, w, n, h, hn => by
    rw [numsP] at h
    cases hu : numP u with
    | none => rw [hu] at h; cases h
    | some m =>
      rw [hu] at h
      cases hr : numsP ws with
      | none => rw [hr] at h; cases h
      | some ms =>
        rw [hr] at h
        simp only [Option.map_some, Option.some.injEq] at h
        subst h
        rw [List.cons_append, numsP, hu, nums_snoc hr hn]
        rfl
theorem nums_bad : ∀ {ws : List Bs} {w : Bs}, w ∈ ws → numP w = none → numsP ws = none
  | u :: ws, w, h, hn => by
    rw [numsP]
    rcases List.mem_cons.1 h with e | e
    · rw [← e, hn]
    · rw [nums_bad e hn]
      cases numP u <;> rfl
theorem nums_len : ∀ {ws : List Bs} {ns : List Int}, numsP ws = some ns → ns.length = ws.length
  | [], ns, h => by simp only [numsP, Option.some.injEq] at h; subst h; rfl
  | u :: ws, ns, h => by
    rw [numsP] at h
    cases hu : numP u with
    | none => rw [hu] at h; cases h
    | some m =>
      rw [hu] at h
      cases hr : numsP ws with
      | none => rw [hr] at h; cases h
      | some ms =>
        rw [hr] at h
        simp only [Option.map_some, Option.some.injEq] at h
        subst h
        rw [List.length_cons, List.length_cons, nums_len hr]
/-! ### Words -/
def wArrive : Bs := [97, 114, 114, 105, 118, 101]
def wGrant : Bs := [103, 114, 97, 110, 116]
def wDepart : Bs := [100, 101, 112, 97, 114, 116]
def wOpen : Bs := [111, 112, 101, 110]
def wClose : Bs := [99, 108, 111, 115, 101]
def wGather : Bs := [103, 97, 116, 104, 101, 114]
def wShow : Bs := [115, 104, 111, 119]
def wClosed : Bs := [99, 108, 111, 115, 101, 100]
def tWhat : Bs := [119, 104, 97, 116, 10]
def tLong : Bs := [116, 111, 111, 32, 108, 111, 110, 103, 10]
def tEnd : Bs := [101, 110, 100]
def codeW (k : Int) : Bs :=
  if k = 0 then [100, 111, 110, 101] else if k = 1 then [98, 97, 100] else if k = 2 then [116, 119, 105, 99, 101] else if k = 3 then [102, 117, 108, 108] else if k = 4 then [110, 111, 110, 101] else [98, 117, 115, 121]
def rqN (kind n : Int) : Rq := ⟨kind, 0, [], false, n⟩
def cmdP (w : Bs) (ns : List Int) : Option Rq :=
  if (w = wArrive ∨ w = wGrant) ∧ ns.length = 4 then some ⟨1, ns[0]?.getD 0, ns.drop 1, decide (w = wGrant), 0⟩
  else if w = wDepart ∧ ns.length = 1 then some (rqN 2 (ns[0]?.getD 0))
  else if w = wOpen ∧ ns.length = 1 then some (rqN 3 (ns[0]?.getD 0))
  else if w = wClose ∧ ns.length = 1 then some (rqN 4 (ns[0]?.getD 0))
  else if w = wGather ∧ ns.length = 1 then some (rqN 5 (ns[0]?.getD 0))
  else none

/-! ### Texts -/
def decD (n : Int) : Bs := if n < 10 then [UInt8.ofNat (48 + n.toNat)] else [UInt8.ofNat (48 + n.toNat / 10), UInt8.ofNat (48 + n.toNat % 10)]
def vecT (xs : List Int) : Bs := decD (xs[0]?.getD 0) ++ [44] ++ decD (xs[1]?.getD 0) ++ [44] ++ decD (xs[2]?.getD 0)
def taskT (t : Tk) : Bs := [32] ++ decD t.1 ++ [58] ++ vecT t.2
def unitT (u : Un) : Bs := (if u.1 = true then wOpen else wClosed) ++ (u.2.map taskT).flatten ++ [10]
def showT (us : List Un) : Bs := (us.map unitT).flatten
def lineP (us : List Un) (line : Bs) : List Un × Bs :=
  let ws := cutP 32 line
  if ws = [wShow] then (us, showT us)
  else match numsP ws.tail with
    | none => (us, tWhat)
    | some ns => match cmdP (ws.head?.getD []) ns with
      | none => (us, tWhat)
      | some r => ((reqP [10, 10, 10] us r).2.1, codeW (reqP [10, 10, 10] us r).2.2 ++ [10])
def linesP (ls : List Bs) (us : List Un) : List Un × Bs := ls.foldl (fun s l => ((lineP s.1 l).1, s.2 ++ (lineP s.1 l).2)) (us, [])
def us4 : List Un := [(false, []), (false, []), (false, []), (false, [])]
def endT (us : List Un) : Bs := tEnd ++ [32] ++ decD ((countsP [10, 10, 10] us)[0]?.getD 0) ++ [32] ++ decD ((countsP [10, 10, 10] us)[1]?.getD 0) ++ [32] ++ decD ((countsP [10, 10, 10] us)[2]?.getD 0) ++ [10]
def execP (text : Bs) : Bs := if 600 < text.length then tLong else (linesP (cutP 10 text).dropLast us4).2 ++ endT (linesP (cutP 10 text).dropLast us4).1
end Go.Proofs.YtdkhdfedejbicaaGreatDoor

namespace Go.Proofs.YtdkhdfedejbicaaGreatDoor
set_option linter.unusedVariables false
set_option linter.unusedSimpArgs false

theorem snoc_ind {P : List Bs → Prop} (h0 : P []) (h1 : ∀ l a, P l → P (l ++ [a])) (l : List Bs) : P l := by
  rw [← List.reverse_reverse l]
  induction l.reverse with
  | nil => exact h0
  | cons a t ih => rw [List.reverse_cons]; exact h1 _ _ ih
theorem cut_app (c : UInt8) : ∀ (a b : Bs), cutP c (a ++ c :: b) = cutP c a ++ cutP c b
  | [], b => by simp [cutP]
  | x :: xs, b => by
    rw [List.cons_append, cutP, cutP]
    by_cases h : x = c
    · rw [if_pos h, if_pos h, cut_app c xs b]; rfl
    · rw [if_neg h, if_neg h, cut_app c xs b]
      cases hc : cutP c xs with
      | nil => exact absurd hc (cut_ne c xs)
      | cons w ws => rfl
def linesOf (text : Bs) : List Bs := (cutP 10 text).dropLast
theorem lines_full {a b : Bs} (h : ∀ x ∈ b, x ≠ 10) : linesOf (a ++ 10 :: b) = cutP 10 a := by
  unfold linesOf
  rw [cut_app, cut_end 10 h, List.dropLast_concat]
theorem lines_none {b : Bs} (h : ∀ x ∈ b, x ≠ 10) : linesOf b = [] := by
  unfold linesOf
  rw [cut_end 10 h]; rfl
def compTo (text : Bs) : Nat → Bs
  | 0 => []
  | i + 1 => if text[i]?.getD 0 = 10 then text.take (i + 1) else compTo text i
def compP (text : Bs) : Bs := compTo text text.length
theorem comp_cases (text : Bs) : ∀ n, n ≤ text.length → (∀ x ∈ (text.take n), x ≠ 10) ∧ compTo text n = [] ∨ ∃ a b, text.take n = a ++ 10 :: b ∧ (∀ x ∈ b, x ≠ 10) ∧ compTo text n = a ++ [10]
  | 0, _ => .inl ⟨fun x hx => by simp at hx, rfl⟩
  | i + 1, h => by
    have hi : i < text.length := by omega
    have e : text.take (i + 1) = text.take i ++ [text[i]?.getD 0] := by rw [List.take_succ_eq_append_getElem hi, List.getElem?_eq_getElem hi]; rfl
    rw [compTo]
    by_cases h10 : text[i]?.getD 0 = 10
    · rw [if_pos h10]
      exact .inr ⟨text.take i, [], by rw [e, h10], fun x hx => by simp at hx, by rw [e, h10]⟩
    · rw [if_neg h10]
      rcases comp_cases text i (by omega) with ⟨h1, h2⟩ | ⟨a, b, h1, h2, h3⟩
      · refine .inl ⟨fun x hx => ?_, h2⟩
        rw [e] at hx
        rcases List.mem_append.1 hx with hx | hx
        · exact h1 x hx
        · rw [List.mem_singleton] at hx; rw [hx]; exact h10
      · refine .inr ⟨a, b ++ [text[i]?.getD 0], by rw [e, h1]; simp, fun x hx => ?_, h3⟩
        rcases List.mem_append.1 hx with hx | hx
        · exact h2 x hx
        · rw [List.mem_singleton] at hx; rw [hx]; exact h10
theorem comp_or (text : Bs) : (compP text = [] ∧ linesOf text = []) ∨ ∃ a, compP text = a ++ [10] ∧ linesOf text = cutP 10 a ∧ (a ++ [10]).length ≤ text.length := by
  rcases comp_cases text text.length (Nat.le_refl _) with ⟨h1, h2⟩ | ⟨a, b, h1, h2, h3⟩
  · rw [List.take_length] at h1
    exact .inl ⟨h2, lines_none h1⟩
  · rw [List.take_length] at h1
    refine .inr ⟨a, h3, by rw [h1]; exact lines_full h2, ?_⟩
    rw [h1]; simp
theorem comp_lines (text : Bs) : linesOf (compP text) = linesOf text := by
  rcases comp_or text with ⟨h1, h2⟩ | ⟨a, h1, h2, _⟩
  · rw [h1, h2]; rfl
  · rw [h1, h2]; exact lines_full (b := []) (fun x hx => by simp at hx)
theorem comp_len (text : Bs) : (compP text).length ≤ text.length := by
  rcases comp_or text with ⟨h1, h2⟩ | ⟨a, h1, h2, h3⟩
  · rw [h1]; simp
  · rw [h1]; exact h3
theorem exec_cut {text : Bs} (h : ¬ 600 < text.length) : execP (compP text) = execP text := by
  have := comp_len text
  unfold execP
  rw [if_neg h, if_neg (by omega)]
  rw [show (cutP 10 (compP text)).dropLast = (cutP 10 text).dropLast from comp_lines text]
def wZzz : Bs := [122, 122, 122]
theorem comp_more (text : Bs) : linesOf (compP text ++ (wZzz ++ [10])) = linesOf text ++ [wZzz] := by
  have e2 : linesOf (wZzz ++ [10]) = [wZzz] := by rfl
  rcases comp_or text with ⟨h1, h2⟩ | ⟨a, h1, h2, _⟩
  · rw [h1, h2, List.nil_append, e2]; rfl
  · rw [h1, h2]
    have e : a ++ [10] ++ (wZzz ++ [10]) = a ++ 10 :: (wZzz ++ [10]) := by simp
    rw [e]
    unfold linesOf
    rw [cut_app, show cutP 10 (wZzz ++ [10]) = [wZzz, []] from rfl]
    rw [show cutP 10 a ++ [wZzz, []] = (cutP 10 a ++ [wZzz]) ++ [[]] by simp, List.dropLast_concat]
theorem linesP_snoc (ls : List Bs) (l : Bs) (us : List Un) : linesP (ls ++ [l]) us = ((lineP (linesP ls us).1 l).1, (linesP ls us).2 ++ (lineP (linesP ls us).1 l).2) := by
  unfold linesP
  rw [List.foldl_append]
  rfl
theorem line_zzz (us : List Un) : lineP us wZzz = (us, tWhat) := by
  unfold lineP
  rw [show cutP 32 wZzz = [wZzz] from rfl, if_neg (by decide)]
  rfl
theorem line_ok {us : List Un} (l : Bs) (h : clOk [10, 10, 10] us = true) : clOk [10, 10, 10] (lineP us l).1 = true := by
  unfold lineP
  dsimp only
  split
  · exact h
  · split
    · exact h
    · split
      · exact h
      · exact (req_facts h).2.1
theorem us4_ok : clOk [10, 10, 10] us4 = true := by decide +kernel
theorem lines_ok (ls : List Bs) {us : List Un} (h : clOk [10, 10, 10] us = true) : clOk [10, 10, 10] (linesP ls us).1 = true := by
  exact snoc_ind (P := fun ls => clOk [10, 10, 10] (linesP ls us).1 = true) h (fun ls l ih => by rw [linesP_snoc]; exact line_ok l ih) ls
def Closed (b : Bs) : Prop := b = [] ∨ ∃ a, b = a ++ [10]
theorem closed_app {a b : Bs} (h : ∃ x, b = x ++ [10]) : ∃ x, a ++ b = x ++ [10] := by
  obtain ⟨x, rfl⟩ := h
  exact ⟨a ++ x, by simp⟩
theorem show_closed : ∀ {us : List Un}, us ≠ [] → ∃ a, showT us = a ++ [10]
  | [u], _ => ⟨(if u.1 = true then wOpen else wClosed) ++ (u.2.map taskT).flatten, by unfold showT unitT; simp⟩
  | u :: v :: us, _ => by
    have h := show_closed (us := v :: us) (by simp)
    have e : showT (u :: v :: us) = unitT u ++ showT (v :: us) := by unfold showT; simp
    rw [e]
    exact closed_app h
theorem line_closed {us : List Un} (l : Bs) (h : clOk [10, 10, 10] us = true) : ∃ a, (lineP us l).2 = a ++ [10] := by
  have hne : us ≠ [] := fun e => by subst e; simp [clOk] at h
  unfold lineP
  dsimp only
  split
  · exact show_closed hne
  · split
    · exact ⟨[119, 104, 97, 116], rfl⟩
    · split
      · exact ⟨[119, 104, 97, 116], rfl⟩
      · exact ⟨_, rfl⟩
theorem lines_closed (ls : List Bs) : Closed (linesP ls us4).2 := by
  exact snoc_ind (P := fun ls => Closed (linesP ls us4).2) (.inl rfl) (fun ls l ih => by
    rw [linesP_snoc]
    exact .inr (closed_app (line_closed l (lines_ok ls us4_ok)))) ls

/-! ### The last line -/
def lastTo (y : Bs) : Nat → Bs
  | 0 => y
  | i + 1 => if y[i]?.getD 0 = 10 then y.drop (i + 1) else lastTo y i
def lastL (y : Bs) : Bs := lastTo y (y.length - 1)
theorem lastTo_skip {y : Bs} : ∀ {n m : Nat}, m ≤ n → (∀ i, m ≤ i → i < n → y[i]?.getD 0 ≠ 10) → lastTo y n = lastTo y m
  | 0, m, h, _ => by rw [show m = 0 by omega]
  | n + 1, m, h, hn => by
    rcases Nat.lt_or_ge n m with h2 | h2
    · rw [show m = n + 1 by omega]
    · rw [lastTo, if_neg (hn n h2 (by omega)), lastTo_skip h2 (fun i h3 h4 => hn i h3 (by omega))]
theorem last_end {o e : Bs} (ho : Closed o) (he : ∀ x ∈ e, x ≠ 10) : lastL (o ++ (e ++ [10])) = e ++ [10] := by
  have key : lastTo (o ++ (e ++ [10])) ((o ++ (e ++ [10])).length - 1) = lastTo (o ++ (e ++ [10])) o.length := by
    refine lastTo_skip ?_ (fun i h1 h2 => ?_)
    · simp <;> omega
    · simp only [List.length_append, List.length_cons, List.length_nil] at h2
      rw [List.getElem?_append_right h1, List.getElem?_append_left (by omega), List.getElem?_eq_getElem (by omega)]
      exact he _ (List.getElem_mem _)
  unfold lastL
  rw [key]
  rcases ho with rfl | ⟨a, rfl⟩
  · rfl
  · rw [List.length_append, List.length_cons, List.length_nil, Nat.zero_add, lastTo]
    rw [if_pos (by rw [List.getElem?_append_left (by simp), List.getElem?_append_right (by simp)]; simp)]
    rw [show a.length + 1 = (a ++ [10]).length by simp, List.drop_left]
theorem decD_no {n : Int} (h0 : 0 ≤ n) (h : n ≤ 99) : ∀ x ∈ decD n, x ≠ 10 := by
  intro x hx
  unfold decD at hx
  have key : ∀ k : Nat, k < 10 → UInt8.ofNat (48 + k) ≠ 10 := by decide
  split at hx
  · rw [List.mem_singleton] at hx; rw [hx]; exact key _ (by omega)
  · rcases List.mem_cons.1 hx with e | e
    · rw [e]; exact key _ (by omega)
    · rw [List.mem_singleton] at e; rw [e]; exact key _ (by omega)
theorem cl_len {us : List Un} (h : clOk [10, 10, 10] us = true) : 1 ≤ us.length ∧ us.length ≤ 10 := by
  simp only [clOk, Bool.and_eq_true, decide_eq_true_eq] at h
  exact h.1.1
theorem cl_flat {us : List Un} (h : clOk [10, 10, 10] us = true) : ((us.map (·.2)).flatten).length ≤ 14 := by
  simp only [clOk, Bool.and_eq_true] at h
  exact tasksOk_len (binsOk_tasks h.1.2)
theorem cntN_all (us : List Un) : cntN us us.length = ((us.map (·.2)).flatten).length := by
  unfold cntN
  rw [List.take_length, List.length_flatten, List.map_map]
  rfl
theorem counts_is {us : List Un} (h : clOk [10, 10, 10] us = true) : ∃ a b c : Int, countsP [10, 10, 10] us = [a, b, c] ∧ (0 ≤ a ∧ a ≤ 99) ∧ (0 ≤ b ∧ b ≤ 99) ∧ (0 ≤ c ∧ c ≤ 99) := by
  refine ⟨_, _, _, by unfold countsP; rw [if_pos h], ?_, ?_, ?_⟩
  · have := cl_len h
    have h2 : rankU us us.length ≤ us.length := by unfold rankU; rw [List.take_length]; exact List.length_filter_le _ _
    omega
  · have := cl_len h
    have h2 : cntT us us.length ≤ us.length := by unfold cntT; rw [List.take_length]; exact List.length_filter_le _ _
    omega
  · have := cl_flat h
    rw [cntN_all]; omega
theorem end_is {us : List Un} (h : clOk [10, 10, 10] us = true) : ∃ e, endT us = e ++ [10] ∧ ∀ x ∈ e, x ≠ 10 := by
  obtain ⟨a, b, c, e, ha, hb, hc⟩ := counts_is h
  refine ⟨_, rfl, fun x hx => ?_⟩
  rw [e] at hx
  simp only [List.mem_append] at hx
  rcases hx with ((((((hx | hx) | hx) | hx) | hx) | hx)) | hx
  all_goals first
    | (exact decD_no ha.1 ha.2 x hx)
    | (exact decD_no hb.1 hb.2 x hx)
    | (exact decD_no hc.1 hc.2 x hx)
    | (revert x; decide)
theorem exec_what {text : Bs} (h : ¬ 600 < text.length + 4) :
    execP (compP text ++ (wZzz ++ [10])) = ((execP (compP text)).take ((execP (compP text)).length - (lastL (execP (compP text))).length) ++ tWhat) ++ lastL (execP (compP text)) := by
  have hc := comp_len text
  have h1 : ¬ 600 < (compP text).length := by omega
  have h2 : ¬ 600 < (compP text ++ (wZzz ++ [10])).length := by simp [wZzz]; omega
  have hl : (cutP 10 (compP text ++ (wZzz ++ [10]))).dropLast = (cutP 10 (compP text)).dropLast ++ [wZzz] := by
    have := comp_more text
    rw [← comp_lines text] at this
    exact this
  unfold execP
  rw [if_neg h1, if_neg h2, hl, linesP_snoc, line_zzz]
  generalize hU : linesP (cutP 10 (compP text)).dropLast us4 = s
  have hk : clOk [10, 10, 10] s.1 = true := by rw [← hU]; exact lines_ok _ us4_ok
  have hcl : Closed s.2 := by rw [← hU]; exact lines_closed _
  obtain ⟨e, he, hne⟩ := end_is hk
  rw [he, last_end hcl hne]
  dsimp only
  rw [List.length_append, Nat.add_sub_cancel, List.take_left]
end Go.Proofs.YtdkhdfedejbicaaGreatDoor

namespace Go.Proofs.YtdkhdfedejbicaaGreatDoor
set_option linter.unusedSimpArgs false
set_option linter.unusedVariables false
open Go Go.RowKit
attribute [local go_sem ↓] Go.wp_at_zero Go.wp_at_succ

def bs (l : Bs) : ByteArray := ⟨l.toArray⟩
theorem bs_list (l : Bs) : (bs l).data.toList = l := by simp [bs]
theorem bs_of (s : ByteArray) : bs s.data.toList = s := by
  apply ByteArray.ext
  simp [bs]
theorem bs_size (l : Bs) : (bs l).size = l.length := by rw [Lib.size_eq, bs_list]
theorem bs_app (a b : Bs) : bs a ++ bs b = bs (a ++ b) := ByteArray.mk_append_mk a b
theorem bs_cut (l : Bs) (i j : Nat) : (bs l).extract i j = bs ((l.drop i).take (j - i)) := by
  rw [← bs_of ((bs l).extract i j), Lib.extract_data, bs_list]
theorem decD_small {n : Int} (h : n < 10) : decD n = [UInt8.ofNat (48 + n.toNat)] := by unfold decD; rw [if_pos h]
theorem decD_big {n : Int} (h : ¬ n < 10) : decD n = decD (n / 10 : Int) ++ [UInt8.ofNat (48 + n.toNat % 10)] ∨ 99 < n ∨ n < 0 := by
  by_cases h2 : 99 < n
  · exact .inr (.inl h2)
  by_cases h3 : n < 0
  · exact .inr (.inr h3)
  left
  rw [decD_small (show n / 10 < 10 by omega)]
  unfold decD
  rw [if_neg h, show (n / 10).toNat = n.toNat / 10 by omega]
  rfl
theorem decD_len (n : Int) : 1 ≤ (decD n).length ∧ (decD n).length ≤ 2 := by unfold decD; split <;> simp
theorem byte_of {k : Nat} (h : k < 256) : ((UInt8.ofNat k).toNat : Int) = (k : Int) := by
  rw [UInt8.toNat_ofNat']
  omega

set_option maxRecDepth 100000 in
set_option maxHeartbeats 800000 in
theorem l6Dec_small (n : Int) (h0 : 0 ≤ n) (h : n < 10) (w : World) :
    Calls Tryz.prog 32 #[.int .i64 n] w fun e w' => e = .returned (.string (bs (decD n))) ∧ Below w.heap.size w w' := by
  have a1 : ¬ n < -9223372036854775807 := by omega
  have a2 : ¬ n < 0 := by omega
  have e1 : IntKind.i64.wrap (48 + n) = 48 + n := wr64 (by omega) (by omega)
  have hb : ((UInt8.ofNat (48 + n.toNat)).toNat : Int) = 48 + n := by rw [byte_of (by omega)]; omega
  have B1 := qh (alloc_up w (.cells #[.int .u8 (48 + n)] 5))
  have P1 := Blk.new w 5 #[.int .u8 (48 + n)]
  have hcv := run_convert_bytes_back (P := Tryz.prog) (w.alloc (.cells #[.int .u8 (48 + n)] 5)) 22 9 5 ⟨w.heap.size, 0, none⟩ 1 [UInt8.ofNat (48 + n.toNat)] Tryz.underlying22 Tryz.underlying5 Tryz.underlying9 (fun j hj => by
    obtain rfl : j = 0 := by simpa using hj
    rw [addr_add]
    exact (P1.cell 0).trans (by simp only [List.getElem_cons_zero, hb]; rfl))
  rw [List.length_cons, List.length_nil, Nat.zero_add] at hcv
  have E0 := qh (decD_small h)
  clear P1 hb
  generalize UInt8.ofNat (48 + n.toNat) = last at hcv E0
  go_enter Tryz.func32, Tryz.ntmps32
  go_wp2
  go_ret
  exact ⟨by rw [E0.out]; rfl, B1.out⟩

set_option maxRecDepth 100000 in
set_option maxHeartbeats 1600000 in
theorem l6Dec_any (n : Int) (h0 : 0 ≤ n) (h : n ≤ 99) (w : World) :
    Calls Tryz.prog 32 #[.int .i64 n] w fun e w' => e = .returned (.string (bs (decD n))) ∧ Below w.heap.size w w' := by
  by_cases hs : n < 10
  · exact l6Dec_small n h0 hs w
  · have a1 : ¬ n < -9223372036854775807 := by omega
    have a2 : ¬ n < 0 := by omega
    have e0 : IntKind.i64.wrap (n.tdiv 10) = n / 10 := IntWalk.i64_quo _ _ ⟨by omega, by omega, by omega⟩
    have e1 : n.tmod 10 = n % 10 := IntWalk.rem_in _ _ h0
    have e2 : IntKind.i64.wrap (n % 10) = n % 10 := wr64 (by omega) (by omega)
    have e3 : IntKind.i64.wrap (48 + n % 10) = 48 + n % 10 := wr64 (by omega) (by omega)
    have e4 : IntKind.u8.wrap (48 + n % 10) = 48 + n % 10 := by rw [IntKind.wrap_u8]; omega
    have hb : ((UInt8.ofNat (48 + n.toNat % 10)).toNat : Int) = 48 + n % 10 := by rw [byte_of (by omega)]; omega
    have hcv : ∀ (W W' : World) (g : Nat), g = W.heap.size → Below (W.alloc (.cells #[.int .u8 (48 + n % 10)] 5)).heap.size (W.alloc (.cells #[.int .u8 (48 + n % 10)] 5)) W' → (convert 22 9 (.slice (some ⟨g, 0, none⟩) 1 1)).run Tryz.prog W' = .ok (.string (bs [UInt8.ofNat (48 + n.toNat % 10)])) W' := by
      intro W W' g hg hb'
      subst hg
      have P1 := Blk.new W 5 #[.int .u8 (48 + n % 10)]
      have P2 := P1.below hb' P1.lt
      exact run_convert_bytes_back (P := Tryz.prog) W' 22 9 5 ⟨W.heap.size, 0, none⟩ 1 [UInt8.ofNat (48 + n.toNat % 10)] Tryz.underlying22 Tryz.underlying5 Tryz.underlying9 (fun j hj => by
        obtain rfl : j = 0 := by simpa using hj
        rw [addr_add]
        exact (P2.cell 0).trans (by simp only [List.getElem_cons_zero, hb]; rfl))
    have Hcv := qh hcv
    clear hcv hb
    have E0 := qh ((decD_big hs).resolve_right (by omega))
    have sz1 : (bs (decD (n / 10))).size + (bs [UInt8.ofNat (48 + n.toNat % 10)]).size ≤ 4 := by rw [bs_size, bs_size]; have := (decD_len (n / 10)).2; simp; omega
    have ap : bs (decD (n / 10)) ++ bs [UInt8.ofNat (48 + n.toNat % 10)] = bs (decD n) := by rw [E0.out, bs_app]
    have HA := qh ap
    have HS := qh sz1
    have Hc := qh (fun W => l6Dec_small (n / 10) (by omega) (by omega) W)
    have key : ∀ W, (Op.stringOp .add (bs (decD (n / 10))) (bs [UInt8.ofNat (48 + n.toNat % 10)])).run Tryz.prog W = .ok (.string (bs (decD n))) W := fun W => by
      rw [run_string_add_sum _ _ _ (by have := HS.out; omega), HA.out]
    clear ap sz1 E0
    generalize UInt8.ofNat (48 + n.toNat % 10) = last at *
    generalize hD : decD (n / 10) = D at *
    generalize hE : decD n = E at *
    clear hD hE
    go_enter Tryz.func32, Tryz.ntmps32
    go_wp2_with fail
    refine wp_region_mix (.take 0 (.take 1 (.take 3 (.take 4 (.take 5 (.take 6 (.fork 2 (.bar 7 (.bar 8 (.take 9 (.take 10 .nil)))) 7 (.fork 2 (.bar 8 (.take 9 (.take 10 .nil))) 8 (.bar 2 (.take 9 (.take 10 .nil)))))))))))  (fun _ => True) (by kernel_rfl) (by kernel_rfl) trivial (fun _ => ?_)
    have B0 := qh ((Below.refl w.heap.size w).drew)
    generalize w.drew = u0 at B0 ⊢
    have lz0 := B0.out.size
    repeat ((first | refine mxS (by rfl) (by rfl) ?_ | (refine mxT (v := ?_) (by rfl) (by rfl) (fun z y => ?_) ?_; rotate_left; (focus ((try dsimp only at y); (go_simp <;> with_reducible rfl); done)))); (try simp only [Act.put,pS,pZ,pC]))
    refine wpMix_fork (by rfl) (by rfl) (fun K hK => ?_) (fun K hK => ?_)
    · go_simp
      refine (Hc.out u0).mono ?_; rintro e u1 ⟨rfl, hb⟩
      have B1 := qh (B0.out.trans (hb.mono lz0))
      clear hb
      ((try dsimp only); refine nxK hK _ _ (trivial) ?_; clear hK K; (try simp only [Act.put,pS,pZ,pC]))
      (refine mxB (by rfl) (fun K hK => ?_); go_simp)
      have B2 := qh (B1.out.alloc B1.out.size (.cells #[.int .u8 (48 + n % 10)] 5))
      have hcv := Hcv.out u1 (u1.alloc (.cells #[.int .u8 (48 + n % 10)] 5)) _ rfl (Below.refl _ _)
      ((try dsimp only); refine nxK hK _ _ (trivial) ?_; clear hK K; (try simp only [Act.put,pS,pZ,pC]))
      generalize u1.heap.size = g at hcv ⊢
      generalize u1.alloc (.cells #[.int .u8 (48 + n % 10)] 5) = u2 at B2 hcv ⊢
      (refine mxB (by rfl) (fun K hK => ?_); go_simp)
      ((try dsimp only); refine nxK hK _ _ (trivial) ?_; clear hK K; (try simp only [Act.put,pS,pZ,pC]))
      repeat ((first | refine mxS (by rfl) (by rfl) ?_ | (refine mxT (v := ?_) (by rfl) (by rfl) (fun z y => ?_) ?_; rotate_left; (focus ((try dsimp only at y); (go_simp <;> with_reducible rfl); done)))); (try simp only [Act.put,pS,pZ,pC]))
      refine wpMix_nil ?_
      go_wp2_with fail
      go_ret
      exact ⟨rfl, B2.out⟩
    · go_simp
      have B1 := qh (B0.out.alloc lz0 (.cells #[.int .u8 (48 + n % 10)] 5))
      have HQ := qh (fun W' hb => Hcv.out u0 W' _ rfl hb)
      ((try dsimp only); refine nxK hK _ _ (trivial) ?_; clear hK K; (try simp only [Act.put,pS,pZ,pC]))
      generalize u0.heap.size = g at HQ ⊢
      generalize u0.alloc (.cells #[.int .u8 (48 + n % 10)] 5) = u1 at B1 HQ ⊢
      refine wpMix_fork (by rfl) (by rfl) (fun K hK => ?_) (fun K hK => ?_)
      · go_simp
        refine (Hc.out u1).mono ?_; rintro e u2 ⟨rfl, hb⟩
        have B2 := qh (B1.out.trans (hb.mono B1.out.size))
        have hcv := HQ.out u2 hb
        clear hb
        ((try dsimp only); refine nxK hK _ _ (trivial) ?_; clear hK K; (try simp only [Act.put,pS,pZ,pC]))
        (refine mxB (by rfl) (fun K hK => ?_); go_simp)
        ((try dsimp only); refine nxK hK _ _ (trivial) ?_; clear hK K; (try simp only [Act.put,pS,pZ,pC]))
        repeat ((first | refine mxS (by rfl) (by rfl) ?_ | (refine mxT (v := ?_) (by rfl) (by rfl) (fun z y => ?_) ?_; rotate_left; (focus ((try dsimp only at y); (go_simp <;> with_reducible rfl); done)))); (try simp only [Act.put,pS,pZ,pC]))
        refine wpMix_nil ?_
        go_wp2_with fail
        go_ret
        exact ⟨rfl, B2.out⟩
      · have hcv := HQ.out u1 (Below.refl _ _)
        go_simp
        ((try dsimp only); refine nxK hK _ _ (trivial) ?_; clear hK K; (try simp only [Act.put,pS,pZ,pC]))
        (refine mxB (by rfl) (fun K hK => ?_); go_simp)
        refine (Hc.out u1).mono ?_; rintro e u2 ⟨rfl, hb⟩
        have B2 := qh (B1.out.trans (hb.mono B1.out.size))
        clear hb
        ((try dsimp only); refine nxK hK _ _ (trivial) ?_; clear hK K; (try simp only [Act.put,pS,pZ,pC]))
        repeat ((first | refine mxS (by rfl) (by rfl) ?_ | (refine mxT (v := ?_) (by rfl) (by rfl) (fun z y => ?_) ?_; rotate_left; (focus ((try dsimp only at y); (go_simp <;> with_reducible rfl); done)))); (try simp only [Act.put,pS,pZ,pC]))
        refine wpMix_nil ?_
        go_wp2_with fail
        go_ret
        exact ⟨rfl, B2.out⟩
end Go.Proofs.YtdkhdfedejbicaaGreatDoor

namespace Go.Proofs.YtdkhdfedejbicaaGreatDoor
set_option linter.unusedSimpArgs false
set_option linter.unusedVariables false
open Go Go.RowKit
attribute [local go_sem ↓] Go.wp_at_zero Go.wp_at_succ

theorem add_run (x y : Bs) (h : x.length + y.length ≤ 1000000) (W : World) : (Op.stringOp .add (bs x) (bs y)).run Tryz.prog W = .ok (.string (bs (x ++ y))) W := by
  rw [run_string_add_sum _ _ _ (by rw [bs_size, bs_size]; omega), bs_app]
def vecTo (xs : List Int) : Nat → Bs
  | 0 => []
  | 1 => decD (xs[0]?.getD 0)
  | k + 2 => vecTo xs (k + 1) ++ [44] ++ decD (xs[k + 1]?.getD 0)
theorem vecTo_all (xs : List Int) : vecTo xs 3 = vecT xs := by simp [vecTo, vecT]
theorem vecTo_len (xs : List Int) : ∀ k, (vecTo xs k).length ≤ 3 * k
  | 0 => by simp [vecTo]
  | 1 => by have := (decD_len (xs[0]?.getD 0)).2; show (decD _).length ≤ _; omega
  | k + 2 => by
    have := vecTo_len xs (k + 1)
    have := (decD_len (xs[k + 1]?.getD 0)).2
    show (vecTo xs (k + 1) ++ [44] ++ decD _).length ≤ _
    simp; omega

set_option maxRecDepth 100000 in
set_option maxHeartbeats 1600000 in
theorem vecText_any (A : Option Addr) (c : Nat) (xs : List Int) (w : World) (h : RdI w w.heap.size A 3 xs) (hv : vecOk xs = true) :
    Calls Tryz.prog 81 #[.slice A 3 c] w fun e w' => e = .returned (.string (bs (vecT xs))) ∧ Below w.heap.size w w' := by
  have H := qh h
  have HV := qh hv
  have Hb := qh (fun j => vecOk_bd hv j)
  clear h hv
  go_enter Tryz.func81, Tryz.ntmps81
  go_wp2_with fail
  go_loopw [3, 4] (fun v i wr => ∃ k : Nat, i = .int .i64 (k : Int) ∧ k ≤ 3 ∧ v = .string (bs (vecTo xs k)) ∧ Below w.heap.size w wr) (fun _ i _ => 3 - (intOf i).toNat)
  case atStart => exact ⟨0, rfl, Nat.zero_le _, rfl, Below.refl _ _⟩
  case round =>
    obtain ⟨k, rfl, hk, rfl, hb⟩ := hrel
    have HB := qh hb
    have lz := hb.size
    clear hb
    by_cases hlt : k < 3
    · have key := vecValid_any A 3 c wr.heap.size xs wr (H.out.up HB.out)
      rw [HV.out] at key
      have Key := qh key
      clear key
      obtain ⟨b1, o1, rfl, hb1, hc1⟩ := (H.out.up HB.out).at_ hlt
      have k1 : (0 : Int) ≤ (k : Int) := by omega
      have k2 : (k : Int) < 3 := by omega
      have dk := Hb.out k
      have HD := qh (fun W => l6Dec_any (xs[k]?.getD 0) (by omega) (by omega) W)
      have hd2 := (decD_len (xs[k]?.getD 0)).2
      have hl := vecTo_len xs k
      by_cases hk0 : k = 0
      · subst hk0
        rw [Nat.add_zero] at hc1
        have a1 := add_run (vecTo xs 0) (decD (xs[0]?.getD 0)) (by omega)
        have Es := qh (show vecTo xs 0 ++ decD (xs[0]?.getD 0) = vecTo xs 1 from rfl)
        rw [Es.out] at a1
        clear hl hd2
        generalize decD (xs[0]?.getD 0) = d at *
        generalize vecTo xs 0 = v0 at *
        generalize hv1 : vecTo xs 1 = v1 at *
        have HV1 := qh hv1
        clear hv1
        go_wp2_with (go_at_call 80; refine Key.out.mono ?_; rintro e w' ⟨rfl, rfl⟩)
        refine (HD.out wr).mono ?_; rintro e w2 ⟨rfl, hb⟩
        have B2 := qh (HB.out.trans (hb.mono lz))
        clear hb
        go_wp2_with fail
        go_roundw
        case measure => simp [intOf]
        case rel => exact ⟨1, by go_num, by omega, by rw [HV1.out], B2.out⟩
      · obtain ⟨j, rfl⟩ : ∃ j, k = j + 1 := ⟨k - 1, by omega⟩
        have a1 : ∀ W, (Op.stringOp .add (bs (vecTo xs (j + 1))) ⟨#[44]⟩).run Tryz.prog W = .ok (.string (bs (vecTo xs (j + 1) ++ [44]))) W := add_run (vecTo xs (j + 1)) [44] (by simp; omega)
        have a2 := add_run (vecTo xs (j + 1) ++ [44]) (decD (xs[j + 1]?.getD 0)) (by simp; omega)
        have Es := qh (show vecTo xs (j + 1) ++ [44] ++ decD (xs[j + 1]?.getD 0) = vecTo xs (j + 1 + 1) from rfl)
        rw [Es.out] at a2
        have k3 : (0 : Int) < ((j + 1 : Nat) : Int) := by omega
        clear hl hd2
        generalize decD (xs[j + 1]?.getD 0) = d at *
        generalize vecTo xs (j + 1) ++ [44] = v1 at *
        generalize hv2 : vecTo xs (j + 1 + 1) = v2 at *
        have HV2 := qh hv2
        clear hv2
        generalize vecTo xs (j + 1) = v0 at *
        go_wp2_with (go_at_call 80; refine Key.out.mono ?_; rintro e w' ⟨rfl, rfl⟩)
        refine (HD.out wr).mono ?_; rintro e w2 ⟨rfl, hb⟩
        have B2 := qh (HB.out.trans (hb.mono lz))
        clear hb
        go_wp2_with fail
        go_roundw
        case measure => simp [intOf]; omega
        case rel => exact ⟨j + 1 + 1, by go_num, by omega, by rw [HV2.out], B2.out⟩
    · obtain rfl : k = 3 := by omega
      have Ea := qh (vecTo_all xs)
      go_wp2_with fail
      go_ret
      exact ⟨by rw [← Ea.out]; rfl, HB.out⟩

/-! ### A cluster in lines -/
section
variable {room : List Int} {us : List Un}
theorem cl_unit (h : clOk room us = true) {i : Nat} (hi : i < us.length) : (us[i]?.getD (false, [])).2.length ≤ 14 ∧ ∀ t ∈ (us[i]?.getD (false, [])).2, (1 ≤ t.1 ∧ t.1 ≤ 40) ∧ vecOk t.2 = true := by
  simp only [clOk, Bool.and_eq_true] at h
  have ht := binsOk_tasks h.1.2
  have hs : (us[i]?.getD (false, [])).2.Sublist (us.map (·.2)).flatten := by
    have := bin_sub (bs := us.map (·.2)) (i := i) (by simpa using hi)
    rw [List.getElem?_map] at this
    rw [List.getElem?_eq_getElem hi] at this ⊢
    exact this
  refine ⟨by have := hs.length_le; have := tasksOk_len ht; omega, fun t htm => ?_⟩
  have := tasksOk_mem ht (hs.subset htm)
  simp only [taskOk, Bool.and_eq_true] at this
  exact ⟨inR_iff.1 this.1, tasksOk_vec ht (hs.subset htm)⟩
end
theorem vecT_len (xs : List Int) : (vecT xs).length ≤ 8 := by
  rw [← vecTo_all]; have := vecTo_len xs 3
  have h0 := (decD_len (xs[0]?.getD 0)).2
  have h1 := (decD_len (xs[1]?.getD 0)).2
  have h2 := (decD_len (xs[2]?.getD 0)).2
  rw [vecTo_all]
  unfold vecT
  simp; omega
theorem taskT_len (t : Tk) : (taskT t).length ≤ 12 := by
  unfold taskT
  have := (decD_len t.1).2
  have := vecT_len t.2
  simp; omega
theorem getD_mem9 {l : List Tk} {a : Nat} (ha : a < l.length) : l[a]?.getD (0, []) ∈ l := by rw [List.getElem?_eq_getElem ha]; exact List.getElem_mem ha
def tasksTo (ts : List Tk) (k : Nat) : Bs := ((ts.take k).map taskT).flatten
theorem tasksTo_succ {ts : List Tk} {k : Nat} (h : k < ts.length) : tasksTo ts (k + 1) = tasksTo ts k ++ taskT (ts[k]?.getD (0, [])) := by
  unfold tasksTo
  rw [List.take_succ_eq_append_getElem h, List.getElem?_eq_getElem h]
  simp only [List.map_append, List.flatten_append, List.map_cons, List.map_nil, List.flatten_cons, List.flatten_nil, List.append_nil, Option.getD_some]
theorem tasksTo_len (ts : List Tk) : ∀ k, (tasksTo ts k).length ≤ 12 * k
  | 0 => by simp [tasksTo]
  | k + 1 => by
    by_cases h : k < ts.length
    · rw [tasksTo_succ h, List.length_append]
      have := tasksTo_len ts k
      have := taskT_len (ts[k]?.getD (0, []))
      omega
    · have e : tasksTo ts (k + 1) = tasksTo ts k := by unfold tasksTo; rw [List.take_of_length_le (by omega), List.take_of_length_le (by omega)]
      rw [e]
      have := tasksTo_len ts k
      omega
def headT (u : Un) : Bs := if u.1 = true then wOpen else wClosed
theorem unitT_is (u : Un) : unitT u = headT u ++ tasksTo u.2 u.2.length ++ [10] := by unfold unitT tasksTo headT; rw [List.take_length]
theorem headT_len (u : Un) : (headT u).length ≤ 6 := by unfold headT; split <;> decide
def unitsTo (us : List Un) (i : Nat) : Bs := showT (us.take i)
theorem unitsTo_succ {us : List Un} {i : Nat} (h : i < us.length) : unitsTo us (i + 1) = unitsTo us i ++ unitT (us[i]?.getD (false, [])) := by
  unfold unitsTo showT
  rw [List.take_succ_eq_append_getElem h, List.getElem?_eq_getElem h]
  simp only [List.map_append, List.flatten_append, List.map_cons, List.map_nil, List.flatten_cons, List.flatten_nil, List.append_nil, Option.getD_some]
theorem unitsTo_len {us : List Un} (hm : ∀ i, i < us.length → (us[i]?.getD (false, [])).2.length ≤ 14) : ∀ i, (unitsTo us i).length ≤ 175 * i
  | 0 => by simp [unitsTo, showT]
  | i + 1 => by
    by_cases h : i < us.length
    · rw [unitsTo_succ h, List.length_append, unitT_is]
      have := unitsTo_len hm i
      have h1 := headT_len (us[i]?.getD (false, []))
      have h2 := tasksTo_len (us[i]?.getD (false, [])).2 (us[i]?.getD (false, [])).2.length
      have h3 := hm i h
      simp only [List.length_append, List.length_cons, List.length_nil]
      omega
    · have e : unitsTo us (i + 1) = unitsTo us i := by unfold unitsTo; rw [List.take_of_length_le (by omega), List.take_of_length_le (by omega)]
      rw [e]
      have := unitsTo_len hm i
      omega

set_option maxRecDepth 100000 in
set_option maxHeartbeats 3200000 in
theorem l51Show_any (A1 A2 : Option Addr) (n1 c1 n2 c2 : Nat) (room : List Int) (us : List Un) (w : World) (h : RdC w A1 A2 n1 n2 room us) (hok : clOk room us = true) :
    Calls Tryz.prog 52 #[.agg #[.slice A1 n1 c1, .slice A2 n2 c2]] w fun e w' => e = .returned (.string (bs (showT us))) ∧ Below w.heap.size w w' := by
  have B1 := qh (alloc_up w (.cells #[.slice A1 n1 c1, .slice A2 n2 c2] 35))
  have P1 := qh (Blk.new w 35 #[.slice A1 n1 c1, .slice A2 n2 c2])
  have H := qh (h.up B1.out)
  have Hl := qh h.b.len
  have hn10 : n2 ≤ 10 := by rw [← h.b.len]; simp only [clOk, Bool.and_eq_true, decide_eq_true_eq] at hok; exact hok.1.1.2
  have Hun := qh (fun i (hi : i < us.length) => cl_unit hok hi)
  have Hlen := qh (unitsTo_len (us := us) (fun i hi => (cl_unit hok hi).1))
  clear h hok
  go_enter Tryz.func52, Tryz.ntmps52
  go_wp2_with fail
  generalize hgx : w.heap.size = gx at P1 ⊢
  generalize w.alloc (.cells #[.slice A1 n1 c1, .slice A2 n2 c2] 35) = w1 at B1 P1 H ⊢
  have lgx := P1.out.lt
  go_loopw [3, 4] (fun v i wr => ∃ k : Nat, i = .int .i64 (k : Int) ∧ k ≤ n2 ∧ v = .string (bs (unitsTo us k)) ∧ Below w1.heap.size w1 wr) (fun _ i _ => n2 - (intOf i).toNat)
  case atStart => exact ⟨0, rfl, Nat.zero_le _, rfl, Below.refl _ _⟩
  case round =>
    obtain ⟨k, rfl, hk, rfl, hb⟩ := hrel
    obtain ⟨wo, rfl⟩ : ∃ wo, wo = wr := ⟨_, rfl⟩
    have HB := qh hb
    have lz := hb.size
    have PW := qh (P1.out.below hb lgx)
    have y1 := PW.out.cell 1
    simp only [gT, gZ, gS] at y1
    clear hb
    by_cases hlt : k < n2
    · obtain ⟨b, o, A5, m5, c5, rfl, lb, hc1, hc2, hmc, hr⟩ := H.out.b.at_ hlt
      have Hop := qh (show ∀ W : World, Below w1.heap.size w1 W → W.cell? ⟨gx, 1, none⟩ = some (.slice (some ⟨b, o, none⟩) n2 c2) ∧ W.cell? ⟨b, o + k * 2, none⟩ = some (.bool (us[k]?.getD (false, [])).1) ∧ W.cell? ⟨b, o + k * 2 + 1, none⟩ = some (.slice A5 m5 c5) from fun W hW =>
        ⟨(P1.out.below hW lgx).cell 1, (hW.cell (p := ⟨b, o + k * 2, none⟩) lb).trans hc1, (hW.cell (p := ⟨b, o + k * 2 + 1, none⟩) lb).trans hc2⟩)
      clear hc1 hc2
      obtain ⟨hm14, htk⟩ := Hun.out k (by have := Hl.out; omega)
      have Es := qh (unitsTo_succ (us := us) (i := k) (by have := Hl.out; omega))
      have Eu := qh (unitT_is (us[k]?.getD (false, [])))
      have hl := Hlen.out k
      have hh := headT_len (us[k]?.getD (false, []))
      have Hhd := qh (show headT (us[k]?.getD (false, [])) = if (us[k]?.getD (false, [])).1 = true then wOpen else wClosed from rfl)
      have Hr := qh hr
      have Hrl := qh hr.len
      have Htk := qh htk
      have k1 : (0 : Int) ≤ (k : Int) := by omega
      have k2 : (k : Int) < (n2 : Int) := by omega
      have k3 : (0 : Int) ≤ (k : Int) * 2 := by omega
      have v1 : IntKind.i64.wrap ((k : Int) + 1) = (k : Int) + 1 := wr64 (by omega) (by omega)
      clear hr htk y1
      generalize us[k]?.getD (false, []) = u at *
      generalize hv0 : unitsTo us k = v0 at *
      clear hv0
      obtain ⟨op, ts⟩ := u
      try dsimp only at hm14
      cases op with
      | false =>
        have a1 : ∀ W, (Op.stringOp .add (bs v0) ⟨#[99, 108, 111, 115, 101, 100]⟩).run Tryz.prog W = .ok (.string (bs (v0 ++ wClosed))) W := add_run v0 wClosed (by have h6 : wClosed.length ≤ 6 := (by decide); omega)
        have hl1 : (v0 ++ wClosed).length ≤ 175 * k + 6 := by have h6 : wClosed.length ≤ 6 := (by decide); rw [List.length_append]; omega
        obtain ⟨y1, y2, y3⟩ := Hop.out wo HB.out
        try dsimp only at y2
        go_wp2_with fail
        clear a1 y1 y2 y3
        generalize hv1 : v0 ++ wClosed = v1 at hl1 ⊢
        have HV1 := qh hv1
        clear hv1
        go_loopw [3, 6] (fun v i wr => ∃ j : Nat, i = .int .i64 (j : Int) ∧ j ≤ m5 ∧ v = .string (bs (v1 ++ tasksTo ts j)) ∧ Below w1.heap.size w1 wr) (fun _ i _ => m5 - (intOf i).toNat)
        case atStart => exact ⟨0, rfl, Nat.zero_le _, by rw [show tasksTo ts 0 = [] from rfl, List.append_nil], HB.out⟩
        case round =>
          obtain ⟨j, rfl, hj, rfl, hb⟩ := hrel
          have BJ := qh hb
          have lzj := hb.size
          clear hb
          have hm14' : m5 ≤ 14 := by (have := Hrl.out; (try dsimp only at this); omega)
          have htl := tasksTo_len ts j
          by_cases hjm : j < m5
          · obtain ⟨bt, ot, Ax, mx, cx, rfl, lt, ht0, ht1, hcx, hrx⟩ := Hr.out.at_ hjm
            have hjl : j < ts.length := by (have := Hrl.out; (try dsimp only at this); omega)
            obtain ⟨⟨i1, i2⟩, hvo⟩ := Htk.out _ (getD_mem9 hjl)
            have Et := qh (tasksTo_succ hjl)
            have hl2 : (taskT (ts[j]?.getD (0, []))).length ≤ 12 := taskT_len _
            have Etk := qh (show taskT (ts[j]?.getD (0, [])) = [32] ++ decD (ts[j]?.getD (0, [])).1 ++ [58] ++ vecT (ts[j]?.getD (0, [])).2 from rfl)
            try dsimp only at ht0 ht1 hrx
            generalize ts[j]?.getD (0, []) = tj at *
            obtain ⟨tid, txs⟩ := tj
            try dsimp only at ht0 ht1 hrx i1 i2 hvo
            obtain rfl : mx = 3 := by have := hrx.len; have := vecOk_len hvo; omega
            have HX := qh hrx
            have HV := qh hvo
            have Hop2 := qh (show ∀ W : World, Below w1.heap.size w1 W → (W.cell? ⟨gx, 1, none⟩ = some (.slice (some ⟨b, o, none⟩) n2 c2) ∧ W.cell? ⟨b, o + k * 2 + 1, none⟩ = some (.slice (some ⟨bt, ot, none⟩) m5 c5)) ∧ W.cell? ⟨bt, ot + j * 2, none⟩ = some (.int .i64 tid) ∧ W.cell? ⟨bt, ot + j * 2 + 1, none⟩ = some (.slice Ax 3 cx) from fun W hW =>
              ⟨⟨(Hop.out W hW).1, (Hop.out W hW).2.2⟩, (hW.cell (p := ⟨bt, ot + j * 2, none⟩) lt).trans ht0, (hW.cell (p := ⟨bt, ot + j * 2 + 1, none⟩) lt).trans ht1⟩)
            clear hrx hvo ht0 ht1
            have j1 : (0 : Int) ≤ (j : Int) := by omega
            have j2 : (j : Int) < (m5 : Int) := by omega
            have j3 : (0 : Int) ≤ (j : Int) * 2 := by omega
            have w1' : IntKind.i64.wrap ((j : Int) + 1) = (j : Int) + 1 := wr64 (by omega) (by omega)
            have hd2 := (decD_len tid).2
            have hv8 := vecT_len txs
            have a1 : ∀ W, (Op.stringOp .add (bs (v1 ++ tasksTo ts j)) ⟨#[32]⟩).run Tryz.prog W = .ok (.string (bs (v1 ++ tasksTo ts j ++ [32]))) W := add_run (v1 ++ tasksTo ts j) [32] (by rw [List.length_append]; simp; omega)
            have a2 := add_run (v1 ++ tasksTo ts j ++ [32]) (decD tid) (by simp only [List.length_append, List.length_cons, List.length_nil]; omega)
            have a3 : ∀ W, (Op.stringOp .add (bs (v1 ++ tasksTo ts j ++ [32] ++ decD tid)) ⟨#[58]⟩).run Tryz.prog W = .ok (.string (bs (v1 ++ tasksTo ts j ++ [32] ++ decD tid ++ [58]))) W := add_run (v1 ++ tasksTo ts j ++ [32] ++ decD tid) [58] (by simp only [List.length_append, List.length_cons, List.length_nil]; omega)
            have a4 := add_run (v1 ++ tasksTo ts j ++ [32] ++ decD tid ++ [58]) (vecT txs) (by simp only [List.length_append, List.length_cons, List.length_nil]; omega)
            have hfin : v1 ++ tasksTo ts j ++ [32] ++ decD tid ++ [58] ++ vecT txs = v1 ++ tasksTo ts (j + 1) := by rw [Et.out, Etk.out]; simp only [List.append_assoc]
            have HF := qh hfin
            clear hfin
            have HDc := qh (fun W => l6Dec_any tid (by omega) (by omega) W)
            generalize v1 ++ tasksTo ts j ++ [32] ++ decD tid ++ [58] ++ vecT txs = x5 at *
            generalize v1 ++ tasksTo ts j ++ [32] ++ decD tid ++ [58] = x4 at *
            generalize v1 ++ tasksTo ts j ++ [32] ++ decD tid = x3 at *
            generalize v1 ++ tasksTo ts j ++ [32] = x2 at *
            generalize v1 ++ tasksTo ts j = x1 at *
            generalize decD tid = dd at *
            obtain ⟨⟨z1, z2⟩, z3⟩ := Hop2.out wr BJ.out
            go_wp2_with fail
            clear z1 z2 z3
            refine wp_region_mix (.take 0 (.take 1 (.take 2 (.take 3 (.take 4 (.take 5 (.take 6 (.take 7 (.take 8 (.take 9 (.take 10 (.take 11 (.take 15 (.take 16 (.take 17 (.take 18 (.take 19 (.take 20 (.take 21 (.take 22 (.take 23 (.take 24 (.bar 12 (.take 13 (.take 14 (.bar 25 (.take 26 (.take 27 .nil)))))))))))))))))))))))))))) (fun w' => (w'.cell? ⟨gx, 1, none⟩ = some (.slice (some ⟨b, o, none⟩) n2 c2) ∧ w'.cell? ⟨b, o + k * 2 + 1, none⟩ = some (.slice (some ⟨bt, ot, none⟩) m5 c5)) ∧ w'.cell? ⟨bt, ot + j * 2, none⟩ = some (.int .i64 tid) ∧ w'.cell? ⟨bt, ot + j * 2 + 1, none⟩ = some (.slice Ax 3 cx)) (by kernel_rfl) (by kernel_rfl) (Hop2.out _ BJ.out.drew) (fun _ => ?_)
            have U0 := qh BJ.out.drew
            have lzu : w1.heap.size ≤ wr.drew.heap.size := lzj
            generalize wr.drew = u0 at U0 lzu ⊢
            repeat ((first | refine mxS (by rfl) (by rfl) ?_ | (refine mxT (v := ?_) (by rfl) (by rfl) (fun z y => ?_) ?_; rotate_left; (focus ((try dsimp only at y); (go_simp <;> with_reducible rfl); done)))); (try simp only [Act.put,pS,pZ,pC]))
            (refine mxB (by rfl) (fun K hK => ?_); go_simp)
            refine (HDc.out u0).mono ?_; rintro e u1 ⟨rfl, hb⟩
            have U1 := qh (U0.out.trans (hb.mono lzu))
            ((try dsimp only); refine nxK hK _ _ (Hop2.out _ U1.out) ?_; clear hK K; (try simp only [Act.put,pS,pZ,pC]))
            clear hb
            have lzu1 := U1.out.size
            repeat ((first | refine mxS (by rfl) (by rfl) ?_ | (refine mxT (v := ?_) (by rfl) (by rfl) (fun z y => ?_) ?_; rotate_left; (focus ((try dsimp only at y); (go_simp <;> with_reducible rfl); done)))); (try simp only [Act.put,pS,pZ,pC]))
            (refine mxB (by rfl) (fun K hK => ?_); go_simp)
            refine (vecText_any Ax cx txs u1 (HX.out.up U1.out) HV.out).mono ?_; rintro e u2 ⟨rfl, hb⟩
            have U2 := qh (U1.out.trans (hb.mono lzu1))
            ((try dsimp only); refine nxK hK _ _ (Hop2.out _ U2.out) ?_; clear hK K; (try simp only [Act.put,pS,pZ,pC]))
            clear hb
            repeat ((first | refine mxS (by rfl) (by rfl) ?_ | (refine mxT (v := ?_) (by rfl) (by rfl) (fun z y => ?_) ?_; rotate_left; (focus ((try dsimp only at y); (go_simp <;> with_reducible rfl); done)))); (try simp only [Act.put,pS,pZ,pC]))
            refine wpMix_nil ?_
            go_wp2_with fail
            go_roundw
            case measure => simp [intOf]; omega
            case rel => exact ⟨j + 1, by go_num, by omega, by rw [HF.out], U2.out⟩
          · obtain rfl : j = m5 := by omega
            have hl3 : (v1 ++ tasksTo ts j).length ≤ 3000 := by rw [List.length_append]; omega
            have a1 : ∀ W, (Op.stringOp .add (bs (v1 ++ tasksTo ts j)) ⟨#[10]⟩).run Tryz.prog W = .ok (.string (bs (v1 ++ tasksTo ts j ++ [10]))) W := add_run (v1 ++ tasksTo ts j) [10] (by rw [List.length_cons, List.length_nil]; omega)
            have hfin : v1 ++ tasksTo ts j ++ [10] = unitsTo us (k + 1) := by
              have h1 := Eu.out
              have h2 := Hrl.out
              have h3 : headT (false, ts) = wClosed := rfl
              try dsimp only at h1 h2
              rw [Es.out, h1, h2, h3, ← HV1.out]
              simp only [List.append_assoc]
            have HF := qh hfin
            clear hfin hl3
            generalize v1 ++ tasksTo ts j ++ [10] = x2 at *
            generalize v1 ++ tasksTo ts j = x1 at *
            obtain ⟨z1, z2, z3⟩ := Hop.out wr BJ.out
            try dsimp only at z2
            go_wp2_with fail
            go_roundw
            case measure => simp [intOf]; omega
            case rel => exact ⟨k + 1, by go_num, by omega, by rw [← HF.out], BJ.out⟩
      | true =>
        have a1 : ∀ W, (Op.stringOp .add (bs v0) ⟨#[111, 112, 101, 110]⟩).run Tryz.prog W = .ok (.string (bs (v0 ++ wOpen))) W := add_run v0 wOpen (by have h6 : wOpen.length ≤ 6 := (by decide); omega)
        have hl1 : (v0 ++ wOpen).length ≤ 175 * k + 6 := by have h6 : wOpen.length ≤ 6 := (by decide); rw [List.length_append]; omega
        obtain ⟨y1, y2, y3⟩ := Hop.out wo HB.out
        try dsimp only at y2
        go_wp2_with fail
        clear a1 y1 y2 y3
        generalize hv1 : v0 ++ wOpen = v1 at hl1 ⊢
        have HV1 := qh hv1
        clear hv1
        go_loopw [3, 6] (fun v i wr => ∃ j : Nat, i = .int .i64 (j : Int) ∧ j ≤ m5 ∧ v = .string (bs (v1 ++ tasksTo ts j)) ∧ Below w1.heap.size w1 wr) (fun _ i _ => m5 - (intOf i).toNat)
        case atStart => exact ⟨0, rfl, Nat.zero_le _, by rw [show tasksTo ts 0 = [] from rfl, List.append_nil], HB.out⟩
        case round =>
          obtain ⟨j, rfl, hj, rfl, hb⟩ := hrel
          have BJ := qh hb
          have lzj := hb.size
          clear hb
          have hm14' : m5 ≤ 14 := by (have := Hrl.out; (try dsimp only at this); omega)
          have htl := tasksTo_len ts j
          by_cases hjm : j < m5
          · obtain ⟨bt, ot, Ax, mx, cx, rfl, lt, ht0, ht1, hcx, hrx⟩ := Hr.out.at_ hjm
            have hjl : j < ts.length := by (have := Hrl.out; (try dsimp only at this); omega)
            obtain ⟨⟨i1, i2⟩, hvo⟩ := Htk.out _ (getD_mem9 hjl)
            have Et := qh (tasksTo_succ hjl)
            have hl2 : (taskT (ts[j]?.getD (0, []))).length ≤ 12 := taskT_len _
            have Etk := qh (show taskT (ts[j]?.getD (0, [])) = [32] ++ decD (ts[j]?.getD (0, [])).1 ++ [58] ++ vecT (ts[j]?.getD (0, [])).2 from rfl)
            try dsimp only at ht0 ht1 hrx
            generalize ts[j]?.getD (0, []) = tj at *
            obtain ⟨tid, txs⟩ := tj
            try dsimp only at ht0 ht1 hrx i1 i2 hvo
            obtain rfl : mx = 3 := by have := hrx.len; have := vecOk_len hvo; omega
            have HX := qh hrx
            have HV := qh hvo
            have Hop2 := qh (show ∀ W : World, Below w1.heap.size w1 W → (W.cell? ⟨gx, 1, none⟩ = some (.slice (some ⟨b, o, none⟩) n2 c2) ∧ W.cell? ⟨b, o + k * 2 + 1, none⟩ = some (.slice (some ⟨bt, ot, none⟩) m5 c5)) ∧ W.cell? ⟨bt, ot + j * 2, none⟩ = some (.int .i64 tid) ∧ W.cell? ⟨bt, ot + j * 2 + 1, none⟩ = some (.slice Ax 3 cx) from fun W hW =>
              ⟨⟨(Hop.out W hW).1, (Hop.out W hW).2.2⟩, (hW.cell (p := ⟨bt, ot + j * 2, none⟩) lt).trans ht0, (hW.cell (p := ⟨bt, ot + j * 2 + 1, none⟩) lt).trans ht1⟩)
            clear hrx hvo ht0 ht1
            have j1 : (0 : Int) ≤ (j : Int) := by omega
            have j2 : (j : Int) < (m5 : Int) := by omega
            have j3 : (0 : Int) ≤ (j : Int) * 2 := by omega
            have w1' : IntKind.i64.wrap ((j : Int) + 1) = (j : Int) + 1 := wr64 (by omega) (by omega)
            have hd2 := (decD_len tid).2
            have hv8 := vecT_len txs
            have a1 : ∀ W, (Op.stringOp .add (bs (v1 ++ tasksTo ts j)) ⟨#[32]⟩).run Tryz.prog W = .ok (.string (bs (v1 ++ tasksTo ts j ++ [32]))) W := add_run (v1 ++ tasksTo ts j) [32] (by rw [List.length_append]; simp; omega)
            have a2 := add_run (v1 ++ tasksTo ts j ++ [32]) (decD tid) (by simp only [List.length_append, List.length_cons, List.length_nil]; omega)
            have a3 : ∀ W, (Op.stringOp .add (bs (v1 ++ tasksTo ts j ++ [32] ++ decD tid)) ⟨#[58]⟩).run Tryz.prog W = .ok (.string (bs (v1 ++ tasksTo ts j ++ [32] ++ decD tid ++ [58]))) W := add_run (v1 ++ tasksTo ts j ++ [32] ++ decD tid) [58] (by simp only [List.length_append, List.length_cons, List.length_nil]; omega)
            have a4 := add_run (v1 ++ tasksTo ts j ++ [32] ++ decD tid ++ [58]) (vecT txs) (by simp only [List.length_append, List.length_cons, List.length_nil]; omega)
            have hfin : v1 ++ tasksTo ts j ++ [32] ++ decD tid ++ [58] ++ vecT txs = v1 ++ tasksTo ts (j + 1) := by rw [Et.out, Etk.out]; simp only [List.append_assoc]
            have HF := qh hfin
            clear hfin
            have HDc := qh (fun W => l6Dec_any tid (by omega) (by omega) W)
            generalize v1 ++ tasksTo ts j ++ [32] ++ decD tid ++ [58] ++ vecT txs = x5 at *
            generalize v1 ++ tasksTo ts j ++ [32] ++ decD tid ++ [58] = x4 at *
            generalize v1 ++ tasksTo ts j ++ [32] ++ decD tid = x3 at *
            generalize v1 ++ tasksTo ts j ++ [32] = x2 at *
            generalize v1 ++ tasksTo ts j = x1 at *
            generalize decD tid = dd at *
            obtain ⟨⟨z1, z2⟩, z3⟩ := Hop2.out wr BJ.out
            go_wp2_with fail
            clear z1 z2 z3
            refine wp_region_mix (.take 0 (.take 1 (.take 2 (.take 3 (.take 4 (.take 5 (.take 6 (.take 7 (.take 8 (.take 9 (.take 10 (.take 11 (.take 15 (.take 16 (.take 17 (.take 18 (.take 19 (.take 20 (.take 21 (.take 22 (.take 23 (.take 24 (.bar 12 (.take 13 (.take 14 (.bar 25 (.take 26 (.take 27 .nil)))))))))))))))))))))))))))) (fun w' => (w'.cell? ⟨gx, 1, none⟩ = some (.slice (some ⟨b, o, none⟩) n2 c2) ∧ w'.cell? ⟨b, o + k * 2 + 1, none⟩ = some (.slice (some ⟨bt, ot, none⟩) m5 c5)) ∧ w'.cell? ⟨bt, ot + j * 2, none⟩ = some (.int .i64 tid) ∧ w'.cell? ⟨bt, ot + j * 2 + 1, none⟩ = some (.slice Ax 3 cx)) (by kernel_rfl) (by kernel_rfl) (Hop2.out _ BJ.out.drew) (fun _ => ?_)
            have U0 := qh BJ.out.drew
            have lzu : w1.heap.size ≤ wr.drew.heap.size := lzj
            generalize wr.drew = u0 at U0 lzu ⊢
            repeat ((first | refine mxS (by rfl) (by rfl) ?_ | (refine mxT (v := ?_) (by rfl) (by rfl) (fun z y => ?_) ?_; rotate_left; (focus ((try dsimp only at y); (go_simp <;> with_reducible rfl); done)))); (try simp only [Act.put,pS,pZ,pC]))
            (refine mxB (by rfl) (fun K hK => ?_); go_simp)
            refine (HDc.out u0).mono ?_; rintro e u1 ⟨rfl, hb⟩
            have U1 := qh (U0.out.trans (hb.mono lzu))
            ((try dsimp only); refine nxK hK _ _ (Hop2.out _ U1.out) ?_; clear hK K; (try simp only [Act.put,pS,pZ,pC]))
            clear hb
            have lzu1 := U1.out.size
            repeat ((first | refine mxS (by rfl) (by rfl) ?_ | (refine mxT (v := ?_) (by rfl) (by rfl) (fun z y => ?_) ?_; rotate_left; (focus ((try dsimp only at y); (go_simp <;> with_reducible rfl); done)))); (try simp only [Act.put,pS,pZ,pC]))
            (refine mxB (by rfl) (fun K hK => ?_); go_simp)
            refine (vecText_any Ax cx txs u1 (HX.out.up U1.out) HV.out).mono ?_; rintro e u2 ⟨rfl, hb⟩
            have U2 := qh (U1.out.trans (hb.mono lzu1))
            ((try dsimp only); refine nxK hK _ _ (Hop2.out _ U2.out) ?_; clear hK K; (try simp only [Act.put,pS,pZ,pC]))
            clear hb
            repeat ((first | refine mxS (by rfl) (by rfl) ?_ | (refine mxT (v := ?_) (by rfl) (by rfl) (fun z y => ?_) ?_; rotate_left; (focus ((try dsimp only at y); (go_simp <;> with_reducible rfl); done)))); (try simp only [Act.put,pS,pZ,pC]))
            refine wpMix_nil ?_
            go_wp2_with fail
            go_roundw
            case measure => simp [intOf]; omega
            case rel => exact ⟨j + 1, by go_num, by omega, by rw [HF.out], U2.out⟩
          · obtain rfl : j = m5 := by omega
            have hl3 : (v1 ++ tasksTo ts j).length ≤ 3000 := by rw [List.length_append]; omega
            have a1 : ∀ W, (Op.stringOp .add (bs (v1 ++ tasksTo ts j)) ⟨#[10]⟩).run Tryz.prog W = .ok (.string (bs (v1 ++ tasksTo ts j ++ [10]))) W := add_run (v1 ++ tasksTo ts j) [10] (by rw [List.length_cons, List.length_nil]; omega)
            have hfin : v1 ++ tasksTo ts j ++ [10] = unitsTo us (k + 1) := by
              have h1 := Eu.out
              have h2 := Hrl.out
              have h3 : headT (true, ts) = wOpen := rfl
              try dsimp only at h1 h2
              rw [Es.out, h1, h2, h3, ← HV1.out]
              simp only [List.append_assoc]
            have HF := qh hfin
            clear hfin hl3
            generalize v1 ++ tasksTo ts j ++ [10] = x2 at *
            generalize v1 ++ tasksTo ts j = x1 at *
            obtain ⟨z1, z2, z3⟩ := Hop.out wr BJ.out
            try dsimp only at z2
            go_wp2_with fail
            go_roundw
            case measure => simp [intOf]; omega
            case rel => exact ⟨k + 1, by go_num, by omega, by rw [← HF.out], BJ.out⟩
    · obtain rfl : k = n2 := by omega
      have Ea := qh (show unitsTo us k = showT us from by unfold unitsTo; rw [List.take_of_length_le (by have := Hl.out; omega)])
      go_wp2_with fail
      go_ret
      exact ⟨by rw [← Ea.out]; rfl, B1.out.trans (HB.out.mono (by omega))⟩
end Go.Proofs.YtdkhdfedejbicaaGreatDoor

namespace Go.Proofs.YtdkhdfedejbicaaGreatDoor
set_option linter.unusedSimpArgs false
set_option linter.unusedVariables false
open Go Go.RowKit
attribute [local go_sem ↓] Go.wp_at_zero Go.wp_at_succ

def strV (l : Bs) : Value := .string (bs l)
theorem string_info : (Tryz.prog.info? 9).map (fun i => (i.zero, i.size, i.bytes)) = some (some (.string ByteArray.empty), 1, 16) := by kernel_rfl
theorem get_list (s : ByteArray) {k : Nat} (h : k < s.size) : s.data.toList[k]?.getD 0 = s[k] := by
  rw [List.getElem?_eq_getElem (by rw [← Lib.size_eq]; exact h)]
  rfl
theorem take_snoc (l : Bs) {j k : Nat} (hj : j ≤ k) (hk : k < l.length) : (l.drop j).take (k + 1 - j) = (l.drop j).take (k - j) ++ [l[k]?.getD 0] := by
  have e : k + 1 - j = (k - j) + 1 := by omega
  have h2 : k - j < (l.drop j).length := by rw [List.length_drop]; omega
  rw [e, List.take_succ_eq_append_getElem h2, List.getElem_drop, List.getElem?_eq_getElem hk]
  simp only [show j + (k - j) = k by omega]
  rfl
theorem drop_at9 (l : Bs) {j k : Nat} (hj : j ≤ k) (hk : k < l.length) : l.drop j = (l.drop j).take (k - j) ++ (l[k]?.getD 0) :: l.drop (k + 1) := by
  have h2 : k - j < (l.drop j).length := by rw [List.length_drop]; omega
  have e := List.take_append_drop (k - j) (l.drop j)
  rw [List.drop_drop, show j + (k - j) = k by omega] at e
  rw [List.getElem?_eq_getElem hk]
  have e2 : l.drop k = l[k] :: l.drop (k + 1) := List.drop_eq_getElem_cons hk
  rw [e2] at e
  exact e.symm
theorem cut_step {l : Bs} {done : List Bs} {c : UInt8} {j k : Nat} (h : cutP c l = done ++ cutP c (l.drop j)) (hn : ∀ x ∈ (l.drop j).take (k - j), x ≠ c) (hj : j ≤ k) (hk : k < l.length) (hc : l[k]?.getD 0 = c) :
    cutP c l = (done ++ [(l.drop j).take (k - j)]) ++ cutP c (l.drop (k + 1)) := by
  have e := drop_at9 l hj hk
  rw [hc] at e
  have e2 := cut_at c (b := l.drop (k + 1)) hn
  rw [← e] at e2
  rw [h, e2, List.append_assoc, List.singleton_append]
theorem cut_last {l : Bs} {done : List Bs} {c : UInt8} {j : Nat} (h : cutP c l = done ++ cutP c (l.drop j)) (hn : ∀ x ∈ (l.drop j).take (l.length - j), x ≠ c) : cutP c l = done ++ [l.drop j] := by
  rw [List.take_of_length_le (by rw [List.length_drop]; omega)] at hn
  rw [h, cut_end c hn]

set_option maxRecDepth 100000 in
set_option maxHeartbeats 3200000 in
theorem l51Cut_any (s : ByteArray) (w : World) (hs : s.size ≤ 1000) :
    Calls Tryz.prog 50 #[.string s] w fun e w' => ∃ A m c, e = .returned (.slice A m c) ∧ w'.ownsRow w.heap.size 9 1 (.slice A m c) m ((cutP 32 s.data.toList).map strV) ∧ Below w.heap.size w w' := by
  obtain ⟨i0, hi0, hz0, hz1, hz2⟩ := info_parts string_info
  have hsl := qh (Lib.size_eq s)
  generalize hl : s.data.toList = l at *
  have HL := qh hl
  clear hl
  have O0 := qh (show (w.alloc (.cells #[] 9)).ownsRow w.heap.size 9 1 (.slice (some ⟨w.heap.size, 0, none⟩) 0 0) 0 (([] : List Bs).map strV) from World.ownsRow_made w #[] 0 (Nat.le_refl _) (by unfold maxLen; omega) rfl)
  have B0 := qh (alloc_up w (.cells #[] 9))
  go_enter Tryz.func50, Tryz.ntmps50
  go_wp2_with fail
  go_loopw [3, 4, 5] (fun v f i wr => ∃ (k j m cc : Nat) (Ab : Option Addr) (done : List Bs), i = .int .i64 (k : Int) ∧ f = .int .i64 (j : Int) ∧ v = .slice Ab m cc ∧ j ≤ k ∧ k ≤ s.size ∧ m ≤ k ∧ wr.ownsRow w.heap.size 9 1 (.slice Ab m cc) m (done.map strV) ∧
    cutP 32 l = done ++ cutP 32 (l.drop j) ∧ (∀ x ∈ (l.drop j).take (k - j), x ≠ 32) ∧ Below w.heap.size w wr) (fun _ _ i _ => s.size - (intOf i).toNat)
  case atStart => exact ⟨0, 0, 0, 0, _, [], rfl, rfl, rfl, Nat.le_refl _, Nat.zero_le _, Nat.le_refl _, O0.out, rfl, fun x hx => by simp at hx, B0.out⟩
  case round =>
    clear O0 B0
    obtain ⟨k, j, m, cc, Ab, done, rfl, rfl, rfl, hj, hk, hm, hO, hc, hn, hb⟩ := hrel
    have HO := qh hO
    have HC := qh hc
    have HN := qh hn
    have HB := qh hb
    have lz := hb.size
    clear hO hc hn hb
    have j1 : (0 : Int) ≤ (j : Int) := by omega
    by_cases hlt : k < s.size
    · have k1 : (0 : Int) ≤ (k : Int) := by omega
      have k2 : (k : Int) < (s.size : Int) := by omega
      have j2 : (j : Int) ≤ (k : Int) := by omega
      have hkl : k < l.length := by have := hsl.out; omega
      have eg := get_list s hlt
      rw [HL.out] at eg
      have w1' : IntKind.i64.wrap ((k : Int) + 1) = (k : Int) + 1 := wr64 (by omega) (by omega)
      by_cases h32 : s[k] = 32
      · have t1 : ((s[k].toNat : Int) == 32) = true := by rw [h32]; rfl
        have hst := cut_step HC.out HN.out hj hkl (by rw [eg, h32])
        have Hst := qh hst
        have hx : s.extract j k = bs ((l.drop j).take (k - j)) := by rw [← bs_of (s.extract j k), Lib.extract_data, HL.out]
        have Hx := qh hx
        have al := alloc_up wr (.cells #[.string (s.extract j k)] 9)
        have O9 := qh (own_up' HO.out al)
        have B9 := qh (HB.out.trans (al.mono lz))
        have S9 := qh (lit1c wr 9 (.string (s.extract j k)))
        have l9 := B9.out.size
        clear al hst hx eg h32
        go_wp2_with (at_builtin; refine wpList_append_src _ rfl _ _ 41 rfl w.heap.size 9 i0 _ 1 16 Tryz.underlying41 hi0 hz0 hz1 hz2 rfl (by omega) (.slice Ab m cc) m _ rfl O9.out (some ⟨wr.heap.size, 0, none⟩) 1 1 [.string (s.extract j k)] rfl S9.out (by simp [Value.oneCell']) (by unfold maxLen; omega) (by omega) l9 ?_; intro v' wn hown6 hgrow6 hat6; obtain ⟨A8, c8, rfl⟩ := own_shape hown6)
        have BF := qh (B9.out.grown hgrow6 l9 (fun a e => (O9.out.lt a e).1))
        have OF := qh hown6
        clear hown6 hgrow6 hat6
        go_wp2_with fail
        go_roundw
        case measure => simp [intOf]; omega
        case rel =>
          refine ⟨k + 1, k + 1, m + 1, c8, A8, done ++ [(l.drop j).take (k - j)], by go_num, by go_num, rfl, Nat.le_refl _, by omega, by omega, ?_, Hst.out, fun x hx => by simp at hx, BF.out⟩
          have := OF.out
          rw [Hx.out] at this
          rw [List.map_append]
          exact this
      · have t1 : ((s[k].toNat : Int) == 32) = false := by
          have : s[k].toNat ≠ 32 := fun e => h32 (UInt8.toNat_inj.1 (by rw [e]; rfl))
          simp; omega
        have Hn := qh (show ∀ x ∈ (l.drop j).take (k + 1 - j), x ≠ 32 from by
          rw [take_snoc l hj hkl]
          intro x hx
          rcases List.mem_append.1 hx with hx | hx
          · exact HN.out x hx
          · rw [List.mem_singleton] at hx; rw [hx, eg]; exact h32)
        clear eg h32
        go_wp2_with fail
        go_roundw
        case measure => simp [intOf]; omega
        case rel => exact ⟨k + 1, j, m, cc, Ab, done, by go_num, rfl, rfl, by omega, by omega, by omega, HO.out, HC.out, Hn.out, HB.out⟩
    · obtain rfl : k = s.size := by omega
      have Hst := qh (cut_last HC.out (by rw [← hsl.out]; exact HN.out))
      have hx : s.extract j s.size = bs (l.drop j) := by rw [← bs_of (s.extract j s.size), Lib.extract_to_end, HL.out]
      have Hx := qh hx
      have j2 : (j : Int) ≤ (s.size : Int) := by omega
      have al := alloc_up wr (.cells #[.string (s.extract j s.size)] 9)
      have O9 := qh (own_up' HO.out al)
      have B9 := qh (HB.out.trans (al.mono lz))
      have S9 := qh (lit1c wr 9 (.string (s.extract j s.size)))
      have l9 := B9.out.size
      clear al hx
      go_wp2_with (at_builtin; refine wpList_append_src _ rfl _ _ 41 rfl w.heap.size 9 i0 _ 1 16 Tryz.underlying41 hi0 hz0 hz1 hz2 rfl (by omega) (.slice Ab m cc) m _ rfl O9.out (some ⟨wr.heap.size, 0, none⟩) 1 1 [.string (s.extract j s.size)] rfl S9.out (by simp [Value.oneCell']) (by unfold maxLen; omega) (by omega) l9 ?_; intro v' wn hown6 hgrow6 hat6; obtain ⟨A8, c8, rfl⟩ := own_shape hown6)
      have BF := qh (B9.out.grown hgrow6 l9 (fun a e => (O9.out.lt a e).1))
      have OF := qh hown6
      clear hown6 hgrow6 hat6
      try go_wp2_with fail
      go_ret
      refine ⟨A8, m + 1, c8, rfl, ?_, BF.out⟩
      have := OF.out
      rw [Hx.out] at this
      rw [Hst.out, List.map_append]
      exact this
end Go.Proofs.YtdkhdfedejbicaaGreatDoor

namespace Go.Proofs.YtdkhdfedejbicaaGreatDoor
set_option linter.unusedSimpArgs false
set_option linter.unusedVariables false
open Go Go.RowKit
attribute [local go_sem ↓] Go.wp_at_zero Go.wp_at_succ

def RdS (w : World) (B : Nat) (A : Option Addr) (n : Nat) (ss : List Bs) : Prop :=
  ss.length = n ∧ n ≤ 9223372036854775807 ∧ (0 < n → ∃ b o, A = some ⟨b, o, none⟩ ∧ b < B ∧ ∀ j, j < n → w.cell? ⟨b, o + j, none⟩ = some (.string (bs (ss[j]?.getD []))))
section
variable {w w' : World} {B n k : Nat} {A : Option Addr} {ss : List Bs}
theorem RdS.len (h : RdS w B A n ss) : ss.length = n := h.1
theorem RdS.at_ (h : RdS w B A n ss) (hk : k < n) : ∃ b o, A = some ⟨b, o, none⟩ ∧ b < B ∧ w.cell? ⟨b, o + k, none⟩ = some (.string (bs (ss[k]?.getD []))) := by
  obtain ⟨b, o, e, hb, hc⟩ := h.2.2 (by omega)
  exact ⟨b, o, e, hb, hc k hk⟩
theorem RdS.up (h : RdS w w.heap.size A n ss) (hb : Below w.heap.size w w') : RdS w' w'.heap.size A n ss := by
  refine ⟨h.1, h.2.1, fun hp => ?_⟩
  obtain ⟨b, o, e, hl, hc⟩ := h.2.2 hp
  exact ⟨b, o, e, by have := hb.size; omega, fun j hj => (hb.cell (p := ⟨b, o + j, none⟩) hl).trans (hc j hj)⟩
theorem RdS.of_own {base c : Nat} (h : w.ownsRow base 9 1 (.slice A n c) n (ss.map strV)) (hn : n ≤ 9223372036854775807) : RdS w w.heap.size A n ss := by
  have hl : ss.length = n := by have := h.1; simpa using this
  refine ⟨hl, hn, fun hp => ?_⟩
  obtain ⟨g, cap, hv, _, hlt⟩ := h.form hp
  have hA : A = some ⟨g, 0, none⟩ := by injection hv
  subst hA
  refine ⟨g, 0, rfl, hlt, fun j hj => ?_⟩
  have e := h.cells (g := g) rfl j (.string (bs (ss[j]?.getD []))) (by
    rw [List.getElem?_map, List.getElem?_eq_getElem (by omega)]; rfl)
  rw [addr_add] at e
  exact e
end
theorem num_len {w : Bs} (h : ¬ (1 ≤ w.length ∧ w.length ≤ 2)) : numP w = none := by
  unfold numP wordOk
  rw [decide_eq_false h]; rfl
theorem num_zero {w : Bs} (h2 : w.length = 2) (h : w[0]?.getD 0 = 48) : numP w = none := by
  unfold numP wordOk
  rw [h, h2]; rfl
theorem num_dig {w : Bs} {k : Nat} (hk : k < w.length) (h : isDig (w[k]?.getD 0) = false) : numP w = none := by
  unfold numP
  have : w.all isDig = false := by
    rw [List.all_eq_false]
    refine ⟨w[k], List.getElem_mem hk, ?_⟩
    rw [List.getElem?_eq_getElem hk] at h
    simpa using h
  rw [this, Bool.and_false]; rfl
theorem num_some {w : Bs} (h1 : 1 ≤ w.length ∧ w.length ≤ 2) (h2 : ¬ (w.length = 2 ∧ w[0]?.getD 0 = 48)) (h : ∀ x ∈ w, isDig x = true) : numP w = some (numV w) := by
  unfold numP wordOk
  have e1 : decide (1 ≤ w.length ∧ w.length ≤ 2) = true := decide_eq_true h1
  have e2 : (decide (w.length = 2) && decide (w[0]?.getD 0 = 48)) = false := by
    rw [Bool.and_eq_false_iff]
    by_cases h3 : w.length = 2
    · exact .inr (decide_eq_false (fun h4 => h2 ⟨h3, h4⟩))
    · exact .inl (decide_eq_false h3)
  rw [e1, e2, List.all_eq_true.2 h]; rfl
theorem numV_snoc (w : Bs) (b : UInt8) : numV (w ++ [b]) = 10 * numV w + digV b := by unfold numV; rw [List.foldl_append]; rfl
theorem numV_bd : ∀ (w : Bs), w.length ≤ 2 → (∀ x ∈ w, isDig x = true) → 0 ≤ numV w ∧ numV w ≤ 99
  | [], _, _ => by decide
  | [a], _, h => by
    have := h a (by simp)
    simp only [isDig, decide_eq_true_eq] at this
    simp only [numV, List.foldl_cons, List.foldl_nil, digV]; omega
  | [a, b], _, h => by
    have h1 := h a (by simp)
    have h2 := h b (by simp)
    simp only [isDig, decide_eq_true_eq] at h1 h2
    simp only [numV, List.foldl_cons, List.foldl_nil, digV]; omega
theorem take_snoc0 (l : Bs) {k : Nat} (hk : k < l.length) : l.take (k + 1) = l.take k ++ [l[k]?.getD 0] := by
  rw [List.take_succ_eq_append_getElem hk, List.getElem?_eq_getElem hk]; rfl
def NumsRet (ws : List Bs) (b : Value) (ns : List Int) : Prop := (b = .bool true ∧ numsP ws.tail = some ns) ∨ (b = .bool false ∧ numsP ws.tail = none ∧ ns = [])

set_option maxRecDepth 100000 in
set_option maxHeartbeats 6400000 in
theorem l51Numbers_any (A : Option Addr) (n c : Nat) (ws : List Bs) (w : World) (h : RdS w w.heap.size A n ws) (hn1 : 1 ≤ n) (hn : n ≤ 1000) :
    Calls Tryz.prog 51 #[.slice A n c] w fun e w' => ∃ A' m c' ns b, e = .returned (.tuple #[.slice A' m c', b]) ∧ w'.ownsRow w.heap.size 3 1 (.slice A' m c') m (ns.map (Value.int .i64)) ∧ NumsRet ws b ns ∧ Below w.heap.size w w' := by
  obtain ⟨i0, hi0, hz0, hz1, hz2⟩ := info_parts ownI_info
  have H := qh h
  have Hl := qh h.len
  clear h
  have O0 := qh (show (w.alloc (.cells #[] 3)).ownsRow w.heap.size 3 1 (.slice (some ⟨w.heap.size, 0, none⟩) 0 0) 0 (([] : List Int).map (Value.int .i64)) from World.ownsRow_made w #[] 0 (Nat.le_refl _) (by unfold maxLen; omega) rfl)
  have B0 := qh (alloc_up w (.cells #[] 3))
  have bad : ∀ W : World, Below w.heap.size w W → (W.alloc (.cells #[] 3)).ownsRow w.heap.size 3 1 (.slice (some ⟨W.heap.size, 0, none⟩) 0 0) 0 (([] : List Int).map (Value.int .i64)) ∧ Below w.heap.size w (W.alloc (.cells #[] 3)) := fun W hW =>
    ⟨World.ownsRow_made W #[] 0 hW.size (by unfold maxLen; omega) rfl, hW.alloc hW.size _⟩
  have Bad := qh bad
  clear bad
  go_enter Tryz.func51, Tryz.ntmps51
  go_wp2_with fail
  go_loopw [4, 5] (fun v i wr => ∃ (k m cc : Nat) (Ab : Option Addr) (ns : List Int), i = .int .i64 (k : Int) ∧ 1 ≤ k ∧ k ≤ n ∧ v = .slice Ab m cc ∧ m ≤ k ∧ wr.ownsRow w.heap.size 3 1 (.slice Ab m cc) m (ns.map (Value.int .i64)) ∧ numsP ((ws.drop 1).take (k - 1)) = some ns ∧ Below w.heap.size w wr) (fun _ i _ => n - (intOf i).toNat)
  case atStart => exact ⟨1, 0, 0, _, [], rfl, Nat.le_refl _, hn1, rfl, by omega, O0.out, rfl, B0.out⟩
  case round =>
    clear O0 B0
    obtain ⟨k, m, cc, Ab, ns, rfl, hk1, hk, rfl, hm, hO, hns, hb⟩ := hrel
    obtain ⟨wo, rfl⟩ : ∃ wo, wo = wr := ⟨_, rfl⟩
    have HO := qh hO
    have HN := qh hns
    have HB := qh hb
    have lz := hb.size
    clear hO hns hb
    by_cases hlt : k < n
    · obtain ⟨b, o, rfl, lb, hc⟩ := (H.out.up HB.out).at_ hlt
      have k1 : (0 : Int) ≤ (k : Int) := by omega
      have k2 : (k : Int) < (n : Int) := by omega
      have w1' : IntKind.i64.wrap ((k : Int) + 1) = (k : Int) + 1 := wr64 (by omega) (by omega)
      have hmem : ws[k]?.getD [] ∈ ws.drop 1 := by
        rw [List.getElem?_eq_getElem (by have := Hl.out; omega)]
        refine List.mem_of_getElem? (i := k - 1) ?_
        rw [List.getElem?_drop, show 1 + (k - 1) = k by omega, List.getElem?_eq_getElem (by have := Hl.out; omega)]
        rfl
      have Hnone := qh (fun (hN : numP (ws[k]?.getD []) = none) => (show numsP ws.tail = none from by
        rw [← List.drop_one]; exact nums_bad hmem hN))
      have Hsome := qh (fun (x : Int) (hN : numP (ws[k]?.getD []) = some x) => (show numsP ((ws.drop 1).take (k + 1 - 1)) = some (ns ++ [x]) from by
        have e : (ws.drop 1).take (k + 1 - 1) = (ws.drop 1).take (k - 1) ++ [ws[k]?.getD []] := by
          have h2 : k - 1 < (ws.drop 1).length := by rw [List.length_drop]; have := Hl.out; omega
          rw [show k + 1 - 1 = (k - 1) + 1 by omega, List.take_succ_eq_append_getElem h2, List.getElem_drop, List.getElem?_eq_getElem (by have := Hl.out; omega)]
          simp only [show 1 + (k - 1) = k by omega]
          rfl
        rw [e]; exact nums_snoc HN.out hN))
      clear hmem
      generalize ws[k]?.getD [] = wd at *
      have hsz := bs_size wd
      have HL := qh (bs_list wd)
      have hg : ∀ (q : Nat) (hq : q < (bs wd).size), (bs wd)[q] = wd[q]?.getD 0 := fun q hq => by have := get_list (bs wd) hq; rw [bs_list] at this; exact this.symm
      have Hg := qh hg
      have Hsz := qh hsz
      clear hg hsz
      generalize hsb : bs wd = s at *
      have Hsb := qh hsb
      clear hsb
      by_cases hq : 1 ≤ wd.length ∧ wd.length ≤ 2
      · have hin : inR 1 2 (s.size : Int) = true := inR_iff.2 (by have := Hsz.out; omega)
        have hz0' : (0 : Int) < (s.size : Int) := by have := Hsz.out; omega
        have hz0n : 0 < s.size := by have := Hsz.out; omega
        have e0 := Hg.out 0 hz0n
        by_cases hz : wd.length = 2 ∧ wd[0]?.getD 0 = 48
        · have NN := qh (num_zero hz.1 hz.2)
          have t1 : ((s.size : Int) == 2) = true := by have := Hsz.out; simp; omega
          have t2 : ((s[0].toNat : Int) == 48) = true := by rw [e0, hz.2]; rfl
          clear e0 hz
          go_wp2_with (go_at_call 49; refine (l6In_any _ _ _ _).mono ?_; rintro e w' ⟨rfl, rfl⟩; rw [hin])
          refine bodyPost_ret (v := .tuple #[.slice (some ⟨wo.heap.size, 0, none⟩) 0 0, .bool false]) (by simp [results, Tryz.results51, go_sem]) rfl ⟨_, 0, 0, [], _, rfl, (Bad.out wo HB.out).1, .inr ⟨rfl, Hnone.out NN.out, rfl⟩, (Bad.out wo HB.out).2⟩
        · by_cases h2 : wd.length = 2
          · have t1 : ((s.size : Int) == 2) = true := by have := Hsz.out; simp; omega
            have t2 : ((s[0].toNat : Int) == 48) = false := by
              have h4 : s[0] ≠ 48 := fun e => hz ⟨h2, by rw [← e0]; exact e⟩
              have h5 : s[0].toNat ≠ 48 := fun e => h4 (UInt8.toNat_inj.1 (by rw [e]; rfl))
              simp; omega
            clear e0 h2
            go_wp2_with (go_at_call 49; refine (l6In_any _ _ _ _).mono ?_; rintro e w' ⟨rfl, rfl⟩; rw [hin])
            clear t1 t2 hin
            go_loopw [7, 8] (fun v i wr => ∃ q : Nat, i = .int .i64 (q : Int) ∧ q ≤ s.size ∧ v = .int .i64 (numV (wd.take q)) ∧ (∀ x ∈ wd.take q, isDig x = true) ∧ wr = wo) (fun _ i _ => s.size - (intOf i).toNat)
            case atStart => exact ⟨0, rfl, Nat.zero_le _, rfl, fun x hx => by simp at hx, rfl⟩
            case round =>
              obtain ⟨q, rfl, hq9, rfl, hdig, rfl⟩ := hrel
              have HD := qh hdig
              clear hdig
              by_cases hql : q < s.size
              · have q1 : (0 : Int) ≤ (q : Int) := by omega
                have q2 : (q : Int) < (s.size : Int) := by omega
                have hqw : q < wd.length := by have := Hsz.out; omega
                have eg := Hg.out q hql
                have hnb := numV_bd (wd.take q) (by rw [List.length_take]; omega) HD.out
                have Hdg := qh (fun (hN : isDig (wd[q]?.getD 0) = false) => num_dig hqw hN)
                have Hsn := qh (show wd.take (q + 1) = wd.take q ++ [wd[q]?.getD 0] from take_snoc0 wd hqw)
                rw [← eg] at Hdg Hsn
                have hb0 : s[q].toNat < 256 := UInt8.toNat_lt _
                by_cases hlo : s[q].toNat < 48
                · have NN := qh (Hdg.out (by unfold isDig; exact decide_eq_false (by omega)))
                  have t1 : (s[q].toNat : Int) < 48 := by omega
                  clear Hdg Hsn eg
                  go_wp2_with fail
                  refine bodyPost_ret (v := .tuple #[.slice (some ⟨wr.heap.size, 0, none⟩) 0 0, .bool false]) (by simp [results, Tryz.results51, go_sem]) rfl ⟨_, 0, 0, [], _, rfl, (Bad.out wr HB.out).1, .inr ⟨rfl, Hnone.out NN.out, rfl⟩, (Bad.out wr HB.out).2⟩
                · by_cases hhi : 57 < s[q].toNat
                  · have NN := qh (Hdg.out (by unfold isDig; exact decide_eq_false (by omega)))
                    have t1 : ¬ (s[q].toNat : Int) < 48 := by omega
                    have t2 : (57 : Int) < (s[q].toNat : Int) := by omega
                    clear Hdg Hsn eg
                    go_wp2_with fail
                    refine bodyPost_ret (v := .tuple #[.slice (some ⟨wr.heap.size, 0, none⟩) 0 0, .bool false]) (by simp [results, Tryz.results51, go_sem]) rfl ⟨_, 0, 0, [], _, rfl, (Bad.out wr HB.out).1, .inr ⟨rfl, Hnone.out NN.out, rfl⟩, (Bad.out wr HB.out).2⟩
                  · have t1 : ¬ (s[q].toNat : Int) < 48 := by omega
                    have t2 : ¬ (57 : Int) < (s[q].toNat : Int) := by omega
                    have hdq : isDig s[q] = true := by unfold isDig; exact decide_eq_true (by omega)
                    have Hd2 := qh (show ∀ x ∈ wd.take (q + 1), isDig x = true from by
                      rw [Hsn.out]
                      intro x hx
                      rcases List.mem_append.1 hx with hx | hx
                      · exact HD.out x hx
                      · rw [List.mem_singleton] at hx; rw [hx]; exact hdq)
                    have Hnv := qh (show numV (wd.take (q + 1)) = 10 * numV (wd.take q) + ((s[q].toNat : Int) - 48) from by rw [Hsn.out, numV_snoc]; rfl)
                    have u1 : IntKind.u8.wrap ((s[q].toNat : Int) - 48) = (s[q].toNat : Int) - 48 := by rw [IntKind.wrap_u8]; omega
                    have u2 : IntKind.i64.wrap (10 * numV (wd.take q)) = 10 * numV (wd.take q) := wr64 (by omega) (by omega)
                    have u3 : IntKind.i64.wrap ((s[q].toNat : Int) - 48) = (s[q].toNat : Int) - 48 := wr64 (by omega) (by omega)
                    have u4 : IntKind.i64.wrap (10 * numV (wd.take q) + ((s[q].toNat : Int) - 48)) = 10 * numV (wd.take q) + ((s[q].toNat : Int) - 48) := wr64 (by omega) (by omega)
                    have u5 : IntKind.i64.wrap ((q : Int) + 1) = (q : Int) + 1 := wr64 (by omega) (by omega)
                    clear Hdg Hsn eg hdq
                    generalize numV (wd.take q) = nv at *
                    go_wp2_with fail
                    go_roundw
                    case measure => simp [intOf]; omega
                    case rel => exact ⟨q + 1, by go_num, by omega, by rw [Hnv.out], Hd2.out, trivial⟩
              · obtain rfl : q = s.size := by omega
                have et : wd.take s.size = wd := List.take_of_length_le (by have := Hsz.out; omega)
                rw [et] at HD ⊢
                have Nx := qh (Hsome.out (numV wd) (num_some hq hz HD.out))
                have al := alloc_up wr (.cells #[.int .i64 (numV wd)] 3)
                have O9 := qh (own_up' HO.out al)
                have B9 := qh (HB.out.trans (al.mono lz))
                have S9 := qh (lit1c wr 3 (.int .i64 (numV wd)))
                have l9 := B9.out.size
                clear al et
                go_wp2_with (at_builtin; refine wpList_append_src _ rfl _ _ 32 rfl w.heap.size 3 i0 _ 1 8 Tryz.underlying32 hi0 hz0 hz1 hz2 rfl (by omega) (.slice Ab m cc) m _ rfl O9.out (some ⟨wr.heap.size, 0, none⟩) 1 1 [.int .i64 (numV wd)] rfl S9.out (by simp [Value.oneCell']) (by unfold maxLen; omega) (by omega) l9 ?_; intro v' wn hown6 hgrow6 hat6; obtain ⟨A8, c8, rfl⟩ := own_shape hown6)
                have BF := qh (B9.out.grown hgrow6 l9 (fun a e => (O9.out.lt a e).1))
                have OF := qh hown6
                clear hown6 hgrow6 hat6
                go_wp2_with fail
                go_roundw
                case measure => simp [intOf]; omega
                case rel => exact ⟨k + 1, m + 1, c8, A8, ns ++ [numV wd], by go_num, by omega, by omega, rfl, by omega, by rw [List.map_append]; exact OF.out, Nx.out, BF.out⟩

          · have t1 : ((s.size : Int) == 2) = false := by have := Hsz.out; simp; omega
            clear e0 h2
            go_wp2_with (go_at_call 49; refine (l6In_any _ _ _ _).mono ?_; rintro e w' ⟨rfl, rfl⟩; rw [hin])
            clear t1 hin
            go_loopw [7, 8] (fun v i wr => ∃ q : Nat, i = .int .i64 (q : Int) ∧ q ≤ s.size ∧ v = .int .i64 (numV (wd.take q)) ∧ (∀ x ∈ wd.take q, isDig x = true) ∧ wr = wo) (fun _ i _ => s.size - (intOf i).toNat)
            case atStart => exact ⟨0, rfl, Nat.zero_le _, rfl, fun x hx => by simp at hx, rfl⟩
            case round =>
              obtain ⟨q, rfl, hq9, rfl, hdig, rfl⟩ := hrel
              have HD := qh hdig
              clear hdig
              by_cases hql : q < s.size
              · have q1 : (0 : Int) ≤ (q : Int) := by omega
                have q2 : (q : Int) < (s.size : Int) := by omega
                have hqw : q < wd.length := by have := Hsz.out; omega
                have eg := Hg.out q hql
                have hnb := numV_bd (wd.take q) (by rw [List.length_take]; omega) HD.out
                have Hdg := qh (fun (hN : isDig (wd[q]?.getD 0) = false) => num_dig hqw hN)
                have Hsn := qh (show wd.take (q + 1) = wd.take q ++ [wd[q]?.getD 0] from take_snoc0 wd hqw)
                rw [← eg] at Hdg Hsn
                have hb0 : s[q].toNat < 256 := UInt8.toNat_lt _
                by_cases hlo : s[q].toNat < 48
                · have NN := qh (Hdg.out (by unfold isDig; exact decide_eq_false (by omega)))
                  have t1 : (s[q].toNat : Int) < 48 := by omega
                  clear Hdg Hsn eg
                  go_wp2_with fail
                  refine bodyPost_ret (v := .tuple #[.slice (some ⟨wr.heap.size, 0, none⟩) 0 0, .bool false]) (by simp [results, Tryz.results51, go_sem]) rfl ⟨_, 0, 0, [], _, rfl, (Bad.out wr HB.out).1, .inr ⟨rfl, Hnone.out NN.out, rfl⟩, (Bad.out wr HB.out).2⟩
                · by_cases hhi : 57 < s[q].toNat
                  · have NN := qh (Hdg.out (by unfold isDig; exact decide_eq_false (by omega)))
                    have t1 : ¬ (s[q].toNat : Int) < 48 := by omega
                    have t2 : (57 : Int) < (s[q].toNat : Int) := by omega
                    clear Hdg Hsn eg
                    go_wp2_with fail
                    refine bodyPost_ret (v := .tuple #[.slice (some ⟨wr.heap.size, 0, none⟩) 0 0, .bool false]) (by simp [results, Tryz.results51, go_sem]) rfl ⟨_, 0, 0, [], _, rfl, (Bad.out wr HB.out).1, .inr ⟨rfl, Hnone.out NN.out, rfl⟩, (Bad.out wr HB.out).2⟩
                  · have t1 : ¬ (s[q].toNat : Int) < 48 := by omega
                    have t2 : ¬ (57 : Int) < (s[q].toNat : Int) := by omega
                    have hdq : isDig s[q] = true := by unfold isDig; exact decide_eq_true (by omega)
                    have Hd2 := qh (show ∀ x ∈ wd.take (q + 1), isDig x = true from by
                      rw [Hsn.out]
                      intro x hx
                      rcases List.mem_append.1 hx with hx | hx
                      · exact HD.out x hx
                      · rw [List.mem_singleton] at hx; rw [hx]; exact hdq)
                    have Hnv := qh (show numV (wd.take (q + 1)) = 10 * numV (wd.take q) + ((s[q].toNat : Int) - 48) from by rw [Hsn.out, numV_snoc]; rfl)
                    have u1 : IntKind.u8.wrap ((s[q].toNat : Int) - 48) = (s[q].toNat : Int) - 48 := by rw [IntKind.wrap_u8]; omega
                    have u2 : IntKind.i64.wrap (10 * numV (wd.take q)) = 10 * numV (wd.take q) := wr64 (by omega) (by omega)
                    have u3 : IntKind.i64.wrap ((s[q].toNat : Int) - 48) = (s[q].toNat : Int) - 48 := wr64 (by omega) (by omega)
                    have u4 : IntKind.i64.wrap (10 * numV (wd.take q) + ((s[q].toNat : Int) - 48)) = 10 * numV (wd.take q) + ((s[q].toNat : Int) - 48) := wr64 (by omega) (by omega)
                    have u5 : IntKind.i64.wrap ((q : Int) + 1) = (q : Int) + 1 := wr64 (by omega) (by omega)
                    clear Hdg Hsn eg hdq
                    generalize numV (wd.take q) = nv at *
                    go_wp2_with fail
                    go_roundw
                    case measure => simp [intOf]; omega
                    case rel => exact ⟨q + 1, by go_num, by omega, by rw [Hnv.out], Hd2.out, trivial⟩
              · obtain rfl : q = s.size := by omega
                have et : wd.take s.size = wd := List.take_of_length_le (by have := Hsz.out; omega)
                rw [et] at HD ⊢
                have Nx := qh (Hsome.out (numV wd) (num_some hq hz HD.out))
                have al := alloc_up wr (.cells #[.int .i64 (numV wd)] 3)
                have O9 := qh (own_up' HO.out al)
                have B9 := qh (HB.out.trans (al.mono lz))
                have S9 := qh (lit1c wr 3 (.int .i64 (numV wd)))
                have l9 := B9.out.size
                clear al et
                go_wp2_with (at_builtin; refine wpList_append_src _ rfl _ _ 32 rfl w.heap.size 3 i0 _ 1 8 Tryz.underlying32 hi0 hz0 hz1 hz2 rfl (by omega) (.slice Ab m cc) m _ rfl O9.out (some ⟨wr.heap.size, 0, none⟩) 1 1 [.int .i64 (numV wd)] rfl S9.out (by simp [Value.oneCell']) (by unfold maxLen; omega) (by omega) l9 ?_; intro v' wn hown6 hgrow6 hat6; obtain ⟨A8, c8, rfl⟩ := own_shape hown6)
                have BF := qh (B9.out.grown hgrow6 l9 (fun a e => (O9.out.lt a e).1))
                have OF := qh hown6
                clear hown6 hgrow6 hat6
                go_wp2_with fail
                go_roundw
                case measure => simp [intOf]; omega
                case rel => exact ⟨k + 1, m + 1, c8, A8, ns ++ [numV wd], by go_num, by omega, by omega, rfl, by omega, by rw [List.map_append]; exact OF.out, Nx.out, BF.out⟩

      · have hin : inR 1 2 (s.size : Int) = false := by
          rw [← Bool.not_eq_true]; intro h; have := inR_iff.1 h; have := Hsz.out; omega
        have NN := qh (num_len hq)
        go_wp2_with (go_at_call 49; refine (l6In_any _ _ _ _).mono ?_; rintro e w' ⟨rfl, rfl⟩; rw [hin])
        refine bodyPost_ret (v := .tuple #[.slice (some ⟨wo.heap.size, 0, none⟩) 0 0, .bool false]) (by simp [results, Tryz.results51, go_sem]) rfl ⟨_, 0, 0, [], _, rfl, (Bad.out wo HB.out).1, .inr ⟨rfl, Hnone.out NN.out, rfl⟩, (Bad.out wo HB.out).2⟩
    · obtain rfl : k = n := by omega
      have Hns := qh (show NumsRet ws (.bool true) ns from .inl ⟨rfl, by have := HN.out; rw [List.drop_one, List.take_of_length_le (by rw [List.length_tail]; have := Hl.out; omega)] at this; exact this⟩)
      go_wp2_with fail
      refine bodyPost_ret (v := .tuple #[.slice Ab m cc, .bool true]) (by simp [results, Tryz.results51, go_sem]) rfl ⟨Ab, m, cc, ns, _, rfl, HO.out, Hns.out, HB.out⟩
end Go.Proofs.YtdkhdfedejbicaaGreatDoor
