/- The walk of the law FnEvict. -/
import Derived.Test.YtkcflajhmekcaaaGreatEvictLawPure
import Derived.Test.YtkcflajhmekcaaaGreatEvictRankLaw
namespace Go.Proofs.YtkcflajhmekcaaaGreat
open Go Go.RowKit
attribute [local go_sem ↓] Go.wp_at_zero Go.wp_at_succ

/-- An append that a guard has let through. -/
theorem wpList_append_srcG {P : Program} {w : World} {ops : Array Oper} {rest : List Oper} {o : Oper} {a : Act} {Q : Exit → Act → World → Prop} (hgd : Region.wanted o (yielded ops a.tmps) = true) (s x : Operand) (t : TypeId)
    (ho : o.op = .call { callee := .builtin .append, args := #[s, x], argTypes := #[t, t] })
    (base : Nat) (e : TypeId) (i : TypeInfo) (z : Value) (size bytes : Nat) (ht : P.underlying t = some (.slice e)) (hi : P.info? e = some i) (hz : i.zero = some z)
    (hsize : i.size = size) (hby : i.bytes = bytes) (hzs : z.cells.size = size) (hsz : 0 < size)
    (v : Value) (n : Nat) (xs : List Value) (hs : a.eval s = v) (hown : w.ownsRow base e size v n xs)
    (A : Option Addr) (m c : Nat) (news : List Value) (hx : a.eval x = .slice A m c) (hr : Src w size A m news) (h1 : ∀ u ∈ news, u.oneCell' = true)
    (h63 : n + m ≤ maxLen) (hbytes : (n + m) * bytes ≤ 140737488355328) (hbase : base ≤ w.heap.size)
    (h : ∀ v' w', w'.ownsRow base e size v' (n + m) (xs ++ news) → w.grownBy w' v.ownBlock → (v'.ownBlock = v.ownBlock ∨ v'.ownBlock = some w.heap.size) → wpList P ops Q rest (a.put o.dst v') w') : wpList P ops Q (o :: rest) a w :=
  wpList_step fun K hK => by
    rw [if_pos hgd]
    exact wp_append_src w s x t ho base e i z size bytes ht hi hz hsize hby hzs hsz v n xs hs hown A m c news hx hr h1 h63 hbytes hbase fun v' w' h2 h3 h4 => hK _ _ (h v' w' h2 h3 h4)

/-- Where in the list one who leaves stands. -/
theorem listG_idx {g : Nat → Bool} {n i : Nat} (hi : i < n) : (g i = true → (listG g i).length < (listG g n).length ∧ (listG g n)[(listG g i).length]?.getD 0 = (i : Int)) ∧
    (g i = false → ¬ ((listG g i).length < (listG g n).length ∧ (listG g n)[(listG g i).length]?.getD 0 = (i : Int))) := by
  have hsp : ∀ d, ∃ l : List Int, listG g (i + 1 + d) = listG g (i + 1) ++ l ∧ ∀ x ∈ l, (i : Int) < x := by
    intro d
    induction d with
    | zero => exact ⟨[], by simp, by simp⟩
    | succ d ih =>
      obtain ⟨l, h1, h2⟩ := ih
      refine ⟨l ++ (if g (i + 1 + d) = true then [((i + 1 + d : Nat) : Int)] else []), ?_, ?_⟩
      · rw [← Nat.add_assoc, listG_succ, h1, List.append_assoc]
      · intro x hx
        rcases List.mem_append.1 hx with hx | hx
        · exact h2 x hx
        · split at hx
          · simp only [List.mem_singleton] at hx; omega
          · cases hx
  obtain ⟨l, h1, h2⟩ := hsp (n - (i + 1))
  rw [show i + 1 + (n - (i + 1)) = n by omega, listG_succ] at h1
  constructor
  · intro hg
    rw [hg, if_pos rfl] at h1
    rw [h1]
    refine ⟨by simp, ?_⟩
    rw [List.append_assoc, List.getElem?_append_right (Nat.le_refl _), Nat.sub_self]
    rfl
  · intro hg
    rw [hg, if_neg (by simp), List.append_nil] at h1
    rw [h1]
    rintro ⟨h3, h4⟩
    rw [List.getElem?_append_right (Nat.le_refl _), Nat.sub_self] at h4
    cases l with
    | nil => simp at h3
    | cons x l =>
      have := h2 x (by simp)
      simp at h4
      omega



end Go.Proofs.YtkcflajhmekcaaaGreat
