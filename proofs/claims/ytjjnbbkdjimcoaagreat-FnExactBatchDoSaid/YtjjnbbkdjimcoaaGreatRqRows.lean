/- Words for memory: rows of requests of the call's own; parts of a row; results as the laws read them. -/
import Derived.Test.YtjjnbbkdjimcoaaGreatRqDoS
namespace Go.Proofs.YtjjnbbkdjimcoaaGreat
set_option linter.unusedSimpArgs false
set_option linter.unusedVariables false
open Go Go.RowKit
/-- The zero request. -/
abbrev rq0 : Rq := ⟨0, 0, [], false, 0⟩
/-- The cells of requests, whose needs fulfil P. -/
def RqCells (P : Option Addr → Nat → List Int → Prop) (vs : List Value) (rs : List Rq) : Prop :=
  vs.length = rs.length * 5 ∧ ∀ j, j < rs.length → ∃ A m c, vs[j * 5]? = some (.int .i64 (rs[j]?.getD rq0).kind) ∧ vs[j * 5 + 1]? = some (.int .i64 (rs[j]?.getD rq0).id) ∧ vs[j * 5 + 2]? = some (.slice A m c) ∧
    vs[j * 5 + 3]? = some (.bool (rs[j]?.getD rq0).grant) ∧ vs[j * 5 + 4]? = some (.int .i64 (rs[j]?.getD rq0).num) ∧ m ≤ c ∧ P A m (rs[j]?.getD rq0).xs
section
variable {P P' : Option Addr → Nat → List Int → Prop} {vs : List Value} {rs : List Rq} {w w' : World} {B n : Nat}
theorem RqCells.nil : RqCells P [] [] := ⟨rfl, fun j hj => by simp at hj⟩
theorem RqCells.imp (h : RqCells P vs rs) (hp : ∀ A m xs, P A m xs → P' A m xs) : RqCells P' vs rs := ⟨h.1, fun j hj => by
  obtain ⟨A, m, c, h0, h1, h2, h3, h4, h5, h6⟩ := h.2 j hj
  exact ⟨A, m, c, h0, h1, h2, h3, h4, h5, hp _ _ _ h6⟩⟩
theorem RqCells.snoc {r : Rq} {A : Option Addr} {m c : Nat} (h : RqCells P vs rs) (hc : m ≤ c) (hp : P A m r.xs) : RqCells P (vs ++ [.int .i64 r.kind, .int .i64 r.id, .slice A m c, .bool r.grant, .int .i64 r.num]) (rs ++ [r]) := by
  have hl := h.1
  refine ⟨by simp [hl]; omega, fun j hj => ?_⟩
  by_cases e : j < rs.length
  · obtain ⟨A', m', c', h0, h1, h2, h3, h4, h5, h6⟩ := h.2 j e
    refine ⟨A', m', c', ?_, ?_, ?_, ?_, ?_, h5, ?_⟩
    all_goals first | rw [List.getElem?_append_left (by omega), List.getElem?_append_left e]; first | exact h0 | exact h1 | exact h3 | exact h4
                    | rw [List.getElem?_append_left (by omega)]; exact h2
                    | rw [List.getElem?_append_left e]; exact h6
  · have : j = rs.length := by simp at hj; omega
    subst this
    have e0 : rs.length * 5 - vs.length = 0 := by omega
    have e1 : rs.length * 5 + 1 - vs.length = 1 := by omega
    have e2 : rs.length * 5 + 2 - vs.length = 2 := by omega
    have e3 : rs.length * 5 + 3 - vs.length = 3 := by omega
    have e4 : rs.length * 5 + 4 - vs.length = 4 := by omega
    have eg : (rs ++ [r])[rs.length]?.getD rq0 = r := by simp
    rw [eg]
    refine ⟨A, m, c, ?_, ?_, ?_, ?_, ?_, hc, hp⟩
    · rw [List.getElem?_append_right (by omega), e0]; rfl
    · rw [List.getElem?_append_right (by omega), e1]; rfl
    · rw [List.getElem?_append_right (by omega), e2]; rfl
    · rw [List.getElem?_append_right (by omega), e3]; rfl
    · rw [List.getElem?_append_right (by omega), e4]; rfl
theorem RdQ.of_own {base c : Nat} {t : TypeId} {A : Option Addr} (h : w.ownsRow base t 5 (.slice A n c) n vs) (hc : RqCells P vs rs) (hn : rs.length = n) (hp : ∀ A m xs, P A m xs → RdI w w.heap.size A m xs) : RdQ w w.heap.size A n rs := by
  refine ⟨hn, own_le h, fun hpos => ?_⟩
  obtain ⟨g, cap, hv, _, hlt⟩ := h.form hpos
  have hA : A = some ⟨g, 0, none⟩ := by injection hv
  subst hA
  refine ⟨g, 0, rfl, hlt, fun j hj => ?_⟩
  obtain ⟨A', m, c', h0, h1, h2, h3, h4, h5, h6⟩ := hc.2 j (by omega)
  have k0 := h.cells (g := g) rfl _ _ h0
  have k1 := h.cells (g := g) rfl _ _ h1
  have k2 := h.cells (g := g) rfl _ _ h2
  have k3 := h.cells (g := g) rfl _ _ h3
  have k4 := h.cells (g := g) rfl _ _ h4
  rw [addr_add] at k0 k1 k2 k3 k4
  exact ⟨A', m, c', k0, by rw [Nat.add_assoc]; exact k1, by rw [Nat.add_assoc]; exact k2, by rw [Nat.add_assoc]; exact k3, by rw [Nat.add_assoc]; exact k4, h5, hp _ _ _ h6⟩
/-- A part of a row of requests. -/
theorem RdQ.part {b o : Nat} (h : RdQ w B (some ⟨b, o, none⟩) n rs) {i m : Nat} (hi : i + m ≤ n) : RdQ w B (some ⟨b, o + i * 5, none⟩) m ((rs.drop i).take m) := by
  have hl := h.1
  have hle := h.2.1
  refine ⟨by simp [hl]; omega, by omega, fun hp => ?_⟩
  obtain ⟨b', o', e, hb, hc⟩ := h.2.2 (by omega)
  injection e with e
  injection e with e1 e2
  subst e1 e2
  refine ⟨b, o + i * 5, rfl, hb, fun j hj => ?_⟩
  have he : ((rs.drop i).take m)[j]? = rs[i + j]? := by rw [List.getElem?_take, if_pos hj, List.getElem?_drop]
  rw [he]
  have e5 : o + i * 5 + j * 5 = o + (i + j) * 5 := by omega
  rw [e5]
  exact hc (i + j) (by omega)
end
theorem RdQ.at_ {w : World} {B n k : Nat} {A : Option Addr} {rs : List Rq} (h : RdQ w B A n rs) (hk : k < n) : ∃ b o A' m c, A = some ⟨b, o, none⟩ ∧ b < B ∧
    w.cell? ⟨b, o + k * 5, none⟩ = some (.int .i64 (rs[k]?.getD rq0).kind) ∧ w.cell? ⟨b, o + k * 5 + 1, none⟩ = some (.int .i64 (rs[k]?.getD rq0).id) ∧ w.cell? ⟨b, o + k * 5 + 2, none⟩ = some (.slice A' m c) ∧
    w.cell? ⟨b, o + k * 5 + 3, none⟩ = some (.bool (rs[k]?.getD rq0).grant) ∧ w.cell? ⟨b, o + k * 5 + 4, none⟩ = some (.int .i64 (rs[k]?.getD rq0).num) ∧ m ≤ c ∧ RdI w B A' m (rs[k]?.getD rq0).xs := by
  obtain ⟨b, o, e, hb, hc⟩ := h.2.2 (by omega)
  obtain ⟨A', m, c, h0, h1, h2, h3, h4, h5, h6⟩ := hc k hk
  exact ⟨b, o, A', m, c, e, hb, h0, h1, h2, h3, h4, h5, h6⟩
theorem OwnC.lenU {w : World} {base m1 m2 c1 c2 : Nat} {A1 A2 : Option Addr} {room : List Int} {us : List Un} (h : OwnC w base (.slice A1 m1 c1) (.slice A2 m2 c2) m1 m2 room us) : us.length = m2 := by obtain ⟨_, _, _, _, h4⟩ := h; exact h4.len.1
theorem reqP_sh {room : List Int} {us : List Un} (r : Rq) : ShU (reqP room us r).2.1 ∧ (reqP room us r).1.length ≤ 3 := by
  cases h : clOk room us with
  | false => rw [req_bad h]; exact ⟨⟨by simp, fun u hu => by simp at hu⟩, by simp⟩
  | true =>
    obtain ⟨f1, f2, _, _⟩ := req_facts (r := r) h
    refine ⟨clOk_sh f2, ?_⟩
    rw [f1]
    exact Nat.le_of_eq (clOk_facts h).1
end Go.Proofs.YtjjnbbkdjimcoaaGreat
