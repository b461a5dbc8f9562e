/- Words for memory: a slice of requests. -/
import Derived.Test.YtjjnbbkdjimcoaaGreatRqI
import Derived.Test.YtjjnbbkdjimcoaaGreatJ5
namespace Go.Proofs.YtjjnbbkdjimcoaaGreat
set_option linter.unusedVariables false
open Go Go.RowKit

/-- A slice of requests. -/
def RdQ (w : World) (B : Nat) (A : Option Addr) (n : Nat) (rs : List Rq) : Prop :=
  rs.length = n ∧ n ≤ 9223372036854775807 ∧ (0 < n → ∃ b o, A = some ⟨b, o, none⟩ ∧ b < B ∧ ∀ j, j < n → ∃ A' m c,
    w.cell? ⟨b, o + j * 5, none⟩ = some (.int .i64 (rs[j]?.getD ⟨0, 0, [], false, 0⟩).kind) ∧ w.cell? ⟨b, o + j * 5 + 1, none⟩ = some (.int .i64 (rs[j]?.getD ⟨0, 0, [], false, 0⟩).id) ∧
    w.cell? ⟨b, o + j * 5 + 2, none⟩ = some (.slice A' m c) ∧ w.cell? ⟨b, o + j * 5 + 3, none⟩ = some (.bool (rs[j]?.getD ⟨0, 0, [], false, 0⟩).grant) ∧ w.cell? ⟨b, o + j * 5 + 4, none⟩ = some (.int .i64 (rs[j]?.getD ⟨0, 0, [], false, 0⟩).num) ∧ m ≤ c ∧
    RdI w B A' m (rs[j]?.getD ⟨0, 0, [], false, 0⟩).xs)
section
variable {w w' : World} {B B' n k : Nat} {A : Option Addr} {rs : List Rq}
theorem RdQ.keep (h : RdQ w B A n rs) (hk : ∀ p : Addr, p.block < B → w'.cell? p = w.cell? p) (hB : B ≤ B') : RdQ w' B' A n rs := ⟨h.1, h.2.1, fun hn => by
  obtain ⟨b, o, e, hb, hc⟩ := h.2.2 hn
  refine ⟨b, o, e, by omega, fun j hj => ?_⟩
  obtain ⟨A', m, c, h0, h1, h2, h3, h4, h5, h6⟩ := hc j hj
  exact ⟨A', m, c, (hk ⟨b, o + j * 5, none⟩ hb).trans h0, (hk ⟨b, o + j * 5 + 1, none⟩ hb).trans h1, (hk ⟨b, o + j * 5 + 2, none⟩ hb).trans h2, (hk ⟨b, o + j * 5 + 3, none⟩ hb).trans h3, (hk ⟨b, o + j * 5 + 4, none⟩ hb).trans h4, h5, h6.keep hk hB⟩⟩
theorem RdQ.below (h : RdQ w B A n rs) (hb : Below B w w') : RdQ w' B A n rs := h.keep (fun _ hp => hb.cell hp) (Nat.le_refl _)
theorem RdQ.more (h : RdQ w B A n rs) (hB : B ≤ B') : RdQ w B' A n rs := h.keep (fun _ _ => rfl) hB
theorem RdQ.up (h : RdQ w w.heap.size A n rs) (hb : Below w.heap.size w w') : RdQ w' w'.heap.size A n rs := (h.below hb).more hb.size
theorem RdQ.len (h : RdQ w B A n rs) : rs.length = n := h.1
end

theorem OwnC.keepR {w w' : World} {base m1 m2 : Nat} {v1 v2 : Value} {room : List Int} {us : List Un} (h : OwnC w base v1 v2 m1 m2 room us) (hk : ∀ b, base ≤ b → b < w.heap.size → w'.heap[b]? = w.heap[b]?) : OwnC w' base v1 v2 m1 m2 room us := by
  obtain ⟨h1, md, h2, h3, vs, tk, f, g1, g2, g3⟩ := h
  exact ⟨own_keep h1 (fun b hb => hk b (h1.lt b hb).1 (h1.lt b hb).2), md, h2, h3, vs, tk, f, own_keep g1 (fun b hb => hk b (Nat.le_trans h3 (g1.lt b hb).1) (g1.lt b hb).2), g2.keep (fun b hb1 _ hti => hk b (by omega) hti.lt), g3⟩
end Go.Proofs.YtjjnbbkdjimcoaaGreat
