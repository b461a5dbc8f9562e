/- Walk: RequestsPlay of the program (the paths of region 3 are printed by gen_playi.py). -/
import Derived.Test.YtjjnbbkdjimcoaaGreatRqDoI
import Derived.Test.YtjjnbbkdjimcoaaGreatRdQ
import Derived.Test.YtjjnbbkdjimcoaaGreatMix3
import Derived.Deep.Cut
import Derived.Deep.DeepCutAuto
import Derived.ArgAppend
namespace Go.Proofs.YtjjnbbkdjimcoaaGreat
set_option linter.unusedSimpArgs false
set_option linter.unusedVariables false
open Go Go.RowKit Go.MuLone
attribute [local go_sem ↓] Go.wp_at_zero Go.wp_at_succ

theorem src_one {w : World} {B : Addr} {u : Value} (h : Src w 1 (some B) 1 [u]) : w.cell? (B.add 0) = some u := by
  obtain ⟨ad, e, hc⟩ := h.2 (by omega)
  injection e with e
  subst e
  exact hc 0 u rfl
/-- One value behind a row of the call's own that has room: the row stays where it lies. -/
theorem wpList_append_in {P : Program} {w : World} {ops : Array Oper} {rest : List Oper} {o : Oper} {a : Act} {Q : Exit → Act → World → Prop} (hgd : o.guard = none) (s x : Operand) (t : TypeId)
    (ho : o.op = .call { callee := .builtin .append, args := #[s, x], argTypes := #[t, t] })
    (base : Nat) (e : TypeId) (i : TypeInfo) (z : Value) (bytes : Nat) (ht : P.underlying t = some (.slice e)) (hi : P.info? e = some i) (hz : i.zero = some z)
    (hsize : i.size = 1) (hby : i.bytes = bytes) (hzs : z.cells.size = 1) (g n cap : Nat) (xs : List Value) (hs : a.eval s = .slice (some ⟨g, 0, none⟩) n cap)
    (hown : w.ownsRow base e 1 (.slice (some ⟨g, 0, none⟩) n cap) n xs) (hroom : n + 1 ≤ cap) (B : Addr) (c : Nat) (u : Value) (hx : a.eval x = .slice (some B) 1 c) (hu : w.cell? (B.add 0) = some u) (h1 : u.oneCell' = true)
    (h63 : n + 1 ≤ maxLen) (hbytes : (n + 1) * bytes ≤ 140737488355328) (hbase : base ≤ w.heap.size)
    (h : ∀ w', w'.ownsRow base e 1 (.slice (some ⟨g, 0, none⟩) (n + 1) cap) (n + 1) (xs ++ [u]) → w.grownBy w' (some g) → wpList P ops Q rest (a.put o.dst (.slice (some ⟨g, 0, none⟩) (n + 1) cap)) w') : wpList P ops Q (o :: rest) a w :=
  wpList_plain hgd fun K hK => by
    have hnews : ∀ j v, [u][j]? = some v → w.cell? (B.add j) = some v := fun j v hj => by
      match j, hj with
      | 0, hj => simp at hj; rw [← hj]; exact hu
      | j + 1, hj => simp at hj
    have hone : ∀ v ∈ [u], v.oneCell' = true := fun v hv => by rw [List.mem_singleton.1 hv]; exact h1
    obtain ⟨v', w', hrun, h2, h3, _⟩ := run_append_src (P := P) w base t o.type e i z 1 bytes ht hi hz hsize hby hzs (by omega) _ n xs hown (some B) 1 c [u] ⟨rfl, fun _ => ⟨B, rfl, hnews⟩⟩ hone h63 hbytes hbase
    obtain ⟨cur, hblk, hsz⟩ : ∃ cur, Blk w g e cur ∧ cur.size = cap := by
      rcases hown.2 with ⟨he, _⟩ | ⟨g', cap', cur, he, _, hg, _, _, hc, _⟩
      · cases he
      · injection he with he1 he2 he3
        injection he1 with he1
        injection he1 with he1
        subst he1 he3
        exact ⟨cur, hg, by rw [hc, Nat.mul_one]⟩
    have hin := run_append_room_cells (P := P) w t o.type e i ht hi g 0 n cap B 1 c [u] (by rw [hsize]; rfl) hnews hone hroom
      (fun j hj => by rw [hblk.cell, hsize, Array.getElem?_eq_getElem (by simp at hj; omega)]; rfl) (fun j hj => hblk.frozen _)
    rw [hin] at hrun
    injection hrun with e1 e2
    subst e1 e2
    have hk := hK _ _ (h _ h2 h3)
    unfold Oper.wp execOp
    simp only [ho, resolve, invoke, builtin, Sem.run_bind, Sem.run_pure, Result.andThen_ok, List.map_toArray, List.map_cons, List.map_nil, hs, hx, hin]
    exact hk

end Go.Proofs.YtjjnbbkdjimcoaaGreat
