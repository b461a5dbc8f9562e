/- Several texts in one. -/
import Derived.Test.YtdgeicdiiakhjaaGreatW15
import Derived.Test.YtdgeicdiiakhjaaGreatW13
import Derived.Test.YtdgeicdiiakhjaaGreatW1
import Derived.Conc.MuLone
import Derived.Test.YtdgeicdiiakhjaaGreatW9
namespace Go.Proofs.YtdgeicdiiakhjaaGreat
set_option linter.unusedSimpArgs false
set_option linter.unusedVariables false
open Go Go.RowKit

/-- The cells of a host. -/
def hostC (l : Int) (A1 : Option Addr) (n1 c1 n : Nat) (vs : List Value) : Array Value := (Value.int .i32 l :: Value.int .u32 0 :: Value.slice A1 n1 c1 :: Value.int .i64 (n : Int) :: vs).toArray
section
variable {l l' : Int} {A1 : Option Addr} {n1 c1 n : Nat} {vs : List Value}
theorem hostC_unit (i : Nat) : (hostC l A1 n1 c1 n vs)[4 + i]? = vs[i]? := by
  unfold hostC
  rw [gT, show 4 + i = i + 1 + 1 + 1 + 1 by omega, gS, gS, gS, gS]
theorem hostC_lock : (hostC l A1 n1 c1 n vs).setIfInBounds 0 (.int .i32 l') = hostC l' A1 n1 c1 n vs := by
  unfold hostC; rw [pS]; rfl
theorem hostC_set (i : Nat) (v : Value) : (hostC l A1 n1 c1 n vs).setIfInBounds (4 + i) v = hostC l A1 n1 c1 n (vs.set i v) := by
  unfold hostC; rw [pS, show 4 + i = i + 1 + 1 + 1 + 1 by omega]; rfl
end

/-- What is read of a host: its room, how many units, its units. -/
structure HostV (w : World) (hb : Nat) (A1 : Option Addr) (n1 c1 n : Nat) (room : List Int) (us : List Un) : Prop where
  c2 : w.cell? ⟨hb, 2, none⟩ = some (.slice A1 n1 c1)
  c3 : w.cell? ⟨hb, 3, none⟩ = some (.int .i64 (n : Int))
  lt : hb < w.heap.size
  rm : RdI w w.heap.size A1 n1 room
  un : RdN w w.heap.size (some ⟨hb, 4, none⟩) n us
theorem HostV.up {w w' : World} {hb : Nat} {A1 : Option Addr} {n1 c1 n : Nat} {room : List Int} {us : List Un} (h : HostV w hb A1 n1 c1 n room us) (k : Below w.heap.size w w') : HostV w' hb A1 n1 c1 n room us :=
  ⟨(k.cell (p := ⟨hb, 2, none⟩) h.lt).trans h.c2, (k.cell (p := ⟨hb, 3, none⟩) h.lt).trans h.c3, Nat.lt_of_lt_of_le h.lt k.size, h.rm.up k, h.un.up k⟩
section
variable {w w' : World} {base base' hb n1 c1 n : Nat} {l l' : Int} {A1 : Option Addr} {room : List Int} {us : List Un} {vs zs : List Value} {tk : Nat → Value}
end
end Go.Proofs.YtdgeicdiiakhjaaGreat

namespace Go.Proofs.YtdgeicdiiakhjaaGreat
set_option linter.unusedSimpArgs false
set_option linter.unusedVariables false
open Go Go.RowKit
attribute [local go_sem ↓] Go.wp_at_zero Go.wp_at_succ

/-- The node and the place of a task, or -1 twice. -/
def findU (us : List Un) (id : Int) : Int × Int := if whereP (us.map (·.2)) id < 0 then (-1, -1) else (whereP (us.map (·.2)) id, atP (us[(whereP (us.map (·.2)) id).toNat]?.getD (false, [])).2 id)
theorem findU_none {us : List Un} {id : Int} (h : ∀ j, j < us.length → hasP (us[j]?.getD (false, [])).2 id = false) : findU us id = (-1, -1) := by
  have : whereP (us.map (·.2)) id = -1 := whereP_none (fun j hj => by rw [snd_at]; exact h j (by simpa using hj))
  unfold findU; rw [this, if_pos (by omega)]
theorem findU_some {us : List Un} {id : Int} {k : Nat} (hk : k < us.length) (h : hasP (us[k]?.getD (false, [])).2 id = true) (hb : ∀ j, j < k → hasP (us[j]?.getD (false, [])).2 id = false) : findU us id = ((k : Int), atP (us[k]?.getD (false, [])).2 id) := by
  have : whereP (us.map (·.2)) id = (k : Int) := whereP_some (by simpa using hk) (by rw [snd_at]; exact h) (fun j hj => by rw [snd_at]; exact hb j hj)
  unfold findU; rw [this, if_neg (by omega), Int.toNat_natCast]
theorem atP_or (ts : List Tk) (id : Int) : (hasP ts id = false ∧ atP ts id = -1) ∨ (hasP ts id = true ∧ ∃ k : Nat, atP ts id = (k : Int) ∧ k < ts.length) := by
  have h := atP_ge ts id
  rcases idxP_or (fun t : Tk => t.1 == id) ts with e | ⟨k, e, hk⟩
  · left
    have e' : atP ts id = -1 := e
    rw [e'] at h
    exact ⟨by rw [← h]; rfl, e'⟩
  · right
    have e' : atP ts id = (k : Int) := e
    rw [e'] at h
    exact ⟨by rw [← h]; simp, k, e', hk⟩

/-- The first open node with room. -/
def openB1 (room xs : List Int) (u : Un) : Bool := u.1 && fits3 (add3 (loadP u.2) xs) room
/-- place. -/
def placeP (room : List Int) (us : List Un) (xs : List Int) (g : Bool) : Int := if 0 ≤ idxP (openB1 room xs) us then idxP (openB1 room xs) us else if g = true then idxP (fun u => !u.1) us else -1
theorem placeP_open {room xs : List Int} {us : List Un} {g : Bool} {k : Nat} (hk : k < us.length) (h : openB1 room xs (us[k]?.getD (false, [])) = true) (hb : ∀ j, j < k → openB1 room xs (us[j]?.getD (false, [])) = false) : placeP room us xs g = (k : Int) := by
  have : idxP (openB1 room xs) us = (k : Int) := idxP_some (d := (false, [])) hk h hb
  unfold placeP; rw [this, if_pos (by omega)]
theorem placeP_no {room xs : List Int} {us : List Un} {g : Bool} (hb : ∀ j, j < us.length → openB1 room xs (us[j]?.getD (false, [])) = false) : placeP room us xs g = if g = true then idxP (fun u => !u.1) us else -1 := by
  have : idxP (openB1 room xs) us = -1 := idxP_none (d := (false, [])) hb
  unfold placeP; rw [this, if_neg (by omega)]
theorem idx_take_none {us : List Un} {k : Nat} (hk : k < us.length) (h : idxP (fun u : Un => !u.1) (us.take k) = -1) (ho : (us[k]?.getD (false, [])).1 = true) : idxP (fun u : Un => !u.1) (us.take (k + 1)) = -1 := by
  refine idxP_none (d := (false, [])) fun j hj => ?_
  rw [List.length_take] at hj
  rw [List.getElem?_take, if_pos (by omega)]
  by_cases e : j = k
  · rw [e, ho]; rfl
  · have h2 := idxP_ge (fun u : Un => !u.1) (us.take k)
    rw [h] at h2
    have h3 : (us.take k).any (fun u : Un => !u.1) = false := by rw [← h2]; rfl
    rw [List.any_eq_false] at h3
    have h4 := h3 (us[j]?.getD (false, [])) (by
      have hj' : j < (us.take k).length := by rw [List.length_take]; omega
      have := List.getElem_mem hj'
      rw [List.getElem_take] at this
      rwa [List.getElem?_eq_getElem (by omega)])
    simpa using h4
theorem idx_take_first {us : List Un} {k : Nat} (hk : k < us.length) (h : idxP (fun u : Un => !u.1) (us.take k) = -1) (ho : (us[k]?.getD (false, [])).1 = false) : idxP (fun u : Un => !u.1) (us.take (k + 1)) = (k : Int) := by
  refine idxP_some (d := (false, [])) (by rw [List.length_take]; omega) (by rw [List.getElem?_take, if_pos (by omega), ho]; rfl) fun j hj => ?_
  have h2 := idxP_ge (fun u : Un => !u.1) (us.take k)
  rw [h] at h2
  have h3 : (us.take k).any (fun u : Un => !u.1) = false := by rw [← h2]; rfl
  rw [List.any_eq_false] at h3
  rw [List.getElem?_take, if_pos (by omega)]
  have h4 := h3 (us[j]?.getD (false, [])) (by
    have hj' : j < (us.take k).length := by rw [List.length_take]; omega
    have := List.getElem_mem hj'
    rw [List.getElem_take] at this
    rwa [List.getElem?_eq_getElem (by omega)])
  simpa using h4
theorem idx_take_more {us : List Un} {k c : Nat} (hk : k < us.length) (h : idxP (fun u : Un => !u.1) (us.take k) = (c : Int)) : idxP (fun u : Un => !u.1) (us.take (k + 1)) = (c : Int) := by
  unfold idxP at h ⊢
  rw [List.take_succ_eq_append_getElem hk, List.findIdx?_append]
  cases hf : (us.take k).findIdx? (fun u : Un => !u.1) with
  | none => rw [hf] at h; simp at h
  | some a => rw [hf] at h; exact h

end Go.Proofs.YtdgeicdiiakhjaaGreat

namespace Go.Proofs.YtdgeicdiiakhjaaGreat
set_option linter.unusedSimpArgs false
set_option linter.unusedVariables false
end Go.Proofs.YtdgeicdiiakhjaaGreat

namespace Go.Proofs.YtdgeicdiiakhjaaGreat
set_option linter.unusedSimpArgs false
set_option linter.unusedVariables false
open Go Go.RowKit
attribute [local go_sem ↓] Go.wp_at_zero Go.wp_at_succ

set_option maxRecDepth 100000 in
set_option maxHeartbeats 1600000 in
theorem copyOf_any (A : Option Addr) (n c : Nat) (id : Int) (xs : List Int) (w : World) (h : RdI w w.heap.size A n xs) (hn : n ≤ 1048576) :
    Calls Tryz.prog 79 #[.agg #[.int .i64 id, .slice A n c]] w fun e w' => ∃ A' c', e = .returned (.agg #[.int .i64 id, .slice A' n c']) ∧ w'.ownsRow w.heap.size 3 1 (.slice A' n c') n (xs.map (Value.int .i64)) ∧ Below w.heap.size w w' := by
  have H := qh h
  clear h
  go_enter Tryz.func79, Tryz.ntmps79
  go_wp2_with fail
  have B1 := qh ((upNew w (.cells #[.int .i64 id, .slice A n c] 43)).alloc (by simp) (.cells #[.int .i64 0, .slice none 0 0] 43))
  have sz : (w.alloc (.cells #[.int .i64 id, .slice A n c] 43)).heap.size = w.heap.size + 1 := World.size_alloc _ _
  have P1 := qh ((Blk.new w 43 #[.int .i64 id, .slice A n c]).alloc (.cells #[.int .i64 0, .slice none 0 0] 43))
  have Q1 := qh (show Blk ((w.alloc (.cells #[.int .i64 id, .slice A n c] 43)).alloc (.cells #[.int .i64 0, .slice none 0 0] 43)) (w.heap.size + 1) 43 #[.int .i64 0, .slice none 0 0] from by
    have := Blk.new (w.alloc (.cells #[.int .i64 id, .slice A n c] 43)) 43 #[.int .i64 0, .slice none 0 0]
    rwa [sz] at this)
  generalize (w.alloc (.cells #[.int .i64 id, .slice A n c] 43)).alloc (.cells #[.int .i64 0, .slice none 0 0] 43) = w1 at B1 P1 Q1 ⊢
  clear sz
  have K0 : w1.drew.cell? ⟨w.heap.size, 0, none⟩ = some (.int .i64 id) ∧ w1.drew.cell? ⟨w.heap.size, 1, none⟩ = some (.slice A n c) := ⟨P1.out.cell 0, P1.out.cell 1⟩
  have l1 : w.heap.size + 1 < w1.heap.size := Q1.out.lt
  refine wp_region_mix (.take 0 (.take 2 (.take 1 (.take 3 (.bar 4 (.take 5 (.bar 6 .nil))))))) (fun w' => w'.cell? ⟨w.heap.size, 0, none⟩ = some (.int .i64 id) ∧ w'.cell? ⟨w.heap.size, 1, none⟩ = some (.slice A n c)) (by kernel_rfl) (by kernel_rfl) K0 (fun _ => ?_)
  clear K0
  repeat ((first | refine wpMix_skip (by rfl) (by rfl) ?_ | (refine wpMix_take (v := ?_) (by rfl) (by rfl) (fun wS hSt => ?_) ?_; rotate_left; (focus ((try dsimp only at hSt); (go_simp <;> with_reducible rfl); done)))); (try simp only [Act.put, pS, pZ, pC]))
  (refine wpMix_bar (by rfl) (fun K hK => ?_); go_simp)
  refine (clone_any A n c xs w1.drew (H.out.up B1.out.drew) hn).mono ?_; rintro e w2 ⟨A', c', rfl, hown, hb2⟩
  have Hown := qh hown
  have HB2 := qh hb2
  have P2 := qh (P1.out.drew.below hb2 P1.out.lt)
  have Q2 := qh (Q1.out.drew.below hb2 Q1.out.lt)
  clear hown hb2
  ((try dsimp only); refine nxK hK _ _ (⟨P2.out.cell 0, P2.out.cell 1⟩) ?_; clear hK K; (try simp only [Act.put, pS, pZ, pC]))
  repeat ((first | refine wpMix_skip (by rfl) (by rfl) ?_ | (refine wpMix_take (v := ?_) (by rfl) (by rfl) (fun wS hSt => ?_) ?_; rotate_left; (focus ((try dsimp only at hSt); (go_simp <;> with_reducible rfl); done)))); (try simp only [Act.put, pS, pZ, pC]))
  have y0 : w2.cell? ⟨w.heap.size + 1, 0, none⟩ = some (.int .i64 0) := Q2.out.cell 0
  have y1 : w2.cell? ⟨w.heap.size + 1, 1, none⟩ = some (.slice none 0 0) := Q2.out.cell 1
  have f0 : w2.frozen? ⟨w.heap.size + 1, 0, none⟩ = false := Q2.out.frozen 0
  have f1 : w2.frozen? ⟨w.heap.size + 1, 1, none⟩ = false := Q2.out.frozen 1
  (refine wpMix_bar (by rfl) (fun K hK => ?_); go_simp)
  clear y0 y1 f0 f1
  have EP := qh ((P2.out.far (p := ⟨w.heap.size + 1, 0, none⟩) (by simp) (.int .i64 id)).far (p := ⟨w.heap.size + 1, 1, none⟩) (by simp) (.slice A' n c'))
  have EQ := qh ((Q2.out.set_ 0 (.int .i64 id)).set_ 1 (.slice A' n c'))
  have kk : ∀ b, b ≠ w.heap.size + 1 → ((w2.setCell ⟨w.heap.size + 1, 0, none⟩ (.int .i64 id)).setCell ⟨w.heap.size + 1, 1, none⟩ (.slice A' n c')).heap[b]? = w2.heap[b]? := fun b hb => (Below.heap_setCell _ _ _ b hb).trans (Below.heap_setCell _ _ _ b hb)
  have F1 := qh (own_keep Hown.out (w' := (w2.setCell ⟨w.heap.size + 1, 0, none⟩ (.int .i64 id)).setCell ⟨w.heap.size + 1, 1, none⟩ (.slice A' n c')) (fun b hb => kk b (by have := (Hown.out.lt b hb).1; have : w1.drew.heap.size = w1.heap.size := rfl; omega)))
  have F2 := qh (((B1.out.drew.trans (HB2.out.mono B1.out.size)).setCell (p := ⟨w.heap.size + 1, 0, none⟩) (by simp) (.int .i64 id)).setCell (p := ⟨w.heap.size + 1, 1, none⟩) (by simp) (.slice A' n c'))
  clear kk
  generalize (w2.setCell ⟨w.heap.size + 1, 0, none⟩ (.int .i64 id)).setCell ⟨w.heap.size + 1, 1, none⟩ (.slice A' n c') = w3 at EP EQ F1 F2 ⊢
  ((try dsimp only); refine nxK hK _ _ (⟨EP.out.cell 0, EP.out.cell 1⟩) ?_; clear hK K; (try simp only [Act.put, pS, pZ, pC]))
  refine wpMix_nil ?_
  have z0 : w3.cell? ⟨w.heap.size + 1, 0, none⟩ = some (.int .i64 id) := EQ.out.cell 0
  have z1 : w3.cell? ⟨w.heap.size + 1, 1, none⟩ = some (.slice A' n c') := EQ.out.cell 1
  go_wp2
  refine bodyPost_ret (v := .agg #[.int .i64 id, .slice A' n c']) (by simp [results, Tryz.results79, go_sem, z0, z1]) rfl ⟨A', c', rfl, ?_, F2.out⟩
  refine ⟨F1.out.1, F1.out.2.imp (fun h => h) ?_⟩
  rintro ⟨g, cap, cur, a, b, d⟩
  exact ⟨g, cap, cur, a, by have : w1.drew.heap.size = w1.heap.size := rfl; omega, d⟩
end Go.Proofs.YtdgeicdiiakhjaaGreat
