/- Several texts in one. -/
import Derived.Test.YtdgeicdiiakhjaaGreatW16
import Derived.Test.YtdgeicdiiakhjaaGreatW14
import Derived.Test.YtdgeicdiiakhjaaGreatW15
namespace Go.Proofs.YtdgeicdiiakhjaaGreat
set_option linter.unusedSimpArgs false
set_option linter.unusedVariables false
open Go Go.RowKit
attribute [local go_sem ↓] Go.wp_at_zero Go.wp_at_succ

set_option maxRecDepth 100000 in
set_option maxHeartbeats 1600000 in
theorem copyTasks_any (A : Option Addr) (n c : Nat) (ts : List Tk) (w : World) (h : RdT w w.heap.size A n ts) (hn : n ≤ 1000) (hm : ∀ j, j < n → (ts[j]?.getD (0, [])).2.length ≤ 1048576) :
    Calls Tryz.prog 82 #[.slice A n c] w fun e w' => ∃ A' c', e = .returned (.slice A' n c') ∧ OwnTs w' w.heap.size (.slice A' n c') n ts ∧ Below w.heap.size w w' := by
  obtain ⟨i0, hi0, hz0, hz1, hz2⟩ := info_parts task_info
  have hl := qh h.len
  have H := qh h
  have Hm := qh hm
  clear h hm
  have hmk := fun W : World => run_make (P := Tryz.prog) W 24 43 i0 _ Tryz.underlying24 hi0 hz0 .i64 .i64 0 n (by omega) (by omega) (by rw [hz2]; omega) (by omega)
  simp only [Int.toNat_natCast, Int.toNat_zero, hz1] at hmk
  have hcells : (madeCells (Value.agg #[.int .i64 0, .slice none 0 0]).cells (n * 2)).size = n * 2 := size_madeCells _ _
  generalize madeCells (Value.agg #[.int .i64 0, .slice none 0 0]).cells (n * 2) = mc at hmk hcells
  have O0 := qh (World.ownsRow_made (base := w.heap.size) (e := 43) (size := 2) w mc n (Nat.le_refl _) (by unfold maxLen; omega) hcells)
  have B0 := qh (alloc_up w (.cells mc 43))
  clear hcells
  go_enter Tryz.func82, Tryz.ntmps82
  go_wp2_with fail
  generalize w.alloc (.cells mc 43) = w0 at O0 B0 ⊢
  go_loopw [3, 11] (fun v i wr => ∃ (k : Nat) (A0 : Option Addr) (c0 : Nat) (vs : List Value) (nd : Nat → Value), i = .int .i64 k ∧ k ≤ n ∧ v = .slice A0 k c0 ∧ Below w.heap.size w wr ∧
    wr.ownsRow w.heap.size 43 2 (.slice A0 k c0) k vs ∧ NdTs wr w.heap.size k vs nd (ts.take k)) (fun _ i _ => n - (intOf i).toNat)
  case atStart => exact ⟨0, _, _, [], _, rfl, Nat.zero_le _, rfl, B0.out, O0.out, NdTs.nil⟩
  case round =>
    clear O0 B0
    obtain ⟨k, A0, c0, vs, nd, rfl, hk, rfl, hbel, hown, hnd⟩ := hrel
    by_cases hlt : k < n
    · obtain ⟨b1, o1, A3', m3, c3', rfl, lb1, hc1, hc3, hle3, hr3⟩ := (H.out.below hbel).at_ hlt
      have k1 : (0 : Int) ≤ (k : Int) := by omega
      have k2 : (k : Int) < (n : Int) := by omega
      have k3 : 0 ≤ (k : Int) * 2 := by omega
      have hkl : k < ts.length := by have := hl.out; omega
      have Hs := qh (show ts.take (k + 1) = ts.take k ++ [((ts[k]?.getD (0, [])).1, (ts[k]?.getD (0, [])).2)] from by rw [List.take_succ_eq_append_getElem hkl, List.getElem?_eq_getElem hkl]; rfl)
      have em : m3 ≤ 1048576 := by have := Hm.out k hlt; have := hr3.len; omega
      have lzr := hbel.size
      have hal := alloc_up wr (.cells #[.int .i64 (ts[k]?.getD (0, [])).1, .slice A3' m3 c3'] 43)
      have Hbel := qh (hbel.alloc lzr (.cells #[.int .i64 (ts[k]?.getD (0, [])).1, .slice A3' m3 c3'] 43))
      have Hown := qh (own_keep hown (w' := wr.alloc (.cells #[.int .i64 (ts[k]?.getD (0, [])).1, .slice A3' m3 c3'] 43)) (fun b hb => Below.heap_alloc _ _ _ (hown.lt b hb).2))
      have Hnd := qh (hnd.keep (w' := wr.alloc (.cells #[.int .i64 (ts[k]?.getD (0, [])).1, .slice A3' m3 c3'] 43)) (fun b _ hlt => Below.heap_alloc _ _ _ hlt))
      have Hr3 := qh ((hr3.more lzr).up hal)
      have Px := qh (Blk.new wr 43 #[.int .i64 (ts[k]?.getD (0, [])).1, .slice A3' m3 c3'])
      have lz : w.heap.size ≤ (wr.alloc (.cells #[.int .i64 (ts[k]?.getD (0, [])).1, .slice A3' m3 c3'] 43)).heap.size := by rw [World.size_alloc]; omega
      clear hal hbel hown hnd hr3
      generalize (ts[k]?.getD (0, [])).1 = idk at *
      generalize (ts[k]?.getD (0, [])).2 = xk at *
      have p0 := Px.out.cell 0
      have p1 := Px.out.cell 1
      simp only [gT, gZ, gS] at p0 p1
      go_wp2_with fail
      clear hc1 hc3
      generalize wr.heap.size = gx at Px p0 p1 ⊢
      generalize wr.alloc (.cells #[.int .i64 idk, .slice A3' m3 c3'] 43) = W3 at Hbel Hown Hnd Hr3 Px lz p0 p1 ⊢
      refine (copyOf_any A3' m3 c3' idk xk W3 Hr3.out em).mono ?_; rintro e w4 ⟨A4', c4', rfl, hx4, hb4⟩
      have Ho4 := qh (own_keep Hown.out (fun b hb => hb4.block b (Hown.out.lt b hb).2))
      have Hn4 := qh (Hnd.out.keep (w' := w4) (fun b _ hlt => hb4.block b hlt))
      have sz4 := hb4.size
      have Ho5 := qh (own_keep Ho4.out (w' := w4.alloc (.cells #[.int .i64 idk, .slice A4' m3 c4'] 43)) (fun b hb => Below.heap_alloc _ _ _ (Ho4.out.lt b hb).2))
      have Hx5 := qh (own_keep hx4 (w' := w4.alloc (.cells #[.int .i64 idk, .slice A4' m3 c4'] 43)) (fun b hb => Below.heap_alloc _ _ _ (hx4.lt b hb).2))
      have Hn5 := qh ((Hn4.out.keep (w' := w4.alloc (.cells #[.int .i64 idk, .slice A4' m3 c4'] 43)) (fun b _ hlt => Below.heap_alloc _ _ _ hlt)).snoc (w0 := W3) (id := idk) Ho4.out.1 Hnd.out.old Hx5.out lz)
      have Hs5 := qh (lit2 w4 43 (.int .i64 idk) (.slice A4' m3 c4'))
      have lz5 : w.heap.size ≤ (w4.alloc (.cells #[.int .i64 idk, .slice A4' m3 c4'] 43)).heap.size := by rw [World.size_alloc]; omega
      have Hb5 := qh (((Hbel.out.trans (hb4.mono lz))).alloc (by omega) (.cells #[.int .i64 idk, .slice A4' m3 c4'] 43))
      clear hx4 hb4 p0 p1
      go_wp2_with (at_builtin; refine wpList_append_src _ rfl _ _ 24 rfl w.heap.size 43 i0 _ 2 32 Tryz.underlying24 hi0 hz0 hz1 hz2 rfl (by omega) (.slice A0 k c0) k vs rfl Ho5.out (some ⟨w4.heap.size, 0, none⟩) 1 1 [.int .i64 idk, .slice A4' m3 c4'] rfl Hs5.out (by simp [Value.oneCell']) (by unfold maxLen; omega) (by omega) lz5 ?_; intro v' w6 hown6 hgrow6 hat6)
      have Hn6 := qh (Hn5.out.grown Ho5.out hgrow6)
      have Hb6 := qh (Hb5.out.grown hgrow6 lz5 (fun j e => (Ho5.out.lt j e).1))
      obtain ⟨A6, c6, rfl⟩ := own_shape hown6
      have Ho6 := qh hown6
      clear hown6 hgrow6 hat6 Ho4 Hn4 Ho5 Hx5 Hn5 Hs5 Hb5
      go_wp2_with fail
      go_roundw
      case measure => simp [intOf]; omega
      case rel => exact ⟨k + 1, A6, c6, _, _, by go_num, by omega, rfl, Hb6.out, Ho6.out, by rw [Hs.out]; exact Hn6.out⟩
    · obtain rfl : k = n := by omega
      have Hbel := qh hbel
      have Hown := qh hown
      have Hnd := qh hnd
      clear hbel hown hnd
      go_wp2_with fail
      go_ret
      have hnn := Hnd.out
      rw [List.take_of_length_le (by have := hl.out; omega)] at hnn
      exact ⟨A0, c0, rfl, ⟨vs, nd, Hown.out, hnn⟩, Hbel.out⟩

/-- The cells of ten empty units. -/
def zs20 : List Value := [.bool false, .slice none 0 0, .bool false, .slice none 0 0, .bool false, .slice none 0 0, .bool false, .slice none 0 0, .bool false, .slice none 0 0, .bool false, .slice none 0 0, .bool false, .slice none 0 0, .bool false, .slice none 0 0, .bool false, .slice none 0 0, .bool false, .slice none 0 0]
theorem NdUR.ones {w : World} {base n : Nat} {vs : List Value} {tk : Nat → Value} {us : List Un} (h : NdUR w base n vs tk us) : ∀ u ∈ vs, u.oneCell' = true := by
  intro u hu
  obtain ⟨i, hi, rfl⟩ := List.getElem_of_mem hu
  have hl := h.2.1
  obtain ⟨h1, h2, A, m, c, vt, h3, _⟩ := h.2.2.1 (i / 2) (by omega)
  rcases Nat.mod_two_eq_zero_or_one i with e | e
  · rw [show i / 2 * 2 = i from by omega, List.getElem?_eq_getElem hi] at h1
    injection h1 with h1; rw [h1]; rfl
  · rw [show i / 2 * 2 + 1 = i from by omega, List.getElem?_eq_getElem hi, h3] at h2
    injection h2 with h2; rw [h2]; rfl

end Go.Proofs.YtdgeicdiiakhjaaGreat

namespace Go.Proofs.YtdgeicdiiakhjaaGreat
set_option linter.unusedSimpArgs false
set_option linter.unusedVariables false
open Go Go.RowKit Go.MuLone
attribute [local go_sem ↓] Go.wp_at_zero Go.wp_at_succ

section
variable {w : World} {p : Addr} {l : Int} {v : Value} {B n : Nat} {A : Option Addr}
theorem cell_i32 (hp : w.cell? p = some (.int .i32 l)) {q : Addr} {u : Value} (hq : w.cell? q = some u) (hu : ∀ x, u ≠ .int .i32 x) : (w.setCell p v).cell? q = some u := by
  rw [World.cell?_setCell_other _ _ _ _ (fun e => by subst e; rw [hp] at hq; injection hq with hq; exact hu l hq.symm)]
  exact hq
theorem RdI.lock {xs : List Int} (h : RdI w B A n xs) (hp : w.cell? p = some (.int .i32 l)) : RdI (w.setCell p v) B A n xs :=
  ⟨h.1, h.2.1, fun hn => by
    obtain ⟨b, o, e, hb, hc⟩ := h.2.2 hn
    exact ⟨b, o, e, hb, fun j hj => cell_i32 hp (hc j hj) (fun x e => by cases e)⟩⟩
theorem RdT.lock {ts : List Tk} (h : RdT w B A n ts) (hp : w.cell? p = some (.int .i32 l)) : RdT (w.setCell p v) B A n ts :=
  ⟨h.1, h.2.1, fun hn => by
    obtain ⟨b, o, e, hb, hc⟩ := h.2.2 hn
    refine ⟨b, o, e, hb, fun j hj => ?_⟩
    obtain ⟨A', m, c, h1, h2, h3, h4⟩ := hc j hj
    exact ⟨A', m, c, cell_i32 hp h1 (fun x e => by cases e), cell_i32 hp h2 (fun x e => by cases e), h3, h4.lock hp⟩⟩
theorem RdN.lock {us : List Un} (h : RdN w B A n us) (hp : w.cell? p = some (.int .i32 l)) : RdN (w.setCell p v) B A n us :=
  ⟨h.1, h.2.1, fun hn => by
    obtain ⟨b, o, e, hb, hc⟩ := h.2.2 hn
    refine ⟨b, o, e, hb, fun j hj => ?_⟩
    obtain ⟨A', m, c, h1, h2, h3, h4⟩ := hc j hj
    exact ⟨A', m, c, cell_i32 hp h1 (fun x e => by cases e), cell_i32 hp h2 (fun x e => by cases e), h3, h4.lock hp⟩⟩
theorem HostV.lockV {hb n1 c1 : Nat} {A1 : Option Addr} {room : List Int} {us : List Un} (h : HostV w hb A1 n1 c1 n room us) (hp : w.cell? p = some (.int .i32 l)) : HostV (w.setCell p v) hb A1 n1 c1 n room us :=
  ⟨cell_i32 hp h.c2 (fun x e => by cases e), cell_i32 hp h.c3 (fun x e => by cases e), by simpa [World.setCell] using h.lt, by
    have := h.rm.lock (v := v) hp
    simpa [World.setCell] using this, by
    have := h.un.lock (v := v) hp
    simpa [World.setCell] using this⟩
end

end Go.Proofs.YtdgeicdiiakhjaaGreat

namespace Go.Proofs.YtdgeicdiiakhjaaGreat
set_option linter.unusedSimpArgs false
set_option linter.unusedVariables false
open Go Go.RowKit Go.MuLone
attribute [local go_sem ↓] Go.wp_at_zero Go.wp_at_succ

theorem un_pair {room : List Int} {us : List Un} (h : clOk room us = true) {k : Nat} (hk : k < us.length) : (us[k]?.getD (false, [])).2.Pairwise (fun x y => x.1 ≠ y.1) := by
  refine (ids_pair (binsOk_nodup (clOk_iff.1 h).2.1)).1 _ ?_
  rw [← map_snd_at hk, List.getElem?_eq_getElem (by rw [List.length_map]; exact hk)]
  exact List.getElem_mem _

theorem idxP_congr {α : Type} {p q : α → Bool} {l : List α} (h : ∀ x ∈ l, p x = q x) : idxP p l = idxP q l := by
  unfold idxP
  have : l.findIdx? p = l.findIdx? q := by
    induction l with
    | nil => rfl
    | cons x l ih =>
      rw [List.findIdx?_cons, List.findIdx?_cons, h x (by simp), ih (fun y hy => h y (by simp [hy]))]
  rw [this]
/-- Both place a task at the same node. -/
theorem place_arv {room : List Int} {us : List Un} {id : Int} {xs : List Int} {g : Bool} (h : clOk room us = true) (ht : tasksOk room [(id, xs)] = true) : placeP room us xs g = arvAt room us xs g := by
  have e1 : idxP (openB1 room xs) us = cAtP room us xs true := idxP_congr fun u _ => by unfold openB1 atB; cases u.1 <;> rfl
  have hfx : fits3 xs room = true ∧ xs.length = 3 := by
    simp only [tasksOk, Bool.and_eq_true, List.all_eq_true] at ht
    have := ht.1.2 (id, xs) (by simp)
    simp only [taskOk, vecFits, Bool.and_eq_true] at this
    exact ⟨this.2.2, vecOk_len this.2.1.1⟩
  have e2 : idxP (fun u : Un => !u.1) us = cAtP room us xs false := idxP_congr fun u hu => by
    unfold atB
    cases ho : u.1 with
    | true => rfl
    | false =>
      have he : u.2 = [] := ((clOk_iff.1 h).2.2 u hu).resolve_left (by rw [ho]; simp)
      have hf : fits3 (add3 (loadP u.2) xs) room = true := by
        rw [he, fits3_iff]
        intro j hj
        rw [add3_at hj]
        have h0 : (loadP [])[j]?.getD 0 = 0 := by
          match j, hj with
          | 0, _ => rfl
          | 1, _ => rfl
          | 2, _ => rfl
        rw [h0, Int.zero_add]
        exact fits3_iff.1 hfx.1 j hj
      rw [hf]; rfl
  unfold placeP arvAt
  rw [e1, e2]
  have hr : cAtP room us xs true = -1 ∨ ∃ k : Nat, cAtP room us xs true = (k : Int) := by
    rcases idxP_or (atB room xs true) us with e | ⟨k, e, _⟩
    · exact .inl e
    · exact .inr ⟨k, e⟩
  rcases hr with e | ⟨k, e⟩
  · rw [e, if_neg (by omega)]
    cases g with
    | true => rw [if_pos rfl, if_pos ⟨by omega, rfl⟩]
    | false => rw [if_neg (by simp), if_neg (by simp)]
  · rw [e, if_pos (by omega), if_neg (by omega)]

end Go.Proofs.YtdgeicdiiakhjaaGreat

namespace Go.Proofs.YtdgeicdiiakhjaaGreat
set_option linter.unusedSimpArgs false
set_option linter.unusedVariables false
open Go Go.RowKit Go.MuLone
attribute [local go_sem ↓] Go.wp_at_zero Go.wp_at_succ

/-- The value of a request, its need being a slice. -/
abbrev rqV (r : Rq) (A : Option Addr) (n c : Nat) : Value := .agg #[.int .i64 r.kind, .int .i64 r.id, .slice A n c, .bool r.grant, .int .i64 r.num]
/-- Its cells. -/
abbrev rqC (r : Rq) (A : Option Addr) (n c : Nat) : Array Value := #[.int .i64 r.kind, .int .i64 r.id, .slice A n c, .bool r.grant, .int .i64 r.num]

end Go.Proofs.YtdgeicdiiakhjaaGreat
