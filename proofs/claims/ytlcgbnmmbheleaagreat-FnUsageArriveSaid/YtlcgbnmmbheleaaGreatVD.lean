/- Several texts in one. -/
import Derived.Test.YtlcgbnmmbheleaaGreatVC
import Derived.Test.YtlcgbnmmbheleaaGreatV28
import Derived.Test.YtlcgbnmmbheleaaGreatVA
namespace Go.Proofs.YtlcgbnmmbheleaaGreat
set_option linter.unusedSimpArgs false
set_option linter.unusedVariables false

/-! ### Lists of lists -/
theorem flat_set {α : Type} : ∀ {bs : List (List α)} {i : Nat} {c : List α}, i < bs.length → (bs.set i c).flatten.Perm (c ++ (bs.eraseIdx i).flatten)
  | [], i, c, h => by simp at h
  | b :: bs, 0, c, _ => by simp
  | b :: bs, i + 1, c, h => by
    simp only [pC, List.flatten_cons, List.eraseIdx_cons_succ]
    have ih := flat_set (bs := bs) (i := i) (c := c) (by simpa using h)
    refine (List.Perm.append_left b ih).trans ?_
    rw [← List.append_assoc, ← List.append_assoc]
    exact List.Perm.append_right _ List.perm_append_comm
theorem flat_at {α : Type} {bs : List (List α)} {i : Nat} (h : i < bs.length) : bs.flatten.Perm (bs[i]?.getD [] ++ (bs.eraseIdx i).flatten) := by
  have := flat_set (c := bs[i]?.getD []) h
  have e : bs.set i (bs[i]?.getD []) = bs := by
    rw [List.getElem?_eq_getElem h]; exact List.set_getElem_self h
  rwa [e] at this
/-! ### Numbers differ -/
/-! ### Requests -/
structure Rq where
  kind : Int
  id : Int
  xs : List Int
  grant : Bool
  num : Int
/-! ### Gathering -/
section
variable {room : List Int} {bs : List (List Tk)} {m : Int × Int} {i k j : Nat} {t : Tk}
end
theorem load_snoc (ts : List Tk) (t : Tk) : loadP (ts ++ [t]) = add3 (loadP ts) t.2 := by simp [loadP, List.foldl_append]
theorem tasksOk_perm {room : List Int} {a b : List Tk} (h : a.Perm b) (hb : tasksOk room b = true) : tasksOk room a = true := by
  simp only [tasksOk, Bool.and_eq_true, decide_eq_true_eq] at hb ⊢
  refine ⟨⟨⟨hb.1.1.1, by rw [h.length_eq]; exact hb.1.1.2⟩, ?_⟩, ((h.map _).nodup_iff).2 hb.2⟩
  rw [List.all_eq_true] at *
  exact fun x hx => hb.1.2 x (h.subset hx)
theorem bins_load {room : List Int} {bs : List (List Tk)} (h : binsOk room bs = true) {i : Nat} (hi : i < bs.length) : fits3 (loadP (bs[i]?.getD [])) room = true := by
  simp only [binsOk, Bool.and_eq_true, List.all_eq_true] at h
  rw [List.getElem?_eq_getElem hi]
  exact h.2 _ (List.getElem_mem hi)
theorem binsOk_iff {room : List Int} {bs : List (List Tk)} : binsOk room bs = true ↔ bs.length ≤ 14 ∧ tasksOk room bs.flatten = true ∧ ∀ i, i < bs.length → fits3 (loadP (bs[i]?.getD [])) room = true := by
  constructor
  · intro h
    refine ⟨?_, ?_, fun i hi => bins_load h hi⟩
    · simp only [binsOk, Bool.and_eq_true, decide_eq_true_eq] at h; exact h.1.1
    · simp only [binsOk, Bool.and_eq_true, decide_eq_true_eq] at h; exact h.1.2
  · rintro ⟨h1, h2, h3⟩
    simp only [binsOk, Bool.and_eq_true, decide_eq_true_eq, List.all_eq_true]
    refine ⟨⟨h1, h2⟩, fun b hb => ?_⟩
    obtain ⟨i, hi, rfl⟩ := List.getElem_of_mem hb
    have := h3 i hi
    rwa [List.getElem?_eq_getElem hi] at this
section
variable {room : List Int} {bs : List (List Tk)} {m : Int × Int} {i k j : Nat} {t : Tk}
end
/-! ### A request, done -/
end Go.Proofs.YtlcgbnmmbheleaaGreat

namespace Go.Proofs.YtlcgbnmmbheleaaGreat
set_option linter.unusedSimpArgs false
set_option linter.unusedVariables false
open Go Go.RowKit
attribute [local go_sem ↓] Go.wp_at_zero Go.wp_at_succ

def findU (us : List Un) (id : Int) : Int × Int := if whereP (us.map (·.2)) id < 0 then (-1, -1) else (whereP (us.map (·.2)) id, atP (us[(whereP (us.map (·.2)) id).toNat]?.getD (false, [])).2 id)
theorem findU_none {us : List Un} {id : Int} (h : ∀ j, j < us.length → hasP (us[j]?.getD (false, [])).2 id = false) : findU us id = (-1, -1) := by
  have : whereP (us.map (·.2)) id = -1 := whereP_none (fun j hj => by rw [snd_at]; exact h j (by simpa using hj))
  unfold findU; rw [this, if_pos (by omega)]
theorem findU_some {us : List Un} {id : Int} {k : Nat} (hk : k < us.length) (h : hasP (us[k]?.getD (false, [])).2 id = true) (hb : ∀ j, j < k → hasP (us[j]?.getD (false, [])).2 id = false) : findU us id = ((k : Int), atP (us[k]?.getD (false, [])).2 id) := by
  have : whereP (us.map (·.2)) id = (k : Int) := whereP_some (by simpa using hk) (by rw [snd_at]; exact h) (fun j hj => by rw [snd_at]; exact hb j hj)
  unfold findU; rw [this, if_neg (by omega), Int.toNat_natCast]
theorem atP_or (ts : List Tk) (id : Int) : (hasP ts id = false ∧ atP ts id = -1) ∨ (hasP ts id = true ∧ ∃ k : Nat, atP ts id = (k : Int) ∧ k < ts.length) := by
  have h := atP_ge ts id
  rcases idxP_or (fun t : Tk => t.1 == id) ts with e | ⟨k, e, hk⟩
  · left
    have e' : atP ts id = -1 := e
    rw [e'] at h
    exact ⟨by rw [← h]; rfl, e'⟩
  · right
    have e' : atP ts id = (k : Int) := e
    rw [e'] at h
    exact ⟨by rw [← h]; simp, k, e', hk⟩

set_option maxRecDepth 100000 in
set_option maxHeartbeats 1600000 in
theorem find_any (hb : Nat) (A1 : Option Addr) (n1 c1 n : Nat) (room : List Int) (us : List Un) (id : Int) (w : World) (h : HostV w hb A1 n1 c1 n room us) (hn : n ≤ 10) :
    Calls Tryz.prog 63 #[.pointer (some ⟨hb, 0, none⟩), .int .i64 id] w fun e w' => e = .returned (.tuple #[.int .i64 (findU us id).1, .int .i64 (findU us id).2]) ∧ Below w.heap.size w w' := by
  have hl := qh h.un.len
  have H := qh h.un
  have lh := h.lt
  have K0 : w.drew.cell? ⟨hb, 2, none⟩ = some (.slice A1 n1 c1) ∧ w.drew.cell? ⟨hb, 3, none⟩ = some (.int .i64 (n : Int)) := ⟨h.c2, h.c3⟩
  have n1' : (0 : Int) ≤ (n : Int) := by omega
  have n2' : (n : Int) ≤ 10 := by omega
  clear h
  go_enter Tryz.func63, Tryz.ntmps63
  go_wp2_with fail
  refine wp_region_mix (.take 0 (.take 1 (.take 2 (.take 3 (.take 4 (.take 5 (.take 6 (.take 7 (.take 8 (.take 9 .nil)))))))))) (fun w' => w'.cell? ⟨hb, 2, none⟩ = some (.slice A1 n1 c1) ∧ w'.cell? ⟨hb, 3, none⟩ = some (.int .i64 (n : Int))) (by kernel_rfl) (by kernel_rfl) K0 (fun _ => ?_)
  clear K0
  repeat ((first | refine mxS (by rfl) (by rfl) ?_ | (refine mxT (v := ?_) (by rfl) (by rfl) (fun z y => ?_) ?_; rotate_left; (focus ((try dsimp only at y); (go_simp <;> with_reducible rfl); done)))); (try simp only [Act.put,pS,pZ,pC]))
  refine wpMix_nil ?_
  have B1 := qh (drew_below w 1)
  have H1 := qh (H.out.drewN 1)
  go_wp2_with fail
  go_loopw [18] (fun i wr => ∃ k : Nat, i = .int .i64 k ∧ k ≤ n ∧ Below w.heap.size w wr ∧ (∀ j, j < k → hasP (us[j]?.getD (false, [])).2 id = false)) (fun i _ => n - (intOf i).toNat)
  case atStart => exact ⟨0, rfl, Nat.zero_le _, B1.out, by intro j hj; omega⟩
  case round =>
    clear B1 H1
    obtain ⟨k, rfl, hk, hbel, hall⟩ := hrel
    have Hbel := qh hbel
    have Hall := qh hall
    clear hbel hall
    by_cases hlt : k < n
    · have k1 : (0 : Int) ≤ (k : Int) := by omega
      have k2 : (k : Int) < (n : Int) := by omega
      have k3 : 0 ≤ (k : Int) * 2 := by omega
      have hkl : Hid (k < us.length) := by have := hl.out; show _ < _; omega
      obtain ⟨b, o, A', m', c', hA, lb, hc1, hc2, hmc, hrd⟩ := (H.out.below Hbel.out).at_ hlt
      injection hA with hA
      injection hA with hA1 hA2
      subst hA1 hA2
      have Hrd := qh hrd
      have lz := Hbel.out.size
      generalize (us[k]?.getD (false, [])).1 = op at *
      have B2 := qh (Hbel.out.alloc lz (.cells #[.bool op, .slice A' m' c'] 32))
      have P2 := qh (Blk.new wr 32 #[.bool op, .slice A' m' c'])
      have R2 := qh ((Hrd.out.more lz).up (alloc_up wr (.cells #[.bool op, .slice A' m' c'] 32)))
      clear hrd
      go_wp2_with fail
      clear hc1 hc2
      generalize wr.heap.size = g at P2 ⊢
      generalize wr.alloc (.cells #[.bool op, .slice A' m' c'] 32) = w2 at B2 P2 R2 ⊢
      have lg := P2.out.lt
      have K0 : w2.drew.cell? ⟨g, 1, none⟩ = some (.slice A' m' c') := P2.out.cell 1
      refine wp_region_mix (.take 0 (.take 1 (.take 2 (.bar 3 (.bar 4 (.take 5 .nil)))))) (fun w' => w'.cell? ⟨g, 1, none⟩ = some (.slice A' m' c')) (by kernel_rfl) (by kernel_rfl) K0 (fun _ => ?_)
      clear K0
      repeat ((first | refine mxS (by rfl) (by rfl) ?_ | (refine mxT (v := ?_) (by rfl) (by rfl) (fun z y => ?_) ?_; rotate_left; (focus ((try dsimp only at y); (go_simp <;> with_reducible rfl); done)))); (try simp only [Act.put,pS,pZ,pC]))
      (refine mxB (by rfl) (fun K hK => ?_); go_simp)
      refine (hasId_any id w2.drew).mono ?_; rintro e w3 ⟨rfl, rfl⟩
      have B3 := qh (B2.out.drew.alloc B2.out.size (.cells #[.int .i64 id] 3))
      have P3 := qh (P2.out.drew.alloc (.cells #[.int .i64 id] 3))
      have X3 := qh (Blk.new w2.drew 3 #[.int .i64 id])
      have R3 := qh ((R2.out.up (drew_below w2 1)).up (alloc_up w2.drew (.cells #[.int .i64 id] 3)))
      ((try dsimp only); refine nxK hK _ _ (P3.out.cell 1) ?_; clear hK K; (try simp only [Act.put,pS,pZ,pC]))
      generalize w2.drew.heap.size = g3 at X3 ⊢
      generalize w2.drew.alloc (.cells #[.int .i64 id] 3) = w3 at B3 P3 X3 R3 ⊢
      repeat ((first | refine mxS (by rfl) (by rfl) ?_ | (refine mxT (v := ?_) (by rfl) (by rfl) (fun z y => ?_) ?_; rotate_left; (focus ((try dsimp only at y); (go_simp <;> with_reducible rfl); done)))); (try simp only [Act.put,pS,pZ,pC]))
      (refine mxB (by rfl) (fun K hK => ?_); go_simp)
      refine (indexT_any A' m' c' g3 (us[k]?.getD (false, [])).2 id w3 R3.out (X3.out.cell 0)).mono ?_; rintro e w4 ⟨rfl, hb4⟩
      have B4 := qh (below_to B3.out hb4)
      ((try dsimp only); refine nxK hK _ _ ((P3.out.below hb4 P3.out.lt).cell 1) ?_; clear hK K; (try simp only [Act.put,pS,pZ,pC]))
      clear hb4
      repeat ((first | refine mxS (by rfl) (by rfl) ?_ | (refine mxT (v := ?_) (by rfl) (by rfl) (fun z y => ?_) ?_; rotate_left; (focus ((try dsimp only at y); (go_simp <;> with_reducible rfl); done)))); (try simp only [Act.put,pS,pZ,pC]))
      refine wpMix_nil ?_
      rcases atP_or (us[k]?.getD (false, [])).2 id with ⟨hh, he⟩ | ⟨hh, q, he, hq⟩
      · have Hh := qh hh
        have Hqq := qh he
        rw [he]
        clear hh he
        go_wp2_with fail
        go_roundw
        case measure => simp [intOf]; omega
        case rel => exact ⟨k + 1, by go_num, by omega, B4.out, fun j hj => by
          by_cases e : j = k
          · rw [e]; exact Hh.out
          · exact Hall.out j (by omega)⟩
      · have Hh := qh hh
        have Hqq := qh (he.symm)
        have q0 : (0 : Int) ≤ (q : Int) := by omega
        rw [he]
        clear hh he
        go_wp2_with fail
        go_ret2
        exact ⟨by rw [findU_some hkl.out Hh.out Hall.out, ← Hqq.out]; rfl, B4.out⟩
    · obtain rfl : k = n := by omega
      go_wp2_with fail
      go_ret2
      exact ⟨by rw [findU_none (fun j hj => Hall.out j (by have := hl.out; omega))]; rfl, Hbel.out⟩

set_option maxRecDepth 100000 in
set_option maxHeartbeats 1600000 in
theorem tasks_any (hb : Nat) (A1 : Option Addr) (n1 c1 n : Nat) (room : List Int) (us : List Un) (w : World) (h : HostV w hb A1 n1 c1 n room us) (hn : n ≤ 10) (hz : (us.map (·.2)).flatten.length ≤ 1000) :
    Calls Tryz.prog 65 #[.pointer (some ⟨hb, 0, none⟩)] w fun e w' => e = .returned (.int .i64 (((us.map (·.2)).flatten.length : Nat) : Int)) ∧ Below w.heap.size w w' := by
  have hl := qh h.un.len
  have Hz := qh hz
  have H := qh h.un
  have lh := h.lt
  have K0 : w.drew.cell? ⟨hb, 2, none⟩ = some (.slice A1 n1 c1) ∧ w.drew.cell? ⟨hb, 3, none⟩ = some (.int .i64 (n : Int)) := ⟨h.c2, h.c3⟩
  have n1' : (0 : Int) ≤ (n : Int) := by omega
  have n2' : (n : Int) ≤ 10 := by omega
  clear h hz
  go_enter Tryz.func65, Tryz.ntmps65
  go_wp2_with fail
  refine wp_region_mix (.take 0 (.take 1 (.take 2 (.take 3 (.take 4 (.take 5 (.take 6 (.take 7 (.take 8 (.take 9 .nil)))))))))) (fun w' => w'.cell? ⟨hb, 2, none⟩ = some (.slice A1 n1 c1) ∧ w'.cell? ⟨hb, 3, none⟩ = some (.int .i64 (n : Int))) (by kernel_rfl) (by kernel_rfl) K0 (fun _ => ?_)
  clear K0
  repeat ((first | refine mxS (by rfl) (by rfl) ?_ | (refine mxT (v := ?_) (by rfl) (by rfl) (fun z y => ?_) ?_; rotate_left; (focus ((try dsimp only at y); (go_simp <;> with_reducible rfl); done)))); (try simp only [Act.put,pS,pZ,pC]))
  refine wpMix_nil ?_
  have B1 := qh (drew_below w 1)
  go_wp2_with fail
  go_loopw [3, 15] (fun v i wr => ∃ k : Nat, i = .int .i64 k ∧ k ≤ n ∧ Below w.heap.size w wr ∧ v = .int .i64 ((((us.take k).map (·.2)).flatten.length : Nat) : Int)) (fun _ i _ => n - (intOf i).toNat)
  case atStart => exact ⟨0, rfl, Nat.zero_le _, B1.out, rfl⟩
  case round =>
    clear B1
    obtain ⟨k, rfl, hk, hbel, rfl⟩ := hrel
    have Hbel := qh hbel
    clear hbel
    by_cases hlt : k < n
    · have k1 : (0 : Int) ≤ (k : Int) := by omega
      have k2 : (k : Int) < (n : Int) := by omega
      have k3 : 0 ≤ (k : Int) * 2 := by omega
      have hkl : Hid (k < us.length) := by have := hl.out; show _ < _; omega
      obtain ⟨b, o, A', m', c', hA, lb, hc1, hc2, hmc, hrd⟩ := (H.out.below Hbel.out).at_ hlt
      injection hA with hA
      injection hA with hA1 hA2
      subst hA1 hA2
      have hm := hrd.len
      have lz := Hbel.out.size
      have B2 := qh (Hbel.out.alloc lz (.cells #[.bool (us[k]?.getD (false, [])).1, .slice A' m' c'] 32))
      have es : (((us.take (k + 1)).map (·.2)).flatten.length : Nat) = ((us.take k).map (·.2)).flatten.length + m' := by rw [snd_succ hkl.out, List.flatten_append, List.length_append, List.flatten_singleton, hm]
      have ez : ((us.take (k + 1)).map (·.2)).flatten.length ≤ 1000 := by
        have e : (us.map (·.2)).flatten.length = ((us.take (k + 1)).map (·.2)).flatten.length + ((us.drop (k + 1)).map (·.2)).flatten.length := by rw [← List.length_append, ← List.flatten_append, ← List.map_append, List.take_append_drop]
        have := Hz.out
        omega
      have Es := qh es
      have v1 : IntKind.i64.wrap (((((us.take k).map (·.2)).flatten.length : Nat) : Int) + (m' : Int)) = ((((us.take k).map (·.2)).flatten.length + m' : Nat) : Int) := by rw [wr64 (by omega) (by omega)]; omega
      clear hrd es ez
      generalize ((us.take k).map (·.2)).flatten.length = s0 at *
      go_wp2_with fail
      go_roundw
      case measure => simp [intOf]; omega
      case rel => exact ⟨k + 1, by go_num, by omega, B2.out, by rw [Es.out, Int.natCast_add]⟩
    · obtain rfl : k = n := by omega
      go_wp2_with fail
      go_ret
      exact ⟨by rw [List.take_of_length_le (by have := hl.out; omega)]; rfl, Hbel.out⟩

def openB1 (room xs : List Int) (u : Un) : Bool := u.1 && fits3 (add3 (loadP u.2) xs) room
def placeP (room : List Int) (us : List Un) (xs : List Int) (g : Bool) : Int := if 0 ≤ idxP (openB1 room xs) us then idxP (openB1 room xs) us else if g = true then idxP (fun u => !u.1) us else -1
theorem placeP_open {room xs : List Int} {us : List Un} {g : Bool} {k : Nat} (hk : k < us.length) (h : openB1 room xs (us[k]?.getD (false, [])) = true) (hb : ∀ j, j < k → openB1 room xs (us[j]?.getD (false, [])) = false) : placeP room us xs g = (k : Int) := by
  have : idxP (openB1 room xs) us = (k : Int) := idxP_some (d := (false, [])) hk h hb
  unfold placeP; rw [this, if_pos (by omega)]
theorem placeP_no {room xs : List Int} {us : List Un} {g : Bool} (hb : ∀ j, j < us.length → openB1 room xs (us[j]?.getD (false, [])) = false) : placeP room us xs g = if g = true then idxP (fun u => !u.1) us else -1 := by
  have : idxP (openB1 room xs) us = -1 := idxP_none (d := (false, [])) hb
  unfold placeP; rw [this, if_neg (by omega)]
theorem idx_take_none {us : List Un} {k : Nat} (hk : k < us.length) (h : idxP (fun u : Un => !u.1) (us.take k) = -1) (ho : (us[k]?.getD (false, [])).1 = true) : idxP (fun u : Un => !u.1) (us.take (k + 1)) = -1 := by
  refine idxP_none (d := (false, [])) fun j hj => ?_
  rw [List.length_take] at hj
  rw [List.getElem?_take, if_pos (by omega)]
  by_cases e : j = k
  · rw [e, ho]; rfl
  · have h2 := idxP_ge (fun u : Un => !u.1) (us.take k)
    rw [h] at h2
    have h3 : (us.take k).any (fun u : Un => !u.1) = false := by rw [← h2]; rfl
    rw [List.any_eq_false] at h3
    have h4 := h3 (us[j]?.getD (false, [])) (by
      have hj' : j < (us.take k).length := by rw [List.length_take]; omega
      have := List.getElem_mem hj'
      rw [List.getElem_take] at this
      rwa [List.getElem?_eq_getElem (by omega)])
    simpa using h4
theorem idx_take_first {us : List Un} {k : Nat} (hk : k < us.length) (h : idxP (fun u : Un => !u.1) (us.take k) = -1) (ho : (us[k]?.getD (false, [])).1 = false) : idxP (fun u : Un => !u.1) (us.take (k + 1)) = (k : Int) := by
  refine idxP_some (d := (false, [])) (by rw [List.length_take]; omega) (by rw [List.getElem?_take, if_pos (by omega), ho]; rfl) fun j hj => ?_
  have h2 := idxP_ge (fun u : Un => !u.1) (us.take k)
  rw [h] at h2
  have h3 : (us.take k).any (fun u : Un => !u.1) = false := by rw [← h2]; rfl
  rw [List.any_eq_false] at h3
  rw [List.getElem?_take, if_pos (by omega)]
  have h4 := h3 (us[j]?.getD (false, [])) (by
    have hj' : j < (us.take k).length := by rw [List.length_take]; omega
    have := List.getElem_mem hj'
    rw [List.getElem_take] at this
    rwa [List.getElem?_eq_getElem (by omega)])
  simpa using h4
theorem idx_take_more {us : List Un} {k c : Nat} (hk : k < us.length) (h : idxP (fun u : Un => !u.1) (us.take k) = (c : Int)) : idxP (fun u : Un => !u.1) (us.take (k + 1)) = (c : Int) := by
  unfold idxP at h ⊢
  rw [List.take_succ_eq_append_getElem hk, List.findIdx?_append]
  cases hf : (us.take k).findIdx? (fun u : Un => !u.1) with
  | none => rw [hf] at h; simp at h
  | some a => rw [hf] at h; exact h

set_option maxRecDepth 100000 in
set_option maxHeartbeats 3200000 in
theorem place_any (hb : Nat) (A1 A3 : Option Addr) (n1 c1 n c3 : Nat) (room : List Int) (us : List Un) (id : Int) (xs : List Int) (g : Bool) (w : World) (h : HostV w hb A1 n1 c1 n room us) (hn : n ≤ 10) (hn1 : 3 ≤ n1) (hx : RdI w w.heap.size A3 3 xs)
    (hus : ∀ u ∈ us, u.2.length ≤ 14 ∧ ∀ t ∈ u.2, vecOk t.2 = true) (hv : vecOk xs = true) :
    Calls Tryz.prog 64 #[.pointer (some ⟨hb, 0, none⟩), .agg #[.int .i64 id, .slice A3 3 c3], .bool g] w fun e w' => e = .returned (.int .i64 (placeP room us xs g)) ∧ Below w.heap.size w w' := by
  have hl := qh h.un.len
  have Hv := qh (fun (j : Nat) (hj : j < 3) => show -1000000 ≤ xs[j]?.getD 0 ∧ xs[j]?.getD 0 ≤ 1000000 from by have := vecOk_bd hv j; omega)
  have Hus := qh hus
  have B0 := alloc_up w (.cells #[.int .i64 id, .slice A3 3 c3] 40)
  have H := qh (h.up B0)
  have HX := qh (hx.up B0)
  have Bw := qh B0
  have Px := qh (Blk.new w 40 #[.int .i64 id, .slice A3 3 c3])
  have n1' : (0 : Int) ≤ (n : Int) := by omega
  have n2' : (n : Int) ≤ 10 := by omega
  clear h hx hus hv B0
  go_enter Tryz.func64, Tryz.ntmps64
  go_wp2_with fail
  generalize w.heap.size = gx at Px ⊢
  generalize w.alloc (.cells #[.int .i64 id, .slice A3 3 c3] 40) = w1 at H HX Bw Px ⊢
  have lx := Px.out.lt
  have K0 : w1.drew.cell? ⟨hb, 2, none⟩ = some (.slice A1 n1 c1) ∧ w1.drew.cell? ⟨hb, 3, none⟩ = some (.int .i64 (n : Int)) := ⟨H.out.c2, H.out.c3⟩
  refine wp_region_mix (.take 0 (.take 1 (.take 2 (.take 3 (.take 4 (.take 5 (.take 6 (.take 7 (.take 8 (.take 9 .nil)))))))))) (fun w' => w'.cell? ⟨hb, 2, none⟩ = some (.slice A1 n1 c1) ∧ w'.cell? ⟨hb, 3, none⟩ = some (.int .i64 (n : Int))) (by kernel_rfl) (by kernel_rfl) K0 (fun _ => ?_)
  clear K0
  repeat ((first | refine mxS (by rfl) (by rfl) ?_ | (refine mxT (v := ?_) (by rfl) (by rfl) (fun z y => ?_) ?_; rotate_left; (focus ((try dsimp only at y); (go_simp <;> with_reducible rfl); done)))); (try simp only [Act.put,pS,pZ,pC]))
  refine wpMix_nil ?_
  have B1 := qh (drew_below w1 1)
  go_wp2_with fail
  go_loopw [7, 19] (fun v i wr => ∃ k : Nat, i = .int .i64 k ∧ k ≤ n ∧ Below w1.heap.size w1 wr ∧ v = .int .i64 (idxP (fun u : Un => !u.1) (us.take k)) ∧ (∀ j, j < k → openB1 room xs (us[j]?.getD (false, [])) = false)) (fun _ i _ => n - (intOf i).toNat)
  case atStart => exact ⟨0, rfl, Nat.zero_le _, B1.out, rfl, by intro j hj; omega⟩
  case round =>
    clear B1
    obtain ⟨k, rfl, hk, hbel, rfl, hall⟩ := hrel
    have Hbel := qh hbel
    have Hall := qh hall
    clear hbel hall
    by_cases hlt : k < n
    · have k1 : (0 : Int) ≤ (k : Int) := by omega
      have k2 : (k : Int) < (n : Int) := by omega
      have k3 : 0 ≤ (k : Int) * 2 := by omega
      have hkl : Hid (k < us.length) := by have := hl.out; show _ < _; omega
      obtain ⟨b, o, A', m', c', hA, lb, hc1, hc2, hmc, hrd⟩ := (H.out.un.below Hbel.out).at_ hlt
      injection hA with hA
      injection hA with hA1 hA2
      subst hA1 hA2
      have Hrd := qh hrd
      have lz := Hbel.out.size
      have B2 := qh (Hbel.out.alloc lz (.cells #[.bool (us[k]?.getD (false, [])).1, .slice A' m' c'] 32))
      have P2 := qh (Blk.new wr 32 #[.bool (us[k]?.getD (false, [])).1, .slice A' m' c'])
      have R2 := qh ((Hrd.out.more lz).up (alloc_up wr (.cells #[.bool (us[k]?.getD (false, [])).1, .slice A' m' c'] 32)))
      have hu := Hus.out _ (un_mem hkl.out)
      have hm := hrd.len
      have hml : m' ≤ 14 := by omega
      have Hload := qh (load_ok hu.2)
      clear hrd
      have hwp : (us[k]?.getD (false, [])).1 = true ∨ (us[k]?.getD (false, [])).1 = false := by cases (us[k]?.getD (false, [])).1 <;> simp
      go_wp2_with fail
      clear hc1 hc2
      generalize wr.heap.size = g2 at P2 ⊢
      generalize wr.alloc (.cells #[.bool (us[k]?.getD (false, [])).1, .slice A' m' c'] 32) = w2 at B2 P2 R2 ⊢
      have lg := P2.out.lt
      have HV := qh (H.out.up B2.out)
      have HX2 := qh (HX.out.up B2.out)
      have Px2 := qh (Px.out.below B2.out Px.out.lt)
      rcases hwp with hop | hop
      · have Hop := qh hop
        rw [hop] at P2
        clear hop
        have K0 : w2.drew.cell? ⟨g2, 0, none⟩ = some (.bool true) ∧ w2.drew.cell? ⟨g2, 1, none⟩ = some (.slice A' m' c') ∧ w2.drew.cell? ⟨hb, 2, none⟩ = some (.slice A1 n1 c1) ∧ w2.drew.cell? ⟨gx, 0, none⟩ = some (.int .i64 id) ∧ w2.drew.cell? ⟨gx, 1, none⟩ = some (.slice A3 3 c3) := ⟨P2.out.cell 0, P2.out.cell 1, HV.out.c2, Px2.out.cell 0, Px2.out.cell 1⟩
        refine wp_region_mix (.take 0 (.take 1 (.take 2 (.take 3 (.take 4 (.take 5 (.take 6 (.take 7 (.take 8 (.take 9 (.bar 10 (.take 11 (.take 12 .nil))))))))))))) (fun w' => w'.cell? ⟨g2, 0, none⟩ = some (.bool true) ∧ w'.cell? ⟨g2, 1, none⟩ = some (.slice A' m' c') ∧ w'.cell? ⟨hb, 2, none⟩ = some (.slice A1 n1 c1) ∧ w'.cell? ⟨gx, 0, none⟩ = some (.int .i64 id) ∧ w'.cell? ⟨gx, 1, none⟩ = some (.slice A3 3 c3)) (by kernel_rfl) (by kernel_rfl) K0 (fun _ => ?_)
        clear K0
        repeat ((first | refine mxS (by rfl) (by rfl) ?_ | (refine mxT (v := ?_) (by rfl) (by rfl) (fun z y => ?_) ?_; rotate_left; (focus ((try dsimp only at y); (go_simp <;> with_reducible rfl); done)))); (try simp only [Act.put,pS,pZ,pC]))
        (refine mxB (by rfl) (fun K hK => ?_); go_simp)
        refine (hasRoom_any A1 A' A3 n1 c1 m' c' c3 room (us[k]?.getD (false, [])).2 id xs w2.drew HV.out.rm R2.out HX2.out hn1 (by omega) (fun j hj => Hload.out.1 j (by omega)) Hload.out.2 Hv.out).mono ?_; rintro e w3 ⟨rfl, hb3⟩
        have up3 := (drew_below w2 1).trans hb3
        have B3 := qh (below_to B2.out up3)
        have PP := qh (P2.out.below up3 P2.out.lt)
        have PX := qh (Px2.out.below up3 Px2.out.lt)
        have HW := qh (HV.out.up up3)
        ((try dsimp only); refine nxK hK _ _ (⟨PP.out.cell 0, PP.out.cell 1, HW.out.c2, PX.out.cell 0, PX.out.cell 1⟩) ?_; clear hK K; (try simp only [Act.put,pS,pZ,pC]))
        clear hb3 up3
        repeat ((first | refine mxS (by rfl) (by rfl) ?_ | (refine mxT (v := ?_) (by rfl) (by rfl) (fun z y => ?_) ?_; rotate_left; (focus ((try dsimp only at y); (go_simp <;> with_reducible rfl); done)))); (try simp only [Act.put,pS,pZ,pC]))
        refine wpMix_nil ?_
        have hdf : openB1 room xs (us[k]?.getD (false, [])) = fits3 (add3 (loadP (us[k]?.getD (false, [])).2) xs) room := by unfold openB1; rw [Hop.out]; rfl
        cases hro : fits3 (add3 (loadP (us[k]?.getD (false, [])).2) xs) room with
        | true =>
          rw [hro] at hdf
          have Hdf := qh hdf
          clear hdf hro
          go_wp2_with fail
          go_ret
          exact ⟨by rw [placeP_open hkl.out Hdf.out Hall.out]; rfl, Bw.out.trans (B3.out.mono Bw.out.size)⟩
        | false =>
          rw [hro] at hdf
          have Hdf := qh hdf
          have y0 := PP.out.cell 0
          simp only [gT, gZ] at y0
          clear hdf hro
          have Hsame := qh (show idxP (fun u : Un => !u.1) (us.take (k + 1)) = idxP (fun u : Un => !u.1) (us.take k) from by
            rcases idxP_or (fun u : Un => !u.1) (us.take k) with e | ⟨c, e, _⟩
            · rw [e]; exact idx_take_none hkl.out e Hop.out
            · rw [e]; exact idx_take_more hkl.out e)
          generalize idxP (fun u : Un => !u.1) (us.take k) = cl at *
          go_wp2_with fail
          go_roundw
          case measure => simp [intOf]; omega
          case rel => exact ⟨k + 1, by go_num, by omega, B3.out, by rw [Hsame.out], fun j hj => by
            by_cases e : j = k
            · rw [e]; exact Hdf.out
            · exact Hall.out j (by omega)⟩
      · have Hop := qh hop
        rw [hop] at P2
        clear hop
        have Hdf := qh (show openB1 room xs (us[k]?.getD (false, [])) = false from by unfold openB1; rw [Hop.out]; rfl)
        have K0 : w2.drew.cell? ⟨g2, 0, none⟩ = some (.bool false) := P2.out.cell 0
        refine wp_region_mix (.take 0 (.take 1 (.take 2 (.take 3 (.take 4 (.take 5 (.take 6 (.take 7 (.take 8 (.take 9 (.take 10 (.take 11 (.take 12 .nil))))))))))))) (fun w' => w'.cell? ⟨g2, 0, none⟩ = some (.bool false)) (by kernel_rfl) (by kernel_rfl) K0 (fun _ => ?_)
        clear K0
        repeat ((first | refine mxS (by rfl) (by rfl) ?_ | (refine mxT (v := ?_) (by rfl) (by rfl) (fun z y => ?_) ?_; rotate_left; (focus ((try dsimp only at y); (go_simp <;> with_reducible rfl); done)))); (try simp only [Act.put,pS,pZ,pC]))
        refine wpMix_nil ?_
        have B3 := qh (below_to B2.out (drew_below w2 1))
        have y0 : w2.drew.cell? ⟨g2, 0, none⟩ = some (.bool false) := P2.out.cell 0
        rcases idxP_or (fun u : Un => !u.1) (us.take k) with e | ⟨c, e, _⟩
        · have Hn := qh (idx_take_first hkl.out e Hop.out)
          rw [e]
          clear e
          have m1 : (-1 : Int) < 0 := by omega
          go_wp2_with fail
          go_roundw
          case measure => simp [intOf]; omega
          case rel => exact ⟨k + 1, by go_num, by omega, B3.out, by rw [Hn.out], fun j hj => by
            by_cases e : j = k
            · rw [e]; exact Hdf.out
            · exact Hall.out j (by omega)⟩
        · have Hn := qh (idx_take_more hkl.out e)
          rw [e]
          clear e
          have m1 : ¬ ((c : Int) < 0) := by omega
          go_wp2_with fail
          go_roundw
          case measure => simp [intOf]; omega
          case rel => exact ⟨k + 1, by go_num, by omega, B3.out, by rw [Hn.out], fun j hj => by
            by_cases e : j = k
            · rw [e]; exact Hdf.out
            · exact Hall.out j (by omega)⟩
    · obtain rfl : k = n := by omega
      have BB := qh (Bw.out.trans (Hbel.out.mono Bw.out.size))
      have hall' := qh (fun j (hj : j < us.length) => Hall.out j (by have := hl.out; omega))
      cases g with
      | true =>
        have Hno := qh ((placeP_no (g := true) hall'.out).trans (if_pos rfl))
        go_wp2_with fail
        go_ret
        exact ⟨by rw [Hno.out, List.take_of_length_le (by have := hl.out; omega)]; rfl, BB.out⟩
      | false =>
        have Hno := qh ((placeP_no (g := false) hall'.out).trans (if_neg (by simp)))
        go_wp2_with fail
        go_ret
        exact ⟨by rw [Hno.out]; rfl, BB.out⟩
end Go.Proofs.YtlcgbnmmbheleaaGreat
