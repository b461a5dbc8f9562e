/- Several texts in one. -/
import Derived.Test.YtlcgbnmmbheleaaGreatClDraw
import Derived.Test.YtlcgbnmmbheleaaGreatKvShr
import Derived.Test.YtlcgbnmmbheleaaGreatVJ
namespace Go.Proofs.YtlcgbnmmbheleaaGreat
set_option linter.unusedSimpArgs false
set_option linter.unusedVariables false
open Go Go.RowKit
attribute [local go_sem ↓] Go.wp_at_zero Go.wp_at_succ

theorem rdU_up {w w' : World} {A : Option Addr} {n : Nat} (h : RdU w w.heap.size A n) (hb : Below w.heap.size w w') : RdU w' w'.heap.size A n := fun hn => by
  obtain ⟨b, o, e, hl, hc⟩ := h hn
  refine ⟨b, o, e, by have := hb.size; omega, fun j hj => ?_⟩
  obtain ⟨u, h1, h2, h3⟩ := hc j hj
  exact ⟨u, h1, h2, (hb.cell (p := ⟨b, o + j, none⟩) hl).trans h3⟩


end Go.Proofs.YtlcgbnmmbheleaaGreat

namespace Go.Proofs.YtlcgbnmmbheleaaGreat
set_option linter.unusedSimpArgs false
set_option linter.unusedVariables false
open Go Go.RowKit
attribute [local go_sem ↓] Go.wp_at_zero Go.wp_at_succ

section
variable {w0 w w' : World} {g gc q q' : Nat} {v1 v2 : Value} {R : World → Prop}
end


set_option maxRecDepth 100000 in
set_option maxHeartbeats 1600000 in
theorem drawUsageOf_any (A : Option Addr) (n c : Nat) (w : World) (h : RdU w w.heap.size A n) (hc : n ≤ c) (hcm : c ≤ 9223372036854775807) :
    Calls Tryz.prog 11 #[.slice A n c] w fun e w' => ∃ A1 m1 c1 A2 m2 c2 room us, e = .returned (.agg #[.slice A1 m1 c1, .slice A2 m2 c2]) ∧ RdC w' A1 A2 m1 m2 room us ∧ ShU us ∧ m1 ≤ 3 ∧ m1 ≤ c1 ∧ m2 ≤ c2 ∧ Below w.heap.size w w' := by
  have B1 := qh (alloc_up w (.cells #[.slice none 0 0, .slice none 0 0] 26))
  have Z1 := qh (Blk.new w 26 #[.slice none 0 0, .slice none 0 0])
  have U1 := qh (show RdU (w.alloc (.cells #[.slice none 0 0, .slice none 0 0] 26)) (w.alloc (.cells #[.slice none 0 0, .slice none 0 0] 26)).heap.size A n from rdU_up h B1.out)
  clear h
  go_enter Tryz.func11, Tryz.ntmps11
  go_wp2_with fail
  generalize hgz : w.heap.size = gz at Z1 ⊢
  generalize w.alloc (.cells #[.slice none 0 0, .slice none 0 0] 26) = w1 at B1 Z1 U1 ⊢
  refine (l6Open_any A n c w1 U1.out hc hcm).mono ?_; rintro e w2 ⟨rfl, R2, hb2⟩
  have B2 := qh (B1.out.trans (hb2.mono B1.out.size))
  have Z2 := qh (Z1.out.below hb2 Z1.out.lt)
  have HR2 := qh R2
  have lz := Z1.out.lt
  have lg := B1.out.size
  clear hb2 R2 U1
  go_wp2_with fail
  refine (l92Cluster_any w1.heap.size 0 w2 HR2.out (by omega)).mono ?_; rintro e w3 hD
  obtain ⟨A1, m1, c1, A2, m2, c2, room, us, rfl, hr, hs, hm1, hc1, hc2, o3, q, hq, r3⟩ := hD
  have B3 := qh (B2.out.trans (o3.belowB (B := w.heap.size) lg B2.out.size))
  have Z3 := qh (o3.blk Z2.out (by omega))
  have x0 := Z3.out.cell 0
  have x1 := Z3.out.cell 1
  simp only [gT, gZ, gS] at x0 x1
  have x2 := Z3.out.frozen 0
  have x3 := Z3.out.frozen 1
  have C3 := qh hr
  have Hs := qh hs
  clear hr hs o3 r3 B1 Z1 B2 Z2 HR2
  go_wp2_with fail
  have KT := (KeepTU.set_ (Z3.out) (by decide) (by decide) (by decide) 0 (.slice A1 m1 c1)).trans (KeepTU.set_ ((Z3.out).set_ 0 (.slice A1 m1 c1)) (by decide) (by decide) (by decide) 1 (.slice A2 m2 c2))
  have EQ := qh (((Z3.out).set_ 0 (.slice A1 m1 c1)).set_ 1 (.slice A2 m2 c2))
  have B9 := qh (((B3.out).setCell (p := ⟨gz, 0, none⟩) (by show w.heap.size ≤ gz; omega) (.slice A1 m1 c1)).setCell (p := ⟨gz, 1, none⟩) (by show w.heap.size ≤ gz; omega) (.slice A2 m2 c2))
  have RC := qh (C3.out _ KT)
  clear KT
  generalize World.setCell (World.setCell w3 ⟨gz, 0, none⟩ (.slice A1 m1 c1)) ⟨gz, 1, none⟩ (.slice A2 m2 c2) = w9 at EQ B9 RC ⊢
  have z0 : w9.cell? ⟨gz, 0, none⟩ = some (.slice A1 m1 c1) := EQ.out.cell 0
  have z1 : w9.cell? ⟨gz, 1, none⟩ = some (.slice A2 m2 c2) := EQ.out.cell 1
  subst hgz
  refine bodyPost_ret (v := .agg #[.slice A1 m1 c1, .slice A2 m2 c2]) (by simp [results, Tryz.results11, go_sem, z0, z1]) rfl ⟨A1, m1, c1, A2, m2, c2, room, us, rfl, RC.out, Hs.out, hm1, hc1, hc2, B9.out⟩


theorem add3_assoc (a b c : List Int) : add3 (add3 a b) c = add3 a (add3 b c) := by simp [add3, Int.add_assoc]
theorem fold_add3 : ∀ (l : List Tk) (s t : List Int), l.foldl (fun s t => add3 s t.2) (add3 s t) = add3 s (l.foldl (fun s t => add3 s t.2) t)
  | [], _, _ => rfl
  | x :: l, s, t => by
    simp only [List.foldl_cons]
    rw [add3_assoc]
    exact fold_add3 l s (add3 t x.2)
theorem add3_zero {s : List Int} (h : s.length = 3) : add3 s [0, 0, 0] = s := by
  match s, h with
  | [a, b, c], _ => simp [add3]
theorem loadP_append (a b : List Tk) : loadP (a ++ b) = add3 (loadP a) (loadP b) := by
  have e : (a ++ b).foldl (fun s t => add3 s t.2) [0, 0, 0] = b.foldl (fun s t => add3 s t.2) (loadP a) := by rw [List.foldl_append]; rfl
  show (a ++ b).foldl (fun s t => add3 s t.2) [0, 0, 0] = _
  rw [e, ← add3_zero (loadP_len a), fold_add3, add3_zero (loadP_len a)]
  rfl
theorem flat_facts {room : List Int} {us : List Un} (h : clOk room us = true) : (∀ j : Nat, j < (us.map (·.2)).flatten.length → ((us.map (·.2)).flatten[j]?.getD (0, [])).2.length = 3) ∧
    ∀ j i : Nat, 0 ≤ ((us.map (·.2)).flatten[j]?.getD (0, [])).2[i]?.getD 0 ∧ ((us.map (·.2)).flatten[j]?.getD (0, [])).2[i]?.getD 0 ≤ 1000 := by
  have hv : ∀ t ∈ (us.map (·.2)).flatten, vecOk t.2 = true := by
    simp only [clOk, binsOk, tasksOk, Bool.and_eq_true, decide_eq_true_eq, List.all_eq_true] at h
    intro t ht
    have := h.1.2.1.2.1.2 t ht
    simp only [taskOk, vecFits, Bool.and_eq_true] at this
    exact this.2.1.1
  have hm : ∀ j : Nat, j < (us.map (·.2)).flatten.length → (us.map (·.2)).flatten[j]?.getD (0, []) ∈ (us.map (·.2)).flatten := fun j hj => by
    rw [List.getElem?_eq_getElem hj]
    exact List.getElem_mem hj
  refine ⟨fun j hj => vecOk_len (hv _ (hm j hj)), fun j i => ?_⟩
  rcases Nat.lt_or_ge j (us.map (·.2)).flatten.length with hj | hj
  · have := vecOk_bd (hv _ (hm j hj)) i
    omega
  · rw [List.getElem?_eq_none hj]
    simp
theorem togTo_load {room : List Int} {us : List Un} (h : clOk room us = true) : togTo us us.length = loadP (us.map (·.2)).flatten := by
  have key : ∀ k, k ≤ us.length → togTo us k = loadP ((us.take k).map (·.2)).flatten := by
    intro k
    induction k with
    | zero => intro _; rfl
    | succ k ih =>
      intro hk
      unfold togTo
      rw [ih (by omega), List.take_succ_eq_append_getElem (by omega), List.map_append, List.flatten_append, loadP_append]
      congr 1
      rw [List.getElem?_eq_getElem (by omega)]
      simp
  have := key us.length (Nat.le_refl _)
  rwa [List.take_length] at this

end Go.Proofs.YtlcgbnmmbheleaaGreat

namespace Go.Proofs.YtlcgbnmmbheleaaGreat
set_option linter.unusedVariables false
set_option linter.unusedSimpArgs false
open Go Go.Conc Go.RowKit Go.MuLone
attribute [local go_sem ↓] Go.wp_at_zero Go.wp_at_succ

def cwhereP (room : List Int) (us : List Un) (id : Int) : Int := if clOk room us = true then whereP (us.map (·.2)) id else -1
set_option maxRecDepth 100000 in
set_option maxHeartbeats 1600000 in
theorem clusterWhereI_any (A1 A2 : Option Addr) (n1 c1 n2 c2 : Nat) (room : List Int) (us : List Un) (id : Int) (w : World) (h : RdC w A1 A2 n1 n2 room us) (hs : ShU us) :
    Calls Tryz.prog 13 #[.agg #[.slice A1 n1 c1, .slice A2 n2 c2], .int .i64 id] w fun e w' => e = .returned (.int .i64 (cwhereP room us id)) ∧ Below w.heap.size w w' := by
  have B1 := qh (alloc_up w (.cells #[.slice A1 n1 c1, .slice A2 n2 c2] 26))
  have P1 := qh (Blk.new w 26 #[.slice A1 n1 c1, .slice A2 n2 c2])
  have H1 := qh (h.up B1.out)
  have Hs := qh hs
  clear h hs
  go_enter Tryz.func13, Tryz.ntmps13
  have x0 := P1.out.cell 0
  have x1 := P1.out.cell 1
  simp only [gT, gZ, gS] at x0 x1
  go_wp2_with fail
  clear x0 x1
  generalize hgb : w.heap.size = gb at P1 ⊢
  generalize w.alloc (.cells #[.slice A1 n1 c1, .slice A2 n2 c2] 26) = w1 at B1 P1 H1 ⊢
  have lz1 := P1.out.lt
  refine (clusterValidI_any A1 A2 n1 c1 n2 c2 room us w1 H1.out Hs.out).mono ?_; rintro e w2 ⟨rfl, hb2⟩
  have B2 := qh (B1.out.trans (hb2.mono (by omega)))
  have P2 := qh (P1.out.below hb2 P1.out.lt)
  have H2 := qh (H1.out.up hb2)
  have lz2 := P2.out.lt
  clear hb2 B1 P1 H1 lz1
  cases hok : clOk room us with
  | false =>
    have Hok := qh hok
    clear hok
    go_wp2_with fail
    go_ret
    exact ⟨by unfold cwhereP; rw [if_neg (by rw [Hok.out]; simp)]; rfl, B2.out⟩
  | true =>
    have Hok := qh hok
    clear hok
    have y0 := P2.out.cell 0
    have y1 := P2.out.cell 1
    simp only [gT, gZ, gS] at y0 y1
    go_wp2_with fail
    refine (bins_any A1 A2 n1 c1 n2 c2 us w2 H2.out.b (by have := H2.out.b.len; have := Hs.out.1; omega)).mono ?_
    rintro e w3 ⟨A3, m3, c3, rfl, hrd, hb3⟩
    have R3 := qh hrd
    have B3 := qh (B2.out.trans (hb3.mono (by omega)))
    have lz3 := hb3.size
    clear hrd hb3 y0 y1
    go_wp2_with fail
    refine (whereOf_any A3 m3 c3 (us.map (·.2)) id w3 R3.out).mono ?_; rintro e w4 ⟨rfl, hb4⟩
    have B4 := qh (B3.out.trans (hb4.mono (by omega)))
    clear hb4
    go_wp2_with fail
    go_ret
    exact ⟨by unfold cwhereP; rw [if_pos Hok.out]; rfl, B4.out⟩


/-! ### the plain law -/
def uofP (room : List Int) (us : List Un) : List Int := if clOk room us = true then togTo us us.length else []
theorem uofP_len (room : List Int) (us : List Un) : (uofP room us).length = if clOk room us = true then 3 else 0 := by
  unfold uofP
  split
  · exact togTo_len us us.length
  · rfl
theorem pigeon : ∀ (m : Nat) (l : List Int), (∀ j : Nat, 1 ≤ j → j ≤ m → (j : Int) ∈ l) → m ≤ l.length
  | 0, _, _ => Nat.zero_le _
  | m + 1, l, h => by
    have hm := h (m + 1) (by omega) (Nat.le_refl _)
    have := pigeon m (l.erase ((m + 1 : Nat) : Int)) fun j h1 h2 => (List.mem_erase_of_ne (by omega)).2 (h j h1 (by omega))
    rw [List.length_erase_of_mem hm] at this
    have := List.length_pos_of_mem hm
    omega
theorem where_mem {bs : List (List Tk)} {id : Int} (h : ¬ whereP bs id < 0) : id ∈ bs.flatten.map (·.1) := by
  rcases whereP_or bs id with e | ⟨k, e, hk⟩
  · omega
  · obtain ⟨h1, h2⟩ := where_has e
    rw [List.getElem?_eq_getElem h1, Option.getD_some] at h2
    obtain ⟨t, ht, he⟩ := List.any_eq_true.1 h2
    refine List.mem_map.2 ⟨t, List.mem_flatten.2 ⟨_, List.getElem_mem h1, ht⟩, by simpa using he⟩
theorem free_small {room : List Int} {us : List Un} (h : clOk room us = true) {i : Nat} (hi : ∀ j : Nat, 1 ≤ j → j < i → ¬ whereP (us.map (·.2)) (j : Int) < 0) : i ≤ 15 := by
  have := pigeon (i - 1) ((us.map (·.2)).flatten.map (·.1)) fun j h1 h2 => where_mem (hi j h1 (by omega))
  rw [List.length_map] at this
  have := clOk_total h
  omega
theorem one_task {room : List Int} {us : List Un} (h : clOk room us = true) {i : Nat} (h1 : 1 ≤ i) (h2 : i ≤ 15) : tasksOk room [((i : Int), [1, 0, 1])] = true := by
  have r0 := room_pos h (show 0 < 3 by omega)
  have r1 := room_pos h (show 1 < 3 by omega)
  have r2 := room_pos h (show 2 < 3 by omega)
  have hr : roomOk room = true ∧ vecOk room = true := by
    simp only [clOk, binsOk, tasksOk, Bool.and_eq_true] at h
    have := h.1.2.1.2.1.1.1
    refine ⟨this, ?_⟩
    simp only [roomOk, Bool.and_eq_true] at this
    exact this.1
  have hf : fits3 [1, 0, 1] room = true := by
    rw [fits3_iff]
    intro j hj
    match j, hj with
    | 0, _ => simpa using r0.1
    | 1, _ => have := r1.1; simp; omega
    | 2, _ => simpa using r2.1
  have hid : inR 1 40 (i : Int) = true := inR_iff.2 ⟨by omega, by omega⟩
  simp only [tasksOk, hr.1, Bool.true_and, List.length_singleton, List.all_cons, List.all_nil, Bool.and_true, taskOk, hid, vecFits, hr.2, hf, show vecOk [1, 0, 1] = true by decide]
  simp
theorem arr_code {room : List Int} {us : List Un} (h : clOk room us = true) {i : Nat} (h1 : 1 ≤ i) (h2 : i ≤ 15) (hw : whereP (us.map (·.2)) (i : Int) = -1) :
    (cavP room us i [1, 0, 1] true).2.2 = 3 ∨ ((cavP room us i [1, 0, 1] true).2.2 = 0 ∧ ∃ k : Nat, k < us.length ∧ (cavP room us i [1, 0, 1] true).2.1 = us.set k (true, (us[k]?.getD (false, [])).2 ++ [((i : Int), [1, 0, 1])])) := by
  rw [cavP_new h (one_task h h1 h2) hw]
  rcases arvAt_or (room := room) (us := us) (xs := [1, 0, 1]) (g := true) with ha | ⟨k, ha⟩
  · rw [arvP_none ha]; exact .inl rfl
  · by_cases hf : (us.map (·.2)).flatten.length = 14
    · rw [arvP_full hf]; exact .inl rfl
    · rw [arvP_yes ha hf]
      exact .inr ⟨rfl, k, (arv_fits ha).1, rfl⟩
theorem add3_comm (a b : List Int) : add3 a b = add3 b a := by simp [add3, Int.add_comm]
theorem togTo_put {us : List Un} {k : Nat} (hk : k < us.length) (b : Bool) (t : Tk) : ∀ j : Nat, togTo (us.set k (b, (us[k]?.getD (false, [])).2 ++ [t])) j = if k < j then add3 (togTo us j) t.2 else togTo us j
  | 0 => by rw [if_neg (by omega)]; rfl
  | j + 1 => by
    unfold togTo
    rw [togTo_put hk b t j, List.getElem?_set]
    by_cases e : k = j
    · subst e
      rw [if_pos rfl, if_pos hk, if_neg (by omega), if_pos (by omega), Option.getD_some, load_snoc, add3_assoc]
    · rw [if_neg e]
      by_cases h : k < j
      · rw [if_pos h, if_pos (by omega), add3_assoc, add3_assoc, add3_comm t.2]
      · rw [if_neg h, if_neg (by omega)]
theorem uof_arr {room : List Int} {us us' : List Un} {t : Tk} {k : Nat} (h : clOk room us = true) (h' : clOk room us' = true) (hk : k < us.length) (e : us' = us.set k (true, (us[k]?.getD (false, [])).2 ++ [t])) : uofP room us' = add3 (uofP room us) t.2 := by
  unfold uofP
  rw [if_pos h, if_pos h', e, List.length_set, togTo_put hk, if_pos hk]

/-! ### UsageOf of any cluster -/
section
variable {H : Nat → Prop} {v : World} {A1 A2 : Option Addr} {n1 c1 n2 c2 : Nat} {room : List Int} {us : List Un}
set_option maxRecDepth 100000 in
theorem uo_bad (A1 A2 : Option Addr) (n1 c1 n2 c2 cb : Nat) (room : List Int) (us : List Un) (v : World) (h : RdC v A1 A2 n1 n2 room us) (hs : ShU us) (hok : clOk room us = false) (hbox : Blk v cb 26 #[.slice A1 n1 c1, .slice A2 n2 c2]) :
    uoC1.wp Tryz.prog (fun e a v' => (e = .normal ∧ False) ∨ (e = .ret ∧ a.defers = [] ∧ a.tmps.getD 2 undef = .slice none 0 0 ∧ GR v v')) ⟨#[(.agg #[.slice A1 n1 c1, .slice A2 n2 c2]), .pointer (some ⟨cb, 0, none⟩), .slice none 0 0, undef, undef, undef, undef, undef, undef], []⟩ v := by
  have x0 := hbox.cell 0
  have x1 := hbox.cell 1
  simp only [gT, gZ, gS] at x0 x1
  have Hr := qh h
  have Hs := qh hs
  have Hok := qh hok
  clear h hs hbox hok
  simp only [uoC1, uoBody, Tryz.f10, Option.getD_some]
  go_wp2_with fail
  clear x0 x1
  refine (clusterValidI_any A1 A2 n1 c1 n2 c2 room us v Hr.out Hs.out).mono ?_; rintro e w2 ⟨rfl, hb2⟩
  have B2 := qh hb2
  clear hb2
  rw [Hok.out]
  go_wp2_with fail
  exact below_gr B2.out
set_option maxRecDepth 100000 in
theorem usageOfA_v (h : RdC v A1 A2 n1 n2 room us) (hs : ShU us) : CallsV Tryz.prog H 10 #[.agg #[.slice A1 n1 c1, .slice A2 n2 c2]] v (fun x v' => ∃ A m c, x = .slice A m c ∧ RdI v' v'.heap.size A m (uofP room us) ∧ GR v v') := by
  cases hok : clOk room us with
  | true =>
    refine (usageOf_v h hs hok).mono fun x v' ⟨A, c, h1, h2, h3⟩ => ⟨A, 3, c, h1, ?_, h3⟩
    unfold uofP
    rw [if_pos hok]
    exact h2
  | false =>
    refine ⟨_, uoBody, Tryz.func10, by kernel_rfl, by rfl, fun cs => ?_⟩
    have e : (#[Value.agg #[.slice A1 n1 c1, .slice A2 n2 c2]] ++ Array.replicate (Tryz.f10.ntmps - (#[Value.agg #[.slice A1 n1 c1, .slice A2 n2 c2]] : Array Value).size) undef) = #[(.agg #[.slice A1 n1 c1, .slice A2 n2 c2]), undef, undef, undef, undef, undef, undef, undef, undef] := by kernel_rfl
    have hsu := hs
    rw [e, uoBody_eq]
    clear e
    refine KV.seqC anaA_good (Nm := fun v₁ a v' => a = ⟨#[(.agg #[.slice A1 n1 c1, .slice A2 n2 c2]), .pointer (some ⟨v₁.heap.size, 0, none⟩), .slice none 0 0, undef, undef, undef, undef, undef, undef], []⟩ ∧ v' = v₁.alloc (.cells #[.slice A1 n1 c1, .slice A2 n2 c2] 26)) (Rt := fun _ _ _ => False) (by kernel_rfl) (by kernel_rfl) rfl (by kernel_rfl) (fun v₁ hs => ?_) (fun v₁ a' v' hs hq => ?_) (fun _ _ _ _ _ h => h.elim)
    · simp only [uoC0, uoBody, Tryz.f10, Option.getD_some]
      go_wp2
    obtain ⟨rfl, rfl⟩ := hq
    rw [hs.heap]
    refine KV.heap (v := v.alloc (.cells #[.slice A1 n1 c1, .slice A2 n2 c2] 26)) ?_ (hs.alloc _).sym
    clear hs v₁
    have hg1 : GR v (v.alloc (.cells #[.slice A1 n1 c1, .slice A2 n2 c2] 26)) := below_gr (alloc_up v _)
    have hbox : Blk (v.alloc (.cells #[.slice A1 n1 c1, .slice A2 n2 c2] 26)) v.heap.size 26 #[.slice A1 n1 c1, .slice A2 n2 c2] := Blk.new v _ _
    have hr1 := h.gr hg1
    generalize v.alloc (.cells #[.slice A1 n1 c1, .slice A2 n2 c2] 26) = w1 at hg1 hbox hr1 ⊢
    generalize v.heap.size = cb at hbox ⊢
    refine KV.seqC anaA_good (Nm := fun _ _ _ => False) (Rt := fun v₁ a v' => a.defers = [] ∧ a.tmps.getD 2 undef = .slice none 0 0 ∧ GR v₁ v') (by kernel_rfl) (by kernel_rfl) rfl (by kernel_rfl) (fun v₁ hs => ?_) (fun _ _ _ _ h => h.elim) (fun v₁ a' v' todo hs hq => ?_)
    · exact uo_bad A1 A2 n1 c1 n2 c2 cb room us v₁ (hr1.same hs.heap) hsu hok (ViewOf_cells_of hbox hs.heap)
    obtain ⟨h1, h2, hg⟩ := hq
    refine ⟨_, a', todo, _, Tryz.func10, h1, rfl, resultsC_tmp rfl a'.tmps, none, 0, 0, h2, ?_, hg1.trans (GR.from hs hg)⟩
    unfold uofP
    rw [if_neg (by rw [hok]; simp)]
    exact ⟨rfl, by omega, fun h => absurd h (by omega)⟩
end

set_option maxRecDepth 100000 in
set_option maxHeartbeats 1600000 in
theorem usageOfS_any (A1 A2 : Option Addr) (n1 c1 n2 c2 : Nat) (room : List Int) (us : List Un) (w : World) (h : RdC w A1 A2 n1 n2 room us) (hs : ShU us) :
    Calls Tryz.prog 12 #[.agg #[.slice A1 n1 c1, .slice A2 n2 c2]] w fun e w' => ∃ A m c, e = .returned (.slice A m c) ∧ RdI w' w'.heap.size A m (uofP room us) ∧ Below w.heap.size w w' := by
  have B1 := qh (alloc_up w (.cells #[.slice A1 n1 c1, .slice A2 n2 c2] 26))
  have H1 := qh (h.up B1.out)
  have P1 := qh (Blk.new w 26 #[.slice A1 n1 c1, .slice A2 n2 c2])
  have Hs := qh hs
  clear h hs
  go_enter Tryz.func12, Tryz.ntmps12
  go_wp2_with fail
  have hge := B1.out.size
  generalize hgb : w.heap.size = gb at P1 hge ⊢
  generalize w.alloc (.cells #[.slice A1 n1 c1, .slice A2 n2 c2] 26) = w1 at B1 H1 P1 hge ⊢
  have x0 := P1.out.cell 0
  have x1 := P1.out.cell 1
  simp only [gT, gZ, gS] at x0 x1
  go_wp2_with fail
  clear x0 x1
  refine (clusterValidS_any A1 A2 n1 c1 n2 c2 room us w1 H1.out Hs.out).mono ?_; rintro e w2 ⟨rfl, hb2⟩
  have B2 := qh (B1.out.trans (hb2.mono B1.out.size))
  have H2 := qh (H1.out.up hb2)
  have P2 := qh (P1.out.below hb2 P1.out.lt)
  clear hb2 B1 H1 P1 hge
  cases hok : clOk room us with
  | false =>
    have hv := qh (show uofP room us = [] from by unfold uofP; rw [if_neg (by rw [hok]; simp)])
    clear hok
    go_wp2_with fail
    go_ret
    have hbl : Below w.heap.size w (w2.alloc (.cells #[] 3)) := B2.out.trans ((alloc_up w2 _).mono B2.out.size)
    exact ⟨_, _, _, rfl, by rw [hv.out]; exact ⟨rfl, by omega, fun h => absurd h (by omega)⟩, by subst hgb; exact hbl⟩
  | true =>
    have Hok := qh hok
    clear hok
    have x0 := P2.out.cell 0
    have x1 := P2.out.cell 1
    simp only [gT, gZ, gS] at x0 x1
    go_wp2_with fail
    clear x0 x1
    refine (l21Bins_any A1 A2 n1 c1 n2 c2 us w2 H2.out.b (by have := (clOk_facts Hok.out).2.2.1; have := H2.out.b.len; omega)).mono ?_; rintro e w5 ⟨A5, m5, c5, rfl, hr5, hb5⟩
    have B5 := qh (B2.out.trans (hb5.mono B2.out.size))
    have R5 := qh hr5
    clear hr5 hb5 B2 H2 P2
    go_wp2_with fail
    have hlen := clOk_total Hok.out
    refine (l2All_any A5 m5 c5 (us.map (·.2)) w5 R5.out (by omega)).mono ?_; rintro e w6 ⟨A6, m6, c6, rfl, hr6, hb6⟩
    have B6 := qh (B5.out.trans (hb6.mono B5.out.size))
    have R6 := qh hr6
    have hm6 := hr6.len
    clear hr6 hb6 B5 R5
    have hm14 : m6 ≤ 900 := by omega
    have Hm6 := qh hm6
    clear hm6 hlen
    go_wp2_with fail
    have hfl := qh (flat_facts Hok.out)
    refine (l2Load_any A6 m6 c6 (us.map (·.2)).flatten w6 R6.out hm14 (fun j hj => hfl.out.1 j (by have := Hm6.out; omega)) hfl.out.2).mono ?_; rintro e w7 ⟨A7, c7, rfl, hr7, hb7⟩
    have B7 := qh (B6.out.trans (hb7.mono B6.out.size))
    rw [← togTo_load Hok.out] at hr7
    have R7 := qh hr7
    clear hr7 hb7 B6 R6
    go_wp2_with fail
    go_ret
    refine ⟨A7, 3, c7, rfl, ?_, by subst hgb; exact B7.out⟩
    unfold uofP
    rw [if_pos Hok.out]
    exact R7.out
end Go.Proofs.YtlcgbnmmbheleaaGreat
