/- Walk: the reference's l21Arrive. -/
import Derived.Test.YtlcgbnmmbheleaaGreatV26
namespace Go.Proofs.YtlcgbnmmbheleaaGreat
open Go Go.RowKit
attribute [local go_sem ↓] Go.wp_at_zero Go.wp_at_succ

theorem clOk_total {room : List Int} {us : List Un} (h : clOk room us = true) : (us.map (·.2)).flatten.length ≤ 14 := by
  simp only [clOk, binsOk, Bool.and_eq_true] at h
  exact tasksOk_len h.1.2.1.2
theorem idxP_or {α : Type} (p : α → Bool) (xs : List α) : idxP p xs = -1 ∨ ∃ k : Nat, idxP p xs = (k : Int) ∧ k < xs.length := by
  unfold idxP
  cases h : xs.findIdx? p with
  | none => exact .inl rfl
  | some i =>
    rw [List.findIdx?_eq_some_iff_getElem] at h
    obtain ⟨hi, _⟩ := h
    exact .inr ⟨i, rfl, hi⟩
theorem NdUR.grow {w w' : World} {base n j m c : Nat} {vs : List Value} {tk : Nat → Value} {us : List Un} {A : Option Addr} {vt : List Value} {ts : List Tk} (h : NdUR w base n vs tk us) (hj : j < n) (hg : w.grownBy w' (tk j).ownBlock)
    (ho : w'.ownsRow base 40 2 (.slice A m c) m vt) (hn : NdR w' base m vt ts) (hd : (Value.slice A m c).ownBlock = (tk j).ownBlock ∨ (Value.slice A m c).ownBlock = some w.heap.size) :
    NdUR w' base n (vs.set (j * 2 + 1) (.slice A m c)) (fun i => if i = j then .slice A m c else tk i) (us.set j ((us[j]?.getD (false, [])).1, ts)) := by
  have hl := h.2.1
  obtain ⟨_, _, Aj, mj, cj, vj, ej, oj, _⟩ := h.2.2.1 j hj
  refine ⟨by rw [List.length_set]; exact h.1, by rw [List.length_set]; exact hl, fun i hi => ?_, fun i i' hi hi' hii b hb1 hb2 => ?_⟩
  · obtain ⟨h1, h2, A', m', c', vt', h3, h4, h5⟩ := h.2.2.1 i hi
    by_cases e : i = j
    · subst e
      have g1 : (vs.set (i * 2 + 1) (.slice A m c))[i * 2]? = vs[i * 2]? := List.getElem?_set_ne (by omega)
      have g2 : (vs.set (i * 2 + 1) (.slice A m c))[i * 2 + 1]? = some (.slice A m c) := List.getElem?_set_self (by omega)
      have g3 : (us.set i ((us[i]?.getD (false, [])).1, ts))[i]? = some ((us[i]?.getD (false, [])).1, ts) := List.getElem?_set_self (by rw [h.1]; exact hi)
      dsimp only
      rw [g1, g2, g3, if_pos rfl]
      exact ⟨h1, rfl, A, m, c, vt, rfl, ho, hn⟩
    · have g1 : (vs.set (j * 2 + 1) (.slice A m c))[i * 2]? = vs[i * 2]? := List.getElem?_set_ne (by omega)
      have g2 : (vs.set (j * 2 + 1) (.slice A m c))[i * 2 + 1]? = vs[i * 2 + 1]? := List.getElem?_set_ne (by omega)
      have g3 : (us.set j ((us[j]?.getD (false, [])).1, ts))[i]? = us[i]? := List.getElem?_set_ne (fun x => e x.symm)
      dsimp only
      rw [g1, g2, g3, if_neg e]
      refine ⟨h1, h2, A', m', c', vt', h3, own_keep h4 (fun b hb => hg.block b (h4.lt b hb).2 (fun e' => h.2.2.2 i j hi hj e b (by rw [h3]; exact hb) e'.symm)), ?_⟩
      rw [ej] at hg
      exact h5.grown oj (by decide) hg
  · dsimp only at hb1 hb2
    have old : ∀ i, i < n → ∀ b, (tk i).ownBlock = some b → b < w.heap.size := fun i hi b hb => by
      obtain ⟨_, _, A', m', c', vt', h3, h4, _⟩ := h.2.2.1 i hi
      rw [h3] at hb
      exact (h4.lt b hb).2
    by_cases ei : i = j
    · have ej' : i' ≠ j := fun x => hii (by omega)
      rw [if_pos ei] at hb1
      rw [if_neg ej'] at hb2
      rcases hd with hd | hd
      · rw [hd] at hb1
        exact h.2.2.2 j i' hj hi' (fun x => ej' x.symm) b hb1 hb2
      · rw [hd] at hb1
        injection hb1 with hb1
        have := old i' hi' b hb2
        omega
    · rw [if_neg ei] at hb1
      by_cases ej' : i' = j
      · rw [if_pos ej'] at hb2
        rcases hd with hd | hd
        · rw [hd] at hb2
          exact h.2.2.2 i j hi hj ei b hb1 hb2
        · rw [hd] at hb2
          injection hb2 with hb2
          have := old i hi b hb1
          omega
      · rw [if_neg ej'] at hb2
        exact h.2.2.2 i i' hi hi' hii b hb1 hb2

def OwnCX (w : World) (base : Nat) (v1 v2 : Value) (m1 m2 : Nat) (room : List Int) (us : List Un) (vs : List Value) (tk : Nat → Value) : Prop := w.ownsRow base 3 1 v1 m1 (room.map (Value.int .i64)) ∧ w.ownsRow base 32 2 v2 m2 vs ∧ NdUR w base m2 vs tk us
theorem OwnCX.keepTU {w w' : World} {base m1 m2 : Nat} {v1 v2 : Value} {room : List Int} {us : List Un} {vs : List Value} {tk : Nat → Value} (h : OwnCX w base v1 v2 m1 m2 room us vs tk) (hk : KeepTU w w') : OwnCX w' base v1 v2 m1 m2 room us vs tk :=
  ⟨own_keepTI h.1 (.inl rfl) hk.ti, own_keepB h.2.1 (fun b cs _ hc => hk b ⟨_, cs, .inr (.inr rfl), hc⟩), h.2.2.keepTI hk.ti⟩
theorem OwnCX.cr {w : World} {base m1 m2 : Nat} {v1 v2 : Value} {room : List Int} {us : List Un} {vs : List Value} {tk : Nat → Value} (h : OwnCX w base v1 v2 m1 m2 room us vs tk) : OwnCR w base v1 v2 m1 m2 room us := ⟨h.1, vs, tk, h.2.1, h.2.2⟩
theorem NdUR.old {w : World} {base n : Nat} {vs : List Value} {tk : Nat → Value} {us : List Un} (h : NdUR w base n vs tk us) : ∀ i, i < n → ∀ b, (tk i).ownBlock = some b → b < w.heap.size := fun i hi b hb => by
  obtain ⟨_, _, A', m', c', vt', h3, h4, _⟩ := h.2.2.1 i hi
  rw [h3] at hb
  exact (h4.lt b hb).2
theorem arv_join {w : World} {base m1 m2 k : Nat} {v1 v2 : Value} {room : List Int} {us : List Un} {vs : List Value} {tk : Nat → Value} {T0 T : List Tk} (h1 : w.ownsRow base 3 1 v1 m1 (room.map (Value.int .i64))) (h2 : w.ownsRow base 32 2 v2 m2 vs)
    (h3 : NdUR w base m2 vs tk ((us.set k (true, T0)).set k (((us.set k (true, T0))[k]?.getD (false, [])).1, T))) (hk : k < us.length) : OwnCR w base v1 v2 m1 m2 room (us.set k (true, T)) := by
  have e : ((us.set k (true, T0))[k]?.getD (false, [])).1 = true := by rw [List.getElem?_set_self hk]; rfl
  rw [e, List.set_set] at h3
  exact ⟨h1, vs, tk, h2, h3⟩

def KeepCl (w w' : World) : Prop := ∀ b cs, Blk w b 26 cs → w'.heap[b]? = w.heap[b]?
section
variable {w w' w'' : World}
theorem KeepCl.up (h : Below w.heap.size w w') : KeepCl w w' := fun b _ hb => h.block b hb.lt
theorem KeepCl.trans (h : KeepCl w w') (k : KeepCl w' w'') : KeepCl w w'' := fun b cs hb => (k b cs ((h b cs hb).trans hb)).trans (h b cs hb)
theorem KeepCl.step (h : KeepCl w w') (k : Below w'.heap.size w' w'') : KeepCl w w'' := h.trans (KeepCl.up k)
theorem KeepCl.drew (h : KeepCl w w') : KeepCl w w'.drew := h
theorem KeepCl.set_ {g : Nat} {t : TypeId} {cs : Array Value} (h : KeepCl w w') (hb : Blk w' g t cs) (ht : t ≠ 26) (i : Nat) (u : Value) : KeepCl w (w'.setCell ⟨g, i, none⟩ u) := h.trans (fun b cs' hb' => Below.heap_setCell _ _ _ _ (by
  show b ≠ g
  rintro rfl
  unfold Blk at hb hb'
  rw [hb] at hb'
  injection hb' with e
  injection e with _ e
  exact ht e))
theorem KeepCl.new {g : Nat} (h : KeepCl w w') (hg : w.heap.size ≤ g) (i : Nat) (u : Value) : KeepCl w (w'.setCell ⟨g, i, none⟩ u) := fun b _ hb => (Below.heap_setCell _ _ _ _ (by show b ≠ g; have := hb.lt; omega)).trans (h b _ hb)
theorem KeepCl.grown {base s m : Nat} {t : TypeId} {r : Value} {xs : List Value} (h : KeepCl w w') (ho : w'.ownsRow base t s r m xs) (hg : w'.grownBy w'' r.ownBlock) (ht : t ≠ 26) : KeepCl w w'' := h.trans (fun b _ hb => hg.block b hb.lt (fun e => own_blk_ne ho hb ht e.symm))
theorem KeepCl.blk {b : Nat} {cs : Array Value} (h : KeepCl w w') (hb : Blk w b 26 cs) : Blk w' b 26 cs := (h b cs hb).trans hb
end

def arvAt (room : List Int) (us : List Un) (xs : List Int) (g : Bool) : Int := if cAtP room us xs true < 0 ∧ g = true then cAtP room us xs false else cAtP room us xs true
def arvP (room : List Int) (us : List Un) (id : Int) (xs : List Int) (g : Bool) : List Un × Int :=
  if arvAt room us xs g < 0 ∨ (us.map (·.2)).flatten.length = 14 then (us, 3) else (us.set (arvAt room us xs g).toNat (true, (us[(arvAt room us xs g).toNat]?.getD (false, [])).2 ++ [(id, xs)]), 0)
section
variable {room : List Int} {us : List Un} {id : Int} {xs : List Int} {g : Bool} {k : Nat}
theorem arvAt_open (h : cAtP room us xs true = (k : Int)) : arvAt room us xs g = k := by unfold arvAt; rw [if_neg (by omega), h]
theorem arvAt_closed (h : cAtP room us xs true = -1) (h' : cAtP room us xs false = (k : Int)) : arvAt room us xs true = k := by unfold arvAt; rw [if_pos ⟨by omega, rfl⟩, h']
theorem arvAt_none (h : cAtP room us xs true = -1) : arvAt room us xs false = -1 := by unfold arvAt; rw [if_neg (by simp), h]
theorem arvAt_none' (h : cAtP room us xs true = -1) (h' : cAtP room us xs false = -1) : arvAt room us xs true = -1 := by unfold arvAt; rw [if_pos ⟨by omega, rfl⟩, h']
theorem arvP_none (h : arvAt room us xs g = -1) : arvP room us id xs g = (us, 3) := by unfold arvP; rw [if_pos (.inl (by omega))]
theorem arvP_full (h : (us.map (·.2)).flatten.length = 14) : arvP room us id xs g = (us, 3) := by unfold arvP; rw [if_pos (.inr h)]
theorem arvP_yes (h : arvAt room us xs g = (k : Int)) (h' : ¬ (us.map (·.2)).flatten.length = 14) : arvP room us id xs g = (us.set k (true, (us[k]?.getD (false, [])).2 ++ [(id, xs)]), 0) := by
  unfold arvP; rw [if_neg (by rw [h]; omega), h, Int.toNat_natCast]
end

set_option maxRecDepth 100000 in
set_option maxHeartbeats 6400000 in
theorem l21Arrive_any (base : Nat) (A1 A2 A3 : Option Addr) (n1 c1 n2 c2 c3 : Nat) (room : List Int) (us : List Un) (id : Int) (xs : List Int) (g : Bool) (w : World) (hbs : base ≤ w.heap.size) (h : OwnCR w base (.slice A1 n1 c1) (.slice A2 n2 c2) n1 n2 room us) (hx : RdI w base A3 3 xs) (hok : clOk room us = true) (hv : vecOk xs = true) :
    Calls Tryz.prog 72 #[.agg #[.slice A1 n1 c1, .slice A2 n2 c2], .agg #[.int .i64 id, .slice A3 3 c3], .bool g] w fun e w' => e = .returned (.tuple #[.agg #[.slice A1 n1 c1, .slice A2 n2 c2], .int .i64 (arvP room us id xs g).2]) ∧ OwnCR w' base (.slice A1 n1 c1) (.slice A2 n2 c2) n1 n2 room (arvP room us id xs g).1 ∧ Below base w w' ∧ KeepCl w w' := by
  obtain ⟨i0, hi0, hz0, hz1, hz2⟩ := info_parts ownI_info
  obtain ⟨t0, ht0, htz0, htz1, htz2⟩ := info_parts task_info
  have hl := qh h.len.2.1
  have HX := qh hx
  have Hok := qh hok
  have Hv := qh hv
  have ln : n2 ≤ 10 := by have := (clOk_facts hok).2.2.1; have := h.len.2.1; omega
  have sz : (w.alloc (.cells #[.slice A1 n1 c1, .slice A2 n2 c2] 26)).heap.size = w.heap.size + 1 := World.size_alloc _ _
  have sz2 : ((w.alloc (.cells #[.slice A1 n1 c1, .slice A2 n2 c2] 26)).alloc (.cells #[.int .i64 id, .slice A3 3 c3] 40)).heap.size = w.heap.size + 2 := by rw [World.size_alloc, sz]
  have b0 := (((alloc_up w (.cells #[.slice A1 n1 c1, .slice A2 n2 c2] 26)).alloc (by rw [sz]; omega) (.cells #[.int .i64 id, .slice A3 3 c3] 40)).alloc (by rw [sz2]; omega) (.cells #[.slice none 0 0, .slice none 0 0] 26))
  have B1 := qh (b0.mono hbs)
  have KC1 := qh (KeepCl.up b0)
  have P1 := qh (((Blk.new w 26 #[.slice A1 n1 c1, .slice A2 n2 c2]).alloc (.cells #[.int .i64 id, .slice A3 3 c3] 40)).alloc (.cells #[.slice none 0 0, .slice none 0 0] 26))
  have hT := (Blk.new (w.alloc (.cells #[.slice A1 n1 c1, .slice A2 n2 c2] 26)) 40 #[.int .i64 id, .slice A3 3 c3]).alloc (.cells #[.slice none 0 0, .slice none 0 0] 26)
  rw [sz] at hT
  have T1 := qh hT
  have hZ := Blk.new ((w.alloc (.cells #[.slice A1 n1 c1, .slice A2 n2 c2] 26)).alloc (.cells #[.int .i64 id, .slice A3 3 c3] 40)) 26 #[.slice none 0 0, .slice none 0 0]
  rw [sz2] at hZ
  have Z1 := qh hZ
  obtain ⟨hh1, vs0, tk, hh2, hh3⟩ := h
  have Hold := qh hh3.old
  have OC1 := qh ((show OwnCX w base (.slice A1 n1 c1) (.slice A2 n2 c2) n1 n2 room us vs0 tk from ⟨hh1, hh2, hh3⟩).keepTU (KeepTU.up b0))
  clear hh1 hh2 hh3 hx hok hv hT hZ sz sz2 b0
  have y0 := (P1.out).cell 0
  have y1 := (P1.out).cell 1
  simp only [gT, gZ, gS] at y0 y1
  have y2 := (P1.out).frozen 0
  have y3 := (P1.out).frozen 1
  have t1 := (T1.out).cell 0
  have t2 := (T1.out).cell 1
  simp only [gT, gZ, gS] at t1 t2
  have t3 := (T1.out).frozen 0
  have t4 := (T1.out).frozen 1
  go_enter Tryz.func72, Tryz.ntmps72
  go_wp2_with fail
  generalize ((w.alloc (.cells #[.slice A1 n1 c1, .slice A2 n2 c2] 26)).alloc (.cells #[.int .i64 id, .slice A3 3 c3] 40)).alloc (.cells #[.slice none 0 0, .slice none 0 0] 26) = w1 at B1 KC1 P1 T1 Z1 OC1 y0 y1 y2 y3 t1 t2 t3 t4 ⊢
  refine (l21At_any A1 A2 A3 n1 c1 n2 c2 c3 room us id xs true w1 OC1.out.cr.rd ((HX.out.below B1.out).more (by have := B1.out.size; omega)) Hok.out Hv.out).mono ?_; rintro e w2 ⟨rfl, hb2⟩
  have B2 := qh (B1.out.trans (hb2.mono (by have := B1.out.size; omega)))
  have P2 := qh (P1.out.below hb2 P1.out.lt)
  have T2 := qh (T1.out.below hb2 T1.out.lt)
  have Z2 := qh (Z1.out.below hb2 Z1.out.lt)
  have OC2 := qh (OC1.out.keepTU (KeepTU.up hb2))
  have KC2 := qh (KC1.out.step hb2)
  clear KC1 hb2 y0 y1 y2 y3 t1 t2 t3 t4 B1 P1 T1 Z1 OC1
  have y0 := (P2.out).cell 0
  have y1 := (P2.out).cell 1
  simp only [gT, gZ, gS] at y0 y1
  have y2 := (P2.out).frozen 0
  have y3 := (P2.out).frozen 1
  have t1 := (T2.out).cell 0
  have t2 := (T2.out).cell 1
  simp only [gT, gZ, gS] at t1 t2
  have t3 := (T2.out).frozen 0
  have t4 := (T2.out).frozen 1
  rcases idxP_or (atB room xs true) us with hw | ⟨k, hw, hkl⟩
  · have hw : cAtP room us xs true = -1 := hw
    rw [hw]
    cases g with
    | false =>
      have Hp := qh (arvP_none (id := id) (arvAt_none hw))
      have x0 := (Z2.out).cell 0
      have x1 := (Z2.out).cell 1
      simp only [gT, gZ, gS] at x0 x1
      have x2 := (Z2.out).frozen 0
      have x3 := (Z2.out).frozen 1
      clear hw
      go_wp2_with fail
      have KT := (KeepTU.set_ (Z2.out) (by decide) (by decide) (by decide) 0 (.slice A1 n1 c1)).trans (KeepTU.set_ ((Z2.out).set_ 0 (.slice A1 n1 c1)) (by decide) (by decide) (by decide) 1 (.slice A2 n2 c2))
      have EQ := qh (((Z2.out).set_ 0 (.slice A1 n1 c1)).set_ 1 (.slice A2 n2 c2))
      have B9 := qh (((B2.out).setCell (p := ⟨w.heap.size + 2, 0, none⟩) (by show base ≤ w.heap.size + 2; omega) (.slice A1 n1 c1)).setCell (p := ⟨w.heap.size + 2, 1, none⟩) (by show base ≤ w.heap.size + 2; omega) (.slice A2 n2 c2))
      have OC := qh ((OC2.out.cr).keepTU KT)
      have KC9 := qh (((KC2.out).new (g := w.heap.size + 2) (by omega) 0 (.slice A1 n1 c1)).new (g := w.heap.size + 2) (by omega) 1 (.slice A2 n2 c2))
      clear KT
      generalize World.setCell (World.setCell w2 ⟨w.heap.size + 2, 0, none⟩ (.slice A1 n1 c1)) ⟨w.heap.size + 2, 1, none⟩ (.slice A2 n2 c2) = w9 at EQ B9 OC KC9 ⊢
      have z0 : w9.cell? ⟨w.heap.size + 2, 0, none⟩ = some (.slice A1 n1 c1) := EQ.out.cell 0
      have z1 : w9.cell? ⟨w.heap.size + 2, 1, none⟩ = some (.slice A2 n2 c2) := EQ.out.cell 1
      refine bodyPost_ret (v := .tuple #[.agg #[.slice A1 n1 c1, (.slice A2 n2 c2)], .int .i64 3]) (by simp [results, Tryz.results72, go_sem, z0, z1]) rfl ⟨by rw [Hp.out], ?_, B9.out, KC9.out⟩
      rw [Hp.out]
      exact OC.out
    | true =>
      go_wp2_with fail
      refine (l21At_any A1 A2 A3 n1 c1 n2 c2 c3 room us id xs false w2 OC2.out.cr.rd ((HX.out.below B2.out).more (by have := B2.out.size; omega)) Hok.out Hv.out).mono ?_; rintro e w3 ⟨rfl, hb3⟩
      have B3 := qh (B2.out.trans (hb3.mono (by have := B2.out.size; omega)))
      have P3 := qh (P2.out.below hb3 P2.out.lt)
      have T3 := qh (T2.out.below hb3 T2.out.lt)
      have Z3 := qh (Z2.out.below hb3 Z2.out.lt)
      have OC3 := qh (OC2.out.keepTU (KeepTU.up hb3))
      have KC3 := qh (KC2.out.step hb3)
      clear KC2 hb3 y0 y1 y2 y3 t1 t2 t3 t4 B2 P2 T2 Z2 OC2
      have y0 := (P3.out).cell 0
      have y1 := (P3.out).cell 1
      simp only [gT, gZ, gS] at y0 y1
      have y2 := (P3.out).frozen 0
      have y3 := (P3.out).frozen 1
      have t1 := (T3.out).cell 0
      have t2 := (T3.out).cell 1
      simp only [gT, gZ, gS] at t1 t2
      have t3 := (T3.out).frozen 0
      have t4 := (T3.out).frozen 1
      rcases idxP_or (atB room xs false) us with hw2 | ⟨k, hw2, hkl⟩
      · have hw2 : cAtP room us xs false = -1 := hw2
        have Hp := qh (arvP_none (id := id) (arvAt_none' hw hw2))
        rw [hw2]
        clear hw hw2
        have x0 := (Z3.out).cell 0
        have x1 := (Z3.out).cell 1
        simp only [gT, gZ, gS] at x0 x1
        have x2 := (Z3.out).frozen 0
        have x3 := (Z3.out).frozen 1
        go_wp2_with fail
        have KT := (KeepTU.set_ (Z3.out) (by decide) (by decide) (by decide) 0 (.slice A1 n1 c1)).trans (KeepTU.set_ ((Z3.out).set_ 0 (.slice A1 n1 c1)) (by decide) (by decide) (by decide) 1 (.slice A2 n2 c2))
        have EQ := qh (((Z3.out).set_ 0 (.slice A1 n1 c1)).set_ 1 (.slice A2 n2 c2))
        have B9 := qh (((B3.out).setCell (p := ⟨w.heap.size + 2, 0, none⟩) (by show base ≤ w.heap.size + 2; omega) (.slice A1 n1 c1)).setCell (p := ⟨w.heap.size + 2, 1, none⟩) (by show base ≤ w.heap.size + 2; omega) (.slice A2 n2 c2))
        have OC := qh ((OC3.out.cr).keepTU KT)
        have KC9 := qh (((KC3.out).new (g := w.heap.size + 2) (by omega) 0 (.slice A1 n1 c1)).new (g := w.heap.size + 2) (by omega) 1 (.slice A2 n2 c2))
        clear KT
        generalize World.setCell (World.setCell w3 ⟨w.heap.size + 2, 0, none⟩ (.slice A1 n1 c1)) ⟨w.heap.size + 2, 1, none⟩ (.slice A2 n2 c2) = w9 at EQ B9 OC KC9 ⊢
        have z0 : w9.cell? ⟨w.heap.size + 2, 0, none⟩ = some (.slice A1 n1 c1) := EQ.out.cell 0
        have z1 : w9.cell? ⟨w.heap.size + 2, 1, none⟩ = some (.slice A2 n2 c2) := EQ.out.cell 1
        refine bodyPost_ret (v := .tuple #[.agg #[.slice A1 n1 c1, (.slice A2 n2 c2)], .int .i64 3]) (by simp [results, Tryz.results72, go_sem, z0, z1]) rfl ⟨by rw [Hp.out], ?_, B9.out, KC9.out⟩
        rw [Hp.out]
        exact OC.out
      · have hw2 : cAtP room us xs false = (k : Int) := hw2
        have Hat := qh (arvAt_closed hw hw2)
        rw [hw2]
        clear hw hw2
        rw [hl.out] at hkl
        have k1 : (0 : Int) ≤ (k : Int) := by omega
        have k2 : (k : Int) < (n2 : Int) := by omega
        have k3 : 0 ≤ (k : Int) * 2 := by omega
        go_wp2_with fail
        refine (l21Bins_any A1 A2 n1 c1 n2 c2 us w3 OC3.out.cr.rd.b (by omega)).mono ?_; rintro e w5 ⟨A5, m5, c5, rfl, hr5, hb5⟩
        have hcall := qh (l2All_own A5 m5 c5 (us.map (·.2)) w5 hr5 (by have := clOk_total Hok.out; omega))
        have hb5' := qh hb5
        clear hr5 hb5
        go_wp2_with fail
        refine hcall.out.mono ?_; rintro e w6 ⟨A6, m6, c6, v6, rfl, _, _, _, hm6, hb6⟩
        have hb := below_to hb5'.out hb6
        have B6 := qh (B3.out.trans (hb.mono (by have := B3.out.size; omega)))
        have P6 := qh (P3.out.below hb P3.out.lt)
        have T6 := qh (T3.out.below hb T3.out.lt)
        have Z6 := qh (Z3.out.below hb Z3.out.lt)
        have OC6 := qh (OC3.out.keepTU (KeepTU.up hb))
        have KC6 := qh (KC3.out.step hb)
        have Hm6 := qh hm6
        clear KC3 hb hb6 hcall hb5' hm6 y0 y1 y2 y3 t1 t2 t3 t4 B3 P3 T3 Z3 OC3
        have y0 := (P6.out).cell 0
        have y1 := (P6.out).cell 1
        simp only [gT, gZ, gS] at y0 y1
        have y2 := (P6.out).frozen 0
        have y3 := (P6.out).frozen 1
        
        have t1 := (T6.out).cell 0
        have t2 := (T6.out).cell 1
        simp only [gT, gZ, gS] at t1 t2
        have t3 := (T6.out).frozen 0
        have t4 := (T6.out).frozen 1
        
        by_cases hfull : m6 = 14
        · have Hp := qh (arvP_full (room := room) (id := id) (xs := xs) (g := true) (by rw [Hm6.out]; exact hfull))
          subst hfull
          have x0 := (Z6.out).cell 0
          have x1 := (Z6.out).cell 1
          simp only [gT, gZ, gS] at x0 x1
          have x2 := (Z6.out).frozen 0
          have x3 := (Z6.out).frozen 1
          go_wp2_with fail
          have KT := (KeepTU.set_ (Z6.out) (by decide) (by decide) (by decide) 0 (.slice A1 n1 c1)).trans (KeepTU.set_ ((Z6.out).set_ 0 (.slice A1 n1 c1)) (by decide) (by decide) (by decide) 1 (.slice A2 n2 c2))
          have EQ := qh (((Z6.out).set_ 0 (.slice A1 n1 c1)).set_ 1 (.slice A2 n2 c2))
          have B9 := qh (((B6.out).setCell (p := ⟨w.heap.size + 2, 0, none⟩) (by show base ≤ w.heap.size + 2; omega) (.slice A1 n1 c1)).setCell (p := ⟨w.heap.size + 2, 1, none⟩) (by show base ≤ w.heap.size + 2; omega) (.slice A2 n2 c2))
          have OC := qh ((OC6.out.cr).keepTU KT)
          have KC9 := qh (((KC6.out).new (g := w.heap.size + 2) (by omega) 0 (.slice A1 n1 c1)).new (g := w.heap.size + 2) (by omega) 1 (.slice A2 n2 c2))
          clear KT
          generalize World.setCell (World.setCell w6 ⟨w.heap.size + 2, 0, none⟩ (.slice A1 n1 c1)) ⟨w.heap.size + 2, 1, none⟩ (.slice A2 n2 c2) = w9 at EQ B9 OC KC9 ⊢
          have z0 : w9.cell? ⟨w.heap.size + 2, 0, none⟩ = some (.slice A1 n1 c1) := EQ.out.cell 0
          have z1 : w9.cell? ⟨w.heap.size + 2, 1, none⟩ = some (.slice A2 n2 c2) := EQ.out.cell 1
          refine bodyPost_ret (v := .tuple #[.agg #[.slice A1 n1 c1, (.slice A2 n2 c2)], .int .i64 3]) (by simp [results, Tryz.results72, go_sem, z0, z1]) rfl ⟨by rw [Hp.out], ?_, B9.out, KC9.out⟩
          rw [Hp.out]
          exact OC.out
        · have Hp := qh (arvP_yes (id := id) (g := true) Hat.out (by rw [Hm6.out]; exact hfull))
          have hfull' : ((m6 : Int) == 14) = false := by simpa using (show ¬ (m6 : Int) = 14 by omega)
          obtain ⟨hr6, hU, hN⟩ := OC6.out
          obtain ⟨gu, cap, hv, hgu1, hgu2⟩ := hU.form (by omega)
          injection hv with hv1 hv2 hv3
          subst hv1 hv3
          obtain ⟨e1, _⟩ := hN.2.2.1 k hkl
          have u1 := hU.cells (g := gu) rfl (k * 2) _ e1
          rw [addr_add, Nat.zero_add] at u1
          have f1 := hU.frozenAt (k * 2)
          obtain ⟨_, curU, eU, _, hbU⟩ := own_row hU (by omega)
          injection eU with eU
          injection eU with eU
          subst eU
          have KT := KeepTI.set_ hbU (by decide) (by decide) (k * 2) (.bool true)
          have B7 := qh (B6.out.setCell (p := ⟨gu, k * 2, none⟩) (by show base ≤ gu; omega) (.bool true))
          have P7 := qh (P6.out.far (p := ⟨gu, k * 2, none⟩) (fun e => own_blk_ne hU P6.out (by decide) (by rw [e]; rfl)) (.bool true))
          have T7 := qh (T6.out.far (p := ⟨gu, k * 2, none⟩) (fun e => own_blk_ne hU T6.out (by decide) (by rw [e]; rfl)) (.bool true))
          have Z7 := qh (Z6.out.far (p := ⟨gu, k * 2, none⟩) (fun e => own_blk_ne hU Z6.out (by decide) (by rw [e]; rfl)) (.bool true))
          have M7 := qh (own_keepTI hr6 (.inl rfl) KT)
          have U7 := qh (own_set hU (k * 2) (.bool true))
          have N7 := qh ((hN.keepTI KT).open_ (op := true) hkl)
          have HX7 := qh (HX.out.below B7.out)
          have KC7 := qh (KC6.out.set_ hbU (by decide) (k * 2) (.bool true))
          clear hU hN hr6 e1 OC6 KT hbU
          go_wp2_with fail
          generalize w6.setCell ⟨gu, k * 2, none⟩ (.bool true) = w7 at B7 P7 T7 Z7 M7 U7 N7 HX7 KC7 ⊢
          clear y0 y1 y2 y3 t1 t2 t3 t4 u1 f1 B6 P6 T6 Z6 KC6
          obtain ⟨_, e2, At, mt, ct, vt, e3, e4, e5⟩ := N7.out.2.2.1 k hkl
          have hku : ((us.set k (true, (us[k]?.getD (false, [])).2))[k]?.getD (false, [])) = (true, (us[k]?.getD (false, [])).2) := by rw [List.getElem?_set_self (by rw [hl.out]; exact hkl)]; rfl
          have e5 : NdR w7 base mt vt (us[k]?.getD (false, [])).2 := by rw [hku] at e5; exact e5
          have hlt : mt ≤ 14 := by have := (clOk_facts Hok.out).2.2.2 _ (un_mem (show k < us.length by rw [hl.out]; exact hkl)); have := e5.1; omega
          have u1 := U7.out.cells (g := gu) rfl (k * 2 + 1) _ (by rw [e2, e3])
          rw [addr_add, Nat.zero_add] at u1
          have B8 := qh B7.out.drew
          have KC8 := qh KC7.out.drew
          have P8 := qh P7.out.drew
          have T8 := qh T7.out.drew
          have Z8 := qh Z7.out.drew
          have M8 := qh (World.ownsRow.drew M7.out)
          have U8 := qh (World.ownsRow.drew U7.out)
          have N8 := qh (N7.out.keepTI (KeepTI.drew w7))
          have R8 := qh (World.ownsRow.drew e4)
          have V8 := qh (e5.keepTI (KeepTI.drew w7))
          have HX8 := qh (show RdI w7.drew base A3 3 xs from HX7.out)
          have K0 : w7.drew.cell? ⟨w.heap.size, 1, none⟩ = some (.slice (some ⟨gu, 0, none⟩) n2 c2) ∧ w7.drew.cell? ⟨w.heap.size + 1, 0, none⟩ = some (.int .i64 id) ∧ w7.drew.cell? ⟨w.heap.size + 1, 1, none⟩ = some (.slice A3 3 c3) := ⟨P8.out.cell 1, T8.out.cell 0, T8.out.cell 1⟩
          have HL8 : w7.drew.cell? ⟨gu, k * 2 + 1, none⟩ = some (.slice At mt ct) := u1
          have lgu : gu < w7.drew.heap.size := (U8.out.lt gu rfl).2
          have Htk := qh e3
          clear e2 e3 e4 e5 u1 hku KC7 B7 P7 T7 Z7 M7 U7 N7 HX7
          have lT : w.heap.size + 1 < w7.drew.heap.size := T8.out.lt
          have lz : base ≤ w7.drew.heap.size := by have := B8.out.size; omega
          refine wp_region_mix (.take 0 (.take 1 (.take 2 (.take 3 (.take 4 (.take 5 (.take 6 (.take 7 (.take 9 (.take 10 (.take 12 (.take 13 (.fork 8 (.bar 11 (.bar 14 (.take 15 (.bar 16 (.bar 17 (.take 18 (.take 19 (.bar 20 .nil)))))))) 11 (.fork 8 (.bar 14 (.take 15 (.bar 16 (.bar 17 (.take 18 (.take 19 (.bar 20 .nil))))))) 14 (.take 15 (.fork 8 (.bar 16 (.bar 17 (.take 18 (.take 19 (.bar 20 .nil))))) 16 (.bar 8 (.bar 17 (.take 18 (.take 19 (.bar 20 .nil))))))))))))))))))))) (fun w' => w'.cell? ⟨w.heap.size, 1, none⟩ = some (.slice (some ⟨gu, 0, none⟩) n2 c2) ∧ w'.cell? ⟨w.heap.size + 1, 0, none⟩ = some (.int .i64 id) ∧ w'.cell? ⟨w.heap.size + 1, 1, none⟩ = some (.slice A3 3 c3)) (by kernel_rfl) (by kernel_rfl) K0 (fun _ => ?_)
          repeat ((first | refine mxS (by rfl) (by rfl) ?_ | (refine mxT (v := ?_) (by rfl) (by rfl) (fun z y => ?_) ?_; rotate_left; (focus ((try dsimp only at y); (go_simp <;> with_reducible rfl); done)))); (try simp only [Act.put,pS,pZ,pC]))
          generalize w7.drew = u0 at K0 HL8 KC8 B8 P8 T8 Z8 M8 U8 N8 R8 V8 HX8 lgu lT lz ⊢
          have hS := qh (fun w' (hb : Below u0.heap.size u0 w') => (⟨(hb.cell (p := ⟨w.heap.size, 1, none⟩) (by show w.heap.size < _; omega)).trans K0.1, (hb.cell (p := ⟨w.heap.size + 1, 0, none⟩) (by show w.heap.size + 1 < _; omega)).trans K0.2.1, (hb.cell (p := ⟨w.heap.size + 1, 1, none⟩) (by show w.heap.size + 1 < _; omega)).trans K0.2.2⟩ : w'.cell? ⟨w.heap.size, 1, none⟩ = some (.slice (some ⟨gu, 0, none⟩) n2 c2) ∧ w'.cell? ⟨w.heap.size + 1, 0, none⟩ = some (.int .i64 id) ∧ w'.cell? ⟨w.heap.size + 1, 1, none⟩ = some (.slice A3 3 c3)))
          have hUk := qh (fun w' (hb : Below u0.heap.size u0 w') => ((hb.cell (p := ⟨gu, k * 2 + 1, none⟩) lgu).trans HL8 : w'.cell? ⟨gu, k * 2 + 1, none⟩ = some (.slice At mt ct)))
          clear HL8
          have hTg : w.heap.size + 1 ≠ gu := fun e => own_blk_ne U8.out T8.out (by decide) (by rw [e]; rfl)
          refine wpMix_fork (by rfl) (by rfl) (fun K hK => ?_) (fun K hK => ?_)
          · have q1 : u0.cell? ⟨gu, k * 2 + 1, none⟩ = some (.slice At mt ct) := hUk.out _ (Below.refl _ _)
            go_simp
            clear q1
            ((try dsimp only); refine nxK hK _ _ (hS.out _ (Below.refl _ _)) ?_; clear hK K; (try simp only [Act.put,pS,pZ,pC]))
            (refine mxB (by rfl) (fun K hK => ?_); go_simp)
            have E1 := qh (show (u0.alloc (.cells #[] 3)).ownsRow u0.heap.size 3 1 (.slice (some ⟨u0.heap.size, 0, none⟩) 0 0) 0 [] from World.ownsRow_lit (base := u0.heap.size) (e := 3) (size := 1) u0 #[] 0 (Nat.le_refl _) (by unfold maxLen; omega) rfl)
            have D1 := qh (alloc_up u0 (.cells #[] 3))
            have S1 := qh (srcOfI ((HX8.out.below (D1.out.mono lz)).more (show base ≤ (u0.alloc (.cells #[] 3)).heap.size by rw [World.size_alloc]; omega)))
            have N1 := qh (ints_cell1 xs)
            ((try dsimp only); refine nxK hK _ _ (hS.out _ D1.out) ?_; clear hK K; (try simp only [Act.put,pS,pZ,pC]))
            generalize u0.alloc (.cells #[] 3) = u1 at E1 D1 S1 ⊢
            refine mxB (by rfl) (fun K hK => ?_)
            rw [if_pos (by rfl)]
            refine wp_append_src _ _ _ 23 (by rfl) u0.heap.size 3 i0 _ 1 8 Tryz.underlying23 hi0 hz0 hz1 hz2 rfl (by omega) (.slice (some ⟨u0.heap.size, 0, none⟩) 0 0) 0 [] (by rfl) E1.out A3 3 c3 _ (by rfl) S1.out N1.out (by unfold maxLen; omega) (by omega) D1.out.size ?_
            intro v6 u2 hown6 hgrow6 hrow6
            rw [Nat.zero_add, List.nil_append] at hown6
            obtain ⟨A6m, c6m, rfl⟩ := own_shape hown6
            have D2 := qh (D1.out.grown hgrow6 D1.out.size (fun j e => (E1.out.lt j e).1))
            have E2 := qh hown6
            clear hown6 hgrow6 hrow6 S1 N1 E1 D1
            ((try dsimp only); refine nxK hK _ _ (hS.out _ D2.out) ?_; clear hK K; (try simp only [Act.put,pS,pZ,pC]))
            repeat ((first | refine mxS (by rfl) (by rfl) ?_ | (refine mxT (v := ?_) (by rfl) (by rfl) (fun z y => ?_) ?_; rotate_left; (focus ((try dsimp only at y); (go_simp <;> with_reducible rfl); done)))); (try simp only [Act.put,pS,pZ,pC]))
            have D3 := qh (D2.out.alloc D2.out.size (.cells #[.int .i64 id, .slice A6m 3 c6m] 40))
            have E3 := qh (own_lo (own_alloc E2.out (.cells #[.int .i64 id, .slice A6m 3 c6m] 40)) lz)
            have X3 := qh (lit2 u2 40 (.int .i64 id) (.slice A6m 3 c6m))
            (refine mxB (by rfl) (fun K hK => ?_); go_simp)
            ((try dsimp only); refine nxK hK _ _ (hS.out _ D3.out) ?_; clear hK K; (try simp only [Act.put,pS,pZ,pC]))
            clear D2 E2
            generalize u2.heap.size = gx at X3 ⊢
            generalize u2.alloc (.cells #[.int .i64 id, .slice A6m 3 c6m] 40) = u3 at D3 E3 X3 ⊢
            have KU := qh (KeepTI.up D3.out)
            have N3 := qh (N8.out.keepTI KU.out)
            have R3 := qh (own_up' R8.out D3.out)
            have V3 := qh (V8.out.keepTI KU.out)
            have M3 := qh (own_up' M8.out D3.out)
            have U3 := qh (own_up' U8.out D3.out)
            have P3 := qh (P8.out.below D3.out P8.out.lt)
            have T3 := qh (T8.out.below D3.out T8.out.lt)
            have Z3 := qh (Z8.out.below D3.out Z8.out.lt)
            have z3 := D3.out.size
            refine mxB (by rfl) (fun K hK => ?_)
            rw [if_pos (by rfl)]
            refine wp_append_src _ _ _ 30 (by rfl) base 40 t0 _ 2 32 Tryz.underlying30 ht0 htz0 htz1 htz2 rfl (by omega) (.slice At mt ct) mt vt (by rfl) R3.out (some ⟨gx, 0, none⟩) 1 1 [.int .i64 id, .slice A6m 3 c6m] (by rfl) X3.out (one2 _ _ rfl rfl) (by unfold maxLen; omega) (by omega) (by omega) ?_
            intro v6 u4 hown6 hgrow6 hrow6
            obtain ⟨A9, c9, rfl⟩ := own_shape hown6
            have D4 := qh ((B8.out.trans (D3.out.mono lz)).grown hgrow6 (by omega) (fun j e => (R3.out.lt j e).1))
            have R4 := qh hown6
            have KC4 := qh ((KC8.out.step D3.out).grown R3.out hgrow6 (by decide))
            have E4 := own_keep E3.out (fun b hb => hgrow6.block b (E3.out.lt b hb).2 (fun e => own_types R3.out E3.out (by decide) e.symm hb))
            have V4 := qh ((V3.out.grown R3.out (by decide) hgrow6).snoc (id := id) (xs := xs) E4)
            have N4 := qh (N3.out.grow hkl (by rw [Htk.out]; exact hgrow6) R4.out V4.out (by rw [Htk.out]; exact hrow6))
            have M4 := qh (own_keep M3.out (fun b hb => hgrow6.block b (M3.out.lt b hb).2 (fun e => own_types R3.out M3.out (by decide) e.symm hb)))
            have U4 := qh (own_keep U3.out (fun b hb => hgrow6.block b (U3.out.lt b hb).2 (fun e => own_types R3.out U3.out (by decide) e.symm hb)))
            have P4 := qh (P3.out.grown hgrow6 (fun e => own_blk_ne R3.out P3.out (by decide) e.symm))
            have Z4 := qh (Z3.out.grown hgrow6 (fun e => own_blk_ne R3.out Z3.out (by decide) e.symm))
            have s1 := hS.out _ D3.out
            have K4 : u4.cell? ⟨w.heap.size, 1, none⟩ = some (.slice (some ⟨gu, 0, none⟩) n2 c2) ∧ u4.cell? ⟨w.heap.size + 1, 0, none⟩ = some (.int .i64 id) ∧ u4.cell? ⟨w.heap.size + 1, 1, none⟩ = some (.slice A3 3 c3) := ⟨P4.out.cell 1, (hgrow6.cell (a := ⟨w.heap.size + 1, 0, none⟩) s1.2.1 (fun e => by have := Hold.out k hkl (w.heap.size + 1) (by rw [Htk.out]; exact e.symm); omega)), (hgrow6.cell (a := ⟨w.heap.size + 1, 1, none⟩) s1.2.2 (fun e => by have := Hold.out k hkl (w.heap.size + 1) (by rw [Htk.out]; exact e.symm); omega))⟩
            clear hown6 hgrow6 hrow6 E4 s1 R3 E3 X3 N3 V3 M3 U3 P3 T3 Z3 KU D3
            ((try dsimp only); refine nxK hK _ _ (K4) ?_; clear hK K; (try simp only [Act.put,pS,pZ,pC]))
            repeat ((first | refine mxS (by rfl) (by rfl) ?_ | (refine mxT (v := ?_) (by rfl) (by rfl) (fun z y => ?_) ?_; rotate_left; (focus ((try dsimp only at y); (go_simp <;> with_reducible rfl); done)))); (try simp only [Act.put,pS,pZ,pC]))
            have u1 := U4.out.cells (g := gu) rfl (k * 2 + 1) (tk k) (by
              have e2 := (N8.out.2.2.1 k hkl).2.1
              exact e2)
            rw [addr_add, Nat.zero_add, Htk.out] at u1
            have f1 := U4.out.frozenAt (k * 2 + 1)
            (refine mxB (by rfl) (fun K hK => ?_); go_simp)
            clear u1 f1
            obtain ⟨_, curU, eU, _, hbU⟩ := own_row U4.out (by omega)
            injection eU with eU
            injection eU with eU
            subst eU
            have KT := qh (KeepTI.set_ hbU (by decide) (by decide) (k * 2 + 1) (.slice A9 (mt + 1) c9))
            have Bb := qh (D4.out.setCell (p := ⟨gu, k * 2 + 1, none⟩) (by show base ≤ gu; omega) (.slice A9 (mt + 1) c9))
            have KCb := qh (KC4.out.set_ hbU (by decide) (k * 2 + 1) (.slice A9 (mt + 1) c9))
            have Pb := qh (P4.out.far (p := ⟨gu, k * 2 + 1, none⟩) (fun e => own_blk_ne U4.out P4.out (by decide) (by rw [e]; rfl)) (.slice A9 (mt + 1) c9))
            have Zb := qh (Z4.out.far (p := ⟨gu, k * 2 + 1, none⟩) (fun e => own_blk_ne U4.out Z4.out (by decide) (by rw [e]; rfl)) (.slice A9 (mt + 1) c9))
            have OCb := qh (arv_join (own_keepTI M4.out (.inl rfl) KT.out) (own_set U4.out (k * 2 + 1) (.slice A9 (mt + 1) c9)) (N4.out.keepTI KT.out) (by rw [hl.out]; exact hkl))
            have K5 : (u4.setCell ⟨gu, k * 2 + 1, none⟩ (.slice A9 (mt + 1) c9)).cell? ⟨w.heap.size, 1, none⟩ = some (.slice (some ⟨gu, 0, none⟩) n2 c2) ∧ (u4.setCell ⟨gu, k * 2 + 1, none⟩ (.slice A9 (mt + 1) c9)).cell? ⟨w.heap.size + 1, 0, none⟩ = some (.int .i64 id) ∧ (u4.setCell ⟨gu, k * 2 + 1, none⟩ (.slice A9 (mt + 1) c9)).cell? ⟨w.heap.size + 1, 1, none⟩ = some (.slice A3 3 c3) := ⟨Pb.out.cell 1, (World.cell?_of_block (Below.heap_setCell u4 _ _ (w.heap.size + 1) (by show w.heap.size + 1 ≠ gu; exact hTg))).trans K4.2.1, (World.cell?_of_block (Below.heap_setCell u4 _ _ (w.heap.size + 1) (by show w.heap.size + 1 ≠ gu; exact hTg))).trans K4.2.2⟩
            clear hbU KT KC4 U4 N4 M4 P4 Z4 D4 R4 V4 K4
            ((try dsimp only); refine nxK hK _ _ (K5) ?_; clear hK K; (try simp only [Act.put,pS,pZ,pC]))
            clear K5
            generalize u4.setCell ⟨gu, k * 2 + 1, none⟩ (.slice A9 (mt + 1) c9) = wb at Bb Pb Zb OCb KCb ⊢
            refine wpMix_nil ?_
            have y0 := (Pb.out).cell 0
            have y1 := (Pb.out).cell 1
            simp only [gT, gZ, gS] at y0 y1
            have y2 := (Pb.out).frozen 0
            have y3 := (Pb.out).frozen 1
            have x0 := (Zb.out).cell 0
            have x1 := (Zb.out).cell 1
            simp only [gT, gZ, gS] at x0 x1
            have x2 := (Zb.out).frozen 0
            have x3 := (Zb.out).frozen 1
            
            go_wp2_with fail
            have KT := (KeepTU.set_ (Zb.out) (by decide) (by decide) (by decide) 0 (.slice A1 n1 c1)).trans (KeepTU.set_ ((Zb.out).set_ 0 (.slice A1 n1 c1)) (by decide) (by decide) (by decide) 1 (.slice (some ⟨gu, 0, none⟩) n2 c2))
            have EQ := qh (((Zb.out).set_ 0 (.slice A1 n1 c1)).set_ 1 (.slice (some ⟨gu, 0, none⟩) n2 c2))
            have B9 := qh (((Bb.out).setCell (p := ⟨w.heap.size + 2, 0, none⟩) (by show base ≤ w.heap.size + 2; omega) (.slice A1 n1 c1)).setCell (p := ⟨w.heap.size + 2, 1, none⟩) (by show base ≤ w.heap.size + 2; omega) (.slice (some ⟨gu, 0, none⟩) n2 c2))
            have OC := qh ((OCb.out).keepTU KT)
            have KC9 := qh (((KCb.out).new (g := w.heap.size + 2) (by omega) 0 (.slice A1 n1 c1)).new (g := w.heap.size + 2) (by omega) 1 (.slice (some ⟨gu, 0, none⟩) n2 c2))
            clear KT
            generalize World.setCell (World.setCell wb ⟨w.heap.size + 2, 0, none⟩ (.slice A1 n1 c1)) ⟨w.heap.size + 2, 1, none⟩ (.slice (some ⟨gu, 0, none⟩) n2 c2) = w9 at EQ B9 OC KC9 ⊢
            have z0 : w9.cell? ⟨w.heap.size + 2, 0, none⟩ = some (.slice A1 n1 c1) := EQ.out.cell 0
            have z1 : w9.cell? ⟨w.heap.size + 2, 1, none⟩ = some (.slice (some ⟨gu, 0, none⟩) n2 c2) := EQ.out.cell 1
            refine bodyPost_ret (v := .tuple #[.agg #[.slice A1 n1 c1, (.slice (some ⟨gu, 0, none⟩) n2 c2)], .int .i64 0]) (by simp [results, Tryz.results72, go_sem, z0, z1]) rfl ⟨by rw [Hp.out], ?_, B9.out, KC9.out⟩
            rw [Hp.out]
            exact OC.out
          · go_simp
            have E1 := qh (show (u0.alloc (.cells #[] 3)).ownsRow u0.heap.size 3 1 (.slice (some ⟨u0.heap.size, 0, none⟩) 0 0) 0 [] from World.ownsRow_lit (base := u0.heap.size) (e := 3) (size := 1) u0 #[] 0 (Nat.le_refl _) (by unfold maxLen; omega) rfl)
            have D1 := qh (alloc_up u0 (.cells #[] 3))
            have S1 := qh (srcOfI ((HX8.out.below (D1.out.mono lz)).more (show base ≤ (u0.alloc (.cells #[] 3)).heap.size by rw [World.size_alloc]; omega)))
            have N1 := qh (ints_cell1 xs)
            ((try dsimp only); refine nxK hK _ _ (hS.out _ D1.out) ?_; clear hK K; (try simp only [Act.put,pS,pZ,pC]))
            generalize u0.alloc (.cells #[] 3) = u1 at E1 D1 S1 ⊢
            refine wpMix_fork (by rfl) (by rfl) (fun K hK => ?_) (fun K hK => ?_)
            · have q1 : u1.cell? ⟨gu, k * 2 + 1, none⟩ = some (.slice At mt ct) := hUk.out _ D1.out
              go_simp
              clear q1
              ((try dsimp only); refine nxK hK _ _ (hS.out _ D1.out) ?_; clear hK K; (try simp only [Act.put,pS,pZ,pC]))
              refine mxB (by rfl) (fun K hK => ?_)
              rw [if_pos (by rfl)]
              refine wp_append_src _ _ _ 23 (by rfl) u0.heap.size 3 i0 _ 1 8 Tryz.underlying23 hi0 hz0 hz1 hz2 rfl (by omega) (.slice (some ⟨u0.heap.size, 0, none⟩) 0 0) 0 [] (by rfl) E1.out A3 3 c3 _ (by rfl) S1.out N1.out (by unfold maxLen; omega) (by omega) D1.out.size ?_
              intro v6 u2 hown6 hgrow6 hrow6
              rw [Nat.zero_add, List.nil_append] at hown6
              obtain ⟨A6m, c6m, rfl⟩ := own_shape hown6
              have D2 := qh (D1.out.grown hgrow6 D1.out.size (fun j e => (E1.out.lt j e).1))
              have E2 := qh hown6
              clear hown6 hgrow6 hrow6 S1 N1 E1 D1
              ((try dsimp only); refine nxK hK _ _ (hS.out _ D2.out) ?_; clear hK K; (try simp only [Act.put,pS,pZ,pC]))
              repeat ((first | refine mxS (by rfl) (by rfl) ?_ | (refine mxT (v := ?_) (by rfl) (by rfl) (fun z y => ?_) ?_; rotate_left; (focus ((try dsimp only at y); (go_simp <;> with_reducible rfl); done)))); (try simp only [Act.put,pS,pZ,pC]))
              have D3 := qh (D2.out.alloc D2.out.size (.cells #[.int .i64 id, .slice A6m 3 c6m] 40))
              have E3 := qh (own_lo (own_alloc E2.out (.cells #[.int .i64 id, .slice A6m 3 c6m] 40)) lz)
              have X3 := qh (lit2 u2 40 (.int .i64 id) (.slice A6m 3 c6m))
              (refine mxB (by rfl) (fun K hK => ?_); go_simp)
              ((try dsimp only); refine nxK hK _ _ (hS.out _ D3.out) ?_; clear hK K; (try simp only [Act.put,pS,pZ,pC]))
              clear D2 E2
              generalize u2.heap.size = gx at X3 ⊢
              generalize u2.alloc (.cells #[.int .i64 id, .slice A6m 3 c6m] 40) = u3 at D3 E3 X3 ⊢
              have KU := qh (KeepTI.up D3.out)
              have N3 := qh (N8.out.keepTI KU.out)
              have R3 := qh (own_up' R8.out D3.out)
              have V3 := qh (V8.out.keepTI KU.out)
              have M3 := qh (own_up' M8.out D3.out)
              have U3 := qh (own_up' U8.out D3.out)
              have P3 := qh (P8.out.below D3.out P8.out.lt)
              have T3 := qh (T8.out.below D3.out T8.out.lt)
              have Z3 := qh (Z8.out.below D3.out Z8.out.lt)
              have z3 := D3.out.size
              refine mxB (by rfl) (fun K hK => ?_)
              rw [if_pos (by rfl)]
              refine wp_append_src _ _ _ 30 (by rfl) base 40 t0 _ 2 32 Tryz.underlying30 ht0 htz0 htz1 htz2 rfl (by omega) (.slice At mt ct) mt vt (by rfl) R3.out (some ⟨gx, 0, none⟩) 1 1 [.int .i64 id, .slice A6m 3 c6m] (by rfl) X3.out (one2 _ _ rfl rfl) (by unfold maxLen; omega) (by omega) (by omega) ?_
              intro v6 u4 hown6 hgrow6 hrow6
              obtain ⟨A9, c9, rfl⟩ := own_shape hown6
              have D4 := qh ((B8.out.trans (D3.out.mono lz)).grown hgrow6 (by omega) (fun j e => (R3.out.lt j e).1))
              have R4 := qh hown6
              have KC4 := qh ((KC8.out.step D3.out).grown R3.out hgrow6 (by decide))
              have E4 := own_keep E3.out (fun b hb => hgrow6.block b (E3.out.lt b hb).2 (fun e => own_types R3.out E3.out (by decide) e.symm hb))
              have V4 := qh ((V3.out.grown R3.out (by decide) hgrow6).snoc (id := id) (xs := xs) E4)
              have N4 := qh (N3.out.grow hkl (by rw [Htk.out]; exact hgrow6) R4.out V4.out (by rw [Htk.out]; exact hrow6))
              have M4 := qh (own_keep M3.out (fun b hb => hgrow6.block b (M3.out.lt b hb).2 (fun e => own_types R3.out M3.out (by decide) e.symm hb)))
              have U4 := qh (own_keep U3.out (fun b hb => hgrow6.block b (U3.out.lt b hb).2 (fun e => own_types R3.out U3.out (by decide) e.symm hb)))
              have P4 := qh (P3.out.grown hgrow6 (fun e => own_blk_ne R3.out P3.out (by decide) e.symm))
              have Z4 := qh (Z3.out.grown hgrow6 (fun e => own_blk_ne R3.out Z3.out (by decide) e.symm))
              have s1 := hS.out _ D3.out
              have K4 : u4.cell? ⟨w.heap.size, 1, none⟩ = some (.slice (some ⟨gu, 0, none⟩) n2 c2) ∧ u4.cell? ⟨w.heap.size + 1, 0, none⟩ = some (.int .i64 id) ∧ u4.cell? ⟨w.heap.size + 1, 1, none⟩ = some (.slice A3 3 c3) := ⟨P4.out.cell 1, (hgrow6.cell (a := ⟨w.heap.size + 1, 0, none⟩) s1.2.1 (fun e => by have := Hold.out k hkl (w.heap.size + 1) (by rw [Htk.out]; exact e.symm); omega)), (hgrow6.cell (a := ⟨w.heap.size + 1, 1, none⟩) s1.2.2 (fun e => by have := Hold.out k hkl (w.heap.size + 1) (by rw [Htk.out]; exact e.symm); omega))⟩
              clear hown6 hgrow6 hrow6 E4 s1 R3 E3 X3 N3 V3 M3 U3 P3 T3 Z3 KU D3
              ((try dsimp only); refine nxK hK _ _ (K4) ?_; clear hK K; (try simp only [Act.put,pS,pZ,pC]))
              repeat ((first | refine mxS (by rfl) (by rfl) ?_ | (refine mxT (v := ?_) (by rfl) (by rfl) (fun z y => ?_) ?_; rotate_left; (focus ((try dsimp only at y); (go_simp <;> with_reducible rfl); done)))); (try simp only [Act.put,pS,pZ,pC]))
              have u1 := U4.out.cells (g := gu) rfl (k * 2 + 1) (tk k) (by
                have e2 := (N8.out.2.2.1 k hkl).2.1
                exact e2)
              rw [addr_add, Nat.zero_add, Htk.out] at u1
              have f1 := U4.out.frozenAt (k * 2 + 1)
              (refine mxB (by rfl) (fun K hK => ?_); go_simp)
              clear u1 f1
              obtain ⟨_, curU, eU, _, hbU⟩ := own_row U4.out (by omega)
              injection eU with eU
              injection eU with eU
              subst eU
              have KT := qh (KeepTI.set_ hbU (by decide) (by decide) (k * 2 + 1) (.slice A9 (mt + 1) c9))
              have Bb := qh (D4.out.setCell (p := ⟨gu, k * 2 + 1, none⟩) (by show base ≤ gu; omega) (.slice A9 (mt + 1) c9))
              have KCb := qh (KC4.out.set_ hbU (by decide) (k * 2 + 1) (.slice A9 (mt + 1) c9))
              have Pb := qh (P4.out.far (p := ⟨gu, k * 2 + 1, none⟩) (fun e => own_blk_ne U4.out P4.out (by decide) (by rw [e]; rfl)) (.slice A9 (mt + 1) c9))
              have Zb := qh (Z4.out.far (p := ⟨gu, k * 2 + 1, none⟩) (fun e => own_blk_ne U4.out Z4.out (by decide) (by rw [e]; rfl)) (.slice A9 (mt + 1) c9))
              have OCb := qh (arv_join (own_keepTI M4.out (.inl rfl) KT.out) (own_set U4.out (k * 2 + 1) (.slice A9 (mt + 1) c9)) (N4.out.keepTI KT.out) (by rw [hl.out]; exact hkl))
              have K5 : (u4.setCell ⟨gu, k * 2 + 1, none⟩ (.slice A9 (mt + 1) c9)).cell? ⟨w.heap.size, 1, none⟩ = some (.slice (some ⟨gu, 0, none⟩) n2 c2) ∧ (u4.setCell ⟨gu, k * 2 + 1, none⟩ (.slice A9 (mt + 1) c9)).cell? ⟨w.heap.size + 1, 0, none⟩ = some (.int .i64 id) ∧ (u4.setCell ⟨gu, k * 2 + 1, none⟩ (.slice A9 (mt + 1) c9)).cell? ⟨w.heap.size + 1, 1, none⟩ = some (.slice A3 3 c3) := ⟨Pb.out.cell 1, (World.cell?_of_block (Below.heap_setCell u4 _ _ (w.heap.size + 1) (by show w.heap.size + 1 ≠ gu; exact hTg))).trans K4.2.1, (World.cell?_of_block (Below.heap_setCell u4 _ _ (w.heap.size + 1) (by show w.heap.size + 1 ≠ gu; exact hTg))).trans K4.2.2⟩
              clear hbU KT KC4 U4 N4 M4 P4 Z4 D4 R4 V4 K4
              ((try dsimp only); refine nxK hK _ _ (K5) ?_; clear hK K; (try simp only [Act.put,pS,pZ,pC]))
              clear K5
              generalize u4.setCell ⟨gu, k * 2 + 1, none⟩ (.slice A9 (mt + 1) c9) = wb at Bb Pb Zb OCb KCb ⊢
              refine wpMix_nil ?_
              have y0 := (Pb.out).cell 0
              have y1 := (Pb.out).cell 1
              simp only [gT, gZ, gS] at y0 y1
              have y2 := (Pb.out).frozen 0
              have y3 := (Pb.out).frozen 1
              have x0 := (Zb.out).cell 0
              have x1 := (Zb.out).cell 1
              simp only [gT, gZ, gS] at x0 x1
              have x2 := (Zb.out).frozen 0
              have x3 := (Zb.out).frozen 1
              
              go_wp2_with fail
              have KT := (KeepTU.set_ (Zb.out) (by decide) (by decide) (by decide) 0 (.slice A1 n1 c1)).trans (KeepTU.set_ ((Zb.out).set_ 0 (.slice A1 n1 c1)) (by decide) (by decide) (by decide) 1 (.slice (some ⟨gu, 0, none⟩) n2 c2))
              have EQ := qh (((Zb.out).set_ 0 (.slice A1 n1 c1)).set_ 1 (.slice (some ⟨gu, 0, none⟩) n2 c2))
              have B9 := qh (((Bb.out).setCell (p := ⟨w.heap.size + 2, 0, none⟩) (by show base ≤ w.heap.size + 2; omega) (.slice A1 n1 c1)).setCell (p := ⟨w.heap.size + 2, 1, none⟩) (by show base ≤ w.heap.size + 2; omega) (.slice (some ⟨gu, 0, none⟩) n2 c2))
              have OC := qh ((OCb.out).keepTU KT)
              have KC9 := qh (((KCb.out).new (g := w.heap.size + 2) (by omega) 0 (.slice A1 n1 c1)).new (g := w.heap.size + 2) (by omega) 1 (.slice (some ⟨gu, 0, none⟩) n2 c2))
              clear KT
              generalize World.setCell (World.setCell wb ⟨w.heap.size + 2, 0, none⟩ (.slice A1 n1 c1)) ⟨w.heap.size + 2, 1, none⟩ (.slice (some ⟨gu, 0, none⟩) n2 c2) = w9 at EQ B9 OC KC9 ⊢
              have z0 : w9.cell? ⟨w.heap.size + 2, 0, none⟩ = some (.slice A1 n1 c1) := EQ.out.cell 0
              have z1 : w9.cell? ⟨w.heap.size + 2, 1, none⟩ = some (.slice (some ⟨gu, 0, none⟩) n2 c2) := EQ.out.cell 1
              refine bodyPost_ret (v := .tuple #[.agg #[.slice A1 n1 c1, (.slice (some ⟨gu, 0, none⟩) n2 c2)], .int .i64 0]) (by simp [results, Tryz.results72, go_sem, z0, z1]) rfl ⟨by rw [Hp.out], ?_, B9.out, KC9.out⟩
              rw [Hp.out]
              exact OC.out
            · rw [if_pos (by rfl)]
              refine wp_append_src _ _ _ 23 (by rfl) u0.heap.size 3 i0 _ 1 8 Tryz.underlying23 hi0 hz0 hz1 hz2 rfl (by omega) (.slice (some ⟨u0.heap.size, 0, none⟩) 0 0) 0 [] (by rfl) E1.out A3 3 c3 _ (by rfl) S1.out N1.out (by unfold maxLen; omega) (by omega) D1.out.size ?_
              intro v6 u2 hown6 hgrow6 hrow6
              rw [Nat.zero_add, List.nil_append] at hown6
              obtain ⟨A6m, c6m, rfl⟩ := own_shape hown6
              have D2 := qh (D1.out.grown hgrow6 D1.out.size (fun j e => (E1.out.lt j e).1))
              have E2 := qh hown6
              clear hown6 hgrow6 hrow6 S1 N1 E1 D1
              ((try dsimp only); refine nxK hK _ _ (hS.out _ D2.out) ?_; clear hK K; (try simp only [Act.put,pS,pZ,pC]))
              repeat ((first | refine mxS (by rfl) (by rfl) ?_ | (refine mxT (v := ?_) (by rfl) (by rfl) (fun z y => ?_) ?_; rotate_left; (focus ((try dsimp only at y); (go_simp <;> with_reducible rfl); done)))); (try simp only [Act.put,pS,pZ,pC]))
              refine wpMix_fork (by rfl) (by rfl) (fun K hK => ?_) (fun K hK => ?_)
              · have q1 : u2.cell? ⟨gu, k * 2 + 1, none⟩ = some (.slice At mt ct) := hUk.out _ D2.out
                go_simp
                clear q1
                ((try dsimp only); refine nxK hK _ _ (hS.out _ D2.out) ?_; clear hK K; (try simp only [Act.put,pS,pZ,pC]))
                have D3 := qh (D2.out.alloc D2.out.size (.cells #[.int .i64 id, .slice A6m 3 c6m] 40))
                have E3 := qh (own_lo (own_alloc E2.out (.cells #[.int .i64 id, .slice A6m 3 c6m] 40)) lz)
                have X3 := qh (lit2 u2 40 (.int .i64 id) (.slice A6m 3 c6m))
                (refine mxB (by rfl) (fun K hK => ?_); go_simp)
                ((try dsimp only); refine nxK hK _ _ (hS.out _ D3.out) ?_; clear hK K; (try simp only [Act.put,pS,pZ,pC]))
                clear D2 E2
                generalize u2.heap.size = gx at X3 ⊢
                generalize u2.alloc (.cells #[.int .i64 id, .slice A6m 3 c6m] 40) = u3 at D3 E3 X3 ⊢
                have KU := qh (KeepTI.up D3.out)
                have N3 := qh (N8.out.keepTI KU.out)
                have R3 := qh (own_up' R8.out D3.out)
                have V3 := qh (V8.out.keepTI KU.out)
                have M3 := qh (own_up' M8.out D3.out)
                have U3 := qh (own_up' U8.out D3.out)
                have P3 := qh (P8.out.below D3.out P8.out.lt)
                have T3 := qh (T8.out.below D3.out T8.out.lt)
                have Z3 := qh (Z8.out.below D3.out Z8.out.lt)
                have z3 := D3.out.size
                refine mxB (by rfl) (fun K hK => ?_)
                rw [if_pos (by rfl)]
                refine wp_append_src _ _ _ 30 (by rfl) base 40 t0 _ 2 32 Tryz.underlying30 ht0 htz0 htz1 htz2 rfl (by omega) (.slice At mt ct) mt vt (by rfl) R3.out (some ⟨gx, 0, none⟩) 1 1 [.int .i64 id, .slice A6m 3 c6m] (by rfl) X3.out (one2 _ _ rfl rfl) (by unfold maxLen; omega) (by omega) (by omega) ?_
                intro v6 u4 hown6 hgrow6 hrow6
                obtain ⟨A9, c9, rfl⟩ := own_shape hown6
                have D4 := qh ((B8.out.trans (D3.out.mono lz)).grown hgrow6 (by omega) (fun j e => (R3.out.lt j e).1))
                have R4 := qh hown6
                have KC4 := qh ((KC8.out.step D3.out).grown R3.out hgrow6 (by decide))
                have E4 := own_keep E3.out (fun b hb => hgrow6.block b (E3.out.lt b hb).2 (fun e => own_types R3.out E3.out (by decide) e.symm hb))
                have V4 := qh ((V3.out.grown R3.out (by decide) hgrow6).snoc (id := id) (xs := xs) E4)
                have N4 := qh (N3.out.grow hkl (by rw [Htk.out]; exact hgrow6) R4.out V4.out (by rw [Htk.out]; exact hrow6))
                have M4 := qh (own_keep M3.out (fun b hb => hgrow6.block b (M3.out.lt b hb).2 (fun e => own_types R3.out M3.out (by decide) e.symm hb)))
                have U4 := qh (own_keep U3.out (fun b hb => hgrow6.block b (U3.out.lt b hb).2 (fun e => own_types R3.out U3.out (by decide) e.symm hb)))
                have P4 := qh (P3.out.grown hgrow6 (fun e => own_blk_ne R3.out P3.out (by decide) e.symm))
                have Z4 := qh (Z3.out.grown hgrow6 (fun e => own_blk_ne R3.out Z3.out (by decide) e.symm))
                have s1 := hS.out _ D3.out
                have K4 : u4.cell? ⟨w.heap.size, 1, none⟩ = some (.slice (some ⟨gu, 0, none⟩) n2 c2) ∧ u4.cell? ⟨w.heap.size + 1, 0, none⟩ = some (.int .i64 id) ∧ u4.cell? ⟨w.heap.size + 1, 1, none⟩ = some (.slice A3 3 c3) := ⟨P4.out.cell 1, (hgrow6.cell (a := ⟨w.heap.size + 1, 0, none⟩) s1.2.1 (fun e => by have := Hold.out k hkl (w.heap.size + 1) (by rw [Htk.out]; exact e.symm); omega)), (hgrow6.cell (a := ⟨w.heap.size + 1, 1, none⟩) s1.2.2 (fun e => by have := Hold.out k hkl (w.heap.size + 1) (by rw [Htk.out]; exact e.symm); omega))⟩
                clear hown6 hgrow6 hrow6 E4 s1 R3 E3 X3 N3 V3 M3 U3 P3 T3 Z3 KU D3
                ((try dsimp only); refine nxK hK _ _ (K4) ?_; clear hK K; (try simp only [Act.put,pS,pZ,pC]))
                repeat ((first | refine mxS (by rfl) (by rfl) ?_ | (refine mxT (v := ?_) (by rfl) (by rfl) (fun z y => ?_) ?_; rotate_left; (focus ((try dsimp only at y); (go_simp <;> with_reducible rfl); done)))); (try simp only [Act.put,pS,pZ,pC]))
                have u1 := U4.out.cells (g := gu) rfl (k * 2 + 1) (tk k) (by
                  have e2 := (N8.out.2.2.1 k hkl).2.1
                  exact e2)
                rw [addr_add, Nat.zero_add, Htk.out] at u1
                have f1 := U4.out.frozenAt (k * 2 + 1)
                (refine mxB (by rfl) (fun K hK => ?_); go_simp)
                clear u1 f1
                obtain ⟨_, curU, eU, _, hbU⟩ := own_row U4.out (by omega)
                injection eU with eU
                injection eU with eU
                subst eU
                have KT := qh (KeepTI.set_ hbU (by decide) (by decide) (k * 2 + 1) (.slice A9 (mt + 1) c9))
                have Bb := qh (D4.out.setCell (p := ⟨gu, k * 2 + 1, none⟩) (by show base ≤ gu; omega) (.slice A9 (mt + 1) c9))
                have KCb := qh (KC4.out.set_ hbU (by decide) (k * 2 + 1) (.slice A9 (mt + 1) c9))
                have Pb := qh (P4.out.far (p := ⟨gu, k * 2 + 1, none⟩) (fun e => own_blk_ne U4.out P4.out (by decide) (by rw [e]; rfl)) (.slice A9 (mt + 1) c9))
                have Zb := qh (Z4.out.far (p := ⟨gu, k * 2 + 1, none⟩) (fun e => own_blk_ne U4.out Z4.out (by decide) (by rw [e]; rfl)) (.slice A9 (mt + 1) c9))
                have OCb := qh (arv_join (own_keepTI M4.out (.inl rfl) KT.out) (own_set U4.out (k * 2 + 1) (.slice A9 (mt + 1) c9)) (N4.out.keepTI KT.out) (by rw [hl.out]; exact hkl))
                have K5 : (u4.setCell ⟨gu, k * 2 + 1, none⟩ (.slice A9 (mt + 1) c9)).cell? ⟨w.heap.size, 1, none⟩ = some (.slice (some ⟨gu, 0, none⟩) n2 c2) ∧ (u4.setCell ⟨gu, k * 2 + 1, none⟩ (.slice A9 (mt + 1) c9)).cell? ⟨w.heap.size + 1, 0, none⟩ = some (.int .i64 id) ∧ (u4.setCell ⟨gu, k * 2 + 1, none⟩ (.slice A9 (mt + 1) c9)).cell? ⟨w.heap.size + 1, 1, none⟩ = some (.slice A3 3 c3) := ⟨Pb.out.cell 1, (World.cell?_of_block (Below.heap_setCell u4 _ _ (w.heap.size + 1) (by show w.heap.size + 1 ≠ gu; exact hTg))).trans K4.2.1, (World.cell?_of_block (Below.heap_setCell u4 _ _ (w.heap.size + 1) (by show w.heap.size + 1 ≠ gu; exact hTg))).trans K4.2.2⟩
                clear hbU KT KC4 U4 N4 M4 P4 Z4 D4 R4 V4 K4
                ((try dsimp only); refine nxK hK _ _ (K5) ?_; clear hK K; (try simp only [Act.put,pS,pZ,pC]))
                clear K5
                generalize u4.setCell ⟨gu, k * 2 + 1, none⟩ (.slice A9 (mt + 1) c9) = wb at Bb Pb Zb OCb KCb ⊢
                refine wpMix_nil ?_
                have y0 := (Pb.out).cell 0
                have y1 := (Pb.out).cell 1
                simp only [gT, gZ, gS] at y0 y1
                have y2 := (Pb.out).frozen 0
                have y3 := (Pb.out).frozen 1
                have x0 := (Zb.out).cell 0
                have x1 := (Zb.out).cell 1
                simp only [gT, gZ, gS] at x0 x1
                have x2 := (Zb.out).frozen 0
                have x3 := (Zb.out).frozen 1
                
                go_wp2_with fail
                have KT := (KeepTU.set_ (Zb.out) (by decide) (by decide) (by decide) 0 (.slice A1 n1 c1)).trans (KeepTU.set_ ((Zb.out).set_ 0 (.slice A1 n1 c1)) (by decide) (by decide) (by decide) 1 (.slice (some ⟨gu, 0, none⟩) n2 c2))
                have EQ := qh (((Zb.out).set_ 0 (.slice A1 n1 c1)).set_ 1 (.slice (some ⟨gu, 0, none⟩) n2 c2))
                have B9 := qh (((Bb.out).setCell (p := ⟨w.heap.size + 2, 0, none⟩) (by show base ≤ w.heap.size + 2; omega) (.slice A1 n1 c1)).setCell (p := ⟨w.heap.size + 2, 1, none⟩) (by show base ≤ w.heap.size + 2; omega) (.slice (some ⟨gu, 0, none⟩) n2 c2))
                have OC := qh ((OCb.out).keepTU KT)
                have KC9 := qh (((KCb.out).new (g := w.heap.size + 2) (by omega) 0 (.slice A1 n1 c1)).new (g := w.heap.size + 2) (by omega) 1 (.slice (some ⟨gu, 0, none⟩) n2 c2))
                clear KT
                generalize World.setCell (World.setCell wb ⟨w.heap.size + 2, 0, none⟩ (.slice A1 n1 c1)) ⟨w.heap.size + 2, 1, none⟩ (.slice (some ⟨gu, 0, none⟩) n2 c2) = w9 at EQ B9 OC KC9 ⊢
                have z0 : w9.cell? ⟨w.heap.size + 2, 0, none⟩ = some (.slice A1 n1 c1) := EQ.out.cell 0
                have z1 : w9.cell? ⟨w.heap.size + 2, 1, none⟩ = some (.slice (some ⟨gu, 0, none⟩) n2 c2) := EQ.out.cell 1
                refine bodyPost_ret (v := .tuple #[.agg #[.slice A1 n1 c1, (.slice (some ⟨gu, 0, none⟩) n2 c2)], .int .i64 0]) (by simp [results, Tryz.results72, go_sem, z0, z1]) rfl ⟨by rw [Hp.out], ?_, B9.out, KC9.out⟩
                rw [Hp.out]
                exact OC.out
              · have D3 := qh (D2.out.alloc D2.out.size (.cells #[.int .i64 id, .slice A6m 3 c6m] 40))
                have E3 := qh (own_lo (own_alloc E2.out (.cells #[.int .i64 id, .slice A6m 3 c6m] 40)) lz)
                have X3 := qh (lit2 u2 40 (.int .i64 id) (.slice A6m 3 c6m))
                go_simp
                ((try dsimp only); refine nxK hK _ _ (hS.out _ D3.out) ?_; clear hK K; (try simp only [Act.put,pS,pZ,pC]))
                clear D2 E2
                generalize u2.heap.size = gx at X3 ⊢
                generalize u2.alloc (.cells #[.int .i64 id, .slice A6m 3 c6m] 40) = u3 at D3 E3 X3 ⊢
                have q1 : u3.cell? ⟨gu, k * 2 + 1, none⟩ = some (.slice At mt ct) := hUk.out _ D3.out
                (refine mxB (by rfl) (fun K hK => ?_); go_simp)
                clear q1
                ((try dsimp only); refine nxK hK _ _ (hS.out _ D3.out) ?_; clear hK K; (try simp only [Act.put,pS,pZ,pC]))
                have KU := qh (KeepTI.up D3.out)
                have N3 := qh (N8.out.keepTI KU.out)
                have R3 := qh (own_up' R8.out D3.out)
                have V3 := qh (V8.out.keepTI KU.out)
                have M3 := qh (own_up' M8.out D3.out)
                have U3 := qh (own_up' U8.out D3.out)
                have P3 := qh (P8.out.below D3.out P8.out.lt)
                have T3 := qh (T8.out.below D3.out T8.out.lt)
                have Z3 := qh (Z8.out.below D3.out Z8.out.lt)
                have z3 := D3.out.size
                refine mxB (by rfl) (fun K hK => ?_)
                rw [if_pos (by rfl)]
                refine wp_append_src _ _ _ 30 (by rfl) base 40 t0 _ 2 32 Tryz.underlying30 ht0 htz0 htz1 htz2 rfl (by omega) (.slice At mt ct) mt vt (by rfl) R3.out (some ⟨gx, 0, none⟩) 1 1 [.int .i64 id, .slice A6m 3 c6m] (by rfl) X3.out (one2 _ _ rfl rfl) (by unfold maxLen; omega) (by omega) (by omega) ?_
                intro v6 u4 hown6 hgrow6 hrow6
                obtain ⟨A9, c9, rfl⟩ := own_shape hown6
                have D4 := qh ((B8.out.trans (D3.out.mono lz)).grown hgrow6 (by omega) (fun j e => (R3.out.lt j e).1))
                have R4 := qh hown6
                have KC4 := qh ((KC8.out.step D3.out).grown R3.out hgrow6 (by decide))
                have E4 := own_keep E3.out (fun b hb => hgrow6.block b (E3.out.lt b hb).2 (fun e => own_types R3.out E3.out (by decide) e.symm hb))
                have V4 := qh ((V3.out.grown R3.out (by decide) hgrow6).snoc (id := id) (xs := xs) E4)
                have N4 := qh (N3.out.grow hkl (by rw [Htk.out]; exact hgrow6) R4.out V4.out (by rw [Htk.out]; exact hrow6))
                have M4 := qh (own_keep M3.out (fun b hb => hgrow6.block b (M3.out.lt b hb).2 (fun e => own_types R3.out M3.out (by decide) e.symm hb)))
                have U4 := qh (own_keep U3.out (fun b hb => hgrow6.block b (U3.out.lt b hb).2 (fun e => own_types R3.out U3.out (by decide) e.symm hb)))
                have P4 := qh (P3.out.grown hgrow6 (fun e => own_blk_ne R3.out P3.out (by decide) e.symm))
                have Z4 := qh (Z3.out.grown hgrow6 (fun e => own_blk_ne R3.out Z3.out (by decide) e.symm))
                have s1 := hS.out _ D3.out
                have K4 : u4.cell? ⟨w.heap.size, 1, none⟩ = some (.slice (some ⟨gu, 0, none⟩) n2 c2) ∧ u4.cell? ⟨w.heap.size + 1, 0, none⟩ = some (.int .i64 id) ∧ u4.cell? ⟨w.heap.size + 1, 1, none⟩ = some (.slice A3 3 c3) := ⟨P4.out.cell 1, (hgrow6.cell (a := ⟨w.heap.size + 1, 0, none⟩) s1.2.1 (fun e => by have := Hold.out k hkl (w.heap.size + 1) (by rw [Htk.out]; exact e.symm); omega)), (hgrow6.cell (a := ⟨w.heap.size + 1, 1, none⟩) s1.2.2 (fun e => by have := Hold.out k hkl (w.heap.size + 1) (by rw [Htk.out]; exact e.symm); omega))⟩
                clear hown6 hgrow6 hrow6 E4 s1 R3 E3 X3 N3 V3 M3 U3 P3 T3 Z3 KU D3
                ((try dsimp only); refine nxK hK _ _ (K4) ?_; clear hK K; (try simp only [Act.put,pS,pZ,pC]))
                repeat ((first | refine mxS (by rfl) (by rfl) ?_ | (refine mxT (v := ?_) (by rfl) (by rfl) (fun z y => ?_) ?_; rotate_left; (focus ((try dsimp only at y); (go_simp <;> with_reducible rfl); done)))); (try simp only [Act.put,pS,pZ,pC]))
                have u1 := U4.out.cells (g := gu) rfl (k * 2 + 1) (tk k) (by
                  have e2 := (N8.out.2.2.1 k hkl).2.1
                  exact e2)
                rw [addr_add, Nat.zero_add, Htk.out] at u1
                have f1 := U4.out.frozenAt (k * 2 + 1)
                (refine mxB (by rfl) (fun K hK => ?_); go_simp)
                clear u1 f1
                obtain ⟨_, curU, eU, _, hbU⟩ := own_row U4.out (by omega)
                injection eU with eU
                injection eU with eU
                subst eU
                have KT := qh (KeepTI.set_ hbU (by decide) (by decide) (k * 2 + 1) (.slice A9 (mt + 1) c9))
                have Bb := qh (D4.out.setCell (p := ⟨gu, k * 2 + 1, none⟩) (by show base ≤ gu; omega) (.slice A9 (mt + 1) c9))
                have KCb := qh (KC4.out.set_ hbU (by decide) (k * 2 + 1) (.slice A9 (mt + 1) c9))
                have Pb := qh (P4.out.far (p := ⟨gu, k * 2 + 1, none⟩) (fun e => own_blk_ne U4.out P4.out (by decide) (by rw [e]; rfl)) (.slice A9 (mt + 1) c9))
                have Zb := qh (Z4.out.far (p := ⟨gu, k * 2 + 1, none⟩) (fun e => own_blk_ne U4.out Z4.out (by decide) (by rw [e]; rfl)) (.slice A9 (mt + 1) c9))
                have OCb := qh (arv_join (own_keepTI M4.out (.inl rfl) KT.out) (own_set U4.out (k * 2 + 1) (.slice A9 (mt + 1) c9)) (N4.out.keepTI KT.out) (by rw [hl.out]; exact hkl))
                have K5 : (u4.setCell ⟨gu, k * 2 + 1, none⟩ (.slice A9 (mt + 1) c9)).cell? ⟨w.heap.size, 1, none⟩ = some (.slice (some ⟨gu, 0, none⟩) n2 c2) ∧ (u4.setCell ⟨gu, k * 2 + 1, none⟩ (.slice A9 (mt + 1) c9)).cell? ⟨w.heap.size + 1, 0, none⟩ = some (.int .i64 id) ∧ (u4.setCell ⟨gu, k * 2 + 1, none⟩ (.slice A9 (mt + 1) c9)).cell? ⟨w.heap.size + 1, 1, none⟩ = some (.slice A3 3 c3) := ⟨Pb.out.cell 1, (World.cell?_of_block (Below.heap_setCell u4 _ _ (w.heap.size + 1) (by show w.heap.size + 1 ≠ gu; exact hTg))).trans K4.2.1, (World.cell?_of_block (Below.heap_setCell u4 _ _ (w.heap.size + 1) (by show w.heap.size + 1 ≠ gu; exact hTg))).trans K4.2.2⟩
                clear hbU KT KC4 U4 N4 M4 P4 Z4 D4 R4 V4 K4
                ((try dsimp only); refine nxK hK _ _ (K5) ?_; clear hK K; (try simp only [Act.put,pS,pZ,pC]))
                clear K5
                generalize u4.setCell ⟨gu, k * 2 + 1, none⟩ (.slice A9 (mt + 1) c9) = wb at Bb Pb Zb OCb KCb ⊢
                refine wpMix_nil ?_
                have y0 := (Pb.out).cell 0
                have y1 := (Pb.out).cell 1
                simp only [gT, gZ, gS] at y0 y1
                have y2 := (Pb.out).frozen 0
                have y3 := (Pb.out).frozen 1
                have x0 := (Zb.out).cell 0
                have x1 := (Zb.out).cell 1
                simp only [gT, gZ, gS] at x0 x1
                have x2 := (Zb.out).frozen 0
                have x3 := (Zb.out).frozen 1
                
                go_wp2_with fail
                have KT := (KeepTU.set_ (Zb.out) (by decide) (by decide) (by decide) 0 (.slice A1 n1 c1)).trans (KeepTU.set_ ((Zb.out).set_ 0 (.slice A1 n1 c1)) (by decide) (by decide) (by decide) 1 (.slice (some ⟨gu, 0, none⟩) n2 c2))
                have EQ := qh (((Zb.out).set_ 0 (.slice A1 n1 c1)).set_ 1 (.slice (some ⟨gu, 0, none⟩) n2 c2))
                have B9 := qh (((Bb.out).setCell (p := ⟨w.heap.size + 2, 0, none⟩) (by show base ≤ w.heap.size + 2; omega) (.slice A1 n1 c1)).setCell (p := ⟨w.heap.size + 2, 1, none⟩) (by show base ≤ w.heap.size + 2; omega) (.slice (some ⟨gu, 0, none⟩) n2 c2))
                have OC := qh ((OCb.out).keepTU KT)
                have KC9 := qh (((KCb.out).new (g := w.heap.size + 2) (by omega) 0 (.slice A1 n1 c1)).new (g := w.heap.size + 2) (by omega) 1 (.slice (some ⟨gu, 0, none⟩) n2 c2))
                clear KT
                generalize World.setCell (World.setCell wb ⟨w.heap.size + 2, 0, none⟩ (.slice A1 n1 c1)) ⟨w.heap.size + 2, 1, none⟩ (.slice (some ⟨gu, 0, none⟩) n2 c2) = w9 at EQ B9 OC KC9 ⊢
                have z0 : w9.cell? ⟨w.heap.size + 2, 0, none⟩ = some (.slice A1 n1 c1) := EQ.out.cell 0
                have z1 : w9.cell? ⟨w.heap.size + 2, 1, none⟩ = some (.slice (some ⟨gu, 0, none⟩) n2 c2) := EQ.out.cell 1
                refine bodyPost_ret (v := .tuple #[.agg #[.slice A1 n1 c1, (.slice (some ⟨gu, 0, none⟩) n2 c2)], .int .i64 0]) (by simp [results, Tryz.results72, go_sem, z0, z1]) rfl ⟨by rw [Hp.out], ?_, B9.out, KC9.out⟩
                rw [Hp.out]
                exact OC.out
  · have hw : cAtP room us xs true = (k : Int) := hw
    have Hat := qh (arvAt_open (g := g) hw)
    rw [hw]
    clear hw
    rw [hl.out] at hkl
    have k1 : (0 : Int) ≤ (k : Int) := by omega
    have k2 : (k : Int) < (n2 : Int) := by omega
    have k3 : 0 ≤ (k : Int) * 2 := by omega
    go_wp2_with fail
    refine (l21Bins_any A1 A2 n1 c1 n2 c2 us w2 OC2.out.cr.rd.b (by omega)).mono ?_; rintro e w5 ⟨A5, m5, c5, rfl, hr5, hb5⟩
    have hcall := qh (l2All_own A5 m5 c5 (us.map (·.2)) w5 hr5 (by have := clOk_total Hok.out; omega))
    have hb5' := qh hb5
    clear hr5 hb5
    go_wp2_with fail
    refine hcall.out.mono ?_; rintro e w6 ⟨A6, m6, c6, v6, rfl, _, _, _, hm6, hb6⟩
    have hb := below_to hb5'.out hb6
    have B6 := qh (B2.out.trans (hb.mono (by have := B2.out.size; omega)))
    have P6 := qh (P2.out.below hb P2.out.lt)
    have T6 := qh (T2.out.below hb T2.out.lt)
    have Z6 := qh (Z2.out.below hb Z2.out.lt)
    have OC6 := qh (OC2.out.keepTU (KeepTU.up hb))
    have KC6 := qh (KC2.out.step hb)
    have Hm6 := qh hm6
    clear KC2 hb hb6 hcall hb5' hm6 y0 y1 y2 y3 t1 t2 t3 t4 B2 P2 T2 Z2 OC2
    have y0 := (P6.out).cell 0
    have y1 := (P6.out).cell 1
    simp only [gT, gZ, gS] at y0 y1
    have y2 := (P6.out).frozen 0
    have y3 := (P6.out).frozen 1
    
    have t1 := (T6.out).cell 0
    have t2 := (T6.out).cell 1
    simp only [gT, gZ, gS] at t1 t2
    have t3 := (T6.out).frozen 0
    have t4 := (T6.out).frozen 1
    
    by_cases hfull : m6 = 14
    · have Hp := qh (arvP_full (room := room) (id := id) (xs := xs) (g := g) (by rw [Hm6.out]; exact hfull))
      subst hfull
      have x0 := (Z6.out).cell 0
      have x1 := (Z6.out).cell 1
      simp only [gT, gZ, gS] at x0 x1
      have x2 := (Z6.out).frozen 0
      have x3 := (Z6.out).frozen 1
      go_wp2_with fail
      have KT := (KeepTU.set_ (Z6.out) (by decide) (by decide) (by decide) 0 (.slice A1 n1 c1)).trans (KeepTU.set_ ((Z6.out).set_ 0 (.slice A1 n1 c1)) (by decide) (by decide) (by decide) 1 (.slice A2 n2 c2))
      have EQ := qh (((Z6.out).set_ 0 (.slice A1 n1 c1)).set_ 1 (.slice A2 n2 c2))
      have B9 := qh (((B6.out).setCell (p := ⟨w.heap.size + 2, 0, none⟩) (by show base ≤ w.heap.size + 2; omega) (.slice A1 n1 c1)).setCell (p := ⟨w.heap.size + 2, 1, none⟩) (by show base ≤ w.heap.size + 2; omega) (.slice A2 n2 c2))
      have OC := qh ((OC6.out.cr).keepTU KT)
      have KC9 := qh (((KC6.out).new (g := w.heap.size + 2) (by omega) 0 (.slice A1 n1 c1)).new (g := w.heap.size + 2) (by omega) 1 (.slice A2 n2 c2))
      clear KT
      generalize World.setCell (World.setCell w6 ⟨w.heap.size + 2, 0, none⟩ (.slice A1 n1 c1)) ⟨w.heap.size + 2, 1, none⟩ (.slice A2 n2 c2) = w9 at EQ B9 OC KC9 ⊢
      have z0 : w9.cell? ⟨w.heap.size + 2, 0, none⟩ = some (.slice A1 n1 c1) := EQ.out.cell 0
      have z1 : w9.cell? ⟨w.heap.size + 2, 1, none⟩ = some (.slice A2 n2 c2) := EQ.out.cell 1
      refine bodyPost_ret (v := .tuple #[.agg #[.slice A1 n1 c1, (.slice A2 n2 c2)], .int .i64 3]) (by simp [results, Tryz.results72, go_sem, z0, z1]) rfl ⟨by rw [Hp.out], ?_, B9.out, KC9.out⟩
      rw [Hp.out]
      exact OC.out
    · have Hp := qh (arvP_yes (id := id) (g := g) Hat.out (by rw [Hm6.out]; exact hfull))
      have hfull' : ((m6 : Int) == 14) = false := by simpa using (show ¬ (m6 : Int) = 14 by omega)
      obtain ⟨hr6, hU, hN⟩ := OC6.out
      obtain ⟨gu, cap, hv, hgu1, hgu2⟩ := hU.form (by omega)
      injection hv with hv1 hv2 hv3
      subst hv1 hv3
      obtain ⟨e1, _⟩ := hN.2.2.1 k hkl
      have u1 := hU.cells (g := gu) rfl (k * 2) _ e1
      rw [addr_add, Nat.zero_add] at u1
      have f1 := hU.frozenAt (k * 2)
      obtain ⟨_, curU, eU, _, hbU⟩ := own_row hU (by omega)
      injection eU with eU
      injection eU with eU
      subst eU
      have KT := KeepTI.set_ hbU (by decide) (by decide) (k * 2) (.bool true)
      have B7 := qh (B6.out.setCell (p := ⟨gu, k * 2, none⟩) (by show base ≤ gu; omega) (.bool true))
      have P7 := qh (P6.out.far (p := ⟨gu, k * 2, none⟩) (fun e => own_blk_ne hU P6.out (by decide) (by rw [e]; rfl)) (.bool true))
      have T7 := qh (T6.out.far (p := ⟨gu, k * 2, none⟩) (fun e => own_blk_ne hU T6.out (by decide) (by rw [e]; rfl)) (.bool true))
      have Z7 := qh (Z6.out.far (p := ⟨gu, k * 2, none⟩) (fun e => own_blk_ne hU Z6.out (by decide) (by rw [e]; rfl)) (.bool true))
      have M7 := qh (own_keepTI hr6 (.inl rfl) KT)
      have U7 := qh (own_set hU (k * 2) (.bool true))
      have N7 := qh ((hN.keepTI KT).open_ (op := true) hkl)
      have HX7 := qh (HX.out.below B7.out)
      have KC7 := qh (KC6.out.set_ hbU (by decide) (k * 2) (.bool true))
      clear hU hN hr6 e1 OC6 KT hbU
      go_wp2_with fail
      generalize w6.setCell ⟨gu, k * 2, none⟩ (.bool true) = w7 at B7 P7 T7 Z7 M7 U7 N7 HX7 KC7 ⊢
      clear y0 y1 y2 y3 t1 t2 t3 t4 u1 f1 B6 P6 T6 Z6 KC6
      obtain ⟨_, e2, At, mt, ct, vt, e3, e4, e5⟩ := N7.out.2.2.1 k hkl
      have hku : ((us.set k (true, (us[k]?.getD (false, [])).2))[k]?.getD (false, [])) = (true, (us[k]?.getD (false, [])).2) := by rw [List.getElem?_set_self (by rw [hl.out]; exact hkl)]; rfl
      have e5 : NdR w7 base mt vt (us[k]?.getD (false, [])).2 := by rw [hku] at e5; exact e5
      have hlt : mt ≤ 14 := by have := (clOk_facts Hok.out).2.2.2 _ (un_mem (show k < us.length by rw [hl.out]; exact hkl)); have := e5.1; omega
      have u1 := U7.out.cells (g := gu) rfl (k * 2 + 1) _ (by rw [e2, e3])
      rw [addr_add, Nat.zero_add] at u1
      have B8 := qh B7.out.drew
      have KC8 := qh KC7.out.drew
      have P8 := qh P7.out.drew
      have T8 := qh T7.out.drew
      have Z8 := qh Z7.out.drew
      have M8 := qh (World.ownsRow.drew M7.out)
      have U8 := qh (World.ownsRow.drew U7.out)
      have N8 := qh (N7.out.keepTI (KeepTI.drew w7))
      have R8 := qh (World.ownsRow.drew e4)
      have V8 := qh (e5.keepTI (KeepTI.drew w7))
      have HX8 := qh (show RdI w7.drew base A3 3 xs from HX7.out)
      have K0 : w7.drew.cell? ⟨w.heap.size, 1, none⟩ = some (.slice (some ⟨gu, 0, none⟩) n2 c2) ∧ w7.drew.cell? ⟨w.heap.size + 1, 0, none⟩ = some (.int .i64 id) ∧ w7.drew.cell? ⟨w.heap.size + 1, 1, none⟩ = some (.slice A3 3 c3) := ⟨P8.out.cell 1, T8.out.cell 0, T8.out.cell 1⟩
      have HL8 : w7.drew.cell? ⟨gu, k * 2 + 1, none⟩ = some (.slice At mt ct) := u1
      have lgu : gu < w7.drew.heap.size := (U8.out.lt gu rfl).2
      have Htk := qh e3
      clear e2 e3 e4 e5 u1 hku KC7 B7 P7 T7 Z7 M7 U7 N7 HX7
      have lT : w.heap.size + 1 < w7.drew.heap.size := T8.out.lt
      have lz : base ≤ w7.drew.heap.size := by have := B8.out.size; omega
      refine wp_region_mix (.take 0 (.take 1 (.take 2 (.take 3 (.take 4 (.take 5 (.take 6 (.take 7 (.take 9 (.take 10 (.take 12 (.take 13 (.fork 8 (.bar 11 (.bar 14 (.take 15 (.bar 16 (.bar 17 (.take 18 (.take 19 (.bar 20 .nil)))))))) 11 (.fork 8 (.bar 14 (.take 15 (.bar 16 (.bar 17 (.take 18 (.take 19 (.bar 20 .nil))))))) 14 (.take 15 (.fork 8 (.bar 16 (.bar 17 (.take 18 (.take 19 (.bar 20 .nil))))) 16 (.bar 8 (.bar 17 (.take 18 (.take 19 (.bar 20 .nil))))))))))))))))))))) (fun w' => w'.cell? ⟨w.heap.size, 1, none⟩ = some (.slice (some ⟨gu, 0, none⟩) n2 c2) ∧ w'.cell? ⟨w.heap.size + 1, 0, none⟩ = some (.int .i64 id) ∧ w'.cell? ⟨w.heap.size + 1, 1, none⟩ = some (.slice A3 3 c3)) (by kernel_rfl) (by kernel_rfl) K0 (fun _ => ?_)
      repeat ((first | refine mxS (by rfl) (by rfl) ?_ | (refine mxT (v := ?_) (by rfl) (by rfl) (fun z y => ?_) ?_; rotate_left; (focus ((try dsimp only at y); (go_simp <;> with_reducible rfl); done)))); (try simp only [Act.put,pS,pZ,pC]))
      generalize w7.drew = u0 at K0 HL8 KC8 B8 P8 T8 Z8 M8 U8 N8 R8 V8 HX8 lgu lT lz ⊢
      have hS := qh (fun w' (hb : Below u0.heap.size u0 w') => (⟨(hb.cell (p := ⟨w.heap.size, 1, none⟩) (by show w.heap.size < _; omega)).trans K0.1, (hb.cell (p := ⟨w.heap.size + 1, 0, none⟩) (by show w.heap.size + 1 < _; omega)).trans K0.2.1, (hb.cell (p := ⟨w.heap.size + 1, 1, none⟩) (by show w.heap.size + 1 < _; omega)).trans K0.2.2⟩ : w'.cell? ⟨w.heap.size, 1, none⟩ = some (.slice (some ⟨gu, 0, none⟩) n2 c2) ∧ w'.cell? ⟨w.heap.size + 1, 0, none⟩ = some (.int .i64 id) ∧ w'.cell? ⟨w.heap.size + 1, 1, none⟩ = some (.slice A3 3 c3)))
      have hUk := qh (fun w' (hb : Below u0.heap.size u0 w') => ((hb.cell (p := ⟨gu, k * 2 + 1, none⟩) lgu).trans HL8 : w'.cell? ⟨gu, k * 2 + 1, none⟩ = some (.slice At mt ct)))
      clear HL8
      have hTg : w.heap.size + 1 ≠ gu := fun e => own_blk_ne U8.out T8.out (by decide) (by rw [e]; rfl)
      refine wpMix_fork (by rfl) (by rfl) (fun K hK => ?_) (fun K hK => ?_)
      · have q1 : u0.cell? ⟨gu, k * 2 + 1, none⟩ = some (.slice At mt ct) := hUk.out _ (Below.refl _ _)
        go_simp
        clear q1
        ((try dsimp only); refine nxK hK _ _ (hS.out _ (Below.refl _ _)) ?_; clear hK K; (try simp only [Act.put,pS,pZ,pC]))
        (refine mxB (by rfl) (fun K hK => ?_); go_simp)
        have E1 := qh (show (u0.alloc (.cells #[] 3)).ownsRow u0.heap.size 3 1 (.slice (some ⟨u0.heap.size, 0, none⟩) 0 0) 0 [] from World.ownsRow_lit (base := u0.heap.size) (e := 3) (size := 1) u0 #[] 0 (Nat.le_refl _) (by unfold maxLen; omega) rfl)
        have D1 := qh (alloc_up u0 (.cells #[] 3))
        have S1 := qh (srcOfI ((HX8.out.below (D1.out.mono lz)).more (show base ≤ (u0.alloc (.cells #[] 3)).heap.size by rw [World.size_alloc]; omega)))
        have N1 := qh (ints_cell1 xs)
        ((try dsimp only); refine nxK hK _ _ (hS.out _ D1.out) ?_; clear hK K; (try simp only [Act.put,pS,pZ,pC]))
        generalize u0.alloc (.cells #[] 3) = u1 at E1 D1 S1 ⊢
        refine mxB (by rfl) (fun K hK => ?_)
        rw [if_pos (by rfl)]
        refine wp_append_src _ _ _ 23 (by rfl) u0.heap.size 3 i0 _ 1 8 Tryz.underlying23 hi0 hz0 hz1 hz2 rfl (by omega) (.slice (some ⟨u0.heap.size, 0, none⟩) 0 0) 0 [] (by rfl) E1.out A3 3 c3 _ (by rfl) S1.out N1.out (by unfold maxLen; omega) (by omega) D1.out.size ?_
        intro v6 u2 hown6 hgrow6 hrow6
        rw [Nat.zero_add, List.nil_append] at hown6
        obtain ⟨A6m, c6m, rfl⟩ := own_shape hown6
        have D2 := qh (D1.out.grown hgrow6 D1.out.size (fun j e => (E1.out.lt j e).1))
        have E2 := qh hown6
        clear hown6 hgrow6 hrow6 S1 N1 E1 D1
        ((try dsimp only); refine nxK hK _ _ (hS.out _ D2.out) ?_; clear hK K; (try simp only [Act.put,pS,pZ,pC]))
        repeat ((first | refine mxS (by rfl) (by rfl) ?_ | (refine mxT (v := ?_) (by rfl) (by rfl) (fun z y => ?_) ?_; rotate_left; (focus ((try dsimp only at y); (go_simp <;> with_reducible rfl); done)))); (try simp only [Act.put,pS,pZ,pC]))
        have D3 := qh (D2.out.alloc D2.out.size (.cells #[.int .i64 id, .slice A6m 3 c6m] 40))
        have E3 := qh (own_lo (own_alloc E2.out (.cells #[.int .i64 id, .slice A6m 3 c6m] 40)) lz)
        have X3 := qh (lit2 u2 40 (.int .i64 id) (.slice A6m 3 c6m))
        (refine mxB (by rfl) (fun K hK => ?_); go_simp)
        ((try dsimp only); refine nxK hK _ _ (hS.out _ D3.out) ?_; clear hK K; (try simp only [Act.put,pS,pZ,pC]))
        clear D2 E2
        generalize u2.heap.size = gx at X3 ⊢
        generalize u2.alloc (.cells #[.int .i64 id, .slice A6m 3 c6m] 40) = u3 at D3 E3 X3 ⊢
        have KU := qh (KeepTI.up D3.out)
        have N3 := qh (N8.out.keepTI KU.out)
        have R3 := qh (own_up' R8.out D3.out)
        have V3 := qh (V8.out.keepTI KU.out)
        have M3 := qh (own_up' M8.out D3.out)
        have U3 := qh (own_up' U8.out D3.out)
        have P3 := qh (P8.out.below D3.out P8.out.lt)
        have T3 := qh (T8.out.below D3.out T8.out.lt)
        have Z3 := qh (Z8.out.below D3.out Z8.out.lt)
        have z3 := D3.out.size
        refine mxB (by rfl) (fun K hK => ?_)
        rw [if_pos (by rfl)]
        refine wp_append_src _ _ _ 30 (by rfl) base 40 t0 _ 2 32 Tryz.underlying30 ht0 htz0 htz1 htz2 rfl (by omega) (.slice At mt ct) mt vt (by rfl) R3.out (some ⟨gx, 0, none⟩) 1 1 [.int .i64 id, .slice A6m 3 c6m] (by rfl) X3.out (one2 _ _ rfl rfl) (by unfold maxLen; omega) (by omega) (by omega) ?_
        intro v6 u4 hown6 hgrow6 hrow6
        obtain ⟨A9, c9, rfl⟩ := own_shape hown6
        have D4 := qh ((B8.out.trans (D3.out.mono lz)).grown hgrow6 (by omega) (fun j e => (R3.out.lt j e).1))
        have R4 := qh hown6
        have KC4 := qh ((KC8.out.step D3.out).grown R3.out hgrow6 (by decide))
        have E4 := own_keep E3.out (fun b hb => hgrow6.block b (E3.out.lt b hb).2 (fun e => own_types R3.out E3.out (by decide) e.symm hb))
        have V4 := qh ((V3.out.grown R3.out (by decide) hgrow6).snoc (id := id) (xs := xs) E4)
        have N4 := qh (N3.out.grow hkl (by rw [Htk.out]; exact hgrow6) R4.out V4.out (by rw [Htk.out]; exact hrow6))
        have M4 := qh (own_keep M3.out (fun b hb => hgrow6.block b (M3.out.lt b hb).2 (fun e => own_types R3.out M3.out (by decide) e.symm hb)))
        have U4 := qh (own_keep U3.out (fun b hb => hgrow6.block b (U3.out.lt b hb).2 (fun e => own_types R3.out U3.out (by decide) e.symm hb)))
        have P4 := qh (P3.out.grown hgrow6 (fun e => own_blk_ne R3.out P3.out (by decide) e.symm))
        have Z4 := qh (Z3.out.grown hgrow6 (fun e => own_blk_ne R3.out Z3.out (by decide) e.symm))
        have s1 := hS.out _ D3.out
        have K4 : u4.cell? ⟨w.heap.size, 1, none⟩ = some (.slice (some ⟨gu, 0, none⟩) n2 c2) ∧ u4.cell? ⟨w.heap.size + 1, 0, none⟩ = some (.int .i64 id) ∧ u4.cell? ⟨w.heap.size + 1, 1, none⟩ = some (.slice A3 3 c3) := ⟨P4.out.cell 1, (hgrow6.cell (a := ⟨w.heap.size + 1, 0, none⟩) s1.2.1 (fun e => by have := Hold.out k hkl (w.heap.size + 1) (by rw [Htk.out]; exact e.symm); omega)), (hgrow6.cell (a := ⟨w.heap.size + 1, 1, none⟩) s1.2.2 (fun e => by have := Hold.out k hkl (w.heap.size + 1) (by rw [Htk.out]; exact e.symm); omega))⟩
        clear hown6 hgrow6 hrow6 E4 s1 R3 E3 X3 N3 V3 M3 U3 P3 T3 Z3 KU D3
        ((try dsimp only); refine nxK hK _ _ (K4) ?_; clear hK K; (try simp only [Act.put,pS,pZ,pC]))
        repeat ((first | refine mxS (by rfl) (by rfl) ?_ | (refine mxT (v := ?_) (by rfl) (by rfl) (fun z y => ?_) ?_; rotate_left; (focus ((try dsimp only at y); (go_simp <;> with_reducible rfl); done)))); (try simp only [Act.put,pS,pZ,pC]))
        have u1 := U4.out.cells (g := gu) rfl (k * 2 + 1) (tk k) (by
          have e2 := (N8.out.2.2.1 k hkl).2.1
          exact e2)
        rw [addr_add, Nat.zero_add, Htk.out] at u1
        have f1 := U4.out.frozenAt (k * 2 + 1)
        (refine mxB (by rfl) (fun K hK => ?_); go_simp)
        clear u1 f1
        obtain ⟨_, curU, eU, _, hbU⟩ := own_row U4.out (by omega)
        injection eU with eU
        injection eU with eU
        subst eU
        have KT := qh (KeepTI.set_ hbU (by decide) (by decide) (k * 2 + 1) (.slice A9 (mt + 1) c9))
        have Bb := qh (D4.out.setCell (p := ⟨gu, k * 2 + 1, none⟩) (by show base ≤ gu; omega) (.slice A9 (mt + 1) c9))
        have KCb := qh (KC4.out.set_ hbU (by decide) (k * 2 + 1) (.slice A9 (mt + 1) c9))
        have Pb := qh (P4.out.far (p := ⟨gu, k * 2 + 1, none⟩) (fun e => own_blk_ne U4.out P4.out (by decide) (by rw [e]; rfl)) (.slice A9 (mt + 1) c9))
        have Zb := qh (Z4.out.far (p := ⟨gu, k * 2 + 1, none⟩) (fun e => own_blk_ne U4.out Z4.out (by decide) (by rw [e]; rfl)) (.slice A9 (mt + 1) c9))
        have OCb := qh (arv_join (own_keepTI M4.out (.inl rfl) KT.out) (own_set U4.out (k * 2 + 1) (.slice A9 (mt + 1) c9)) (N4.out.keepTI KT.out) (by rw [hl.out]; exact hkl))
        have K5 : (u4.setCell ⟨gu, k * 2 + 1, none⟩ (.slice A9 (mt + 1) c9)).cell? ⟨w.heap.size, 1, none⟩ = some (.slice (some ⟨gu, 0, none⟩) n2 c2) ∧ (u4.setCell ⟨gu, k * 2 + 1, none⟩ (.slice A9 (mt + 1) c9)).cell? ⟨w.heap.size + 1, 0, none⟩ = some (.int .i64 id) ∧ (u4.setCell ⟨gu, k * 2 + 1, none⟩ (.slice A9 (mt + 1) c9)).cell? ⟨w.heap.size + 1, 1, none⟩ = some (.slice A3 3 c3) := ⟨Pb.out.cell 1, (World.cell?_of_block (Below.heap_setCell u4 _ _ (w.heap.size + 1) (by show w.heap.size + 1 ≠ gu; exact hTg))).trans K4.2.1, (World.cell?_of_block (Below.heap_setCell u4 _ _ (w.heap.size + 1) (by show w.heap.size + 1 ≠ gu; exact hTg))).trans K4.2.2⟩
        clear hbU KT KC4 U4 N4 M4 P4 Z4 D4 R4 V4 K4
        ((try dsimp only); refine nxK hK _ _ (K5) ?_; clear hK K; (try simp only [Act.put,pS,pZ,pC]))
        clear K5
        generalize u4.setCell ⟨gu, k * 2 + 1, none⟩ (.slice A9 (mt + 1) c9) = wb at Bb Pb Zb OCb KCb ⊢
        refine wpMix_nil ?_
        have y0 := (Pb.out).cell 0
        have y1 := (Pb.out).cell 1
        simp only [gT, gZ, gS] at y0 y1
        have y2 := (Pb.out).frozen 0
        have y3 := (Pb.out).frozen 1
        have x0 := (Zb.out).cell 0
        have x1 := (Zb.out).cell 1
        simp only [gT, gZ, gS] at x0 x1
        have x2 := (Zb.out).frozen 0
        have x3 := (Zb.out).frozen 1
        
        go_wp2_with fail
        have KT := (KeepTU.set_ (Zb.out) (by decide) (by decide) (by decide) 0 (.slice A1 n1 c1)).trans (KeepTU.set_ ((Zb.out).set_ 0 (.slice A1 n1 c1)) (by decide) (by decide) (by decide) 1 (.slice (some ⟨gu, 0, none⟩) n2 c2))
        have EQ := qh (((Zb.out).set_ 0 (.slice A1 n1 c1)).set_ 1 (.slice (some ⟨gu, 0, none⟩) n2 c2))
        have B9 := qh (((Bb.out).setCell (p := ⟨w.heap.size + 2, 0, none⟩) (by show base ≤ w.heap.size + 2; omega) (.slice A1 n1 c1)).setCell (p := ⟨w.heap.size + 2, 1, none⟩) (by show base ≤ w.heap.size + 2; omega) (.slice (some ⟨gu, 0, none⟩) n2 c2))
        have OC := qh ((OCb.out).keepTU KT)
        have KC9 := qh (((KCb.out).new (g := w.heap.size + 2) (by omega) 0 (.slice A1 n1 c1)).new (g := w.heap.size + 2) (by omega) 1 (.slice (some ⟨gu, 0, none⟩) n2 c2))
        clear KT
        generalize World.setCell (World.setCell wb ⟨w.heap.size + 2, 0, none⟩ (.slice A1 n1 c1)) ⟨w.heap.size + 2, 1, none⟩ (.slice (some ⟨gu, 0, none⟩) n2 c2) = w9 at EQ B9 OC KC9 ⊢
        have z0 : w9.cell? ⟨w.heap.size + 2, 0, none⟩ = some (.slice A1 n1 c1) := EQ.out.cell 0
        have z1 : w9.cell? ⟨w.heap.size + 2, 1, none⟩ = some (.slice (some ⟨gu, 0, none⟩) n2 c2) := EQ.out.cell 1
        refine bodyPost_ret (v := .tuple #[.agg #[.slice A1 n1 c1, (.slice (some ⟨gu, 0, none⟩) n2 c2)], .int .i64 0]) (by simp [results, Tryz.results72, go_sem, z0, z1]) rfl ⟨by rw [Hp.out], ?_, B9.out, KC9.out⟩
        rw [Hp.out]
        exact OC.out
      · go_simp
        have E1 := qh (show (u0.alloc (.cells #[] 3)).ownsRow u0.heap.size 3 1 (.slice (some ⟨u0.heap.size, 0, none⟩) 0 0) 0 [] from World.ownsRow_lit (base := u0.heap.size) (e := 3) (size := 1) u0 #[] 0 (Nat.le_refl _) (by unfold maxLen; omega) rfl)
        have D1 := qh (alloc_up u0 (.cells #[] 3))
        have S1 := qh (srcOfI ((HX8.out.below (D1.out.mono lz)).more (show base ≤ (u0.alloc (.cells #[] 3)).heap.size by rw [World.size_alloc]; omega)))
        have N1 := qh (ints_cell1 xs)
        ((try dsimp only); refine nxK hK _ _ (hS.out _ D1.out) ?_; clear hK K; (try simp only [Act.put,pS,pZ,pC]))
        generalize u0.alloc (.cells #[] 3) = u1 at E1 D1 S1 ⊢
        refine wpMix_fork (by rfl) (by rfl) (fun K hK => ?_) (fun K hK => ?_)
        · have q1 : u1.cell? ⟨gu, k * 2 + 1, none⟩ = some (.slice At mt ct) := hUk.out _ D1.out
          go_simp
          clear q1
          ((try dsimp only); refine nxK hK _ _ (hS.out _ D1.out) ?_; clear hK K; (try simp only [Act.put,pS,pZ,pC]))
          refine mxB (by rfl) (fun K hK => ?_)
          rw [if_pos (by rfl)]
          refine wp_append_src _ _ _ 23 (by rfl) u0.heap.size 3 i0 _ 1 8 Tryz.underlying23 hi0 hz0 hz1 hz2 rfl (by omega) (.slice (some ⟨u0.heap.size, 0, none⟩) 0 0) 0 [] (by rfl) E1.out A3 3 c3 _ (by rfl) S1.out N1.out (by unfold maxLen; omega) (by omega) D1.out.size ?_
          intro v6 u2 hown6 hgrow6 hrow6
          rw [Nat.zero_add, List.nil_append] at hown6
          obtain ⟨A6m, c6m, rfl⟩ := own_shape hown6
          have D2 := qh (D1.out.grown hgrow6 D1.out.size (fun j e => (E1.out.lt j e).1))
          have E2 := qh hown6
          clear hown6 hgrow6 hrow6 S1 N1 E1 D1
          ((try dsimp only); refine nxK hK _ _ (hS.out _ D2.out) ?_; clear hK K; (try simp only [Act.put,pS,pZ,pC]))
          repeat ((first | refine mxS (by rfl) (by rfl) ?_ | (refine mxT (v := ?_) (by rfl) (by rfl) (fun z y => ?_) ?_; rotate_left; (focus ((try dsimp only at y); (go_simp <;> with_reducible rfl); done)))); (try simp only [Act.put,pS,pZ,pC]))
          have D3 := qh (D2.out.alloc D2.out.size (.cells #[.int .i64 id, .slice A6m 3 c6m] 40))
          have E3 := qh (own_lo (own_alloc E2.out (.cells #[.int .i64 id, .slice A6m 3 c6m] 40)) lz)
          have X3 := qh (lit2 u2 40 (.int .i64 id) (.slice A6m 3 c6m))
          (refine mxB (by rfl) (fun K hK => ?_); go_simp)
          ((try dsimp only); refine nxK hK _ _ (hS.out _ D3.out) ?_; clear hK K; (try simp only [Act.put,pS,pZ,pC]))
          clear D2 E2
          generalize u2.heap.size = gx at X3 ⊢
          generalize u2.alloc (.cells #[.int .i64 id, .slice A6m 3 c6m] 40) = u3 at D3 E3 X3 ⊢
          have KU := qh (KeepTI.up D3.out)
          have N3 := qh (N8.out.keepTI KU.out)
          have R3 := qh (own_up' R8.out D3.out)
          have V3 := qh (V8.out.keepTI KU.out)
          have M3 := qh (own_up' M8.out D3.out)
          have U3 := qh (own_up' U8.out D3.out)
          have P3 := qh (P8.out.below D3.out P8.out.lt)
          have T3 := qh (T8.out.below D3.out T8.out.lt)
          have Z3 := qh (Z8.out.below D3.out Z8.out.lt)
          have z3 := D3.out.size
          refine mxB (by rfl) (fun K hK => ?_)
          rw [if_pos (by rfl)]
          refine wp_append_src _ _ _ 30 (by rfl) base 40 t0 _ 2 32 Tryz.underlying30 ht0 htz0 htz1 htz2 rfl (by omega) (.slice At mt ct) mt vt (by rfl) R3.out (some ⟨gx, 0, none⟩) 1 1 [.int .i64 id, .slice A6m 3 c6m] (by rfl) X3.out (one2 _ _ rfl rfl) (by unfold maxLen; omega) (by omega) (by omega) ?_
          intro v6 u4 hown6 hgrow6 hrow6
          obtain ⟨A9, c9, rfl⟩ := own_shape hown6
          have D4 := qh ((B8.out.trans (D3.out.mono lz)).grown hgrow6 (by omega) (fun j e => (R3.out.lt j e).1))
          have R4 := qh hown6
          have KC4 := qh ((KC8.out.step D3.out).grown R3.out hgrow6 (by decide))
          have E4 := own_keep E3.out (fun b hb => hgrow6.block b (E3.out.lt b hb).2 (fun e => own_types R3.out E3.out (by decide) e.symm hb))
          have V4 := qh ((V3.out.grown R3.out (by decide) hgrow6).snoc (id := id) (xs := xs) E4)
          have N4 := qh (N3.out.grow hkl (by rw [Htk.out]; exact hgrow6) R4.out V4.out (by rw [Htk.out]; exact hrow6))
          have M4 := qh (own_keep M3.out (fun b hb => hgrow6.block b (M3.out.lt b hb).2 (fun e => own_types R3.out M3.out (by decide) e.symm hb)))
          have U4 := qh (own_keep U3.out (fun b hb => hgrow6.block b (U3.out.lt b hb).2 (fun e => own_types R3.out U3.out (by decide) e.symm hb)))
          have P4 := qh (P3.out.grown hgrow6 (fun e => own_blk_ne R3.out P3.out (by decide) e.symm))
          have Z4 := qh (Z3.out.grown hgrow6 (fun e => own_blk_ne R3.out Z3.out (by decide) e.symm))
          have s1 := hS.out _ D3.out
          have K4 : u4.cell? ⟨w.heap.size, 1, none⟩ = some (.slice (some ⟨gu, 0, none⟩) n2 c2) ∧ u4.cell? ⟨w.heap.size + 1, 0, none⟩ = some (.int .i64 id) ∧ u4.cell? ⟨w.heap.size + 1, 1, none⟩ = some (.slice A3 3 c3) := ⟨P4.out.cell 1, (hgrow6.cell (a := ⟨w.heap.size + 1, 0, none⟩) s1.2.1 (fun e => by have := Hold.out k hkl (w.heap.size + 1) (by rw [Htk.out]; exact e.symm); omega)), (hgrow6.cell (a := ⟨w.heap.size + 1, 1, none⟩) s1.2.2 (fun e => by have := Hold.out k hkl (w.heap.size + 1) (by rw [Htk.out]; exact e.symm); omega))⟩
          clear hown6 hgrow6 hrow6 E4 s1 R3 E3 X3 N3 V3 M3 U3 P3 T3 Z3 KU D3
          ((try dsimp only); refine nxK hK _ _ (K4) ?_; clear hK K; (try simp only [Act.put,pS,pZ,pC]))
          repeat ((first | refine mxS (by rfl) (by rfl) ?_ | (refine mxT (v := ?_) (by rfl) (by rfl) (fun z y => ?_) ?_; rotate_left; (focus ((try dsimp only at y); (go_simp <;> with_reducible rfl); done)))); (try simp only [Act.put,pS,pZ,pC]))
          have u1 := U4.out.cells (g := gu) rfl (k * 2 + 1) (tk k) (by
            have e2 := (N8.out.2.2.1 k hkl).2.1
            exact e2)
          rw [addr_add, Nat.zero_add, Htk.out] at u1
          have f1 := U4.out.frozenAt (k * 2 + 1)
          (refine mxB (by rfl) (fun K hK => ?_); go_simp)
          clear u1 f1
          obtain ⟨_, curU, eU, _, hbU⟩ := own_row U4.out (by omega)
          injection eU with eU
          injection eU with eU
          subst eU
          have KT := qh (KeepTI.set_ hbU (by decide) (by decide) (k * 2 + 1) (.slice A9 (mt + 1) c9))
          have Bb := qh (D4.out.setCell (p := ⟨gu, k * 2 + 1, none⟩) (by show base ≤ gu; omega) (.slice A9 (mt + 1) c9))
          have KCb := qh (KC4.out.set_ hbU (by decide) (k * 2 + 1) (.slice A9 (mt + 1) c9))
          have Pb := qh (P4.out.far (p := ⟨gu, k * 2 + 1, none⟩) (fun e => own_blk_ne U4.out P4.out (by decide) (by rw [e]; rfl)) (.slice A9 (mt + 1) c9))
          have Zb := qh (Z4.out.far (p := ⟨gu, k * 2 + 1, none⟩) (fun e => own_blk_ne U4.out Z4.out (by decide) (by rw [e]; rfl)) (.slice A9 (mt + 1) c9))
          have OCb := qh (arv_join (own_keepTI M4.out (.inl rfl) KT.out) (own_set U4.out (k * 2 + 1) (.slice A9 (mt + 1) c9)) (N4.out.keepTI KT.out) (by rw [hl.out]; exact hkl))
          have K5 : (u4.setCell ⟨gu, k * 2 + 1, none⟩ (.slice A9 (mt + 1) c9)).cell? ⟨w.heap.size, 1, none⟩ = some (.slice (some ⟨gu, 0, none⟩) n2 c2) ∧ (u4.setCell ⟨gu, k * 2 + 1, none⟩ (.slice A9 (mt + 1) c9)).cell? ⟨w.heap.size + 1, 0, none⟩ = some (.int .i64 id) ∧ (u4.setCell ⟨gu, k * 2 + 1, none⟩ (.slice A9 (mt + 1) c9)).cell? ⟨w.heap.size + 1, 1, none⟩ = some (.slice A3 3 c3) := ⟨Pb.out.cell 1, (World.cell?_of_block (Below.heap_setCell u4 _ _ (w.heap.size + 1) (by show w.heap.size + 1 ≠ gu; exact hTg))).trans K4.2.1, (World.cell?_of_block (Below.heap_setCell u4 _ _ (w.heap.size + 1) (by show w.heap.size + 1 ≠ gu; exact hTg))).trans K4.2.2⟩
          clear hbU KT KC4 U4 N4 M4 P4 Z4 D4 R4 V4 K4
          ((try dsimp only); refine nxK hK _ _ (K5) ?_; clear hK K; (try simp only [Act.put,pS,pZ,pC]))
          clear K5
          generalize u4.setCell ⟨gu, k * 2 + 1, none⟩ (.slice A9 (mt + 1) c9) = wb at Bb Pb Zb OCb KCb ⊢
          refine wpMix_nil ?_
          have y0 := (Pb.out).cell 0
          have y1 := (Pb.out).cell 1
          simp only [gT, gZ, gS] at y0 y1
          have y2 := (Pb.out).frozen 0
          have y3 := (Pb.out).frozen 1
          have x0 := (Zb.out).cell 0
          have x1 := (Zb.out).cell 1
          simp only [gT, gZ, gS] at x0 x1
          have x2 := (Zb.out).frozen 0
          have x3 := (Zb.out).frozen 1
          
          go_wp2_with fail
          have KT := (KeepTU.set_ (Zb.out) (by decide) (by decide) (by decide) 0 (.slice A1 n1 c1)).trans (KeepTU.set_ ((Zb.out).set_ 0 (.slice A1 n1 c1)) (by decide) (by decide) (by decide) 1 (.slice (some ⟨gu, 0, none⟩) n2 c2))
          have EQ := qh (((Zb.out).set_ 0 (.slice A1 n1 c1)).set_ 1 (.slice (some ⟨gu, 0, none⟩) n2 c2))
          have B9 := qh (((Bb.out).setCell (p := ⟨w.heap.size + 2, 0, none⟩) (by show base ≤ w.heap.size + 2; omega) (.slice A1 n1 c1)).setCell (p := ⟨w.heap.size + 2, 1, none⟩) (by show base ≤ w.heap.size + 2; omega) (.slice (some ⟨gu, 0, none⟩) n2 c2))
          have OC := qh ((OCb.out).keepTU KT)
          have KC9 := qh (((KCb.out).new (g := w.heap.size + 2) (by omega) 0 (.slice A1 n1 c1)).new (g := w.heap.size + 2) (by omega) 1 (.slice (some ⟨gu, 0, none⟩) n2 c2))
          clear KT
          generalize World.setCell (World.setCell wb ⟨w.heap.size + 2, 0, none⟩ (.slice A1 n1 c1)) ⟨w.heap.size + 2, 1, none⟩ (.slice (some ⟨gu, 0, none⟩) n2 c2) = w9 at EQ B9 OC KC9 ⊢
          have z0 : w9.cell? ⟨w.heap.size + 2, 0, none⟩ = some (.slice A1 n1 c1) := EQ.out.cell 0
          have z1 : w9.cell? ⟨w.heap.size + 2, 1, none⟩ = some (.slice (some ⟨gu, 0, none⟩) n2 c2) := EQ.out.cell 1
          refine bodyPost_ret (v := .tuple #[.agg #[.slice A1 n1 c1, (.slice (some ⟨gu, 0, none⟩) n2 c2)], .int .i64 0]) (by simp [results, Tryz.results72, go_sem, z0, z1]) rfl ⟨by rw [Hp.out], ?_, B9.out, KC9.out⟩
          rw [Hp.out]
          exact OC.out
        · rw [if_pos (by rfl)]
          refine wp_append_src _ _ _ 23 (by rfl) u0.heap.size 3 i0 _ 1 8 Tryz.underlying23 hi0 hz0 hz1 hz2 rfl (by omega) (.slice (some ⟨u0.heap.size, 0, none⟩) 0 0) 0 [] (by rfl) E1.out A3 3 c3 _ (by rfl) S1.out N1.out (by unfold maxLen; omega) (by omega) D1.out.size ?_
          intro v6 u2 hown6 hgrow6 hrow6
          rw [Nat.zero_add, List.nil_append] at hown6
          obtain ⟨A6m, c6m, rfl⟩ := own_shape hown6
          have D2 := qh (D1.out.grown hgrow6 D1.out.size (fun j e => (E1.out.lt j e).1))
          have E2 := qh hown6
          clear hown6 hgrow6 hrow6 S1 N1 E1 D1
          ((try dsimp only); refine nxK hK _ _ (hS.out _ D2.out) ?_; clear hK K; (try simp only [Act.put,pS,pZ,pC]))
          repeat ((first | refine mxS (by rfl) (by rfl) ?_ | (refine mxT (v := ?_) (by rfl) (by rfl) (fun z y => ?_) ?_; rotate_left; (focus ((try dsimp only at y); (go_simp <;> with_reducible rfl); done)))); (try simp only [Act.put,pS,pZ,pC]))
          refine wpMix_fork (by rfl) (by rfl) (fun K hK => ?_) (fun K hK => ?_)
          · have q1 : u2.cell? ⟨gu, k * 2 + 1, none⟩ = some (.slice At mt ct) := hUk.out _ D2.out
            go_simp
            clear q1
            ((try dsimp only); refine nxK hK _ _ (hS.out _ D2.out) ?_; clear hK K; (try simp only [Act.put,pS,pZ,pC]))
            have D3 := qh (D2.out.alloc D2.out.size (.cells #[.int .i64 id, .slice A6m 3 c6m] 40))
            have E3 := qh (own_lo (own_alloc E2.out (.cells #[.int .i64 id, .slice A6m 3 c6m] 40)) lz)
            have X3 := qh (lit2 u2 40 (.int .i64 id) (.slice A6m 3 c6m))
            (refine mxB (by rfl) (fun K hK => ?_); go_simp)
            ((try dsimp only); refine nxK hK _ _ (hS.out _ D3.out) ?_; clear hK K; (try simp only [Act.put,pS,pZ,pC]))
            clear D2 E2
            generalize u2.heap.size = gx at X3 ⊢
            generalize u2.alloc (.cells #[.int .i64 id, .slice A6m 3 c6m] 40) = u3 at D3 E3 X3 ⊢
            have KU := qh (KeepTI.up D3.out)
            have N3 := qh (N8.out.keepTI KU.out)
            have R3 := qh (own_up' R8.out D3.out)
            have V3 := qh (V8.out.keepTI KU.out)
            have M3 := qh (own_up' M8.out D3.out)
            have U3 := qh (own_up' U8.out D3.out)
            have P3 := qh (P8.out.below D3.out P8.out.lt)
            have T3 := qh (T8.out.below D3.out T8.out.lt)
            have Z3 := qh (Z8.out.below D3.out Z8.out.lt)
            have z3 := D3.out.size
            refine mxB (by rfl) (fun K hK => ?_)
            rw [if_pos (by rfl)]
            refine wp_append_src _ _ _ 30 (by rfl) base 40 t0 _ 2 32 Tryz.underlying30 ht0 htz0 htz1 htz2 rfl (by omega) (.slice At mt ct) mt vt (by rfl) R3.out (some ⟨gx, 0, none⟩) 1 1 [.int .i64 id, .slice A6m 3 c6m] (by rfl) X3.out (one2 _ _ rfl rfl) (by unfold maxLen; omega) (by omega) (by omega) ?_
            intro v6 u4 hown6 hgrow6 hrow6
            obtain ⟨A9, c9, rfl⟩ := own_shape hown6
            have D4 := qh ((B8.out.trans (D3.out.mono lz)).grown hgrow6 (by omega) (fun j e => (R3.out.lt j e).1))
            have R4 := qh hown6
            have KC4 := qh ((KC8.out.step D3.out).grown R3.out hgrow6 (by decide))
            have E4 := own_keep E3.out (fun b hb => hgrow6.block b (E3.out.lt b hb).2 (fun e => own_types R3.out E3.out (by decide) e.symm hb))
            have V4 := qh ((V3.out.grown R3.out (by decide) hgrow6).snoc (id := id) (xs := xs) E4)
            have N4 := qh (N3.out.grow hkl (by rw [Htk.out]; exact hgrow6) R4.out V4.out (by rw [Htk.out]; exact hrow6))
            have M4 := qh (own_keep M3.out (fun b hb => hgrow6.block b (M3.out.lt b hb).2 (fun e => own_types R3.out M3.out (by decide) e.symm hb)))
            have U4 := qh (own_keep U3.out (fun b hb => hgrow6.block b (U3.out.lt b hb).2 (fun e => own_types R3.out U3.out (by decide) e.symm hb)))
            have P4 := qh (P3.out.grown hgrow6 (fun e => own_blk_ne R3.out P3.out (by decide) e.symm))
            have Z4 := qh (Z3.out.grown hgrow6 (fun e => own_blk_ne R3.out Z3.out (by decide) e.symm))
            have s1 := hS.out _ D3.out
            have K4 : u4.cell? ⟨w.heap.size, 1, none⟩ = some (.slice (some ⟨gu, 0, none⟩) n2 c2) ∧ u4.cell? ⟨w.heap.size + 1, 0, none⟩ = some (.int .i64 id) ∧ u4.cell? ⟨w.heap.size + 1, 1, none⟩ = some (.slice A3 3 c3) := ⟨P4.out.cell 1, (hgrow6.cell (a := ⟨w.heap.size + 1, 0, none⟩) s1.2.1 (fun e => by have := Hold.out k hkl (w.heap.size + 1) (by rw [Htk.out]; exact e.symm); omega)), (hgrow6.cell (a := ⟨w.heap.size + 1, 1, none⟩) s1.2.2 (fun e => by have := Hold.out k hkl (w.heap.size + 1) (by rw [Htk.out]; exact e.symm); omega))⟩
            clear hown6 hgrow6 hrow6 E4 s1 R3 E3 X3 N3 V3 M3 U3 P3 T3 Z3 KU D3
            ((try dsimp only); refine nxK hK _ _ (K4) ?_; clear hK K; (try simp only [Act.put,pS,pZ,pC]))
            repeat ((first | refine mxS (by rfl) (by rfl) ?_ | (refine mxT (v := ?_) (by rfl) (by rfl) (fun z y => ?_) ?_; rotate_left; (focus ((try dsimp only at y); (go_simp <;> with_reducible rfl); done)))); (try simp only [Act.put,pS,pZ,pC]))
            have u1 := U4.out.cells (g := gu) rfl (k * 2 + 1) (tk k) (by
              have e2 := (N8.out.2.2.1 k hkl).2.1
              exact e2)
            rw [addr_add, Nat.zero_add, Htk.out] at u1
            have f1 := U4.out.frozenAt (k * 2 + 1)
            (refine mxB (by rfl) (fun K hK => ?_); go_simp)
            clear u1 f1
            obtain ⟨_, curU, eU, _, hbU⟩ := own_row U4.out (by omega)
            injection eU with eU
            injection eU with eU
            subst eU
            have KT := qh (KeepTI.set_ hbU (by decide) (by decide) (k * 2 + 1) (.slice A9 (mt + 1) c9))
            have Bb := qh (D4.out.setCell (p := ⟨gu, k * 2 + 1, none⟩) (by show base ≤ gu; omega) (.slice A9 (mt + 1) c9))
            have KCb := qh (KC4.out.set_ hbU (by decide) (k * 2 + 1) (.slice A9 (mt + 1) c9))
            have Pb := qh (P4.out.far (p := ⟨gu, k * 2 + 1, none⟩) (fun e => own_blk_ne U4.out P4.out (by decide) (by rw [e]; rfl)) (.slice A9 (mt + 1) c9))
            have Zb := qh (Z4.out.far (p := ⟨gu, k * 2 + 1, none⟩) (fun e => own_blk_ne U4.out Z4.out (by decide) (by rw [e]; rfl)) (.slice A9 (mt + 1) c9))
            have OCb := qh (arv_join (own_keepTI M4.out (.inl rfl) KT.out) (own_set U4.out (k * 2 + 1) (.slice A9 (mt + 1) c9)) (N4.out.keepTI KT.out) (by rw [hl.out]; exact hkl))
            have K5 : (u4.setCell ⟨gu, k * 2 + 1, none⟩ (.slice A9 (mt + 1) c9)).cell? ⟨w.heap.size, 1, none⟩ = some (.slice (some ⟨gu, 0, none⟩) n2 c2) ∧ (u4.setCell ⟨gu, k * 2 + 1, none⟩ (.slice A9 (mt + 1) c9)).cell? ⟨w.heap.size + 1, 0, none⟩ = some (.int .i64 id) ∧ (u4.setCell ⟨gu, k * 2 + 1, none⟩ (.slice A9 (mt + 1) c9)).cell? ⟨w.heap.size + 1, 1, none⟩ = some (.slice A3 3 c3) := ⟨Pb.out.cell 1, (World.cell?_of_block (Below.heap_setCell u4 _ _ (w.heap.size + 1) (by show w.heap.size + 1 ≠ gu; exact hTg))).trans K4.2.1, (World.cell?_of_block (Below.heap_setCell u4 _ _ (w.heap.size + 1) (by show w.heap.size + 1 ≠ gu; exact hTg))).trans K4.2.2⟩
            clear hbU KT KC4 U4 N4 M4 P4 Z4 D4 R4 V4 K4
            ((try dsimp only); refine nxK hK _ _ (K5) ?_; clear hK K; (try simp only [Act.put,pS,pZ,pC]))
            clear K5
            generalize u4.setCell ⟨gu, k * 2 + 1, none⟩ (.slice A9 (mt + 1) c9) = wb at Bb Pb Zb OCb KCb ⊢
            refine wpMix_nil ?_
            have y0 := (Pb.out).cell 0
            have y1 := (Pb.out).cell 1
            simp only [gT, gZ, gS] at y0 y1
            have y2 := (Pb.out).frozen 0
            have y3 := (Pb.out).frozen 1
            have x0 := (Zb.out).cell 0
            have x1 := (Zb.out).cell 1
            simp only [gT, gZ, gS] at x0 x1
            have x2 := (Zb.out).frozen 0
            have x3 := (Zb.out).frozen 1
            
            go_wp2_with fail
            have KT := (KeepTU.set_ (Zb.out) (by decide) (by decide) (by decide) 0 (.slice A1 n1 c1)).trans (KeepTU.set_ ((Zb.out).set_ 0 (.slice A1 n1 c1)) (by decide) (by decide) (by decide) 1 (.slice (some ⟨gu, 0, none⟩) n2 c2))
            have EQ := qh (((Zb.out).set_ 0 (.slice A1 n1 c1)).set_ 1 (.slice (some ⟨gu, 0, none⟩) n2 c2))
            have B9 := qh (((Bb.out).setCell (p := ⟨w.heap.size + 2, 0, none⟩) (by show base ≤ w.heap.size + 2; omega) (.slice A1 n1 c1)).setCell (p := ⟨w.heap.size + 2, 1, none⟩) (by show base ≤ w.heap.size + 2; omega) (.slice (some ⟨gu, 0, none⟩) n2 c2))
            have OC := qh ((OCb.out).keepTU KT)
            have KC9 := qh (((KCb.out).new (g := w.heap.size + 2) (by omega) 0 (.slice A1 n1 c1)).new (g := w.heap.size + 2) (by omega) 1 (.slice (some ⟨gu, 0, none⟩) n2 c2))
            clear KT
            generalize World.setCell (World.setCell wb ⟨w.heap.size + 2, 0, none⟩ (.slice A1 n1 c1)) ⟨w.heap.size + 2, 1, none⟩ (.slice (some ⟨gu, 0, none⟩) n2 c2) = w9 at EQ B9 OC KC9 ⊢
            have z0 : w9.cell? ⟨w.heap.size + 2, 0, none⟩ = some (.slice A1 n1 c1) := EQ.out.cell 0
            have z1 : w9.cell? ⟨w.heap.size + 2, 1, none⟩ = some (.slice (some ⟨gu, 0, none⟩) n2 c2) := EQ.out.cell 1
            refine bodyPost_ret (v := .tuple #[.agg #[.slice A1 n1 c1, (.slice (some ⟨gu, 0, none⟩) n2 c2)], .int .i64 0]) (by simp [results, Tryz.results72, go_sem, z0, z1]) rfl ⟨by rw [Hp.out], ?_, B9.out, KC9.out⟩
            rw [Hp.out]
            exact OC.out
          · have D3 := qh (D2.out.alloc D2.out.size (.cells #[.int .i64 id, .slice A6m 3 c6m] 40))
            have E3 := qh (own_lo (own_alloc E2.out (.cells #[.int .i64 id, .slice A6m 3 c6m] 40)) lz)
            have X3 := qh (lit2 u2 40 (.int .i64 id) (.slice A6m 3 c6m))
            go_simp
            ((try dsimp only); refine nxK hK _ _ (hS.out _ D3.out) ?_; clear hK K; (try simp only [Act.put,pS,pZ,pC]))
            clear D2 E2
            generalize u2.heap.size = gx at X3 ⊢
            generalize u2.alloc (.cells #[.int .i64 id, .slice A6m 3 c6m] 40) = u3 at D3 E3 X3 ⊢
            have q1 : u3.cell? ⟨gu, k * 2 + 1, none⟩ = some (.slice At mt ct) := hUk.out _ D3.out
            (refine mxB (by rfl) (fun K hK => ?_); go_simp)
            clear q1
            ((try dsimp only); refine nxK hK _ _ (hS.out _ D3.out) ?_; clear hK K; (try simp only [Act.put,pS,pZ,pC]))
            have KU := qh (KeepTI.up D3.out)
            have N3 := qh (N8.out.keepTI KU.out)
            have R3 := qh (own_up' R8.out D3.out)
            have V3 := qh (V8.out.keepTI KU.out)
            have M3 := qh (own_up' M8.out D3.out)
            have U3 := qh (own_up' U8.out D3.out)
            have P3 := qh (P8.out.below D3.out P8.out.lt)
            have T3 := qh (T8.out.below D3.out T8.out.lt)
            have Z3 := qh (Z8.out.below D3.out Z8.out.lt)
            have z3 := D3.out.size
            refine mxB (by rfl) (fun K hK => ?_)
            rw [if_pos (by rfl)]
            refine wp_append_src _ _ _ 30 (by rfl) base 40 t0 _ 2 32 Tryz.underlying30 ht0 htz0 htz1 htz2 rfl (by omega) (.slice At mt ct) mt vt (by rfl) R3.out (some ⟨gx, 0, none⟩) 1 1 [.int .i64 id, .slice A6m 3 c6m] (by rfl) X3.out (one2 _ _ rfl rfl) (by unfold maxLen; omega) (by omega) (by omega) ?_
            intro v6 u4 hown6 hgrow6 hrow6
            obtain ⟨A9, c9, rfl⟩ := own_shape hown6
            have D4 := qh ((B8.out.trans (D3.out.mono lz)).grown hgrow6 (by omega) (fun j e => (R3.out.lt j e).1))
            have R4 := qh hown6
            have KC4 := qh ((KC8.out.step D3.out).grown R3.out hgrow6 (by decide))
            have E4 := own_keep E3.out (fun b hb => hgrow6.block b (E3.out.lt b hb).2 (fun e => own_types R3.out E3.out (by decide) e.symm hb))
            have V4 := qh ((V3.out.grown R3.out (by decide) hgrow6).snoc (id := id) (xs := xs) E4)
            have N4 := qh (N3.out.grow hkl (by rw [Htk.out]; exact hgrow6) R4.out V4.out (by rw [Htk.out]; exact hrow6))
            have M4 := qh (own_keep M3.out (fun b hb => hgrow6.block b (M3.out.lt b hb).2 (fun e => own_types R3.out M3.out (by decide) e.symm hb)))
            have U4 := qh (own_keep U3.out (fun b hb => hgrow6.block b (U3.out.lt b hb).2 (fun e => own_types R3.out U3.out (by decide) e.symm hb)))
            have P4 := qh (P3.out.grown hgrow6 (fun e => own_blk_ne R3.out P3.out (by decide) e.symm))
            have Z4 := qh (Z3.out.grown hgrow6 (fun e => own_blk_ne R3.out Z3.out (by decide) e.symm))
            have s1 := hS.out _ D3.out
            have K4 : u4.cell? ⟨w.heap.size, 1, none⟩ = some (.slice (some ⟨gu, 0, none⟩) n2 c2) ∧ u4.cell? ⟨w.heap.size + 1, 0, none⟩ = some (.int .i64 id) ∧ u4.cell? ⟨w.heap.size + 1, 1, none⟩ = some (.slice A3 3 c3) := ⟨P4.out.cell 1, (hgrow6.cell (a := ⟨w.heap.size + 1, 0, none⟩) s1.2.1 (fun e => by have := Hold.out k hkl (w.heap.size + 1) (by rw [Htk.out]; exact e.symm); omega)), (hgrow6.cell (a := ⟨w.heap.size + 1, 1, none⟩) s1.2.2 (fun e => by have := Hold.out k hkl (w.heap.size + 1) (by rw [Htk.out]; exact e.symm); omega))⟩
            clear hown6 hgrow6 hrow6 E4 s1 R3 E3 X3 N3 V3 M3 U3 P3 T3 Z3 KU D3
            ((try dsimp only); refine nxK hK _ _ (K4) ?_; clear hK K; (try simp only [Act.put,pS,pZ,pC]))
            repeat ((first | refine mxS (by rfl) (by rfl) ?_ | (refine mxT (v := ?_) (by rfl) (by rfl) (fun z y => ?_) ?_; rotate_left; (focus ((try dsimp only at y); (go_simp <;> with_reducible rfl); done)))); (try simp only [Act.put,pS,pZ,pC]))
            have u1 := U4.out.cells (g := gu) rfl (k * 2 + 1) (tk k) (by
              have e2 := (N8.out.2.2.1 k hkl).2.1
              exact e2)
            rw [addr_add, Nat.zero_add, Htk.out] at u1
            have f1 := U4.out.frozenAt (k * 2 + 1)
            (refine mxB (by rfl) (fun K hK => ?_); go_simp)
            clear u1 f1
            obtain ⟨_, curU, eU, _, hbU⟩ := own_row U4.out (by omega)
            injection eU with eU
            injection eU with eU
            subst eU
            have KT := qh (KeepTI.set_ hbU (by decide) (by decide) (k * 2 + 1) (.slice A9 (mt + 1) c9))
            have Bb := qh (D4.out.setCell (p := ⟨gu, k * 2 + 1, none⟩) (by show base ≤ gu; omega) (.slice A9 (mt + 1) c9))
            have KCb := qh (KC4.out.set_ hbU (by decide) (k * 2 + 1) (.slice A9 (mt + 1) c9))
            have Pb := qh (P4.out.far (p := ⟨gu, k * 2 + 1, none⟩) (fun e => own_blk_ne U4.out P4.out (by decide) (by rw [e]; rfl)) (.slice A9 (mt + 1) c9))
            have Zb := qh (Z4.out.far (p := ⟨gu, k * 2 + 1, none⟩) (fun e => own_blk_ne U4.out Z4.out (by decide) (by rw [e]; rfl)) (.slice A9 (mt + 1) c9))
            have OCb := qh (arv_join (own_keepTI M4.out (.inl rfl) KT.out) (own_set U4.out (k * 2 + 1) (.slice A9 (mt + 1) c9)) (N4.out.keepTI KT.out) (by rw [hl.out]; exact hkl))
            have K5 : (u4.setCell ⟨gu, k * 2 + 1, none⟩ (.slice A9 (mt + 1) c9)).cell? ⟨w.heap.size, 1, none⟩ = some (.slice (some ⟨gu, 0, none⟩) n2 c2) ∧ (u4.setCell ⟨gu, k * 2 + 1, none⟩ (.slice A9 (mt + 1) c9)).cell? ⟨w.heap.size + 1, 0, none⟩ = some (.int .i64 id) ∧ (u4.setCell ⟨gu, k * 2 + 1, none⟩ (.slice A9 (mt + 1) c9)).cell? ⟨w.heap.size + 1, 1, none⟩ = some (.slice A3 3 c3) := ⟨Pb.out.cell 1, (World.cell?_of_block (Below.heap_setCell u4 _ _ (w.heap.size + 1) (by show w.heap.size + 1 ≠ gu; exact hTg))).trans K4.2.1, (World.cell?_of_block (Below.heap_setCell u4 _ _ (w.heap.size + 1) (by show w.heap.size + 1 ≠ gu; exact hTg))).trans K4.2.2⟩
            clear hbU KT KC4 U4 N4 M4 P4 Z4 D4 R4 V4 K4
            ((try dsimp only); refine nxK hK _ _ (K5) ?_; clear hK K; (try simp only [Act.put,pS,pZ,pC]))
            clear K5
            generalize u4.setCell ⟨gu, k * 2 + 1, none⟩ (.slice A9 (mt + 1) c9) = wb at Bb Pb Zb OCb KCb ⊢
            refine wpMix_nil ?_
            have y0 := (Pb.out).cell 0
            have y1 := (Pb.out).cell 1
            simp only [gT, gZ, gS] at y0 y1
            have y2 := (Pb.out).frozen 0
            have y3 := (Pb.out).frozen 1
            have x0 := (Zb.out).cell 0
            have x1 := (Zb.out).cell 1
            simp only [gT, gZ, gS] at x0 x1
            have x2 := (Zb.out).frozen 0
            have x3 := (Zb.out).frozen 1
            
            go_wp2_with fail
            have KT := (KeepTU.set_ (Zb.out) (by decide) (by decide) (by decide) 0 (.slice A1 n1 c1)).trans (KeepTU.set_ ((Zb.out).set_ 0 (.slice A1 n1 c1)) (by decide) (by decide) (by decide) 1 (.slice (some ⟨gu, 0, none⟩) n2 c2))
            have EQ := qh (((Zb.out).set_ 0 (.slice A1 n1 c1)).set_ 1 (.slice (some ⟨gu, 0, none⟩) n2 c2))
            have B9 := qh (((Bb.out).setCell (p := ⟨w.heap.size + 2, 0, none⟩) (by show base ≤ w.heap.size + 2; omega) (.slice A1 n1 c1)).setCell (p := ⟨w.heap.size + 2, 1, none⟩) (by show base ≤ w.heap.size + 2; omega) (.slice (some ⟨gu, 0, none⟩) n2 c2))
            have OC := qh ((OCb.out).keepTU KT)
            have KC9 := qh (((KCb.out).new (g := w.heap.size + 2) (by omega) 0 (.slice A1 n1 c1)).new (g := w.heap.size + 2) (by omega) 1 (.slice (some ⟨gu, 0, none⟩) n2 c2))
            clear KT
            generalize World.setCell (World.setCell wb ⟨w.heap.size + 2, 0, none⟩ (.slice A1 n1 c1)) ⟨w.heap.size + 2, 1, none⟩ (.slice (some ⟨gu, 0, none⟩) n2 c2) = w9 at EQ B9 OC KC9 ⊢
            have z0 : w9.cell? ⟨w.heap.size + 2, 0, none⟩ = some (.slice A1 n1 c1) := EQ.out.cell 0
            have z1 : w9.cell? ⟨w.heap.size + 2, 1, none⟩ = some (.slice (some ⟨gu, 0, none⟩) n2 c2) := EQ.out.cell 1
            refine bodyPost_ret (v := .tuple #[.agg #[.slice A1 n1 c1, (.slice (some ⟨gu, 0, none⟩) n2 c2)], .int .i64 0]) (by simp [results, Tryz.results72, go_sem, z0, z1]) rfl ⟨by rw [Hp.out], ?_, B9.out, KC9.out⟩
            rw [Hp.out]
            exact OC.out
end Go.Proofs.YtlcgbnmmbheleaaGreat
