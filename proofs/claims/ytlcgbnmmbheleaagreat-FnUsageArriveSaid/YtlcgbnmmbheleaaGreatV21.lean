/- Several texts in one. -/
import Derived.Test.YtlcgbnmmbheleaaGreatV20
namespace Go.Proofs.YtlcgbnmmbheleaaGreat
set_option linter.unusedSimpArgs false
set_option linter.unusedVariables false
open Go Go.RowKit

section
variable {w wr w' : World} {ob : Nat}
theorem RdI.gain {v v' : World} {B B' n : Nat} {A : Option Addr} {xs : List Int} (h : RdI v B A n xs) (hc : ∀ (p : Addr) (y : Value), v.cell? p = some y → v'.cell? p = some y) (hB : B ≤ B') : RdI v' B' A n xs :=
  ⟨h.1, h.2.1, fun hn => by
    obtain ⟨b, o, e, hb, hx⟩ := h.2.2 hn
    exact ⟨b, o, e, Nat.lt_of_lt_of_le hb hB, fun j hj => hc _ _ (hx j hj)⟩⟩
end

def RdLd (w : World) (C : Nat) (us : List Un) : Prop :=
  ∀ c, c < us.length → ∃ A m, w.cell? ⟨C, c, none⟩ = some (.slice A 3 m) ∧ RdI w w.heap.size A 3 (loadP (us[c]?.getD (false, [])).2)
end Go.Proofs.YtlcgbnmmbheleaaGreat

namespace Go.Proofs.YtlcgbnmmbheleaaGreat
open Go Go.Conc Go.RowKit
set_option linter.unusedVariables false
set_option linter.unusedSimpArgs false

section
variable {P : Program} {A : Ana} {H : Nat → Prop} {Tgt : Goroutine → World → Prop} {v : World} {f : FuncId} {a : Act} {c r : Code} {cs : List Frame} {Nm Rt : World → Act → World → Prop}
theorem KV.seqC (hA : A.good P = true) (hb : A.inB f = true) (htr : A.noTr f = true) (hd : a.defers = []) (hc : codeOK P A f c = true)
    (hwp : ∀ v₁, SameHeap v₁ v → c.wp P (fun e a' v' => (e = .normal ∧ Nm v₁ a' v') ∨ (e = .ret ∧ Rt v₁ a' v')) a v₁)
    (hn : ∀ v₁ a' v', SameHeap v₁ v → Nm v₁ a' v' → KV P H Tgt (G ((base f).at a' [.code r]) cs) v') (hr : ∀ v₁ a' v' todo, SameHeap v₁ v → Rt v₁ a' v' → Tgt (G { (base f).at a' todo with mode := .returning } cs) v') :
    KV P H Tgt (G ((base f).at a [.code (.seq c r)]) cs) v := by
  refine KV.ctl rfl (fun w => stepG_seq) ?_
  refine KV.code hA (Q := fun v₁ e a' v' => (e = .normal ∧ Nm v₁ a' v') ∨ (e = .ret ∧ Rt v₁ a' v')) hb rfl hd (fun t => A.noTr_spec htr t) hc hwp (fun v₁ e a' v' h => h.imp And.left And.left) (fun v₁ a' v' hs h => ?_) (fun v₁ a' v' todo hs h => ?_)
  · rcases h with ⟨_, h⟩ | ⟨h, _⟩
    · exact hn v₁ a' v' hs h
    · cases h
  · rcases h with ⟨h, _⟩ | ⟨_, h⟩
    · cases h
    · exact .stop (hr v₁ a' v' todo hs h)
theorem KV.endC (hA : A.good P = true) (hb : A.inB f = true) (htr : A.noTr f = true) (hd : a.defers = []) (hc : codeOK P A f c = true)
    (hwp : ∀ v₁, SameHeap v₁ v → c.wp P (fun e a' v' => e = .ret ∧ Rt v₁ a' v') a v₁) (hr : ∀ v₁ a' v' todo, SameHeap v₁ v → Rt v₁ a' v' → Tgt (G { (base f).at a' todo with mode := .returning } cs) v') :
    KV P H Tgt (G ((base f).at a [.code c]) cs) v := by
  refine KV.code hA (Q := fun v₁ e a' v' => e = .ret ∧ Rt v₁ a' v') hb rfl hd (fun t => A.noTr_spec htr t) hc hwp (fun v₁ e a' v' h => .inr h.1) (fun v₁ a' v' hs h => nomatch h.1) (fun v₁ a' v' todo hs h => .stop (hr v₁ a' v' todo hs h.2))
end

theorem uok_of {room : List Int} {us : List Un} (h : clOk room us = true) : UOk us ∧ room.length = 3 ∧ (∀ j : Nat, 0 ≤ room[j]?.getD 0 ∧ room[j]?.getD 0 ≤ 20) ∧ ∀ u ∈ us, u.2.length ≤ 14 ∧ ∀ t ∈ u.2, vecOk t.2 = true := by
  obtain ⟨h3, h1, h10, hu⟩ := clOk_facts h
  have hv : vecOk room = true ∧ ∀ u ∈ us, ∀ t ∈ u.2, vecOk t.2 = true := by
    simp only [clOk, binsOk, tasksOk, Bool.and_eq_true, decide_eq_true_eq, List.all_eq_true] at h
    obtain ⟨⟨_, ⟨_, ⟨⟨⟨h3, _⟩, h5⟩, _⟩⟩, _⟩, _⟩ := h
    simp only [roomOk, Bool.and_eq_true] at h3
    refine ⟨h3.1, fun u hu t ht => ?_⟩
    have := h5 t (List.mem_flatten.2 ⟨u.2, List.mem_map.2 ⟨u, hu, rfl⟩, ht⟩)
    simp only [taskOk, vecFits, Bool.and_eq_true] at this
    exact this.2.1.1
  have hk : ∀ k : Nat, us[k]?.getD (false, []) = (false, []) ∨ us[k]?.getD (false, []) ∈ us := fun k => by
    rcases Nat.lt_or_ge k us.length with h | h
    · exact .inr (un_mem h)
    · exact .inl (by rw [List.getElem?_eq_none h]; rfl)
  have ht : ∀ k j : Nat, (us[k]?.getD (false, [])).2[j]?.getD (0, []) = (0, []) ∨ vecOk ((us[k]?.getD (false, [])).2[j]?.getD (0, [])).2 = true := fun k j => by
    rcases hk k with e | e
    · rw [e]; exact .inl rfl
    · rcases Nat.lt_or_ge j (us[k]?.getD (false, [])).2.length with hj | hj
      · right
        refine hv.2 _ e _ ?_
        rw [List.getElem?_eq_getElem hj]
        exact List.getElem_mem hj
      · left; rw [List.getElem?_eq_none hj]; rfl
  refine ⟨⟨h1, by omega, fun k => ?_, fun k j hj => ?_, fun k j i => ?_⟩, h3, fun j => vecOk_bd hv.1 j, fun u hu' => ⟨(hu u hu').1, hv.2 u hu'⟩⟩
  · rcases hk k with e | e
    · rw [e]; simp
    · have := (hu _ e).1; omega
  · rcases ht k j with e | e
    · rcases hk k with e2 | e2
      · rw [e2] at hj; simp at hj
      · refine (hu _ e2).2 _ ?_
        rw [List.getElem?_eq_getElem hj]
        exact List.getElem_mem hj
    · exact vecOk_len e
  · rcases ht k j with e | e
    · rw [e]; simp
    · have := vecOk_bd e i; omega
theorem RdN.gain {v v' : World} {B B' n : Nat} {A : Option Addr} {us : List Un} (h : RdN v B A n us) (hc : ∀ (p : Addr) (y : Value), v.cell? p = some y → v'.cell? p = some y) (hB : B ≤ B') : RdN v' B' A n us :=
  ⟨h.1, h.2.1, fun hn => by
    obtain ⟨b, o, e, hb, hx⟩ := h.2.2 hn
    refine ⟨b, o, e, Nat.lt_of_lt_of_le hb hB, fun j hj => ?_⟩
    obtain ⟨A', m, c, h1, h2, h3, h4⟩ := hx j hj
    exact ⟨A', m, c, hc _ _ h1, hc _ _ h2, h3, RdT.gain h4 (fun p y _ hy => hc p y hy) hB⟩⟩

section
variable {H : Nat → Prop} {v : World} {A1 A2 : Option Addr} {n1 c1 n2 c2 : Nat} {room : List Int} {us : List Un}
end
end Go.Proofs.YtlcgbnmmbheleaaGreat

namespace Go.Proofs.YtlcgbnmmbheleaaGreat
open Go Go.RowKit
attribute [local go_sem ↓] Go.wp_at_zero Go.wp_at_succ

theorem snd_at {us : List Un} (k : Nat) : (us.map (·.2))[k]?.getD [] = (us[k]?.getD (false, [])).2 := by
  rw [List.getElem?_map]
  cases us[k]? <;> rfl
theorem snd_succ {us : List Un} {k : Nat} (h : k < us.length) : (us.take (k + 1)).map (·.2) = (us.take k).map (·.2) ++ [(us[k]?.getD (false, [])).2] := by
  rw [List.take_succ_eq_append_getElem h, List.map_append, List.getElem?_eq_getElem h]
  rfl

set_option maxRecDepth 100000 in
set_option maxHeartbeats 1600000 in
theorem l21Bins_any (A1 A2 : Option Addr) (n1 c1 n2 c2 : Nat) (us : List Un) (w : World) (h : RdN w w.heap.size A2 n2 us) (hn : n2 ≤ 1048576) :
    Calls Tryz.prog 28 #[.agg #[.slice A1 n1 c1, .slice A2 n2 c2]] w fun e w' => ∃ A' m c', e = .returned (.slice A' m c') ∧ RdB w' w'.heap.size A' m (us.map (·.2)) ∧ Below w.heap.size w w' := by
  obtain ⟨i0, hi0, hz0, hz1, hz2⟩ := info_parts slice_info'
  have hl := qh h.len
  have H := qh h
  clear h
  have sz : (w.alloc (.cells #[.slice A1 n1 c1, .slice A2 n2 c2] 26)).heap.size = w.heap.size + 1 := World.size_alloc _ _
  have P2 := qh ((Blk.new w 26 #[.slice A1 n1 c1, .slice A2 n2 c2]).alloc (.cells #[] 30))
  have O2 := qh (World.ownsRow_lit (base := w.heap.size) (e := 30) (size := 1) (w.alloc (.cells #[.slice A1 n1 c1, .slice A2 n2 c2] 26)) #[] 0 (by rw [sz]; omega) (by unfold maxLen; omega) rfl)
  rw [sz] at O2
  have B2 := qh (((Below.refl w.heap.size w).alloc (Nat.le_refl _) (.cells #[.slice A1 n1 c1, .slice A2 n2 c2] 26)).alloc (by simp) (.cells #[] 30))
  clear sz
  go_enter Tryz.func28, Tryz.ntmps28
  go_wp2_with fail
  generalize (w.alloc (.cells #[.slice A1 n1 c1, .slice A2 n2 c2] 26)).alloc (.cells #[] 30) = w2 at P2 O2 B2 ⊢
  go_loopw [3, 4] (fun v i wr => ∃ (k : Nat) (A6 : Option Addr) (m6 c6 : Nat) (vs : List Value), i = .int .i64 k ∧ k ≤ n2 ∧ v = .slice A6 m6 c6 ∧ Below w.heap.size w wr ∧ Blk wr w.heap.size 26 #[.slice A1 n1 c1, .slice A2 n2 c2] ∧
    wr.ownsRow w.heap.size 30 1 (.slice A6 m6 c6) m6 vs ∧ m6 = k ∧ BnCells wr w.heap.size vs ((us.take k).map (·.2))) (fun _ i _ => n2 - (intOf i).toNat)
  case atStart => exact ⟨0, _, _, _, [], rfl, Nat.zero_le _, rfl, B2.out, P2.out, O2.out, rfl, BnCells.nil⟩
  case round =>
    clear B2 P2 O2
    obtain ⟨k, A6, m6, c6, vs, rfl, hk, rfl, hbel, hblk, hown, hmk, hcs⟩ := hrel
    have Hbel := qh hbel
    have Hblk := qh hblk
    have Hown := qh hown
    have Hcs := qh hcs
    have Hmk := qh hmk
    have lm : m6 ≤ 1048576 := by omega
    have lz := hbel.size
    have x1 := hblk.cell 1
    simp only [gT, gZ, gS] at x1
    clear hbel hblk hown hcs hmk
    by_cases hlt : k < n2
    · have k1 : (0 : Int) ≤ (k : Int) := by omega
      have k2 : (k : Int) < (n2 : Int) := by omega
      have k3 : 0 ≤ (k : Int) * 2 := by omega
      have hkl : Hid (k < us.length) := by have := hl.out; show _ < _; omega
      have Hs := qh (snd_succ hkl.out)
      obtain ⟨b, o, A', m', c', rfl, lb, hc1, hc2, hmc, hrd⟩ := (H.out.below Hbel.out).at_ hlt
      have Hrd := qh hrd
      clear hrd
      generalize (us[k]?.getD (false, [])).2 = ts at *
      have Own7 := qh (own_alloc Hown.out (.cells #[.slice A' m' c'] 30))
      have X7 := qh (lit1 wr 30 (.slice A' m' c'))
      have lz7 : w.heap.size ≤ (wr.alloc (.cells #[.slice A' m' c'] 30)).heap.size := by rw [World.size_alloc]; omega
      go_wp2_with (at_builtin; refine wpList_append_src _ rfl _ _ 55 rfl w.heap.size 30 i0 _ 1 24 Tryz.underlying55 hi0 hz0 hz1 hz2 rfl (by omega) (.slice A6 m6 c6) m6 _ rfl Own7.out (some ⟨wr.heap.size, 0, none⟩) 1 1 [.slice A' m' c'] rfl X7.out (one1 _ rfl) (by unfold maxLen; omega) (by omega) lz7 ?_; intro v' w8 hown8 hgrow8 hat8)
      have lo8 := (Below.refl w.heap.size wr).alloc lz (.cells #[.slice A' m' c'] 30)
      have up8 := lo8.grown hgrow8 lz7 (fun j e => (Own7.out.lt j e).1)
      have Hb8 := qh (Hbel.out.trans up8)
      have Hp8 := qh ((Hblk.out.alloc (.cells #[.slice A' m' c'] 30)).grown hgrow8 (fun e => own_blk_ne Hown.out Hblk.out (by decide) e.symm))
      obtain ⟨A8, c8, rfl⟩ := own_shape hown8
      have Own8 := qh hown8
      have Hc8 := qh ((Hcs.out.snoc Hrd.out hmc).keep (fun p hp => up8.cell hp) (Nat.le_refl _))
      clear hown8 hgrow8 hat8 X7 up8 lo8
      go_wp2_with fail
      go_roundw
      case measure => simp [intOf]; omega
      case rel => exact ⟨k + 1, A8, m6 + 1, c8, _, by go_num, by omega, rfl, Hb8.out, Hp8.out, Own8.out, by have := Hmk.out; omega, by rw [Hs.out]; exact Hc8.out⟩
    · obtain rfl : k = n2 := by omega
      go_wp2_with fail
      go_ret
      have hc := Hcs.out
      rw [List.take_of_length_le (by rw [hl.out]; exact Nat.le_refl _)] at hc
      exact ⟨A6, m6, c6, rfl, RdB.of_own Hown.out hc lz (by omega), Hbel.out⟩

theorem all_un {us : List Un} {p : Un → Bool} : us.all p = true ↔ ∀ j, j < us.length → p (us[j]?.getD (false, [])) = true := by
  rw [List.all_eq_true]
  constructor
  · intro h j hj; exact h _ (un_mem hj)
  · intro h x hx
    obtain ⟨j, hj, rfl⟩ := List.getElem_of_mem hx
    have := h j hj
    rwa [List.getElem?_eq_getElem hj] at this
def unOk (u : Un) : Bool := u.1 || u.2.isEmpty
theorem clOk_unfold (room : List Int) (us : List Un) : clOk room us = (decide (1 ≤ us.length ∧ us.length ≤ 10) && binsOk room (us.map (·.2)) && us.all unOk) := rfl
theorem inR_len (n : Nat) : inR 1 10 (n : Int) = decide (1 ≤ n ∧ n ≤ 10) := by
  rw [Bool.eq_iff_iff, inR_iff, decide_eq_true_iff]; omega
theorem flat_len {us : List Un} (h : ShU us) : ((us.map (·.2)).flatten).length ≤ 1048576 := by
  have key : ∀ (l : List Un), (∀ u ∈ l, u.2.length ≤ 1000) → ((l.map (·.2)).flatten).length ≤ 1000 * l.length := by
    intro l
    induction l with
    | nil => simp
    | cons u l ih =>
      intro hh
      have := ih (fun u hu => hh u (by simp [hu]))
      have := hh u (by simp)
      simp only [List.map_cons, List.flatten_cons, List.length_append, List.length_cons]
      omega
  have := key us (fun u hu => (h.2 u hu).1)
  have := h.1
  omega

theorem ShU.v {us : List Un} (h : ShU us) : ShV us := ⟨by have := h.1; omega, flat_len h⟩

set_option maxRecDepth 100000 in
set_option maxHeartbeats 1600000 in
theorem clusterValidSV_any (A1 A2 : Option Addr) (n1 c1 n2 c2 : Nat) (room : List Int) (us : List Un) (w : World) (h : RdC w A1 A2 n1 n2 room us) (hs : ShV us) :
    Calls Tryz.prog 23 #[.agg #[.slice A1 n1 c1, .slice A2 n2 c2]] w fun e w' => e = .returned (.bool (clOk room us)) ∧ Below w.heap.size w w' := by
  have hl := qh h.b.len
  have H := qh h
  have Hs := qh hs
  have ln : n2 ≤ 1048576 := by have := h.b.len; have := hs.1; omega
  clear h hs
  have B1 := qh (alloc_up w (.cells #[.slice A1 n1 c1, .slice A2 n2 c2] 26))
  have P1 := qh (Blk.new w 26 #[.slice A1 n1 c1, .slice A2 n2 c2])
  go_enter Tryz.func23, Tryz.ntmps23
  go_wp2_with fail
  generalize w.alloc (.cells #[.slice A1 n1 c1, .slice A2 n2 c2] 26) = w1 at B1 P1 ⊢
  have x0 := P1.out.cell 0
  have x1 := P1.out.cell 1
  simp only [gT, gZ, gS] at x0 x1
  go_loop [3] (fun i => ∃ k : Nat, i = .int .i64 k ∧ k ≤ n2 ∧ (∀ j, j < k → unOk (us[j]?.getD (false, [])) = true)) (fun i => n2 - (intOf i).toNat)
  case atStart => exact ⟨0, rfl, Nat.zero_le _, by intro j hj; omega⟩
  case round =>
    obtain ⟨k, rfl, hk, hall⟩ := hrel
    have Hall := qh hall
    clear hall
    by_cases hlt : k < n2
    · have k1 : (0 : Int) ≤ (k : Int) := by omega
      have k2 : (k : Int) < (n2 : Int) := by omega
      have k3 : 0 ≤ (k : Int) * 2 := by omega
      have hkl : Hid (k < us.length) := by have := hl.out; show _ < _; omega
      obtain ⟨b, o, A', m', c', rfl, lb, hc1, hc2, hmc, hrd⟩ := (H.out.b.below B1.out).at_ hlt
      have hrl := qh hrd.len
      clear hrd
      cases hop : (us[k]?.getD (false, [])).1 with
      | true =>
        rw [hop] at hc1
        have Hok := qh (show unOk (us[k]?.getD (false, [])) = true by rw [unOk, hop]; rfl)
        clear hop
        go_wp2_with fail
        go_round
        case rel => exact ⟨k + 1, by go_num, by omega, fun j hj => by
          by_cases e : j = k
          · rw [e]; exact Hok.out
          · exact Hall.out j (by omega)⟩
        case measure => simp [intOf]; omega
      | false =>
        rw [hop] at hc1
        by_cases hm0 : 0 < m'
        · have Hok := qh (show unOk (us[k]?.getD (false, [])) = false by
            rw [unOk, hop, Bool.false_or, ← Bool.not_eq_true, List.isEmpty_iff]
            intro e; have := hrl.out; rw [e] at this; simp at this; omega)
          clear hop
          go_wp2_with fail
          go_ret
          refine ⟨ret_bool ?_, B1.out⟩
          symm
          rw [clOk_unfold, Bool.and_eq_false_iff]; right
          rw [← Bool.not_eq_true, all_un]
          intro hh
          have := hh k hkl.out
          rw [Hok.out] at this; cases this
        · have Hok := qh (show unOk (us[k]?.getD (false, [])) = true by
            rw [unOk, hop, Bool.false_or, List.isEmpty_iff]
            exact List.eq_nil_of_length_eq_zero (by have := hrl.out; omega))
          clear hop
          go_wp2_with fail
          go_round
          case rel => exact ⟨k + 1, by go_num, by omega, fun j hj => by
            by_cases e : j = k
            · rw [e]; exact Hok.out
            · exact Hall.out j (by omega)⟩
          case measure => simp [intOf]; omega
    · obtain rfl : k = n2 := by omega
      have Hau := qh (all_un.2 (fun j hj => Hall.out j (by rw [← hl.out]; exact hj)))
      clear Hall
      go_wp2_with fail
      have D1 := qh (B1.out.drew)
      have K0 : (w1.drew.cell? ⟨w.heap.size, 0, none⟩ = some (.slice A1 n1 c1) ∧ w1.drew.cell? ⟨w.heap.size, 1, none⟩ = some (.slice A2 k c2)) := ⟨x0, x1⟩
      have hk2 : ∀ w', Below w1.heap.size w1.drew w' → (w'.cell? ⟨w.heap.size, 0, none⟩ = some (.slice A1 n1 c1) ∧ w'.cell? ⟨w.heap.size, 1, none⟩ = some (.slice A2 k c2)) := fun w' hb => ⟨(hb.cell (p := ⟨w.heap.size, 0, none⟩) P1.out.lt).trans x0, (hb.cell (p := ⟨w.heap.size, 1, none⟩) P1.out.lt).trans x1⟩
      have Hk2 := qh hk2
      clear hk2
      have H1 := qh (H.out.up D1.out)
      clear x0 x1
      by_cases hin : inR 1 10 (k : Int) = true
      · refine wp_region_mix (.take 0 (.take 1 (.take 2 (.bar 3 (.take 4 (.take 5 (.take 6 (.take 7 (.bar 8 (.bar 9 (.take 10 (.take 11 .nil)))))))))))) (fun w' => w'.cell? ⟨w.heap.size, 0, none⟩ = some (.slice A1 n1 c1) ∧ w'.cell? ⟨w.heap.size, 1, none⟩ = some (.slice A2 k c2)) (by kernel_rfl) (by kernel_rfl) K0 (fun _ => ?_)
        clear K0
        repeat ((first | refine mxS (by rfl) (by rfl) ?_ | (refine mxT (v := ?_) (by rfl) (by rfl) (fun z y => ?_) ?_; rotate_left; (focus ((try dsimp only at y); (go_simp <;> with_reducible rfl); done)))); (try simp only [Act.put,pS,pZ,pC]))
        (refine mxB (by rfl) (fun K hK => ?_); go_simp)
        refine (l6In_any _ _ _ _).mono ?_; rintro e w2 ⟨rfl, rfl⟩
        rw [hin]
        ((try dsimp only); refine nxK hK _ _ (Hk2.out _ (Below.refl _ _)) ?_; clear hK K; (try simp only [Act.put,pS,pZ,pC]))
        repeat ((first | refine mxS (by rfl) (by rfl) ?_ | (refine mxT (v := ?_) (by rfl) (by rfl) (fun z y => ?_) ?_; rotate_left; (focus ((try dsimp only at y); (go_simp <;> with_reducible rfl); done)))); (try simp only [Act.put,pS,pZ,pC]))
        (refine mxB (by rfl) (fun K hK => ?_); go_simp)
        refine (l21Bins_any A1 A2 n1 c1 k c2 us w1.drew H1.out.b ln).mono ?_; rintro e w3 ⟨A5, m5, c5, rfl, hr5, hb5⟩
        have Hr5 := qh hr5
        have Hb5 := qh hb5
        clear hr5 hb5
        ((try dsimp only); refine nxK hK _ _ (Hk2.out _ Hb5.out) ?_; clear hK K; (try simp only [Act.put,pS,pZ,pC]))
        (refine mxB (by rfl) (fun K hK => ?_); go_simp)
        refine (binsValidS_any A1 A5 n1 c1 m5 c5 room _ w3 (H1.out.a.up Hb5.out) Hr5.out (Hs.out.2)).mono ?_; rintro e w4 ⟨rfl, hb6⟩
        have Hb6 := qh hb6
        clear hb6
        ((try dsimp only); refine nxK hK _ _ (Hk2.out _ (below_to Hb5.out Hb6.out)) ?_; clear hK K; (try simp only [Act.put,pS,pZ,pC]))
        repeat ((first | refine mxS (by rfl) (by rfl) ?_ | (refine mxT (v := ?_) (by rfl) (by rfl) (fun z y => ?_) ?_; rotate_left; (focus ((try dsimp only at y); (go_simp <;> with_reducible rfl); done)))); (try simp only [Act.put,pS,pZ,pC]))
        refine wpMix_nil ?_
        go_wp2
        go_ret
        refine ⟨ret_bool ?_, below_to D1.out (below_to Hb5.out Hb6.out)⟩
        rw [clOk_unfold, Hau.out, Bool.and_true, ← inR_len, hl.out, hin, Bool.true_and]
      · have hin : inR 1 10 (k : Int) = false := by simpa using hin
        refine wp_region_mix (.take 0 (.take 1 (.take 2 (.bar 3 (.take 4 (.take 5 (.take 6 (.take 7 (.take 8 (.take 9 (.take 10 (.take 11 .nil)))))))))))) (fun w' => w'.cell? ⟨w.heap.size, 0, none⟩ = some (.slice A1 n1 c1) ∧ w'.cell? ⟨w.heap.size, 1, none⟩ = some (.slice A2 k c2)) (by kernel_rfl) (by kernel_rfl) K0 (fun _ => ?_)
        clear K0
        repeat ((first | refine mxS (by rfl) (by rfl) ?_ | (refine mxT (v := ?_) (by rfl) (by rfl) (fun z y => ?_) ?_; rotate_left; (focus ((try dsimp only at y); (go_simp <;> with_reducible rfl); done)))); (try simp only [Act.put,pS,pZ,pC]))
        (refine mxB (by rfl) (fun K hK => ?_); go_simp)
        refine (l6In_any _ _ _ _).mono ?_; rintro e w2 ⟨rfl, rfl⟩
        rw [hin]
        ((try dsimp only); refine nxK hK _ _ (Hk2.out _ (Below.refl _ _)) ?_; clear hK K; (try simp only [Act.put,pS,pZ,pC]))
        repeat ((first | refine mxS (by rfl) (by rfl) ?_ | (refine mxT (v := ?_) (by rfl) (by rfl) (fun z y => ?_) ?_; rotate_left; (focus ((try dsimp only at y); (go_simp <;> with_reducible rfl); done)))); (try simp only [Act.put,pS,pZ,pC]))
        refine wpMix_nil ?_
        go_wp2
        go_ret
        refine ⟨ret_bool ?_, D1.out⟩
        rw [clOk_unfold, ← inR_len, hl.out, hin, Bool.false_and, Bool.false_and]
theorem clusterValidS_any (A1 A2 : Option Addr) (n1 c1 n2 c2 : Nat) (room : List Int) (us : List Un) (w : World) (h : RdC w A1 A2 n1 n2 room us) (hs : ShU us) :
    Calls Tryz.prog 23 #[.agg #[.slice A1 n1 c1, .slice A2 n2 c2]] w fun e w' => e = .returned (.bool (clOk room us)) ∧ Below w.heap.size w w' := clusterValidSV_any A1 A2 n1 c1 n2 c2 room us w h hs.v
end Go.Proofs.YtlcgbnmmbheleaaGreat
