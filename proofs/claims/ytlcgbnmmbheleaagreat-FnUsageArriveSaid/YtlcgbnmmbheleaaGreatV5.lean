/- Several texts in one. -/
import Derived.Test.YtlcgbnmmbheleaaGreatV4
import Derived.Conc.CrowdStepC
namespace Go.Proofs.YtlcgbnmmbheleaaGreat
open Go.RowKit

set_option maxHeartbeats 400000 in
theorem l6In_any (n lo hi : Int) (w : World) :
    Calls Tryz.prog 24 #[.int .i64 n, .int .i64 lo, .int .i64 hi] w fun e w' => e = .returned (.bool (inR lo hi n)) ∧ w = w' := by
  by_cases h1 : lo ≤ n
  · go_enter Tryz.func24, Tryz.ntmps24
    go_wp2
    go_ret
    simp [inR, h1]
  · have h2 : decide (lo ≤ n) = false := by simpa using h1
    go_enter Tryz.func24, Tryz.ntmps24
    go_wp2
    go_ret
    simp [inR]
    omega

set_option maxHeartbeats 400000 in
theorem vecValid_any (A : Option Addr) (n c B : Nat) (xs : List Int) (w : World) (h : RdI w B A n xs) :
    Calls Tryz.prog 105 #[.slice A n c] w fun e w' => e = .returned (.bool (vecOk xs)) ∧ w = w' := by
  have hn := h.le
  have hl := qh h.len
  go_enter Tryz.func105, Tryz.ntmps105
  go_wp2
  go_loop [3] (fun i => ∃ k : Nat, i = .int .i64 k ∧ k ≤ n ∧ (∀ j, j < k → inR 0 20 (xs[j]?.getD 0) = true)) (fun i => n - (intOf i).toNat)
  case atStart => exact ⟨0, rfl, Nat.zero_le _, by intro j hj; omega⟩
  case round =>
    obtain ⟨k, rfl, hk, hall⟩ := hrel
    have Hall := qh hall
    clear hall
    by_cases hlt : k < n
    · obtain ⟨b, o, rfl, hb, hc⟩ := h.at_ hlt
      have H := qh h
      clear h
      by_cases hin : inR 0 20 (xs[k]?.getD 0) = true
      · have Hin := qh hin
        go_wp2_with (go_at_call 24; refine (l6In_any _ _ _ _).mono ?_; rintro e w' ⟨rfl, rfl⟩)
        go_round
        case rel => exact ⟨k + 1, by go_num, by omega, fun j hj => by
          by_cases e : j = k
          · rw [e]; exact Hin.out
          · exact Hall.out j (by omega)⟩
        case measure => simp [intOf]; omega
      · have hin : inR 0 20 (xs[k]?.getD 0) = false := by simpa using hin
        have Hin := qh hin
        go_wp2_with (go_at_call 24; refine (l6In_any _ _ _ _).mono ?_; rintro e w' ⟨rfl, rfl⟩)
        go_ret
        exact ⟨ret_bool (vecOk_no (by rw [hl.out]; exact hlt) Hin.out).symm, rfl⟩
    · have H := qh h
      clear h
      go_wp2
      go_ret
      refine ⟨ret_bool ?_, rfl⟩
      rw [vecOk_of_all (fun j hj => Hall.out j (by have := hl.out; omega)), hl.out]
      rw [Bool.eq_iff_iff]
      simp
      omega

set_option maxHeartbeats 400000 in
theorem l1Fits_any (A1 A2 : Option Addr) (n1 c1 n2 c2 B1 B2 : Nat) (xs ys : List Int) (w : World) (h1 : RdI w B1 A1 n1 xs) (h2 : RdI w B2 A2 n2 ys) (hn1 : 3 ≤ n1) (hn2 : 3 ≤ n2) :
    Calls Tryz.prog 94 #[.slice A1 n1 c1, .slice A2 n2 c2] w fun e w' => e = .returned (.bool (fits3 xs ys)) ∧ ∃ m, w.drewN m = w' := by
  go_enter Tryz.func94, Tryz.ntmps94
  go_wp2
  go_loopw [5] (fun i wr => ∃ k m : Nat, i = .int .i64 k ∧ k ≤ 3 ∧ wr = w.drewN m ∧ (∀ j, j < k → xs[j]?.getD 0 ≤ ys[j]?.getD 0)) (fun i _ => 3 - (intOf i).toNat)
  case atStart => exact ⟨0, 0, rfl, Nat.zero_le _, rfl, by intro j hj; omega⟩
  case round =>
    obtain ⟨k, m, rfl, hk, rfl, hall⟩ := hrel
    have Hall := qh hall
    clear hall
    by_cases hlt : k < 3
    · obtain ⟨b1, o1, rfl, hb1, hc1⟩ := h1.at_ (show k < n1 by omega)
      obtain ⟨b2, o2, rfl, hb2, hc2⟩ := h2.at_ (show k < n2 by omega)
      have H1 := qh h1
      have H2 := qh h2
      clear h1 h2
      have k1 : (0 : Int) ≤ (k : Int) := by omega
      have k2 : (k : Int) < (n1 : Int) := by omega
      have k3 : (k : Int) < (n2 : Int) := by omega
      by_cases hle : ys[k]?.getD 0 < xs[k]?.getD 0
      · go_wp2
        go_quiet (fail)
        go_wp2
        go_ret
        exact ⟨ret_bool (fits3_no hlt hle).symm, _, (World.drewN_drewN _ _ _).symm⟩
      · go_wp2
        go_quiet (fail)
        go_wp2
        go_roundw
        case rel => exact ⟨k + 1, _, by go_num, by omega, rfl, fun j hj => by
          by_cases e : j = k
          · rw [e]; omega
          · exact Hall.out j (by omega)⟩
        case measure => simp [intOf]; omega
    · have H1 := qh h1
      have H2 := qh h2
      clear h1 h2
      go_wp2
      go_ret
      exact ⟨ret_bool (fits3_iff.2 (fun j hj => Hall.out j (by omega))).symm, _, rfl⟩
end Go.Proofs.YtlcgbnmmbheleaaGreat

namespace Go.Proofs.YtlcgbnmmbheleaaGreat
open Go Go.Conc
set_option linter.unusedVariables false
set_option linter.unusedSimpArgs false

def hollow : Obj → Obj
  | .cells _ ty fr => .cells #[] ty fr
  | o => o

open Classical in
noncomputable def graft (X : Nat → Prop) (v w : World) : World :=
  { w with heap := w.heap.mapIdx fun b o => if b < v.heap.size then v.heap.getD b o else if X b then hollow o else o }

theorem graft_size (X : Nat → Prop) (v w : World) : (graft X v w).heap.size = w.heap.size := by simp [graft]
theorem graft_old {X : Nat → Prop} {v w : World} (hsz : v.heap.size ≤ w.heap.size) {b : Nat} (hb : b < v.heap.size) : (graft X v w).heap[b]? = v.heap[b]? := by
  simp only [graft, Array.getElem?_mapIdx]
  rw [Array.getElem?_eq_getElem (show b < w.heap.size by omega), Array.getElem?_eq_getElem hb]
  simp [hb]
theorem graft_hid {X : Nat → Prop} {v w : World} {b : Nat} (hb : v.heap.size ≤ b) (hx : X b) : (graft X v w).heap[b]? = (w.heap[b]?).map hollow := by
  simp only [graft, Array.getElem?_mapIdx]
  congr 1
  funext o
  simp [Nat.not_lt.2 hb, hx]
structure Mv (Ch : Nat → Prop) (w w' : World) : Prop where
  tape : w'.tape = w.tape
  os : w'.os = w.os
  output : w'.output = w.output
  cells : Cellish w w'
  rows : ∀ b : Nat, b < w.heap.size → ¬ Ch b → w'.heap[b]? = w.heap[b]?
theorem Mv.refl (Ch : Nat → Prop) (w : World) : Mv Ch w w := ⟨rfl, rfl, rfl, .same rfl, fun _ _ _ => rfl⟩
theorem Mv.at (Ch : Nat → Prop) (w : World) (d : Nat) : Mv Ch w (w.at d) := ⟨rfl, rfl, rfl, .same rfl, fun _ _ _ => rfl⟩
theorem Mv.mono {Ch Ch' : Nat → Prop} {w w' : World} (h : Mv Ch w w') (hc : ∀ b, Ch b → Ch' b) : Mv Ch' w w' := ⟨h.tape, h.os, h.output, h.cells, fun b hb hn => h.rows b hb fun x => hn (hc b x)⟩
theorem Mv.size {Ch : Nat → Prop} {w w' : World} (h : Mv Ch w w') : w.heap.size ≤ w'.heap.size := h.cells.size
theorem Mv.trans {Ch : Nat → Prop} {a b c : World} (h : Mv Ch a b) (k : Mv Ch b c) : Mv Ch a c :=
  ⟨k.tape.trans h.tape, k.os.trans h.os, k.output.trans h.output, h.cells.trans k.cells, fun i hi hn => (k.rows i (Nat.lt_of_lt_of_le hi h.size) hn).trans (h.rows i hi hn)⟩

section
variable {X X' H : Nat → Prop} {v w w' : World}

theorem ViewOf.hidden (h : ViewOf X H v w) {b : Nat} (hb : X b ∨ H b) : b < w.heap.size := by
  rcases hb with hs | hh
  · obtain ⟨_, _, _, h, _⟩ := h.dead b hs; exact (Array.getElem?_eq_some_iff.1 h).1
  · rcases h.hid b hh with ⟨_, _, h, _⟩ | ⟨_, _, h, _⟩ <;> exact (Array.getElem?_eq_some_iff.1 h).1

theorem view_other {Ch : Nat → Prop} (h : ViewOf X H v w) (hm : Mv Ch w w') (hCh : ∀ b, b < w.heap.size → Ch b → X b) (hH : ∀ b, H b → ¬ Ch b)
    (hX : ∀ b, X' b ↔ X b ∨ (w.heap.size ≤ b ∧ b < w'.heap.size)) : ViewOf X' H (graft X' v w') w' ∧ GR v (graft X' v w') := by
  have hsz := hm.size
  have hvs : v.heap.size ≤ w'.heap.size := by rw [h.size]; exact hsz
  have hold : ∀ b, b < w.heap.size → (graft X' v w').heap[b]? = v.heap[b]? := fun b hb => graft_old hvs (by rw [h.size]; exact hb)
  have hnew : ∀ b, w.heap.size ≤ b → b < w'.heap.size → ∃ cs ty fr, w'.heap[b]? = some (.cells cs ty fr) ∧ (graft X' v w').heap[b]? = some (.cells #[] ty fr) := fun b h1 h2 => by
    obtain ⟨cs, ty, fr, e⟩ := hm.cells.new b h1 h2
    refine ⟨cs, ty, fr, e, ?_⟩
    rw [graft_hid (by rw [h.size]; exact h1) ((hX b).2 (.inr ⟨h1, h2⟩)), e]
    rfl
  have hout : ∀ b, w'.heap.size ≤ b → (graft X' v w').heap[b]? = none := fun b hb => Array.getElem?_eq_none (by rw [graft_size]; exact hb)
  refine ⟨⟨rfl, rfl, graft_size _ _ _, fun b hs hh => ?_, fun b hb => ?_, fun b hb => ?_, fun b cs ty he => ?_, fun b a u he => ?_⟩, ?_⟩
  · rcases Nat.lt_or_ge b w.heap.size with hlt | hge
    · have hxn : ¬ X b := fun x => hs ((hX b).2 (.inl x))
      rw [hold b hlt, h.same b hxn hh, hm.rows b hlt (fun x => hxn (hCh b hlt x))]
    · rcases Nat.lt_or_ge b w'.heap.size with h2 | h2
      · exact absurd ((hX b).2 (.inr ⟨hge, h2⟩)) hs
      · rw [hout b h2, Array.getElem?_eq_none h2]
  · rcases (hX b).1 hb with hx | ⟨h1, h2⟩
    · obtain ⟨cs, ty, fr, e1, e2⟩ := h.dead b hx
      have hlt := (Array.getElem?_eq_some_iff.1 e1).1
      rcases hm.cells.old b hlt with e | ⟨cs0, cs', ty', fr', e3, e4⟩
      · exact ⟨cs, ty, fr, e.trans e1, (hold b hlt).trans e2⟩
      · rw [e1] at e3; cases e3
        exact ⟨cs', ty, fr, e4, (hold b hlt).trans e2⟩
    · exact hnew b h1 h2
  · have hlt := h.hidden (.inr hb)
    rw [hold b hlt, hm.rows b hlt (hH b hb)]
    exact h.hid b hb
  · rcases Nat.lt_or_ge b w.heap.size with hlt | hge
    · rw [hold b hlt] at he; exact h.plain _ _ _ he
    · rcases Nat.lt_or_ge b w'.heap.size with h2 | h2
      · obtain ⟨_, _, _, _, e⟩ := hnew b hge h2
        rw [e] at he; cases he
      · rw [hout b h2] at he; cases he
  · rcases Nat.lt_or_ge b w.heap.size with hlt | hge
    · rw [hold b hlt] at he; exact h.views _ _ _ he
    · rcases Nat.lt_or_ge b w'.heap.size with h2 | h2
      · obtain ⟨_, _, _, _, e⟩ := hnew b hge h2
        rw [e] at he; cases he
      · rw [hout b h2] at he; cases he
  · exact ⟨hm.os.trans h.os.symm, hm.output.trans h.output.symm, by rw [graft_size]; exact hvs, fun b hb => graft_old hvs hb⟩

open Classical in
noncomputable def veil (Z X : Nat → Prop) (v w : World) : World :=
  { w with heap := w.heap.mapIdx fun b o => if Z b then v.heap.getD b o else if X b then hollow o else o }
theorem veil_size (Z X : Nat → Prop) (v w : World) : (veil Z X v w).heap.size = w.heap.size := by simp [veil]
theorem veil_z {Z X : Nat → Prop} {v w : World} {b : Nat} (hz : Z b) (h1 : b < v.heap.size) (h2 : b < w.heap.size) : (veil Z X v w).heap[b]? = v.heap[b]? := by
  simp only [veil, Array.getElem?_mapIdx]
  rw [Array.getElem?_eq_getElem h2, Array.getElem?_eq_getElem h1]
  simp [hz, h1]
theorem veil_x {Z X : Nat → Prop} {v w : World} {b : Nat} (hz : ¬ Z b) (hx : X b) : (veil Z X v w).heap[b]? = (w.heap[b]?).map hollow := by
  simp only [veil, Array.getElem?_mapIdx]
  congr 1
  funext o
  simp [hz, hx]
theorem veil_n {Z X : Nat → Prop} {v w : World} {b : Nat} (hz : ¬ Z b) (hx : ¬ X b) : (veil Z X v w).heap[b]? = w.heap[b]? := by
  simp only [veil, Array.getElem?_mapIdx]
  cases w.heap[b]? with
  | none => rfl
  | some o => simp [hz, hx]

theorem view_make {S : Nat → Prop} {v0 w0 : World} (h0 : ViewOf S H v0 w0) (hos : w.os = w0.os) (hout : w.output = w0.output)
    (hH : ∀ b, H b → w.heap[b]? = w0.heap[b]?) (hXH : ∀ b, X b → ¬ H b) (hX : ∀ b, X b → ∃ cs ty fr, w.heap[b]? = some (.cells cs ty fr))
    (hre : ∀ b, ¬ X b → ¬ H b → (∃ cs ty fr, w.heap[b]? = some (.cells cs ty fr)) ∨ w.heap[b]? = v0.heap[b]?) :
    ViewOf X H (veil H X v0 w) w ∧ (veil H X v0 w).tape = w.tape ∧ (veil H X v0 w).drawn = w.drawn ∧ ∀ b, ¬ X b → ¬ H b → (veil H X v0 w).heap[b]? = w.heap[b]? := by
  have hHl : ∀ b, H b → b < v0.heap.size ∧ b < w.heap.size := fun b hb => by
    have h1 := h0.hidden (.inr hb)
    refine ⟨by rw [h0.size]; exact h1, ?_⟩
    have := hH b hb
    rw [Array.getElem?_eq_getElem h1] at this
    exact (Array.getElem?_eq_some_iff.1 this).1
  have eH : ∀ b, H b → (veil H X v0 w).heap[b]? = v0.heap[b]? := fun b hb => veil_z hb (hHl b hb).1 (hHl b hb).2
  have eN : ∀ b, ¬ X b → ¬ H b → (veil H X v0 w).heap[b]? = w.heap[b]? := fun b hx hh => veil_n hh hx
  have eX : ∀ b, X b → ∃ cs ty fr, w.heap[b]? = some (.cells cs ty fr) ∧ (veil H X v0 w).heap[b]? = some (.cells #[] ty fr) := fun b hb => by
    obtain ⟨cs, ty, fr, e⟩ := hX b hb
    exact ⟨cs, ty, fr, e, by rw [veil_x (hXH b hb) hb, e]; rfl⟩
  refine ⟨⟨rfl, rfl, veil_size _ _ _ _, fun b hs hh => eN b hs hh, eX, fun b hb => by rw [eH b hb, hH b hb]; exact h0.hid b hb, fun b cs ty he => ?_, fun b a u he => ?_⟩, rfl, rfl, eN⟩
  · by_cases hh : H b
    · rw [eH b hh] at he; exact h0.plain _ _ _ he
    · by_cases hx : X b
      · obtain ⟨_, _, _, _, e⟩ := eX b hx
        rw [e] at he; cases he
      · rw [eN b hx hh] at he
        rcases hre b hx hh with ⟨_, _, _, e⟩ | e
        · rw [e] at he; cases he
        · rw [e] at he; exact h0.plain _ _ _ he
  · by_cases hh : H b
    · rw [eH b hh] at he; exact h0.views _ _ _ he
    · by_cases hx : X b
      · obtain ⟨_, _, _, _, e⟩ := eX b hx
        rw [e] at he; cases he
      · rw [eN b hx hh] at he
        rcases hre b hx hh with ⟨_, _, _, e⟩ | e
        · rw [e] at he; cases he
        · rw [e] at he; exact h0.views _ _ _ he
end

def Fit (xs : List Int) (x : Value) (v : World) : Prop := ∃ A m, x = .slice A 3 m ∧ RdI v v.heap.size A 3 xs
theorem Fit.gain {xs : List Int} {x : Value} {v v' : World} (h : Fit xs x v) (hc : ∀ p y, v.cell? p = some y → v'.cell? p = some y) (hs : v.heap.size ≤ v'.heap.size) : Fit xs x v' := by
  obtain ⟨A, m, rfl, h1, h2, h3⟩ := h
  refine ⟨A, m, rfl, h1, h2, fun h0 => ?_⟩
  obtain ⟨b, o, e, hb, hx⟩ := h3 h0
  exact ⟨b, o, e, Nat.lt_of_lt_of_le hb hs, fun j hj => hc _ _ (hx j hj)⟩
theorem Fit.gr {xs : List Int} {x : Value} {v v' : World} (h : Fit xs x v) (r : GR v v') : Fit xs x v' :=
  h.gain (fun p y hy => by
    have : v'.cell? p = v.cell? p := World.cell?_of_block (r.rows _ (cell_lt hy))
    rw [this]; exact hy) r.size
end Go.Proofs.YtlcgbnmmbheleaaGreat

namespace Go.Proofs.YtlcgbnmmbheleaaGreat
open Go Go.Conc
open Go.ConcN (WSit AtR0 RW DWs Has PayAt WgLive CTag WD)
open Go.ConcR (KK WgAt stA smA rd wr mk Payload)
set_option linter.unusedVariables false
set_option linter.unusedSimpArgs false
variable [Payload]

/-! ### what goroutine 0 suffers and does; O: the rows of its own that it has in hand -/
structure RS (K : Cw) (O : Nat → Prop) (w w₁ : World) : Prop where
  size : w.heap.size ≤ w₁.heap.size
  rows : ∀ b, (b < K.B ∧ b ≠ K.Wg ∧ b ≠ K.C) ∨ O b → w₁.heap[b]? = w.heap[b]?
  live : WgLive K.ty K.Wg w → WgLive K.ty K.Wg w₁
def E0 (K : Cw) (O : Nat → Prop) (e : Event) : Prop :=
  (∃ a w, e = ⟨.cell a, w, false⟩ ∧ ¬ K.S1 a.block ∧ a.block ≠ K.C ∧ ((a.block < K.B ∧ w = false) ∨ O a.block)) ∨ ∃ a, (e = ⟨.mark (.read a), false, true⟩ ∨ e = ⟨.mark (.write a), false, true⟩) ∧ a.block = K.Wg
structure DS (K : Cw) (O : Nat → Prop) (w w' : World) (es : Array Event) : Prop where
  mv : Mv O w w'
  size : w'.heap.size = w.heap.size
  evs : ∀ e ∈ es, E0 K O e
def no0 : Nat → Prop := fun _ => False
def one0 (p : Nat) : Nat → Prop := fun b => b = p
def two0 (p p' : Nat) : Nat → Prop := fun b => b = p ∨ b = p'

omit [Payload] in
theorem RS.refl (K : Cw) (O : Nat → Prop) (w : World) : RS K O w w := ⟨Nat.le_refl _, fun _ _ => rfl, id⟩
omit [Payload] in
theorem RS.trans {K : Cw} {O : Nat → Prop} {a b c : World} (h : RS K O a b) (k : RS K O b c) : RS K O a c := ⟨Nat.le_trans h.size k.size, fun i hi => (k.rows i hi).trans (h.rows i hi), k.live ∘ h.live⟩
omit [Payload] in
theorem DS.idle (K : Cw) (O : Nat → Prop) (w : World) : DS K O w w #[] := ⟨.refl O w, rfl, by simp⟩
omit [Payload] in
section
variable (P : Program) (K : Cw) (AnchW Fin : Goroutine → World → Prop)

def AtSt (c : Nat) (g : Goroutine) (v : World) : Prop :=
  g.status = .running ∧ ∃ x, Fit (K.ld c) x v ∧ ∀ w, WgLive K.ty K.Wg w → PayAt K.C K.n w → c < K.n → ∃ g', stepG P false g w = .go g' (w.setCell ⟨K.C, c, none⟩ x) #[⟨.cell ⟨K.C, c, none⟩, true, false⟩] ∧
    ∃ m, m < 64 ∧ Goes P false (RW K.ty K.Wg K.C K.n K.B c) (DWs K.Wg No2 No2 K.C K.n (c + 1)) (AtR0 P K.ty K.Wg K.C K.n K.B (c + 1) x) m g' (w.setCell ⟨K.C, c, none⟩ x)

/-! ### goroutine 0, from its end backwards -/
def TEnd (g : Goroutine) (w : World) : Prop := g.status = .running ∧ Fin g w
def TAcq (g : Goroutine) (w : World) : Prop :=
  g.status = .running ∧ ∃ g', stepG P true g w = .go g' w #[mk (.acquire (stA K.Wg))] ∧ ∃ m, Goes P true (RS K no0) (DS K no0) (TEnd Fin) m g' w
def TKe (g : Goroutine) (w : World) : Prop :=
  g.status = .running ∧ ∃ g', stepG P true g w = .go g' w #[mk .enable] ∧ ∃ m, Goes P true (RS K no0) (DS K no0) (TAcq P K Fin) m g' w
def TW4 (g : Goroutine) (w : World) : Prop :=
  g.status = .running ∧ (WgAt K.ty K.Wg w 0 0 → ∃ g', stepG P true g w = .go g' w #[rd (stA K.Wg)] ∧ ∃ m, Goes P true (RS K no0) (DS K no0) (TKe P K Fin) m g' w)
def TW3 (g : Goroutine) (w : World) : Prop :=
  g.status = .running ∧ g.offers = none ∧ ((∃ st, WgAt K.ty K.Wg w st 0) → stepG P true g w = .go { g with status := .blocked } w #[]) ∧
    (WgAt K.ty K.Wg w 0 1 → ∃ g', stepG P true g w = .go g' (w.setCell (smA K.Wg) (.int .u32 0)) (semEvents (smA K.Wg)) ∧ ∃ m, Goes P true (RS K no0) (DS K no0) (TW4 P K Fin) m g' (w.setCell (smA K.Wg) (.int .u32 0)))
def TW2 (vs : Nat) (g : Goroutine) (w : World) : Prop :=
  g.status = .running ∧ ∀ v : Nat, v < 2147483648 → WgAt K.ty K.Wg w (v * KK) 0 →
    (v = vs → ∃ g', stepG P true g w = .go g' (w.setCell (stA K.Wg) (.int .u64 (v * KK + 1))) #[rd (stA K.Wg), wr (stA K.Wg)] ∧ ∃ m, Goes P true (RS K no0) (DS K no0) (TW3 P K Fin) m g' (w.setCell (stA K.Wg) (.int .u64 (v * KK + 1)))) ∧
    (v ≠ vs → ∃ g', stepG P true g w = .go g' w #[rd (stA K.Wg)] ∧ ∃ m, Goes P true (RS K no0) (DS K no0) AnchW m g' w)
def TW1 (g : Goroutine) (w : World) : Prop :=
  g.status = .running ∧ ∀ v : Nat, v < 2147483648 → WgAt K.ty K.Wg w (v * KK) 0 → ∃ g', stepG P true g w = .go g' w #[rd (stA K.Wg)] ∧
    (v = 0 → ∃ m, Goes P true (RS K no0) (DS K no0) (TKe P K Fin) m g' w) ∧ (v ≠ 0 → ∃ m, Goes P true (RS K no0) (DS K no0) (TW2 P K AnchW Fin v) m g' w)
def TKd (g : Goroutine) (w : World) : Prop :=
  g.status = .running ∧ ∃ g', stepG P true g w = .go g' w #[mk .disable] ∧ ∃ m, Goes P true (RS K no0) (DS K no0) AnchW m g' w

/-! ### .. and while it starts workers: worker number j of them -/
def Shows (O : Nat → Prop) (v w : World) : Prop := v.heap.size = w.heap.size ∧ ∀ b, (b < K.B ∧ ¬ K.S b ∧ ¬ K.H b ∧ b ≠ K.Wg ∧ b ≠ K.C) ∨ O b → v.heap[b]? = w.heap[b]?
def TGo (O : Nat → Prop) (j : Nat) (Next : Goroutine → World → Prop) (g : Goroutine) (w : World) : Prop :=
  g.status = .running ∧ ∃ g' child, stepG P true g w = .spawn g' child w #[] ∧ child.status = .running ∧ (∀ v, Shows K O v w → ∃ m, GV P false K.H w.heap.size (AtSt P K j) m child v) ∧ Next g' w
def TKeS (O : Nat → Prop) (j : Nat) (Next : Goroutine → World → Prop) (g : Goroutine) (w : World) : Prop :=
  g.status = .running ∧ ∃ g', stepG P true g w = .go g' w #[mk .enable] ∧ ∃ m, Goes P true (RS K O) (DS K O) (TGo P K O j Next) m g' w
def TA1 (O : Nat → Prop) (j : Nat) (Next : Goroutine → World → Prop) (g : Goroutine) (w : World) : Prop :=
  g.status = .running ∧ ∀ v : Nat, v < 2147483647 → WgAt K.ty K.Wg w (v * KK) 0 →
    ∃ g', stepG P true g w = .go g' (w.setCell (stA K.Wg) (.int .u64 ((v + 1) * KK))) #[rd (stA K.Wg), wr (stA K.Wg)] ∧ ∃ m, Goes P true (RS K O) (DS K O) (TKeS P K O j Next) m g' (w.setCell (stA K.Wg) (.int .u64 ((v + 1) * KK)))
def TKdS (O : Nat → Prop) (j : Nat) (Next : Goroutine → World → Prop) (g : Goroutine) (w : World) : Prop :=
  g.status = .running ∧ ∃ g', stepG P true g w = .go g' w #[mk .disable] ∧ ∃ m, Goes P true (RS K O) (DS K O) (TA1 P K O j Next) m g' w
def TAl2 (p : Nat) (j : Nat) (Next : Goroutine → World → Prop) (g : Goroutine) (w : World) : Prop :=
  g.status = .running ∧ ∃ g' cs ty, stepG P true g w = .go g' (w.alloc (.cells cs ty)) #[] ∧ ∃ m, Goes P true (RS K (two0 p w.heap.size)) (DS K (two0 p w.heap.size)) (TKdS P K (two0 p w.heap.size) j Next) m g' (w.alloc (.cells cs ty))
def TAl1 (j : Nat) (Next : Goroutine → World → Prop) (g : Goroutine) (w : World) : Prop :=
  g.status = .running ∧ ∃ g' cs ty, stepG P true g w = .go g' (w.alloc (.cells cs ty)) #[] ∧ ∃ m, Goes P true (RS K (one0 w.heap.size)) (DS K (one0 w.heap.size)) (TAl2 P K w.heap.size j Next) m g' (w.alloc (.cells cs ty))
def Spw : Nat → Goroutine → World → Prop
  | 0, g, w => ∃ m, Goes P true (RS K no0) (DS K no0) (TKd P K AnchW) m g w
  | r + 1, g, w => ∃ m, Goes P true (RS K no0) (DS K no0) (TAl1 P K (K.n - (r + 1)) (Spw r)) m g w

inductive CS : CTag → (Nat → Prop) → Nat → Nat → Nat → Goroutine → World → Prop
  | al1 {r m : Nat} {g : Goroutine} {w : World} : r < K.n → Goes P true (RS K no0) (DS K no0) (TAl1 P K (K.n - (r + 1)) (Spw P K AnchW r)) m g w → CS (.sp r 7) no0 (K.n - (r + 1)) m 0 g w
  | al2 {r m p : Nat} {g : Goroutine} {w : World} : r < K.n → Goes P true (RS K (one0 p)) (DS K (one0 p)) (TAl2 P K p (K.n - (r + 1)) (Spw P K AnchW r)) m g w → CS (.sp r 6) (one0 p) (K.n - (r + 1)) m 0 g w
  | skd {r m : Nat} {O : Nat → Prop} {g : Goroutine} {w : World} : r < K.n → Goes P true (RS K O) (DS K O) (TKdS P K O (K.n - (r + 1)) (Spw P K AnchW r)) m g w → CS (.sp r 5) O (K.n - (r + 1)) m 0 g w
  | sa1 {r m : Nat} {O : Nat → Prop} {g : Goroutine} {w : World} : r < K.n → Goes P true (RS K O) (DS K O) (TA1 P K O (K.n - (r + 1)) (Spw P K AnchW r)) m g w → CS (.sp r 4) O (K.n - (r + 1)) m 1 g w
  | ske {r m : Nat} {O : Nat → Prop} {g : Goroutine} {w : World} : r < K.n → Goes P true (RS K O) (DS K O) (TKeS P K O (K.n - (r + 1)) (Spw P K AnchW r)) m g w → CS (.sp r 3) O (K.n - (r + 1)) m 1 g w
  | sgo {r m : Nat} {O : Nat → Prop} {g : Goroutine} {w : World} : r < K.n → Goes P true (RS K O) (DS K O) (TGo P K O (K.n - (r + 1)) (Spw P K AnchW r)) m g w → CS (.sp r 2) O (K.n - (r + 1)) m 0 g w
  | kd {m : Nat} {g : Goroutine} {w : World} : Goes P true (RS K no0) (DS K no0) (TKd P K AnchW) m g w → CS .kd no0 K.n m 0 g w
  | anch {m : Nat} {g : Goroutine} {w : World} : Goes P true (RS K no0) (DS K no0) AnchW m g w → CS .anch no0 K.n m 1 g w
  | w1 {m : Nat} {g : Goroutine} {w : World} : Goes P true (RS K no0) (DS K no0) (TW1 P K AnchW Fin) m g w → CS .w1 no0 K.n m 1 g w
  | w2 {vs m : Nat} {g : Goroutine} {w : World} : Goes P true (RS K no0) (DS K no0) (TW2 P K AnchW Fin vs) m g w → CS (.w2 vs) no0 K.n m 1 g w
  | w3 {m : Nat} {g : Goroutine} {w : World} : Goes P true (RS K no0) (DS K no0) (TW3 P K Fin) m g w → CS .w3 no0 K.n (m + 1) 1 g w
  | blk {g : Goroutine} {w : World} : (∀ w₁, RS K no0 w w₁ → TW3 P K Fin g w₁) → CS .blk no0 K.n 0 1 { g with status := .blocked } w
  | w4 {m : Nat} {g : Goroutine} {w : World} : Goes P true (RS K no0) (DS K no0) (TW4 P K Fin) m g w → CS .w4 no0 K.n m 1 g w
  | ke {m : Nat} {g : Goroutine} {w : World} : Goes P true (RS K no0) (DS K no0) (TKe P K Fin) m g w → CS .ke no0 K.n m 1 g w
  | acq {m : Nat} {g : Goroutine} {w : World} : Goes P true (RS K no0) (DS K no0) (TAcq P K Fin) m g w → CS .acq no0 K.n m 0 g w
  | ret {m : Nat} {g : Goroutine} {w : World} : Goes P true (RS K no0) (DS K no0) (TEnd Fin) m g w → CS .ret no0 K.n m 0 g w

/-! ### a worker -/
variable (ow lw : Nat → Nat)
def Vis (i b : Nat) : Prop := ¬ K.S1 b ∧ b ≠ K.C ∧ (ow b = i + 1 ∨ (ow b = 0 ∧ b < lw i))
def HidB (i : Nat) (w : World) (b : Nat) : Prop := b < w.heap.size ∧ ¬ Vis K ow lw i b
structure Looks (i : Nat) (v w : World) : Prop where
  view : ViewOf (HidB K ow lw i w) K.H v w
  tape : v.tape = w.tape
  drawn : v.drawn = w.drawn

inductive WS (i : Nat) (x : Value) : Nat → Nat → Nat → Goroutine → World → Prop
  | vw {m : Nat} {g : Goroutine} {w : World} (v : World) : K.j0 ≤ i → Looks K ow lw i v w → GV P false K.H (lw i) (AtSt P K (i - K.j0)) m g v → WS i x 7 (m + 64) 0 g w
  | lib {s m d : Nat} {g : Goroutine} {w : World} (v : World) : K.j0 ≤ i → Looks K ow lw i v w → Fit (K.ld (i - K.j0)) x v → (s = 7 → m < 64) → WSit P K.ty K.Wg K.C K.n No2 No2 K.B (i - K.j0 + 1) x s m d g w → WS i x s m d g w
  | quit {q d : Nat} {g : Goroutine} {w : World} : i < K.j0 → QuitsD P q d g → WS i x 1 q d g w
end

section
variable {P : Program} {K : Cw} {AnchW Fin : Goroutine → World → Prop} {ow ow' lw lw' : Nat → Nat} {i : Nat} {v w w' : World} {x : Value} {s m d : Nat} {g : Goroutine}

omit [Payload] in
theorem GV.running {mn : Bool} {H : Nat → Prop} {B : Nat} {Stop : Goroutine → World → Prop} (hs : ∀ g v, Stop g v → g.status = .running) {n : Nat} (h : GV P mn H B Stop n g v) : g.status = .running := by
  cases n with
  | zero => exact hs _ _ (h v (.refl v))
  | succ n => exact h.elim (fun x => hs _ _ (x v (.refl v))) (·.1)

theorem WS.status (h : WS P K ow lw i x s m d g w) : g.status = .running ∨ g.status = .finished := by
  cases h with
  | vw v _ _ h => exact .inl (GV.running (fun g v x => x.1) h)
  | lib v _ _ _ _ h => exact h.status
  | quit _ h => exact h.status
theorem WS.woken (h : WS P K ow lw i x s m d g w) (a a' : Goroutine) (w' : World) : woken P a a' w' g = g := by
  unfold Go.Conc.woken
  split
  · exact again_running _ h.status
  · rfl

structure Turn (K : Cw) (ow ow' lw : Nat → Nat) (J me : Nat) (w w' : World) : Prop where
  mv : Mv (fun b => b = K.Wg ∨ b = K.C ∨ (K.B ≤ b ∧ ow b = me ∧ (me = 0 → ∀ i, i < J → lw i ≤ b))) w w'
  ag : ∀ b, b < w.heap.size → ow' b = ow b
  new : ∀ b, w.heap.size ≤ b → b < w'.heap.size → ow' b = me
  past : ∀ b, w'.heap.size ≤ b → ow' b = 0
  live : WgLive K.ty K.Wg w'
  pay : PayAt K.C K.n w'
  cell : ∀ c, K.j0 + c + 1 ≠ me → w'.cell? ⟨K.C, c, none⟩ = w.cell? ⟨K.C, c, none⟩

structure Cw.Ok (K : Cw) : Prop where
  hW : K.Wg < K.B
  hC : K.C < K.B
  hCW : K.C ≠ K.Wg
  sW : ¬ K.S K.Wg
  sC : ¬ K.S K.C
  hHW : ¬ K.H K.Wg
  hHC : ¬ K.H K.C
  sB : ∀ b, K.S b → b < K.B
  hB : ∀ b, K.H b → b < K.B
  hn : K.n < 2147483648

theorem Looks.other {J me : Nat} (hK : K.Ok) (h : Looks K ow lw i v w) (hT : Turn K ow ow' lw J me w w') (hi : i < J) (hne : i + 1 ≠ me) (hlw : lw i ≤ w.heap.size) : ∃ v', GR v v' ∧ Looks K ow' lw i v' w' := by
  have := view_other (X' := HidB K ow' lw i w') h.view hT.mv (fun b hb hc => ⟨hb, fun ⟨h1, h2, h3⟩ => ?_⟩) (fun b hb hc => ?_) (fun b => ?_)
  · exact ⟨_, this.2, ⟨this.1, rfl, rfl⟩⟩
  · rcases hc with rfl | rfl | ⟨h4, h5, h6⟩
    · exact h1 (.inr rfl)
    · exact h2 rfl
    · rcases h3 with h3 | ⟨h3, h7⟩
      · omega
      · have := h6 (by omega) i hi; omega
  · rcases hc with rfl | rfl | ⟨h4, _⟩
    · exact hK.hHW hb
    · exact hK.hHC hb
    · have := hK.hB b hb; omega
  · constructor
    · rintro ⟨h1, h2⟩
      rcases Nat.lt_or_ge b w.heap.size with hlt | hge
      · refine .inl ⟨hlt, fun ⟨h3, h4, h5⟩ => h2 ⟨h3, h4, ?_⟩⟩
        rw [hT.ag b hlt]; exact h5
      · exact .inr ⟨hge, h1⟩
    · rintro (⟨h1, h2⟩ | ⟨h1, h2⟩)
      · refine ⟨Nat.lt_of_lt_of_le h1 hT.mv.size, fun ⟨h3, h4, h5⟩ => h2 ⟨h3, h4, ?_⟩⟩
        rw [hT.ag b h1] at h5; exact h5
      · refine ⟨h2, fun ⟨h3, h4, h5⟩ => ?_⟩
        have := hT.new b h1 h2
        omega

theorem Turn.rw {J me c : Nat} (hK : K.Ok) (hT : Turn K ow ow' lw J me w w') (hsz : K.B ≤ w.heap.size) (hc : K.j0 + c + 1 ≠ me) : RW K.ty K.Wg K.C K.n K.B c w w' :=
  ⟨fun b hb h1 h2 => hT.mv.rows b (by omega) fun h => by
    rcases h with h | h | ⟨h, _⟩
    · exact h1 h
    · exact h2 h
    · omega, fun _ => hT.live, fun _ => hT.pay, hT.cell c hc⟩

theorem WS.other {J me : Nat} (hK : K.Ok) (h : WS P K ow lw i x s m d g w) (hT : Turn K ow ow' lw J me w w') (hi : i < J) (hne : i + 1 ≠ me) (hlw : lw i ≤ w.heap.size) (hsz : K.B ≤ w.heap.size) : WS P K ow' lw i x s m d g w' := by
  cases h with
  | vw v h1 h2 h3 =>
    obtain ⟨v', hr, hl⟩ := h2.other hK hT hi hne hlw
    exact .vw v' h1 hl (h3.rely hr)
  | lib v h1 h2 h3 h4 h5 =>
    obtain ⟨v', hr, hl⟩ := h2.other hK hT hi hne hlw
    exact .lib v' h1 hl (h3.gr hr) h4 (h5.rely (hT.rw hK hsz (by omega)))
  | quit h1 h2 => exact .quit h1 h2

omit [Payload] in
theorem Looks.own {J : Nat} (hK : K.Ok) (h : Looks K ow lw i v w) (hT : Mv (fun b => b = K.Wg ∨ b = K.C) w w') (hsz : w'.heap.size = w.heap.size) : ∃ v', GR v v' ∧ Looks K ow lw i v' w' := by
  have := view_other (X' := HidB K ow lw i w') h.view hT (fun b hb hc => ⟨hb, fun ⟨h1, h2, h3⟩ => ?_⟩) (fun b hb hc => ?_) (fun b => ?_)
  · exact ⟨_, this.2, ⟨this.1, rfl, rfl⟩⟩
  · rcases hc with rfl | rfl
    · exact h1 (.inr rfl)
    · exact h2 rfl
  · rcases hc with rfl | rfl
    · exact hK.hHW hb
    · exact hK.hHC hb
  · unfold HidB
    rw [hsz]
    constructor
    · exact fun h => .inl h
    · rintro (h | h)
      · exact h
      · omega

/-! ### goroutine 0 under another's step -/
theorem CS.rely {tag : CTag} {O : Nat → Prop} {j f : Nat} (h : CS P K AnchW Fin tag O j f d g w) (hr : RS K O w w') : CS P K AnchW Fin tag O j f d g w' := by
  have tr : ∀ O x y z, RS K O x y → RS K O y z → RS K O x z := fun _ _ _ _ h1 h2 => h1.trans h2
  cases h with
  | al1 hn h => exact .al1 hn (Goes.rely (tr _) h hr)
  | al2 hn h => exact .al2 hn (Goes.rely (tr _) h hr)
  | skd hn h => exact .skd hn (Goes.rely (tr _) h hr)
  | sa1 hn h => exact .sa1 hn (Goes.rely (tr _) h hr)
  | ske hn h => exact .ske hn (Goes.rely (tr _) h hr)
  | sgo hn h => exact .sgo hn (Goes.rely (tr _) h hr)
  | kd h => exact .kd (Goes.rely (tr _) h hr)
  | anch h => exact .anch (Goes.rely (tr _) h hr)
  | w1 h => exact .w1 (Goes.rely (tr _) h hr)
  | w2 h => exact .w2 (Goes.rely (tr _) h hr)
  | w3 h => exact .w3 (Goes.rely (tr _) h hr)
  | blk h => exact .blk (fun w₂ h₂ => h w₂ (hr.trans h₂))
  | w4 h => exact .w4 (Goes.rely (tr _) h hr)
  | ke h => exact .ke (Goes.rely (tr _) h hr)
  | acq h => exact .acq (Goes.rely (tr _) h hr)
  | ret h => exact .ret (Goes.rely (tr _) h hr)

theorem CS.status {tag : CTag} {O : Nat → Prop} {j f : Nat} (hAr : ∀ g w, AnchW g w → g.status = .running) (h : CS P K AnchW Fin tag O j f d g w) : (g.status = .running ∧ tag ≠ .blk) ∨ (g.status = .blocked ∧ tag = .blk) := by
  cases h with
  | blk h => exact .inr ⟨rfl, rfl⟩
  | anch h => exact .inl ⟨Goes.running hAr w (.refl _ _ w) h, by simp⟩
  | al1 _ h | al2 _ h | skd _ h | sa1 _ h | ske _ h | sgo _ h => exact .inl ⟨Goes.running (fun _ _ x => x.1) w (.refl _ _ w) h, by simp⟩
  | kd h | w1 h | w2 h | w3 h | w4 h | ke h | acq h | ret h => exact .inl ⟨Goes.running (fun _ _ x => x.1) w (.refl _ _ w) h, by simp⟩

theorem CS.wokenBy {tag : CTag} {O : Nat → Prop} {j f : Nat} (hAr : ∀ g w, AnchW g w → g.status = .running) (h : CS P K AnchW Fin tag O j f d g w) (hr : RS K O w w') (a a' : Goroutine) :
    ∃ tag' f', CS P K AnchW Fin tag' O j f' d (woken P a a' w' g) w' ∧ f' ≤ f + 1 ∧ (tag' = tag ∨ (tag = .blk ∧ tag' = .w3)) ∧ (mayWake P a = true → a'.status = .running → tag' ≠ .blk) := by
  have h' := h.rely hr
  unfold Go.Conc.woken
  split
  · rcases h'.status hAr with ⟨hs, hne⟩ | ⟨_, rfl⟩
    · exact ⟨tag, f, by rw [again_running _ (.inl hs)]; exact h', by omega, .inl rfl, fun _ _ => hne⟩
    · cases h' with
      | blk hb =>
        have h3 := hb w' (.refl _ _ w')
        exact ⟨.w3, 0 + 1, by rw [Go.ConcR.again_blocked h3.1 h3.2.1]; exact .w3 (Goes.stop hb), by omega, .inr ⟨rfl, rfl⟩, fun _ _ => by simp⟩
  · rename_i hc
    exact ⟨tag, f, h', by omega, .inl rfl, fun h1 h2 => absurd (by simp [h1, h2]) hc⟩
end
end Go.Proofs.YtlcgbnmmbheleaaGreat
