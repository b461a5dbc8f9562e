/- Several texts in one. -/
import Derived.Test.YtdkhdfedejbicaaGreatDoorJ2
import Derived.Laws.BitsAllLaws
import Derived.Laws.BitsLemmas
import Derived.Deep.DrawnRows
import Derived.Deep.RegionLaw
import Derived.Deep.RegionWith
import Derived.Outline
namespace Go.Proofs.YtdkhdfedejbicaaGreatDoor
open Go.RowKit

def RdU (w : World) (B : Nat) (A : Option Addr) (n : Nat) : Prop :=
  0 < n → ∃ b o, A = some ⟨b, o, none⟩ ∧ b < B ∧ ∀ j, j < n → ∃ u : Int, 0 ≤ u ∧ u ≤ 255 ∧ w.cell? ⟨b, o + j, none⟩ = some (.int .u8 u)
def Rdr (w : World) (g p : Nat) : Prop := ∃ A n c, Blk w g 56 #[.slice A n c, .int .i64 (p : Int)] ∧ n ≤ 2000 ∧ RdU w g A n
structure OnlyG (w w' : World) (g : Nat) : Prop where
  os : w'.os = w.os
  tape : w'.tape = w.tape
  output : w'.output = w.output
  size : w.heap.size ≤ w'.heap.size
  block : ∀ b, b < w.heap.size → b ≠ g → w'.heap[b]? = w.heap[b]?
section
variable {w w' w'' : World} {g : Nat}
theorem OnlyG.refl (w : World) (g : Nat) : OnlyG w w g := ⟨rfl, rfl, rfl, Nat.le_refl _, fun _ _ _ => rfl⟩
theorem OnlyG.trans (h : OnlyG w w' g) (k : OnlyG w' w'' g) : OnlyG w w'' g :=
  ⟨k.os.trans h.os, k.tape.trans h.tape, k.output.trans h.output, Nat.le_trans h.size k.size, fun b h1 h2 => (k.block b (Nat.lt_of_lt_of_le h1 h.size) h2).trans (h.block b h1 h2)⟩
theorem OnlyG.alloc (h : OnlyG w w' g) (o : Obj) : OnlyG w (w'.alloc o) g := h.trans ⟨rfl, rfl, rfl, by simp, fun b hb _ => Below.heap_alloc _ _ _ hb⟩
theorem OnlyG.drew (h : OnlyG w w' g) : OnlyG w w'.drew g := ⟨h.os, h.tape, h.output, h.size, h.block⟩
theorem OnlyG.drewN (h : OnlyG w w' g) (n : Nat) : OnlyG w (w'.drewN n) g := ⟨h.os, h.tape, h.output, h.size, h.block⟩
theorem OnlyG.set_g (h : OnlyG w w' g) (i : Nat) (u : Value) : OnlyG w (w'.setCell ⟨g, i, none⟩ u) g := h.trans ⟨rfl, rfl, rfl, by simp [World.setCell], fun b _ hne => Below.heap_setCell _ _ _ _ hne⟩
theorem OnlyG.below (h : OnlyG w w' g) (k : Below w'.heap.size w' w'') : OnlyG w w'' g := h.trans ⟨k.os, k.tape, k.output, k.size, fun b hb _ => k.block b hb⟩
theorem OnlyG.grown (h : OnlyG w w' g) {row : Option Nat} (k : w'.grownBy w'' row) (hr : ∀ r, row = some r → w.heap.size ≤ r) : OnlyG w w'' g :=
  ⟨k.os.trans h.os, k.tape.trans h.tape, k.output.trans h.output, Nat.le_trans h.size k.size, fun b hb hne => (k.block b (Nat.lt_of_lt_of_le hb h.size) (fun e => by have := hr b e.symm; omega)).trans (h.block b hb hne)⟩
theorem OnlyG.blk (h : OnlyG w w' g) {b : Nat} {t : TypeId} {cs : Array Value} (hb : Blk w b t cs) (hne : b ≠ g) : Blk w' b t cs := (h.block b hb.lt hne).trans hb
theorem OnlyG.to_below {w0 : World} (hb : Below w0.heap.size w0 w) (h : OnlyG w w' g) (hg : w0.heap.size ≤ g) : Below w0.heap.size w0 w' :=
  hb.trans ⟨h.os, h.tape, h.output, h.size, fun k hk => h.block k (by have := hb.size; omega) (by omega)⟩
theorem RdU.keep {B n : Nat} {A : Option Addr} (h : RdU w B A n) (hk : ∀ p : Addr, p.block < B → w'.cell? p = w.cell? p) : RdU w' B A n := fun hn => by
  obtain ⟨b, o, e, hb, hc⟩ := h hn
  refine ⟨b, o, e, hb, fun j hj => ?_⟩
  obtain ⟨u, h1, h2, h3⟩ := hc j hj
  exact ⟨u, h1, h2, (hk ⟨b, o + j, none⟩ hb).trans h3⟩
theorem Rdr.lt {p : Nat} (h : Rdr w g p) : g < w.heap.size := by obtain ⟨_, _, _, h, _⟩ := h; exact h.lt
theorem Rdr.keep {p : Nat} (h : Rdr w g p) (hk : ∀ b, b ≤ g → w'.heap[b]? = w.heap[b]?) : Rdr w' g p := by
  obtain ⟨A, n, c, h1, h2, h3⟩ := h
  exact ⟨A, n, c, (hk g (Nat.le_refl _)).trans h1, h2, h3.keep (fun p hp => World.cell?_of_block (hk p.block (by omega)))⟩
theorem Rdr.below {p : Nat} (h : Rdr w g p) (hb : Below w.heap.size w w') : Rdr w' g p := h.keep (fun b hle => hb.block b (by have := h.lt; omega))
end


theorem of_i64 (n : Nat) (h : n < 9223372036854775808) : (BitVec.ofInt 64 (n : Int)).toNat = n := by
  rw [BitVec.ofInt_natCast, BitVec.toNat_ofNat]
  exact Nat.mod_eq_of_lt (by omega)
theorem xor64 (a b : Nat) (ha : a < 9223372036854775808) (hb : b < 9223372036854775808) : bits .xor .i64 (a : Int) (b : Int) = ((a ^^^ b : Nat) : Int) := by
  have hx : a ^^^ b < 2 ^ 63 := Nat.xor_lt_two_pow (by omega) (by omega)
  show IntKind.i64.wrap (((BitVec.ofInt 64 (a : Int) ^^^ BitVec.ofInt 64 (b : Int)).toNat : Nat) : Int) = _
  rw [BitVec.toNat_xor, of_i64 a ha, of_i64 b hb]
  exact wr64 (by omega) (by omega)
theorem mixed (X : Int) (h0 : 0 ≤ X) (h1 : X ≤ 9223372036854775807) : ∃ Y : Int, bits .xor .i64 X (X / 64) = Y ∧ 0 ≤ Y ∧ Y ≤ 9223372036854775807 := by
  obtain ⟨x, rfl⟩ := Int.eq_ofNat_of_zero_le h0
  have e : ((x : Nat) : Int) / 64 = ((x / 64 : Nat) : Int) := by omega
  have hx : x ^^^ x / 64 < 2 ^ 63 := Nat.xor_lt_two_pow (by omega) (by omega)
  refine ⟨((x ^^^ x / 64 : Nat) : Int), ?_, by omega, by omega⟩
  rw [e]
  exact xor64 _ _ (by omega) (by omega)

set_option maxHeartbeats 400000 in
theorem l6Open_any (A : Option Addr) (n c : Nat) (w : World) (h : RdU w w.heap.size A n) (hc : n ≤ c) (hcm : c ≤ 9223372036854775807) :
    Calls Tryz.prog 17 #[.slice A n c] w fun e w' => e = .returned (.pointer (some ⟨w.heap.size, 0, none⟩)) ∧ Rdr w' w.heap.size 0 ∧ Below w.heap.size w w' := by
  have hal : ∀ o : Obj, Below w.heap.size w (w.alloc o) := fun o => (Below.refl _ _).alloc (Nat.le_refl _) _
  have Hal := qh hal
  have H := qh h
  clear hal h
  by_cases h2 : 2000 < n
  · go_enter Tryz.func17, Tryz.ntmps17
    go_wp2
    go_ret
    refine ⟨rfl, ⟨A, 2000, c, Blk.new w _ _, Nat.le_refl _, ?_⟩, Hal.out _⟩
    exact RdU.keep (w := w) (fun _ => by obtain ⟨b, o, e, hb, hh⟩ := H.out (by omega); exact ⟨b, o, e, hb, fun j hj => hh j (by omega)⟩) (fun p hp => (Hal.out _).cell hp)
  · go_enter Tryz.func17, Tryz.ntmps17
    go_wp2
    go_ret
    exact ⟨rfl, ⟨A, n, c, Blk.new w _ _, by omega, H.out.keep (fun p hp => (Hal.out _).cell hp)⟩, Hal.out _⟩

set_option maxRecDepth 100000 in
set_option maxHeartbeats 3200000 in
theorem pick_any (g p n : Nat) (w : World) (h : Rdr w g p) (hp : p ≤ 1000000) (hn : 1 ≤ n) (hn2 : n ≤ 1000) :
    Calls Tryz.prog 18 #[.pointer (some ⟨g, 0, none⟩), .int .i64 (n : Int)] w fun e w' => ∃ r : Nat, e = .returned (.int .i64 (r : Int)) ∧ r < n ∧ Rdr w' g (p + 1) ∧ OnlyG w w' g := by
  obtain ⟨A, m, c, hb, hm, hu⟩ := h
  have h0 : w.cell? ⟨g, 0, none⟩ = some (.slice A m c) := by rw [hb.cell]; rfl
  have h1 : w.cell? ⟨g, 1, none⟩ = some (.int .i64 (p : Int)) := by rw [hb.cell]; rfl
  have f1 : w.frozen? ⟨g, 1, none⟩ = false := hb.frozen _
  have hgn := hb.lt
  have Hb := qh hb
  have Hu := qh hu
  clear hb hu
  have fin : ∀ k, Rdr ((w.setCell ⟨g, 1, none⟩ (.int .i64 ((p : Int) + 1))).drewN k) g (p + 1) ∧ OnlyG w ((w.setCell ⟨g, 1, none⟩ (.int .i64 ((p : Int) + 1))).drewN k) g := by
    intro k
    refine ⟨⟨A, m, c, (Hb.out.set_ 1 _).drewN k, hm, Hu.out.keep (fun q hq => World.cell?_of_block (Below.heap_setCell w _ _ _ (by simp; omega)))⟩, ((OnlyG.refl w g).set_g 1 _).drewN k⟩
  have Fin := qh fin
  clear fin
  by_cases hm0 : m = 0
  · subst hm0
    go_enter Tryz.func18, Tryz.ntmps18
    go_wp2
    go_ret
    exact ⟨0, rfl, by omega, (Fin.out 0).1, (Fin.out 0).2⟩
  · have em : ((m : Int) == 0) = false := by simp; omega
    by_cases hlt : p < m
    · obtain ⟨b, o, rfl, hbg, hcell⟩ := Hu.out (by omega)
      obtain ⟨u, u0, u1, hcu⟩ := hcell p hlt
      have hne : b ≠ g := by omega
      have hcu' : (w.setCell ⟨g, 1, none⟩ (.int .i64 ((p : Int) + 1))).cell? ⟨b, o + p, none⟩ = some (.int .u8 u) := by rw [World.cell?_setCell_other _ _ _ _ (by simp)]; exact hcu
      clear hcell hcu
      go_enter Tryz.func18, Tryz.ntmps18
      go_wp2
      go_ret
      have e0 : 0 ≤ u % (n : Int) := Int.emod_nonneg _ (by omega)
      have e1 : u % (n : Int) < n := Int.emod_lt_of_pos _ (by omega)
      exact ⟨(u % (n : Int)).toNat, ret_int (Int.toNat_of_nonneg e0).symm, by omega, (Fin.out 0).1, (Fin.out 0).2⟩
    · obtain ⟨b, o, rfl, hbg, hcell⟩ := Hu.out (by omega)
      obtain ⟨u, u0, u1, hcu⟩ := hcell (p % m) (Nat.mod_lt _ (by omega))
      obtain ⟨v, v0, v1, hcv⟩ := hcell ((p * 7 + 3) % m) (Nat.mod_lt _ (by omega))
      have hne : b ≠ g := by omega
      have hcu' : (w.setCell ⟨g, 1, none⟩ (.int .i64 ((p : Int) + 1))).cell? ⟨b, o + p % m, none⟩ = some (.int .u8 u) := by rw [World.cell?_setCell_other _ _ _ _ (by simp)]; exact hcu
      have hcv' : (w.setCell ⟨g, 1, none⟩ (.int .i64 ((p : Int) + 1))).cell? ⟨b, o + (p * 7 + 3) % m, none⟩ = some (.int .u8 v) := by rw [World.cell?_setCell_other _ _ _ _ (by simp)]; exact hcv
      have hg0 : (w.setCell ⟨g, 1, none⟩ (.int .i64 ((p : Int) + 1))).cell? ⟨g, 0, none⟩ = some (.slice (some ⟨b, o, none⟩) m c) := by rw [World.cell?_setCell_other _ _ _ _ (by simp)]; exact h0
      have hg1 : (w.setCell ⟨g, 1, none⟩ (.int .i64 ((p : Int) + 1))).cell? ⟨g, 1, none⟩ = some (.int .i64 ((p : Int) + 1)) := by rw [(Hb.out.set_ 1 _).cell]; rfl
      generalize hW : w.setCell ⟨g, 1, none⟩ (.int .i64 ((p : Int) + 1)) = W at hcu' hcv' hg0 hg1
      have HW := qh hW
      clear hcell hcu hcv
      have lt1 : p % m < m := Nat.mod_lt _ (by omega)
      have lt2 : (p * 7 + 3) % m < m := Nat.mod_lt _ (by omega)
      have hm1 : (1 : Int) ≤ m := by omega
      have a1 : (p : Int).tmod m = (p : Int) % m := IntWalk.rem_in _ _ (by omega)
      have a2 : 0 ≤ (p : Int) % m := Int.emod_nonneg _ (by omega)
      have a3 : (p : Int) % m < m := Int.emod_lt_of_pos _ (by omega)
      have a4 : ((p : Int) % m).toNat = p % m := by rw [← Int.natCast_emod]; rfl
      have c1 : IntKind.i64.wrap ((p : Int) * 7) = (p : Int) * 7 := wr64 (by omega) (by omega)
      have c2 : IntKind.i64.wrap ((p : Int) * 7 + 3) = (p : Int) * 7 + 3 := wr64 (by omega) (by omega)
      have d1 : ((p : Int) * 7 + 3).tmod m = ((p : Int) * 7 + 3) % m := IntWalk.rem_in _ _ (by omega)
      have d2 : 0 ≤ ((p : Int) * 7 + 3) % m := Int.emod_nonneg _ (by omega)
      have d3 : ((p : Int) * 7 + 3) % m < m := Int.emod_lt_of_pos _ (by omega)
      have d4 : (((p : Int) * 7 + 3) % m).toNat = (p * 7 + 3) % m := by
        have : (p : Int) * 7 + 3 = ((p * 7 + 3 : Nat) : Int) := by omega
        rw [this, ← Int.natCast_emod]; rfl
      have i1 : IntKind.i64.wrap u = u := wr64 (by omega) (by omega)
      have i2 : IntKind.i64.wrap v = v := wr64 (by omega) (by omega)
      have i3 : IntKind.i64.wrap (u * 131) = u * 131 := wr64 (by omega) (by omega)
      have i4 : IntKind.i64.wrap (v * 1117) = v * 1117 := wr64 (by omega) (by omega)
      have i5 : IntKind.i64.wrap (u * 131 + v * 1117) = u * 131 + v * 1117 := wr64 (by omega) (by omega)
      have i6 : IntKind.i64.wrap ((p : Int) * 29) = (p : Int) * 29 := wr64 (by omega) (by omega)
      have i7 : IntKind.i64.wrap (u * 131 + v * 1117 + (p : Int) * 29) = u * 131 + v * 1117 + (p : Int) * 29 := wr64 (by omega) (by omega)
      have j0 : 0 ≤ (p : Int) / m := (IntWalk.tdiv_le _ _ (by omega) hm1).1
      have j1 : (p : Int) / m ≤ p := (IntWalk.tdiv_le _ _ (by omega) hm1).2
      have j2 : IntKind.i64.wrap ((p : Int).tdiv m) = (p : Int) / m := IntWalk.i64_quo _ _ ⟨by omega, by omega, hm1⟩
      have j3 : IntKind.i64.wrap ((p : Int) / m * 53) = (p : Int) / m * 53 := wr64 (by omega) (by omega)
      have j4 : IntKind.i64.wrap (u * 131 + v * 1117 + (p : Int) * 29 + (p : Int) / m * 53) = u * 131 + v * 1117 + (p : Int) * 29 + (p : Int) / m * 53 := wr64 (by omega) (by omega)
      have hmz : (m : Int) ≠ 0 := by omega
      go_enter Tryz.func18, Tryz.ntmps18
      go_wp2
      clear hW h0 h1 f1
      go_quiet (fail)
      have x0 : 0 ≤ u * 131 + v * 1117 + (p : Int) * 29 + (p : Int) / m * 53 := by omega
      have x1 : u * 131 + v * 1117 + (p : Int) * 29 + (p : Int) / m * 53 ≤ 1000000000 := by omega
      clear j4 i7 a1 a2 a3 a4 c1 c2 d1 d2 d3 d4 i1 i2 i3 i4 i5 i6 j0 j1 j2 j3
      generalize u * 131 + v * 1117 + (p : Int) * 29 + (p : Int) / m * 53 = X at x0 x1 ⊢
      obtain ⟨Y, y1, y2, y3⟩ := mixed X x0 (by omega)
      have x2 : IntKind.i64.wrap (X.tdiv 64) = X / 64 := IntWalk.i64_quo _ _ ⟨by omega, by omega, by omega⟩
      have y4 : Y.tmod n = Y % n := IntWalk.rem_in _ _ y2
      have hnz : (n : Int) ≠ 0 := by omega
      have e0 : 0 ≤ Y % (n : Int) := Int.emod_nonneg _ (by omega)
      have e1 : Y % (n : Int) < n := Int.emod_lt_of_pos _ (by omega)
      go_wp2
      go_ret
      obtain rfl := HW.out
      exact ⟨(Y % (n : Int)).toNat, ret_int (Int.toNat_of_nonneg e0).symm, by omega, (Fin.out _).1, (Fin.out _).2⟩
end Go.Proofs.YtdkhdfedejbicaaGreatDoor

namespace Go.Proofs.YtdkhdfedejbicaaGreatDoor
open Go.RowKit

theorem pick_at {g p : Nat} (n : Nat) {N : Int} {w : World} (h : Rdr w g p) (hN : N = (n : Int)) (hp : p ≤ 1000000) (hn : 1 ≤ n) (hn2 : n ≤ 1000) :
    Calls Tryz.prog 18 #[.pointer (some ⟨g, 0, none⟩), .int .i64 N] w fun e w' => ∃ r : Nat, e = .returned (.int .i64 (r : Int)) ∧ r < n ∧ Rdr w' g (p + 1) ∧ OnlyG w w' g := by
  subst hN
  exact pick_any g p n w h hp hn hn2

def Bd (m : Int) (xs : List Int) : Prop := ∀ j : Nat, 0 ≤ xs[j]?.getD 0 ∧ xs[j]?.getD 0 ≤ m
theorem Bd.three {m a b c : Int} (ha : 0 ≤ a ∧ a ≤ m) (hb : 0 ≤ b ∧ b ≤ m) (hc : 0 ≤ c ∧ c ≤ m) : Bd m [a, b, c] := fun j => by
  match j with
  | 0 => exact ha
  | 1 => exact hb
  | 2 => exact hc
  | k + 3 => simp; omega
theorem Bd.set_ {m v : Int} {xs : List Int} (h : Bd m xs) (i : Nat) (hv : 0 ≤ v ∧ v ≤ m) : Bd m (xs.set i v) := fun j => by
  by_cases e : i = j
  · subst e
    by_cases hi : i < xs.length
    · rw [List.getElem?_set_self hi]; exact hv
    · rw [List.getElem?_eq_none (by simp; omega)]; simp; omega
  · rw [List.getElem?_set_ne e]; exact h j
theorem alloc_up (w : World) (o : Obj) : Below w.heap.size w (w.alloc o) := (Below.refl _ _).alloc (Nat.le_refl _) _
theorem OnlyG.cell {w w' : World} {g : Nat} (h : OnlyG w w' g) {p : Addr} (h1 : p.block < w.heap.size) (h2 : p.block ≠ g) : w'.cell? p = w.cell? p := World.cell?_of_block (h.block p.block h1 h2)
theorem Rdr.drewN {w : World} {g p : Nat} (h : Rdr w g p) (n : Nat) : Rdr (w.drewN n) g p := h
theorem Rdr.drew {w : World} {g p : Nat} (h : Rdr w g p) : Rdr w.drew g p := h
theorem OnlyG.up {w w' : World} {g : Nat} (h : OnlyG w w' g) (o : Obj) : OnlyG w (w'.alloc o) g := h.alloc o

end Go.Proofs.YtdkhdfedejbicaaGreatDoor

namespace Go.Proofs.YtdkhdfedejbicaaGreatDoor
open Go.RowKit

theorem new_up (w : World) (o : Obj) : Below w.heap.size w (w.alloc o) := (Below.refl _ _).alloc (Nat.le_refl _) _
set_option maxRecDepth 100000 in
set_option maxHeartbeats 1600000 in
theorem l11Fits_any (A1 A2 A3 : Option Addr) (n1 c1 n2 c2 c3 : Nat) (room : List Int) (ts : List Tk) (id : Int) (xs : List Int) (w : World) (h1 : RdI w w.heap.size A1 n1 room) (h2 : RdT w w.heap.size A2 n2 ts) (h3 : RdI w w.heap.size A3 3 xs)
    (hn1 : 3 ≤ n1) (hn2 : n2 ≤ 900) (hl : ∀ j, j < n2 → (ts[j]?.getD (0, [])).2.length = 3) (hb : ∀ j i : Nat, 0 ≤ (ts[j]?.getD (0, [])).2[i]?.getD 0 ∧ (ts[j]?.getD (0, [])).2[i]?.getD 0 ≤ 1000)
    (hx : ∀ j, j < 3 → -1000000 ≤ xs[j]?.getD 0 ∧ xs[j]?.getD 0 ≤ 1000000) :
    Calls Tryz.prog 180 #[.slice A1 n1 c1, .slice A2 n2 c2, .agg #[.int .i64 id, .slice A3 3 c3]] w fun e w' => e = .returned (.bool (fits3 (add3 (loadP ts) xs) room)) ∧ Below w.heap.size w w' := by
  have HL := qh (show ∀ i, i < 3 → -1000000 ≤ (loadP ts)[i]?.getD 0 ∧ (loadP ts)[i]?.getD 0 ≤ 1000000 from fun i hi => by
    have := loadP_bd hb (k := ts.length) (Nat.le_refl _) i hi
    rw [List.take_length] at this
    have := h2.len
    omega)
  have H1 := qh h1
  have H2 := qh h2
  have H3 := qh h3
  have Hl := qh hl
  have Hb := qh hb
  have Hx := qh hx
  clear h1 h2 h3 hl hb hx
  go_enter Tryz.func180, Tryz.ntmps180
  go_wp2_with fail
  have hk := qh (show ∀ w', Below (w.heap.size + 1) (w.alloc (.cells #[.int .i64 id, .slice A3 3 c3] 75)) w' → w'.cell? ⟨w.heap.size, 1, none⟩ = some (.slice A3 3 c3) from fun w' hb => by
    rw [hb.cell (by simp)]
    exact (Blk.new w _ _).cell 1)
  have B0 := qh (new_up w (.cells #[.int .i64 id, .slice A3 3 c3] 75))
  have sz : (w.alloc (.cells #[.int .i64 id, .slice A3 3 c3] 75)).heap.size = w.heap.size + 1 := World.size_alloc _ _
  generalize hW : w.alloc (.cells #[.int .i64 id, .slice A3 3 c3] 75) = W at hk B0 sz ⊢
  have HW := qh hW
  have HS := qh sz
  have K0 := hk.out W (Below.refl _ _)
  clear hW sz
  go_region_held3 (fun w' => w'.cell? ⟨w.heap.size, 1, none⟩ = some (.slice A3 3 c3))
    (first
      | exact K0
      | exact K1
      | exact K2
      | exact K3)
    (first
      | (go_at_call 121; refine (l1Fits_any A5 A1 3 c5 n1 c1 _ _ _ _ w2 HR2.out (H1.out.below HB2.out) (Nat.le_refl _) hn1).mono ?_; rintro e w3 ⟨rfl, m3, hw3⟩; have HB3 := qh (show Below w.heap.size w w3 from hw3 ▸ below_drewN HB2.out m3); have K3 : w3.cell? ⟨w.heap.size, 1, none⟩ = some (.slice A3 3 c3) := (by rw [← hw3]; exact K2); clear hw3)
      | (go_at_call 157; go_loud (refine (l1Add_any A4 A3 3 c4 3 c3 _ _ w1 HR1.out ((H3.out.below HB1.out).more HB1.out.size) (Nat.le_refl _) (Nat.le_refl _) HL.out Hx.out).mono ?_; rintro e w2 ⟨A5, c5, rfl, hR2, hB2⟩; have HB2 := qh (below_to HB1.out hB2); have HR2 := qh hR2; have K2 := hk.out w2 ((HS.out ▸ HQ1.out).trans (hB2.mono (by have := HQ1.out.size; have := HS.out; omega))); clear hR2 hB2))
      | (go_at_call 122; refine (l2Load_any A2 n2 c2 ts W.drew (H2.out.up B0.out.drew) hn2 Hl.out Hb.out).mono ?_; rintro e w1 ⟨A4, c4, rfl, hR1, hB1⟩; have HB1 := qh (below_to B0.out.drew hB1); have HR1 := qh hR1; have HQ1 := qh (show Below W.heap.size W w1 from below_to (Below.refl _ _).drew hB1); have K1 := hk.out w1 (HS.out ▸ HQ1.out); clear hR1 hB1))
  go_wp2
  go_ret
  exact ⟨rfl, HB3.out⟩
end Go.Proofs.YtdkhdfedejbicaaGreatDoor

namespace Go.Proofs.YtdkhdfedejbicaaGreatDoor
open Go.RowKit

theorem own_keep {w w' : World} {base : Nat} {e : TypeId} {size : Nat} {v : Value} {n : Nat} {xs : List Value} (h : w.ownsRow base e size v n xs) (hk : ∀ b, v.ownBlock = some b → w'.heap[b]? = w.heap[b]?) : w'.ownsRow base e size v n xs := by
  refine ⟨h.1, ?_⟩
  rcases h.2 with hn | ⟨g, cap, cur, rfl, hb, hgg, rest⟩
  · exact .inl hn
  · exact .inr ⟨g, cap, cur, rfl, hb, (hk g rfl).trans hgg, rest⟩
theorem own_set {w : World} {base : Nat} {e : TypeId} {size g n c : Nat} {xs : List Value} (h : w.ownsRow base e size (.slice (some ⟨g, 0, none⟩) n c) n xs) (i : Nat) (u : Value) : (w.setCell ⟨g, i, none⟩ u).ownsRow base e size (.slice (some ⟨g, 0, none⟩) n c) n (xs.set i u) := by
  refine ⟨by rw [List.length_set]; exact h.1, ?_⟩
  rcases h.2 with ⟨hn, _⟩ | ⟨g', cap, cur, hv, hb, hgg, h1, h2, h3, h4⟩
  · cases hn
  · injection hv with e1 e2 e3
    injection e1 with e1
    injection e1 with e1
    subst e1 e3
    refine .inr ⟨g, c, cur.setIfInBounds i u, rfl, hb, Blk.set_ (t := e) hgg i u, h1, h2, by simpa using h3, ?_⟩
    rw [Array.toList_setIfInBounds, List.take_set, h4]
theorem own_row {w : World} {base : Nat} {e : TypeId} {size n c : Nat} {A : Option Addr} {xs : List Value} (h : w.ownsRow base e size (.slice A n c) n xs) (hn : 0 < n) : ∃ g cur, A = some ⟨g, 0, none⟩ ∧ base ≤ g ∧ Blk w g e cur := by
  rcases h.2 with ⟨_, h0⟩ | ⟨g, cap, cur, hv, hb, hgg, _⟩
  · omega
  · injection hv with e1 e2 e3
    exact ⟨g, cur, e1, hb, hgg⟩
theorem own_built {w : World} {base : Nat} (e : TypeId) (a b : Value) (hb : base ≤ w.heap.size) : (w.alloc (.cells #[a, b] e)).ownsRow base e 2 (.slice (some ⟨w.heap.size, 0, none⟩) 1 1) 1 [a, b] :=
  ⟨rfl, .inr ⟨w.heap.size, 1, #[a, b], rfl, hb, heap_alloc_new w _, Nat.le_refl _, by unfold maxLen; omega, rfl, rfl⟩⟩
theorem own_src {w : World} {base : Nat} {e : TypeId} {n c : Nat} {A : Option Addr} {xs : List Value} (h : w.ownsRow base e 2 (.slice A n c) n xs) : Src w 2 A n xs := by
  refine ⟨h.1, fun hp => ?_⟩
  obtain ⟨g, cur, rfl, _, _⟩ := own_row h hp
  exact ⟨_, rfl, h.cells (g := g) rfl⟩
section
variable {w w' : World} {lo k k' : Nat} {vs vs' : List Value}
end

end Go.Proofs.YtdkhdfedejbicaaGreatDoor

namespace Go.Proofs.YtdkhdfedejbicaaGreatDoor
open Go.RowKit

section
variable {w w' : World} {lo lo2 k M : Nat} {vs : List Value}
end
end Go.Proofs.YtdkhdfedejbicaaGreatDoor

namespace Go.Proofs.YtdkhdfedejbicaaGreatDoor
open Go.RowKit

set_option maxRecDepth 100000 in
set_option maxHeartbeats 400000 in
theorem l2All_own (A : Option Addr) (n c : Nat) (bs : List (List Tk)) (w : World) (h : RdB w w.heap.size A n bs) (hz : bs.flatten.length ≤ 1048576) :
    Calls Tryz.prog 56 #[.slice A n c] w fun e w' => ∃ A m c vs, e = .returned (.slice A m c) ∧ m ≤ 1048576 ∧ w'.ownsRow w.heap.size 75 2 (.slice A m c) m vs ∧ TkCells w' w.heap.size vs bs.flatten ∧ bs.flatten.length = m ∧ Below w.heap.size w w' := by
  obtain ⟨i0, hi0, hz0, hz1, hz2⟩ := info_parts task_info
  have hl := qh h.len
  have hn := h.le
  go_enter Tryz.func56, Tryz.ntmps56
  go_wp2
  go_loopw [3, 4] (fun v i wr => ∃ k : Nat, i = .int .i64 k ∧ k ≤ n ∧ Below w.heap.size w wr ∧ ∃ A c vs, v = .slice A (bs.take k).flatten.length c ∧ wr.ownsRow w.heap.size 75 2 v (bs.take k).flatten.length vs ∧ TkCells wr w.heap.size vs (bs.take k).flatten) (fun _ i _ => n - (intOf i).toNat)
  case atStart => exact ⟨0, rfl, Nat.zero_le _, (Below.refl _ _).alloc (Nat.le_refl _) _, _, _, [], rfl, World.ownsRow_made w #[] 0 (Nat.le_refl _) (by unfold maxLen; omega) rfl, TkCells.nil⟩
  case round =>
    obtain ⟨k, rfl, hk, hbel, A0, c0, vs, rfl, hown, htk⟩ := hrel
    by_cases hlt : k < n
    · obtain ⟨b1, o1, A2, m2, c2, rfl, lb1, hc1, _, hr2⟩ := (h.below hbel).at_ hlt
      obtain ⟨news, hsrc, htn⟩ := hr2.src
      have lz := hbel.size
      have H := qh h
      have Hr2 := qh hr2
      have e1 := flat_take_succ (bs := bs) (k := k) (by have := hl.out; omega)
      have e2 : m2 = (bs[k]?.getD []).length := hr2.len.symm
      have e3 := flat_take_le (bs := bs) (k + 1)
      have e4 : (bs.take k).flatten.length + m2 ≤ 1048576 := by rw [e1, List.length_append, ← e2] at e3; omega
      have E1 := qh e1
      have E2 := qh e2
      clear h hr2 e1 e2 e3
      go_wp2_with (at_builtin; go_loud (refine wpList_append_src _ rfl _ _ 81 rfl w.heap.size 75 i0 _ 2 32 Tryz.underlying81 hi0 hz0 hz1 hz2 rfl (by omega) (.slice A0 _ c0) _ vs rfl hown A2 m2 c2 news rfl hsrc htn.one (by unfold maxLen; omega) (by omega) lz ?_); intro v' w1 hown1 hgrow hat)
      have hb' : Below w.heap.size w w1 := hbel.grown hgrow lz (fun j e => (hown.lt j e).1)
      have ht' := (htk.append htn).below ((Below.refl w.heap.size wr).grown hgrow lz (fun j e => (hown.lt j e).1))
      obtain ⟨A1, c1, rfl⟩ := own_shape hown1
      have Hown := qh hown1
      have Ht := qh ht'
      clear hown hown1 ht' htk htn hsrc
      go_roundw
      case rel => exact ⟨k + 1, by go_num, by omega, hb', A1, c1, _, by rw [E1.out, List.length_append, ← E2.out], by rw [E1.out, List.length_append, ← E2.out]; exact Hown.out, by rw [E1.out]; exact Ht.out⟩
      case measure => simp [intOf]; omega
    · have ek : k = n := by omega
      have e0 : bs.take k = bs := List.take_of_length_le (by have := hl.out; omega)
      rw [e0] at hown htk
      have Hown := qh hown
      have Ht := qh htk
      have E0 := qh e0
      clear ek hown htk e0 h
      go_wp2
      go_ret
      exact ⟨A0, bs.flatten.length, c0, vs, congrArg (fun l => Ending.returned (.slice A0 (List.length (List.flatten l)) c0)) E0.out, hz, Hown.out, Ht.out, rfl, hbel⟩

section
variable {w w' : World} {base n c g : Nat} {A : Option Addr} {xs : List Int}
end
end Go.Proofs.YtdkhdfedejbicaaGreatDoor

namespace Go.Proofs.YtdkhdfedejbicaaGreatDoor
open Go Go.RowKit

inductive Mix where
  | nil
  | take (i : Nat) (r : Mix)
  | bar (i : Nat) (r : Mix)
  | fork (i : Nat) (r : Mix) (j : Nat) (s : Mix)

def lexMix (ops : Array Oper) : Mix → Nat → Array Bool → Bool
  | .nil, _, listed => (Region.ready .any ops listed).isEmpty
  | .take i r, f, listed => decide (0 < f) && ((Region.ready .any ops listed).contains i && Region.free .any ops listed i) && lexMix ops r (f - 1) (listed.setIfInBounds i true)
  | .bar i r, f, listed => decide (0 < f) && decide (Region.ready .any ops listed = [i]) && lexMix ops r (f - 1) (listed.setIfInBounds i true)
  | .fork i r j s, f, listed => decide (0 < f) && decide (Region.ready .any ops listed = [i, j]) && (lexMix ops r (f - 1) (listed.setIfInBounds i true) && lexMix ops s (f - 1) (listed.setIfInBounds j true))
def mixOk (ops : Array Oper) (ord : Mix) : Bool := Region.noSelect ops && lexMix ops ord ops.size (Array.replicate ops.size false)

section
variable {P : Program} {ops : Array Oper} {Q : Exit → Act → World → Prop} {S : World → Prop}

def wpMix (P : Program) (ops : Array Oper) (Q : Exit → Act → World → Prop) (S : World → Prop) : Mix → Act → World → Prop
  | .nil, a, w => Q .normal a w
  | .take i r, a, w => ∃ o v, ops[i]? = some o ∧ YieldsIf P ops S o v a ∧ wpMix P ops Q S r (a.put o.dst v) w
  | .bar i r, a, w => wpOp P ops Q i (fun a' w' => S w' ∧ wpMix P ops Q S r a' w') a w
  | .fork i r j s, a, w => wpOp P ops Q i (fun a' w' => S w' ∧ wpMix P ops Q S r a' w') a w ∧ wpOp P ops Q j (fun a' w' => S w' ∧ wpMix P ops Q S s a' w') a w

theorem wpAnyH_mix (hsel : Region.noSelect ops = true) (hQ : ∀ c a a' w, Q (.panic c) a w → Q (.panic c) a' w) : ∀ (ord : Mix) (f : Nat) (listed : Array Bool) (a : Act) (w : World),
    lexMix ops ord f listed = true → S w → wpMix P ops Q S ord a w → wpAnyH P .any ops Q S f listed a w
  | .nil, f, _, _, _, hB, _, h => wpAnyH_done (by simpa [lexMix] using hB) h f
  | .take i r, f, listed, a, w, hB, hS, h => by
    simp only [lexMix, Bool.and_eq_true, decide_eq_true_eq] at hB
    obtain ⟨f, rfl⟩ : ∃ g, f = g + 1 := ⟨f - 1, by omega⟩
    obtain ⟨o, v, h0, hy, hK⟩ := h
    exact wpAnyH_take h0 hsel hB.1.2.2 hB.1.2.1 (fun c a' w' hq => hQ c _ _ w' hq) hy hS (wpAnyH_mix hsel hQ r _ _ _ w hB.2 hS hK)
  | .bar i r, f, listed, a, w, hB, hS, h => by
    simp only [lexMix, Bool.and_eq_true, decide_eq_true_eq] at hB
    obtain ⟨f, rfl⟩ : ∃ g, f = g + 1 := ⟨f - 1, by omega⟩
    refine wpAnyH_all (rs := [i]) hB.1.2 (by simp) (fun j hj => ?_)
    have : j = i := by simpa using hj
    subst this
    exact wpOp_mono (fun a' w' hh => ⟨hh.1, wpAnyH_mix hsel hQ r _ _ a' w' hB.2 hh.1 hh.2⟩) h
  | .fork i r j s, f, listed, a, w, hB, hS, h => by
    simp only [lexMix, Bool.and_eq_true, decide_eq_true_eq] at hB
    obtain ⟨f, rfl⟩ : ∃ g, f = g + 1 := ⟨f - 1, by omega⟩
    refine wpAnyH_all (rs := [i, j]) hB.1.2 (by simp) (fun k hk => ?_)
    rcases List.mem_cons.1 hk with rfl | hk
    · exact wpOp_mono (fun a' w' hh => ⟨hh.1, wpAnyH_mix hsel hQ r _ _ a' w' hB.2.1 hh.1 hh.2⟩) h.1
    · have : k = j := by simpa using hk
      subst this
      exact wpOp_mono (fun a' w' hh => ⟨hh.1, wpAnyH_mix hsel hQ s _ _ a' w' hB.2.2 hh.1 hh.2⟩) h.2

theorem wp_region_mix {id : Nat} {Q' : Exit → Act → World → Prop} {a : Act} {w : World} {l : List Oper} (ord : Mix) (S : World → Prop) (hm : P.follows .mixedOrders = true) (hB : mixOk l.toArray ord = true) (hS : S w.drew)
    (h : S w.drew → wpMix P l.toArray (NoPanic Q') S ord a w.drew) : (Code.region id l.toArray true).wp P Q' a w := by
  simp only [mixOk, Bool.and_eq_true] at hB
  exact wp_region_noPanic (wp_region_held_drew hm hS (fun hS => wpAnyH_mix (Q := NoPanic Q') (S := S) hB.1 (fun c a a' w hq => (hq : False).elim) ord _ (Array.replicate l.toArray.size false) a w.drew hB.2 hS (h hS)))

theorem mix_at {i : Nat} {o : Oper} {tl : List Oper} (h : ops.toList.drop i = o :: tl) : ops[i]? = some o := by
  rw [← Array.getElem?_toList, ← Nat.add_zero i, ← List.getElem?_drop, h]; rfl

theorem mxT {i : Nat} {o : Oper} {tl : List Oper} {r : Mix} {a : Act} {w : World} {v : Value} (ho : ops.toList.drop i = o :: tl) (hw : Region.wanted o (yielded ops a.tmps) = true) (hy : ∀ w', S w' → (execOp a.eval o).run P w' = .ok (.value v) w')
    (h : wpMix P ops Q S r (a.put o.dst v) w) : wpMix P ops Q S (.take i r) a w := ⟨o, v, mix_at ho, .inl ⟨hw, hy⟩, h⟩
theorem mxS {i : Nat} {o : Oper} {tl : List Oper} {r : Mix} {a : Act} {w : World} (ho : ops.toList.drop i = o :: tl) (hw : Region.wanted o (yielded ops a.tmps) = false)
    (h : wpMix P ops Q S r (a.put o.dst undef) w) : wpMix P ops Q S (.take i r) a w := ⟨o, undef, mix_at ho, .inr ⟨hw, rfl⟩, h⟩
theorem mxB {i : Nat} {o : Oper} {tl : List Oper} {r : Mix} {a : Act} {w : World} (ho : ops.toList.drop i = o :: tl)
    (h : ∀ K : Act → World → Prop, Shut (∀ a w, S w → (S w → wpMix P ops Q S r a w) → K a w) → if Region.wanted o (yielded ops a.tmps) = true then Oper.wp P o a w K Q else K (a.put o.dst undef) w) : wpMix P ops Q S (.bar i r) a w :=
  wpOp_step (mix_at ho) (fun K' hK => h K' (fun a w hS hW => hK a w ⟨hS, hW hS⟩))
theorem wpMix_fork {i j : Nat} {o o' : Oper} {tl tl' : List Oper} {r s : Mix} {a : Act} {w : World} (ho : ops.toList.drop i = o :: tl) (ho' : ops.toList.drop j = o' :: tl')
    (h : ∀ K : Act → World → Prop, Shut (∀ a w, S w → (S w → wpMix P ops Q S r a w) → K a w) → if Region.wanted o (yielded ops a.tmps) = true then Oper.wp P o a w K Q else K (a.put o.dst undef) w)
    (h' : ∀ K : Act → World → Prop, Shut (∀ a w, S w → (S w → wpMix P ops Q S s a w) → K a w) → if Region.wanted o' (yielded ops a.tmps) = true then Oper.wp P o' a w K Q else K (a.put o'.dst undef) w) : wpMix P ops Q S (.fork i r j s) a w :=
  ⟨wpOp_step (mix_at ho) (fun K' hK => h K' (fun a w hS hW => hK a w ⟨hS, hW hS⟩)), wpOp_step (mix_at ho') (fun K' hK => h' K' (fun a w hS hW => hK a w ⟨hS, hW hS⟩))⟩
theorem wpMix_nil {Q' : Exit → Act → World → Prop} {a : Act} {w : World} (h : Q' .normal a w) : wpMix P ops (NoPanic Q') S .nil a w := h
end
end Go.Proofs.YtdkhdfedejbicaaGreatDoor

namespace Go.Proofs.YtdkhdfedejbicaaGreatDoor
open Go.RowKit
attribute [local go_sem ↓] Go.wp_at_zero Go.wp_at_succ

theorem box_keep (w : World) (v0 v1 : Value) {w' : World} (hb : Below (w.heap.size + 1) (w.alloc (.cells #[v0, v1] 75)) w') : w'.cell? ⟨w.heap.size, 0, none⟩ = some v0 ∧ w'.cell? ⟨w.heap.size, 1, none⟩ = some v1 := by
  constructor
  · rw [hb.cell (by simp)]; exact (Blk.new w _ _).cell 0
  · rw [hb.cell (by simp)]; exact (Blk.new w _ _).cell 1


set_option maxRecDepth 100000 in
set_option maxHeartbeats 1600000 in
theorem hasRoom_any (A1 A2 A3 : Option Addr) (n1 c1 n2 c2 c3 : Nat) (room : List Int) (ts : List Tk) (id : Int) (xs : List Int) (w : World) (h1 : RdI w w.heap.size A1 n1 room) (h2 : RdT w w.heap.size A2 n2 ts) (h3 : RdI w w.heap.size A3 3 xs)
    (hn1 : 3 ≤ n1) (hn2 : n2 ≤ 900) (hl : ∀ j, j < n2 → (ts[j]?.getD (0, [])).2.length = 3) (hb : ∀ j i : Nat, 0 ≤ (ts[j]?.getD (0, [])).2[i]?.getD 0 ∧ (ts[j]?.getD (0, [])).2[i]?.getD 0 ≤ 1000)
    (hx : ∀ j, j < 3 → -1000000 ≤ xs[j]?.getD 0 ∧ xs[j]?.getD 0 ≤ 1000000) :
    Calls Tryz.prog 165 #[.slice A1 n1 c1, .slice A2 n2 c2, .agg #[.int .i64 id, .slice A3 3 c3]] w fun e w' => e = .returned (.bool (fits3 (add3 (loadP ts) xs) room)) ∧ Below w.heap.size w w' := by
  have HL := qh (show ∀ i, i < 3 → -1000000 ≤ (loadP ts)[i]?.getD 0 ∧ (loadP ts)[i]?.getD 0 ≤ 1000000 from fun i hi => by
    have := loadP_bd hb (k := ts.length) (Nat.le_refl _) i hi
    rw [List.take_length] at this
    have := h2.len
    omega)
  have H1 := qh h1
  have H2 := qh h2
  have H3 := qh h3
  have Hl := qh hl
  have Hb := qh hb
  have Hx := qh hx
  clear h1 h2 h3 hl hb hx
  have B0 := qh (new_up w (.cells #[.int .i64 id, .slice A3 3 c3] 75))
  have hk := qh (fun w' => box_keep w (.int .i64 id) (.slice A3 3 c3) (w' := w'))
  have sz : (w.alloc (.cells #[.int .i64 id, .slice A3 3 c3] 75)).heap.size = w.heap.size + 1 := World.size_alloc _ _
  go_enter Tryz.func165, Tryz.ntmps165
  go_wp2_with fail
  generalize hW : w.alloc (.cells #[.int .i64 id, .slice A3 3 c3] 75) = W at hk B0 sz ⊢
  rw [← sz] at hk
  have K0 := (hk.out W.drew (Below.refl _ _).drew).2
  clear hW sz
  refine wp_region_mix (.take 0 (.take 2 (.take 3 (.take 5 (.bar 1 (.bar 4 (.bar 6 (.take 7 .nil)))))))) (fun w' => w'.cell? ⟨w.heap.size, 1, none⟩ = some (.slice A3 3 c3)) (by kernel_rfl) (by kernel_rfl) K0 (fun _ => ?_)
  clear K0
  repeat ((first | refine mxS (by rfl) (by rfl) ?_ | (refine mxT (v := ?_) (by rfl) (by rfl) (fun z y => ?_) ?_; rotate_left; (focus ((try dsimp only at y); (go_simp <;> with_reducible rfl); done)))); (try simp only [Act.put,pS,pZ,pC]))
  (refine mxB (by rfl) (fun K hK => ?_); go_simp)
  refine (loadOf_any A2 n2 c2 ts W.drew (H2.out.up B0.out.drew) hn2 Hl.out Hb.out).mono ?_; rintro e w1 ⟨A4, c4, rfl, hr1, hb1⟩
  have HQ1 := qh (show Below W.heap.size W w1 from below_to (Below.refl _ _).drew hb1)
  have HB1 := qh (below_to B0.out.drew hb1)
  have HR1 := qh hr1
  clear hb1 hr1
  ((try dsimp only); refine nxK hK _ _ ((hk.out w1 HQ1.out).2) ?_; clear hK K; (try simp only [Act.put,pS,pZ,pC]))
  (refine mxB (by rfl) (fun K hK => ?_); go_simp)
  refine (plus_any A4 A3 3 c4 3 c3 _ _ w1 HR1.out (H3.out.up HB1.out) (Nat.le_refl _) (Nat.le_refl _) HL.out Hx.out).mono ?_; rintro e w2 ⟨A5, c5, rfl, hr2, hb2⟩
  have HQ2 := qh (below_to HQ1.out hb2)
  have HB2 := qh (below_to HB1.out hb2)
  have HR2 := qh hr2
  clear hb2 hr2
  ((try dsimp only); refine nxK hK _ _ ((hk.out w2 HQ2.out).2) ?_; clear hK K; (try simp only [Act.put,pS,pZ,pC]))
  (refine mxB (by rfl) (fun K hK => ?_); go_simp)
  refine (fits_any A5 A1 c5 n1 c1 _ _ _ _ w2 HR2.out (H1.out.below HB2.out) hn1).mono ?_; rintro e w3 ⟨rfl, rfl⟩
  ((try dsimp only); refine nxK hK _ _ ((hk.out _ HQ2.out).2) ?_; clear hK K; (try simp only [Act.put,pS,pZ,pC]))
  repeat ((first | refine mxS (by rfl) (by rfl) ?_ | (refine mxT (v := ?_) (by rfl) (by rfl) (fun z y => ?_) ?_; rotate_left; (focus ((try dsimp only at y); (go_simp <;> with_reducible rfl); done)))); (try simp only [Act.put,pS,pZ,pC]))
  refine wpMix_nil ?_
  go_wp2
  go_ret
  exact ⟨rfl, HB2.out⟩

theorem withRoom_any (A1 A2 A3 : Option Addr) (n1 c1 n2 c2 n3 c3 : Nat) (id : Int) (w : World) :
    Calls Tryz.prog 192 #[.slice A1 n1 c1, .slice A2 n2 c2, .agg #[.int .i64 id, .slice A3 n3 c3]] w fun e w' => e = .returned (.func (.func 196) #[] #[.pointer (some ⟨w.heap.size + 1, 0, none⟩), .pointer (some ⟨w.heap.size, 0, none⟩), .pointer (some ⟨w.heap.size + 2, 0, none⟩)]) ∧
      ((w.alloc (.cells #[.slice A1 n1 c1] 32)).alloc (.cells #[.slice A2 n2 c2] 91)).alloc (.cells #[.int .i64 id, .slice A3 n3 c3] 75) = w' := by
  go_enter Tryz.func192, Tryz.ntmps192
  go_wp2
  go_ret
  exact ⟨rfl, rfl⟩
theorem RdB.one {w : World} {g m c : Nat} {t : TypeId} {A : Option Addr} {ts : List Tk} (h : Blk w g t #[.slice A m c]) (hc : m ≤ c) (hr : RdT w w.heap.size A m ts) : RdB w w.heap.size (some ⟨g, 0, none⟩) 1 [ts] :=
  ⟨rfl, by omega, fun _ => ⟨g, 0, rfl, h.lt, fun j hj => by
    obtain rfl : j = 0 := by omega
    exact ⟨A, m, c, h.cell 0, hc, hr⟩⟩⟩

end Go.Proofs.YtdkhdfedejbicaaGreatDoor
