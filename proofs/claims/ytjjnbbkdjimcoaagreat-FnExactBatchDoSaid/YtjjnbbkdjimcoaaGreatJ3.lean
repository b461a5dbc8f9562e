/- Several texts in one. -/
import Derived.Test.YtjjnbbkdjimcoaaGreatJ2
import Derived.Laws.BitsAllLaws
import Derived.Laws.BitsLemmas
import Derived.Test.YtjjnbbkdjimcoaaGreatJ1
import Derived.Deep.DrawnRows
import Derived.Deep.RegionLaw
import Derived.Deep.RegionWith
import Derived.Outline
namespace Go.Proofs.YtjjnbbkdjimcoaaGreat
open Go.RowKit

/-- Bytes that can be read, below block B. -/
def RdU (w : World) (B : Nat) (A : Option Addr) (n : Nat) : Prop :=
  0 < n → ∃ b o, A = some ⟨b, o, none⟩ ∧ b < B ∧ ∀ j, j < n → ∃ u : Int, 0 ≤ u ∧ u ≤ 255 ∧ w.cell? ⟨b, o + j, none⟩ = some (.int .u8 u)
/-- The reader in block g, which has drawn p numbers. -/
def Rdr (w : World) (g p : Nat) : Prop := ∃ A n c, Blk w g 101 #[.slice A n c, .int .i64 (p : Int)] ∧ n ≤ 2000 ∧ RdU w g A n
/-- Of what was there nothing but block g has turned. -/
structure OnlyG (w w' : World) (g : Nat) : Prop where
  os : w'.os = w.os
  tape : w'.tape = w.tape
  output : w'.output = w.output
  size : w.heap.size ≤ w'.heap.size
  block : ∀ b, b < w.heap.size → b ≠ g → w'.heap[b]? = w.heap[b]?
section
variable {w w' w'' : World} {g : Nat}
theorem OnlyG.refl (w : World) (g : Nat) : OnlyG w w g := ⟨rfl, rfl, rfl, Nat.le_refl _, fun _ _ _ => rfl⟩
theorem OnlyG.trans (h : OnlyG w w' g) (k : OnlyG w' w'' g) : OnlyG w w'' g :=
  ⟨k.os.trans h.os, k.tape.trans h.tape, k.output.trans h.output, Nat.le_trans h.size k.size, fun b h1 h2 => (k.block b (Nat.lt_of_lt_of_le h1 h.size) h2).trans (h.block b h1 h2)⟩
theorem OnlyG.alloc (h : OnlyG w w' g) (o : Obj) : OnlyG w (w'.alloc o) g := h.trans ⟨rfl, rfl, rfl, by simp, fun b hb _ => Below.heap_alloc _ _ _ hb⟩
theorem OnlyG.drew (h : OnlyG w w' g) : OnlyG w w'.drew g := ⟨h.os, h.tape, h.output, h.size, h.block⟩
theorem OnlyG.drewN (h : OnlyG w w' g) (n : Nat) : OnlyG w (w'.drewN n) g := ⟨h.os, h.tape, h.output, h.size, h.block⟩
theorem OnlyG.set_g (h : OnlyG w w' g) (i : Nat) (u : Value) : OnlyG w (w'.setCell ⟨g, i, none⟩ u) g := h.trans ⟨rfl, rfl, rfl, by simp [World.setCell], fun b _ hne => Below.heap_setCell _ _ _ _ hne⟩
theorem OnlyG.set_new (h : OnlyG w w' g) {p : Addr} (hp : w.heap.size ≤ p.block) (u : Value) : OnlyG w (w'.setCell p u) g :=
  ⟨h.os, h.tape, h.output, by simpa [World.setCell] using h.size, fun b hb hne => (Below.heap_setCell _ _ _ _ (by omega)).trans (h.block b hb hne)⟩
theorem OnlyG.below (h : OnlyG w w' g) (k : Below w'.heap.size w' w'') : OnlyG w w'' g := h.trans ⟨k.os, k.tape, k.output, k.size, fun b hb _ => k.block b hb⟩
theorem OnlyG.grown (h : OnlyG w w' g) {row : Option Nat} (k : w'.grownBy w'' row) (hr : ∀ r, row = some r → w.heap.size ≤ r) : OnlyG w w'' g :=
  ⟨k.os.trans h.os, k.tape.trans h.tape, k.output.trans h.output, Nat.le_trans h.size k.size, fun b hb hne => (k.block b (Nat.lt_of_lt_of_le hb h.size) (fun e => by have := hr b e.symm; omega)).trans (h.block b hb hne)⟩
theorem OnlyG.blk (h : OnlyG w w' g) {b : Nat} {t : TypeId} {cs : Array Value} (hb : Blk w b t cs) (hne : b ≠ g) : Blk w' b t cs := (h.block b hb.lt hne).trans hb
theorem OnlyG.to_below {w0 : World} (hb : Below w0.heap.size w0 w) (h : OnlyG w w' g) (hg : w0.heap.size ≤ g) : Below w0.heap.size w0 w' :=
  hb.trans ⟨h.os, h.tape, h.output, h.size, fun k hk => h.block k (by have := hb.size; omega) (by omega)⟩
theorem RdU.keep {B n : Nat} {A : Option Addr} (h : RdU w B A n) (hk : ∀ p : Addr, p.block < B → w'.cell? p = w.cell? p) : RdU w' B A n := fun hn => by
  obtain ⟨b, o, e, hb, hc⟩ := h hn
  refine ⟨b, o, e, hb, fun j hj => ?_⟩
  obtain ⟨u, h1, h2, h3⟩ := hc j hj
  exact ⟨u, h1, h2, (hk ⟨b, o + j, none⟩ hb).trans h3⟩
theorem Rdr.lt {p : Nat} (h : Rdr w g p) : g < w.heap.size := by obtain ⟨_, _, _, h, _⟩ := h; exact h.lt
/-- A step that leaves the reader alone. -/
theorem Rdr.keep {p : Nat} (h : Rdr w g p) (hk : ∀ b, b ≤ g → w'.heap[b]? = w.heap[b]?) : Rdr w' g p := by
  obtain ⟨A, n, c, h1, h2, h3⟩ := h
  exact ⟨A, n, c, (hk g (Nat.le_refl _)).trans h1, h2, h3.keep (fun p hp => World.cell?_of_block (hk p.block (by omega)))⟩
theorem Rdr.below {p : Nat} (h : Rdr w g p) (hb : Below w.heap.size w w') : Rdr w' g p := h.keep (fun b hle => hb.block b (by have := h.lt; omega))
end


theorem of_i64 (n : Nat) (h : n < 9223372036854775808) : (BitVec.ofInt 64 (n : Int)).toNat = n := by
  rw [BitVec.ofInt_natCast, BitVec.toNat_ofNat]
  exact Nat.mod_eq_of_lt (by omega)
theorem xor64 (a b : Nat) (ha : a < 9223372036854775808) (hb : b < 9223372036854775808) : bits .xor .i64 (a : Int) (b : Int) = ((a ^^^ b : Nat) : Int) := by
  have hx : a ^^^ b < 2 ^ 63 := Nat.xor_lt_two_pow (by omega) (by omega)
  show IntKind.i64.wrap (((BitVec.ofInt 64 (a : Int) ^^^ BitVec.ofInt 64 (b : Int)).toNat : Nat) : Int) = _
  rw [BitVec.toNat_xor, of_i64 a ha, of_i64 b hb]
  exact wr64 (by omega) (by omega)
/-- The reader's mixing keeps to the numbers from 0. -/
theorem mixed (X : Int) (h0 : 0 ≤ X) (h1 : X ≤ 9223372036854775807) : ∃ Y : Int, bits .xor .i64 X (X / 64) = Y ∧ 0 ≤ Y ∧ Y ≤ 9223372036854775807 := by
  obtain ⟨x, rfl⟩ := Int.eq_ofNat_of_zero_le h0
  have e : ((x : Nat) : Int) / 64 = ((x / 64 : Nat) : Int) := by omega
  have hx : x ^^^ x / 64 < 2 ^ 63 := Nat.xor_lt_two_pow (by omega) (by omega)
  refine ⟨((x ^^^ x / 64 : Nat) : Int), ?_, by omega, by omega⟩
  rw [e]
  exact xor64 _ _ (by omega) (by omega)

set_option maxHeartbeats 400000 in
theorem l6Open_any (A : Option Addr) (n c : Nat) (w : World) (h : RdU w w.heap.size A n) (hc : n ≤ c) (hcm : c ≤ 9223372036854775807) :
    Calls Tryz.prog 43 #[.slice A n c] w fun e w' => e = .returned (.pointer (some ⟨w.heap.size, 0, none⟩)) ∧ Rdr w' w.heap.size 0 ∧ Below w.heap.size w w' := by
  have hal : ∀ o : Obj, Below w.heap.size w (w.alloc o) := fun o => (Below.refl _ _).alloc (Nat.le_refl _) _
  have Hal := qh hal
  have H := qh h
  clear hal h
  by_cases h2 : 2000 < n
  · go_enter Tryz.func43, Tryz.ntmps43
    go_wp2
    go_ret
    refine ⟨rfl, ⟨A, 2000, c, Blk.new w _ _, Nat.le_refl _, ?_⟩, Hal.out _⟩
    exact RdU.keep (w := w) (fun _ => by obtain ⟨b, o, e, hb, hh⟩ := H.out (by omega); exact ⟨b, o, e, hb, fun j hj => hh j (by omega)⟩) (fun p hp => (Hal.out _).cell hp)
  · go_enter Tryz.func43, Tryz.ntmps43
    go_wp2
    go_ret
    exact ⟨rfl, ⟨A, n, c, Blk.new w _ _, by omega, H.out.keep (fun p hp => (Hal.out _).cell hp)⟩, Hal.out _⟩

set_option maxRecDepth 100000 in
set_option maxHeartbeats 3200000 in
theorem pick_any (g p n : Nat) (w : World) (h : Rdr w g p) (hp : p ≤ 1000000) (hn : 1 ≤ n) (hn2 : n ≤ 1000) :
    Calls Tryz.prog 56 #[.pointer (some ⟨g, 0, none⟩), .int .i64 (n : Int)] w fun e w' => ∃ r : Nat, e = .returned (.int .i64 (r : Int)) ∧ r < n ∧ Rdr w' g (p + 1) ∧ OnlyG w w' g := by
  obtain ⟨A, m, c, hb, hm, hu⟩ := h
  have h0 : w.cell? ⟨g, 0, none⟩ = some (.slice A m c) := by rw [hb.cell]; rfl
  have h1 : w.cell? ⟨g, 1, none⟩ = some (.int .i64 (p : Int)) := by rw [hb.cell]; rfl
  have f1 : w.frozen? ⟨g, 1, none⟩ = false := hb.frozen _
  have hgn := hb.lt
  have Hb := qh hb
  have Hu := qh hu
  clear hb hu
  have fin : ∀ k, Rdr ((w.setCell ⟨g, 1, none⟩ (.int .i64 ((p : Int) + 1))).drewN k) g (p + 1) ∧ OnlyG w ((w.setCell ⟨g, 1, none⟩ (.int .i64 ((p : Int) + 1))).drewN k) g := by
    intro k
    refine ⟨⟨A, m, c, (Hb.out.set_ 1 _).drewN k, hm, Hu.out.keep (fun q hq => World.cell?_of_block (Below.heap_setCell w _ _ _ (by simp; omega)))⟩, ((OnlyG.refl w g).set_g 1 _).drewN k⟩
  have Fin := qh fin
  clear fin
  by_cases hm0 : m = 0
  · subst hm0
    go_enter Tryz.func56, Tryz.ntmps56
    go_wp2
    go_ret
    exact ⟨0, rfl, by omega, (Fin.out 0).1, (Fin.out 0).2⟩
  · have em : ((m : Int) == 0) = false := by simp; omega
    by_cases hlt : p < m
    · obtain ⟨b, o, rfl, hbg, hcell⟩ := Hu.out (by omega)
      obtain ⟨u, u0, u1, hcu⟩ := hcell p hlt
      have hne : b ≠ g := by omega
      have hcu' : (w.setCell ⟨g, 1, none⟩ (.int .i64 ((p : Int) + 1))).cell? ⟨b, o + p, none⟩ = some (.int .u8 u) := by rw [World.cell?_setCell_other _ _ _ _ (by simp)]; exact hcu
      clear hcell hcu
      go_enter Tryz.func56, Tryz.ntmps56
      go_wp2
      go_ret
      have e0 : 0 ≤ u % (n : Int) := Int.emod_nonneg _ (by omega)
      have e1 : u % (n : Int) < n := Int.emod_lt_of_pos _ (by omega)
      exact ⟨(u % (n : Int)).toNat, ret_int (Int.toNat_of_nonneg e0).symm, by omega, (Fin.out 0).1, (Fin.out 0).2⟩
    · obtain ⟨b, o, rfl, hbg, hcell⟩ := Hu.out (by omega)
      obtain ⟨u, u0, u1, hcu⟩ := hcell (p % m) (Nat.mod_lt _ (by omega))
      obtain ⟨v, v0, v1, hcv⟩ := hcell ((p * 7 + 3) % m) (Nat.mod_lt _ (by omega))
      have hne : b ≠ g := by omega
      have hcu' : (w.setCell ⟨g, 1, none⟩ (.int .i64 ((p : Int) + 1))).cell? ⟨b, o + p % m, none⟩ = some (.int .u8 u) := by rw [World.cell?_setCell_other _ _ _ _ (by simp)]; exact hcu
      have hcv' : (w.setCell ⟨g, 1, none⟩ (.int .i64 ((p : Int) + 1))).cell? ⟨b, o + (p * 7 + 3) % m, none⟩ = some (.int .u8 v) := by rw [World.cell?_setCell_other _ _ _ _ (by simp)]; exact hcv
      have hg0 : (w.setCell ⟨g, 1, none⟩ (.int .i64 ((p : Int) + 1))).cell? ⟨g, 0, none⟩ = some (.slice (some ⟨b, o, none⟩) m c) := by rw [World.cell?_setCell_other _ _ _ _ (by simp)]; exact h0
      have hg1 : (w.setCell ⟨g, 1, none⟩ (.int .i64 ((p : Int) + 1))).cell? ⟨g, 1, none⟩ = some (.int .i64 ((p : Int) + 1)) := by rw [(Hb.out.set_ 1 _).cell]; rfl
      generalize hW : w.setCell ⟨g, 1, none⟩ (.int .i64 ((p : Int) + 1)) = W at hcu' hcv' hg0 hg1
      have HW := qh hW
      clear hcell hcu hcv
      have lt1 : p % m < m := Nat.mod_lt _ (by omega)
      have lt2 : (p * 7 + 3) % m < m := Nat.mod_lt _ (by omega)
      have hm1 : (1 : Int) ≤ m := by omega
      have a1 : (p : Int).tmod m = (p : Int) % m := IntWalk.rem_in _ _ (by omega)
      have a2 : 0 ≤ (p : Int) % m := Int.emod_nonneg _ (by omega)
      have a3 : (p : Int) % m < m := Int.emod_lt_of_pos _ (by omega)
      have a4 : ((p : Int) % m).toNat = p % m := by rw [← Int.natCast_emod]; rfl
      have c1 : IntKind.i64.wrap ((p : Int) * 7) = (p : Int) * 7 := wr64 (by omega) (by omega)
      have c2 : IntKind.i64.wrap ((p : Int) * 7 + 3) = (p : Int) * 7 + 3 := wr64 (by omega) (by omega)
      have d1 : ((p : Int) * 7 + 3).tmod m = ((p : Int) * 7 + 3) % m := IntWalk.rem_in _ _ (by omega)
      have d2 : 0 ≤ ((p : Int) * 7 + 3) % m := Int.emod_nonneg _ (by omega)
      have d3 : ((p : Int) * 7 + 3) % m < m := Int.emod_lt_of_pos _ (by omega)
      have d4 : (((p : Int) * 7 + 3) % m).toNat = (p * 7 + 3) % m := by
        have : (p : Int) * 7 + 3 = ((p * 7 + 3 : Nat) : Int) := by omega
        rw [this, ← Int.natCast_emod]; rfl
      have i1 : IntKind.i64.wrap u = u := wr64 (by omega) (by omega)
      have i2 : IntKind.i64.wrap v = v := wr64 (by omega) (by omega)
      have i3 : IntKind.i64.wrap (u * 131) = u * 131 := wr64 (by omega) (by omega)
      have i4 : IntKind.i64.wrap (v * 1117) = v * 1117 := wr64 (by omega) (by omega)
      have i5 : IntKind.i64.wrap (u * 131 + v * 1117) = u * 131 + v * 1117 := wr64 (by omega) (by omega)
      have i6 : IntKind.i64.wrap ((p : Int) * 29) = (p : Int) * 29 := wr64 (by omega) (by omega)
      have i7 : IntKind.i64.wrap (u * 131 + v * 1117 + (p : Int) * 29) = u * 131 + v * 1117 + (p : Int) * 29 := wr64 (by omega) (by omega)
      have j0 : 0 ≤ (p : Int) / m := (IntWalk.tdiv_le _ _ (by omega) hm1).1
      have j1 : (p : Int) / m ≤ p := (IntWalk.tdiv_le _ _ (by omega) hm1).2
      have j2 : IntKind.i64.wrap ((p : Int).tdiv m) = (p : Int) / m := IntWalk.i64_quo _ _ ⟨by omega, by omega, hm1⟩
      have j3 : IntKind.i64.wrap ((p : Int) / m * 53) = (p : Int) / m * 53 := wr64 (by omega) (by omega)
      have j4 : IntKind.i64.wrap (u * 131 + v * 1117 + (p : Int) * 29 + (p : Int) / m * 53) = u * 131 + v * 1117 + (p : Int) * 29 + (p : Int) / m * 53 := wr64 (by omega) (by omega)
      have hmz : (m : Int) ≠ 0 := by omega
      go_enter Tryz.func56, Tryz.ntmps56
      go_wp2
      clear hW h0 h1 f1
      go_quiet (fail)
      have x0 : 0 ≤ u * 131 + v * 1117 + (p : Int) * 29 + (p : Int) / m * 53 := by omega
      have x1 : u * 131 + v * 1117 + (p : Int) * 29 + (p : Int) / m * 53 ≤ 1000000000 := by omega
      clear j4 i7 a1 a2 a3 a4 c1 c2 d1 d2 d3 d4 i1 i2 i3 i4 i5 i6 j0 j1 j2 j3
      generalize u * 131 + v * 1117 + (p : Int) * 29 + (p : Int) / m * 53 = X at x0 x1 ⊢
      obtain ⟨Y, y1, y2, y3⟩ := mixed X x0 (by omega)
      have x2 : IntKind.i64.wrap (X.tdiv 64) = X / 64 := IntWalk.i64_quo _ _ ⟨by omega, by omega, by omega⟩
      have y4 : Y.tmod n = Y % n := IntWalk.rem_in _ _ y2
      have hnz : (n : Int) ≠ 0 := by omega
      have e0 : 0 ≤ Y % (n : Int) := Int.emod_nonneg _ (by omega)
      have e1 : Y % (n : Int) < n := Int.emod_lt_of_pos _ (by omega)
      go_wp2
      go_ret
      obtain rfl := HW.out
      exact ⟨(Y % (n : Int)).toNat, ret_int (Int.toNat_of_nonneg e0).symm, by omega, (Fin.out _).1, (Fin.out _).2⟩
end Go.Proofs.YtjjnbbkdjimcoaaGreat

namespace Go.Proofs.YtjjnbbkdjimcoaaGreat
open Go.RowKit

theorem pick_at {g p : Nat} (n : Nat) {N : Int} {w : World} (h : Rdr w g p) (hN : N = (n : Int)) (hp : p ≤ 1000000) (hn : 1 ≤ n) (hn2 : n ≤ 1000) :
    Calls Tryz.prog 56 #[.pointer (some ⟨g, 0, none⟩), .int .i64 N] w fun e w' => ∃ r : Nat, e = .returned (.int .i64 (r : Int)) ∧ r < n ∧ Rdr w' g (p + 1) ∧ OnlyG w w' g := by
  subst hN
  exact pick_any g p n w h hp hn hn2

/-- Small integers. -/
def Bd (m : Int) (xs : List Int) : Prop := ∀ j : Nat, 0 ≤ xs[j]?.getD 0 ∧ xs[j]?.getD 0 ≤ m
theorem Bd.three {m a b c : Int} (ha : 0 ≤ a ∧ a ≤ m) (hb : 0 ≤ b ∧ b ≤ m) (hc : 0 ≤ c ∧ c ≤ m) : Bd m [a, b, c] := fun j => by
  match j with
  | 0 => exact ha
  | 1 => exact hb
  | 2 => exact hc
  | k + 3 => simp; omega
theorem Bd.set_ {m v : Int} {xs : List Int} (h : Bd m xs) (i : Nat) (hv : 0 ≤ v ∧ v ≤ m) : Bd m (xs.set i v) := fun j => by
  by_cases e : i = j
  · subst e
    by_cases hi : i < xs.length
    · rw [List.getElem?_set_self hi]; exact hv
    · rw [List.getElem?_eq_none (by simp; omega)]; simp; omega
  · rw [List.getElem?_set_ne e]; exact h j
theorem set_vals (xs : List Int) (i : Nat) (v : Int) : (xs.map (Value.int .i64)).toArray.setIfInBounds i (.int .i64 v) = ((xs.set i v).map (Value.int .i64)).toArray := by
  rw [pS, List.map_set]

theorem alloc_up (w : World) (o : Obj) : Below w.heap.size w (w.alloc o) := (Below.refl _ _).alloc (Nat.le_refl _) _
theorem OnlyG.cell {w w' : World} {g : Nat} (h : OnlyG w w' g) {p : Addr} (h1 : p.block < w.heap.size) (h2 : p.block ≠ g) : w'.cell? p = w.cell? p := World.cell?_of_block (h.block p.block h1 h2)
theorem Rdr.drewN {w : World} {g p : Nat} (h : Rdr w g p) (n : Nat) : Rdr (w.drewN n) g p := h
theorem Rdr.drew {w : World} {g p : Nat} (h : Rdr w g p) : Rdr w.drew g p := h
theorem OnlyG.up {w w' : World} {g : Nat} (h : OnlyG w w' g) (o : Obj) : OnlyG w (w'.alloc o) g := h.alloc o

set_option maxRecDepth 100000 in
set_option maxHeartbeats 1600000 in
theorem l91Room_any (g p : Nat) (w : World) (h : Rdr w g p) (hp : p ≤ 900000) :
    Calls Tryz.prog 83 #[.pointer (some ⟨g, 0, none⟩)] w fun e w' => ∃ b xs, e = .returned (.slice (some ⟨b, 0, none⟩) 3 3) ∧ OwI w' w.heap.size b xs ∧ xs.length = 3 ∧ Bd 21 xs ∧ OnlyG w w' g ∧ ∃ q, q ≤ p + 6 ∧ Rdr w' g q := by
  go_enter Tryz.func83, Tryz.ntmps83
  go_wp2_with fail
  refine (pick_at 10 h rfl (by omega) (by omega) (by omega)).mono ?_; rintro e w1 ⟨r1, rfl, hr1, R1, O1⟩
  go_wp2_with fail
  refine (pick_at 10 R1 rfl (by omega) (by omega) (by omega)).mono ?_; rintro e w2 ⟨r2, rfl, hr2, R2, O2⟩
  go_wp2_with fail
  refine (pick_at 10 R2 rfl (by omega) (by omega) (by omega)).mono ?_; rintro e w3 ⟨r3, rfl, hr3, R3, O3⟩
  go_wp2_with fail
  refine (pick_at 50 (R3.below (alloc_up _ _)) rfl (by omega) (by omega) (by omega)).mono ?_; rintro e w4 ⟨r4, rfl, hr4, R4, O4⟩
  have g3 := R3.lt
  have B4 := O4.blk (Blk.new w3 _ _) (by omega)
  have W4 : OnlyG w w4 g := (((O1.trans O2).trans O3).alloc _).trans O4
  have s3 : w.heap.size ≤ w3.heap.size := ((O1.trans O2).trans O3).size
  generalize hb : w3.heap.size = b at B4 g3 s3 ⊢
  have bd : Bd 21 [6 + (r1 : Int), 6 + (r2 : Int), 6 + (r3 : Int)] := Bd.three (by omega) (by omega) (by omega)
  clear O1 O2 O3 O4 R1 R2 R3 h hb
  have H := qh W4
  clear W4
  by_cases h0 : r4 = 0
  · subst h0
    go_wp2_with fail
    refine (pick_at 3 R4 rfl (by omega) (by omega) (by omega)).mono ?_; rintro e w5 ⟨r5, rfl, hr5, R5, O5⟩
    go_wp2_with fail
    refine (pick_at 4 (R5.below (alloc_up _ _)) rfl (by omega) (by omega) (by omega)).mono ?_; rintro e w6 ⟨r6, rfl, hr6, R6, O6⟩
    have C6 := O6.blk (Blk.new w5 _ _) (by have := R5.lt; omega)
    have B6 := O6.blk ((O5.blk B4 (by omega)).alloc _) (by omega)
    have W6 := qh (H.out.trans ((O5.alloc _).trans O6))
    have g6 := R6.lt
    have hbg : b ≠ w5.heap.size := by have := O5.size; have := B4.lt; omega
    have f6 : w6.frozen? ⟨b, r5, none⟩ = false := B6.frozen _
    have hcell : ∃ v : Int, w6.cell? ⟨w5.heap.size, r6, none⟩ = some (.int .i64 v) ∧ 0 ≤ v ∧ v ≤ 21 := by
      rw [C6.cell]
      match r6, hr6 with
      | 0, _ => exact ⟨0, rfl, by omega, by omega⟩
      | 1, _ => exact ⟨1, rfl, by omega, by omega⟩
      | 2, _ => exact ⟨20, rfl, by omega, by omega⟩
      | 3, _ => exact ⟨21, rfl, by omega, by omega⟩
    obtain ⟨v, hv, v0, v1⟩ := hcell
    have hold : ∃ u, w6.cell? ⟨b, r5, none⟩ = some u := by
      rw [B6.cell]
      match r5, hr5 with
      | 0, _ => exact ⟨_, rfl⟩
      | 1, _ => exact ⟨_, rfl⟩
      | 2, _ => exact ⟨_, rfl⟩
    obtain ⟨u, hu⟩ := hold
    have hr5' : (r5 : Int) < 3 := by omega
    have hr6' : (r6 : Int) < 4 := by omega
    have H6 := qh B6
    clear B6 C6 B4 O5 O6
    go_wp2
    go_ret
    refine ⟨b, [6 + (r1 : Int), 6 + (r2 : Int), 6 + (r3 : Int)].set r5 v, rfl, ⟨s3, ?_⟩, by simp, bd.set_ _ ⟨v0, v1⟩, W6.out.set_new s3 _, _, ?_, R6.keep (fun k hk => Below.heap_setCell _ _ _ _ (by simp; omega))⟩
    · rw [← set_vals]; exact H6.out.set_ _ _
    · omega
  · have e4 : ((r4 : Int) == 0) = false := by simp; omega
    go_wp2
    go_ret
    exact ⟨b, [6 + (r1 : Int), 6 + (r2 : Int), 6 + (r3 : Int)], rfl, ⟨s3, B4⟩, rfl, bd, H.out, _, by omega, R4⟩

set_option maxRecDepth 100000 in
set_option maxHeartbeats 1600000 in
theorem l91Task_any (g p : Nat) (id : Int) (w : World) (h : Rdr w g p) (hp : p ≤ 900000) :
    Calls Tryz.prog 86 #[.pointer (some ⟨g, 0, none⟩), .int .i64 id] w fun e w' => ∃ b xs, e = .returned (.agg #[.int .i64 id, .slice (some ⟨b, 0, none⟩) 3 3]) ∧ OwI w' w.heap.size b xs ∧ xs.length = 3 ∧ Bd 21 xs ∧ OnlyG w w' g ∧ ∃ q, q ≤ p + 6 ∧ Rdr w' g q := by
  go_enter Tryz.func86, Tryz.ntmps86
  go_wp2_with fail
  refine (pick_at 6 (h.below (alloc_up _ _)) rfl (by omega) (by omega) (by omega)).mono ?_; rintro e w1 ⟨r1, rfl, hr1, R1, O1⟩
  have B0 := O1.blk (Blk.new w _ _) (by have := h.lt; omega)
  go_wp2_with fail
  refine (pick_at 6 R1 rfl (by omega) (by omega) (by omega)).mono ?_; rintro e w2 ⟨r2, rfl, hr2, R2, O2⟩
  go_wp2_with fail
  refine (pick_at 6 R2 rfl (by omega) (by omega) (by omega)).mono ?_; rintro e w3 ⟨r3, rfl, hr3, R3, O3⟩
  go_wp2_with fail
  refine (pick_at 3 ((R3.below (alloc_up _ _)).below (alloc_up _ _)) rfl (by omega) (by omega) (by omega)).mono ?_; rintro e w4 ⟨r4, rfl, hr4, R4, O4⟩
  have g0 := h.lt
  have g3 := R3.lt
  have s1 : w.heap.size + 1 ≤ w1.heap.size := by have := O1.size; simpa using this
  have s3 : w1.heap.size ≤ w3.heap.size := (O2.trans O3).size
  have Bn := O4.blk ((Blk.new w3 _ _).alloc _) (by omega)
  have Bx := O4.blk (Blk.new (w3.alloc _) _ _) (by simp; omega)
  have Br := O4.blk ((((O3.blk (O2.blk B0 (by omega)) (by omega))).alloc _).alloc _) (by omega)
  have W4 : OnlyG w w4 g := (((((OnlyG.refl w g).alloc _).trans O1).trans (O2.trans O3)).alloc _).alloc _ |>.trans O4
  rw [World.size_alloc] at Bx
  generalize hb : w3.heap.size = b at Bn Bx g3 s3 ⊢
  have bd : Bd 21 [(r1 : Int), (r2 : Int), (r3 : Int)] := Bd.three (by omega) (by omega) (by omega)
  clear O1 O2 O3 O4 R1 R2 R3 h hb B0
  have c0 : w4.cell? ⟨b + 1, 0, none⟩ = some (.int .i64 id) := by rw [Bx.cell]; rfl
  have c1 : w4.cell? ⟨b + 1, 1, none⟩ = some (.slice (some ⟨b, 0, none⟩) 3 3) := by rw [Bx.cell]; rfl
  have d0 : w4.cell? ⟨w.heap.size, 0, none⟩ = some (.int .i64 0) := by rw [Br.cell]; rfl
  have d1 : w4.cell? ⟨w.heap.size, 1, none⟩ = some (.slice none 0 0) := by rw [Br.cell]; rfl
  have f0 : w4.frozen? ⟨w.heap.size, 0, none⟩ = false := Br.frozen _
  have f1 : w4.frozen? ⟨w.heap.size, 1, none⟩ = false := Br.frozen _
  have H := qh W4
  clear W4
  by_cases h0 : r4 = 0
  · subst h0
    go_wp2_with fail
    have hk := qh (show ∀ w', OnlyG w4 w' g → w'.cell? ⟨b + 1, 1, none⟩ = some (.slice (some ⟨b, 0, none⟩) 3 3) from fun w' o => (o.cell (p := ⟨b + 1, 1, none⟩) Bx.lt (by simp; omega)).trans c1)
    have hold := qh (show ∀ (w' : World) (j : Nat), OnlyG w4 w' g → j < 3 → ∃ u, w'.cell? ⟨b, j, none⟩ = some u from fun w' j o hj => by
      rw [(o.blk Bn (by omega)).cell]
      match j, hj with
      | 0, _ => exact ⟨_, rfl⟩
      | 1, _ => exact ⟨_, rfl⟩
      | 2, _ => exact ⟨_, rfl⟩)
    have hfr := qh (show ∀ (w' : World) (j : Nat), OnlyG w4 w' g → w'.frozen? ⟨b, j, none⟩ = false from fun w' j o => (o.blk Bn (by omega)).frozen j)
    have HBn := qh Bn
    have HBx := qh Bx
    have HBr := qh Br
    have HR4 := qh R4
    clear Bn Bx Br R4 c0 d0 d1 f0 f1
    go_region_held3 (fun w' => w'.cell? ⟨b + 1, 1, none⟩ = some (.slice (some ⟨b, 0, none⟩) 3 3))
      (first
        | exact c1
        | exact K5
        | exact K6
        | (rw [World.cell?_setCell_other _ _ _ _ (by simp)]; exact K6))
      (first
        | (go_at_call 56; refine (pick_at 4 HR5.out rfl (by omega) (by omega) (by omega)).mono ?_; rintro e w6 ⟨r6, rfl, hr6, R6, O6⟩; have K6 := hk.out w6 (HO5.out.trans O6); have f6 := hfr.out w6 r5 (HO5.out.trans O6); have e6 : IntKind.i64.wrap (4 + (r6 : Int)) = 4 + (r6 : Int) := wr64 (by omega) (by omega); obtain ⟨u6, hu6⟩ := hold.out w6 r5 (HO5.out.trans O6) hr5; have HR6 := qh R6; have HO6 := qh O6; clear R6 O6)
        | (go_at_call 56; refine (pick_at 3 (HR4.out.drew) rfl (by omega) (by omega) (by omega)).mono ?_; rintro e w5 ⟨r5, rfl, hr5, R5, O5⟩; have HO5 := qh ((OnlyG.refl w4 g).drew.trans O5); have K5 := hk.out w5 HO5.out; have HR5 := qh R5; clear R5 O5; have hr5' : (r5 : Int) < 3 := (by omega)))
    have hOw : OwI (w6.setCell ⟨b, r5, none⟩ (.int .i64 (4 + (r6 : Int)))) w.heap.size b ([(r1 : Int), r2, r3].set r5 (4 + (r6 : Int))) := ⟨by omega, by rw [← set_vals]; exact ((HO5.out.trans HO6.out).blk HBn.out (by omega)).set_ _ _⟩
    have Bx6 := ((HO5.out.trans HO6.out).blk HBx.out (by omega)).far (p := ⟨b, r5, none⟩) (by simp) (.int .i64 (4 + (r6 : Int)))
    have Br6 := ((HO5.out.trans HO6.out).blk HBr.out (by omega)).far (p := ⟨b, r5, none⟩) (by simp; omega) (.int .i64 (4 + (r6 : Int)))
    have O7 : OnlyG w (w6.setCell ⟨b, r5, none⟩ (.int .i64 (4 + (r6 : Int)))) g := (H.out.trans (HO5.out.trans HO6.out)).set_new (by simp; omega) _
    have R7 : Rdr (w6.setCell ⟨b, r5, none⟩ (.int .i64 (4 + (r6 : Int)))) g (p + 1 + 1 + 1 + 1 + 1 + 1) := HR6.out.keep (fun k hk => Below.heap_setCell _ _ _ _ (by simp; omega))
    have bd' : Bd 21 ([(r1 : Int), r2, r3].set r5 (4 + (r6 : Int))) := bd.set_ _ (by omega)
    clear K5 K6 f6 hu6 e6 hk hold hfr bd c1
    generalize w6.setCell ⟨b, r5, none⟩ (.int .i64 (4 + (r6 : Int))) = W at hOw Bx6 Br6 O7 R7 ⊢
    have c0 : W.cell? ⟨b + 1, 0, none⟩ = some (.int .i64 id) := by rw [Bx6.cell]; rfl
    have c1 : W.cell? ⟨b + 1, 1, none⟩ = some (.slice (some ⟨b, 0, none⟩) 3 3) := by rw [Bx6.cell]; rfl
    have d0 : W.cell? ⟨w.heap.size, 0, none⟩ = some (.int .i64 0) := by rw [Br6.cell]; rfl
    have d1 : W.cell? ⟨w.heap.size, 1, none⟩ = some (.slice none 0 0) := by rw [Br6.cell]; rfl
    have f0 : W.frozen? ⟨w.heap.size, 0, none⟩ = false := Br6.frozen _
    have f1 : W.frozen? ⟨w.heap.size, 1, none⟩ = false := Br6.frozen _
    have HB := qh Br6
    have HO := qh hOw
    clear Bx6 Br6 hOw
    have ly : ([(r1 : Int), r2, r3].set r5 (4 + (r6 : Int))).length = 3 := by simp
    generalize [(r1 : Int), r2, r3].set r5 (4 + (r6 : Int)) = ys at HO bd' ly
    go_wp2
    refine bodyPost_ret (v := .agg #[.int .i64 id, .slice (some ⟨b, 0, none⟩) 3 3]) ?_ rfl ⟨b, ys, rfl, ⟨by omega, ?_⟩, ?_, bd', (O7.set_new (Nat.le_refl _) _).set_new (Nat.le_refl _) _, _, ?_, (R7.keep (fun k hk => Below.heap_setCell _ _ _ _ (by simp; omega))).keep (fun k hk => Below.heap_setCell _ _ _ _ (by simp; omega))⟩
    · have e0 := ((HB.out.set_ 0 (.int .i64 id)).set_ 1 (.slice (some ⟨b, 0, none⟩) 3 3)).cell 0
      have e1 := ((HB.out.set_ 0 (.int .i64 id)).set_ 1 (.slice (some ⟨b, 0, none⟩) 3 3)).cell 1
      simp [results, Tryz.results86, go_sem, e0, e1]
    · exact (HO.out.2.far (p := ⟨w.heap.size, 0, none⟩) (by simp; omega) _).far (p := ⟨w.heap.size, 1, none⟩) (by simp; omega) _
    · exact ly
    · omega
  · have e4 : ((r4 : Int) == 0) = false := by simp; omega
    have HB := qh Br
    clear Br
    go_wp2
    refine bodyPost_ret (v := .agg #[.int .i64 id, .slice (some ⟨b, 0, none⟩) 3 3]) ?_ rfl ⟨b, [(r1 : Int), r2, r3], rfl, ⟨by omega, ?_⟩, rfl, bd, (H.out.set_new (Nat.le_refl _) _).set_new (Nat.le_refl _) _, _, ?_, (R4.keep (fun k hk => Below.heap_setCell _ _ _ _ (by simp; omega))).keep (fun k hk => Below.heap_setCell _ _ _ _ (by simp; omega))⟩
    · have e0 := ((HB.out.set_ 0 (.int .i64 id)).set_ 1 (.slice (some ⟨b, 0, none⟩) 3 3)).cell 0
      have e1 := ((HB.out.set_ 0 (.int .i64 id)).set_ 1 (.slice (some ⟨b, 0, none⟩) 3 3)).cell 1
      simp [results, Tryz.results86, go_sem, e0, e1]
    · exact (Bn.far (p := ⟨w.heap.size, 0, none⟩) (by simp; omega) _).far (p := ⟨w.heap.size, 1, none⟩) (by simp; omega) _
    · omega
end Go.Proofs.YtjjnbbkdjimcoaaGreat

namespace Go.Proofs.YtjjnbbkdjimcoaaGreat
open Go.RowKit

theorem new_up (w : World) (o : Obj) : Below w.heap.size w (w.alloc o) := (Below.refl _ _).alloc (Nat.le_refl _) _
theorem new_drew_up (w : World) (o : Obj) : Below w.heap.size w (w.alloc o).drew := (new_up w o).drew

set_option maxRecDepth 100000 in
set_option maxHeartbeats 1600000 in
theorem l11Fits_any (A1 A2 A3 : Option Addr) (n1 c1 n2 c2 c3 : Nat) (room : List Int) (ts : List Tk) (id : Int) (xs : List Int) (w : World) (h1 : RdI w w.heap.size A1 n1 room) (h2 : RdT w w.heap.size A2 n2 ts) (h3 : RdI w w.heap.size A3 3 xs)
    (hn1 : 3 ≤ n1) (hn2 : n2 ≤ 900) (hl : ∀ j, j < n2 → (ts[j]?.getD (0, [])).2.length = 3) (hb : ∀ j i : Nat, 0 ≤ (ts[j]?.getD (0, [])).2[i]?.getD 0 ∧ (ts[j]?.getD (0, [])).2[i]?.getD 0 ≤ 1000)
    (hx : ∀ j, j < 3 → -1000000 ≤ xs[j]?.getD 0 ∧ xs[j]?.getD 0 ≤ 1000000) :
    Calls Tryz.prog 143 #[.slice A1 n1 c1, .slice A2 n2 c2, .agg #[.int .i64 id, .slice A3 3 c3]] w fun e w' => e = .returned (.bool (fits3 (add3 (loadP ts) xs) room)) ∧ Below w.heap.size w w' := by
  have HL := qh (show ∀ i, i < 3 → -1000000 ≤ (loadP ts)[i]?.getD 0 ∧ (loadP ts)[i]?.getD 0 ≤ 1000000 from fun i hi => by
    have := loadP_bd hb (k := ts.length) (Nat.le_refl _) i hi
    rw [List.take_length] at this
    have := h2.len
    omega)
  have H1 := qh h1
  have H2 := qh h2
  have H3 := qh h3
  have Hl := qh hl
  have Hb := qh hb
  have Hx := qh hx
  clear h1 h2 h3 hl hb hx
  go_enter Tryz.func143, Tryz.ntmps143
  go_wp2_with fail
  have hk := qh (show ∀ w', Below (w.heap.size + 1) (w.alloc (.cells #[.int .i64 id, .slice A3 3 c3] 43)) w' → w'.cell? ⟨w.heap.size, 1, none⟩ = some (.slice A3 3 c3) from fun w' hb => by
    rw [hb.cell (by simp)]
    exact (Blk.new w _ _).cell 1)
  have B0 := qh (new_up w (.cells #[.int .i64 id, .slice A3 3 c3] 43))
  have sz : (w.alloc (.cells #[.int .i64 id, .slice A3 3 c3] 43)).heap.size = w.heap.size + 1 := World.size_alloc _ _
  generalize hW : w.alloc (.cells #[.int .i64 id, .slice A3 3 c3] 43) = W at hk B0 sz ⊢
  have HW := qh hW
  have HS := qh sz
  have K0 := hk.out W (Below.refl _ _)
  clear hW sz
  go_region_held3 (fun w' => w'.cell? ⟨w.heap.size, 1, none⟩ = some (.slice A3 3 c3))
    (first
      | exact K0
      | exact K1
      | exact K2
      | exact K3)
    (first
      | (go_at_call 93; refine (l1Fits_any A5 A1 3 c5 n1 c1 _ _ _ _ w2 HR2.out (H1.out.below HB2.out) (Nat.le_refl _) hn1).mono ?_; rintro e w3 ⟨rfl, m3, hw3⟩; have HB3 := qh (show Below w.heap.size w w3 from hw3 ▸ below_drewN HB2.out m3); have K3 : w3.cell? ⟨w.heap.size, 1, none⟩ = some (.slice A3 3 c3) := (by rw [← hw3]; exact K2); clear hw3)
      | (go_at_call 127; go_loud (refine (l1Add_any A4 A3 3 c4 3 c3 _ _ w1 HR1.out ((H3.out.below HB1.out).more HB1.out.size) (Nat.le_refl _) (Nat.le_refl _) HL.out Hx.out).mono ?_; rintro e w2 ⟨A5, c5, rfl, hR2, hB2⟩; have HB2 := qh (below_to HB1.out hB2); have HR2 := qh hR2; have K2 := hk.out w2 ((HS.out ▸ HQ1.out).trans (hB2.mono (by have := HQ1.out.size; have := HS.out; omega))); clear hR2 hB2))
      | (go_at_call 94; refine (l2Load_any A2 n2 c2 ts W.drew (H2.out.up B0.out.drew) hn2 Hl.out Hb.out).mono ?_; rintro e w1 ⟨A4, c4, rfl, hR1, hB1⟩; have HB1 := qh (below_to B0.out.drew hB1); have HR1 := qh hR1; have HQ1 := qh (show Below W.heap.size W w1 from below_to (Below.refl _ _).drew hB1); have K1 := hk.out w1 (HS.out ▸ HQ1.out); clear hR1 hB1))
  go_wp2
  go_ret
  exact ⟨rfl, HB3.out⟩
end Go.Proofs.YtjjnbbkdjimcoaaGreat

namespace Go.Proofs.YtjjnbbkdjimcoaaGreat
open Go.RowKit

theorem own_keep {w w' : World} {base : Nat} {e : TypeId} {size : Nat} {v : Value} {n : Nat} {xs : List Value} (h : w.ownsRow base e size v n xs) (hk : ∀ b, v.ownBlock = some b → w'.heap[b]? = w.heap[b]?) : w'.ownsRow base e size v n xs := by
  refine ⟨h.1, ?_⟩
  rcases h.2 with hn | ⟨g, cap, cur, rfl, hb, hgg, rest⟩
  · exact .inl hn
  · exact .inr ⟨g, cap, cur, rfl, hb, (hk g rfl).trans hgg, rest⟩
theorem own_set {w : World} {base : Nat} {e : TypeId} {size g n c : Nat} {xs : List Value} (h : w.ownsRow base e size (.slice (some ⟨g, 0, none⟩) n c) n xs) (i : Nat) (u : Value) : (w.setCell ⟨g, i, none⟩ u).ownsRow base e size (.slice (some ⟨g, 0, none⟩) n c) n (xs.set i u) := by
  refine ⟨by rw [List.length_set]; exact h.1, ?_⟩
  rcases h.2 with ⟨hn, _⟩ | ⟨g', cap, cur, hv, hb, hgg, h1, h2, h3, h4⟩
  · cases hn
  · injection hv with e1 e2 e3
    injection e1 with e1
    injection e1 with e1
    subst e1 e3
    refine .inr ⟨g, c, cur.setIfInBounds i u, rfl, hb, Blk.set_ (t := e) hgg i u, h1, h2, by simpa using h3, ?_⟩
    rw [Array.toList_setIfInBounds, List.take_set, h4]
theorem own_row {w : World} {base : Nat} {e : TypeId} {size n c : Nat} {A : Option Addr} {xs : List Value} (h : w.ownsRow base e size (.slice A n c) n xs) (hn : 0 < n) : ∃ g cur, A = some ⟨g, 0, none⟩ ∧ base ≤ g ∧ Blk w g e cur := by
  rcases h.2 with ⟨_, h0⟩ | ⟨g, cap, cur, hv, hb, hgg, _⟩
  · omega
  · injection hv with e1 e2 e3
    exact ⟨g, cur, e1, hb, hgg⟩
theorem own_built {w : World} {base : Nat} (e : TypeId) (a b : Value) (hb : base ≤ w.heap.size) : (w.alloc (.cells #[a, b] e)).ownsRow base e 2 (.slice (some ⟨w.heap.size, 0, none⟩) 1 1) 1 [a, b] :=
  ⟨rfl, .inr ⟨w.heap.size, 1, #[a, b], rfl, hb, heap_alloc_new w _, Nat.le_refl _, by unfold maxLen; omega, rfl, rfl⟩⟩
theorem own_src {w : World} {base : Nat} {e : TypeId} {n c : Nat} {A : Option Addr} {xs : List Value} (h : w.ownsRow base e 2 (.slice A n c) n xs) : Src w 2 A n xs := by
  refine ⟨h.1, fun hp => ?_⟩
  obtain ⟨g, cur, rfl, _, _⟩ := own_row h hp
  exact ⟨_, rfl, h.cells (g := g) rfl⟩
theorem own_ne_int {w : World} {base n b : Nat} {v : Value} {xs : List Value} {cs : Array Value} (h : w.ownsRow base 43 2 v n xs) (hb : Blk w b 3 cs) : v.ownBlock ≠ some b := by
  rcases h.2 with ⟨rfl, _⟩ | ⟨g, cap, cur, rfl, _, hg, _⟩
  · simp [Value.ownBlock]
  · intro e
    simp [Value.ownBlock] at e
    subst e
    unfold Blk at hb
    rw [hg] at hb
    injection hb with hb
    injection hb with _ hb
    exact absurd hb (by decide)

/-- The cells of k tasks, each with a need of three small integers in a block at or above lo. -/
def TkN (w : World) (lo k : Nat) (vs : List Value) : Prop :=
  vs.length = k * 2 ∧ ∀ j, j < k → ∃ (id : Int) (b : Nat) (xs : List Int), vs[j * 2]? = some (.int .i64 id) ∧ vs[j * 2 + 1]? = some (.slice (some ⟨b, 0, none⟩) 3 3) ∧ OwI w lo b xs ∧ xs.length = 3 ∧ Bd 21 xs
section
variable {w w' : World} {lo k k' : Nat} {vs vs' : List Value}
theorem TkN.nil : TkN w lo 0 [] := ⟨rfl, fun j hj => by omega⟩
theorem TkN.keep (h : TkN w lo k vs) (hk : ∀ b cs, lo ≤ b → Blk w b 3 cs → Blk w' b 3 cs) : TkN w' lo k vs :=
  ⟨h.1, fun j hj => by obtain ⟨id, b, xs, h1, h2, h3, h4⟩ := h.2 j hj; exact ⟨id, b, xs, h1, h2, ⟨h3.1, hk b _ h3.1 h3.2⟩, h4⟩⟩
theorem TkN.only {g : Nat} (h : TkN w lo k vs) (o : OnlyG w w' g) (hg : g < lo) : TkN w' lo k vs := h.keep (fun _ _ hb hc => o.blk hc (by omega))
theorem TkN.alloc (h : TkN w lo k vs) (o : Obj) : TkN (w.alloc o) lo k vs := h.keep (fun _ _ _ hc => hc.alloc o)
theorem TkN.grown {base n : Nat} {v : Value} {xs : List Value} (h : TkN w lo k vs) (ho : w.ownsRow base 43 2 v n xs) (hg : w.grownBy w' v.ownBlock) : TkN w' lo k vs :=
  h.keep (fun _ _ _ hc => hc.grown hg (fun e => own_ne_int ho hc e.symm))
theorem TkN.one {id : Int} {b : Nat} {xs : List Int} (h : OwI w lo b xs) (hl : xs.length = 3) (hb : Bd 21 xs) : TkN w lo 1 [.int .i64 id, .slice (some ⟨b, 0, none⟩) 3 3] :=
  ⟨rfl, fun j hj => by obtain rfl : j = 0 := (by omega); exact ⟨id, b, xs, rfl, rfl, h, hl, hb⟩⟩
theorem TkN.append (h : TkN w lo k vs) (h' : TkN w lo k' vs') : TkN w lo (k + k') (vs ++ vs') := by
  refine ⟨by simp [h.1, h'.1]; omega, fun j hj => ?_⟩
  by_cases hl : j < k
  · obtain ⟨id, b, xs, h1, h2, h3⟩ := h.2 j hl
    refine ⟨id, b, xs, ?_, ?_, h3⟩
    · rw [List.getElem?_append_left (by have := h.1; omega)]; exact h1
    · rw [List.getElem?_append_left (by have := h.1; omega)]; exact h2
  · obtain ⟨id, b, xs, h1, h2, h3⟩ := h'.2 (j - k) (by omega)
    refine ⟨id, b, xs, ?_, ?_, h3⟩
    · rw [List.getElem?_append_right (by have := h.1; omega), show j * 2 - vs.length = (j - k) * 2 from by have := h.1; omega]; exact h1
    · rw [List.getElem?_append_right (by have := h.1; omega), show j * 2 + 1 - vs.length = (j - k) * 2 + 1 from by have := h.1; omega]; exact h2
theorem TkN.cellsOne (h : TkN w lo k vs) : ∀ u ∈ vs, u.oneCell' = true := by
  intro u hu
  obtain ⟨i, hi, rfl⟩ := List.getElem_of_mem hu
  obtain ⟨id, b, xs, h1, h2, _⟩ := h.2 (i / 2) (by have := h.1; omega)
  rcases Nat.mod_two_eq_zero_or_one i with e | e
  · rw [show i / 2 * 2 = i from by omega, List.getElem?_eq_getElem hi] at h1
    injection h1 with h1; rw [h1]; rfl
  · rw [show i / 2 * 2 + 1 = i from by omega, List.getElem?_eq_getElem hi] at h2
    injection h2 with h2; rw [h2]; rfl
theorem TkN.set_id (h : TkN w lo k vs) (i : Nat) (v : Int) (hi : i < k) : TkN w lo k (vs.set (i * 2) (.int .i64 v)) := by
  refine ⟨by rw [List.length_set]; exact h.1, fun j hj => ?_⟩
  obtain ⟨id, b, xs, h1, h2, h3⟩ := h.2 j hj
  by_cases e : i = j
  · subst e
    exact ⟨v, b, xs, List.getElem?_set_self (by have := h.1; omega), by rw [List.getElem?_set_ne (by omega)]; exact h2, h3⟩
  · exact ⟨id, b, xs, by rw [List.getElem?_set_ne (by omega)]; exact h1, by rw [List.getElem?_set_ne (by omega)]; exact h2, h3⟩
theorem TkN.set_need (h : TkN w lo k vs) (g i : Nat) (v : Int) (hv : 0 ≤ v ∧ v ≤ 21) : TkN (w.setCell ⟨g, i, none⟩ (.int .i64 v)) lo k vs := by
  refine ⟨h.1, fun j hj => ?_⟩
  obtain ⟨id, b, xs, h1, h2, h3, h4, h5⟩ := h.2 j hj
  by_cases e : b = g
  · subst e
    exact ⟨id, b, xs.set i v, h1, h2, ⟨h3.1, by rw [← set_vals]; exact h3.2.set_ _ _⟩, by rw [List.length_set]; exact h4, h5.set_ _ hv⟩
  · exact ⟨id, b, xs, h1, h2, ⟨h3.1, h3.2.far e _⟩, h4, h5⟩
/-- They can be read. -/
theorem TkN.read (h : TkN w lo k vs) : ∃ ts : List Tk, ts.length = k ∧ TkCells w w.heap.size vs ts ∧ ∀ t ∈ ts, t.2.length = 3 ∧ Bd 21 t.2 := by
  have hh : ∀ j : Nat, ∃ t : Tk, j < k → ∃ b : Nat, vs[j * 2]? = some (.int .i64 t.1) ∧ vs[j * 2 + 1]? = some (.slice (some ⟨b, 0, none⟩) 3 3) ∧ OwI w lo b t.2 ∧ t.2.length = 3 ∧ Bd 21 t.2 := by
    intro j
    by_cases hj : j < k
    · obtain ⟨id, b, xs, h1, h2, h3, h4, h5⟩ := h.2 j hj
      exact ⟨(id, xs), fun _ => ⟨b, h1, h2, h3, h4, h5⟩⟩
    · exact ⟨(0, []), fun h => absurd h hj⟩
  obtain ⟨f, hf⟩ := Classical.axiomOfChoice hh
  have hg : ∀ j, j < k → ((List.range k).map f)[j]? = some (f j) := by
    intro j hj
    rw [List.getElem?_map, List.getElem?_range hj]; rfl
  refine ⟨(List.range k).map f, by simp, ⟨by simp [h.1], fun j hj => ?_⟩, fun t ht => ?_⟩
  · have hj : j < k := by simpa using hj
    obtain ⟨b, h1, h2, h3, h4, h5⟩ := hf j hj
    rw [hg j hj]
    exact ⟨_, _, _, h1, h2, Nat.le_refl _, h3.rd' h4 (by omega)⟩
  · obtain ⟨j, hj, rfl⟩ := List.mem_map.1 ht
    obtain ⟨b, h1, h2, h3, h4, h5⟩ := hf j (by simpa using hj)
    exact ⟨h4, h5⟩
end

/-- A row has grown. -/
theorem tk_grow {w0 w w' : World} {g q k n : Nat} {v : Value} {xs vs : List Value} (hown : w.ownsRow w0.heap.size 43 2 v n xs) (hg : w.grownBy w' v.ownBlock) (ho : OnlyG w0 w g) (hr : Rdr w g q) (ht : TkN w w0.heap.size k vs) (hlt : g < w0.heap.size) :
    OnlyG w0 w' g ∧ Rdr w' g q ∧ TkN w' w0.heap.size k vs :=
  ⟨ho.grown hg (fun r e => (hown.lt r e).1), hr.keep (fun b hb => hg.block b (by have := hr.lt; omega) (fun e => by have := (hown.lt b e.symm).1; omega)), ht.grown hown hg⟩

end Go.Proofs.YtjjnbbkdjimcoaaGreat

namespace Go.Proofs.YtjjnbbkdjimcoaaGreat
open Go.RowKit

theorem own_ne_blk {w : World} {base n b : Nat} {v : Value} {xs : List Value} {t : TypeId} {cs : Array Value} (ht : t ≠ 43) (h : w.ownsRow base 43 2 v n xs) (hb : Blk w b t cs) : v.ownBlock ≠ some b := by
  rcases h.2 with ⟨rfl, _⟩ | ⟨g, cap, cur, rfl, _, hg, _⟩
  · simp [Value.ownBlock]
  · intro e
    simp [Value.ownBlock] at e
    subst e
    unfold Blk at hb
    rw [hg] at hb
    injection hb with hb
    injection hb with _ hb
    exact ht hb.symm
theorem blk_ne {w : World} {a b : Nat} {t u : TypeId} {cs ds : Array Value} (ha : Blk w a t cs) (hb : Blk w b u ds) (hn : t ≠ u) : a ≠ b := by
  rintro rfl
  unfold Blk at ha hb
  rw [ha] at hb
  injection hb with hb
  injection hb with _ hb
  exact hn hb
theorem own_mono {w : World} {base base' : Nat} {e : TypeId} {size : Nat} {v : Value} {n : Nat} {xs : List Value} (h : w.ownsRow base e size v n xs) (hb : base' ≤ base) : w.ownsRow base' e size v n xs := by
  refine ⟨h.1, ?_⟩
  rcases h.2 with hn | ⟨g, cap, cur, e1, e2, rest⟩
  · exact .inl hn
  · exact .inr ⟨g, cap, cur, e1, by omega, rest⟩

/-- The cells of k nodes: each a row of its own, at or above lo2, with at most M tasks, whose needs lie at or above lo. -/
def BinsN (w : World) (lo lo2 k M : Nat) (vs : List Value) : Prop :=
  vs.length = k ∧ (∀ j, j < k → ∃ A m c ws, vs[j]? = some (.slice A m c) ∧ m ≤ M ∧ w.ownsRow lo2 43 2 (.slice A m c) m ws ∧ TkN w lo m ws) ∧
    (∀ (i j : Nat) (u v : Value) (b : Nat), vs[i]? = some u → vs[j]? = some v → Value.ownBlock u = some b → Value.ownBlock v = some b → i = j)
section
variable {w w' : World} {lo lo2 k M : Nat} {vs : List Value}
theorem BinsN.nil : BinsN w lo lo2 0 M [] := ⟨rfl, fun j hj => by omega, fun i j u v b h => by simp at h⟩
theorem BinsN.keep (h : BinsN w lo lo2 k M vs) (h1 : ∀ v m xs b, w.ownsRow lo2 43 2 v m xs → v.ownBlock = some b → w'.heap[b]? = w.heap[b]?) (h2 : ∀ b cs, lo ≤ b → Blk w b 3 cs → Blk w' b 3 cs) : BinsN w' lo lo2 k M vs :=
  ⟨h.1, fun j hj => by obtain ⟨A, m, c, ws, e1, e2, e3, e4⟩ := h.2.1 j hj; exact ⟨A, m, c, ws, e1, e2, own_keep e3 (fun b hb => h1 _ _ _ b e3 hb), e4.keep h2⟩, h.2.2⟩
theorem BinsN.only {g : Nat} (h : BinsN w lo lo2 k M vs) (o : OnlyG w w' g) (hg : g < lo) (hg2 : g < lo2) : BinsN w' lo lo2 k M vs :=
  h.keep (fun _ _ _ b hw hb => o.block b (hw.lt b hb).2 (by have := (hw.lt b hb).1; omega)) (fun _ _ hb hc => o.blk hc (by omega))
theorem BinsN.alloc (h : BinsN w lo lo2 k M vs) (o : Obj) : BinsN (w.alloc o) lo lo2 k M vs :=
  h.keep (fun _ _ _ b hw hb => Below.heap_alloc _ _ _ (hw.lt b hb).2) (fun _ _ _ hc => hc.alloc o)
theorem BinsN.drew (h : BinsN w lo lo2 k M vs) : BinsN w.drew lo lo2 k M vs := h.keep (fun _ _ _ _ _ _ => rfl) (fun _ _ _ hc => hc)
theorem BinsN.below (h : BinsN w lo lo2 k M vs) (b : Below w.heap.size w w') : BinsN w' lo lo2 k M vs :=
  h.keep (fun _ _ _ r hw hb => b.block r (hw.lt r hb).2) (fun _ _ _ hc => hc.below b hc.lt)
/-- A cell of a row of nodes is written. -/
theorem BinsN.set_out (h : BinsN w lo lo2 k M vs) {g : Nat} {cs : Array Value} (hb : Blk w g 27 cs) (i : Nat) (u : Value) : BinsN (w.setCell ⟨g, i, none⟩ u) lo lo2 k M vs :=
  h.keep (fun _ _ _ b hw hv => Below.heap_setCell _ _ _ _ (fun e => own_ne_blk (by decide) hw hb (by rw [hv, e]))) (fun _ _ _ hc => hc.far (blk_ne hc hb (by decide)) _)
theorem BinsN.more (h : BinsN w lo lo2 k M vs) {M' : Nat} (hm : M ≤ M') : BinsN w lo lo2 k M' vs :=
  ⟨h.1, fun j hj => by obtain ⟨A, m, c, ws, e1, e2, e3⟩ := h.2.1 j hj; exact ⟨A, m, c, ws, e1, by omega, e3⟩, h.2.2⟩
theorem BinsN.lower (h : BinsN w lo lo2 k M vs) {lo3 : Nat} (hm : lo3 ≤ lo2) : BinsN w lo lo3 k M vs :=
  ⟨h.1, fun j hj => by obtain ⟨A, m, c, ws, e1, e2, e3, e4⟩ := h.2.1 j hj; exact ⟨A, m, c, ws, e1, e2, own_mono e3 hm, e4⟩, h.2.2⟩
/-- One more node, without tasks. -/
theorem BinsN.push (h : BinsN w lo lo2 k M vs) (hl : lo2 ≤ w.heap.size) : BinsN (w.alloc (.cells #[] 43)) lo lo2 (k + 1) M (vs ++ [.slice (some ⟨w.heap.size, 0, none⟩) 0 0]) := by
  have ha := h.alloc (.cells #[] 43)
  have far : ∀ (i : Nat) (u : Value) (b : Nat), vs[i]? = some u → Value.ownBlock u = some b → b < w.heap.size := by
    intro i u b hi hb
    have hik : i < k := by
      rcases Nat.lt_or_ge i k with h' | h'
      · exact h'
      · rw [List.getElem?_eq_none (by have := h.1; omega)] at hi; cases hi
    obtain ⟨A, m, c, ws, e1, e2, e3, e4⟩ := h.2.1 i hik
    rw [hi] at e1
    injection e1 with e1
    subst e1
    exact (e3.lt b hb).2
  have cut : ∀ (i : Nat) (u : Value), (vs ++ [.slice (some ⟨w.heap.size, 0, none⟩) 0 0])[i]? = some u → (i < k ∧ vs[i]? = some u) ∨ (i = k ∧ u = .slice (some ⟨w.heap.size, 0, none⟩) 0 0) := by
    intro i u hi
    by_cases hik : i < k
    · rw [List.getElem?_append_left (by have := h.1; omega)] at hi; exact .inl ⟨hik, hi⟩
    · rw [List.getElem?_append_right (by have := h.1; omega)] at hi
      have hl := h.1
      by_cases e : i = k
      · rw [show i - vs.length = 0 from by omega] at hi
        injection hi with hi
        exact .inr ⟨e, hi.symm⟩
      · rw [List.getElem?_eq_none (by simp; omega)] at hi; cases hi
  refine ⟨by simp [h.1], fun j hj => ?_, fun i j u v b hu hv eu ev => ?_⟩
  · by_cases hjk : j < k
    · obtain ⟨A, m, c, ws, e1, e2, e3, e4⟩ := ha.2.1 j hjk
      exact ⟨A, m, c, ws, by rw [List.getElem?_append_left (by have := h.1; omega)]; exact e1, e2, e3, e4⟩
    · obtain rfl : j = k := by omega
      exact ⟨_, 0, 0, [], by rw [List.getElem?_append_right (by have := h.1; omega), show j - vs.length = 0 from by have := h.1; omega]; rfl, Nat.zero_le _, World.ownsRow_made w #[] 0 hl (by unfold maxLen; omega) rfl, TkN.nil⟩
  · rcases cut i u hu with ⟨h1, h2⟩ | ⟨rfl, rfl⟩ <;> rcases cut j v hv with ⟨h3, h4⟩ | ⟨rfl, rfl⟩
    · exact h.2.2 i j u v b h2 h4 eu ev
    · have := far i u b h2 eu
      simp [Value.ownBlock] at ev; omega
    · have := far j v b h4 ev
      simp [Value.ownBlock] at eu; omega
    · rfl
/-- One node has one more task. -/
theorem BinsN.grow (h : BinsN w lo lo2 k M vs) {r m c : Nat} {A : Option Addr} {ws : List Value} (hr : vs[r]? = some (.slice A m c)) (hown : w.ownsRow lo2 43 2 (.slice A m c) m ws) (hm : m ≤ M) (hg : w.grownBy w' (Value.ownBlock (.slice A m c)))
    {A1 : Option Addr} {c1 : Nat} {ws1 : List Value} (hown1 : w'.ownsRow lo2 43 2 (.slice A1 (m + 1) c1) (m + 1) ws1) (ht : TkN w' lo (m + 1) ws1)
    (hrow : Value.ownBlock (.slice A1 (m + 1) c1) = Value.ownBlock (.slice A m c) ∨ Value.ownBlock (.slice A1 (m + 1) c1) = some w.heap.size) : BinsN w' lo lo2 k (M + 1) (vs.set r (.slice A1 (m + 1) c1)) := by
  have far : ∀ (i : Nat) (u : Value) (b : Nat), i ≠ r → vs[i]? = some u → Value.ownBlock u = some b → b < w.heap.size ∧ some b ≠ Value.ownBlock (.slice A m c) := by
    intro i u b hir hi hb
    have hik : i < k := by
      rcases Nat.lt_or_ge i k with h' | h'
      · exact h'
      · rw [List.getElem?_eq_none (by have := h.1; omega)] at hi; cases hi
    obtain ⟨A', m', c', ws', e1, e2, e3, e4⟩ := h.2.1 i hik
    rw [hi] at e1
    injection e1 with e1
    subst e1
    exact ⟨(e3.lt b hb).2, fun e => hir (h.2.2 i r _ _ b hi hr hb e.symm)⟩
  have hrl : r < vs.length := (List.getElem?_eq_some_iff.1 hr).1
  refine ⟨by rw [List.length_set]; exact h.1, fun j hj => ?_, fun i j u v b hu hv eu ev => ?_⟩
  · by_cases e : r = j
    · subst e
      exact ⟨A1, m + 1, c1, ws1, by rw [List.getElem?_set_self hrl], by omega, hown1, ht⟩
    · obtain ⟨A', m', c', ws', e1, e2, e3, e4⟩ := h.2.1 j hj
      exact ⟨A', m', c', ws', by rw [List.getElem?_set_ne e]; exact e1, by omega, own_keep e3 (fun b hb => hg.block b (e3.lt b hb).2 (far j _ b (Ne.symm e) e1 hb).2), e4.grown hown hg⟩
  · by_cases ei : r = i
    · by_cases ej : r = j
      · omega
      · subst ei
        rw [List.getElem?_set_self hrl] at hu
        injection hu with hu
        subst hu
        rw [List.getElem?_set_ne ej] at hv
        obtain ⟨f1, f2⟩ := far j v b (Ne.symm ej) hv ev
        rcases hrow with e | e
        · rw [eu] at e; exact absurd e f2
        · rw [eu] at e; injection e with e; omega
    · by_cases ej : r = j
      · subst ej
        rw [List.getElem?_set_self hrl] at hv
        injection hv with hv
        subst hv
        rw [List.getElem?_set_ne ei] at hu
        obtain ⟨f1, f2⟩ := far i u b (Ne.symm ei) hu eu
        rcases hrow with e | e
        · rw [ev] at e; exact absurd e f2
        · rw [ev] at e; injection e with e; omega
      · rw [List.getElem?_set_ne ei] at hu
        rw [List.getElem?_set_ne ej] at hv
        exact h.2.2 i j u v b hu hv eu ev
/-- They can be read. -/
theorem BinsN.read (h : BinsN w lo lo2 k M vs) {base c : Nat} {A : Option Addr} (ho : w.ownsRow base 27 1 (.slice A k c) k vs) (hk : k ≤ 1000) (hM : M ≤ 1000) :
    ∃ bs, RdB w w.heap.size A k bs ∧ bs.flatten.length ≤ k * M ∧ ∀ b ∈ bs, ∀ t ∈ b, t.2.length = 3 ∧ Bd 21 t.2 := by
  have hh : ∀ j : Nat, ∃ ts : List Tk, (j < k → ∃ A m c, vs[j]? = some (.slice A m c) ∧ m ≤ c ∧ RdT w w.heap.size A m ts) ∧ ts.length ≤ M ∧ ∀ t ∈ ts, t.2.length = 3 ∧ Bd 21 t.2 := by
    intro j
    by_cases hj : j < k
    · obtain ⟨A', m, c', ws, e1, e2, e3, e4⟩ := h.2.1 j hj
      obtain ⟨ts, t1, t2, t3⟩ := e4.read
      refine ⟨ts, fun _ => ⟨A', m, c', e1, ?_, RdT.of_own e3 t2 (Nat.le_refl _) (by omega)⟩, by omega, t3⟩
      rcases e3.2 with ⟨hv, h0⟩ | ⟨g, cap, cur, hv, _, _, hc, _⟩
      · omega
      · injection hv with _ _ hv; omega
    · exact ⟨[], fun h => absurd h hj, by simp, by simp⟩
  obtain ⟨f, hf⟩ := Classical.axiomOfChoice hh
  have hg : ∀ j, j < k → ((List.range k).map f)[j]? = some (f j) := by
    intro j hj
    rw [List.getElem?_map, List.getElem?_range hj]; rfl
  refine ⟨(List.range k).map f, ⟨by simp, by omega, fun hp => ?_⟩, ?_, fun b hb => ?_⟩
  · obtain ⟨g, cur, rfl, hb, hblk⟩ := own_row ho hp
    refine ⟨g, 0, rfl, hblk.lt, fun j hj => ?_⟩
    obtain ⟨A', m, c', e1, e2, e3⟩ := (hf j).1 hj
    rw [hg j hj]
    refine ⟨A', m, c', ?_, e2, e3⟩
    have := ho.cells (g := g) rfl _ _ e1
    rwa [addr_add] at this
  · have : ∀ n, ((List.range n).map f).flatten.length ≤ n * M := by
      intro n
      induction n with
      | zero => simp
      | succ n ih =>
        rw [List.range_succ, List.map_append, List.flatten_append, List.length_append, Nat.succ_mul]
        have := (hf n).2.1
        simp only [List.map_cons, List.map_nil, List.flatten_cons, List.flatten_nil, List.append_nil]
        omega
    exact this k
  · obtain ⟨j, hj, rfl⟩ := List.mem_map.1 hb
    exact (hf j).2.2
end
end Go.Proofs.YtjjnbbkdjimcoaaGreat

namespace Go.Proofs.YtjjnbbkdjimcoaaGreat
open Go.RowKit

set_option maxRecDepth 100000 in
set_option maxHeartbeats 400000 in
theorem l2All_own (A : Option Addr) (n c : Nat) (bs : List (List Tk)) (w : World) (h : RdB w w.heap.size A n bs) (hz : bs.flatten.length ≤ 1048576) :
    Calls Tryz.prog 92 #[.slice A n c] w fun e w' => ∃ A m c vs, e = .returned (.slice A m c) ∧ m ≤ 1048576 ∧ w'.ownsRow w.heap.size 43 2 (.slice A m c) m vs ∧ TkCells w' w.heap.size vs bs.flatten ∧ bs.flatten.length = m ∧ Below w.heap.size w w' := by
  obtain ⟨i0, hi0, hz0, hz1, hz2⟩ := info_parts task_info
  have hl := qh h.len
  have hn := h.le
  go_enter Tryz.func92, Tryz.ntmps92
  go_wp2
  go_loopw [3, 4] (fun v i wr => ∃ k : Nat, i = .int .i64 k ∧ k ≤ n ∧ Below w.heap.size w wr ∧ ∃ A c vs, v = .slice A (bs.take k).flatten.length c ∧ wr.ownsRow w.heap.size 43 2 v (bs.take k).flatten.length vs ∧ TkCells wr w.heap.size vs (bs.take k).flatten) (fun _ i _ => n - (intOf i).toNat)
  case atStart => exact ⟨0, rfl, Nat.zero_le _, (Below.refl _ _).alloc (Nat.le_refl _) _, _, _, [], rfl, World.ownsRow_made w #[] 0 (Nat.le_refl _) (by unfold maxLen; omega) rfl, TkCells.nil⟩
  case round =>
    obtain ⟨k, rfl, hk, hbel, A0, c0, vs, rfl, hown, htk⟩ := hrel
    by_cases hlt : k < n
    · obtain ⟨b1, o1, A2, m2, c2, rfl, lb1, hc1, _, hr2⟩ := (h.below hbel).at_ hlt
      obtain ⟨news, hsrc, htn⟩ := hr2.src
      have lz := hbel.size
      have H := qh h
      have Hr2 := qh hr2
      have e1 := flat_take_succ (bs := bs) (k := k) (by have := hl.out; omega)
      have e2 : m2 = (bs[k]?.getD []).length := hr2.len.symm
      have e3 := flat_take_le (bs := bs) (k + 1)
      have e4 : (bs.take k).flatten.length + m2 ≤ 1048576 := by rw [e1, List.length_append, ← e2] at e3; omega
      have E1 := qh e1
      have E2 := qh e2
      clear h hr2 e1 e2 e3
      go_wp2_with (at_builtin; go_loud (refine wpList_append_src _ rfl _ _ 27 rfl w.heap.size 43 i0 _ 2 32 Tryz.underlying27 hi0 hz0 hz1 hz2 rfl (by omega) (.slice A0 _ c0) _ vs rfl hown A2 m2 c2 news rfl hsrc htn.one (by unfold maxLen; omega) (by omega) lz ?_); intro v' w1 hown1 hgrow hat)
      have hb' : Below w.heap.size w w1 := hbel.grown hgrow lz (fun j e => (hown.lt j e).1)
      have ht' := (htk.append htn).below ((Below.refl w.heap.size wr).grown hgrow lz (fun j e => (hown.lt j e).1))
      obtain ⟨A1, c1, rfl⟩ := own_shape hown1
      have Hown := qh hown1
      have Ht := qh ht'
      clear hown hown1 ht' htk htn hsrc
      go_roundw
      case rel => exact ⟨k + 1, by go_num, by omega, hb', A1, c1, _, by rw [E1.out, List.length_append, ← E2.out], by rw [E1.out, List.length_append, ← E2.out]; exact Hown.out, by rw [E1.out]; exact Ht.out⟩
      case measure => simp [intOf]; omega
    · have ek : k = n := by omega
      have e0 : bs.take k = bs := List.take_of_length_le (by have := hl.out; omega)
      rw [e0] at hown htk
      have Hown := qh hown
      have Ht := qh htk
      have E0 := qh e0
      clear ek hown htk e0 h
      go_wp2
      go_ret
      exact ⟨A0, bs.flatten.length, c0, vs, congrArg (fun l => Ending.returned (.slice A0 (List.length (List.flatten l)) c0)) E0.out, hz, Hown.out, Ht.out, rfl, hbel⟩

theorem own_ne_any {w : World} {base size n b : Nat} {v : Value} {xs : List Value} {t u : TypeId} {cs : Array Value} (ht : u ≠ t) (h : w.ownsRow base t size v n xs) (hb : Blk w b u cs) : v.ownBlock ≠ some b := by
  rcases h.2 with ⟨rfl, _⟩ | ⟨g, cap, cur, rfl, _, hg, _⟩
  · simp [Value.ownBlock]
  · intro e
    simp [Value.ownBlock] at e
    subst e
    exact blk_ne (t := u) (u := t) hb hg ht rfl

/-- A row of integers of the call's own. -/
def OwnI (w : World) (base : Nat) (A : Option Addr) (n c : Nat) (xs : List Int) : Prop := w.ownsRow base 3 1 (.slice A n c) n (xs.map (Value.int .i64))
section
variable {w w' : World} {base n c g : Nat} {A : Option Addr} {xs : List Int}
theorem OwnI.len (h : OwnI w base A n c xs) : xs.length = n := by have := h.1; simpa using this
theorem OwnI.keep (h : OwnI w base A n c xs) (hk : ∀ b, Value.ownBlock (.slice A n c) = some b → w'.heap[b]? = w.heap[b]?) : OwnI w' base A n c xs := own_keep h hk
theorem OwnI.only (h : OwnI w base A n c xs) (o : OnlyG w w' g) (hg : g < base) : OwnI w' base A n c xs := h.keep (fun b hb => o.block b (World.ownsRow.lt h b hb).2 (by have := (World.ownsRow.lt h b hb).1; omega))
theorem OwnI.rd (h : OwnI w base A n c xs) (hn : n ≤ 9223372036854775807) : RdI w w.heap.size A n xs := RdI.of_own h hn
theorem own_only {t : TypeId} {size : Nat} {v : Value} {ys : List Value} (h : w.ownsRow base t size v n ys) (o : OnlyG w w' g) (hg : g < base) : w'.ownsRow base t size v n ys := own_keep h (fun b hb => o.block b (h.lt b hb).2 (by have := (h.lt b hb).1; omega))
end
end Go.Proofs.YtjjnbbkdjimcoaaGreat

namespace Go.Proofs.YtjjnbbkdjimcoaaGreat
open Go Go.RowKit

/-- An order of a region's operations. -/
inductive Mix where
  | nil
  | take (i : Nat) (r : Mix)
  | bar (i : Nat) (r : Mix)
  | fork (i : Nat) (r : Mix) (j : Nat) (s : Mix)

/-- Each operation under 'bar' comes up alone, those of a fork come up as two; each under 'take' can be taken first where it stands. -/
def lexMix (ops : Array Oper) : Mix → Nat → Array Bool → Bool
  | .nil, _, listed => (Region.ready .any ops listed).isEmpty
  | .take i r, f, listed => decide (0 < f) && ((Region.ready .any ops listed).contains i && Region.free .any ops listed i) && lexMix ops r (f - 1) (listed.setIfInBounds i true)
  | .bar i r, f, listed => decide (0 < f) && decide (Region.ready .any ops listed = [i]) && lexMix ops r (f - 1) (listed.setIfInBounds i true)
  | .fork i r j s, f, listed => decide (0 < f) && decide (Region.ready .any ops listed = [i, j]) && (lexMix ops r (f - 1) (listed.setIfInBounds i true) && lexMix ops s (f - 1) (listed.setIfInBounds j true))
def mixOk (ops : Array Oper) (ord : Mix) : Bool := Region.noSelect ops && lexMix ops ord ops.size (Array.replicate ops.size false)

section
variable {P : Program} {ops : Array Oper} {Q : Exit → Act → World → Prop} {S : World → Prop}

/-- The walk in an order of one's own. -/
def wpMix (P : Program) (ops : Array Oper) (Q : Exit → Act → World → Prop) (S : World → Prop) : Mix → Act → World → Prop
  | .nil, a, w => Q .normal a w
  | .take i r, a, w => ∃ o v, ops[i]? = some o ∧ YieldsIf P ops S o v a ∧ wpMix P ops Q S r (a.put o.dst v) w
  | .bar i r, a, w => wpOp P ops Q i (fun a' w' => S w' ∧ wpMix P ops Q S r a' w') a w
  | .fork i r j s, a, w => wpOp P ops Q i (fun a' w' => S w' ∧ wpMix P ops Q S r a' w') a w ∧ wpOp P ops Q j (fun a' w' => S w' ∧ wpMix P ops Q S s a' w') a w

theorem wpAnyH_mix (hsel : Region.noSelect ops = true) (hQ : ∀ c a a' w, Q (.panic c) a w → Q (.panic c) a' w) : ∀ (ord : Mix) (f : Nat) (listed : Array Bool) (a : Act) (w : World),
    lexMix ops ord f listed = true → S w → wpMix P ops Q S ord a w → wpAnyH P .any ops Q S f listed a w
  | .nil, f, _, _, _, hB, _, h => wpAnyH_done (by simpa [lexMix] using hB) h f
  | .take i r, f, listed, a, w, hB, hS, h => by
    simp only [lexMix, Bool.and_eq_true, decide_eq_true_eq] at hB
    obtain ⟨f, rfl⟩ : ∃ g, f = g + 1 := ⟨f - 1, by omega⟩
    obtain ⟨o, v, h0, hy, hK⟩ := h
    exact wpAnyH_take h0 hsel hB.1.2.2 hB.1.2.1 (fun c a' w' hq => hQ c _ _ w' hq) hy hS (wpAnyH_mix hsel hQ r _ _ _ w hB.2 hS hK)
  | .bar i r, f, listed, a, w, hB, hS, h => by
    simp only [lexMix, Bool.and_eq_true, decide_eq_true_eq] at hB
    obtain ⟨f, rfl⟩ : ∃ g, f = g + 1 := ⟨f - 1, by omega⟩
    refine wpAnyH_all (rs := [i]) hB.1.2 (by simp) (fun j hj => ?_)
    have : j = i := by simpa using hj
    subst this
    exact wpOp_mono (fun a' w' hh => ⟨hh.1, wpAnyH_mix hsel hQ r _ _ a' w' hB.2 hh.1 hh.2⟩) h
  | .fork i r j s, f, listed, a, w, hB, hS, h => by
    simp only [lexMix, Bool.and_eq_true, decide_eq_true_eq] at hB
    obtain ⟨f, rfl⟩ : ∃ g, f = g + 1 := ⟨f - 1, by omega⟩
    refine wpAnyH_all (rs := [i, j]) hB.1.2 (by simp) (fun k hk => ?_)
    rcases List.mem_cons.1 hk with rfl | hk
    · exact wpOp_mono (fun a' w' hh => ⟨hh.1, wpAnyH_mix hsel hQ r _ _ a' w' hB.2.1 hh.1 hh.2⟩) h.1
    · have : k = j := by simpa using hk
      subst this
      exact wpOp_mono (fun a' w' hh => ⟨hh.1, wpAnyH_mix hsel hQ s _ _ a' w' hB.2.2 hh.1 hh.2⟩) h.2

theorem wp_region_mix {id : Nat} {Q' : Exit → Act → World → Prop} {a : Act} {w : World} {l : List Oper} (ord : Mix) (S : World → Prop) (hm : P.follows .mixedOrders = true) (hB : mixOk l.toArray ord = true) (hS : S w.drew)
    (h : S w.drew → wpMix P l.toArray (NoPanic Q') S ord a w.drew) : (Code.region id l.toArray true).wp P Q' a w := by
  simp only [mixOk, Bool.and_eq_true] at hB
  exact wp_region_noPanic (wp_region_held_drew hm hS (fun hS => wpAnyH_mix (Q := NoPanic Q') (S := S) hB.1 (fun c a a' w hq => (hq : False).elim) ord _ (Array.replicate l.toArray.size false) a w.drew hB.2 hS (h hS)))

theorem mix_at {i : Nat} {o : Oper} {tl : List Oper} (h : ops.toList.drop i = o :: tl) : ops[i]? = some o := by
  rw [← Array.getElem?_toList, ← Nat.add_zero i, ← List.getElem?_drop, h]; rfl

theorem wpMix_take {i : Nat} {o : Oper} {tl : List Oper} {r : Mix} {a : Act} {w : World} {v : Value} (ho : ops.toList.drop i = o :: tl) (hw : Region.wanted o (yielded ops a.tmps) = true) (hy : ∀ w', S w' → (execOp a.eval o).run P w' = .ok (.value v) w')
    (h : wpMix P ops Q S r (a.put o.dst v) w) : wpMix P ops Q S (.take i r) a w := ⟨o, v, mix_at ho, .inl ⟨hw, hy⟩, h⟩
theorem wpMix_skip {i : Nat} {o : Oper} {tl : List Oper} {r : Mix} {a : Act} {w : World} (ho : ops.toList.drop i = o :: tl) (hw : Region.wanted o (yielded ops a.tmps) = false)
    (h : wpMix P ops Q S r (a.put o.dst undef) w) : wpMix P ops Q S (.take i r) a w := ⟨o, undef, mix_at ho, .inr ⟨hw, rfl⟩, h⟩
theorem wpMix_bar {i : Nat} {o : Oper} {tl : List Oper} {r : Mix} {a : Act} {w : World} (ho : ops.toList.drop i = o :: tl)
    (h : ∀ K : Act → World → Prop, Shut (∀ a w, S w → (S w → wpMix P ops Q S r a w) → K a w) → if Region.wanted o (yielded ops a.tmps) = true then Oper.wp P o a w K Q else K (a.put o.dst undef) w) : wpMix P ops Q S (.bar i r) a w :=
  wpOp_step (mix_at ho) (fun K' hK => h K' (fun a w hS hW => hK a w ⟨hS, hW hS⟩))
theorem wpMix_fork {i j : Nat} {o o' : Oper} {tl tl' : List Oper} {r s : Mix} {a : Act} {w : World} (ho : ops.toList.drop i = o :: tl) (ho' : ops.toList.drop j = o' :: tl')
    (h : ∀ K : Act → World → Prop, Shut (∀ a w, S w → (S w → wpMix P ops Q S r a w) → K a w) → if Region.wanted o (yielded ops a.tmps) = true then Oper.wp P o a w K Q else K (a.put o.dst undef) w)
    (h' : ∀ K : Act → World → Prop, Shut (∀ a w, S w → (S w → wpMix P ops Q S s a w) → K a w) → if Region.wanted o' (yielded ops a.tmps) = true then Oper.wp P o' a w K Q else K (a.put o'.dst undef) w) : wpMix P ops Q S (.fork i r j s) a w :=
  ⟨wpOp_step (mix_at ho) (fun K' hK => h K' (fun a w hS hW => hK a w ⟨hS, hW hS⟩)), wpOp_step (mix_at ho') (fun K' hK => h' K' (fun a w hS hW => hK a w ⟨hS, hW hS⟩))⟩
theorem wpMix_nil {Q' : Exit → Act → World → Prop} {a : Act} {w : World} (h : Q' .normal a w) : wpMix P ops (NoPanic Q') S .nil a w := h
end
end Go.Proofs.YtjjnbbkdjimcoaaGreat

namespace Go.Proofs.YtjjnbbkdjimcoaaGreat
open Go.RowKit
attribute [local go_sem ↓] Go.wp_at_zero Go.wp_at_succ

/-- A further task can come. -/
def comeOk (room : List Int) (bs : List (List Tk)) (t : Tk) : Bool := binsOk room bs && tasksOk room (bs.flatten ++ [t])

theorem TkCells.single {w : World} {B : Nat} {A : Option Addr} {n c : Nat} {id : Int} {xs : List Int} (h : RdI w B A n xs) (hc : n ≤ c) : TkCells w B [.int .i64 id, .slice A n c] [(id, xs)] :=
  ⟨rfl, fun j hj => by obtain rfl : j = 0 := by simp at hj; omega
                       exact ⟨A, n, c, rfl, rfl, hc, h⟩⟩
/-- A boxed task stays. -/
theorem box_keep (w : World) (v0 v1 : Value) {w' : World} (hb : Below (w.heap.size + 1) (w.alloc (.cells #[v0, v1] 43)) w') : w'.cell? ⟨w.heap.size, 0, none⟩ = some v0 ∧ w'.cell? ⟨w.heap.size, 1, none⟩ = some v1 := by
  constructor
  · rw [hb.cell (by simp)]; exact (Blk.new w _ _).cell 0
  · rw [hb.cell (by simp)]; exact (Blk.new w _ _).cell 1


set_option maxRecDepth 100000 in
set_option maxHeartbeats 1600000 in
theorem hasRoom_any (A1 A2 A3 : Option Addr) (n1 c1 n2 c2 c3 : Nat) (room : List Int) (ts : List Tk) (id : Int) (xs : List Int) (w : World) (h1 : RdI w w.heap.size A1 n1 room) (h2 : RdT w w.heap.size A2 n2 ts) (h3 : RdI w w.heap.size A3 3 xs)
    (hn1 : 3 ≤ n1) (hn2 : n2 ≤ 900) (hl : ∀ j, j < n2 → (ts[j]?.getD (0, [])).2.length = 3) (hb : ∀ j i : Nat, 0 ≤ (ts[j]?.getD (0, [])).2[i]?.getD 0 ∧ (ts[j]?.getD (0, [])).2[i]?.getD 0 ≤ 1000)
    (hx : ∀ j, j < 3 → -1000000 ≤ xs[j]?.getD 0 ∧ xs[j]?.getD 0 ≤ 1000000) :
    Calls Tryz.prog 133 #[.slice A1 n1 c1, .slice A2 n2 c2, .agg #[.int .i64 id, .slice A3 3 c3]] w fun e w' => e = .returned (.bool (fits3 (add3 (loadP ts) xs) room)) ∧ Below w.heap.size w w' := by
  have HL := qh (show ∀ i, i < 3 → -1000000 ≤ (loadP ts)[i]?.getD 0 ∧ (loadP ts)[i]?.getD 0 ≤ 1000000 from fun i hi => by
    have := loadP_bd hb (k := ts.length) (Nat.le_refl _) i hi
    rw [List.take_length] at this
    have := h2.len
    omega)
  have H1 := qh h1
  have H2 := qh h2
  have H3 := qh h3
  have Hl := qh hl
  have Hb := qh hb
  have Hx := qh hx
  clear h1 h2 h3 hl hb hx
  have B0 := qh (new_up w (.cells #[.int .i64 id, .slice A3 3 c3] 43))
  have hk := qh (fun w' => box_keep w (.int .i64 id) (.slice A3 3 c3) (w' := w'))
  have sz : (w.alloc (.cells #[.int .i64 id, .slice A3 3 c3] 43)).heap.size = w.heap.size + 1 := World.size_alloc _ _
  go_enter Tryz.func133, Tryz.ntmps133
  go_wp2_with fail
  generalize hW : w.alloc (.cells #[.int .i64 id, .slice A3 3 c3] 43) = W at hk B0 sz ⊢
  rw [← sz] at hk
  have K0 := (hk.out W.drew (Below.refl _ _).drew).2
  clear hW sz
  refine wp_region_mix (.take 0 (.take 2 (.take 3 (.take 5 (.bar 1 (.bar 4 (.bar 6 (.take 7 .nil)))))))) (fun w' => w'.cell? ⟨w.heap.size, 1, none⟩ = some (.slice A3 3 c3)) (by kernel_rfl) (by kernel_rfl) K0 (fun _ => ?_)
  clear K0
  repeat ((first | refine wpMix_skip (by rfl) (by rfl) ?_ | (refine wpMix_take (v := ?_) (by rfl) (by rfl) (fun wS hSt => ?_) ?_; rotate_left; (focus ((try dsimp only at hSt); (go_simp <;> with_reducible rfl); done)))); (try simp only [Act.put, pS, pZ, pC]))
  (refine wpMix_bar (by rfl) (fun K hK => ?_); go_simp)
  refine (loadOf_any A2 n2 c2 ts W.drew (H2.out.up B0.out.drew) hn2 Hl.out Hb.out).mono ?_; rintro e w1 ⟨A4, c4, rfl, hr1, hb1⟩
  have HQ1 := qh (show Below W.heap.size W w1 from below_to (Below.refl _ _).drew hb1)
  have HB1 := qh (below_to B0.out.drew hb1)
  have HR1 := qh hr1
  clear hb1 hr1
  ((try dsimp only); refine nxK hK _ _ ((hk.out w1 HQ1.out).2) ?_; clear hK K; (try simp only [Act.put, pS, pZ, pC]))
  (refine wpMix_bar (by rfl) (fun K hK => ?_); go_simp)
  refine (plus_any A4 A3 3 c4 3 c3 _ _ w1 HR1.out (H3.out.up HB1.out) (Nat.le_refl _) (Nat.le_refl _) HL.out Hx.out).mono ?_; rintro e w2 ⟨A5, c5, rfl, hr2, hb2⟩
  have HQ2 := qh (below_to HQ1.out hb2)
  have HB2 := qh (below_to HB1.out hb2)
  have HR2 := qh hr2
  clear hb2 hr2
  ((try dsimp only); refine nxK hK _ _ ((hk.out w2 HQ2.out).2) ?_; clear hK K; (try simp only [Act.put, pS, pZ, pC]))
  (refine wpMix_bar (by rfl) (fun K hK => ?_); go_simp)
  refine (fits_any A5 A1 c5 n1 c1 _ _ _ _ w2 HR2.out (H1.out.below HB2.out) hn1).mono ?_; rintro e w3 ⟨rfl, rfl⟩
  ((try dsimp only); refine nxK hK _ _ ((hk.out _ HQ2.out).2) ?_; clear hK K; (try simp only [Act.put, pS, pZ, pC]))
  repeat ((first | refine wpMix_skip (by rfl) (by rfl) ?_ | (refine wpMix_take (v := ?_) (by rfl) (by rfl) (fun wS hSt => ?_) ?_; rotate_left; (focus ((try dsimp only at hSt); (go_simp <;> with_reducible rfl); done)))); (try simp only [Act.put, pS, pZ, pC]))
  refine wpMix_nil ?_
  go_wp2
  go_ret
  exact ⟨rfl, HB2.out⟩

theorem RdB.one {w : World} {g m c : Nat} {t : TypeId} {A : Option Addr} {ts : List Tk} (h : Blk w g t #[.slice A m c]) (hc : m ≤ c) (hr : RdT w w.heap.size A m ts) : RdB w w.heap.size (some ⟨g, 0, none⟩) 1 [ts] :=
  ⟨rfl, by omega, fun _ => ⟨g, 0, rfl, h.lt, fun j hj => by
    obtain rfl : j = 0 := by omega
    exact ⟨A, m, c, h.cell 0, hc, hr⟩⟩⟩

end Go.Proofs.YtjjnbbkdjimcoaaGreat
