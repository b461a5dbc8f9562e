/- Walks: the reader of a code: l6Open, pick. -/
import Derived.Test.YtfkobleefhpggaaDoorLawKit
import Derived.Test.YtfkobleefhpggaaDoorZoneLaw
import Derived.Laws.BitsAllLaws
import Derived.Laws.BitsLemmas
namespace Go.Proofs.YtfkobleefhpggaaDoor
open Go.RowKit

/-- Bytes that can be read, below block B. -/
def RdU (w : World) (B : Nat) (A : Option Addr) (n : Nat) : Prop :=
  0 < n → ∃ b o, A = some ⟨b, o, none⟩ ∧ b < B ∧ ∀ j, j < n → ∃ u : Int, 0 ≤ u ∧ u ≤ 255 ∧ w.cell? ⟨b, o + j, none⟩ = some (.int .u8 u)
/-- The reader in block g, which has drawn p numbers. -/
def Rdr (w : World) (g p : Nat) : Prop := ∃ A n c, Blk w g 100 #[.slice A n c, .int .i64 (p : Int)] ∧ n ≤ 2000 ∧ RdU w g A n
/-- Of what was there nothing but block g has turned. -/
structure OnlyG (w w' : World) (g : Nat) : Prop where
  os : w'.os = w.os
  tape : w'.tape = w.tape
  output : w'.output = w.output
  size : w.heap.size ≤ w'.heap.size
  block : ∀ b, b < w.heap.size → b ≠ g → w'.heap[b]? = w.heap[b]?
section
variable {w w' w'' : World} {g : Nat}
theorem OnlyG.refl (w : World) (g : Nat) : OnlyG w w g := ⟨rfl, rfl, rfl, Nat.le_refl _, fun _ _ _ => rfl⟩
theorem OnlyG.trans (h : OnlyG w w' g) (k : OnlyG w' w'' g) : OnlyG w w'' g :=
  ⟨k.os.trans h.os, k.tape.trans h.tape, k.output.trans h.output, Nat.le_trans h.size k.size, fun b h1 h2 => (k.block b (Nat.lt_of_lt_of_le h1 h.size) h2).trans (h.block b h1 h2)⟩
theorem OnlyG.alloc (h : OnlyG w w' g) (o : Obj) : OnlyG w (w'.alloc o) g := h.trans ⟨rfl, rfl, rfl, by simp, fun b hb _ => Below.heap_alloc _ _ _ hb⟩
theorem OnlyG.drew (h : OnlyG w w' g) : OnlyG w w'.drew g := ⟨h.os, h.tape, h.output, h.size, h.block⟩
theorem OnlyG.drewN (h : OnlyG w w' g) (n : Nat) : OnlyG w (w'.drewN n) g := ⟨h.os, h.tape, h.output, h.size, h.block⟩
theorem OnlyG.set_g (h : OnlyG w w' g) (i : Nat) (u : Value) : OnlyG w (w'.setCell ⟨g, i, none⟩ u) g := h.trans ⟨rfl, rfl, rfl, by simp [World.setCell], fun b _ hne => Below.heap_setCell _ _ _ _ hne⟩
theorem OnlyG.set_new (h : OnlyG w w' g) {p : Addr} (hp : w.heap.size ≤ p.block) (u : Value) : OnlyG w (w'.setCell p u) g :=
  ⟨h.os, h.tape, h.output, by simpa [World.setCell] using h.size, fun b hb hne => (Below.heap_setCell _ _ _ _ (by omega)).trans (h.block b hb hne)⟩
theorem OnlyG.below (h : OnlyG w w' g) (k : Below w'.heap.size w' w'') : OnlyG w w'' g := h.trans ⟨k.os, k.tape, k.output, k.size, fun b hb _ => k.block b hb⟩
theorem OnlyG.grown (h : OnlyG w w' g) {row : Option Nat} (k : w'.grownBy w'' row) (hr : ∀ r, row = some r → w.heap.size ≤ r) : OnlyG w w'' g :=
  ⟨k.os.trans h.os, k.tape.trans h.tape, k.output.trans h.output, Nat.le_trans h.size k.size, fun b hb hne => (k.block b (Nat.lt_of_lt_of_le hb h.size) (fun e => by have := hr b e.symm; omega)).trans (h.block b hb hne)⟩
theorem OnlyG.blk (h : OnlyG w w' g) {b : Nat} {t : TypeId} {cs : Array Value} (hb : Blk w b t cs) (hne : b ≠ g) : Blk w' b t cs := (h.block b hb.lt hne).trans hb
theorem OnlyG.to_below {w0 : World} (hb : Below w0.heap.size w0 w) (h : OnlyG w w' g) (hg : w0.heap.size ≤ g) : Below w0.heap.size w0 w' :=
  hb.trans ⟨h.os, h.tape, h.output, h.size, fun k hk => h.block k (by have := hb.size; omega) (by omega)⟩
theorem RdU.keep {B n : Nat} {A : Option Addr} (h : RdU w B A n) (hk : ∀ p : Addr, p.block < B → w'.cell? p = w.cell? p) : RdU w' B A n := fun hn => by
  obtain ⟨b, o, e, hb, hc⟩ := h hn
  refine ⟨b, o, e, hb, fun j hj => ?_⟩
  obtain ⟨u, h1, h2, h3⟩ := hc j hj
  exact ⟨u, h1, h2, (hk ⟨b, o + j, none⟩ hb).trans h3⟩
theorem Rdr.lt {p : Nat} (h : Rdr w g p) : g < w.heap.size := by obtain ⟨_, _, _, h, _⟩ := h; exact h.lt
/-- A step that leaves the reader alone. -/
theorem Rdr.keep {p : Nat} (h : Rdr w g p) (hk : ∀ b, b ≤ g → w'.heap[b]? = w.heap[b]?) : Rdr w' g p := by
  obtain ⟨A, n, c, h1, h2, h3⟩ := h
  exact ⟨A, n, c, (hk g (Nat.le_refl _)).trans h1, h2, h3.keep (fun p hp => World.cell?_of_block (hk p.block (by omega)))⟩
theorem Rdr.below {p : Nat} (h : Rdr w g p) (hb : Below w.heap.size w w') : Rdr w' g p := h.keep (fun b hle => hb.block b (by have := h.lt; omega))
end


theorem of_i64 (n : Nat) (h : n < 9223372036854775808) : (BitVec.ofInt 64 (n : Int)).toNat = n := by
  rw [BitVec.ofInt_natCast, BitVec.toNat_ofNat]
  exact Nat.mod_eq_of_lt (by omega)
theorem xor64 (a b : Nat) (ha : a < 9223372036854775808) (hb : b < 9223372036854775808) : bits .xor .i64 (a : Int) (b : Int) = ((a ^^^ b : Nat) : Int) := by
  have hx : a ^^^ b < 2 ^ 63 := Nat.xor_lt_two_pow (by omega) (by omega)
  show IntKind.i64.wrap (((BitVec.ofInt 64 (a : Int) ^^^ BitVec.ofInt 64 (b : Int)).toNat : Nat) : Int) = _
  rw [BitVec.toNat_xor, of_i64 a ha, of_i64 b hb]
  exact wr64 (by omega) (by omega)
/-- The reader's mixing keeps to the numbers from 0. -/
theorem mixed (X : Int) (h0 : 0 ≤ X) (h1 : X ≤ 9223372036854775807) : ∃ Y : Int, bits .xor .i64 X (X / 64) = Y ∧ 0 ≤ Y ∧ Y ≤ 9223372036854775807 := by
  obtain ⟨x, rfl⟩ := Int.eq_ofNat_of_zero_le h0
  have e : ((x : Nat) : Int) / 64 = ((x / 64 : Nat) : Int) := by omega
  have hx : x ^^^ x / 64 < 2 ^ 63 := Nat.xor_lt_two_pow (by omega) (by omega)
  refine ⟨((x ^^^ x / 64 : Nat) : Int), ?_, by omega, by omega⟩
  rw [e]
  exact xor64 _ _ (by omega) (by omega)

set_option maxHeartbeats 400000 in
theorem l6Open_any (A : Option Addr) (n c : Nat) (w : World) (h : RdU w w.heap.size A n) (hc : n ≤ c) (hcm : c ≤ 9223372036854775807) :
    Calls Tryd.prog 33 #[.slice A n c] w fun e w' => e = .returned (.pointer (some ⟨w.heap.size, 0, none⟩)) ∧ Rdr w' w.heap.size 0 ∧ Below w.heap.size w w' := by
  have hal : ∀ o : Obj, Below w.heap.size w (w.alloc o) := fun o => (Below.refl _ _).alloc (Nat.le_refl _) _
  have Hal := Lib.hid hal
  have H := Lib.hid h
  clear hal h
  by_cases h2 : 2000 < n
  · go_enter Tryd.func33, Tryd.ntmps33
    go_wp2
    go_ret
    refine ⟨rfl, ⟨A, 2000, c, Blk.new w _ _, Nat.le_refl _, ?_⟩, Hal.out _⟩
    exact RdU.keep (w := w) (fun _ => by obtain ⟨b, o, e, hb, hh⟩ := H.out (by omega); exact ⟨b, o, e, hb, fun j hj => hh j (by omega)⟩) (fun p hp => (Hal.out _).cell hp)
  · go_enter Tryd.func33, Tryd.ntmps33
    go_wp2
    go_ret
    exact ⟨rfl, ⟨A, n, c, Blk.new w _ _, by omega, H.out.keep (fun p hp => (Hal.out _).cell hp)⟩, Hal.out _⟩

set_option maxRecDepth 100000 in
set_option maxHeartbeats 3200000 in
theorem pick_any (g p n : Nat) (w : World) (h : Rdr w g p) (hp : p ≤ 1000000) (hn : 1 ≤ n) (hn2 : n ≤ 1000) :
    Calls Tryd.prog 56 #[.pointer (some ⟨g, 0, none⟩), .int .i64 (n : Int)] w fun e w' => ∃ r : Nat, e = .returned (.int .i64 (r : Int)) ∧ r < n ∧ Rdr w' g (p + 1) ∧ OnlyG w w' g := by
  obtain ⟨A, m, c, hb, hm, hu⟩ := h
  have h0 : w.cell? ⟨g, 0, none⟩ = some (.slice A m c) := by rw [hb.cell]; rfl
  have h1 : w.cell? ⟨g, 1, none⟩ = some (.int .i64 (p : Int)) := by rw [hb.cell]; rfl
  have f1 : w.frozen? ⟨g, 1, none⟩ = false := hb.frozen _
  have hgn := hb.lt
  have Hb := Lib.hid hb
  have Hu := Lib.hid hu
  clear hb hu
  have fin : ∀ k, Rdr ((w.setCell ⟨g, 1, none⟩ (.int .i64 ((p : Int) + 1))).drewN k) g (p + 1) ∧ OnlyG w ((w.setCell ⟨g, 1, none⟩ (.int .i64 ((p : Int) + 1))).drewN k) g := by
    intro k
    refine ⟨⟨A, m, c, (Hb.out.set_ 1 _).drewN k, hm, Hu.out.keep (fun q hq => World.cell?_of_block (Below.heap_setCell w _ _ _ (by simp; omega)))⟩, ((OnlyG.refl w g).set_g 1 _).drewN k⟩
  have Fin := Lib.hid fin
  clear fin
  by_cases hm0 : m = 0
  · subst hm0
    go_enter Tryd.func56, Tryd.ntmps56
    go_wp2
    go_ret
    exact ⟨0, rfl, by omega, (Fin.out 0).1, (Fin.out 0).2⟩
  · have em : ((m : Int) == 0) = false := by simp; omega
    by_cases hlt : p < m
    · obtain ⟨b, o, rfl, hbg, hcell⟩ := Hu.out (by omega)
      obtain ⟨u, u0, u1, hcu⟩ := hcell p hlt
      have hne : b ≠ g := by omega
      have hcu' : (w.setCell ⟨g, 1, none⟩ (.int .i64 ((p : Int) + 1))).cell? ⟨b, o + p, none⟩ = some (.int .u8 u) := by rw [World.cell?_setCell_other _ _ _ _ (by simp)]; exact hcu
      clear hcell hcu
      go_enter Tryd.func56, Tryd.ntmps56
      go_wp2
      go_ret
      have e0 : 0 ≤ u % (n : Int) := Int.emod_nonneg _ (by omega)
      have e1 : u % (n : Int) < n := Int.emod_lt_of_pos _ (by omega)
      exact ⟨(u % (n : Int)).toNat, ret_int (Int.toNat_of_nonneg e0).symm, by omega, (Fin.out 0).1, (Fin.out 0).2⟩
    · obtain ⟨b, o, rfl, hbg, hcell⟩ := Hu.out (by omega)
      obtain ⟨u, u0, u1, hcu⟩ := hcell (p % m) (Nat.mod_lt _ (by omega))
      obtain ⟨v, v0, v1, hcv⟩ := hcell ((p * 7 + 3) % m) (Nat.mod_lt _ (by omega))
      have hne : b ≠ g := by omega
      have hcu' : (w.setCell ⟨g, 1, none⟩ (.int .i64 ((p : Int) + 1))).cell? ⟨b, o + p % m, none⟩ = some (.int .u8 u) := by rw [World.cell?_setCell_other _ _ _ _ (by simp)]; exact hcu
      have hcv' : (w.setCell ⟨g, 1, none⟩ (.int .i64 ((p : Int) + 1))).cell? ⟨b, o + (p * 7 + 3) % m, none⟩ = some (.int .u8 v) := by rw [World.cell?_setCell_other _ _ _ _ (by simp)]; exact hcv
      have hg0 : (w.setCell ⟨g, 1, none⟩ (.int .i64 ((p : Int) + 1))).cell? ⟨g, 0, none⟩ = some (.slice (some ⟨b, o, none⟩) m c) := by rw [World.cell?_setCell_other _ _ _ _ (by simp)]; exact h0
      have hg1 : (w.setCell ⟨g, 1, none⟩ (.int .i64 ((p : Int) + 1))).cell? ⟨g, 1, none⟩ = some (.int .i64 ((p : Int) + 1)) := by rw [(Hb.out.set_ 1 _).cell]; rfl
      generalize hW : w.setCell ⟨g, 1, none⟩ (.int .i64 ((p : Int) + 1)) = W at hcu' hcv' hg0 hg1
      have HW := Lib.hid hW
      clear hcell hcu hcv
      have lt1 : p % m < m := Nat.mod_lt _ (by omega)
      have lt2 : (p * 7 + 3) % m < m := Nat.mod_lt _ (by omega)
      have hm1 : (1 : Int) ≤ m := by omega
      have a1 : (p : Int).tmod m = (p : Int) % m := IntWalk.rem_in _ _ (by omega)
      have a2 : 0 ≤ (p : Int) % m := Int.emod_nonneg _ (by omega)
      have a3 : (p : Int) % m < m := Int.emod_lt_of_pos _ (by omega)
      have a4 : ((p : Int) % m).toNat = p % m := by rw [← Int.natCast_emod]; rfl
      have c1 : IntKind.i64.wrap ((p : Int) * 7) = (p : Int) * 7 := wr64 (by omega) (by omega)
      have c2 : IntKind.i64.wrap ((p : Int) * 7 + 3) = (p : Int) * 7 + 3 := wr64 (by omega) (by omega)
      have d1 : ((p : Int) * 7 + 3).tmod m = ((p : Int) * 7 + 3) % m := IntWalk.rem_in _ _ (by omega)
      have d2 : 0 ≤ ((p : Int) * 7 + 3) % m := Int.emod_nonneg _ (by omega)
      have d3 : ((p : Int) * 7 + 3) % m < m := Int.emod_lt_of_pos _ (by omega)
      have d4 : (((p : Int) * 7 + 3) % m).toNat = (p * 7 + 3) % m := by
        have : (p : Int) * 7 + 3 = ((p * 7 + 3 : Nat) : Int) := by omega
        rw [this, ← Int.natCast_emod]; rfl
      have i1 : IntKind.i64.wrap u = u := wr64 (by omega) (by omega)
      have i2 : IntKind.i64.wrap v = v := wr64 (by omega) (by omega)
      have i3 : IntKind.i64.wrap (u * 131) = u * 131 := wr64 (by omega) (by omega)
      have i4 : IntKind.i64.wrap (v * 1117) = v * 1117 := wr64 (by omega) (by omega)
      have i5 : IntKind.i64.wrap (u * 131 + v * 1117) = u * 131 + v * 1117 := wr64 (by omega) (by omega)
      have i6 : IntKind.i64.wrap ((p : Int) * 29) = (p : Int) * 29 := wr64 (by omega) (by omega)
      have i7 : IntKind.i64.wrap (u * 131 + v * 1117 + (p : Int) * 29) = u * 131 + v * 1117 + (p : Int) * 29 := wr64 (by omega) (by omega)
      have j0 : 0 ≤ (p : Int) / m := (IntWalk.tdiv_le _ _ (by omega) hm1).1
      have j1 : (p : Int) / m ≤ p := (IntWalk.tdiv_le _ _ (by omega) hm1).2
      have j2 : IntKind.i64.wrap ((p : Int).tdiv m) = (p : Int) / m := IntWalk.i64_quo _ _ ⟨by omega, by omega, hm1⟩
      have j3 : IntKind.i64.wrap ((p : Int) / m * 53) = (p : Int) / m * 53 := wr64 (by omega) (by omega)
      have j4 : IntKind.i64.wrap (u * 131 + v * 1117 + (p : Int) * 29 + (p : Int) / m * 53) = u * 131 + v * 1117 + (p : Int) * 29 + (p : Int) / m * 53 := wr64 (by omega) (by omega)
      have hmz : (m : Int) ≠ 0 := by omega
      go_enter Tryd.func56, Tryd.ntmps56
      go_wp2
      clear hW h0 h1 f1
      go_quiet (fail)
      have x0 : 0 ≤ u * 131 + v * 1117 + (p : Int) * 29 + (p : Int) / m * 53 := by omega
      have x1 : u * 131 + v * 1117 + (p : Int) * 29 + (p : Int) / m * 53 ≤ 1000000000 := by omega
      clear j4 i7 a1 a2 a3 a4 c1 c2 d1 d2 d3 d4 i1 i2 i3 i4 i5 i6 j0 j1 j2 j3
      generalize u * 131 + v * 1117 + (p : Int) * 29 + (p : Int) / m * 53 = X at x0 x1 ⊢
      obtain ⟨Y, y1, y2, y3⟩ := mixed X x0 (by omega)
      have x2 : IntKind.i64.wrap (X.tdiv 64) = X / 64 := IntWalk.i64_quo _ _ ⟨by omega, by omega, by omega⟩
      have y4 : Y.tmod n = Y % n := IntWalk.rem_in _ _ y2
      have hnz : (n : Int) ≠ 0 := by omega
      have e0 : 0 ≤ Y % (n : Int) := Int.emod_nonneg _ (by omega)
      have e1 : Y % (n : Int) < n := Int.emod_lt_of_pos _ (by omega)
      go_wp2
      go_ret
      obtain rfl := HW.out
      exact ⟨(Y % (n : Int)).toNat, ret_int (Int.toNat_of_nonneg e0).symm, by omega, (Fin.out _).1, (Fin.out _).2⟩
end Go.Proofs.YtfkobleefhpggaaDoor
