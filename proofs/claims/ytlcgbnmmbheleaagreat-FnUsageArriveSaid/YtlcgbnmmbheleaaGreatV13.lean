/- Several texts in one. -/
import Derived.Test.YtlcgbnmmbheleaaGreatV12
import Derived.Laws.BitsAllLaws
import Derived.Laws.BitsLemmas
namespace Go.Proofs.YtlcgbnmmbheleaaGreat
open Go.RowKit

structure R4 (w : World) (A1 A2 A3 A4 : Option Addr) (n1 n2 n3 n4 : Nat) (room : List Int) (bs : List (List Tk)) (zones ids : List Int) : Prop where
  a : RdI w w.heap.size A1 n1 room
  b : RdB w w.heap.size A2 n2 bs
  c : RdI w w.heap.size A3 n3 zones
  d : RdI w w.heap.size A4 n4 ids
theorem R4.up {w w' : World} {A1 A2 A3 A4 : Option Addr} {n1 n2 n3 n4 : Nat} {room : List Int} {bs : List (List Tk)} {zones ids : List Int} (h : R4 w A1 A2 A3 A4 n1 n2 n3 n4 room bs zones ids) (hb : Below w.heap.size w w') : R4 w' A1 A2 A3 A4 n1 n2 n3 n4 room bs zones ids :=
  ⟨h.a.up hb, h.b.up hb, h.c.up hb, h.d.up hb⟩
theorem below_to {w a b : World} (h : Below w.heap.size w a) (k : Below a.heap.size a b) : Below w.heap.size w b := h.trans (k.mono h.size)
theorem drew_below (w : World) (m : Nat) : Below w.heap.size w (w.drewN m) := below_drewN (Below.refl _ _) m

end Go.Proofs.YtlcgbnmmbheleaaGreat

namespace Go.Proofs.YtlcgbnmmbheleaaGreat
open Go.RowKit

def RdU (w : World) (B : Nat) (A : Option Addr) (n : Nat) : Prop :=
  0 < n → ∃ b o, A = some ⟨b, o, none⟩ ∧ b < B ∧ ∀ j, j < n → ∃ u : Int, 0 ≤ u ∧ u ≤ 255 ∧ w.cell? ⟨b, o + j, none⟩ = some (.int .u8 u)
def Rdr (w : World) (g p : Nat) : Prop := ∃ A n c, Blk w g 65 #[.slice A n c, .int .i64 (p : Int)] ∧ n ≤ 2000 ∧ RdU w g A n
structure OnlyG (w w' : World) (g : Nat) : Prop where
  os : w'.os = w.os
  tape : w'.tape = w.tape
  output : w'.output = w.output
  size : w.heap.size ≤ w'.heap.size
  block : ∀ b, b < w.heap.size → b ≠ g → w'.heap[b]? = w.heap[b]?
section
variable {w w' w'' : World} {g : Nat}
theorem OnlyG.refl (w : World) (g : Nat) : OnlyG w w g := ⟨rfl, rfl, rfl, Nat.le_refl _, fun _ _ _ => rfl⟩
theorem OnlyG.trans (h : OnlyG w w' g) (k : OnlyG w' w'' g) : OnlyG w w'' g :=
  ⟨k.os.trans h.os, k.tape.trans h.tape, k.output.trans h.output, Nat.le_trans h.size k.size, fun b h1 h2 => (k.block b (Nat.lt_of_lt_of_le h1 h.size) h2).trans (h.block b h1 h2)⟩
theorem OnlyG.alloc (h : OnlyG w w' g) (o : Obj) : OnlyG w (w'.alloc o) g := h.trans ⟨rfl, rfl, rfl, by simp, fun b hb _ => Below.heap_alloc _ _ _ hb⟩
theorem OnlyG.drew (h : OnlyG w w' g) : OnlyG w w'.drew g := ⟨h.os, h.tape, h.output, h.size, h.block⟩
theorem OnlyG.drewN (h : OnlyG w w' g) (n : Nat) : OnlyG w (w'.drewN n) g := ⟨h.os, h.tape, h.output, h.size, h.block⟩
theorem OnlyG.set_g (h : OnlyG w w' g) (i : Nat) (u : Value) : OnlyG w (w'.setCell ⟨g, i, none⟩ u) g := h.trans ⟨rfl, rfl, rfl, by simp [World.setCell], fun b _ hne => Below.heap_setCell _ _ _ _ hne⟩
theorem OnlyG.set_new (h : OnlyG w w' g) {p : Addr} (hp : w.heap.size ≤ p.block) (u : Value) : OnlyG w (w'.setCell p u) g :=
  ⟨h.os, h.tape, h.output, by simpa [World.setCell] using h.size, fun b hb hne => (Below.heap_setCell _ _ _ _ (by omega)).trans (h.block b hb hne)⟩
theorem OnlyG.below (h : OnlyG w w' g) (k : Below w'.heap.size w' w'') : OnlyG w w'' g := h.trans ⟨k.os, k.tape, k.output, k.size, fun b hb _ => k.block b hb⟩
theorem OnlyG.grown (h : OnlyG w w' g) {row : Option Nat} (k : w'.grownBy w'' row) (hr : ∀ r, row = some r → w.heap.size ≤ r) : OnlyG w w'' g :=
  ⟨k.os.trans h.os, k.tape.trans h.tape, k.output.trans h.output, Nat.le_trans h.size k.size, fun b hb hne => (k.block b (Nat.lt_of_lt_of_le hb h.size) (fun e => by have := hr b e.symm; omega)).trans (h.block b hb hne)⟩
theorem OnlyG.blk (h : OnlyG w w' g) {b : Nat} {t : TypeId} {cs : Array Value} (hb : Blk w b t cs) (hne : b ≠ g) : Blk w' b t cs := (h.block b hb.lt hne).trans hb
theorem RdU.keep {B n : Nat} {A : Option Addr} (h : RdU w B A n) (hk : ∀ p : Addr, p.block < B → w'.cell? p = w.cell? p) : RdU w' B A n := fun hn => by
  obtain ⟨b, o, e, hb, hc⟩ := h hn
  refine ⟨b, o, e, hb, fun j hj => ?_⟩
  obtain ⟨u, h1, h2, h3⟩ := hc j hj
  exact ⟨u, h1, h2, (hk ⟨b, o + j, none⟩ hb).trans h3⟩
theorem Rdr.lt {p : Nat} (h : Rdr w g p) : g < w.heap.size := by obtain ⟨_, _, _, h, _⟩ := h; exact h.lt
theorem Rdr.keep {p : Nat} (h : Rdr w g p) (hk : ∀ b, b ≤ g → w'.heap[b]? = w.heap[b]?) : Rdr w' g p := by
  obtain ⟨A, n, c, h1, h2, h3⟩ := h
  exact ⟨A, n, c, (hk g (Nat.le_refl _)).trans h1, h2, h3.keep (fun p hp => World.cell?_of_block (hk p.block (by omega)))⟩
theorem Rdr.below {p : Nat} (h : Rdr w g p) (hb : Below w.heap.size w w') : Rdr w' g p := h.keep (fun b hle => hb.block b (by have := h.lt; omega))
end


theorem of_i64 (n : Nat) (h : n < 9223372036854775808) : (BitVec.ofInt 64 (n : Int)).toNat = n := by
  rw [BitVec.ofInt_natCast, BitVec.toNat_ofNat]
  exact Nat.mod_eq_of_lt (by omega)
theorem xor64 (a b : Nat) (ha : a < 9223372036854775808) (hb : b < 9223372036854775808) : bits .xor .i64 (a : Int) (b : Int) = ((a ^^^ b : Nat) : Int) := by
  have hx : a ^^^ b < 2 ^ 63 := Nat.xor_lt_two_pow (by omega) (by omega)
  show IntKind.i64.wrap (((BitVec.ofInt 64 (a : Int) ^^^ BitVec.ofInt 64 (b : Int)).toNat : Nat) : Int) = _
  rw [BitVec.toNat_xor, of_i64 a ha, of_i64 b hb]
  exact wr64 (by omega) (by omega)
theorem mixed (X : Int) (h0 : 0 ≤ X) (h1 : X ≤ 9223372036854775807) : ∃ Y : Int, bits .xor .i64 X (X / 64) = Y ∧ 0 ≤ Y ∧ Y ≤ 9223372036854775807 := by
  obtain ⟨x, rfl⟩ := Int.eq_ofNat_of_zero_le h0
  have e : ((x : Nat) : Int) / 64 = ((x / 64 : Nat) : Int) := by omega
  have hx : x ^^^ x / 64 < 2 ^ 63 := Nat.xor_lt_two_pow (by omega) (by omega)
  refine ⟨((x ^^^ x / 64 : Nat) : Int), ?_, by omega, by omega⟩
  rw [e]
  exact xor64 _ _ (by omega) (by omega)

set_option maxHeartbeats 400000 in
theorem l6Open_any (A : Option Addr) (n c : Nat) (w : World) (h : RdU w w.heap.size A n) (hc : n ≤ c) (hcm : c ≤ 9223372036854775807) :
    Calls Tryz.prog 15 #[.slice A n c] w fun e w' => e = .returned (.pointer (some ⟨w.heap.size, 0, none⟩)) ∧ Rdr w' w.heap.size 0 ∧ Below w.heap.size w w' := by
  have hal : ∀ o : Obj, Below w.heap.size w (w.alloc o) := fun o => (Below.refl _ _).alloc (Nat.le_refl _) _
  have Hal := qh hal
  have H := qh h
  clear hal h
  by_cases h2 : 2000 < n
  · go_enter Tryz.func15, Tryz.ntmps15
    go_wp2
    go_ret
    refine ⟨rfl, ⟨A, 2000, c, Blk.new w _ _, Nat.le_refl _, ?_⟩, Hal.out _⟩
    exact RdU.keep (w := w) (fun _ => by obtain ⟨b, o, e, hb, hh⟩ := H.out (by omega); exact ⟨b, o, e, hb, fun j hj => hh j (by omega)⟩) (fun p hp => (Hal.out _).cell hp)
  · go_enter Tryz.func15, Tryz.ntmps15
    go_wp2
    go_ret
    exact ⟨rfl, ⟨A, n, c, Blk.new w _ _, by omega, H.out.keep (fun p hp => (Hal.out _).cell hp)⟩, Hal.out _⟩

set_option maxRecDepth 100000 in
set_option maxHeartbeats 3200000 in
theorem pick_any (g p n : Nat) (w : World) (h : Rdr w g p) (hp : p ≤ 1000000) (hn : 1 ≤ n) (hn2 : n ≤ 1000) :
    Calls Tryz.prog 17 #[.pointer (some ⟨g, 0, none⟩), .int .i64 (n : Int)] w fun e w' => ∃ r : Nat, e = .returned (.int .i64 (r : Int)) ∧ r < n ∧ Rdr w' g (p + 1) ∧ OnlyG w w' g := by
  obtain ⟨A, m, c, hb, hm, hu⟩ := h
  have h0 : w.cell? ⟨g, 0, none⟩ = some (.slice A m c) := by rw [hb.cell]; rfl
  have h1 : w.cell? ⟨g, 1, none⟩ = some (.int .i64 (p : Int)) := by rw [hb.cell]; rfl
  have f1 : w.frozen? ⟨g, 1, none⟩ = false := hb.frozen _
  have hgn := hb.lt
  have Hb := qh hb
  have Hu := qh hu
  clear hb hu
  have fin : ∀ k, Rdr ((w.setCell ⟨g, 1, none⟩ (.int .i64 ((p : Int) + 1))).drewN k) g (p + 1) ∧ OnlyG w ((w.setCell ⟨g, 1, none⟩ (.int .i64 ((p : Int) + 1))).drewN k) g := by
    intro k
    refine ⟨⟨A, m, c, (Hb.out.set_ 1 _).drewN k, hm, Hu.out.keep (fun q hq => World.cell?_of_block (Below.heap_setCell w _ _ _ (by simp; omega)))⟩, ((OnlyG.refl w g).set_g 1 _).drewN k⟩
  have Fin := qh fin
  clear fin
  by_cases hm0 : m = 0
  · subst hm0
    go_enter Tryz.func17, Tryz.ntmps17
    go_wp2
    go_ret
    exact ⟨0, rfl, by omega, (Fin.out 0).1, (Fin.out 0).2⟩
  · have em : ((m : Int) == 0) = false := by simp; omega
    by_cases hlt : p < m
    · obtain ⟨b, o, rfl, hbg, hcell⟩ := Hu.out (by omega)
      obtain ⟨u, u0, u1, hcu⟩ := hcell p hlt
      have hne : b ≠ g := by omega
      have hcu' : (w.setCell ⟨g, 1, none⟩ (.int .i64 ((p : Int) + 1))).cell? ⟨b, o + p, none⟩ = some (.int .u8 u) := by rw [World.cell?_setCell_other _ _ _ _ (by simp)]; exact hcu
      clear hcell hcu
      go_enter Tryz.func17, Tryz.ntmps17
      go_wp2
      go_ret
      have e0 : 0 ≤ u % (n : Int) := Int.emod_nonneg _ (by omega)
      have e1 : u % (n : Int) < n := Int.emod_lt_of_pos _ (by omega)
      exact ⟨(u % (n : Int)).toNat, ret_int (Int.toNat_of_nonneg e0).symm, by omega, (Fin.out 0).1, (Fin.out 0).2⟩
    · obtain ⟨b, o, rfl, hbg, hcell⟩ := Hu.out (by omega)
      obtain ⟨u, u0, u1, hcu⟩ := hcell (p % m) (Nat.mod_lt _ (by omega))
      obtain ⟨v, v0, v1, hcv⟩ := hcell ((p * 7 + 3) % m) (Nat.mod_lt _ (by omega))
      have hne : b ≠ g := by omega
      have hcu' : (w.setCell ⟨g, 1, none⟩ (.int .i64 ((p : Int) + 1))).cell? ⟨b, o + p % m, none⟩ = some (.int .u8 u) := by rw [World.cell?_setCell_other _ _ _ _ (by simp)]; exact hcu
      have hcv' : (w.setCell ⟨g, 1, none⟩ (.int .i64 ((p : Int) + 1))).cell? ⟨b, o + (p * 7 + 3) % m, none⟩ = some (.int .u8 v) := by rw [World.cell?_setCell_other _ _ _ _ (by simp)]; exact hcv
      have hg0 : (w.setCell ⟨g, 1, none⟩ (.int .i64 ((p : Int) + 1))).cell? ⟨g, 0, none⟩ = some (.slice (some ⟨b, o, none⟩) m c) := by rw [World.cell?_setCell_other _ _ _ _ (by simp)]; exact h0
      have hg1 : (w.setCell ⟨g, 1, none⟩ (.int .i64 ((p : Int) + 1))).cell? ⟨g, 1, none⟩ = some (.int .i64 ((p : Int) + 1)) := by rw [(Hb.out.set_ 1 _).cell]; rfl
      generalize hW : w.setCell ⟨g, 1, none⟩ (.int .i64 ((p : Int) + 1)) = W at hcu' hcv' hg0 hg1
      have HW := qh hW
      clear hcell hcu hcv
      have lt1 : p % m < m := Nat.mod_lt _ (by omega)
      have lt2 : (p * 7 + 3) % m < m := Nat.mod_lt _ (by omega)
      have hm1 : (1 : Int) ≤ m := by omega
      have a1 : (p : Int).tmod m = (p : Int) % m := IntWalk.rem_in _ _ (by omega)
      have a2 : 0 ≤ (p : Int) % m := Int.emod_nonneg _ (by omega)
      have a3 : (p : Int) % m < m := Int.emod_lt_of_pos _ (by omega)
      have a4 : ((p : Int) % m).toNat = p % m := by rw [← Int.natCast_emod]; rfl
      have c1 : IntKind.i64.wrap ((p : Int) * 7) = (p : Int) * 7 := wr64 (by omega) (by omega)
      have c2 : IntKind.i64.wrap ((p : Int) * 7 + 3) = (p : Int) * 7 + 3 := wr64 (by omega) (by omega)
      have d1 : ((p : Int) * 7 + 3).tmod m = ((p : Int) * 7 + 3) % m := IntWalk.rem_in _ _ (by omega)
      have d2 : 0 ≤ ((p : Int) * 7 + 3) % m := Int.emod_nonneg _ (by omega)
      have d3 : ((p : Int) * 7 + 3) % m < m := Int.emod_lt_of_pos _ (by omega)
      have d4 : (((p : Int) * 7 + 3) % m).toNat = (p * 7 + 3) % m := by
        have : (p : Int) * 7 + 3 = ((p * 7 + 3 : Nat) : Int) := by omega
        rw [this, ← Int.natCast_emod]; rfl
      have i1 : IntKind.i64.wrap u = u := wr64 (by omega) (by omega)
      have i2 : IntKind.i64.wrap v = v := wr64 (by omega) (by omega)
      have i3 : IntKind.i64.wrap (u * 131) = u * 131 := wr64 (by omega) (by omega)
      have i4 : IntKind.i64.wrap (v * 1117) = v * 1117 := wr64 (by omega) (by omega)
      have i5 : IntKind.i64.wrap (u * 131 + v * 1117) = u * 131 + v * 1117 := wr64 (by omega) (by omega)
      have i6 : IntKind.i64.wrap ((p : Int) * 29) = (p : Int) * 29 := wr64 (by omega) (by omega)
      have i7 : IntKind.i64.wrap (u * 131 + v * 1117 + (p : Int) * 29) = u * 131 + v * 1117 + (p : Int) * 29 := wr64 (by omega) (by omega)
      have j0 : 0 ≤ (p : Int) / m := (IntWalk.tdiv_le _ _ (by omega) hm1).1
      have j1 : (p : Int) / m ≤ p := (IntWalk.tdiv_le _ _ (by omega) hm1).2
      have j2 : IntKind.i64.wrap ((p : Int).tdiv m) = (p : Int) / m := IntWalk.i64_quo _ _ ⟨by omega, by omega, hm1⟩
      have j3 : IntKind.i64.wrap ((p : Int) / m * 53) = (p : Int) / m * 53 := wr64 (by omega) (by omega)
      have j4 : IntKind.i64.wrap (u * 131 + v * 1117 + (p : Int) * 29 + (p : Int) / m * 53) = u * 131 + v * 1117 + (p : Int) * 29 + (p : Int) / m * 53 := wr64 (by omega) (by omega)
      have hmz : (m : Int) ≠ 0 := by omega
      go_enter Tryz.func17, Tryz.ntmps17
      go_wp2
      clear hW h0 h1 f1
      go_quiet (fail)
      have x0 : 0 ≤ u * 131 + v * 1117 + (p : Int) * 29 + (p : Int) / m * 53 := by omega
      have x1 : u * 131 + v * 1117 + (p : Int) * 29 + (p : Int) / m * 53 ≤ 1000000000 := by omega
      clear j4 i7 a1 a2 a3 a4 c1 c2 d1 d2 d3 d4 i1 i2 i3 i4 i5 i6 j0 j1 j2 j3
      generalize u * 131 + v * 1117 + (p : Int) * 29 + (p : Int) / m * 53 = X at x0 x1 ⊢
      obtain ⟨Y, y1, y2, y3⟩ := mixed X x0 (by omega)
      have x2 : IntKind.i64.wrap (X.tdiv 64) = X / 64 := IntWalk.i64_quo _ _ ⟨by omega, by omega, by omega⟩
      have y4 : Y.tmod n = Y % n := IntWalk.rem_in _ _ y2
      have hnz : (n : Int) ≠ 0 := by omega
      have e0 : 0 ≤ Y % (n : Int) := Int.emod_nonneg _ (by omega)
      have e1 : Y % (n : Int) < n := Int.emod_lt_of_pos _ (by omega)
      go_wp2
      go_ret
      obtain rfl := HW.out
      exact ⟨(Y % (n : Int)).toNat, ret_int (Int.toNat_of_nonneg e0).symm, by omega, (Fin.out _).1, (Fin.out _).2⟩
end Go.Proofs.YtlcgbnmmbheleaaGreat

namespace Go.Proofs.YtlcgbnmmbheleaaGreat
open Go.RowKit

theorem pick_at {g p : Nat} (n : Nat) {N : Int} {w : World} (h : Rdr w g p) (hN : N = (n : Int)) (hp : p ≤ 1000000) (hn : 1 ≤ n) (hn2 : n ≤ 1000) :
    Calls Tryz.prog 17 #[.pointer (some ⟨g, 0, none⟩), .int .i64 N] w fun e w' => ∃ r : Nat, e = .returned (.int .i64 (r : Int)) ∧ r < n ∧ Rdr w' g (p + 1) ∧ OnlyG w w' g := by
  subst hN
  exact pick_any g p n w h hp hn hn2

def Bd (m : Int) (xs : List Int) : Prop := ∀ j : Nat, 0 ≤ xs[j]?.getD 0 ∧ xs[j]?.getD 0 ≤ m
theorem Bd.three {m a b c : Int} (ha : 0 ≤ a ∧ a ≤ m) (hb : 0 ≤ b ∧ b ≤ m) (hc : 0 ≤ c ∧ c ≤ m) : Bd m [a, b, c] := fun j => by
  match j with
  | 0 => exact ha
  | 1 => exact hb
  | 2 => exact hc
  | k + 3 => simp; omega
theorem Bd.set_ {m v : Int} {xs : List Int} (h : Bd m xs) (i : Nat) (hv : 0 ≤ v ∧ v ≤ m) : Bd m (xs.set i v) := fun j => by
  by_cases e : i = j
  · subst e
    by_cases hi : i < xs.length
    · rw [List.getElem?_set_self hi]; exact hv
    · rw [List.getElem?_eq_none (by simp; omega)]; simp; omega
  · rw [List.getElem?_set_ne e]; exact h j
theorem set_vals (xs : List Int) (i : Nat) (v : Int) : (xs.map (Value.int .i64)).toArray.setIfInBounds i (.int .i64 v) = ((xs.set i v).map (Value.int .i64)).toArray := by
  rw [pS, List.map_set]

theorem alloc_up (w : World) (o : Obj) : Below w.heap.size w (w.alloc o) := (Below.refl _ _).alloc (Nat.le_refl _) _
theorem OnlyG.cell {w w' : World} {g : Nat} (h : OnlyG w w' g) {p : Addr} (h1 : p.block < w.heap.size) (h2 : p.block ≠ g) : w'.cell? p = w.cell? p := World.cell?_of_block (h.block p.block h1 h2)
theorem Rdr.drewN {w : World} {g p : Nat} (h : Rdr w g p) (n : Nat) : Rdr (w.drewN n) g p := h
theorem Rdr.drew {w : World} {g p : Nat} (h : Rdr w g p) : Rdr w.drew g p := h
theorem OnlyG.up {w w' : World} {g : Nat} (h : OnlyG w w' g) (o : Obj) : OnlyG w (w'.alloc o) g := h.alloc o

set_option maxRecDepth 100000 in
set_option maxHeartbeats 1600000 in
theorem l91Room_any (g p : Nat) (w : World) (h : Rdr w g p) (hp : p ≤ 900000) :
    Calls Tryz.prog 37 #[.pointer (some ⟨g, 0, none⟩)] w fun e w' => ∃ b xs, e = .returned (.slice (some ⟨b, 0, none⟩) 3 3) ∧ OwI w' w.heap.size b xs ∧ xs.length = 3 ∧ Bd 21 xs ∧ OnlyG w w' g ∧ ∃ q, q ≤ p + 6 ∧ Rdr w' g q := by
  go_enter Tryz.func37, Tryz.ntmps37
  go_wp2_with fail
  refine (pick_at 10 h rfl (by omega) (by omega) (by omega)).mono ?_; rintro e w1 ⟨r1, rfl, hr1, R1, O1⟩
  go_wp2_with fail
  refine (pick_at 10 R1 rfl (by omega) (by omega) (by omega)).mono ?_; rintro e w2 ⟨r2, rfl, hr2, R2, O2⟩
  go_wp2_with fail
  refine (pick_at 10 R2 rfl (by omega) (by omega) (by omega)).mono ?_; rintro e w3 ⟨r3, rfl, hr3, R3, O3⟩
  go_wp2_with fail
  refine (pick_at 50 (R3.below (alloc_up _ _)) rfl (by omega) (by omega) (by omega)).mono ?_; rintro e w4 ⟨r4, rfl, hr4, R4, O4⟩
  have g3 := R3.lt
  have B4 := O4.blk (Blk.new w3 _ _) (by omega)
  have W4 : OnlyG w w4 g := (((O1.trans O2).trans O3).alloc _).trans O4
  have s3 : w.heap.size ≤ w3.heap.size := ((O1.trans O2).trans O3).size
  generalize hb : w3.heap.size = b at B4 g3 s3 ⊢
  have bd : Bd 21 [6 + (r1 : Int), 6 + (r2 : Int), 6 + (r3 : Int)] := Bd.three (by omega) (by omega) (by omega)
  clear O1 O2 O3 O4 R1 R2 R3 h hb
  have H := qh W4
  clear W4
  by_cases h0 : r4 = 0
  · subst h0
    go_wp2_with fail
    refine (pick_at 3 R4 rfl (by omega) (by omega) (by omega)).mono ?_; rintro e w5 ⟨r5, rfl, hr5, R5, O5⟩
    go_wp2_with fail
    refine (pick_at 4 (R5.below (alloc_up _ _)) rfl (by omega) (by omega) (by omega)).mono ?_; rintro e w6 ⟨r6, rfl, hr6, R6, O6⟩
    have C6 := O6.blk (Blk.new w5 _ _) (by have := R5.lt; omega)
    have B6 := O6.blk ((O5.blk B4 (by omega)).alloc _) (by omega)
    have W6 := qh (H.out.trans ((O5.alloc _).trans O6))
    have g6 := R6.lt
    have hbg : b ≠ w5.heap.size := by have := O5.size; have := B4.lt; omega
    have f6 : w6.frozen? ⟨b, r5, none⟩ = false := B6.frozen _
    have hcell : ∃ v : Int, w6.cell? ⟨w5.heap.size, r6, none⟩ = some (.int .i64 v) ∧ 0 ≤ v ∧ v ≤ 21 := by
      rw [C6.cell]
      match r6, hr6 with
      | 0, _ => exact ⟨0, rfl, by omega, by omega⟩
      | 1, _ => exact ⟨1, rfl, by omega, by omega⟩
      | 2, _ => exact ⟨20, rfl, by omega, by omega⟩
      | 3, _ => exact ⟨21, rfl, by omega, by omega⟩
    obtain ⟨v, hv, v0, v1⟩ := hcell
    have hold : ∃ u, w6.cell? ⟨b, r5, none⟩ = some u := by
      rw [B6.cell]
      match r5, hr5 with
      | 0, _ => exact ⟨_, rfl⟩
      | 1, _ => exact ⟨_, rfl⟩
      | 2, _ => exact ⟨_, rfl⟩
    obtain ⟨u, hu⟩ := hold
    have hr5' : (r5 : Int) < 3 := by omega
    have hr6' : (r6 : Int) < 4 := by omega
    have H6 := qh B6
    clear B6 C6 B4 O5 O6
    go_wp2
    go_ret
    refine ⟨b, [6 + (r1 : Int), 6 + (r2 : Int), 6 + (r3 : Int)].set r5 v, rfl, ⟨s3, ?_⟩, by simp, bd.set_ _ ⟨v0, v1⟩, W6.out.set_new s3 _, _, ?_, R6.keep (fun k hk => Below.heap_setCell _ _ _ _ (by simp; omega))⟩
    · rw [← set_vals]; exact H6.out.set_ _ _
    · omega
  · have e4 : ((r4 : Int) == 0) = false := by simp; omega
    go_wp2
    go_ret
    exact ⟨b, [6 + (r1 : Int), 6 + (r2 : Int), 6 + (r3 : Int)], rfl, ⟨s3, B4⟩, rfl, bd, H.out, _, by omega, R4⟩

set_option maxRecDepth 100000 in
set_option maxHeartbeats 1600000 in
theorem l91Task_any (g p : Nat) (id : Int) (w : World) (h : Rdr w g p) (hp : p ≤ 900000) :
    Calls Tryz.prog 41 #[.pointer (some ⟨g, 0, none⟩), .int .i64 id] w fun e w' => ∃ b xs, e = .returned (.agg #[.int .i64 id, .slice (some ⟨b, 0, none⟩) 3 3]) ∧ OwI w' w.heap.size b xs ∧ xs.length = 3 ∧ Bd 21 xs ∧ OnlyG w w' g ∧ ∃ q, q ≤ p + 6 ∧ Rdr w' g q := by
  go_enter Tryz.func41, Tryz.ntmps41
  go_wp2_with fail
  refine (pick_at 6 (h.below (alloc_up _ _)) rfl (by omega) (by omega) (by omega)).mono ?_; rintro e w1 ⟨r1, rfl, hr1, R1, O1⟩
  have B0 := O1.blk (Blk.new w _ _) (by have := h.lt; omega)
  go_wp2_with fail
  refine (pick_at 6 R1 rfl (by omega) (by omega) (by omega)).mono ?_; rintro e w2 ⟨r2, rfl, hr2, R2, O2⟩
  go_wp2_with fail
  refine (pick_at 6 R2 rfl (by omega) (by omega) (by omega)).mono ?_; rintro e w3 ⟨r3, rfl, hr3, R3, O3⟩
  go_wp2_with fail
  refine (pick_at 3 ((R3.below (alloc_up _ _)).below (alloc_up _ _)) rfl (by omega) (by omega) (by omega)).mono ?_; rintro e w4 ⟨r4, rfl, hr4, R4, O4⟩
  have g0 := h.lt
  have g3 := R3.lt
  have s1 : w.heap.size + 1 ≤ w1.heap.size := by have := O1.size; simpa using this
  have s3 : w1.heap.size ≤ w3.heap.size := (O2.trans O3).size
  have Bn := O4.blk ((Blk.new w3 _ _).alloc _) (by omega)
  have Bx := O4.blk (Blk.new (w3.alloc _) _ _) (by simp; omega)
  have Br := O4.blk ((((O3.blk (O2.blk B0 (by omega)) (by omega))).alloc _).alloc _) (by omega)
  have W4 : OnlyG w w4 g := (((((OnlyG.refl w g).alloc _).trans O1).trans (O2.trans O3)).alloc _).alloc _ |>.trans O4
  rw [World.size_alloc] at Bx
  generalize hb : w3.heap.size = b at Bn Bx g3 s3 ⊢
  have bd : Bd 21 [(r1 : Int), (r2 : Int), (r3 : Int)] := Bd.three (by omega) (by omega) (by omega)
  clear O1 O2 O3 O4 R1 R2 R3 h hb B0
  have c0 : w4.cell? ⟨b + 1, 0, none⟩ = some (.int .i64 id) := by rw [Bx.cell]; rfl
  have c1 : w4.cell? ⟨b + 1, 1, none⟩ = some (.slice (some ⟨b, 0, none⟩) 3 3) := by rw [Bx.cell]; rfl
  have d0 : w4.cell? ⟨w.heap.size, 0, none⟩ = some (.int .i64 0) := by rw [Br.cell]; rfl
  have d1 : w4.cell? ⟨w.heap.size, 1, none⟩ = some (.slice none 0 0) := by rw [Br.cell]; rfl
  have f0 : w4.frozen? ⟨w.heap.size, 0, none⟩ = false := Br.frozen _
  have f1 : w4.frozen? ⟨w.heap.size, 1, none⟩ = false := Br.frozen _
  have H := qh W4
  clear W4
  by_cases h0 : r4 = 0
  · subst h0
    go_wp2_with fail
    have hk := qh (show ∀ w', OnlyG w4 w' g → w'.cell? ⟨b + 1, 1, none⟩ = some (.slice (some ⟨b, 0, none⟩) 3 3) from fun w' o => (o.cell (p := ⟨b + 1, 1, none⟩) Bx.lt (by simp; omega)).trans c1)
    have hold := qh (show ∀ (w' : World) (j : Nat), OnlyG w4 w' g → j < 3 → ∃ u, w'.cell? ⟨b, j, none⟩ = some u from fun w' j o hj => by
      rw [(o.blk Bn (by omega)).cell]
      match j, hj with
      | 0, _ => exact ⟨_, rfl⟩
      | 1, _ => exact ⟨_, rfl⟩
      | 2, _ => exact ⟨_, rfl⟩)
    have hfr := qh (show ∀ (w' : World) (j : Nat), OnlyG w4 w' g → w'.frozen? ⟨b, j, none⟩ = false from fun w' j o => (o.blk Bn (by omega)).frozen j)
    have HBn := qh Bn
    have HBx := qh Bx
    have HBr := qh Br
    have HR4 := qh R4
    clear Bn Bx Br R4 c0 d0 d1 f0 f1
    go_region_held3 (fun w' => w'.cell? ⟨b + 1, 1, none⟩ = some (.slice (some ⟨b, 0, none⟩) 3 3))
      (first
        | exact c1
        | exact K5
        | exact K6
        | (rw [World.cell?_setCell_other _ _ _ _ (by simp)]; exact K6))
      (first
        | (go_at_call 17; refine (pick_at 4 HR5.out rfl (by omega) (by omega) (by omega)).mono ?_; rintro e w6 ⟨r6, rfl, hr6, R6, O6⟩; have K6 := hk.out w6 (HO5.out.trans O6); have f6 := hfr.out w6 r5 (HO5.out.trans O6); have e6 : IntKind.i64.wrap (4 + (r6 : Int)) = 4 + (r6 : Int) := wr64 (by omega) (by omega); obtain ⟨u6, hu6⟩ := hold.out w6 r5 (HO5.out.trans O6) hr5; have HR6 := qh R6; have HO6 := qh O6; clear R6 O6)
        | (go_at_call 17; refine (pick_at 3 (HR4.out.drew) rfl (by omega) (by omega) (by omega)).mono ?_; rintro e w5 ⟨r5, rfl, hr5, R5, O5⟩; have HO5 := qh ((OnlyG.refl w4 g).drew.trans O5); have K5 := hk.out w5 HO5.out; have HR5 := qh R5; clear R5 O5; have hr5' : (r5 : Int) < 3 := (by omega)))
    have hOw : OwI (w6.setCell ⟨b, r5, none⟩ (.int .i64 (4 + (r6 : Int)))) w.heap.size b ([(r1 : Int), r2, r3].set r5 (4 + (r6 : Int))) := ⟨by omega, by rw [← set_vals]; exact ((HO5.out.trans HO6.out).blk HBn.out (by omega)).set_ _ _⟩
    have Bx6 := ((HO5.out.trans HO6.out).blk HBx.out (by omega)).far (p := ⟨b, r5, none⟩) (by simp) (.int .i64 (4 + (r6 : Int)))
    have Br6 := ((HO5.out.trans HO6.out).blk HBr.out (by omega)).far (p := ⟨b, r5, none⟩) (by simp; omega) (.int .i64 (4 + (r6 : Int)))
    have O7 : OnlyG w (w6.setCell ⟨b, r5, none⟩ (.int .i64 (4 + (r6 : Int)))) g := (H.out.trans (HO5.out.trans HO6.out)).set_new (by simp; omega) _
    have R7 : Rdr (w6.setCell ⟨b, r5, none⟩ (.int .i64 (4 + (r6 : Int)))) g (p + 1 + 1 + 1 + 1 + 1 + 1) := HR6.out.keep (fun k hk => Below.heap_setCell _ _ _ _ (by simp; omega))
    have bd' : Bd 21 ([(r1 : Int), r2, r3].set r5 (4 + (r6 : Int))) := bd.set_ _ (by omega)
    clear K5 K6 f6 hu6 e6 hk hold hfr bd c1
    generalize w6.setCell ⟨b, r5, none⟩ (.int .i64 (4 + (r6 : Int))) = W at hOw Bx6 Br6 O7 R7 ⊢
    have c0 : W.cell? ⟨b + 1, 0, none⟩ = some (.int .i64 id) := by rw [Bx6.cell]; rfl
    have c1 : W.cell? ⟨b + 1, 1, none⟩ = some (.slice (some ⟨b, 0, none⟩) 3 3) := by rw [Bx6.cell]; rfl
    have d0 : W.cell? ⟨w.heap.size, 0, none⟩ = some (.int .i64 0) := by rw [Br6.cell]; rfl
    have d1 : W.cell? ⟨w.heap.size, 1, none⟩ = some (.slice none 0 0) := by rw [Br6.cell]; rfl
    have f0 : W.frozen? ⟨w.heap.size, 0, none⟩ = false := Br6.frozen _
    have f1 : W.frozen? ⟨w.heap.size, 1, none⟩ = false := Br6.frozen _
    have HB := qh Br6
    have HO := qh hOw
    clear Bx6 Br6 hOw
    have ly : ([(r1 : Int), r2, r3].set r5 (4 + (r6 : Int))).length = 3 := by simp
    generalize [(r1 : Int), r2, r3].set r5 (4 + (r6 : Int)) = ys at HO bd' ly
    go_wp2
    refine bodyPost_ret (v := .agg #[.int .i64 id, .slice (some ⟨b, 0, none⟩) 3 3]) ?_ rfl ⟨b, ys, rfl, ⟨by omega, ?_⟩, ?_, bd', (O7.set_new (Nat.le_refl _) _).set_new (Nat.le_refl _) _, _, ?_, (R7.keep (fun k hk => Below.heap_setCell _ _ _ _ (by simp; omega))).keep (fun k hk => Below.heap_setCell _ _ _ _ (by simp; omega))⟩
    · have e0 := ((HB.out.set_ 0 (.int .i64 id)).set_ 1 (.slice (some ⟨b, 0, none⟩) 3 3)).cell 0
      have e1 := ((HB.out.set_ 0 (.int .i64 id)).set_ 1 (.slice (some ⟨b, 0, none⟩) 3 3)).cell 1
      simp [results, Tryz.results41, go_sem, e0, e1]
    · exact (HO.out.2.far (p := ⟨w.heap.size, 0, none⟩) (by simp; omega) _).far (p := ⟨w.heap.size, 1, none⟩) (by simp; omega) _
    · exact ly
    · omega
  · have e4 : ((r4 : Int) == 0) = false := by simp; omega
    have HB := qh Br
    clear Br
    go_wp2
    refine bodyPost_ret (v := .agg #[.int .i64 id, .slice (some ⟨b, 0, none⟩) 3 3]) ?_ rfl ⟨b, [(r1 : Int), r2, r3], rfl, ⟨by omega, ?_⟩, rfl, bd, (H.out.set_new (Nat.le_refl _) _).set_new (Nat.le_refl _) _, _, ?_, (R4.keep (fun k hk => Below.heap_setCell _ _ _ _ (by simp; omega))).keep (fun k hk => Below.heap_setCell _ _ _ _ (by simp; omega))⟩
    · have e0 := ((HB.out.set_ 0 (.int .i64 id)).set_ 1 (.slice (some ⟨b, 0, none⟩) 3 3)).cell 0
      have e1 := ((HB.out.set_ 0 (.int .i64 id)).set_ 1 (.slice (some ⟨b, 0, none⟩) 3 3)).cell 1
      simp [results, Tryz.results41, go_sem, e0, e1]
    · exact (Bn.far (p := ⟨w.heap.size, 0, none⟩) (by simp; omega) _).far (p := ⟨w.heap.size, 1, none⟩) (by simp; omega) _
    · omega
end Go.Proofs.YtlcgbnmmbheleaaGreat
