/- Walks: the program's sorts of an eviction: slices.SortFunc with leave$1, slices.Sort, on a row that the call owns. -/
import Derived.Test.YtkcflajhmekcaaaGreatEvictRep
import Derived.Test.YtkcflajhmekcaaaGreatShelf
namespace Go.Proofs.YtkcflajhmekcaaaGreat
open Go.RowKit Go.Sort Go.Lib
attribute [local go_sem ↓] Go.wp_at_zero Go.wp_at_succ

section
variable {α : Type} [Inhabited α] {enc : α → Value} {w : World} {base blk c n : Nat} {t : TypeId} {xs : List Value}

theorem sort_holds {d : Array α} (h : w.ownsRow base t 1 (.slice (some ⟨blk, 0, none⟩) n c) n xs) (hd : d.toList.map enc = xs) : Holds enc w blk 0 d := by
  intro j hj
  have hc : xs[j]? = some (enc d[j]!) := by
    rw [← hd, List.getElem?_map, Array.getElem?_toList, Array.getElem?_eq_getElem hj, getElem!_pos d j hj]; rfl
  have := h.cells (g := blk) rfl j _ hc
  rw [addr_add] at this
  refine ⟨this, ?_⟩
  rcases h.2 with ⟨e, _⟩ | ⟨g, cap, cur, e, _, hg, _⟩
  · cases e
  · injection e with e1 e2 e3
    injection e1 with e1
    injection e1 with e1
    subst e1
    simp [World.frozen?, hg]
theorem sort_left {d : Array α} {m : Nat} {os : Array Obj} (h : w.ownsRow base t 1 (.slice (some ⟨blk, 0, none⟩) n c) n xs) (hd : d.size = n) :
    (grow (putRow enc (Sort.ahead w m) blk 0 d) os).ownsRow base t 1 (.slice (some ⟨blk, 0, none⟩) n c) n (d.toList.map enc) ∧ w.grownBy (grow (putRow enc (Sort.ahead w m) blk 0 d) os) (some blk) := by
  rcases h.2 with ⟨e, _⟩ | ⟨g, cap, cur, e, hb, hg, hc1, hc2, hc3, hc4⟩
  · cases e
  · injection e with e1 e2 e3
    injection e1 with e1
    injection e1 with e1
    subst e1 e3
    have hlt : blk < w.heap.size := (Array.getElem?_eq_some_iff.1 hg).1
    have hsz : (putRow enc (Sort.ahead w m) blk 0 d).heap.size = w.heap.size := by simp [putRow, mapBlock, Sort.ahead]
    refine ⟨⟨by simp [hd], .inr ⟨blk, c, putCells enc 0 d cur, rfl, hb, ?_, hc1, hc2, ?_, ?_⟩⟩, ⟨rfl, rfl, rfl, ?_, ?_⟩⟩
    · rw [heap_grow_old _ _ (by rw [hsz]; exact hlt)]
      simp [putRow, mapBlock, Sort.ahead, Array.getElem?_modify, hg, onCells]
    · simp [putCells, hc3]
    · apply List.ext_getElem?
      intro i
      rw [List.getElem?_take, Array.getElem?_toList, List.getElem?_map, Array.getElem?_toList]
      by_cases hi : i < n
      · rw [if_pos (by omega)]
        have h1 : i < cur.size := by omega
        have h2 : i < d.size := by omega
        simp only [putCells, Array.getElem?_mapIdx, Array.getElem?_eq_getElem h1, Array.getElem?_eq_getElem h2, Option.map_some]
        rw [if_pos ⟨by omega, by omega⟩, Nat.sub_zero, getElem!_pos d i h2]
      · rw [if_neg (by omega), Array.getElem?_eq_none (by omega)]; rfl
    · rw [size_grow, hsz]; omega
    · intro k hk hne
      rw [heap_grow_old _ _ (by rw [hsz]; exact hk)]
      have : blk ≠ k := fun e => hne (by rw [e])
      simp [putRow, mapBlock, Sort.ahead, Array.getElem?_modify, this]
end

/-- Nothing but the row has turned. -/
theorem grown_cell {w w' : World} {row : Option Nat} (h : w.grownBy w' row) {p : Addr} (hp : p.block < w.heap.size) (hne : some p.block ≠ row) : w'.cell? p = w.cell? p := World.cell?_of_block (h.block _ hp hne)

set_option maxHeartbeats 400000 in
theorem sortInts_any (base : Nat) (A : Option Addr) (n c : Nat) (xs : List Int) (w : World) (h : w.ownsRow base 3 1 (.slice A n c) n (xs.map (Value.int .i64))) (hn : n ≤ 1000000) :
    Calls Tryz.prog 57 #[.slice A n c] w fun e w' => e = .returned (.tuple #[]) ∧ w'.ownsRow base 3 1 (.slice A n c) n ((xs.mergeSort fun x y => decide (x ≤ y)).map (Value.int .i64)) ∧ w.grownBy w' (Value.slice A n c).ownBlock := by
  have hl : xs.length = n := by have := h.1; simpa using this
  rcases Nat.eq_zero_or_pos n with h0 | h0
  · subst h0
    refine (Tryz.slices_Sort_int_none A c w).mono ?_
    rintro e w' ⟨rfl, rfl⟩
    have : xs = [] := List.eq_nil_of_length_eq_zero hl
    subst this
    exact ⟨rfl, by simpa using h, ⟨rfl, rfl, rfl, Nat.le_refl _, fun _ _ _ => rfl⟩⟩
  · obtain ⟨g, cap, hv, _, hlt⟩ := h.form h0
    injection hv with e1 e2 e3
    subst e1
    subst hl
    refine (Tryz.slices_Sort_int g 0 c xs w (sort_holds h rfl) hlt (by omega)).mono ?_
    rintro e w' ⟨rfl, m, os, rfl⟩
    obtain ⟨h1, h2⟩ := sort_left (enc := Value.int .i64) (d := (xs.mergeSort fun x y => decide (x ≤ y)).toArray) (m := m) (os := os) h (by simp)
    exact ⟨rfl, h1, h2⟩

/-- The comparison of those who left. -/
def cfE (rk : List Int) (i k : Nat) : Int := if rk[i]?.getD 0 = rk[k]?.getD 0 then (i : Int) - (k : Int) else rk[k]?.getD 0 - rk[i]?.getD 0
theorem cfE_lt (rk : List Int) (i k : Nat) : decide (cfE rk i k < 0) = ltR rk i k := by
  rw [Bool.eq_iff_iff, cfE, ltR]
  simp only [decide_eq_true_eq]
  split <;> omega

set_option maxRecDepth 100000 in
set_option maxHeartbeats 1600000 in
theorem leaveCmp_any (bx eb fb : Nat) (A1 A2 A3 : Option Addr) (n1 c1 n2 c2 n3 c3 B i k : Nat) (rk : List Int) (w : World) (hx : w.cell? ⟨bx, 0, none⟩ = some (.pointer (some ⟨eb, 0, none⟩)))
    (hE : EvB w eb fb A1 A2 A3 n1 c1 n2 c2 n3 c3) (h3 : RdI w B A3 n3 rk) (hi : i < n3) (hk : k < n3) (hn : n3 ≤ 1000000) (hb : ∀ j : Nat, -1000000 ≤ rk[j]?.getD 0 ∧ rk[j]?.getD 0 ≤ 1000000) :
    Calls Tryz.prog 56 #[.int .i64 i, .int .i64 k, .pointer (some ⟨bx, 0, none⟩)] w fun e w' => e = .returned (.int .i64 (cfE rk i k)) ∧ ∃ q, w' = w.drewN q := by
  obtain ⟨y0, y1, y2, y3⟩ := hE.cells
  obtain ⟨b, o, rfl, _, hc1⟩ := h3.at_ hi
  obtain ⟨b', o', e', _, hc2⟩ := h3.at_ hk
  injection e' with e'
  injection e' with e1 e2
  subst e1 e2
  have i1 : (0 : Int) ≤ (i : Int) := by omega
  have i2 : (i : Int) < (n3 : Int) := by omega
  have k1 : (0 : Int) ≤ (k : Int) := by omega
  have k2 : (k : Int) < (n3 : Int) := by omega
  have bi := hb i
  have bk := hb k
  have hcf := Lib.hid (show cfE rk i k = if rk[i]?.getD 0 = rk[k]?.getD 0 then (i : Int) - (k : Int) else rk[k]?.getD 0 - rk[i]?.getD 0 from rfl)
  clear hb hE h3 hi hk
  generalize rk[i]?.getD 0 = x at *
  generalize rk[k]?.getD 0 = y at *
  generalize cfE rk i k = r at *
  obtain ⟨x1, x2⟩ := bi
  obtain ⟨z1, z2⟩ := bk
  by_cases hxy : x = y
  · subst hxy
    have hne : ((x : Int) != x) = false := by simp
    go_enter Tryz.func56, Tryz.ntmps56
    go_wp2
    go_quiet (fail)
    go_wp2
    go_ret
    exact ⟨ret_int (by rw [hcf.out]; simp), _, rfl⟩
  · have hne : ((x : Int) != y) = true := by simp [hxy]
    have Hxy := Lib.hid hxy
    clear hxy
    go_enter Tryz.func56, Tryz.ntmps56
    go_wp2
    go_quiet (fail)
    go_wp2
    have hw : IntKind.i64.wrap (y - x) = y - x := wr64 (by omega) (by omega)
    go_quiet (fail)
    go_wp2
    go_ret
    exact ⟨ret_int (by rw [hcf.out, if_neg Hxy.out]), _, World.drewN_drewN _ _ _⟩

theorem swoE (rk : List Int) (n : Nat) : SWO (ltOf fun i k : Fin (n + 1) => cfE rk i.val k.val) where
  irrefl x := by show decide (cfE rk x.val x.val < 0) = false; rw [cfE_lt, ltR]; simp
  trans x y z h1 h2 := by
    have h1 : ltR rk x.val y.val = true := (cfE_lt _ _ _).symm.trans h1
    have h2 : ltR rk y.val z.val = true := (cfE_lt _ _ _).symm.trans h2
    show decide (cfE rk x.val z.val < 0) = true
    rw [cfE_lt]
    rw [ltR] at *
    simp only [decide_eq_true_eq] at *
    omega
  ntrans x y z h1 h2 := by
    have h1 : ltR rk x.val y.val = false := (cfE_lt _ _ _).symm.trans h1
    have h2 : ltR rk y.val z.val = false := (cfE_lt _ _ _).symm.trans h2
    show decide (cfE rk x.val z.val < 0) = false
    rw [cfE_lt]
    rw [ltR] at *
    simp only [decide_eq_false_iff_not] at *
    omega
theorem totE (rk : List Int) (n : Nat) (x y : Fin (n + 1)) (h1 : ltOf (fun i k : Fin (n + 1) => cfE rk i.val k.val) x y = false) (h2 : ltOf (fun i k : Fin (n + 1) => cfE rk i.val k.val) y x = false) : x = y := by
  have h1 : ltR rk x.val y.val = false := (cfE_lt _ _ _).symm.trans h1
  have h2 : ltR rk y.val x.val = false := (cfE_lt _ _ _).symm.trans h2
  rw [ltR] at *
  simp only [decide_eq_false_iff_not] at *
  apply Fin.ext
  omega

/-- The numbers of those who left, as values. -/
def natV (l : List Nat) : List Value := l.map fun (k : Nat) => Value.int .i64 (k : Int)

set_option maxHeartbeats 400000 in
theorem sortE_any (base bx eb fb : Nat) (A A1 A2 A3 : Option Addr) (n c n1 c1 n2 c2 n3 c3 : Nat) (rk : List Int) (l : List Nat) (w : World) (h : w.ownsRow base 3 1 (.slice A n c) n (natV l))
    (hx : w.cell? ⟨bx, 0, none⟩ = some (.pointer (some ⟨eb, 0, none⟩))) (hE : EvB w eb fb A1 A2 A3 n1 c1 n2 c2 n3 c3) (h3 : RdI w base A3 n3 rk) (hbx : bx < base) (heb : eb < base)
    (hl : ∀ k ∈ l, k < n3) (hn : n3 ≤ 1000000) (hn2 : n ≤ 1000000) (hb : ∀ j : Nat, -1000000 ≤ rk[j]?.getD 0 ∧ rk[j]?.getD 0 ≤ 1000000) :
    Calls Tryz.prog 55 #[.slice A n c, .func (.func 56) #[] #[.pointer (some ⟨bx, 0, none⟩)]] w fun e w' =>
      e = .returned (.tuple #[]) ∧ w'.ownsRow base 3 1 (.slice A n c) n (natV (sortE rk l)) ∧ w.grownBy w' (Value.slice A n c).ownBlock := by
  have hll : l.length = n := by have := h.1; simpa [natV] using this
  rcases Nat.eq_zero_or_pos n with h0 | h0
  · subst h0
    refine (Tryz.slices_SortFunc_none (α := Int) A c _ w).mono ?_
    rintro e w' ⟨rfl, rfl⟩
    have : l = [] := List.eq_nil_of_length_eq_zero hll
    subst this
    exact ⟨rfl, by simpa [sortE] using h, ⟨rfl, rfl, rfl, Nat.le_refl _, fun _ _ _ => rfl⟩⟩
  · obtain ⟨g, cap, hv, hg, hlt⟩ := h.form h0
    injection hv with e1 e2 e3
    subst e1
    have hn3 : 0 < n3 := by
      cases l with
      | nil => simp at hll; omega
      | cons k l => have := hl k (by simp); omega
    obtain ⟨m, rfl⟩ : ∃ m, n3 = m + 1 := ⟨n3 - 1, by omega⟩
    let enc : Fin (m + 1) → Value := fun k => Value.int .i64 (k.val : Int)
    let lf : List (Fin (m + 1)) := l.pmap (fun k hk => ⟨k, hk⟩) hl
    have hlf : lf.map (fun k => k.val) = l := by simp [lf, List.map_pmap]
    have hlen : lf.toArray.size = n := by simp [lf, hll]
    have hd : lf.toArray.toList.map enc = natV l := by
      show lf.map enc = natV l
      rw [natV, ← hlf, List.map_map]
      rfl
    have eg : ∀ args w, (callFunc 56 args).run Tryz.prog w = .ok (.enter 56 args) w := enters_of Tryz.func56 (by kernel_rfl) rfl
    have hcmp : CmpReads Tryz.prog 56 #[.pointer (some ⟨bx, 0, none⟩)] enc (fun i k : Fin (m + 1) => cfE rk i.val k.val) g 0 lf.toArray.size w := by
      intro q os dk hs x y
      have hsz : dk.size = n := by rw [hs, hlen]
      obtain ⟨_, hgr⟩ := sort_left (enc := enc) (d := dk) (m := q) (os := os) h hsz
      have hbel : Below base w (grow (putRow enc (Sort.ahead w q) g 0 dk) os) :=
        ⟨hgr.os, hgr.tape, hgr.output, hgr.size, fun k hk => hgr.block k (by omega) (fun e => by injection e with e; omega)⟩
      exact leaveCmp_any bx eb fb A1 A2 A3 n1 c1 n2 c2 (m + 1) c3 base x.val y.val rk _ ((hbel.cell (p := ⟨bx, 0, none⟩) hbx).trans hx) (hE.below hbel heb) (h3.below hbel) x.isLt y.isLt hn hb
    have hS := Tryz.slices_SortFunc_total enc (fun _ => rfl) (fun i k : Fin (m + 1) => cfE rk i.val k.val) (swoE rk m) 56 #[.pointer (some ⟨bx, 0, none⟩)] g 0 c lf.toArray w eg hcmp.lays (sort_holds h hd) hlt (by rw [hlen]; omega) (totE rk m)
    rw [hlen] at hS
    refine hS.mono ?_
    rintro e w' ⟨rfl, q, os, rfl⟩
    obtain ⟨h1, h2⟩ := sort_left (enc := enc) (d := (lf.toArray.toList.mergeSort fun x y => !(ltOf fun i k : Fin (m + 1) => cfE rk i.val k.val) y x).toArray) (m := q) (os := os) h (by simp [lf, hll])
    refine ⟨rfl, ?_, h2⟩
    have hm : (lf.mergeSort fun x y => !(ltOf fun i k : Fin (m + 1) => cfE rk i.val k.val) y x).map (fun k => k.val) = sortE rk l := by
      rw [sortE, ← hlf]
      exact List.map_mergeSort fun a _ b _ => by show (!decide (cfE rk b.val a.val < 0)) = _; rw [cfE_lt]
    have : (lf.mergeSort fun x y => !(ltOf fun i k : Fin (m + 1) => cfE rk i.val k.val) y x).map enc = natV (sortE rk l) := by
      rw [natV, ← hm, List.map_map]
      rfl
    rw [← this]
    exact h1
end Go.Proofs.YtkcflajhmekcaaaGreat
