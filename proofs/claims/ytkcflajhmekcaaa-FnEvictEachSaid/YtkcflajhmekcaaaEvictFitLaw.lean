/- The walk of the law FnEvict. -/
import Derived.Test.YtkcflajhmekcaaaEvictLawPure
import Derived.Test.YtkcflajhmekcaaaEvictRankLaw
namespace Go.Proofs.Ytkcflajhmekcaaa
open Go Go.RowKit
attribute [local go_sem ↓] Go.wp_at_zero Go.wp_at_succ

/-- An append that a guard has let through. -/
theorem wpList_append_srcG {P : Program} {w : World} {ops : Array Oper} {rest : List Oper} {o : Oper} {a : Act} {Q : Exit → Act → World → Prop} (hgd : Region.wanted o (yielded ops a.tmps) = true) (s x : Operand) (t : TypeId)
    (ho : o.op = .call { callee := .builtin .append, args := #[s, x], argTypes := #[t, t] })
    (base : Nat) (e : TypeId) (i : TypeInfo) (z : Value) (size bytes : Nat) (ht : P.underlying t = some (.slice e)) (hi : P.info? e = some i) (hz : i.zero = some z)
    (hsize : i.size = size) (hby : i.bytes = bytes) (hzs : z.cells.size = size) (hsz : 0 < size)
    (v : Value) (n : Nat) (xs : List Value) (hs : a.eval s = v) (hown : w.ownsRow base e size v n xs)
    (A : Option Addr) (m c : Nat) (news : List Value) (hx : a.eval x = .slice A m c) (hr : Src w size A m news) (h1 : ∀ u ∈ news, u.oneCell' = true)
    (h63 : n + m ≤ maxLen) (hbytes : (n + m) * bytes ≤ 140737488355328) (hbase : base ≤ w.heap.size)
    (h : ∀ v' w', w'.ownsRow base e size v' (n + m) (xs ++ news) → w.grownBy w' v.ownBlock → (v'.ownBlock = v.ownBlock ∨ v'.ownBlock = some w.heap.size) → wpList P ops Q rest (a.put o.dst v') w') : wpList P ops Q (o :: rest) a w :=
  wpList_step fun K hK => by
    rw [if_pos hgd]
    exact wp_append_src w s x t ho base e i z size bytes ht hi hz hsize hby hzs hsz v n xs hs hown A m c news hx hr h1 h63 hbytes hbase fun v' w' h2 h3 h4 => hK _ _ (h v' w' h2 h3 h4)

/-- Where in the list one who leaves stands. -/
theorem listG_idx {g : Nat → Bool} {n i : Nat} (hi : i < n) : (g i = true → (listG g i).length < (listG g n).length ∧ (listG g n)[(listG g i).length]?.getD 0 = (i : Int)) ∧
    (g i = false → ¬ ((listG g i).length < (listG g n).length ∧ (listG g n)[(listG g i).length]?.getD 0 = (i : Int))) := by
  have hsp : ∀ d, ∃ l : List Int, listG g (i + 1 + d) = listG g (i + 1) ++ l ∧ ∀ x ∈ l, (i : Int) < x := by
    intro d
    induction d with
    | zero => exact ⟨[], by simp, by simp⟩
    | succ d ih =>
      obtain ⟨l, h1, h2⟩ := ih
      refine ⟨l ++ (if g (i + 1 + d) = true then [((i + 1 + d : Nat) : Int)] else []), ?_, ?_⟩
      · rw [← Nat.add_assoc, listG_succ, h1, List.append_assoc]
      · intro x hx
        rcases List.mem_append.1 hx with hx | hx
        · exact h2 x hx
        · split at hx
          · simp only [List.mem_singleton] at hx; omega
          · cases hx
  obtain ⟨l, h1, h2⟩ := hsp (n - (i + 1))
  rw [show i + 1 + (n - (i + 1)) = n by omega, listG_succ] at h1
  constructor
  · intro hg
    rw [hg, if_pos rfl] at h1
    rw [h1]
    refine ⟨by simp, ?_⟩
    rw [List.append_assoc, List.getElem?_append_right (Nat.le_refl _), Nat.sub_self]
    rfl
  · intro hg
    rw [hg, if_neg (by simp), List.append_nil] at h1
    rw [h1]
    rintro ⟨h3, h4⟩
    rw [List.getElem?_append_right (Nat.le_refl _), Nat.sub_self] at h4
    cases l with
    | nil => simp at h3
    | cons x l =>
      have := h2 x (by simp)
      simp at h4
      omega

set_option maxRecDepth 100000 in
set_option maxHeartbeats 3200000 in
theorem evict_walk (A : Option Addr) (n c : Nat) (w : World) (h : RdU w w.heap.size A n) (hc : n ≤ c) (hcm : c ≤ 9223372036854775807) :
    Calls Try.prog 3 #[.slice A n c] w fun e w' => e = .returned (.bool true) ∧ Below w.heap.size w w' := by
  obtain ⟨i0, hi0, hz0, hz1, hz2⟩ := info_parts task_info
  by_cases k1 : 1048576 < n
  · go_enter Try.func3, Try.ntmps3
    go_wp2
    go_ret
    exact ⟨rfl, Below.refl _ _⟩
  go_enter Try.func3, Try.ntmps3
  go_wp2_with fail
  refine (drawEvictList_any A n c w h hc hcm).mono ?_; rintro e w1 ⟨A1, A2, A3, A4, n2, n3, c2, c3, room, ts, rk, id, xs, r, rfl, hR, hc2, hn2, hn3, B1⟩
  have HR := Lib.hid hR
  have HB1 := Lib.hid B1
  have HL2 := Lib.hid hR.b.len
  have B2 := alloc_up w1 (.cells #[.int .i64 id, .slice A4 3 3] 26)
  have hk := Lib.hid (fun w' => box_two 26 w1 (.int .i64 id) (.slice A4 3 3) (w' := w'))
  have sz : (w1.alloc (.cells #[.int .i64 id, .slice A4 3 3] 26)).heap.size = w1.heap.size + 1 := World.size_alloc _ _
  clear hR B1
  obtain ⟨x0, x1⟩ := hk.out _ (Below.refl _ _)
  go_wp2_with fail
  generalize w1.alloc (.cells #[.int .i64 id, .slice A4 3 3] 26) = w2 at B2 hk sz x0 x1 ⊢
  rw [← sz] at hk
  have HR2 := Lib.hid (HR.out.up B2)
  have HB2 := Lib.hid (below_to HB1.out B2)
  clear sz B2
  have hzm : n2 ≤ 1048576 := by omega
  refine (evictListI_any A1 A2 A3 A4 3 3 n2 c2 n3 c3 3 3 room rk ts id xs r w2 HR2.out.a HR2.out.b HR2.out.c HR2.out.d hc2 (Nat.le_refl _) hzm).mono ?_; rintro e w3 ⟨hres, d3⟩
  have D3 := Lib.hid d3
  have HR3 := Lib.hid (HR2.out.up d3)
  have HB3 := Lib.hid (below_to HB2.out d3)
  clear d3 x0 x1
  obtain ⟨x0, x1⟩ := hk.out w3 D3.out
  have hspec := Lib.hid (evictListS_any A1 A2 A3 A4 3 3 n2 c2 n3 c3 3 3 room rk ts id xs r w3 HR3.out.a HR3.out.b HR3.out.c HR3.out.d hc2 (Nat.le_refl _) hzm)
  rcases hres with ⟨hg, rfl⟩ | ⟨g, A5, m5, c5, hg, rfl, hown⟩
  · have Hg := Lib.hid hg
    clear hg
    go_wp2_with fail
    refine hspec.out.mono ?_; rintro e w4 ⟨hres, d4⟩
    have HB4 := Lib.hid (below_to HB3.out d4)
    clear d4 hspec
    rcases hres with ⟨_, A6, c6, rfl⟩ | ⟨g, _, _, _, hg, _, _⟩
    · go_wp2_with fail
      refine (sameInts_any none A6 0 0 c6 0 0 [] _ RdI.nil RdI.nil).mono ?_; rintro e w5 ⟨rfl, m6, rfl⟩
      go_wp2_with fail
      refine (sameInts_any none A6 0 0 c6 0 0 [] _ RdI.nil RdI.nil).mono ?_; rintro e w5 ⟨rfl, m7, rfl⟩
      go_wp2
      go_ret
      exact ⟨rfl, below_drewN HB4.out _⟩
    · rw [Hg.out] at hg; cases hg
  have hlen := own_len hown
  have hm5 : m5 ≤ 8 := by have := listG_len g ts.length; have := HL2.out; omega
  have R5' := Lib.hid (own_rdI hown (by omega))
  have Hlen := Lib.hid hlen
  have Hown := Lib.hid hown
  have Hg := Lib.hid hg
  obtain ⟨hok, hgo⟩ := evP_facts hg
  have Hok := Lib.hid hok
  have Hgo := Lib.hid hgo
  clear hg hlen hown hok hgo
  go_wp2_with fail
  refine hspec.out.mono ?_; rintro e w4 ⟨hres, d4⟩
  have HB4 := Lib.hid (below_to HB3.out d4)
  have D4 := Lib.hid (below_to D3.out d4)
  have HR4 := Lib.hid (HR3.out.up d4)
  have R5 := Lib.hid (R5'.out.up d4)
  clear d4 hspec x0 x1 R5'
  rcases hres with ⟨hg, _⟩ | ⟨g', A6, m6, c6, hg, rfl, hown⟩
  · rw [Hg.out] at hg; cases hg
  obtain rfl : g = g' := by rw [Hg.out] at hg; injection hg
  have hlen := own_len hown
  obtain rfl : m5 = m6 := by have := Hlen.out; omega
  have R6 := Lib.hid (own_rdI hown (by omega))
  clear hg hlen hown
  go_wp2_with fail
  refine (sameInts_any A5 A6 m5 c5 c6 _ _ _ _ R5.out R6.out).mono ?_; rintro e w5 ⟨rfl, m7, rfl⟩
  have HB5 := Lib.hid (below_drewN HB4.out m7)
  have D5 := Lib.hid (below_drewN D4.out m7)
  have HR5 := Lib.hid (HR4.out.up (drew_below w4 m7))
  have R55 := Lib.hid (R5.out.up (drew_below w4 m7))
  have R65 := Lib.hid (R6.out.up (drew_below w4 m7))
  have HRw := Lib.hid HR5.out
  have HBw := Lib.hid HB5.out
  have DW := Lib.hid D5.out
  have RO := Lib.hid R55.out
  generalize (w4.drewN m7) = v0 at HRw HBw DW RO ⊢
  clear HR5 HB5 D5 R55 R65 HR4 HB4 D4 R5 R6 HR3 HB3 D3 HR2 HB2 Hown
  have Ow0 := Lib.hid (show (v0.alloc (.cells #[] 26)).ownsRow v0.heap.size 26 2 (.slice (some ⟨v0.heap.size, 0, none⟩) 0 0) 0 [] from World.ownsRow_made v0 #[] 0 (Nat.le_refl _) (by unfold maxLen; omega) rfl)
  have Bw0 := Lib.hid (alloc_up v0 (.cells #[] 26))
  have HIx := Lib.hid (fun i (hi : i < ts.length) => listG_idx (g := g) hi)
  have HRk := Lib.hid (show ∀ j : Nat, g j = true → rk[j]?.getD 0 < r from fun j hj => ((goneP_spec Hgo.out).2 j hj).2)
  have l3 := Lib.hid HRw.out.c.len
  obtain ⟨_, _, _, _, f5, _, _, _⟩ := evOk_facts Hok.out
  have en : n3 = n2 := by have := l3.out; have := HL2.out; omega
  have ts_ := Lib.hid (evRoom Hg.out)
  clear f5
  subst en
  go_wp2_with fail
  go_loopw [12, 13, 14] (fun v d i wr => ∃ (k : Nat) (A0 : Option Addr) (m0 c0 : Nat) (vs : List Value), i = .int .i64 k ∧ k ≤ n3 ∧ d = .int .i64 (listG g k).length ∧ v = .slice A0 m0 c0 ∧ Below v0.heap.size v0 wr ∧ Hid (m0 = (keptP ts g k).length) ∧
    wr.ownsRow v0.heap.size 26 2 (.slice A0 m0 c0) m0 vs ∧ TkCells wr v0.heap.size vs (keptP ts g k)) (fun _ _ i _ => n3 - (intOf i).toNat)
  case atStart => exact ⟨0, _, _, _, [], rfl, Nat.zero_le _, rfl, rfl, Bw0.out, Lib.hid rfl, Ow0.out, TkCells.nil⟩
  case round =>
    clear Ow0 Bw0
    obtain ⟨k, A0, m0, c0, vs, rfl, hk', rfl, rfl, Hbel0, hm, hown, htk⟩ := hrel
    have Hbel := Lib.hid Hbel0
    have Hown := Lib.hid hown
    have Htk := Lib.hid htk
    clear hown htk
    by_cases hlt : k < n3
    · obtain ⟨b1, o1, A3', m3, c3', rfl, lb1, hc1, hc3, hle3, hr3⟩ := (HRw.out.b.below Hbel0).at_ hlt
      obtain ⟨b2, o2, rfl, lb2, hcr⟩ := (HRw.out.c.below Hbel0).at_ hlt
      have Hr3 := Lib.hid hr3
      have lz := Hbel0.size
      have lm : m0 ≤ 8 := by have := keptP_len ts g k; have := hm.out; omega
      have hix := HIx.out k (by have := HL2.out; omega)
      have lk := listG_len g k
      have hs := listG_succ g k
      have kk1 : (0 : Int) ≤ (k : Int) := by omega
      have kk2 : (k : Int) < (n3 : Int) := by omega
      clear hr3 Hbel0
      generalize hp : (listG g k).length = p at hix lk ⊢
      have Hp := Lib.hid hp
      clear hp
      cases hgk : g k with
      | true =>
        obtain ⟨h1, h2⟩ := hix.1 hgk
        have hlp : p < m5 := by have := Hlen.out; omega
        obtain ⟨b3, o3, rfl, lb3, hco⟩ := (RO.out.below Hbel.out).at_ hlp
        rw [h2] at hco
        have hrk := HRk.out k hgk
        have hs' := Lib.hid (show (listG g (k + 1)).length = p + 1 by rw [hs, hgk, if_pos rfl, List.length_append, Hp.out]; rfl)
        have d1 : decide ((p : Int) < (m5 : Int)) = true := by simp; omega
        have d2 : decide (r ≤ rk[k]?.getD 0) = false := by simp; omega
        have p1 : (0 : Int) ≤ (p : Int) := by omega
        have p2 : (p : Int) < (m5 : Int) := by omega
        have Hgk := Lib.hid hgk
        clear hix h1 h2 hrk hs hgk
        go_wp2_with fail
        go_roundw
        case measure => simp [intOf]; omega
        case rel => exact ⟨k + 1, A0, m0, c0, vs, by go_num, by omega, by rw [hs'.out]; go_num, rfl, Hbel.out, by rw [keptP, if_pos Hgk.out]; exact hm, Hown.out, by rw [keptP, if_pos Hgk.out]; exact Htk.out⟩
      | false =>
        have hno := hix.2 hgk
        have hs' := Lib.hid (show (listG g (k + 1)).length = p by rw [hs, hgk, if_neg (by simp), List.append_nil, Hp.out])
        have Hgk := Lib.hid hgk
        clear hix hs hgk
        by_cases hpm : p < m5
        · obtain ⟨b3, o3, rfl, lb3, hco⟩ := (RO.out.below Hbel.out).at_ hpm
          have hne : ¬ (listG g ts.length)[p]?.getD 0 = (k : Int) := fun e => hno ⟨by have := Hlen.out; omega, e⟩
          have d1 : decide ((p : Int) < (m5 : Int)) = true := by simp; omega
          have d2 : ((listG g ts.length)[p]?.getD 0 == (k : Int)) = false := by simpa using hne
          have p1 : (0 : Int) ≤ (p : Int) := by omega
          have p2 : (p : Int) < (m5 : Int) := by omega
          clear hno hne
          have Hal := Lib.hid (alloc_up wr (.cells #[.int .i64 (ts[k]?.getD (0, [])).1, .slice A3' m3 c3'] 26))
          have Ho := Lib.hid (own_keep Hown.out (w' := wr.alloc (.cells #[.int .i64 (ts[k]?.getD (0, [])).1, .slice A3' m3 c3'] 26)) (fun b hb => Below.heap_alloc _ _ _ (Hown.out.lt b hb).2))
          have Hx := Lib.hid (own_src (own_built (w := wr) (base := 0) 26 (.int .i64 (ts[k]?.getD (0, [])).1) (.slice A3' m3 c3') (by omega)))
          have lz1 : v0.heap.size ≤ (wr.alloc (.cells #[.int .i64 (ts[k]?.getD (0, [])).1, .slice A3' m3 c3'] 26)).heap.size := by simp; omega
          go_wp2_with (at_builtin; refine wpList_append_src _ rfl _ _ 24 rfl v0.heap.size 26 i0 _ 2 32 Try.underlying24 hi0 hz0 hz1 hz2 rfl (by omega) (.slice A0 m0 c0) m0 vs rfl Ho.out (some ⟨wr.heap.size, 0, none⟩) 1 1 [.int .i64 (ts[k]?.getD (0, [])).1, .slice A3' m3 c3'] rfl Hx.out (by simp [Value.oneCell']) (by unfold maxLen; omega) (by omega) lz1 ?_; intro v' w9 hown9 hgrow hat)
          have hb' : Below v0.heap.size v0 w9 := (Hbel.out.alloc lz _).grown hgrow lz1 (fun j e => (Ho.out.lt j e).1)
          have ht' := ((Htk.out.keep (w' := wr.alloc (.cells #[.int .i64 (ts[k]?.getD (0, [])).1, .slice A3' m3 c3'] 26)) (fun p hp => Hal.out.cell (by omega)) (Nat.le_refl _)).append (TkCells.single (id := (ts[k]?.getD (0, [])).1) (Hr3.out.keep (w' := wr.alloc (.cells #[.int .i64 (ts[k]?.getD (0, [])).1, .slice A3' m3 c3'] 26)) (fun p hp => Hal.out.cell (by omega)) (Nat.le_refl _)) hle3)).below ((Below.refl v0.heap.size _).grown hgrow lz1 (fun j e => (Ho.out.lt j e).1))
          obtain ⟨A9, c9, rfl⟩ := own_shape hown9
          have Hown9 := Lib.hid hown9
          have Ht := Lib.hid ht'
          have Hb' := Lib.hid hb'
          clear hown9 ht' hgrow hat hb' Hal Ho Hx
          go_roundw
          case measure => simp [intOf]; omega
          case rel => exact ⟨k + 1, A9, m0 + 1, c9, _, by go_num, by omega, by rw [hs'.out], rfl, Hb'.out, Lib.hid (by rw [keptP, if_neg (by rw [Hgk.out]; simp), List.length_append, ← hm.out]; rfl), Hown9.out, by rw [keptP, if_neg (by rw [Hgk.out]; simp)]; exact Ht.out⟩
        · have d1 : decide ((p : Int) < (m5 : Int)) = false := by simp; omega
          clear hno
          have Hal := Lib.hid (alloc_up wr (.cells #[.int .i64 (ts[k]?.getD (0, [])).1, .slice A3' m3 c3'] 26))
          have Ho := Lib.hid (own_keep Hown.out (w' := wr.alloc (.cells #[.int .i64 (ts[k]?.getD (0, [])).1, .slice A3' m3 c3'] 26)) (fun b hb => Below.heap_alloc _ _ _ (Hown.out.lt b hb).2))
          have Hx := Lib.hid (own_src (own_built (w := wr) (base := 0) 26 (.int .i64 (ts[k]?.getD (0, [])).1) (.slice A3' m3 c3') (by omega)))
          have lz1 : v0.heap.size ≤ (wr.alloc (.cells #[.int .i64 (ts[k]?.getD (0, [])).1, .slice A3' m3 c3'] 26)).heap.size := by simp; omega
          go_wp2_with (at_builtin; refine wpList_append_src _ rfl _ _ 24 rfl v0.heap.size 26 i0 _ 2 32 Try.underlying24 hi0 hz0 hz1 hz2 rfl (by omega) (.slice A0 m0 c0) m0 vs rfl Ho.out (some ⟨wr.heap.size, 0, none⟩) 1 1 [.int .i64 (ts[k]?.getD (0, [])).1, .slice A3' m3 c3'] rfl Hx.out (by simp [Value.oneCell']) (by unfold maxLen; omega) (by omega) lz1 ?_; intro v' w9 hown9 hgrow hat)
          have hb' : Below v0.heap.size v0 w9 := (Hbel.out.alloc lz _).grown hgrow lz1 (fun j e => (Ho.out.lt j e).1)
          have ht' := ((Htk.out.keep (w' := wr.alloc (.cells #[.int .i64 (ts[k]?.getD (0, [])).1, .slice A3' m3 c3'] 26)) (fun p hp => Hal.out.cell (by omega)) (Nat.le_refl _)).append (TkCells.single (id := (ts[k]?.getD (0, [])).1) (Hr3.out.keep (w' := wr.alloc (.cells #[.int .i64 (ts[k]?.getD (0, [])).1, .slice A3' m3 c3'] 26)) (fun p hp => Hal.out.cell (by omega)) (Nat.le_refl _)) hle3)).below ((Below.refl v0.heap.size _).grown hgrow lz1 (fun j e => (Ho.out.lt j e).1))
          obtain ⟨A9, c9, rfl⟩ := own_shape hown9
          have Hown9 := Lib.hid hown9
          have Ht := Lib.hid ht'
          have Hb' := Lib.hid hb'
          clear hown9 ht' hgrow hat hb' Hal Ho Hx
          go_roundw
          case measure => simp [intOf]; omega
          case rel => exact ⟨k + 1, A9, m0 + 1, c9, _, by go_num, by omega, by rw [hs'.out], rfl, Hb'.out, Lib.hid (by rw [keptP, if_neg (by rw [Hgk.out]; simp), List.length_append, ← hm.out]; rfl), Hown9.out, by rw [keptP, if_neg (by rw [Hgk.out]; simp)]; exact Ht.out⟩
    · have ek : k = ts.length := by have := HL2.out; omega
      have d1 : (((listG g k).length : Int) == (m5 : Int)) = true := by rw [ek, Hlen.out]; simp
      have hts := Lib.hid (show keptP ts g k = keptP ts g ts.length by rw [ek])
      have Ek := Lib.hid ek
      clear ek
      rw [← hts.out] at ts_
      generalize ((listG g k).length : Int) = p at d1 ⊢
      obtain ⟨x0, x1⟩ := hk.out wr (below_to DW.out Hbel0)
      have lm' : m0 ≤ 8 := by have := keptP_len ts g k; have := hm.out; omega
      have lz := Hbel.out.size
      have HX := Lib.hid (own_src (own_built (w := wr) (base := 0) 26 (.int .i64 id) (.slice A4 3 3) (by omega)))
      have Ho := Lib.hid (own_keep Hown.out (w' := wr.alloc (.cells #[.int .i64 id, .slice A4 3 3] 26)) (fun b hb => Below.heap_alloc _ _ _ (Hown.out.lt b hb).2))
      have lz1 : v0.heap.size ≤ (wr.alloc (.cells #[.int .i64 id, .slice A4 3 3] 26)).heap.size := by simp; omega
      go_wp2_with (at_builtin; refine wpList_append_srcG (by rfl) _ _ 24 rfl v0.heap.size 26 i0 _ 2 32 Try.underlying24 hi0 hz0 hz1 hz2 rfl (by omega) (.slice A0 m0 c0) m0 vs rfl Ho.out (some ⟨wr.heap.size, 0, none⟩) 1 1 [.int .i64 id, .slice A4 3 3] rfl HX.out (by simp [Value.oneCell']) (by unfold maxLen; omega) (by omega) lz1 ?_; intro v' w9 hown9 hgrow hat; obtain ⟨A9, c9, rfl⟩ := own_shape hown9)
      have hb' : Below v0.heap.size v0 w9 := (Hbel.out.alloc lz _).grown hgrow lz1 (fun j e => (Ho.out.lt j e).1)
      have hdx := HRw.out.d
      have ht' := ((Htk.out.below (alloc_up wr (.cells #[.int .i64 id, .slice A4 3 3] 26) |>.mono lz)).append (TkCells.single (id := id) (hdx.below (Hbel.out.alloc lz (.cells #[.int .i64 id, .slice A4 3 3] 26))) (Nat.le_refl 3))).below ((Below.refl v0.heap.size _).grown hgrow lz1 (fun j e => (Ho.out.lt j e).1))
      have hcap := own_cap hown9
      have HT9 := Lib.hid (RdT.of_own hown9 ht' hb'.size (by omega))
      have HB9 := Lib.hid hb'
      have SZ9 := hb'.size
      clear hown9 ht' hgrow hat hb' hdx Ho HX x0 x1
      have HB10 := Lib.hid (HB9.out.alloc SZ9 (.cells #[.slice A9 (m0 + 1) c9] 24))
      have HR10 := Lib.hid (RdB.one (Blk.new w9 24 #[.slice A9 (m0 + 1) c9]) hcap (HT9.out.up (alloc_up w9 _)))
      go_wp2_with fail
      refine (binsValidI_any A1 _ 3 3 1 1 room _ _ (HRw.out.a.up HB10.out) HR10.out (by have := hm.out; have := keptP_len ts g k; simp; omega)).mono ?_; rintro e w11 ⟨rfl, hb11⟩
      rw [ts_.out]
      go_wp2
      go_ret
      exact ⟨rfl, below_to HBw.out (below_to HB10.out hb11)⟩


end Go.Proofs.Ytkcflajhmekcaaa
