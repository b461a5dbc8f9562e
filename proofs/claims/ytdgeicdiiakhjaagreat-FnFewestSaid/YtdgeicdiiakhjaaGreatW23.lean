/- Several texts in one. -/
import Derived.Test.YtdgeicdiiakhjaaGreatW22
import Derived.Test.YtdgeicdiiakhjaaGreatW15
import Derived.StillTailTactics
import Derived.Test.YtdgeicdiiakhjaaGreatW13
import Derived.Test.YtdgeicdiiakhjaaGreatW2
import Derived.Test.YtdgeicdiiakhjaaGreatW9
import Derived.Test.YtdgeicdiiakhjaaGreatW12
import Derived.Deep.Cut
namespace Go.Proofs.YtdgeicdiiakhjaaGreat
set_option linter.unusedSimpArgs false
set_option linter.unusedVariables false
open Go Go.RowKit
attribute [local go_sem ↓] Go.wp_at_zero Go.wp_at_succ

theorem same_calls {P : Program} {f : FuncId} {args : Array Value} {w : World} {v : Value} (h : Calls P f args w fun e w' => e = .returned v ∧ w = w') : Calls P f args w fun e w' => e = .returned v ∧ w' = w :=
  h.mono (fun e w' h => ⟨h.1, h.2.symm⟩)
set_option maxRecDepth 100000 in
set_option maxHeartbeats 1600000 in
theorem compare_any (A1 A2 : Option Addr) (n1 c1 n2 c2 : Nat) (id1 id2 : Int) (xs ys : List Int) (w : World) (h1 : RdI w w.heap.size A1 n1 xs) (h2 : RdI w w.heap.size A2 n2 ys) (l1 : n1 ≤ 1000) (l2 : n2 ≤ 1000)
    (b1 : ∀ x ∈ xs, -1000000 ≤ x ∧ x ≤ 1000000) (b2 : ∀ x ∈ ys, -1000000 ≤ x ∧ x ≤ 1000000) :
    Calls Tryz.prog 116 #[.agg #[.int .i64 id1, .slice A1 n1 c1], .agg #[.int .i64 id2, .slice A2 n2 c2]] w fun e w' => e = .returned (.int .i64 (compP (id1, xs) (id2, ys))) ∧ Below w.heap.size w w' := by
  have B2 := qh ((alloc_up w (.cells #[.int .i64 id1, .slice A1 n1 c1] 43)).alloc (World.size_alloc _ _ ▸ Nat.le_succ _) (.cells #[.int .i64 id2, .slice A2 n2 c2] 43))
  have Z1 := qh ((Blk.new w 43 #[.int .i64 id1, .slice A1 n1 c1]).alloc (.cells #[.int .i64 id2, .slice A2 n2 c2] 43))
  have Z2 := Blk.new (w.alloc (.cells #[.int .i64 id1, .slice A1 n1 c1] 43)) 43 #[.int .i64 id2, .slice A2 n2 c2]
  rw [World.size_alloc] at Z2
  have Z2 := qh Z2
  have H1 := qh h1
  have H2 := qh h2
  have Hb1 := qh b1
  have Hb2 := qh b2
  clear h1 h2 b1 b2
  go_enter Tryz.func116, Tryz.ntmps116
  go_wp2_with fail
  generalize (w.alloc (.cells #[.int .i64 id1, .slice A1 n1 c1] 43)).alloc (.cells #[.int .i64 id2, .slice A2 n2 c2] 43) = w2 at B2 Z1 Z2 ⊢
  have R1 := qh (show RdI w2.drew w2.heap.size A1 n1 xs from H1.out.up B2.out.drew)
  have R2 := qh (show RdI w2.drew w2.heap.size A2 n2 ys from H2.out.up B2.out.drew)
  have x0 := Z1.out.cell 0
  have x1 := Z1.out.cell 1
  have y0 := Z2.out.cell 0
  have y1 := Z2.out.cell 1
  simp only [gT, gZ, gS] at x0 x1 y0 y1
  refine wp_region_still_tail 12 (by kernel_rfl) (by kernel_rfl) ?_
  simp only [List.take_succ_cons, List.take_zero, List.drop_succ_cons, List.drop_zero]
  still_step
  still_step
  still_call (same_calls (total_any A2 n2 c2 _ ys _ R2.out l2 Hb2.out))
  still_step
  still_step
  still_call (same_calls (total_any A1 n1 c1 _ xs _ R1.out l1 Hb1.out))
  still_call (same_calls (cmpInt_any _ _ _))
  still_step
  still_step
  still_step
  still_step
  still_call (same_calls (cmpInt_any _ _ _))
  refine wpStill_nil ?_
  change wpList _ _ _ _ _ w2.drew
  go_wp2_with (go_at_call 117; refine (orTwo_any _ _ _ _ _ ((Blk.new _ _ _).cell 0) ((Blk.new _ _ _).cell 1)).mono ?_; rintro e w' ⟨rfl, rfl⟩)
  go_ret
  exact ⟨rfl, (B2.out.drew).alloc (by have := B2.out.size; exact this) _⟩

/-- Sums of needs are small. -/
def SmT (ts : List Tk) : Prop := ∀ t ∈ ts, t.2.length ≤ 1000 ∧ ∀ x ∈ t.2, -1000000 ≤ x ∧ x ≤ 1000000
theorem SmT.at_ {ts : List Tk} (h : SmT ts) {i : Nat} (hi : i < ts.length) : (gTk ts i).2.length ≤ 1000 ∧ ∀ x ∈ (gTk ts i).2, -1000000 ≤ x ∧ x ≤ 1000000 := by
  unfold gTk
  rw [List.getElem?_eq_getElem hi]
  exact h _ (List.getElem_mem hi)
theorem SmT.perm {ts us : List Tk} (h : SmT ts) (hp : us.Perm ts) : SmT us := fun t ht => h t (hp.subset ht)
set_option maxRecDepth 100000 in
set_option maxHeartbeats 1600000 in
theorem less_any (base g n c i k : Nat) (vs : List Value) (ts : List Tk) (w : World) (ho : w.ownsRow base 43 2 (.slice (some ⟨g, 0, none⟩) n c) n vs) (hn : NdR w base n vs ts) (hs : SmT ts) (hi : i < n) (hk : k < n) :
    Calls Tryz.prog 114 #[.slice (some ⟨g, 0, none⟩) n c, .int .i64 (i : Int), .int .i64 (k : Int)] w fun e w' => e = .returned (.bool (befP (gTk ts i) (gTk ts k))) ∧ Below w.heap.size w w' := by
  have hl := hn.1
  have hr := NdR.rd hn ho
  have hle := hr.le
  obtain ⟨b, o, Ai, mi, ci, e1, _, p0, p1, _, hI⟩ := hr.at_ hi
  obtain ⟨b', o', Ak, mk, ck, e2, _, q0, q1, _, hK⟩ := hr.at_ hk
  injection e1 with e1; injection e1 with e1 e1'; subst e1 e1'
  injection e2 with e2; injection e2 with e2 e2'; subst e2 e2'
  rw [Nat.zero_add] at p0 p1 q0 q1
  have si := hs.at_ (i := i) (by omega)
  have sk := hs.at_ (i := k) (by omega)
  change w.cell? _ = some (.int .i64 (gTk ts i).1) at p0
  change w.cell? _ = some (.int .i64 (gTk ts k).1) at q0
  change RdI w w.heap.size Ai mi (gTk ts i).2 at hI
  change RdI w w.heap.size Ak mk (gTk ts k).2 at hK
  have li : mi ≤ 1000 := by have := hI.len; omega
  have lk : mk ≤ 1000 := by have := hK.len; omega
  have HI := qh (show RdI w.drew w.heap.size Ai mi (gTk ts i).2 from hI)
  have HK := qh (show RdI w.drew w.heap.size Ak mk (gTk ts k).2 from hK)
  have i3 : 0 ≤ (i : Int) * 2 := by omega
  have k3 : 0 ≤ (k : Int) * 2 := by omega
  have SI := qh si.2
  have SK := qh sk.2
  have i0 : (0 : Int) ≤ (i : Int) := by omega
  have i1 : (i : Int) < (n : Int) := by omega
  have k0 : (0 : Int) ≤ (k : Int) := by omega
  have k1 : (k : Int) < (n : Int) := by omega
  have hcb := qh (comp_bef (gTk ts i) (gTk ts k))
  have he1 : ((gTk ts i).1, (gTk ts i).2) = gTk ts i := rfl
  have he2 : ((gTk ts k).1, (gTk ts k).2) = gTk ts k := rfl
  clear hn ho hr hs hI hK si sk hi hk hl he1 he2
  generalize gTk ts i = ti at *
  generalize gTk ts k = tk at *
  go_enter Tryz.func114, Tryz.ntmps114
  go_wp2_with fail
  go_still_tail 8, (by kernel_rfl)
  change wpList _ _ _ _ _ w.drew
  go_wp2_with (go_at_call 116; refine (compare_any Ai Ak mi ci mk ck ti.1 tk.1 ti.2 tk.2 _ HI.out HK.out li lk SI.out SK.out).mono ?_; rintro e w' ⟨rfl, hb⟩; have HB := qh hb; clear hb)
  go_ret
  exact ⟨ret_bool hcb.out, (Below.refl _ w).drew.trans HB.out⟩
end Go.Proofs.YtdgeicdiiakhjaaGreat

namespace Go.Proofs.YtdgeicdiiakhjaaGreat
set_option linter.unusedSimpArgs false
set_option linter.unusedVariables false
open Go Go.RowKit
attribute [local go_sem ↓] Go.wp_at_zero Go.wp_at_succ

set_option maxHeartbeats 800000 in
theorem l4Sum_any (A : Option Addr) (n c B : Nat) (xs : List Int) (w : World) (h : RdI w B A n xs) (hn : n ≤ 1000) (hb : ∀ x ∈ xs, -1000000 ≤ x ∧ x ≤ 1000000) :
    Calls Tryz.prog 95 #[.slice A n c] w fun e w' => e = .returned (.int .i64 xs.sum) ∧ w = w' := by
  have hl := qh h.len
  have H := qh h
  have Hb := qh (sum_bd hb)
  have Hx := qh hb
  clear h hb
  go_enter Tryz.func95, Tryz.ntmps95
  go_wp2
  go_loop [3, 4] (fun s i => ∃ k : Nat, i = .int .i64 k ∧ k ≤ n ∧ s = .int .i64 (xs.take k).sum) (fun _ i => n - (intOf i).toNat)
  case atStart => exact ⟨0, rfl, Nat.zero_le _, rfl⟩
  case round =>
    obtain ⟨k, rfl, hk, rfl⟩ := hrel
    by_cases hlt : k < n
    · obtain ⟨b, o, rfl, hb, hc⟩ := H.out.at_ hlt
      have Hs := qh (sum_succ (xs := xs) (k := k) (by have := hl.out; omega))
      have hk1 := Hb.out k
      have hk2 := Hb.out (k + 1)
      rw [Hs.out] at hk2
      have v1 : IntKind.i64.wrap ((k : Int) + 1) = (k : Int) + 1 := wr64 (by omega) (by omega)
      have v2 : IntKind.i64.wrap ((xs.take k).sum + xs[k]?.getD 0) = (xs.take k).sum + xs[k]?.getD 0 := wr64 (by omega) (by omega)
      go_wp2
      go_round
      case rel => exact ⟨k + 1, by go_num, by omega, by rw [Hs.out]⟩
      case measure => simp [intOf]; omega
    · go_wp2
      go_ret
      refine ⟨ret_int ?_, rfl⟩
      rw [List.take_of_length_le (by have := hl.out; omega)]

set_option maxRecDepth 100000 in
set_option maxHeartbeats 1600000 in
theorem l4Before_any (A1 A2 : Option Addr) (n1 c1 n2 c2 : Nat) (id1 id2 : Int) (xs ys : List Int) (w : World) (h1 : RdI w w.heap.size A1 n1 xs) (h2 : RdI w w.heap.size A2 n2 ys) (l1 : n1 ≤ 1000) (l2 : n2 ≤ 1000)
    (b1 : ∀ x ∈ xs, -1000000 ≤ x ∧ x ≤ 1000000) (b2 : ∀ x ∈ ys, -1000000 ≤ x ∧ x ≤ 1000000) :
    Calls Tryz.prog 90 #[.agg #[.int .i64 id1, .slice A1 n1 c1], .agg #[.int .i64 id2, .slice A2 n2 c2]] w fun e w' => e = .returned (.bool (befP (id1, xs) (id2, ys))) ∧ Below w.heap.size w w' := by
  have B2 := qh ((alloc_up w (.cells #[.int .i64 id1, .slice A1 n1 c1] 43)).alloc (World.size_alloc _ _ ▸ Nat.le_succ _) (.cells #[.int .i64 id2, .slice A2 n2 c2] 43))
  have Z1 := qh ((Blk.new w 43 #[.int .i64 id1, .slice A1 n1 c1]).alloc (.cells #[.int .i64 id2, .slice A2 n2 c2] 43))
  have Z2 := Blk.new (w.alloc (.cells #[.int .i64 id1, .slice A1 n1 c1] 43)) 43 #[.int .i64 id2, .slice A2 n2 c2]
  rw [World.size_alloc] at Z2
  have Z2 := qh Z2
  have R1 := qh (h1.up B2.out)
  have R2 := qh (h2.up B2.out)
  have Hb1 := qh b1
  have Hb2 := qh b2
  have HE := qh (show befP (id1, xs) (id2, ys) = (decide (ys.sum < xs.sum) || (decide (xs.sum = ys.sum) && decide (id1 < id2))) from rfl)
  clear h1 h2 b1 b2
  go_enter Tryz.func90, Tryz.ntmps90
  have x0 := Z1.out.cell 0
  have x1 := Z1.out.cell 1
  have y0 := Z2.out.cell 0
  have y1 := Z2.out.cell 1
  simp only [gT, gZ, gS] at x0 x1 y0 y1
  go_wp2_with fail
  generalize (w.alloc (.cells #[.int .i64 id1, .slice A1 n1 c1] 43)).alloc (.cells #[.int .i64 id2, .slice A2 n2 c2] 43) = w2 at B2 Z1 Z2 R1 R2 x0 x1 y0 y1 ⊢
  refine (l4Sum_any A1 n1 c1 _ xs _ R1.out l1 Hb1.out).mono ?_; rintro e w3 ⟨rfl, rfl⟩
  go_wp2_with fail
  refine (l4Sum_any A2 n2 c2 _ ys _ R2.out l2 Hb2.out).mono ?_; rintro e w3 ⟨rfl, rfl⟩
  clear Hb1 Hb2 R1 R2 Z1 Z2
  generalize xs.sum = sx at *
  generalize ys.sum = sy at *
  by_cases k1 : sy < sx
  · have d1 : decide (sy < sx) = true := decide_eq_true k1
    clear k1
    go_wp2_with fail
    go_ret
    exact ⟨ret_bool (by rw [HE.out, d1]; rfl), B2.out⟩
  · have d1 : decide (sy < sx) = false := decide_eq_false k1
    by_cases k2 : sx = sy
    · subst k2
      have e1 : (sx == sx) = true := by simp
      clear k1
      go_wp2_with fail
      go_ret
      exact ⟨ret_bool (by rw [HE.out, d1]; simp), B2.out⟩
    · have e1 : (sx == sy) = false := by simpa using k2
      have d2 : decide (sx = sy) = false := decide_eq_false k2
      clear k1 k2
      go_wp2_with fail
      go_ret
      exact ⟨ret_bool (by rw [HE.out, d1, d2]; rfl), B2.out⟩
/-! ### l4Put -/
theorem put_yes {ts : List Tk} {x : Tk} {k : Nat} (hk : k < ts.length) (h : befP x (ts[k]?.getD (0, [])) = true) : putP (ts.drop k) x = x :: (ts[k]?.getD (0, [])) :: ts.drop (k + 1) := by
  rw [List.drop_eq_getElem_cons hk]
  rw [List.getElem?_eq_getElem hk] at h ⊢
  simp only [Option.getD_some] at h ⊢
  rw [putP, if_pos h]
theorem put_no {ts : List Tk} {x : Tk} {k : Nat} (hk : k < ts.length) (h : befP x (ts[k]?.getD (0, [])) = false) : putP (ts.drop k) x = (ts[k]?.getD (0, [])) :: putP (ts.drop (k + 1)) x := by
  rw [List.drop_eq_getElem_cons hk]
  rw [List.getElem?_eq_getElem hk] at h ⊢
  simp only [Option.getD_some] at h ⊢
  rw [putP, if_neg (by simpa using h)]
theorem drop_at {ts : List Tk} {k : Nat} (hk : k < ts.length) : ts.drop k = (ts[k]?.getD (0, [])) :: ts.drop (k + 1) := by
  rw [List.drop_eq_getElem_cons hk, List.getElem?_eq_getElem hk]
  rfl
/-- What l4Put has so far. -/
def PutS (ts : List Tk) (x : Tk) (L : List Tk) (dn : Bool) (k : Nat) : Prop := if dn = true then L ++ ts.drop k = putP ts x else L ++ putP (ts.drop k) x = putP ts x

set_option maxRecDepth 100000 in
set_option maxHeartbeats 6400000 in
theorem l4Put_any (A A3 : Option Addr) (n c n3 c3 : Nat) (id : Int) (xs : List Int) (ts : List Tk) (w : World) (h : RdT w w.heap.size A n ts) (hx : RdI w w.heap.size A3 n3 xs) (hc3 : n3 ≤ c3) (hs : SmT ((id, xs) :: ts)) (hn : n ≤ 1000) :
    Calls Tryz.prog 75 #[.slice A n c, .agg #[.int .i64 id, .slice A3 n3 c3]] w fun e w' => ∃ A' c', e = .returned (.slice A' (n + 1) c') ∧ RdT w' w'.heap.size A' (n + 1) (putP ts (id, xs)) ∧ n + 1 ≤ c' ∧ Below w.heap.size w w' := by
  obtain ⟨t0, ht0, htz0, htz1, htz2⟩ := info_parts task_info
  have Hl := qh h.len
  have H := qh h
  have HX := qh hx
  have Hs := qh hs
  have l3 : n3 ≤ 1000 := by rw [← hx.len]; exact (hs (id, xs) (List.mem_cons_self ..)).1
  have sx := qh (hs (id, xs) (List.mem_cons_self ..)).2
  clear h hx hs
  have sz1 : (w.alloc (.cells #[.int .i64 id, .slice A3 n3 c3] 43)).heap.size = w.heap.size + 1 := World.size_alloc _ _
  have hO := World.ownsRow_lit (base := w.heap.size + 1) (e := 43) (size := 2) (w.alloc (.cells #[.int .i64 id, .slice A3 n3 c3] 43)) #[] 0 (by omega) (by unfold maxLen; omega) rfl
  rw [sz1] at hO
  have O2 := qh (show ((w.alloc (.cells #[.int .i64 id, .slice A3 n3 c3] 43)).alloc (.cells #[] 43)).ownsRow (w.heap.size + 1) 43 2 (.slice (some ⟨w.heap.size + 1, 0, none⟩) 0 0) 0 [] from hO)
  have B2 := qh ((alloc_up w (.cells #[.int .i64 id, .slice A3 n3 c3] 43)).alloc (by rw [sz1]; omega) (.cells #[] 43))
  have Z2 := qh ((Blk.new w 43 #[.int .i64 id, .slice A3 n3 c3]).alloc (.cells #[] 43))
  clear hO sz1
  go_enter Tryz.func75, Tryz.ntmps75
  go_wp2_with fail
  generalize (w.alloc (.cells #[.int .i64 id, .slice A3 n3 c3] 43)).alloc (.cells #[] 43) = w2 at O2 B2 Z2 ⊢
  go_loopw [5, 6, 7] (fun v d kv wr => ∃ (k m5 : Nat) (dn : Bool) (A5 : Option Addr) (c5 : Nat) (vs : List Value) (L : List Tk), kv = .int .i64 (k : Nat) ∧ k ≤ n ∧ d = .bool dn ∧ v = .slice A5 m5 c5 ∧ m5 = k + (if dn then 1 else 0) ∧ Below w.heap.size w wr ∧ w.heap.size + 1 ≤ wr.heap.size ∧ Blk wr w.heap.size 43 #[.int .i64 id, .slice A3 n3 c3] ∧
    wr.ownsRow (w.heap.size + 1) 43 2 (.slice A5 m5 c5) m5 vs ∧ TkCells wr w.heap.size vs L ∧ PutS ts (id, xs) L dn k) (fun _ _ kv _ => n - (intOf kv).toNat)
  case atStart => exact ⟨0, 0, false, _, _, [], [], rfl, Nat.zero_le _, rfl, rfl, rfl, B2.out, by have := Z2.out.lt; omega, Z2.out, O2.out, TkCells.nil, by unfold PutS; rw [if_neg (by simp)]; rfl⟩
  case round =>
    clear B2 Z2 O2
    obtain ⟨k, m5, dn, A5, c5, vs, L, rfl, hk, rfl, rfl, hm5, hb, lz, hz, ho, htk, hp⟩ := hrel
    have B := qh hb
    have Z := qh hz
    have O := qh ho
    have C := qh htk
    have PP := qh hp
    have M5 := qh hm5
    have hm9 : m5 ≤ 1001 := by rw [hm5]; split <;> omega
    clear hb hz ho htk hp hm5
    by_cases hlt : k < n
    · have q1 : (0 : Int) ≤ (k : Int) := by omega
      have q2 : (k : Int) < (n : Int) := by omega
      have q3 : 0 ≤ (k : Int) * 2 := by omega
      have v1 : IntKind.i64.wrap ((k : Int) + 1) = (k : Int) + 1 := wr64 (by omega) (by omega)
      have hkl : k < ts.length := by have := Hl.out; omega
      obtain ⟨b, o, An, mn, cn, rfl, lb, d1, d2, hmn, hnd⟩ := H.out.at_ hlt
      have HND := qh hnd
      have HMN := qh hmn
      have sk := Hs.out (ts[k]?.getD (0, [])) (by rw [List.getElem?_eq_getElem hkl]; exact List.mem_cons_of_mem _ (List.getElem_mem hkl))
      have lmn : mn ≤ 1000 := by rw [← hnd.len]; exact sk.1
      have Sk := qh sk.2
      have Dk := qh (drop_at hkl)
      have Py := qh (fun h => put_yes (x := (id, xs)) hkl h)
      have Pn := qh (fun h => put_no (x := (id, xs)) hkl h)
      clear hnd hmn sk
      generalize ts[k]?.getD (0, []) = tk at *
      obtain ⟨idk, xk⟩ := tk
      dsimp only at d1 HND Sk
      have DK := qh (show ∀ W, Below w.heap.size w W → W.cell? ⟨b, o + k * 2, none⟩ = some (.int .i64 idk) ∧ W.cell? ⟨b, o + k * 2 + 1, none⟩ = some (.slice An mn cn) from fun W hW => ⟨(hW.cell (p := ⟨b, o + k * 2, none⟩) lb).trans d1, (hW.cell (p := ⟨b, o + k * 2 + 1, none⟩) lb).trans d2⟩)
      have lz9 : w.heap.size ≤ wr.heap.size := by omega
      clear d1 d2
      have x0 := Z.out.cell 0
      have x1 := Z.out.cell 1
      simp only [gT, gZ, gS] at x0 x1
      cases dn with
      | true =>
        have B' := qh (B.out.drew)
        go_wp2_with fail
        refine wp_region_mix (.take 0 (.take 1 (.take 2 (.take 3 (.take 4 (.take 5 (.take 6 (.take 7 (.bar 8 (.take 9 .nil)))))))))) (fun w' => w' = wr.drew) (by kernel_rfl) (by kernel_rfl) rfl (fun _ => ?_)
        repeat ((first | refine wpMix_skip (by rfl) (by rfl) ?_ | (refine wpMix_take (v := ?_) (by rfl) (by rfl) (fun wS hSt => ?_) ?_; rotate_left; (focus ((try dsimp only at hSt); (go_simp <;> with_reducible rfl); done)))); (try simp only [Act.put, pS, pZ, pC]))
        (refine wpMix_bar (by rfl) (fun K hK => ?_); go_simp)
        ((try dsimp only); refine nxK hK _ _ (rfl) ?_; clear hK K; (try simp only [Act.put, pS, pZ, pC]))
        repeat ((first | refine wpMix_skip (by rfl) (by rfl) ?_ | (refine wpMix_take (v := ?_) (by rfl) (by rfl) (fun wS hSt => ?_) ?_; rotate_left; (focus ((try dsimp only at hSt); (go_simp <;> with_reducible rfl); done)))); (try simp only [Act.put, pS, pZ, pC]))
        refine wpMix_nil ?_
        replace O := qh (show wr.drew.ownsRow (w.heap.size + 1) 43 2 (.slice A5 m5 c5) m5 vs from O.out)
        replace C := qh (show TkCells wr.drew w.heap.size vs L from C.out)
        replace B := B'
        replace Z := qh (show Blk wr.drew w.heap.size 43 #[.int .i64 id, .slice A3 n3 c3] from Z.out)
        have lz' : w.heap.size + 1 ≤ wr.drew.heap.size := lz
        clear x0 x1 B' lz lz9
        generalize wr.drew = wy at *
        have e1 := (DK.out wy B.out).1
        have e2 := (DK.out wy B.out).2
        have lz9 : w.heap.size ≤ wy.heap.size := by omega
        have HNW := qh (HND.out.below B.out)
        have al := alloc_up wy (.cells #[.int .i64 idk, .slice An mn cn] 43)
        have Oa1 := qh (own_up' O.out al)
        have Ca1 := qh ((C.out.keep (w' := wy.alloc (.cells #[.int .i64 idk, .slice An mn cn] 43)) (fun p hp => al.cell (by omega)) (Nat.le_refl _)).append (tkOne (id := idk) (HNW.out.keep (w' := wy.alloc (.cells #[.int .i64 idk, .slice An mn cn] 43)) (fun p hp => al.cell (by omega)) (Nat.le_refl _)) HMN.out))
        have Ba1 := qh (B.out.trans (al.mono B.out.size))
        have Za1 := qh (Z.out.below al Z.out.lt)
        have Xa1 := qh (lit2 wy 43 (.int .i64 idk) (.slice An mn cn))
        have lza1 : w.heap.size + 1 ≤ (wy.alloc (.cells #[.int .i64 idk, .slice An mn cn] 43)).heap.size := by have := al.size; omega
        clear al
        go_wp2_with (at_builtin; refine wpList_append_src _ rfl _ _ 24 rfl (w.heap.size + 1) 43 t0 _ 2 32 Tryz.underlying24 ht0 htz0 htz1 htz2 rfl (by omega) (.slice A5 m5 c5) m5 vs rfl Oa1.out (some ⟨wy.heap.size, 0, none⟩) 1 1 [.int .i64 idk, .slice An mn cn] rfl Xa1.out (one2 _ _ rfl rfl) (by unfold maxLen; omega) (by omega) lza1 ?_; intro v' wn1 hown1 hgrow1 hat1; obtain ⟨A5, c5, rfl⟩ := own_shape hown1)
        have lk1 : ∀ b, b < w.heap.size + 1 → wn1.heap[b]? = (wy.alloc (.cells #[.int .i64 idk, .slice An mn cn] 43)).heap[b]? := fun b hb => hgrow1.block b (by omega) (fun e => by have := (Oa1.out.lt _ e.symm).1; omega)
        replace O := qh hown1
        replace C := qh (Ca1.out.keep (w' := wn1) (fun p hp => World.cell?_of_block (lk1 p.block (by omega))) (Nat.le_refl _))
        replace B := qh (Ba1.out.grown hgrow1 (by omega) (fun r e => by have := (Oa1.out.lt r e).1; omega))
        replace Z := qh (show Blk wn1 w.heap.size 43 #[.int .i64 id, .slice A3 n3 c3] from (lk1 w.heap.size (by omega)).trans Za1.out)
        have lwn1 : w.heap.size + 1 ≤ wn1.heap.size := by have := hgrow1.size; omega
        clear hown1 hat1 Oa1 Ca1 Ba1 Za1 Xa1 lza1
        go_wp2_with fail
        go_roundw
        case measure => simp [intOf]; omega
        case rel => exact ⟨k + 1, m5 + 1, true, A5, c5, _, _, by go_num, by omega, rfl, rfl, by have := M5.out; simp at this ⊢; omega, B.out, lwn1, Z.out, O.out, C.out, by
          have := PP.out
          unfold PutS at this ⊢
          rw [if_pos rfl] at this ⊢
          rw [← this, Dk.out, List.append_assoc]
          rfl⟩
      | false =>
        have d1 := (DK.out wr B.out).1
        have d2 := (DK.out wr B.out).2
        have B' := qh (B.out.drew)
        go_wp2_with fail
        refine wp_region_mix (.take 0 (.take 1 (.take 2 (.take 3 (.take 4 (.take 5 (.take 6 (.take 7 (.bar 8 (.take 9 .nil)))))))))) (fun w' => w'.cell? ⟨w.heap.size, 0, none⟩ = some (.int .i64 id) ∧ w'.cell? ⟨w.heap.size, 1, none⟩ = some (.slice A3 n3 c3) ∧ w'.cell? ⟨b, o + k * 2, none⟩ = some (.int .i64 idk) ∧ w'.cell? ⟨b, o + k * 2 + 1, none⟩ = some (.slice An mn cn)) (by kernel_rfl) (by kernel_rfl) ⟨x0, x1, d1, d2⟩ (fun _ => ?_)
        repeat ((first | refine wpMix_skip (by rfl) (by rfl) ?_ | (refine wpMix_take (v := ?_) (by rfl) (by rfl) (fun wS hSt => ?_) ?_; rotate_left; (focus ((try dsimp only at hSt); (go_simp <;> with_reducible rfl); done)))); (try simp only [Act.put, pS, pZ, pC]))
        clear x0 x1 d1 d2
        replace O := qh (show wr.drew.ownsRow (w.heap.size + 1) 43 2 (.slice A5 m5 c5) m5 vs from O.out)
        replace C := qh (show TkCells wr.drew w.heap.size vs L from C.out)
        replace B := B'
        replace Z := qh (show Blk wr.drew w.heap.size 43 #[.int .i64 id, .slice A3 n3 c3] from Z.out)
        have lz' : w.heap.size + 1 ≤ wr.drew.heap.size := lz
        clear B' lz lz9
        generalize wr.drew = wy at *
        (refine wpMix_bar (by rfl) (fun K hK => ?_); go_simp)
        have lz9 : w.heap.size ≤ wy.heap.size := by omega
        refine (l4Before_any A3 An n3 c3 mn cn id idk xs xk wy ((HX.out.below B.out).more lz9) ((HND.out.below B.out).more lz9) l3 lmn sx.out Sk.out).mono ?_; rintro e wz ⟨rfl, hb1⟩
        replace O := qh (own_up' O.out hb1)
        replace C := qh (C.out.keep (w' := wz) (fun p hp => hb1.cell (by omega)) (Nat.le_refl _))
        replace B := qh (B.out.trans (hb1.mono lz9))
        replace Z := qh (Z.out.below hb1 Z.out.lt)
        have lzz : w.heap.size + 1 ≤ wz.heap.size := by have := hb1.size; omega
        clear lz9 lz' hb1
        have x0 := Z.out.cell 0
        have x1 := Z.out.cell 1
        simp only [gT, gZ, gS] at x0 x1
        have e1 := (DK.out wz B.out).1
        have e2 := (DK.out wz B.out).2
        have lz9 : w.heap.size ≤ wz.heap.size := by omega
        ((try dsimp only); refine nxK hK _ _ (⟨x0, x1, e1, e2⟩) ?_; clear hK K; (try simp only [Act.put, pS, pZ, pC]))
        repeat ((first | refine wpMix_skip (by rfl) (by rfl) ?_ | (refine wpMix_take (v := ?_) (by rfl) (by rfl) (fun wS hSt => ?_) ?_; rotate_left; (focus ((try dsimp only at hSt); (go_simp <;> with_reducible rfl); done)))); (try simp only [Act.put, pS, pZ, pC]))
        refine wpMix_nil ?_
        cases hbf : befP (id, xs) (idk, xk) with
        | true =>
          have Hbf := qh (Py.out hbf)
          clear hbf
          have HNW := qh (HX.out.below B.out)
          have hc3' := qh hc3
          clear e1 e2
          have al := alloc_up wz (.cells #[.int .i64 id, .slice A3 n3 c3] 43)
          have Oa2 := qh (own_up' O.out al)
          have Ca2 := qh ((C.out.keep (w' := wz.alloc (.cells #[.int .i64 id, .slice A3 n3 c3] 43)) (fun p hp => al.cell (by omega)) (Nat.le_refl _)).append (tkOne (id := id) (HNW.out.keep (w' := wz.alloc (.cells #[.int .i64 id, .slice A3 n3 c3] 43)) (fun p hp => al.cell (by omega)) (Nat.le_refl _)) hc3'.out))
          have Ba2 := qh (B.out.trans (al.mono B.out.size))
          have Za2 := qh (Z.out.below al Z.out.lt)
          have Xa2 := qh (lit2 wz 43 (.int .i64 id) (.slice A3 n3 c3))
          have lza2 : w.heap.size + 1 ≤ (wz.alloc (.cells #[.int .i64 id, .slice A3 n3 c3] 43)).heap.size := by have := al.size; omega
          clear al
          go_upto_region 9 with (at_builtin; refine wpList_append_src _ rfl _ _ 24 rfl (w.heap.size + 1) 43 t0 _ 2 32 Tryz.underlying24 ht0 htz0 htz1 htz2 rfl (by omega) (.slice A5 m5 c5) m5 vs rfl Oa2.out (some ⟨wz.heap.size, 0, none⟩) 1 1 [.int .i64 id, .slice A3 n3 c3] rfl Xa2.out (one2 _ _ rfl rfl) (by unfold maxLen; omega) (by omega) lza2 ?_; intro v' wn2 hown2 hgrow2 hat2; obtain ⟨A5, c5, rfl⟩ := own_shape hown2)
          have lk2 : ∀ b, b < w.heap.size + 1 → wn2.heap[b]? = (wz.alloc (.cells #[.int .i64 id, .slice A3 n3 c3] 43)).heap[b]? := fun b hb => hgrow2.block b (by omega) (fun e => by have := (Oa2.out.lt _ e.symm).1; omega)
          replace O := qh hown2
          replace C := qh (Ca2.out.keep (w' := wn2) (fun p hp => World.cell?_of_block (lk2 p.block (by omega))) (Nat.le_refl _))
          replace B := qh (Ba2.out.grown hgrow2 (by omega) (fun r e => by have := (Oa2.out.lt r e).1; omega))
          replace Z := qh (show Blk wn2 w.heap.size 43 #[.int .i64 id, .slice A3 n3 c3] from (lk2 w.heap.size (by omega)).trans Za2.out)
          have lwn2 : w.heap.size + 1 ≤ wn2.heap.size := by have := hgrow2.size; omega
          clear hown2 hat2 Oa2 Ca2 Ba2 Za2 Xa2 lza2
          have e1 := (DK.out wn2 B.out).1
          have e2 := (DK.out wn2 B.out).2
          have lz9' : w.heap.size ≤ wn2.heap.size := by omega
          replace HNW := qh (HND.out.below B.out)
          clear x0 x1
          replace PP := qh (show PutS ts (id, xs) (L ++ [(id, xs)]) true k from by
            have := PP.out
            unfold PutS at this ⊢
            rw [if_neg (by simp)] at this
            rw [if_pos rfl, ← this, Hbf.out, Dk.out, List.append_assoc]
            rfl)
          have al := alloc_up wn2 (.cells #[.int .i64 idk, .slice An mn cn] 43)
          have Oa3 := qh (own_up' O.out al)
          have Ca3 := qh ((C.out.keep (w' := wn2.alloc (.cells #[.int .i64 idk, .slice An mn cn] 43)) (fun p hp => al.cell (by omega)) (Nat.le_refl _)).append (tkOne (id := idk) (HNW.out.keep (w' := wn2.alloc (.cells #[.int .i64 idk, .slice An mn cn] 43)) (fun p hp => al.cell (by omega)) (Nat.le_refl _)) HMN.out))
          have Ba3 := qh (B.out.trans (al.mono B.out.size))
          have Za3 := qh (Z.out.below al Z.out.lt)
          have Xa3 := qh (lit2 wn2 43 (.int .i64 idk) (.slice An mn cn))
          have lza3 : w.heap.size + 1 ≤ (wn2.alloc (.cells #[.int .i64 idk, .slice An mn cn] 43)).heap.size := by have := al.size; omega
          clear al
          go_wp2_with (at_builtin; refine wpList_append_src _ rfl _ _ 24 rfl (w.heap.size + 1) 43 t0 _ 2 32 Tryz.underlying24 ht0 htz0 htz1 htz2 rfl (by omega) (.slice A5 (m5 + 1) c5) (m5 + 1) _ rfl Oa3.out (some ⟨wn2.heap.size, 0, none⟩) 1 1 [.int .i64 idk, .slice An mn cn] rfl Xa3.out (one2 _ _ rfl rfl) (by unfold maxLen; omega) (by omega) lza3 ?_; intro v' wn3 hown3 hgrow3 hat3; obtain ⟨A5, c5, rfl⟩ := own_shape hown3)
          have lk3 : ∀ b, b < w.heap.size + 1 → wn3.heap[b]? = (wn2.alloc (.cells #[.int .i64 idk, .slice An mn cn] 43)).heap[b]? := fun b hb => hgrow3.block b (by omega) (fun e => by have := (Oa3.out.lt _ e.symm).1; omega)
          replace O := qh hown3
          replace C := qh (Ca3.out.keep (w' := wn3) (fun p hp => World.cell?_of_block (lk3 p.block (by omega))) (Nat.le_refl _))
          replace B := qh (Ba3.out.grown hgrow3 (by omega) (fun r e => by have := (Oa3.out.lt r e).1; omega))
          replace Z := qh (show Blk wn3 w.heap.size 43 #[.int .i64 id, .slice A3 n3 c3] from (lk3 w.heap.size (by omega)).trans Za3.out)
          have lwn3 : w.heap.size + 1 ≤ wn3.heap.size := by have := hgrow3.size; omega
          clear hown3 hat3 Oa3 Ca3 Ba3 Za3 Xa3 lza3
          go_wp2_with fail
          go_roundw
          case measure => simp [intOf]; omega
          case rel => exact ⟨k + 1, m5 + 1 + 1, true, A5, c5, _, _, by go_num, by omega, rfl, rfl, by have := M5.out; simp at this ⊢; omega, B.out, lwn3, Z.out, O.out, C.out, by
            have := PP.out
            unfold PutS at this ⊢
            rw [if_pos rfl] at this ⊢
            rw [← this, Dk.out, List.append_assoc]
            rfl⟩
        | false =>
          have Hbf := qh (Pn.out hbf)
          clear hbf
          have HNW := qh (HND.out.below B.out)
          clear x0 x1
          have al := alloc_up wz (.cells #[.int .i64 idk, .slice An mn cn] 43)
          have Oa4 := qh (own_up' O.out al)
          have Ca4 := qh ((C.out.keep (w' := wz.alloc (.cells #[.int .i64 idk, .slice An mn cn] 43)) (fun p hp => al.cell (by omega)) (Nat.le_refl _)).append (tkOne (id := idk) (HNW.out.keep (w' := wz.alloc (.cells #[.int .i64 idk, .slice An mn cn] 43)) (fun p hp => al.cell (by omega)) (Nat.le_refl _)) HMN.out))
          have Ba4 := qh (B.out.trans (al.mono B.out.size))
          have Za4 := qh (Z.out.below al Z.out.lt)
          have Xa4 := qh (lit2 wz 43 (.int .i64 idk) (.slice An mn cn))
          have lza4 : w.heap.size + 1 ≤ (wz.alloc (.cells #[.int .i64 idk, .slice An mn cn] 43)).heap.size := by have := al.size; omega
          clear al
          go_wp2_with (at_builtin; refine wpList_append_src _ rfl _ _ 24 rfl (w.heap.size + 1) 43 t0 _ 2 32 Tryz.underlying24 ht0 htz0 htz1 htz2 rfl (by omega) (.slice A5 m5 c5) m5 vs rfl Oa4.out (some ⟨wz.heap.size, 0, none⟩) 1 1 [.int .i64 idk, .slice An mn cn] rfl Xa4.out (one2 _ _ rfl rfl) (by unfold maxLen; omega) (by omega) lza4 ?_; intro v' wn4 hown4 hgrow4 hat4; obtain ⟨A5, c5, rfl⟩ := own_shape hown4)
          have lk4 : ∀ b, b < w.heap.size + 1 → wn4.heap[b]? = (wz.alloc (.cells #[.int .i64 idk, .slice An mn cn] 43)).heap[b]? := fun b hb => hgrow4.block b (by omega) (fun e => by have := (Oa4.out.lt _ e.symm).1; omega)
          replace O := qh hown4
          replace C := qh (Ca4.out.keep (w' := wn4) (fun p hp => World.cell?_of_block (lk4 p.block (by omega))) (Nat.le_refl _))
          replace B := qh (Ba4.out.grown hgrow4 (by omega) (fun r e => by have := (Oa4.out.lt r e).1; omega))
          replace Z := qh (show Blk wn4 w.heap.size 43 #[.int .i64 id, .slice A3 n3 c3] from (lk4 w.heap.size (by omega)).trans Za4.out)
          have lwn4 : w.heap.size + 1 ≤ wn4.heap.size := by have := hgrow4.size; omega
          clear hown4 hat4 Oa4 Ca4 Ba4 Za4 Xa4 lza4
          go_wp2_with fail
          go_roundw
          case measure => simp [intOf]; omega
          case rel => exact ⟨k + 1, m5 + 1, false, A5, c5, _, _, by go_num, by omega, rfl, rfl, by have := M5.out; simp at this ⊢; omega, B.out, lwn4, Z.out, O.out, C.out, by
            have := PP.out
            unfold PutS at this ⊢
            rw [if_neg (by simp)] at this ⊢
            rw [← this, Hbf.out, List.append_assoc]
            rfl⟩
    · obtain rfl : k = n := by omega
      have hdr : ts.drop k = [] := List.drop_of_length_le (by have := Hl.out; omega)
      have Hdr := qh hdr
      clear hdr
      have lz9 : w.heap.size ≤ wr.heap.size := by omega
      cases dn with
      | true =>
        have hp := PP.out
        unfold PutS at hp
        rw [if_pos rfl, Hdr.out, List.append_nil] at hp
        have HP := qh hp
        have hm : m5 = k + 1 := M5.out
        subst hm
        clear hp PP M5
        go_wp2_with fail
        go_ret
        exact ⟨A5, c5, rfl, by rw [← HP.out]; exact RdT.of_own O.out C.out lz9 (own_le O.out), own_cap' O.out, B.out⟩
      | false =>
        have hp := PP.out
        unfold PutS at hp
        rw [if_neg (by simp), Hdr.out] at hp
        have HP := qh (show L ++ [(id, xs)] = putP ts (id, xs) from hp)
        have hm : m5 = k := M5.out
        subst hm
        clear hp PP M5
        have x0 := Z.out.cell 0
        have x1 := Z.out.cell 1
        simp only [gT, gZ, gS] at x0 x1
        have HNW := qh (HX.out.below B.out)
        have hc3' := qh hc3
        have al := alloc_up wr (.cells #[.int .i64 id, .slice A3 n3 c3] 43)
        have Oa5 := qh (own_up' O.out al)
        have Ca5 := qh ((C.out.keep (w' := wr.alloc (.cells #[.int .i64 id, .slice A3 n3 c3] 43)) (fun p hp => al.cell (by omega)) (Nat.le_refl _)).append (tkOne (id := id) (HNW.out.keep (w' := wr.alloc (.cells #[.int .i64 id, .slice A3 n3 c3] 43)) (fun p hp => al.cell (by omega)) (Nat.le_refl _)) hc3'.out))
        have Ba5 := qh (B.out.trans (al.mono B.out.size))
        have Za5 := qh (Z.out.below al Z.out.lt)
        have Xa5 := qh (lit2 wr 43 (.int .i64 id) (.slice A3 n3 c3))
        have lza5 : w.heap.size + 1 ≤ (wr.alloc (.cells #[.int .i64 id, .slice A3 n3 c3] 43)).heap.size := by have := al.size; omega
        clear al
        go_wp2_with (at_builtin; refine wpList_append_src _ rfl _ _ 24 rfl (w.heap.size + 1) 43 t0 _ 2 32 Tryz.underlying24 ht0 htz0 htz1 htz2 rfl (by omega) (.slice A5 m5 c5) m5 vs rfl Oa5.out (some ⟨wr.heap.size, 0, none⟩) 1 1 [.int .i64 id, .slice A3 n3 c3] rfl Xa5.out (one2 _ _ rfl rfl) (by unfold maxLen; omega) (by omega) lza5 ?_; intro v' wn5 hown5 hgrow5 hat5; obtain ⟨A5, c5, rfl⟩ := own_shape hown5)
        have lk5 : ∀ b, b < w.heap.size + 1 → wn5.heap[b]? = (wr.alloc (.cells #[.int .i64 id, .slice A3 n3 c3] 43)).heap[b]? := fun b hb => hgrow5.block b (by omega) (fun e => by have := (Oa5.out.lt _ e.symm).1; omega)
        replace O := qh hown5
        replace C := qh (Ca5.out.keep (w' := wn5) (fun p hp => World.cell?_of_block (lk5 p.block (by omega))) (Nat.le_refl _))
        replace B := qh (Ba5.out.grown hgrow5 (by omega) (fun r e => by have := (Oa5.out.lt r e).1; omega))
        replace Z := qh (show Blk wn5 w.heap.size 43 #[.int .i64 id, .slice A3 n3 c3] from (lk5 w.heap.size (by omega)).trans Za5.out)
        have lwn5 : w.heap.size + 1 ≤ wn5.heap.size := by have := hgrow5.size; omega
        clear hown5 hat5 Oa5 Ca5 Ba5 Za5 Xa5 lza5
        go_wp2_with fail
        go_ret
        exact ⟨A5, c5, rfl, by rw [← HP.out]; exact RdT.of_own O.out C.out (by omega) (own_le O.out), own_cap' O.out, B.out⟩

theorem sm_okS {room : List Int} {ts : List Tk} (h : tasksOk room ts = true) : SmT ts := fun t ht => by
  have hv := tasksOk_vec h ht
  refine ⟨by rw [vecOk_len hv]; omega, fun x hx => ?_⟩
  obtain ⟨j, hj, he⟩ := List.getElem_of_mem hx
  have := vecOk_bd hv j
  rw [List.getElem?_eq_getElem hj, he] at this
  simp only [Option.getD_some] at this
  omega
/-- The reference's TasksSort, for valid tasks. -/
theorem sort_take {ts : List Tk} {k : Nat} (hk : k < ts.length) : sortP (ts.take (k + 1)) = putP (sortP (ts.take k)) (ts[k]?.getD (0, [])) := by
  unfold sortP
  rw [List.take_succ_eq_append_getElem hk, List.foldl_append, List.getElem?_eq_getElem hk]
  rfl
set_option maxRecDepth 100000 in
set_option maxHeartbeats 3200000 in
theorem tasksSort_any (A1 A : Option Addr) (n1 c1 n c : Nat) (room : List Int) (ts : List Tk) (w : World) (h1 : RdI w w.heap.size A1 n1 room) (h : RdT w w.heap.size A n ts) (hok : tasksOk room ts = true) :
    Calls Tryz.prog 50 #[.slice A1 n1 c1, .slice A n c] w fun e w' => ∃ A' c', e = .returned (.slice A' n c') ∧ OwnTs w' w.heap.size (.slice A' n c') n (sortP ts) ∧ Below w.heap.size w w' := by
  have hn14 : n ≤ 14 := by rw [← h.len]; unfold tasksOk at hok; simp only [Bool.and_eq_true, decide_eq_true_eq] at hok; exact hok.1.1.2
  have Hsm := qh (sm_okS hok)
  have Hok := qh hok
  have Hl := qh h.len
  have B2 := qh (alloc_up w (.cells #[] 43))
  have H1 := qh h1
  have H := qh h
  clear h1 h hok
  go_enter Tryz.func50, Tryz.ntmps50
  go_wp2_with fail
  generalize w.alloc (.cells #[] 43) = w2 at B2 ⊢
  go_loopw [5, 6] (fun v kv wr => ∃ (k : Nat) (A5 : Option Addr) (c5 : Nat), kv = .int .i64 (k : Nat) ∧ k ≤ n ∧ v = .slice A5 k c5 ∧ RdT wr wr.heap.size A5 k (sortP (ts.take k)) ∧ Below w.heap.size w wr) (fun _ kv _ => n - (intOf kv).toNat)
  case atStart => exact ⟨0, _, _, rfl, Nat.zero_le _, rfl, RdT.nil, B2.out⟩
  case round =>
    clear B2
    obtain ⟨k, A5, c5, rfl, hk, rfl, hrd, hb⟩ := hrel
    have B := qh hb
    have R := qh hrd
    have lz := hb.size
    clear hb hrd
    by_cases hlt : k < n
    · have q1 : (0 : Int) ≤ (k : Int) := by omega
      have q2 : (k : Int) < (n : Int) := by omega
      have q3 : 0 ≤ (k : Int) * 2 := by omega
      have v1 : IntKind.i64.wrap ((k : Int) + 1) = (k : Int) + 1 := wr64 (by omega) (by omega)
      have hkl : k < ts.length := by have := Hl.out; omega
      have Es := qh (sort_take hkl)
      go_wp2_with fail
      refine (tasksValidS_any A1 A n1 c1 n c room ts wr (H1.out.up B.out) (H.out.up B.out)).mono ?_; rintro e w3 ⟨rfl, m, rfl⟩
      rw [Hok.out]
      have R3 := qh (show RdT (wr.drewN m) (wr.drewN m).heap.size A5 k (sortP (ts.take k)) from R.out.drewN m)
      have B3 := qh (below_drewN B.out m)
      have lz3 : w.heap.size ≤ (wr.drewN m).heap.size := lz
      clear R B lz
      generalize wr.drewN m = w3 at R3 B3 lz3 ⊢
      obtain ⟨b, o, An, mn, cn, rfl, lb, d1, d2, hmn, hnd⟩ := (H.out.below B3.out).at_ hlt
      have HND := qh hnd
      have HMN := qh hmn
      have hmem : ts[k]?.getD (0, []) ∈ ts := by rw [List.getElem?_eq_getElem hkl]; exact List.getElem_mem hkl
      have HS3 := qh (show SmT (ts[k]?.getD (0, []) :: sortP (ts.take k)) from fun t ht => by
        rcases List.mem_cons.1 ht with rfl | ht
        · exact Hsm.out _ hmem
        · exact Hsm.out t (List.take_subset _ _ ((sort_perm _).subset ht)))
      clear hnd hmn hmem
      generalize ts[k]?.getD (0, []) = tk at *
      obtain ⟨idk, xk⟩ := tk
      dsimp only at d1 HND
      go_wp2_with fail
      refine (l4Put_any A5 An k c5 mn cn idk xk (sortP (ts.take k)) w3 R3.out (HND.out.more lz3) HMN.out HS3.out (by omega)).mono ?_; rintro e w4 ⟨A6, c6, rfl, hr4, hc4, hb4⟩
      have R4 := qh hr4
      have B4 := qh (B3.out.trans (hb4.mono lz3))
      clear R3 B3 HND HMN HS3 hr4 hb4 hc4 d1 d2
      go_wp2_with fail
      go_roundw
      case measure => simp [intOf]; omega
      case rel => exact ⟨k + 1, A6, c6, by go_num, by omega, rfl, by rw [Es.out]; exact R4.out, B4.out⟩
    · obtain rfl : k = n := by omega
      have Ets := qh (show ts.take k = ts from List.take_of_length_le (by have := Hl.out; omega))
      have R2 := qh (show RdT wr wr.heap.size A5 k (sortP ts) from by have := R.out; rw [Ets.out] at this; exact this)
      have HS := qh (Hsm.out.perm (sort_perm ts))
      have Ls := qh (sort_len ts)
      clear R
      go_wp2_with fail
      refine (l2Copy_any A5 k c5 (sortP ts) wr R2.out (by omega) (fun j hj => by have := (HS.out.at_ (i := j) (by have := Ls.out; have := Hl.out; omega)).1; unfold gTk at this; omega)).mono ?_; rintro e w3 ⟨A6, c6, rfl, hts, hb3⟩
      obtain ⟨vs, nd, ho, hn⟩ := hts
      have HT := qh (show OwnTs w3 w.heap.size (.slice A6 k c6) k (sortP ts) from ⟨vs, nd, own_lo ho lz, hn.down lz⟩)
      have B3 := qh (B.out.trans (hb3.mono lz))
      clear ho hn hb3
      go_wp2_with fail
      go_ret
      exact ⟨A6, c6, rfl, HT.out, B3.out⟩
end Go.Proofs.YtdgeicdiiakhjaaGreat
