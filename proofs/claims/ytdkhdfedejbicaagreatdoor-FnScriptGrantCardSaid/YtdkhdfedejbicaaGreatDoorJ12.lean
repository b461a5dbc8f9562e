/- Several texts in one. -/
import Derived.Test.YtdkhdfedejbicaaGreatDoorJ10
import Derived.Conc.MuLone
namespace Go.Proofs.YtdkhdfedejbicaaGreatDoor
set_option linter.unusedSimpArgs false
set_option linter.unusedVariables false
open Go Go.RowKit

def hostC (l : Int) (A1 : Option Addr) (n1 c1 n : Nat) (vs : List Value) : Array Value := (Value.int .i32 l :: Value.int .u32 0 :: Value.slice A1 n1 c1 :: Value.int .i64 (n : Int) :: vs).toArray
section
variable {l l' : Int} {A1 : Option Addr} {n1 c1 n : Nat} {vs : List Value}
theorem hostC_unit (i : Nat) : (hostC l A1 n1 c1 n vs)[4 + i]? = vs[i]? := by
  unfold hostC
  rw [gT, show 4 + i = i + 1 + 1 + 1 + 1 by omega, gS, gS, gS, gS]
theorem hostC_lock : (hostC l A1 n1 c1 n vs).setIfInBounds 0 (.int .i32 l') = hostC l' A1 n1 c1 n vs := by
  unfold hostC; rw [pS]; rfl
theorem hostC_set (i : Nat) (v : Value) : (hostC l A1 n1 c1 n vs).setIfInBounds (4 + i) v = hostC l A1 n1 c1 n (vs.set i v) := by
  unfold hostC; rw [pS, show 4 + i = i + 1 + 1 + 1 + 1 by omega]; rfl
end

structure HostV (w : World) (hb : Nat) (A1 : Option Addr) (n1 c1 n : Nat) (room : List Int) (us : List Un) : Prop where
  c2 : w.cell? ⟨hb, 2, none⟩ = some (.slice A1 n1 c1)
  c3 : w.cell? ⟨hb, 3, none⟩ = some (.int .i64 (n : Int))
  lt : hb < w.heap.size
  rm : RdI w w.heap.size A1 n1 room
  un : RdN w w.heap.size (some ⟨hb, 4, none⟩) n us
theorem HostV.up {w w' : World} {hb : Nat} {A1 : Option Addr} {n1 c1 n : Nat} {room : List Int} {us : List Un} (h : HostV w hb A1 n1 c1 n room us) (k : Below w.heap.size w w') : HostV w' hb A1 n1 c1 n room us :=
  ⟨(k.cell (p := ⟨hb, 2, none⟩) h.lt).trans h.c2, (k.cell (p := ⟨hb, 3, none⟩) h.lt).trans h.c3, Nat.lt_of_lt_of_le h.lt k.size, h.rm.up k, h.un.up k⟩
structure HostP (w : World) (hb : Nat) (A1 : Option Addr) (n1 c1 n : Nat) (room : List Int) (us : List Un) : Prop where
  v : HostV w hb A1 n1 c1 n room us
  lock : w.cell? ⟨hb, 0, none⟩ = some (.int .i32 0)
  free : w.frozen? ⟨hb, 0, none⟩ = false
  bk : ∃ cs, Blk w hb 135 cs

structure HostX (w : World) (base hb : Nat) (l : Int) (A1 : Option Addr) (n1 c1 n : Nat) (room : List Int) (us : List Un) (vs zs : List Value) (tk : Nat → Value) : Prop where
  blk : Blk w hb 135 (hostC l A1 n1 c1 n (vs ++ zs))
  ge : base ≤ hb
  rm : w.ownsRow base 3 1 (.slice A1 n1 c1) n1 (room.map (Value.int .i64))
  un : NdUR w base n vs tk us
  n : n ≤ 10
def HostR (w : World) (base hb : Nat) (l : Int) (A1 : Option Addr) (n1 c1 n : Nat) (room : List Int) (us : List Un) : Prop := ∃ vs zs tk, HostX w base hb l A1 n1 c1 n room us vs zs tk

section
variable {w w' : World} {base base' hb n1 c1 n : Nat} {l l' : Int} {A1 : Option Addr} {room : List Int} {us : List Un} {vs zs : List Value} {tk : Nat → Value}
theorem HostX.cellU (h : HostX w base hb l A1 n1 c1 n room us vs zs tk) {i : Nat} (hi : i < n * 2) : w.cell? ⟨hb, 4 + i, none⟩ = vs[i]? := by
  rw [h.blk.cell, hostC_unit, List.getElem?_append_left (by rw [h.un.2.1]; exact hi)]
theorem HostX.rd (h : HostX w base hb l A1 n1 c1 n room us vs zs tk) : RdN w w.heap.size (some ⟨hb, 4, none⟩) n us := by
  refine ⟨h.un.1, by have := h.n; omega, fun _ => ⟨hb, 4, rfl, h.blk.lt, fun j hj => ?_⟩⟩
  obtain ⟨h1, h2, A, m, c, vt, h3, h4, h5⟩ := h.un.2.2.1 j hj
  exact ⟨A, m, c, by rw [h.cellU (by omega)]; exact h1, by rw [Nat.add_assoc, h.cellU (by omega), h2, h3], own_cap' h4, h5.rd h4⟩
theorem HostX.view (h : HostX w base hb l A1 n1 c1 n room us vs zs tk) : HostV w hb A1 n1 c1 n room us :=
  ⟨h.blk.cell 2, h.blk.cell 3, h.blk.lt, own_rdI h.rm (own_le h.rm), h.rd⟩
theorem HostX.post (h : HostX w base hb 0 A1 n1 c1 n room us vs zs tk) : HostP w hb A1 n1 c1 n room us := ⟨h.view, h.blk.cell 0, h.blk.frozen 0, _, h.blk⟩
theorem HostX.keep (h : HostX w base hb l A1 n1 c1 n room us vs zs tk) (hk : KeepTI w w') (hh : w'.heap[hb]? = w.heap[hb]?) : HostX w' base hb l A1 n1 c1 n room us vs zs tk :=
  ⟨hh.trans h.blk, h.ge, own_keepTI h.rm (.inl rfl) hk, h.un.keepTI hk, h.n⟩
theorem HostX.up (h : HostX w base hb l A1 n1 c1 n room us vs zs tk) (hk : Below w.heap.size w w') : HostX w' base hb l A1 n1 c1 n room us vs zs tk := h.keep (KeepTI.up hk) (hk.block _ h.blk.lt)
theorem HostX.setL (h : HostX w base hb l A1 n1 c1 n room us vs zs tk) : HostX (w.setCell ⟨hb, 0, none⟩ (.int .i32 l')) base hb l' A1 n1 c1 n room us vs zs tk := by
  have hk : KeepTI w (w.setCell ⟨hb, 0, none⟩ (.int .i32 l')) := KeepTI.set_ h.blk (by decide) (by decide) 0 _
  refine ⟨?_, h.ge, own_keepTI h.rm (.inl rfl) hk, h.un.keepTI hk, h.n⟩
  have := h.blk.set_ 0 (.int .i32 l')
  rwa [hostC_lock] at this
theorem HostX.setU (h : HostX w base hb l A1 n1 c1 n room us vs zs tk) {i : Nat} (hi : i < n * 2) (v : Value) {us' : List Un} {tk' : Nat → Value} (hu : NdUR w base n (vs.set i v) tk' us') :
    HostX (w.setCell ⟨hb, 4 + i, none⟩ v) base hb l A1 n1 c1 n room us' (vs.set i v) zs tk' := by
  have hk : KeepTI w (w.setCell ⟨hb, 4 + i, none⟩ v) := KeepTI.set_ h.blk (by decide) (by decide) _ _
  refine ⟨?_, h.ge, own_keepTI h.rm (.inl rfl) hk, hu.keepTI hk, h.n⟩
  have := h.blk.set_ (4 + i) v
  rwa [hostC_set, List.set_append_left i v (by rw [h.un.2.1]; exact hi)] at this
theorem HostX.lk (h : HostX w base hb l A1 n1 c1 n room us vs zs tk) : w.cell? ⟨hb, 0, none⟩ = some (.int .i32 l) ∧ w.frozen? ⟨hb, 0, none⟩ = false := ⟨h.blk.cell 0, h.blk.frozen 0⟩
end
end Go.Proofs.YtdkhdfedejbicaaGreatDoor

namespace Go.Proofs.YtdkhdfedejbicaaGreatDoor
set_option linter.unusedSimpArgs false
set_option linter.unusedVariables false
open Go Go.RowKit
attribute [local go_sem ↓] Go.wp_at_zero Go.wp_at_succ

def findU (us : List Un) (id : Int) : Int × Int := if whereP (us.map (·.2)) id < 0 then (-1, -1) else (whereP (us.map (·.2)) id, atP (us[(whereP (us.map (·.2)) id).toNat]?.getD (false, [])).2 id)
theorem findU_none {us : List Un} {id : Int} (h : ∀ j, j < us.length → hasP (us[j]?.getD (false, [])).2 id = false) : findU us id = (-1, -1) := by
  have : whereP (us.map (·.2)) id = -1 := whereP_none (fun j hj => by rw [snd_at]; exact h j (by simpa using hj))
  unfold findU; rw [this, if_pos (by omega)]
theorem findU_some {us : List Un} {id : Int} {k : Nat} (hk : k < us.length) (h : hasP (us[k]?.getD (false, [])).2 id = true) (hb : ∀ j, j < k → hasP (us[j]?.getD (false, [])).2 id = false) : findU us id = ((k : Int), atP (us[k]?.getD (false, [])).2 id) := by
  have : whereP (us.map (·.2)) id = (k : Int) := whereP_some (by simpa using hk) (by rw [snd_at]; exact h) (fun j hj => by rw [snd_at]; exact hb j hj)
  unfold findU; rw [this, if_neg (by omega), Int.toNat_natCast]
theorem atP_or (ts : List Tk) (id : Int) : (hasP ts id = false ∧ atP ts id = -1) ∨ (hasP ts id = true ∧ ∃ k : Nat, atP ts id = (k : Int) ∧ k < ts.length) := by
  have h := atP_ge ts id
  rcases idxP_or (fun t : Tk => t.1 == id) ts with e | ⟨k, e, hk⟩
  · left
    have e' : atP ts id = -1 := e
    rw [e'] at h
    exact ⟨by rw [← h]; rfl, e'⟩
  · right
    have e' : atP ts id = (k : Int) := e
    rw [e'] at h
    exact ⟨by rw [← h]; simp, k, e', hk⟩

set_option maxRecDepth 100000 in
set_option maxHeartbeats 1600000 in
theorem find_any (hb : Nat) (A1 : Option Addr) (n1 c1 n : Nat) (room : List Int) (us : List Un) (id : Int) (w : World) (h : HostV w hb A1 n1 c1 n room us) (hn : n ≤ 10) :
    Calls Tryz.prog 132 #[.pointer (some ⟨hb, 0, none⟩), .int .i64 id] w fun e w' => e = .returned (.tuple #[.int .i64 (findU us id).1, .int .i64 (findU us id).2]) ∧ Below w.heap.size w w' := by
  have hl := qh h.un.len
  have H := qh h.un
  have lh := h.lt
  have K0 : w.drew.cell? ⟨hb, 2, none⟩ = some (.slice A1 n1 c1) ∧ w.drew.cell? ⟨hb, 3, none⟩ = some (.int .i64 (n : Int)) := ⟨h.c2, h.c3⟩
  have n1' : (0 : Int) ≤ (n : Int) := by omega
  have n2' : (n : Int) ≤ 10 := by omega
  clear h
  go_enter Tryz.func132, Tryz.ntmps132
  go_wp2_with fail
  refine wp_region_mix (.take 0 (.take 1 (.take 2 (.take 3 (.take 4 (.take 5 (.take 6 (.take 7 (.take 8 (.take 9 .nil)))))))))) (fun w' => w'.cell? ⟨hb, 2, none⟩ = some (.slice A1 n1 c1) ∧ w'.cell? ⟨hb, 3, none⟩ = some (.int .i64 (n : Int))) (by kernel_rfl) (by kernel_rfl) K0 (fun _ => ?_)
  clear K0
  repeat ((first | refine mxS (by rfl) (by rfl) ?_ | (refine mxT (v := ?_) (by rfl) (by rfl) (fun z y => ?_) ?_; rotate_left; (focus ((try dsimp only at y); (go_simp <;> with_reducible rfl); done)))); (try simp only [Act.put,pS,pZ,pC]))
  refine wpMix_nil ?_
  have B1 := qh (drew_below w 1)
  have H1 := qh (H.out.drewN 1)
  go_wp2_with fail
  go_loopw [18] (fun i wr => ∃ k : Nat, i = .int .i64 k ∧ k ≤ n ∧ Below w.heap.size w wr ∧ (∀ j, j < k → hasP (us[j]?.getD (false, [])).2 id = false)) (fun i _ => n - (intOf i).toNat)
  case atStart => exact ⟨0, rfl, Nat.zero_le _, B1.out, by intro j hj; omega⟩
  case round =>
    clear B1 H1
    obtain ⟨k, rfl, hk, hbel, hall⟩ := hrel
    have Hbel := qh hbel
    have Hall := qh hall
    clear hbel hall
    by_cases hlt : k < n
    · have k1 : (0 : Int) ≤ (k : Int) := by omega
      have k2 : (k : Int) < (n : Int) := by omega
      have k3 : 0 ≤ (k : Int) * 2 := by omega
      have hkl : Hid (k < us.length) := by have := hl.out; show _ < _; omega
      obtain ⟨b, o, A', m', c', hA, lb, hc1, hc2, hmc, hrd⟩ := (H.out.below Hbel.out).at_ hlt
      injection hA with hA
      injection hA with hA1 hA2
      subst hA1 hA2
      have Hrd := qh hrd
      have lz := Hbel.out.size
      generalize (us[k]?.getD (false, [])).1 = op at *
      have B2 := qh (Hbel.out.alloc lz (.cells #[.bool op, .slice A' m' c'] 83))
      have P2 := qh (Blk.new wr 83 #[.bool op, .slice A' m' c'])
      have R2 := qh ((Hrd.out.more lz).up (alloc_up wr (.cells #[.bool op, .slice A' m' c'] 83)))
      clear hrd
      go_wp2_with fail
      clear hc1 hc2
      generalize wr.heap.size = g at P2 ⊢
      generalize wr.alloc (.cells #[.bool op, .slice A' m' c'] 83) = w2 at B2 P2 R2 ⊢
      have lg := P2.out.lt
      have K0 : w2.drew.cell? ⟨g, 1, none⟩ = some (.slice A' m' c') := P2.out.cell 1
      refine wp_region_mix (.take 0 (.take 1 (.take 2 (.bar 3 (.bar 4 (.take 5 .nil)))))) (fun w' => w'.cell? ⟨g, 1, none⟩ = some (.slice A' m' c')) (by kernel_rfl) (by kernel_rfl) K0 (fun _ => ?_)
      clear K0
      repeat ((first | refine mxS (by rfl) (by rfl) ?_ | (refine mxT (v := ?_) (by rfl) (by rfl) (fun z y => ?_) ?_; rotate_left; (focus ((try dsimp only at y); (go_simp <;> with_reducible rfl); done)))); (try simp only [Act.put,pS,pZ,pC]))
      (refine mxB (by rfl) (fun K hK => ?_); go_simp)
      refine (hasId_any id w2.drew).mono ?_; rintro e w3 ⟨rfl, rfl⟩
      have B3 := qh (B2.out.drew.alloc B2.out.size (.cells #[.int .i64 id] 3))
      have P3 := qh (P2.out.drew.alloc (.cells #[.int .i64 id] 3))
      have X3 := qh (Blk.new w2.drew 3 #[.int .i64 id])
      have R3 := qh ((R2.out.up (drew_below w2 1)).up (alloc_up w2.drew (.cells #[.int .i64 id] 3)))
      ((try dsimp only); refine nxK hK _ _ (P3.out.cell 1) ?_; clear hK K; (try simp only [Act.put,pS,pZ,pC]))
      generalize w2.drew.heap.size = g3 at X3 ⊢
      generalize w2.drew.alloc (.cells #[.int .i64 id] 3) = w3 at B3 P3 X3 R3 ⊢
      repeat ((first | refine mxS (by rfl) (by rfl) ?_ | (refine mxT (v := ?_) (by rfl) (by rfl) (fun z y => ?_) ?_; rotate_left; (focus ((try dsimp only at y); (go_simp <;> with_reducible rfl); done)))); (try simp only [Act.put,pS,pZ,pC]))
      (refine mxB (by rfl) (fun K hK => ?_); go_simp)
      refine (indexT_any A' m' c' g3 (us[k]?.getD (false, [])).2 id w3 R3.out (X3.out.cell 0)).mono ?_; rintro e w4 ⟨rfl, hb4⟩
      have B4 := qh (below_to B3.out hb4)
      ((try dsimp only); refine nxK hK _ _ ((P3.out.below hb4 P3.out.lt).cell 1) ?_; clear hK K; (try simp only [Act.put,pS,pZ,pC]))
      clear hb4
      repeat ((first | refine mxS (by rfl) (by rfl) ?_ | (refine mxT (v := ?_) (by rfl) (by rfl) (fun z y => ?_) ?_; rotate_left; (focus ((try dsimp only at y); (go_simp <;> with_reducible rfl); done)))); (try simp only [Act.put,pS,pZ,pC]))
      refine wpMix_nil ?_
      rcases atP_or (us[k]?.getD (false, [])).2 id with ⟨hh, he⟩ | ⟨hh, q, he, hq⟩
      · have Hh := qh hh
        have Hqq := qh he
        rw [he]
        clear hh he
        go_wp2_with fail
        go_roundw
        case measure => simp [intOf]; omega
        case rel => exact ⟨k + 1, by go_num, by omega, B4.out, fun j hj => by
          by_cases e : j = k
          · rw [e]; exact Hh.out
          · exact Hall.out j (by omega)⟩
      · have Hh := qh hh
        have Hqq := qh (he.symm)
        have q0 : (0 : Int) ≤ (q : Int) := by omega
        rw [he]
        clear hh he
        go_wp2_with fail
        go_ret2
        exact ⟨by rw [findU_some hkl.out Hh.out Hall.out, ← Hqq.out]; rfl, B4.out⟩
    · obtain rfl : k = n := by omega
      go_wp2_with fail
      go_ret2
      exact ⟨by rw [findU_none (fun j hj => Hall.out j (by have := hl.out; omega))]; rfl, Hbel.out⟩

set_option maxRecDepth 100000 in
set_option maxHeartbeats 1600000 in
theorem tasks_any (hb : Nat) (A1 : Option Addr) (n1 c1 n : Nat) (room : List Int) (us : List Un) (w : World) (h : HostV w hb A1 n1 c1 n room us) (hn : n ≤ 10) (hz : (us.map (·.2)).flatten.length ≤ 1000) :
    Calls Tryz.prog 134 #[.pointer (some ⟨hb, 0, none⟩)] w fun e w' => e = .returned (.int .i64 (((us.map (·.2)).flatten.length : Nat) : Int)) ∧ Below w.heap.size w w' := by
  have hl := qh h.un.len
  have Hz := qh hz
  have H := qh h.un
  have lh := h.lt
  have K0 : w.drew.cell? ⟨hb, 2, none⟩ = some (.slice A1 n1 c1) ∧ w.drew.cell? ⟨hb, 3, none⟩ = some (.int .i64 (n : Int)) := ⟨h.c2, h.c3⟩
  have n1' : (0 : Int) ≤ (n : Int) := by omega
  have n2' : (n : Int) ≤ 10 := by omega
  clear h hz
  go_enter Tryz.func134, Tryz.ntmps134
  go_wp2_with fail
  refine wp_region_mix (.take 0 (.take 1 (.take 2 (.take 3 (.take 4 (.take 5 (.take 6 (.take 7 (.take 8 (.take 9 .nil)))))))))) (fun w' => w'.cell? ⟨hb, 2, none⟩ = some (.slice A1 n1 c1) ∧ w'.cell? ⟨hb, 3, none⟩ = some (.int .i64 (n : Int))) (by kernel_rfl) (by kernel_rfl) K0 (fun _ => ?_)
  clear K0
  repeat ((first | refine mxS (by rfl) (by rfl) ?_ | (refine mxT (v := ?_) (by rfl) (by rfl) (fun z y => ?_) ?_; rotate_left; (focus ((try dsimp only at y); (go_simp <;> with_reducible rfl); done)))); (try simp only [Act.put,pS,pZ,pC]))
  refine wpMix_nil ?_
  have B1 := qh (drew_below w 1)
  go_wp2_with fail
  go_loopw [3, 15] (fun v i wr => ∃ k : Nat, i = .int .i64 k ∧ k ≤ n ∧ Below w.heap.size w wr ∧ v = .int .i64 ((((us.take k).map (·.2)).flatten.length : Nat) : Int)) (fun _ i _ => n - (intOf i).toNat)
  case atStart => exact ⟨0, rfl, Nat.zero_le _, B1.out, rfl⟩
  case round =>
    clear B1
    obtain ⟨k, rfl, hk, hbel, rfl⟩ := hrel
    have Hbel := qh hbel
    clear hbel
    by_cases hlt : k < n
    · have k1 : (0 : Int) ≤ (k : Int) := by omega
      have k2 : (k : Int) < (n : Int) := by omega
      have k3 : 0 ≤ (k : Int) * 2 := by omega
      have hkl : Hid (k < us.length) := by have := hl.out; show _ < _; omega
      obtain ⟨b, o, A', m', c', hA, lb, hc1, hc2, hmc, hrd⟩ := (H.out.below Hbel.out).at_ hlt
      injection hA with hA
      injection hA with hA1 hA2
      subst hA1 hA2
      have hm := hrd.len
      have lz := Hbel.out.size
      have B2 := qh (Hbel.out.alloc lz (.cells #[.bool (us[k]?.getD (false, [])).1, .slice A' m' c'] 83))
      have es : (((us.take (k + 1)).map (·.2)).flatten.length : Nat) = ((us.take k).map (·.2)).flatten.length + m' := by rw [snd_succ hkl.out, List.flatten_append, List.length_append, List.flatten_singleton, hm]
      have ez : ((us.take (k + 1)).map (·.2)).flatten.length ≤ 1000 := by
        have e : (us.map (·.2)).flatten.length = ((us.take (k + 1)).map (·.2)).flatten.length + ((us.drop (k + 1)).map (·.2)).flatten.length := by rw [← List.length_append, ← List.flatten_append, ← List.map_append, List.take_append_drop]
        have := Hz.out
        omega
      have Es := qh es
      have v1 : IntKind.i64.wrap (((((us.take k).map (·.2)).flatten.length : Nat) : Int) + (m' : Int)) = ((((us.take k).map (·.2)).flatten.length + m' : Nat) : Int) := by rw [wr64 (by omega) (by omega)]; omega
      clear hrd es ez
      generalize ((us.take k).map (·.2)).flatten.length = s0 at *
      go_wp2_with fail
      go_roundw
      case measure => simp [intOf]; omega
      case rel => exact ⟨k + 1, by go_num, by omega, B2.out, by rw [Es.out, Int.natCast_add]⟩
    · obtain rfl : k = n := by omega
      go_wp2_with fail
      go_ret
      exact ⟨by rw [List.take_of_length_le (by have := hl.out; omega)]; rfl, Hbel.out⟩

def openB1 (room xs : List Int) (u : Un) : Bool := u.1 && fits3 (add3 (loadP u.2) xs) room
def placeP (room : List Int) (us : List Un) (xs : List Int) (g : Bool) : Int := if 0 ≤ idxP (openB1 room xs) us then idxP (openB1 room xs) us else if g = true then idxP (fun u => !u.1) us else -1
theorem placeP_open {room xs : List Int} {us : List Un} {g : Bool} {k : Nat} (hk : k < us.length) (h : openB1 room xs (us[k]?.getD (false, [])) = true) (hb : ∀ j, j < k → openB1 room xs (us[j]?.getD (false, [])) = false) : placeP room us xs g = (k : Int) := by
  have : idxP (openB1 room xs) us = (k : Int) := idxP_some (d := (false, [])) hk h hb
  unfold placeP; rw [this, if_pos (by omega)]
theorem placeP_no {room xs : List Int} {us : List Un} {g : Bool} (hb : ∀ j, j < us.length → openB1 room xs (us[j]?.getD (false, [])) = false) : placeP room us xs g = if g = true then idxP (fun u => !u.1) us else -1 := by
  have : idxP (openB1 room xs) us = -1 := idxP_none (d := (false, [])) hb
  unfold placeP; rw [this, if_neg (by omega)]
theorem idx_take_none {us : List Un} {k : Nat} (hk : k < us.length) (h : idxP (fun u : Un => !u.1) (us.take k) = -1) (ho : (us[k]?.getD (false, [])).1 = true) : idxP (fun u : Un => !u.1) (us.take (k + 1)) = -1 := by
  refine idxP_none (d := (false, [])) fun j hj => ?_
  rw [List.length_take] at hj
  rw [List.getElem?_take, if_pos (by omega)]
  by_cases e : j = k
  · rw [e, ho]; rfl
  · have h2 := idxP_ge (fun u : Un => !u.1) (us.take k)
    rw [h] at h2
    have h3 : (us.take k).any (fun u : Un => !u.1) = false := by rw [← h2]; rfl
    rw [List.any_eq_false] at h3
    have h4 := h3 (us[j]?.getD (false, [])) (by
      have hj' : j < (us.take k).length := by rw [List.length_take]; omega
      have := List.getElem_mem hj'
      rw [List.getElem_take] at this
      rwa [List.getElem?_eq_getElem (by omega)])
    simpa using h4
theorem idx_take_first {us : List Un} {k : Nat} (hk : k < us.length) (h : idxP (fun u : Un => !u.1) (us.take k) = -1) (ho : (us[k]?.getD (false, [])).1 = false) : idxP (fun u : Un => !u.1) (us.take (k + 1)) = (k : Int) := by
  refine idxP_some (d := (false, [])) (by rw [List.length_take]; omega) (by rw [List.getElem?_take, if_pos (by omega), ho]; rfl) fun j hj => ?_
  have h2 := idxP_ge (fun u : Un => !u.1) (us.take k)
  rw [h] at h2
  have h3 : (us.take k).any (fun u : Un => !u.1) = false := by rw [← h2]; rfl
  rw [List.any_eq_false] at h3
  rw [List.getElem?_take, if_pos (by omega)]
  have h4 := h3 (us[j]?.getD (false, [])) (by
    have hj' : j < (us.take k).length := by rw [List.length_take]; omega
    have := List.getElem_mem hj'
    rw [List.getElem_take] at this
    rwa [List.getElem?_eq_getElem (by omega)])
  simpa using h4
theorem idx_take_more {us : List Un} {k c : Nat} (hk : k < us.length) (h : idxP (fun u : Un => !u.1) (us.take k) = (c : Int)) : idxP (fun u : Un => !u.1) (us.take (k + 1)) = (c : Int) := by
  unfold idxP at h ⊢
  rw [List.take_succ_eq_append_getElem hk, List.findIdx?_append]
  cases hf : (us.take k).findIdx? (fun u : Un => !u.1) with
  | none => rw [hf] at h; simp at h
  | some a => rw [hf] at h; exact h

set_option maxRecDepth 100000 in
set_option maxHeartbeats 3200000 in
theorem place_any (hb : Nat) (A1 A3 : Option Addr) (n1 c1 n c3 : Nat) (room : List Int) (us : List Un) (id : Int) (xs : List Int) (g : Bool) (w : World) (h : HostV w hb A1 n1 c1 n room us) (hn : n ≤ 10) (hn1 : 3 ≤ n1) (hx : RdI w w.heap.size A3 3 xs)
    (hus : ∀ u ∈ us, u.2.length ≤ 14 ∧ ∀ t ∈ u.2, vecOk t.2 = true) (hv : vecOk xs = true) :
    Calls Tryz.prog 133 #[.pointer (some ⟨hb, 0, none⟩), .agg #[.int .i64 id, .slice A3 3 c3], .bool g] w fun e w' => e = .returned (.int .i64 (placeP room us xs g)) ∧ Below w.heap.size w w' := by
  have hl := qh h.un.len
  have Hv := qh (fun (j : Nat) (hj : j < 3) => show -1000000 ≤ xs[j]?.getD 0 ∧ xs[j]?.getD 0 ≤ 1000000 from by have := vecOk_bd hv j; omega)
  have Hus := qh hus
  have B0 := alloc_up w (.cells #[.int .i64 id, .slice A3 3 c3] 75)
  have H := qh (h.up B0)
  have HX := qh (hx.up B0)
  have Bw := qh B0
  have Px := qh (Blk.new w 75 #[.int .i64 id, .slice A3 3 c3])
  have n1' : (0 : Int) ≤ (n : Int) := by omega
  have n2' : (n : Int) ≤ 10 := by omega
  clear h hx hus hv B0
  go_enter Tryz.func133, Tryz.ntmps133
  go_wp2_with fail
  generalize w.heap.size = gx at Px ⊢
  generalize w.alloc (.cells #[.int .i64 id, .slice A3 3 c3] 75) = w1 at H HX Bw Px ⊢
  have lx := Px.out.lt
  have K0 : w1.drew.cell? ⟨hb, 2, none⟩ = some (.slice A1 n1 c1) ∧ w1.drew.cell? ⟨hb, 3, none⟩ = some (.int .i64 (n : Int)) := ⟨H.out.c2, H.out.c3⟩
  refine wp_region_mix (.take 0 (.take 1 (.take 2 (.take 3 (.take 4 (.take 5 (.take 6 (.take 7 (.take 8 (.take 9 .nil)))))))))) (fun w' => w'.cell? ⟨hb, 2, none⟩ = some (.slice A1 n1 c1) ∧ w'.cell? ⟨hb, 3, none⟩ = some (.int .i64 (n : Int))) (by kernel_rfl) (by kernel_rfl) K0 (fun _ => ?_)
  clear K0
  repeat ((first | refine mxS (by rfl) (by rfl) ?_ | (refine mxT (v := ?_) (by rfl) (by rfl) (fun z y => ?_) ?_; rotate_left; (focus ((try dsimp only at y); (go_simp <;> with_reducible rfl); done)))); (try simp only [Act.put,pS,pZ,pC]))
  refine wpMix_nil ?_
  have B1 := qh (drew_below w1 1)
  go_wp2_with fail
  go_loopw [7, 19] (fun v i wr => ∃ k : Nat, i = .int .i64 k ∧ k ≤ n ∧ Below w1.heap.size w1 wr ∧ v = .int .i64 (idxP (fun u : Un => !u.1) (us.take k)) ∧ (∀ j, j < k → openB1 room xs (us[j]?.getD (false, [])) = false)) (fun _ i _ => n - (intOf i).toNat)
  case atStart => exact ⟨0, rfl, Nat.zero_le _, B1.out, rfl, by intro j hj; omega⟩
  case round =>
    clear B1
    obtain ⟨k, rfl, hk, hbel, rfl, hall⟩ := hrel
    have Hbel := qh hbel
    have Hall := qh hall
    clear hbel hall
    by_cases hlt : k < n
    · have k1 : (0 : Int) ≤ (k : Int) := by omega
      have k2 : (k : Int) < (n : Int) := by omega
      have k3 : 0 ≤ (k : Int) * 2 := by omega
      have hkl : Hid (k < us.length) := by have := hl.out; show _ < _; omega
      obtain ⟨b, o, A', m', c', hA, lb, hc1, hc2, hmc, hrd⟩ := (H.out.un.below Hbel.out).at_ hlt
      injection hA with hA
      injection hA with hA1 hA2
      subst hA1 hA2
      have Hrd := qh hrd
      have lz := Hbel.out.size
      have B2 := qh (Hbel.out.alloc lz (.cells #[.bool (us[k]?.getD (false, [])).1, .slice A' m' c'] 83))
      have P2 := qh (Blk.new wr 83 #[.bool (us[k]?.getD (false, [])).1, .slice A' m' c'])
      have R2 := qh ((Hrd.out.more lz).up (alloc_up wr (.cells #[.bool (us[k]?.getD (false, [])).1, .slice A' m' c'] 83)))
      have hu := Hus.out _ (un_mem hkl.out)
      have hm := hrd.len
      have hml : m' ≤ 14 := by omega
      have Hload := qh (load_ok hu.2)
      clear hrd
      have hwp : (us[k]?.getD (false, [])).1 = true ∨ (us[k]?.getD (false, [])).1 = false := by cases (us[k]?.getD (false, [])).1 <;> simp
      go_wp2_with fail
      clear hc1 hc2
      generalize wr.heap.size = g2 at P2 ⊢
      generalize wr.alloc (.cells #[.bool (us[k]?.getD (false, [])).1, .slice A' m' c'] 83) = w2 at B2 P2 R2 ⊢
      have lg := P2.out.lt
      have HV := qh (H.out.up B2.out)
      have HX2 := qh (HX.out.up B2.out)
      have Px2 := qh (Px.out.below B2.out Px.out.lt)
      rcases hwp with hop | hop
      · have Hop := qh hop
        rw [hop] at P2
        clear hop
        have K0 : w2.drew.cell? ⟨g2, 0, none⟩ = some (.bool true) ∧ w2.drew.cell? ⟨g2, 1, none⟩ = some (.slice A' m' c') ∧ w2.drew.cell? ⟨hb, 2, none⟩ = some (.slice A1 n1 c1) ∧ w2.drew.cell? ⟨gx, 0, none⟩ = some (.int .i64 id) ∧ w2.drew.cell? ⟨gx, 1, none⟩ = some (.slice A3 3 c3) := ⟨P2.out.cell 0, P2.out.cell 1, HV.out.c2, Px2.out.cell 0, Px2.out.cell 1⟩
        refine wp_region_mix (.take 0 (.take 1 (.take 2 (.take 3 (.take 4 (.take 5 (.take 6 (.take 7 (.take 8 (.take 9 (.bar 10 (.take 11 (.take 12 .nil))))))))))))) (fun w' => w'.cell? ⟨g2, 0, none⟩ = some (.bool true) ∧ w'.cell? ⟨g2, 1, none⟩ = some (.slice A' m' c') ∧ w'.cell? ⟨hb, 2, none⟩ = some (.slice A1 n1 c1) ∧ w'.cell? ⟨gx, 0, none⟩ = some (.int .i64 id) ∧ w'.cell? ⟨gx, 1, none⟩ = some (.slice A3 3 c3)) (by kernel_rfl) (by kernel_rfl) K0 (fun _ => ?_)
        clear K0
        repeat ((first | refine mxS (by rfl) (by rfl) ?_ | (refine mxT (v := ?_) (by rfl) (by rfl) (fun z y => ?_) ?_; rotate_left; (focus ((try dsimp only at y); (go_simp <;> with_reducible rfl); done)))); (try simp only [Act.put,pS,pZ,pC]))
        (refine mxB (by rfl) (fun K hK => ?_); go_simp)
        refine (hasRoom_any A1 A' A3 n1 c1 m' c' c3 room (us[k]?.getD (false, [])).2 id xs w2.drew HV.out.rm R2.out HX2.out hn1 (by omega) (fun j hj => Hload.out.1 j (by omega)) Hload.out.2 Hv.out).mono ?_; rintro e w3 ⟨rfl, hb3⟩
        have up3 := (drew_below w2 1).trans hb3
        have B3 := qh (below_to B2.out up3)
        have PP := qh (P2.out.below up3 P2.out.lt)
        have PX := qh (Px2.out.below up3 Px2.out.lt)
        have HW := qh (HV.out.up up3)
        ((try dsimp only); refine nxK hK _ _ (⟨PP.out.cell 0, PP.out.cell 1, HW.out.c2, PX.out.cell 0, PX.out.cell 1⟩) ?_; clear hK K; (try simp only [Act.put,pS,pZ,pC]))
        clear hb3 up3
        repeat ((first | refine mxS (by rfl) (by rfl) ?_ | (refine mxT (v := ?_) (by rfl) (by rfl) (fun z y => ?_) ?_; rotate_left; (focus ((try dsimp only at y); (go_simp <;> with_reducible rfl); done)))); (try simp only [Act.put,pS,pZ,pC]))
        refine wpMix_nil ?_
        have hdf : openB1 room xs (us[k]?.getD (false, [])) = fits3 (add3 (loadP (us[k]?.getD (false, [])).2) xs) room := by unfold openB1; rw [Hop.out]; rfl
        cases hro : fits3 (add3 (loadP (us[k]?.getD (false, [])).2) xs) room with
        | true =>
          rw [hro] at hdf
          have Hdf := qh hdf
          clear hdf hro
          go_wp2_with fail
          go_ret
          exact ⟨by rw [placeP_open hkl.out Hdf.out Hall.out]; rfl, Bw.out.trans (B3.out.mono Bw.out.size)⟩
        | false =>
          rw [hro] at hdf
          have Hdf := qh hdf
          have y0 := PP.out.cell 0
          simp only [gT, gZ] at y0
          clear hdf hro
          have Hsame := qh (show idxP (fun u : Un => !u.1) (us.take (k + 1)) = idxP (fun u : Un => !u.1) (us.take k) from by
            rcases idxP_or (fun u : Un => !u.1) (us.take k) with e | ⟨c, e, _⟩
            · rw [e]; exact idx_take_none hkl.out e Hop.out
            · rw [e]; exact idx_take_more hkl.out e)
          generalize idxP (fun u : Un => !u.1) (us.take k) = cl at *
          go_wp2_with fail
          go_roundw
          case measure => simp [intOf]; omega
          case rel => exact ⟨k + 1, by go_num, by omega, B3.out, by rw [Hsame.out], fun j hj => by
            by_cases e : j = k
            · rw [e]; exact Hdf.out
            · exact Hall.out j (by omega)⟩
      · have Hop := qh hop
        rw [hop] at P2
        clear hop
        have Hdf := qh (show openB1 room xs (us[k]?.getD (false, [])) = false from by unfold openB1; rw [Hop.out]; rfl)
        have K0 : w2.drew.cell? ⟨g2, 0, none⟩ = some (.bool false) := P2.out.cell 0
        refine wp_region_mix (.take 0 (.take 1 (.take 2 (.take 3 (.take 4 (.take 5 (.take 6 (.take 7 (.take 8 (.take 9 (.take 10 (.take 11 (.take 12 .nil))))))))))))) (fun w' => w'.cell? ⟨g2, 0, none⟩ = some (.bool false)) (by kernel_rfl) (by kernel_rfl) K0 (fun _ => ?_)
        clear K0
        repeat ((first | refine mxS (by rfl) (by rfl) ?_ | (refine mxT (v := ?_) (by rfl) (by rfl) (fun z y => ?_) ?_; rotate_left; (focus ((try dsimp only at y); (go_simp <;> with_reducible rfl); done)))); (try simp only [Act.put,pS,pZ,pC]))
        refine wpMix_nil ?_
        have B3 := qh (below_to B2.out (drew_below w2 1))
        have y0 : w2.drew.cell? ⟨g2, 0, none⟩ = some (.bool false) := P2.out.cell 0
        rcases idxP_or (fun u : Un => !u.1) (us.take k) with e | ⟨c, e, _⟩
        · have Hn := qh (idx_take_first hkl.out e Hop.out)
          rw [e]
          clear e
          have m1 : (-1 : Int) < 0 := by omega
          go_wp2_with fail
          go_roundw
          case measure => simp [intOf]; omega
          case rel => exact ⟨k + 1, by go_num, by omega, B3.out, by rw [Hn.out], fun j hj => by
            by_cases e : j = k
            · rw [e]; exact Hdf.out
            · exact Hall.out j (by omega)⟩
        · have Hn := qh (idx_take_more hkl.out e)
          rw [e]
          clear e
          have m1 : ¬ ((c : Int) < 0) := by omega
          go_wp2_with fail
          go_roundw
          case measure => simp [intOf]; omega
          case rel => exact ⟨k + 1, by go_num, by omega, B3.out, by rw [Hn.out], fun j hj => by
            by_cases e : j = k
            · rw [e]; exact Hdf.out
            · exact Hall.out j (by omega)⟩
    · obtain rfl : k = n := by omega
      have BB := qh (Bw.out.trans (Hbel.out.mono Bw.out.size))
      have hall' := qh (fun j (hj : j < us.length) => Hall.out j (by have := hl.out; omega))
      cases g with
      | true =>
        have Hno := qh ((placeP_no (g := true) hall'.out).trans (if_pos rfl))
        go_wp2_with fail
        go_ret
        exact ⟨by rw [Hno.out, List.take_of_length_le (by have := hl.out; omega)]; rfl, BB.out⟩
      | false =>
        have Hno := qh ((placeP_no (g := false) hall'.out).trans (if_neg (by simp)))
        go_wp2_with fail
        go_ret
        exact ⟨by rw [Hno.out]; rfl, BB.out⟩
end Go.Proofs.YtdkhdfedejbicaaGreatDoor

namespace Go.Proofs.YtdkhdfedejbicaaGreatDoor
set_option linter.unusedSimpArgs false
set_option linter.unusedVariables false
abbrev muLink : Go.Conc.Locks.MuLink := { lock := 102, unlock := 103, ilock := 137, iunlock := 138, lockSlow := 170, unlockSlow := 173, disable := 166, enable := 168, acquire := 169, relMerge := 171, cas32 := 167, add32 := 172, tMutex := 132, tIMutex := 130, tPMutex := 165, tPIMutex := 197, tPI32 := 199, tUP := 96, tNoCopy := 127, tU32 := 128 }
theorem muLib : Go.Conc.Locks.MuLib Tryz.prog muLink :=
  ⟨Tryz.func102, Tryz.func103, Tryz.func137, Tryz.func138, Tryz.func166, Tryz.func168, Tryz.func169, Tryz.func171, Tryz.func167, Tryz.func172,
   Tryz.underlying130, Tryz.runUnderlying130, Tryz.sizeOf130, Tryz.isAgg130, Tryz.zeroValue130,
   Tryz.underlying132, Tryz.runUnderlying132, Tryz.sizeOf132, Tryz.isAgg132, Tryz.zeroValue132,
   Tryz.underlying165, Tryz.runUnderlying165, Tryz.sizeOf165, Tryz.isAgg165, Tryz.zeroValue165,
   Tryz.underlying197, Tryz.runUnderlying197, Tryz.sizeOf197, Tryz.isAgg197, Tryz.zeroValue197,
   Tryz.underlying199, Tryz.runUnderlying199, Tryz.sizeOf199, Tryz.isAgg199, Tryz.zeroValue199,
   Tryz.underlying96, Tryz.runUnderlying96, Tryz.sizeOf96, Tryz.isAgg96, Tryz.zeroValue96,
   Tryz.underlying127, Tryz.runUnderlying127, Tryz.sizeOf127, Tryz.isAgg127, Tryz.zeroValue127,
   Tryz.underlying21, Tryz.runUnderlying21, Tryz.sizeOf21, Tryz.isAgg21, Tryz.zeroValue21, (by kernel_rfl)⟩
end Go.Proofs.YtdkhdfedejbicaaGreatDoor

namespace Go.Proofs.YtdkhdfedejbicaaGreatDoor
set_option linter.unusedSimpArgs false
set_option linter.unusedVariables false
open Go Go.RowKit
attribute [local go_sem ↓] Go.wp_at_zero Go.wp_at_succ

set_option maxRecDepth 100000 in
set_option maxHeartbeats 1600000 in
theorem copyOf_any (A : Option Addr) (n c : Nat) (id : Int) (xs : List Int) (w : World) (h : RdI w w.heap.size A n xs) (hn : n ≤ 1048576) :
    Calls Tryz.prog 135 #[.agg #[.int .i64 id, .slice A n c]] w fun e w' => ∃ A' c', e = .returned (.agg #[.int .i64 id, .slice A' n c']) ∧ w'.ownsRow w.heap.size 3 1 (.slice A' n c') n (xs.map (Value.int .i64)) ∧ Below w.heap.size w w' := by
  have H := qh h
  clear h
  go_enter Tryz.func135, Tryz.ntmps135
  go_wp2_with fail
  have B1 := qh ((upNew w (.cells #[.int .i64 id, .slice A n c] 75)).alloc (by simp) (.cells #[.int .i64 0, .slice none 0 0] 75))
  have sz : (w.alloc (.cells #[.int .i64 id, .slice A n c] 75)).heap.size = w.heap.size + 1 := World.size_alloc _ _
  have P1 := qh ((Blk.new w 75 #[.int .i64 id, .slice A n c]).alloc (.cells #[.int .i64 0, .slice none 0 0] 75))
  have Q1 := qh (show Blk ((w.alloc (.cells #[.int .i64 id, .slice A n c] 75)).alloc (.cells #[.int .i64 0, .slice none 0 0] 75)) (w.heap.size + 1) 75 #[.int .i64 0, .slice none 0 0] from by
    have := Blk.new (w.alloc (.cells #[.int .i64 id, .slice A n c] 75)) 75 #[.int .i64 0, .slice none 0 0]
    rwa [sz] at this)
  generalize (w.alloc (.cells #[.int .i64 id, .slice A n c] 75)).alloc (.cells #[.int .i64 0, .slice none 0 0] 75) = w1 at B1 P1 Q1 ⊢
  clear sz
  have K0 : w1.drew.cell? ⟨w.heap.size, 0, none⟩ = some (.int .i64 id) ∧ w1.drew.cell? ⟨w.heap.size, 1, none⟩ = some (.slice A n c) := ⟨P1.out.cell 0, P1.out.cell 1⟩
  have l1 : w.heap.size + 1 < w1.heap.size := Q1.out.lt
  refine wp_region_mix (.take 0 (.take 2 (.take 1 (.take 3 (.bar 4 (.take 5 (.bar 6 .nil))))))) (fun w' => w'.cell? ⟨w.heap.size, 0, none⟩ = some (.int .i64 id) ∧ w'.cell? ⟨w.heap.size, 1, none⟩ = some (.slice A n c)) (by kernel_rfl) (by kernel_rfl) K0 (fun _ => ?_)
  clear K0
  repeat ((first | refine mxS (by rfl) (by rfl) ?_ | (refine mxT (v := ?_) (by rfl) (by rfl) (fun z y => ?_) ?_; rotate_left; (focus ((try dsimp only at y); (go_simp <;> with_reducible rfl); done)))); (try simp only [Act.put,pS,pZ,pC]))
  (refine mxB (by rfl) (fun K hK => ?_); go_simp)
  refine (clone_any A n c xs w1.drew (H.out.up B1.out.drew) hn).mono ?_; rintro e w2 ⟨A', c', rfl, hown, hb2⟩
  have Hown := qh hown
  have HB2 := qh hb2
  have P2 := qh (P1.out.drew.below hb2 P1.out.lt)
  have Q2 := qh (Q1.out.drew.below hb2 Q1.out.lt)
  clear hown hb2
  ((try dsimp only); refine nxK hK _ _ (⟨P2.out.cell 0, P2.out.cell 1⟩) ?_; clear hK K; (try simp only [Act.put,pS,pZ,pC]))
  repeat ((first | refine mxS (by rfl) (by rfl) ?_ | (refine mxT (v := ?_) (by rfl) (by rfl) (fun z y => ?_) ?_; rotate_left; (focus ((try dsimp only at y); (go_simp <;> with_reducible rfl); done)))); (try simp only [Act.put,pS,pZ,pC]))
  have y0 : w2.cell? ⟨w.heap.size + 1, 0, none⟩ = some (.int .i64 0) := Q2.out.cell 0
  have y1 : w2.cell? ⟨w.heap.size + 1, 1, none⟩ = some (.slice none 0 0) := Q2.out.cell 1
  have f0 : w2.frozen? ⟨w.heap.size + 1, 0, none⟩ = false := Q2.out.frozen 0
  have f1 : w2.frozen? ⟨w.heap.size + 1, 1, none⟩ = false := Q2.out.frozen 1
  (refine mxB (by rfl) (fun K hK => ?_); go_simp)
  clear y0 y1 f0 f1
  have EP := qh ((P2.out.far (p := ⟨w.heap.size + 1, 0, none⟩) (by simp) (.int .i64 id)).far (p := ⟨w.heap.size + 1, 1, none⟩) (by simp) (.slice A' n c'))
  have EQ := qh ((Q2.out.set_ 0 (.int .i64 id)).set_ 1 (.slice A' n c'))
  have kk : ∀ b, b ≠ w.heap.size + 1 → ((w2.setCell ⟨w.heap.size + 1, 0, none⟩ (.int .i64 id)).setCell ⟨w.heap.size + 1, 1, none⟩ (.slice A' n c')).heap[b]? = w2.heap[b]? := fun b hb => (Below.heap_setCell _ _ _ b hb).trans (Below.heap_setCell _ _ _ b hb)
  have F1 := qh (own_keep Hown.out (w' := (w2.setCell ⟨w.heap.size + 1, 0, none⟩ (.int .i64 id)).setCell ⟨w.heap.size + 1, 1, none⟩ (.slice A' n c')) (fun b hb => kk b (by have := (Hown.out.lt b hb).1; have : w1.drew.heap.size = w1.heap.size := rfl; omega)))
  have F2 := qh (((B1.out.drew.trans (HB2.out.mono B1.out.size)).setCell (p := ⟨w.heap.size + 1, 0, none⟩) (by simp) (.int .i64 id)).setCell (p := ⟨w.heap.size + 1, 1, none⟩) (by simp) (.slice A' n c'))
  clear kk
  generalize (w2.setCell ⟨w.heap.size + 1, 0, none⟩ (.int .i64 id)).setCell ⟨w.heap.size + 1, 1, none⟩ (.slice A' n c') = w3 at EP EQ F1 F2 ⊢
  ((try dsimp only); refine nxK hK _ _ (⟨EP.out.cell 0, EP.out.cell 1⟩) ?_; clear hK K; (try simp only [Act.put,pS,pZ,pC]))
  refine wpMix_nil ?_
  have z0 : w3.cell? ⟨w.heap.size + 1, 0, none⟩ = some (.int .i64 id) := EQ.out.cell 0
  have z1 : w3.cell? ⟨w.heap.size + 1, 1, none⟩ = some (.slice A' n c') := EQ.out.cell 1
  go_wp2
  refine bodyPost_ret (v := .agg #[.int .i64 id, .slice A' n c']) (by simp [results, Tryz.results135, go_sem, z0, z1]) rfl ⟨A', c', rfl, ?_, F2.out⟩
  refine ⟨F1.out.1, F1.out.2.imp (fun h => h) ?_⟩
  rintro ⟨g, cap, cur, a, b, d⟩
  exact ⟨g, cap, cur, a, by have : w1.drew.heap.size = w1.heap.size := rfl; omega, d⟩
end Go.Proofs.YtdkhdfedejbicaaGreatDoor

namespace Go.Proofs.YtdkhdfedejbicaaGreatDoor
set_option linter.unusedSimpArgs false
set_option linter.unusedVariables false
open Go Go.RowKit
attribute [local go_sem ↓] Go.wp_at_zero Go.wp_at_succ

set_option maxRecDepth 100000 in
set_option maxHeartbeats 1600000 in
theorem copyTasks_any (A : Option Addr) (n c : Nat) (ts : List Tk) (w : World) (h : RdT w w.heap.size A n ts) (hn : n ≤ 1000) (hm : ∀ j, j < n → (ts[j]?.getD (0, [])).2.length ≤ 1048576) :
    Calls Tryz.prog 162 #[.slice A n c] w fun e w' => ∃ A' c', e = .returned (.slice A' n c') ∧ OwnTs w' w.heap.size (.slice A' n c') n ts ∧ Below w.heap.size w w' := by
  obtain ⟨i0, hi0, hz0, hz1, hz2⟩ := info_parts task_info
  have hl := qh h.len
  have H := qh h
  have Hm := qh hm
  clear h hm
  have hmk := fun W : World => run_make (P := Tryz.prog) W 81 75 i0 _ Tryz.underlying81 hi0 hz0 .i64 .i64 0 n (by omega) (by omega) (by rw [hz2]; omega) (by omega)
  simp only [Int.toNat_natCast, Int.toNat_zero, hz1] at hmk
  have hcells : (madeCells (Value.agg #[.int .i64 0, .slice none 0 0]).cells (n * 2)).size = n * 2 := size_madeCells _ _
  generalize madeCells (Value.agg #[.int .i64 0, .slice none 0 0]).cells (n * 2) = mc at hmk hcells
  have O0 := qh (World.ownsRow_made (base := w.heap.size) (e := 75) (size := 2) w mc n (Nat.le_refl _) (by unfold maxLen; omega) hcells)
  have B0 := qh (alloc_up w (.cells mc 75))
  clear hcells
  go_enter Tryz.func162, Tryz.ntmps162
  go_wp2_with fail
  generalize w.alloc (.cells mc 75) = w0 at O0 B0 ⊢
  go_loopw [3, 11] (fun v i wr => ∃ (k : Nat) (A0 : Option Addr) (c0 : Nat) (vs : List Value) (nd : Nat → Value), i = .int .i64 k ∧ k ≤ n ∧ v = .slice A0 k c0 ∧ Below w.heap.size w wr ∧
    wr.ownsRow w.heap.size 75 2 (.slice A0 k c0) k vs ∧ NdTs wr w.heap.size k vs nd (ts.take k)) (fun _ i _ => n - (intOf i).toNat)
  case atStart => exact ⟨0, _, _, [], _, rfl, Nat.zero_le _, rfl, B0.out, O0.out, NdTs.nil⟩
  case round =>
    clear O0 B0
    obtain ⟨k, A0, c0, vs, nd, rfl, hk, rfl, hbel, hown, hnd⟩ := hrel
    by_cases hlt : k < n
    · obtain ⟨b1, o1, A3', m3, c3', rfl, lb1, hc1, hc3, hle3, hr3⟩ := (H.out.below hbel).at_ hlt
      have k1 : (0 : Int) ≤ (k : Int) := by omega
      have k2 : (k : Int) < (n : Int) := by omega
      have k3 : 0 ≤ (k : Int) * 2 := by omega
      have hkl : k < ts.length := by have := hl.out; omega
      have Hs := qh (show ts.take (k + 1) = ts.take k ++ [((ts[k]?.getD (0, [])).1, (ts[k]?.getD (0, [])).2)] from by rw [List.take_succ_eq_append_getElem hkl, List.getElem?_eq_getElem hkl]; rfl)
      have em : m3 ≤ 1048576 := by have := Hm.out k hlt; have := hr3.len; omega
      have lzr := hbel.size
      have hal := alloc_up wr (.cells #[.int .i64 (ts[k]?.getD (0, [])).1, .slice A3' m3 c3'] 75)
      have Hbel := qh (hbel.alloc lzr (.cells #[.int .i64 (ts[k]?.getD (0, [])).1, .slice A3' m3 c3'] 75))
      have Hown := qh (own_keep hown (w' := wr.alloc (.cells #[.int .i64 (ts[k]?.getD (0, [])).1, .slice A3' m3 c3'] 75)) (fun b hb => Below.heap_alloc _ _ _ (hown.lt b hb).2))
      have Hnd := qh (hnd.keep (w' := wr.alloc (.cells #[.int .i64 (ts[k]?.getD (0, [])).1, .slice A3' m3 c3'] 75)) (fun b _ hlt => Below.heap_alloc _ _ _ hlt))
      have Hr3 := qh ((hr3.more lzr).up hal)
      have Px := qh (Blk.new wr 75 #[.int .i64 (ts[k]?.getD (0, [])).1, .slice A3' m3 c3'])
      have lz : w.heap.size ≤ (wr.alloc (.cells #[.int .i64 (ts[k]?.getD (0, [])).1, .slice A3' m3 c3'] 75)).heap.size := by rw [World.size_alloc]; omega
      clear hal hbel hown hnd hr3
      generalize (ts[k]?.getD (0, [])).1 = idk at *
      generalize (ts[k]?.getD (0, [])).2 = xk at *
      have p0 := Px.out.cell 0
      have p1 := Px.out.cell 1
      simp only [gT, gZ, gS] at p0 p1
      go_wp2_with fail
      clear hc1 hc3
      generalize wr.heap.size = gx at Px p0 p1 ⊢
      generalize wr.alloc (.cells #[.int .i64 idk, .slice A3' m3 c3'] 75) = W3 at Hbel Hown Hnd Hr3 Px lz p0 p1 ⊢
      refine (copyOf_any A3' m3 c3' idk xk W3 Hr3.out em).mono ?_; rintro e w4 ⟨A4', c4', rfl, hx4, hb4⟩
      have Ho4 := qh (own_keep Hown.out (fun b hb => hb4.block b (Hown.out.lt b hb).2))
      have Hn4 := qh (Hnd.out.keep (w' := w4) (fun b _ hlt => hb4.block b hlt))
      have sz4 := hb4.size
      have Ho5 := qh (own_keep Ho4.out (w' := w4.alloc (.cells #[.int .i64 idk, .slice A4' m3 c4'] 75)) (fun b hb => Below.heap_alloc _ _ _ (Ho4.out.lt b hb).2))
      have Hx5 := qh (own_keep hx4 (w' := w4.alloc (.cells #[.int .i64 idk, .slice A4' m3 c4'] 75)) (fun b hb => Below.heap_alloc _ _ _ (hx4.lt b hb).2))
      have Hn5 := qh ((Hn4.out.keep (w' := w4.alloc (.cells #[.int .i64 idk, .slice A4' m3 c4'] 75)) (fun b _ hlt => Below.heap_alloc _ _ _ hlt)).snoc (w0 := W3) (id := idk) Ho4.out.1 Hnd.out.old Hx5.out lz)
      have Hs5 := qh (lit2 w4 75 (.int .i64 idk) (.slice A4' m3 c4'))
      have lz5 : w.heap.size ≤ (w4.alloc (.cells #[.int .i64 idk, .slice A4' m3 c4'] 75)).heap.size := by rw [World.size_alloc]; omega
      have Hb5 := qh (((Hbel.out.trans (hb4.mono lz))).alloc (by omega) (.cells #[.int .i64 idk, .slice A4' m3 c4'] 75))
      clear hx4 hb4 p0 p1
      go_wp2_with (at_builtin; refine wpList_append_src _ rfl _ _ 81 rfl w.heap.size 75 i0 _ 2 32 Tryz.underlying81 hi0 hz0 hz1 hz2 rfl (by omega) (.slice A0 k c0) k vs rfl Ho5.out (some ⟨w4.heap.size, 0, none⟩) 1 1 [.int .i64 idk, .slice A4' m3 c4'] rfl Hs5.out (by simp [Value.oneCell']) (by unfold maxLen; omega) (by omega) lz5 ?_; intro v' w6 hown6 hgrow6 hat6)
      have Hn6 := qh (Hn5.out.grown Ho5.out hgrow6)
      have Hb6 := qh (Hb5.out.grown hgrow6 lz5 (fun j e => (Ho5.out.lt j e).1))
      obtain ⟨A6, c6, rfl⟩ := own_shape hown6
      have Ho6 := qh hown6
      clear hown6 hgrow6 hat6 Ho4 Hn4 Ho5 Hx5 Hn5 Hs5 Hb5
      go_wp2_with fail
      go_roundw
      case measure => simp [intOf]; omega
      case rel => exact ⟨k + 1, A6, c6, _, _, by go_num, by omega, rfl, Hb6.out, Ho6.out, by rw [Hs.out]; exact Hn6.out⟩
    · obtain rfl : k = n := by omega
      have Hbel := qh hbel
      have Hown := qh hown
      have Hnd := qh hnd
      clear hbel hown hnd
      go_wp2_with fail
      go_ret
      have hnn := Hnd.out
      rw [List.take_of_length_le (by have := hl.out; omega)] at hnn
      exact ⟨A0, c0, rfl, ⟨vs, nd, Hown.out, hnn⟩, Hbel.out⟩

set_option maxRecDepth 100000 in
set_option maxHeartbeats 3200000 in
theorem copyOfC_any (A1 A2 : Option Addr) (n1 c1 n2 c2 : Nat) (room : List Int) (us : List Un) (w : World) (h : RdC w A1 A2 n1 n2 room us) (hs : ShU us) (hn1 : n1 ≤ 1048576) :
    Calls Tryz.prog 131 #[.agg #[.slice A1 n1 c1, .slice A2 n2 c2]] w fun e w' => ∃ A3 c3 A4 c4, e = .returned (.agg #[.slice A3 n1 c3, .slice A4 n2 c4]) ∧ OwnC w' w.heap.size (.slice A3 n1 c3) (.slice A4 n2 c4) n1 n2 room us ∧ Below w.heap.size w w' := by
  obtain ⟨ui0, hu0, huz0, huz1, huz2⟩ := info_parts unit_info
  have hl := qh h.b.len
  have Hsh := qh hs
  have ln : n2 ≤ 1000 := by have := h.b.len; have := hs.1; omega
  -- the argument's box, the result's cells
  have sz : (w.alloc (.cells #[.slice A1 n1 c1, .slice A2 n2 c2] 35)).heap.size = w.heap.size + 1 := World.size_alloc _ _
  have hZ := Blk.new (w.alloc (.cells #[.slice A1 n1 c1, .slice A2 n2 c2] 35)) 35 #[.slice none 0 0, .slice none 0 0]
  rw [sz] at hZ
  have B1 := qh ((alloc_up w (.cells #[.slice A1 n1 c1, .slice A2 n2 c2] 35)).alloc (by rw [sz]; omega) (.cells #[.slice none 0 0, .slice none 0 0] 35))
  have P1 := qh ((Blk.new w 35 #[.slice A1 n1 c1, .slice A2 n2 c2]).alloc (.cells #[.slice none 0 0, .slice none 0 0] 35))
  have Z1 := qh hZ
  have H1 := qh (h.up B1.out)
  clear h hs hZ sz
  go_enter Tryz.func131, Tryz.ntmps131
  have x0 := P1.out.cell 0
  simp only [gT, gZ] at x0
  go_wp2_with fail
  clear x0
  generalize hgb : w.heap.size = gb at P1 Z1 ⊢
  generalize (w.alloc (.cells #[.slice A1 n1 c1, .slice A2 n2 c2] 35)).alloc (.cells #[.slice none 0 0, .slice none 0 0] 35) = w1 at B1 P1 Z1 H1 ⊢
  refine (clone_any A1 n1 c1 room w1 H1.out.a hn1).mono ?_; rintro e w2 ⟨A3, c3, rfl, hown, hb2⟩
  have B2 := qh (below_to B1.out hb2)
  have Z2 := qh (Z1.out.below hb2 Z1.out.lt)
  have P2 := qh (P1.out.below hb2 P1.out.lt)
  have N2 := qh (H1.out.b.up hb2)
  have O2 := qh (own_lo hown B1.out.size)
  have Lo := qh (fun b hb => (hown.lt b hb).2)
  have l12 : w1.heap.size ≤ w2.heap.size := hb2.size
  have lz1 : gb + 1 < w1.heap.size := Z1.out.lt
  have sz : (w2.alloc (.cells #[.slice A3 n1 c3, .slice none 0 0] 35)).heap.size = w2.heap.size + 1 := World.size_alloc _ _
  have hb3 := alloc_up w2 (.cells #[.slice A3 n1 c3, .slice none 0 0] 35)
  have B3 := qh (below_to B2.out hb3)
  have Z3 := qh (Z2.out.alloc (.cells #[.slice A3 n1 c3, .slice none 0 0] 35))
  have P3 := qh (P2.out.alloc (.cells #[.slice A3 n1 c3, .slice none 0 0] 35))
  have C3 := qh (Blk.new w2 35 #[.slice A3 n1 c3, .slice none 0 0])
  have N3 := qh (N2.out.below hb3)
  have O3 := qh (own_alloc O2.out (.cells #[.slice A3 n1 c3, .slice none 0 0] 35))
  have y1 := P3.out.cell 1
  simp only [gT, gZ, gS] at y1
  clear hown hb2 hb3 B1 P1 Z1 H1 B2 Z2 P2 N2 O2
  go_wp2_with fail
  clear y1
  have lg3 : gb + 1 < w2.heap.size := by omega
  generalize hmd : w2.heap.size = md at C3 Lo sz lg3 N3 ⊢
  have lwd : w.heap.size ≤ md := by omega
  generalize w2.alloc (.cells #[.slice A3 n1 c3, .slice none 0 0] 35) = w3 at B3 Z3 C3 N3 O3 sz ⊢
  clear P3 hmd l12 lz1
  go_loopw [13] (fun i wr => ∃ (k : Nat) (A6 : Option Addr) (c6 : Nat) (vs : List Value) (tk : Nat → Value) (f : Nat → Nat), i = .int .i64 k ∧ k ≤ n2 ∧ Below w.heap.size w wr ∧ Blk wr (gb + 1) 35 #[.slice none 0 0, .slice none 0 0] ∧
    Blk wr md 35 #[.slice A3 n1 c3, .slice A6 k c6] ∧ wr.ownsRow w.heap.size 3 1 (.slice A3 n1 c3) n1 (room.map (Value.int .i64)) ∧ wr.ownsRow md 83 2 (.slice A6 k c6) k vs ∧ NdUs wr k vs tk f (us.take k) ∧ md ≤ f 0 ∧ f k ≤ wr.heap.size ∧ Below md w3 wr) (fun i _ => n2 - (intOf i).toNat)
  case atStart => exact ⟨0, none, 0, [], _, _, rfl, Nat.zero_le _, B3.out, Z3.out, C3.out, O3.out, ⟨rfl, .inl ⟨rfl, rfl⟩⟩, NdUs.nil md, Nat.le_refl _, by omega, Below.refl _ _⟩
  case round =>
    clear B3 Z3 C3 O3
    obtain ⟨k, A6, c6, vs, tk, f, rfl, hk, hbel, hzb, hcl, hrm, hun, hnd, hmd, hfk, hup⟩ := hrel
    have Hvl := qh (show vs.length = k * 2 from hun.1)
    by_cases hlt : k < n2
    · have k1 : (0 : Int) ≤ (k : Int) := by omega
      have k2 : (k : Int) < (n2 : Int) := by omega
      have k3 : 0 ≤ (k : Int) * 2 := by omega
      have hkl : Hid (k < us.length) := by have := hl.out; show _ < _; omega
      have Hs := qh (un_succ hkl.out)
      obtain ⟨b, o, A', m1, c', rfl, lb, hc1, hc2, hmc, hrd⟩ := (N3.out.below hup).at_ hlt
      have hu := Hsh.out.2 _ (un_mem hkl.out)
      have hm1 : m1 ≤ 1000 := by have := hrd.len; have := hu.1; omega
      have Hml := qh (fun j (hj : j < m1) => show ((us[k]?.getD (false, [])).2[j]?.getD (0, [])).2.length ≤ 1048576 from by
        have := hu.2 _ (tk_mem (show j < (us[k]?.getD (false, [])).2.length by rw [hrd.len]; exact hj)); omega)
      have lup : md ≤ wr.heap.size := by have := hup.size; omega
      clear hu
      generalize (us[k]?.getD (false, [])).1 = op at *
      generalize (us[k]?.getD (false, [])).2 = ts at *
      have lzr := hbel.size
      have szu : (wr.alloc (.cells #[.bool op, .slice A' m1 c'] 83)).heap.size = wr.heap.size + 1 := World.size_alloc _ _
      have hba := alloc_up wr (.cells #[.bool op, .slice A' m1 c'] 83)
      have HB0 := qh ((hbel.alloc lzr (.cells #[.bool op, .slice A' m1 c'] 83)).drew)
      have HZ0 := qh ((hzb.alloc (.cells #[.bool op, .slice A' m1 c'] 83)).drew)
      have HC0 := qh ((hcl.alloc (.cells #[.bool op, .slice A' m1 c'] 83)).drew)
      have HM0 := qh (World.ownsRow.drew (own_alloc hrm (.cells #[.bool op, .slice A' m1 c'] 83)))
      have HU0 := qh (World.ownsRow.drew (own_alloc hun (.cells #[.bool op, .slice A' m1 c'] 83)))
      have HN0 := qh ((hnd.keepTI (KeepTI.up hba)).keepTI (KeepTI.drew _))
      have HX0 := qh ((Blk.new wr 83 #[.bool op, .slice A' m1 c']).drew)
      have HRt := qh (((hrd.more lup).up hba).up ((Below.refl _ _).drew))
      have HUp0 := qh ((hup.alloc lup (.cells #[.bool op, .slice A' m1 c'] 83)).drew)
      have lfd : f k ≤ (wr.alloc (.cells #[.bool op, .slice A' m1 c'] 83)).drew.heap.size := by show f k ≤ (wr.alloc (.cells #[.bool op, .slice A' m1 c'] 83)).heap.size; omega
      have lmz : md ≤ (wr.alloc (.cells #[.bool op, .slice A' m1 c'] 83)).drew.heap.size := by have := hnd.mono 0 k (by omega) (by omega); show md ≤ (wr.alloc (.cells #[.bool op, .slice A' m1 c'] 83)).heap.size; omega
      have lmr : md < wr.heap.size := hcl.lt
      have Hne := qh (show (Value.slice A6 k c6).ownBlock ≠ some wr.heap.size from fun e => by have := (hun.lt _ e).2; omega)
      clear hbel hzb hcl hrm hun hnd hrd hup hba szu
      have lzr2 : wr.heap.size < (wr.alloc (.cells #[.bool op, .slice A' m1 c'] 83)).drew.heap.size := HX0.out.lt
      go_wp2_with fail
      clear hc1 hc2
      generalize wr.heap.size = g5 at HX0 lmr lzr2 Hne ⊢
      generalize wr.alloc (.cells #[.bool op, .slice A' m1 c'] 83) = wq at HB0 HZ0 HC0 HM0 HU0 HN0 HX0 HRt HUp0 lfd lmz lzr2 ⊢
      refine wp_region_mixL (.take 0 (.take 2 (.take 4 (.take 1 (.take 3 (.take 5 (.bar 6 (.take 7 (.bar 8 (.bar 9 (.take 10 (.last 11 .nil)))))))))))) [11] (fun w' => w'.cell? ⟨md, 1, none⟩ = some (.slice A6 k c6) ∧ w'.cell? ⟨g5, 0, none⟩ = some (.bool op) ∧ w'.cell? ⟨g5, 1, none⟩ = some (.slice A' m1 c')) (by kernel_rfl) (by kernel_rfl) ⟨HC0.out.cell 1, HX0.out.cell 0, HX0.out.cell 1⟩ (fun _ => ?_)
      generalize wq.drew = u0 at HB0 HZ0 HC0 HM0 HU0 HN0 HX0 HRt HUp0 lfd lmz lzr2 ⊢
      repeat ((first | refine lxS (by rfl) (by rfl) ?_ | (refine lxT (v := ?_) (by rfl) (by rfl) (fun z y => ?_) ?_; rotate_left; (focus ((try dsimp only at y); (go_simp <;> with_reducible rfl); done)))); (try simp only [Act.put,pS,pZ,pC]))
      (refine lxB (by rfl) (fun K hK => ?_); go_simp)
      refine (copyTasks_any A' m1 c' ts u0 HRt.out hm1 Hml.out).mono ?_; rintro e u1 ⟨At, ct, rfl, hts, hb1⟩
      have HB1 := qh (below_to HB0.out hb1)
      have HUp1 := qh (HUp0.out.trans (hb1.mono lmz))
      have HZ1 := qh (HZ0.out.below hb1 HZ0.out.lt)
      have HC1 := qh (HC0.out.below hb1 HC0.out.lt)
      have HX1 := qh (HX0.out.below hb1 HX0.out.lt)
      have HU1 := qh (own_up' HU0.out hb1)
      have HM1 := qh (own_up' HM0.out hb1)
      have HN1 := qh (HN0.out.keepTI (KeepTI.up hb1))
      have HT1 := qh hts
      have lu1 := hb1.size
      clear hts hb1
      ((try dsimp only); refine nxK hK _ _ (⟨HC1.out.cell 1, HX1.out.cell 0, HX1.out.cell 1⟩) ?_; clear hK K; (try simp only [Act.put,pS,pZ,pC]))
      repeat ((first | refine lxS (by rfl) (by rfl) ?_ | (refine lxT (v := ?_) (by rfl) (by rfl) (fun z y => ?_) ?_; rotate_left; (focus ((try dsimp only at y); (go_simp <;> with_reducible rfl); done)))); (try simp only [Act.put,pS,pZ,pC]))
      have HB2 := qh (HB1.out.alloc HB1.out.size (.cells #[.bool op, .slice At m1 ct] 83))
      have HUp2 := qh (HUp1.out.alloc (by omega) (.cells #[.bool op, .slice At m1 ct] 83))
      have HZ2 := qh (HZ1.out.alloc (.cells #[.bool op, .slice At m1 ct] 83))
      have HC2 := qh (HC1.out.alloc (.cells #[.bool op, .slice At m1 ct] 83))
      have HX2 := qh (HX1.out.alloc (.cells #[.bool op, .slice At m1 ct] 83))
      have HU2 := qh (own_alloc HU1.out (.cells #[.bool op, .slice At m1 ct] 83))
      have X2 := qh (lit2 u1 83 (.bool op) (.slice At m1 ct))
      have K2 := qh (KeepTI.up (alloc_up u1 (.cells #[.bool op, .slice At m1 ct] 83)))
      have lu2 : u1.heap.size ≤ (u1.alloc (.cells #[.bool op, .slice At m1 ct] 83)).heap.size := by rw [World.size_alloc]; omega
      have lw1 := HB1.out.size
      (refine lxB (by rfl) (fun K hK => ?_); go_simp)
      ((try dsimp only); refine nxK hK _ _ (⟨HC2.out.cell 1, HX2.out.cell 0, HX2.out.cell 1⟩) ?_; clear hK K; (try simp only [Act.put,pS,pZ,pC]))
      generalize hgx : u1.heap.size = gx at X2 ⊢
      rw [hgx] at lu1 lu2 lw1
      generalize u1.alloc (.cells #[.bool op, .slice At m1 ct] 83) = u2 at HB2 HUp2 HZ2 HC2 HX2 HU2 X2 K2 lu2 ⊢
      refine lxB (by rfl) (fun K hK => ?_)
      rw [if_pos (by rfl)]
      refine wp_append_src _ _ _ 33 (by rfl) md 83 ui0 _ 2 32 Tryz.underlying33 hu0 huz0 huz1 huz2 rfl (by omega) (.slice A6 k c6) k vs (by rfl) HU2.out (some ⟨gx, 0, none⟩) 1 1 [.bool op, .slice At m1 ct] (by rfl) X2.out (one2 _ _ rfl rfl) (by unfold maxLen; omega) (by omega) (by omega) ?_
      intro v6 u3 hown6 hgrow6 hrow6
      obtain ⟨A8, c8, rfl⟩ := own_shape hown6
      have HB3 := qh (HB2.out.grown hgrow6 (by omega) (fun r e => by have := (HU2.out.lt r e).1; omega))
      have HUp3 := qh (HUp2.out.grown hgrow6 (by omega) (fun r e => (HU2.out.lt r e).1))
      have HZ3 := qh (HZ2.out.grown hgrow6 (fun e => own_blk_ne HU2.out HZ2.out (by decide) e.symm))
      have HC3 := qh (HC2.out.grown hgrow6 (fun e => own_blk_ne HU2.out HC2.out (by decide) e.symm))
      have HX3 := qh (HX2.out.grown hgrow6 (fun e => Hne.out e.symm))
      have K3 := qh (K2.out.trans (KeepTI.grown HU2.out hgrow6 (by decide) (by decide)))
      have HU3 := qh hown6
      have lu3 := hgrow6.size
      have f3 := HC3.out.frozen 1
      have q3 := HC3.out.cell 1
      simp only [gT, gZ, gS] at q3
      clear hown6 hgrow6 hrow6 HB2 HUp2 HZ2 HC2 HX2 HU2 X2 K2
      ((try dsimp only); refine nxK hK _ _ (⟨HC3.out.cell 1, HX3.out.cell 0, HX3.out.cell 1⟩) ?_; clear hK K; (try simp only [Act.put,pS,pZ,pC]))
      repeat ((first | refine lxS (by rfl) (by rfl) ?_ | (refine lxT (v := ?_) (by rfl) (by rfl) (fun z y => ?_) ?_; rotate_left; (focus ((try dsimp only at y); (go_simp <;> with_reducible rfl); done)))); (try simp only [Act.put,pS,pZ,pC]))
      (refine wpMixL_last (by rfl) (fun K hK => ?_); go_simp)
      ((try dsimp only); refine hK.out _ _ ?_; clear hK K; (try simp only [Act.put,pS,pZ,pC]))
      refine wpMixL_nil ?_
      clear f3 q3
      have KT := qh (K3.out.trans (KeepTI.set_ HC3.out (by decide) (by decide) 1 (.slice A8 (k + 1) c8)))
      have HB4 := qh (HB3.out.setCell (p := ⟨md, 1, none⟩) (by show w.heap.size ≤ md; omega) (.slice A8 (k + 1) c8))
      have HZ4 := qh (HZ3.out.far (p := ⟨md, 1, none⟩) (by show gb + 1 ≠ md; omega) (.slice A8 (k + 1) c8))
      have HC4 := qh (show Blk (u3.setCell ⟨md, 1, none⟩ (.slice A8 (k + 1) c8)) md 35 #[.slice A3 n1 c3, .slice A8 (k + 1) c8] from HC3.out.set_ 1 (.slice A8 (k + 1) c8))
      have HU4 := qh (own_keep HU3.out (w' := u3.setCell ⟨md, 1, none⟩ (.slice A8 (k + 1) c8)) (fun b hb => Below.heap_setCell _ _ _ _ (fun e => own_blk_ne HU3.out HC3.out (by decide) (by rw [hb, e]))))
      have HUp4 := qh (HUp3.out.setCell (p := ⟨md, 1, none⟩) (Nat.le_refl _) (.slice A8 (k + 1) c8))
      have sz4 : gx ≤ (u3.setCell ⟨md, 1, none⟩ (.slice A8 (k + 1) c8)).heap.size := by simp only [World.setCell, Array.size_modify]; omega
      have hx := ((OwnTs.toB HT1.out).wide (show f k ≤ u0.heap.size by omega) (Nat.le_refl _)).keep (fun b _ _ hb => KT.out b hb)
      have hns := (HN1.out.keepTI KT.out).snoc (op := op) (by have := Hvl.out; omega) hx (by omega)
      rw [hgx] at hns
      have HN4 := qh hns
      have HM4 := qh (own_keepTI HM1.out (.inl rfl) KT.out)
      clear hx hns KT K3 HB3 HZ3 HC3 HU3
      go_wp2_with fail
      go_roundw
      case measure => simp [intOf]; omega
      case rel => exact ⟨k + 1, A8, c8, _, _, _, by go_num, by omega, HB4.out, HZ4.out, HC4.out, HM4.out, HU4.out, by rw [Hs.out]; exact HN4.out, by show md ≤ (if 0 = k + 1 then _ else f 0); rw [if_neg (by omega)]; omega, by show (if k + 1 = k + 1 then gx else _) ≤ _; rw [if_pos rfl]; exact sz4, HUp4.out⟩
    · obtain rfl : k = n2 := by omega
      have Hb := qh hbel
      have Hz := qh hzb
      have Hm := qh hrm
      have Hu := qh hun
      have Hn := qh hnd
      have Hmd := qh hmd
      have q0 := hcl.cell 0
      have q1 := hcl.cell 1
      have x0 := hzb.cell 0
      have x1 := hzb.cell 1
      simp only [gT, gZ, gS] at q0 q1 x0 x1
      have x2 := hzb.frozen 0
      have x3 := hzb.frozen 1
      clear hbel hzb hcl hrm hun hnd hmd hup
      go_wp2_with fail
      have KT := qh ((KeepTI.set_ Hz.out (by decide) (by decide) 0 (.slice A3 n1 c3)).trans (KeepTI.set_ (Hz.out.set_ 0 (.slice A3 n1 c3)) (by decide) (by decide) 1 (.slice A6 k c6)))
      have EQ := qh ((Hz.out.set_ 0 (.slice A3 n1 c3)).set_ 1 (.slice A6 k c6))
      have U9 := qh (own_keep Hu.out (w' := (wr.setCell ⟨gb + 1, 0, none⟩ (.slice A3 n1 c3)).setCell ⟨gb + 1, 1, none⟩ (.slice A6 k c6)) (fun b hb => have hbb : b ≠ gb + 1 := fun e => own_blk_ne Hu.out Hz.out (by decide) (by rw [hb, e])
        (Below.heap_setCell _ _ _ b hbb).trans (Below.heap_setCell _ _ _ b hbb)))
      have B9 := qh ((Hb.out.setCell (p := ⟨gb + 1, 0, none⟩) (by show w.heap.size ≤ gb + 1; omega) (.slice A3 n1 c3)).setCell (p := ⟨gb + 1, 1, none⟩) (by show w.heap.size ≤ gb + 1; omega) (.slice A6 k c6))
      generalize (wr.setCell ⟨gb + 1, 0, none⟩ (.slice A3 n1 c3)).setCell ⟨gb + 1, 1, none⟩ (.slice A6 k c6) = w9 at KT EQ U9 B9 ⊢
      have z0 : w9.cell? ⟨gb + 1, 0, none⟩ = some (.slice A3 n1 c3) := EQ.out.cell 0
      have z1 : w9.cell? ⟨gb + 1, 1, none⟩ = some (.slice A6 k c6) := EQ.out.cell 1
      have hus : us.take k = us := List.take_of_length_le (by rw [hl.out]; exact Nat.le_refl _)
      have Hn9 := Hn.out.keepTI KT.out
      rw [hus] at Hn9
      refine bodyPost_ret (v := .agg #[.slice A3 n1 c3, .slice A6 k c6]) (by simp [results, Tryz.results131, go_sem, z0, z1]) rfl ⟨A3, c3, A6, c6, rfl, ⟨own_keepTI Hm.out (.inl rfl) KT.out, md, Lo.out, lwd, vs, tk, f, U9.out, Hn9, Hmd.out⟩, B9.out⟩

theorem field_units {A A' : Option Addr} {n c n' c' : Nat} (W : World) : (Instr.field 35 (.agg #[.slice A n c, .slice A' n' c']) 1).run Tryz.prog W = .ok (.slice A' n' c') W := by kernel_rfl
def zs20 : List Value := [.bool false, .slice none 0 0, .bool false, .slice none 0 0, .bool false, .slice none 0 0, .bool false, .slice none 0 0, .bool false, .slice none 0 0, .bool false, .slice none 0 0, .bool false, .slice none 0 0, .bool false, .slice none 0 0, .bool false, .slice none 0 0, .bool false, .slice none 0 0]
theorem NdUR.ones {w : World} {base n : Nat} {vs : List Value} {tk : Nat → Value} {us : List Un} (h : NdUR w base n vs tk us) : ∀ u ∈ vs, u.oneCell' = true := by
  intro u hu
  obtain ⟨i, hi, rfl⟩ := List.getElem_of_mem hu
  have hl := h.2.1
  obtain ⟨h1, h2, A, m, c, vt, h3, _⟩ := h.2.2.1 (i / 2) (by omega)
  rcases Nat.mod_two_eq_zero_or_one i with e | e
  · rw [show i / 2 * 2 = i from by omega, List.getElem?_eq_getElem hi] at h1
    injection h1 with h1; rw [h1]; rfl
  · rw [show i / 2 * 2 + 1 = i from by omega, List.getElem?_eq_getElem hi, h3] at h2
    injection h2 with h2; rw [h2]; rfl

set_option maxRecDepth 100000 in
set_option maxHeartbeats 3200000 in
theorem hostOf_any (A1 A2 : Option Addr) (n1 c1 n2 c2 : Nat) (room : List Int) (us : List Un) (w : World) (h : RdC w A1 A2 n1 n2 room us) (hok : clOk room us = true) :
    Calls Tryz.prog 95 #[.agg #[.slice A1 n1 c1, .slice A2 n2 c2]] w fun e w' => ∃ hb A3 c3, e = .returned (.pointer (some ⟨hb, 0, none⟩)) ∧ HostR w' w.heap.size hb 0 A3 n1 c3 n2 room us ∧ Below w.heap.size w w' := by
  obtain ⟨f1, f2, f3, f4⟩ := clOk_facts hok
  have hl1 := h.a.len
  have hl2 := h.b.len
  have Hn1 := qh (show n1 = 3 by omega)
  have ln1 : n1 ≤ 1000 := by omega
  have ln2 : 1 ≤ n2 ∧ n2 ≤ 10 := by omega
  have hsh : ShU us := ⟨by omega, fun u hu => ⟨by have := (f4 u hu).1; omega, fun t ht => by have := (f4 u hu).2 t ht; omega⟩⟩
  have Hsh := qh hsh
  have B1 := qh (alloc_up w (.cells #[.slice A1 n1 c1, .slice A2 n2 c2] 35))
  have P1 := qh (Blk.new w 35 #[.slice A1 n1 c1, .slice A2 n2 c2])
  have H1 := qh (h.up B1.out)
  clear h hok f1 f2 f3 f4 hl1 hl2 hsh
  go_enter Tryz.func95, Tryz.ntmps95
  go_wp2_with fail
  generalize hgb : w.heap.size = gb at P1 ⊢
  generalize w.alloc (.cells #[.slice A1 n1 c1, .slice A2 n2 c2] 35) = w1 at B1 P1 H1 ⊢
  have lg := P1.out.lt
  refine wp_region_mixL (.take 0 (.take 3 (.take 1 (.take 4 (.take 5 (.bar 2 (.take 6 (.bar 7 (.take 8 .nil))))))))) [] (fun w' => w'.cell? ⟨gb, 0, none⟩ = some (.slice A1 n1 c1) ∧ w'.cell? ⟨gb, 1, none⟩ = some (.slice A2 n2 c2)) (by kernel_rfl) (by kernel_rfl) ⟨P1.out.cell 0, P1.out.cell 1⟩ (fun _ => ?_)
  repeat ((first | refine lxS (by rfl) (by rfl) ?_ | (refine lxT (v := ?_) (by rfl) (by rfl) (fun z y => ?_) ?_; rotate_left; (focus ((try dsimp only at y); (go_simp <;> with_reducible rfl); done)))); (try simp only [Act.put,pS,pZ,pC]))
  (refine lxB (by rfl) (fun K hK => ?_); go_simp)
  refine (clone_any A1 n1 c1 room w1.drew (H1.out.a.drewN 1) (by omega)).mono ?_; rintro e w2 ⟨A3, c3, rfl, hown, hb2⟩
  have up2 := (Below.refl w1.heap.size w1).drew.trans hb2
  have B2 := qh (below_to B1.out up2)
  have P2 := qh (P1.out.below up2 P1.out.lt)
  have H2 := qh (H1.out.up up2)
  have O2 := qh (own_lo hown B1.out.size)
  ((try dsimp only); refine nxK hK _ _ (⟨P2.out.cell 0, P2.out.cell 1⟩) ?_; clear hK K; (try simp only [Act.put,pS,pZ,pC]))
  clear hown hb2 up2
  repeat ((first | refine lxS (by rfl) (by rfl) ?_ | (refine lxT (v := ?_) (by rfl) (by rfl) (fun z y => ?_) ?_; rotate_left; (focus ((try dsimp only at y); (go_simp <;> with_reducible rfl); done)))); (try simp only [Act.put,pS,pZ,pC]))
  (refine lxB (by rfl) (fun K hK => ?_); go_simp)
  have hb3 := alloc_up w2 (.cells (hostC 0 A3 n1 c3 n2 zs20) 135)
  have B3 := qh (below_to B2.out hb3)
  have P3 := qh (P2.out.below hb3 P2.out.lt)
  have H3 := qh (H2.out.up hb3)
  have O3 := qh (own_alloc O2.out (.cells (hostC 0 A3 n1 c3 n2 zs20) 135))
  have C3 := qh (Blk.new w2 135 (hostC 0 A3 n1 c3 n2 zs20))
  clear hb3 B2 H2 O2
  ((try dsimp only); refine nxK hK _ _ (⟨P3.out.cell 0, P3.out.cell 1⟩) ?_; clear hK K; (try simp only [Act.put,pS,pZ,pC]))
  change wpMixL _ _ _ _ _ _ (w2.alloc (.cells (hostC 0 A3 n1 c3 n2 zs20) 135))
  have l23 : gb < w2.heap.size := P2.out.lt
  have lw2 : w.heap.size ≤ w2.heap.size := by omega
  generalize hgh : w2.heap.size = hb at C3 l23 lw2 ⊢
  generalize w2.alloc (.cells (hostC 0 A3 n1 c3 n2 zs20) 135) = w3 at B3 P3 H3 O3 C3 ⊢
  clear P2 P1 H1 B1 hgh
  repeat ((first | refine lxS (by rfl) (by rfl) ?_ | (refine lxT (v := ?_) (by rfl) (by rfl) (fun z y => ?_) ?_; rotate_left; (focus ((try dsimp only at y); (go_simp <;> with_reducible rfl); done)))); (try simp only [Act.put,pS,pZ,pC]))
  refine wpMixL_nil ?_
  have lh3 := C3.out.lt
  go_wp2_with fail
  refine wp_region_mixL (.take 0 (.take 1 (.take 2 (.take 3 (.take 4 (.bar 5 (.take 6 (.bar 7 .nil)))))))) [] (fun w' => w'.cell? ⟨gb, 0, none⟩ = some (.slice A1 n1 c1) ∧ w'.cell? ⟨gb, 1, none⟩ = some (.slice A2 n2 c2)) (by kernel_rfl) (by kernel_rfl) ⟨P3.out.cell 0, P3.out.cell 1⟩ (fun _ => ?_)
  repeat ((first | refine lxS (by rfl) (by rfl) ?_ | (refine lxT (v := ?_) (by rfl) (by rfl) (fun z y => ?_) ?_; rotate_left; (focus ((try dsimp only at y); (go_simp <;> with_reducible rfl); done)))); (try simp only [Act.put,pS,pZ,pC]))
  (refine lxB (by rfl) (fun K hK => ?_); go_simp)
  refine (copyOfC_any A1 A2 n1 c1 n2 c2 room us w3.drew (H3.out.up (Below.refl _ _).drew) Hsh.out (by omega)).mono ?_; rintro e w4 ⟨A5, c5, A4, c4, rfl, hoc, hb4⟩
  have up4 := (Below.refl w3.heap.size w3).drew.trans hb4
  have B4 := qh (below_to B3.out up4)
  have P4 := qh (P3.out.below up4 P3.out.lt)
  have C4 := qh (C3.out.below up4 C3.out.lt)
  have O4 := qh (own_up' O3.out up4)
  obtain ⟨_, vs, tk, hu, hnd⟩ := ((OwnCR.of hoc).low B3.out.size)
  have Hu := qh hu
  have Hnd := qh hnd
  clear hoc hb4 up4 hu hnd B3 H3 O3
  ((try dsimp only); refine nxK hK _ _ (⟨P4.out.cell 0, P4.out.cell 1⟩) ?_; clear hK K; (try simp only [Act.put,pS,pZ,pC]))
  have hfld := fun W : World => field_units (A := A5) (n := n1) (c := c5) (A' := A4) (n' := n2) (c' := c4) W
  repeat ((first | refine lxS (by rfl) (by rfl) ?_ | (refine lxT (v := ?_) (by rfl) (by rfl) (fun z y => ?_) ?_; rotate_left; (focus ((try dsimp only at y); (go_simp <;> with_reducible rfl); done)))); (try simp only [Act.put,pS,pZ,pC]))
  have hvl : vs.length = n2 * 2 := Hnd.out.2.1
  obtain ⟨g4, cur4, rfl, _, _⟩ := own_row Hu.out (by omega)
  have hmin : Nat.min n2 10 = n2 := Nat.min_eq_left (by omega)
  refine lxB (by rfl) (fun K hK => ?_)
  refine step_copy_rowS (by rfl) (.tmp 15) (.tmp 18) 33 33 (by rfl) 83 2 Tryz.underlying33 unit_size hb 4 10 10 ⟨g4, 0, none⟩ n2 c4 (by rfl) (by rfl) (Value.int .i32 0 :: Value.int .u32 0 :: Value.slice A3 n1 c3 :: Value.int .i64 (n2 : Int) :: zs20) 135
    C4.out vs (by rw [hmin]; exact hvl) (Hu.out.cells (g := g4) rfl) (by rw [hvl]; show 4 + n2 * 2 ≤ 24; omega) (NdUR.ones Hnd.out) ?_
  intro w5 hg5 hoth hbel
  rw [hmin]
  have B5 := qh (hbel w.heap.size w lw2 B4.out)
  have KT := qh (show KeepTI w4 w5 from fun b hti => hoth b (hti.ne C4.out (by decide) (by decide)))
  have C5 := qh (show Blk w5 hb 135 (hostC 0 A3 n1 c3 n2 (vs ++ zs20.drop (n2 * 2))) from by
    have := hg5.out
    unfold splice at this
    rw [hvl] at this
    unfold Blk hostC
    rw [show 4 + n2 * 2 = n2 * 2 + 1 + 1 + 1 + 1 by omega] at this
    exact this)
  have P5 := qh ((hoth gb (by omega)).trans P4.out)
  have X5 := qh (show HostX w5 w.heap.size hb 0 A3 n1 c3 n2 room us vs (zs20.drop (n2 * 2)) tk from ⟨C5.out, lw2, own_keepTI O4.out (.inl rfl) KT.out, Hnd.out.keepTI KT.out, by omega⟩)
  clear hg5 hoth hbel
  have P5' := qh (show Blk w5 gb 35 #[.slice A1 n1 c1, .slice A2 n2 c2] from P5.out)
  ((try dsimp only); refine nxK hK _ _ (⟨P5'.out.cell 0, P5'.out.cell 1⟩) ?_; clear hK K; (try simp only [Act.put,pS,pZ,pC]))
  refine wpMixL_nil ?_
  go_wp2_with fail
  go_ret
  exact ⟨hb, A3, c3, rfl, ⟨vs, _, tk, X5.out⟩, B5.out⟩
end Go.Proofs.YtdkhdfedejbicaaGreatDoor

namespace Go.Proofs.YtdkhdfedejbicaaGreatDoor
set_option linter.unusedSimpArgs false
set_option linter.unusedVariables false
open Go Go.RowKit Go.MuLone
attribute [local go_sem ↓] Go.wp_at_zero Go.wp_at_succ

section
variable {w : World} {p : Addr} {l : Int} {v : Value} {B n : Nat} {A : Option Addr}
theorem cell_i32 (hp : w.cell? p = some (.int .i32 l)) {q : Addr} {u : Value} (hq : w.cell? q = some u) (hu : ∀ x, u ≠ .int .i32 x) : (w.setCell p v).cell? q = some u := by
  rw [World.cell?_setCell_other _ _ _ _ (fun e => by subst e; rw [hp] at hq; injection hq with hq; exact hu l hq.symm)]
  exact hq
theorem RdI.lock {xs : List Int} (h : RdI w B A n xs) (hp : w.cell? p = some (.int .i32 l)) : RdI (w.setCell p v) B A n xs :=
  ⟨h.1, h.2.1, fun hn => by
    obtain ⟨b, o, e, hb, hc⟩ := h.2.2 hn
    exact ⟨b, o, e, hb, fun j hj => cell_i32 hp (hc j hj) (fun x e => by cases e)⟩⟩
theorem RdT.lock {ts : List Tk} (h : RdT w B A n ts) (hp : w.cell? p = some (.int .i32 l)) : RdT (w.setCell p v) B A n ts :=
  ⟨h.1, h.2.1, fun hn => by
    obtain ⟨b, o, e, hb, hc⟩ := h.2.2 hn
    refine ⟨b, o, e, hb, fun j hj => ?_⟩
    obtain ⟨A', m, c, h1, h2, h3, h4⟩ := hc j hj
    exact ⟨A', m, c, cell_i32 hp h1 (fun x e => by cases e), cell_i32 hp h2 (fun x e => by cases e), h3, h4.lock hp⟩⟩
theorem RdN.lock {us : List Un} (h : RdN w B A n us) (hp : w.cell? p = some (.int .i32 l)) : RdN (w.setCell p v) B A n us :=
  ⟨h.1, h.2.1, fun hn => by
    obtain ⟨b, o, e, hb, hc⟩ := h.2.2 hn
    refine ⟨b, o, e, hb, fun j hj => ?_⟩
    obtain ⟨A', m, c, h1, h2, h3, h4⟩ := hc j hj
    exact ⟨A', m, c, cell_i32 hp h1 (fun x e => by cases e), cell_i32 hp h2 (fun x e => by cases e), h3, h4.lock hp⟩⟩
theorem HostV.lockV {hb n1 c1 : Nat} {A1 : Option Addr} {room : List Int} {us : List Un} (h : HostV w hb A1 n1 c1 n room us) (hp : w.cell? p = some (.int .i32 l)) : HostV (w.setCell p v) hb A1 n1 c1 n room us :=
  ⟨cell_i32 hp h.c2 (fun x e => by cases e), cell_i32 hp h.c3 (fun x e => by cases e), by simpa [World.setCell] using h.lt, by
    have := h.rm.lock (v := v) hp
    simpa [World.setCell] using this, by
    have := h.un.lock (v := v) hp
    simpa [World.setCell] using this⟩
end

set_option maxRecDepth 100000 in
set_option maxHeartbeats 1600000 in
theorem cluster_any (base hb : Nat) (A1 : Option Addr) (n1 c1 n : Nat) (room : List Int) (us : List Un) (w : World) (h : HostP w hb A1 n1 c1 n room us) (hs : ShU us) (hn1 : n1 ≤ 1048576) (hn : n ≤ 10) (hb0 : base ≤ hb) :
    Calls Tryz.prog 96 #[.pointer (some ⟨hb, 0, none⟩)] w fun e w' => ∃ A3 c3 A4 c4, e = .returned (.agg #[.slice A3 n1 c3, .slice A4 n c4]) ∧ OwnC w' w.heap.size (.slice A3 n1 c3) (.slice A4 n c4) n1 n room us ∧ Below base w w' := by
  have Z0 := qh (Blk.new w 35 #[.slice none 0 0, .slice none 0 0])
  have hal := alloc_up w (.cells #[.slice none 0 0, .slice none 0 0] 35)
  have hlt := h.v.lt
  have hk := (hal.cell (p := ⟨hb, 0, none⟩) hlt).trans h.lock
  have hf := (hal.frozen (p := ⟨hb, 0, none⟩) hlt).trans h.free
  have V0 := qh (h.v.up hal)
  obtain ⟨hcs, hbk⟩ := h.bk
  have K0 := qh (hbk.alloc (.cells #[.slice none 0 0, .slice none 0 0] 35))
  have B0 := qh (hal.mono (show base ≤ w.heap.size by omega))
  have n1' : (0 : Int) ≤ (n : Int) := by omega
  have n2' : (n : Int) ≤ 10 := by omega
  clear h hal hbk
  go_enter_defers Tryz.func96, Tryz.ntmps96
  go_wp2_with fail
  generalize hgr : w.heap.size = gr at Z0 hlt ⊢
  generalize w.alloc (.cells #[.slice none 0 0, .slice none 0 0] 35) = w1 at Z0 hk hf V0 B0 K0 ⊢
  refine (lock_free muLib ⟨hb, 0, none⟩ w1 hk hf).mono ?_; rintro e w2 ⟨rfl, rfl⟩
  have V1 := qh (V0.out.lockV (v := .int .i32 1) hk)
  have L1 := qh (World.cell?_setCell_same w1 ⟨hb, 0, none⟩ (.int .i32 1) hk)
  have F1 := qh (show (w1.setCell ⟨hb, 0, none⟩ (.int .i32 1)).frozen? ⟨hb, 0, none⟩ = false from by rw [World.frozen?_setCell]; exact hf)
  have Z1 := qh (Z0.out.far (p := ⟨hb, 0, none⟩) (by show gr ≠ hb; omega) (.int .i32 1))
  have B1 := qh (B0.out.setCell (p := ⟨hb, 0, none⟩) hb0 (.int .i32 1))
  have K1 := qh (K0.out.set_ 0 (.int .i32 1))
  generalize w1.setCell ⟨hb, 0, none⟩ (.int .i32 1) = w2 at V1 L1 F1 Z1 B1 K1 ⊢
  clear hk hf V0 Z0 B0
  go_wp2_with fail
  refine wp_region_mixL (.take 0 (.take 1 (.take 2 (.take 3 (.take 4 (.take 5 (.take 6 (.take 7 (.take 8 (.take 9 (.take 10 (.take 11 (.take 12 (.take 13 (.take 14 (.take 15 (.take 16 (.bar 17 (.bar 18 .nil))))))))))))))))))) [] (fun w' => w'.cell? ⟨hb, 2, none⟩ = some (.slice A1 n1 c1) ∧ w'.cell? ⟨hb, 3, none⟩ = some (.int .i64 (n : Int))) (by kernel_rfl) (by kernel_rfl) ⟨V1.out.c2, V1.out.c3⟩ (fun _ => ?_)
  repeat ((first | refine lxS (by rfl) (by rfl) ?_ | (refine lxT (v := ?_) (by rfl) (by rfl) (fun z y => ?_) ?_; rotate_left; (focus ((try dsimp only at y); (go_simp <;> with_reducible rfl); done)))); (try simp only [Act.put,pS,pZ,pC]))
  (refine lxB (by rfl) (fun K hK => ?_); go_simp)
  refine (copyOfC_any A1 (some ⟨hb, 4, none⟩) n1 c1 n n room us w2.drew ⟨V1.out.rm.drewN 1, V1.out.un.drewN 1⟩ hs hn1).mono ?_; rintro e w3 ⟨A3, c3, A4, c4, rfl, hoc, hb3⟩
  have up3 := (Below.refl w2.heap.size w2).drew.trans hb3
  have V3 := qh (V1.out.up up3)
  have lh2 := V1.out.lt
  have L3 := qh ((up3.cell (p := ⟨hb, 0, none⟩) lh2).trans L1.out)
  have F3 := qh ((up3.frozen (p := ⟨hb, 0, none⟩) lh2).trans F1.out)
  have Z3 := qh (Z1.out.below up3 Z1.out.lt)
  have K3 := qh (K1.out.below up3 K1.out.lt)
  have B3 := qh (B1.out.trans (up3.mono (show base ≤ w2.heap.size by have := Z1.out.lt; omega)))
  have O3 := qh (hoc.low (show gr ≤ w2.drew.heap.size from by have := Z1.out.lt; show gr ≤ w2.heap.size; omega))
  have lz2 := Z1.out.lt
  have y2 := Z3.out.frozen 0
  have y3 := Z3.out.frozen 1
  have y0 := Z3.out.cell 0
  have y1 := Z3.out.cell 1
  simp only [gT, gZ, gS] at y0 y1
  clear hoc hb3 up3 V1 L1 F1 Z1 B1
  ((try dsimp only); refine nxK hK _ _ (⟨V3.out.c2, V3.out.c3⟩) ?_; clear hK K; (try simp only [Act.put,pS,pZ,pC]))
  (refine lxB (by rfl) (fun K hK => ?_); go_simp)
  clear y0 y1 y2 y3
  have KT := qh ((KeepTU.set_ Z3.out (by decide) (by decide) (by decide) 0 (.slice A3 n1 c3)).trans (KeepTU.set_ (Z3.out.set_ 0 (.slice A3 n1 c3)) (by decide) (by decide) (by decide) 1 (.slice A4 n c4)))
  have K9 := qh ((K3.out.far (p := ⟨gr, 0, none⟩) (by show hb ≠ gr; omega) (.slice A3 n1 c3)).far (p := ⟨gr, 1, none⟩) (by show hb ≠ gr; omega) (.slice A4 n c4))
  have EQ := qh ((Z3.out.set_ 0 (.slice A3 n1 c3)).set_ 1 (.slice A4 n c4))
  have B9 := qh ((B3.out.setCell (p := ⟨gr, 0, none⟩) (by show base ≤ gr; omega) (.slice A3 n1 c3)).setCell (p := ⟨gr, 1, none⟩) (by show base ≤ gr; omega) (.slice A4 n c4))
  have kk : ∀ q : Addr, q.block = hb → ((w3.setCell ⟨gr, 0, none⟩ (.slice A3 n1 c3)).setCell ⟨gr, 1, none⟩ (.slice A4 n c4)).cell? q = w3.cell? q := fun q hq => by
    rw [World.cell?_setCell_other _ _ _ _ (fun e => by subst e; simp at hq; omega), World.cell?_setCell_other _ _ _ _ (fun e => by subst e; simp at hq; omega)]
  have c2 := (kk ⟨hb, 2, none⟩ rfl).trans V3.out.c2
  have c3' := (kk ⟨hb, 3, none⟩ rfl).trans V3.out.c3
  have L9 := qh ((kk ⟨hb, 0, none⟩ rfl).trans L3.out)
  have F9 := qh (show ((w3.setCell ⟨gr, 0, none⟩ (.slice A3 n1 c3)).setCell ⟨gr, 1, none⟩ (.slice A4 n c4)).frozen? ⟨hb, 0, none⟩ = false from by rw [World.frozen?_setCell, World.frozen?_setCell]; exact F3.out)
  have C2 := qh c2
  have C3 := qh c3'
  clear kk c2 c3'
  ((try dsimp only); refine nxK hK _ _ (⟨C2.out, C3.out⟩) ?_; clear hK K; (try simp only [Act.put,pS,pZ,pC]))
  generalize (w3.setCell ⟨gr, 0, none⟩ (.slice A3 n1 c3)).setCell ⟨gr, 1, none⟩ (.slice A4 n c4) = w9 at KT EQ B9 L9 F9 K9 ⊢
  refine wpMixL_nil ?_
  go_wp2_with fail
  have hne : hb ≠ gr := by omega
  have KT2 := qh (KeepTU.set_ K9.out (by decide) (by decide) (by decide) 0 (.int .i32 0))
  have EQ2 := qh (EQ.out.far (p := ⟨hb, 0, none⟩) (by show gr ≠ hb; omega) (.int .i32 0))
  have B10 := qh (B9.out.setCell (p := ⟨hb, 0, none⟩) hb0 (.int .i32 0))
  refine leaves_cons (f := 103) (args := #[.pointer (some ⟨hb, 0, none⟩)]) (by simp) (by simp [go_sem]) ?_
  refine (unlock_deferred muLib ⟨hb, 0, none⟩ .returning w9 L9.out F9.out).mono ?_
  rintro e u' w'' ⟨rfl, rfl, rfl⟩
  generalize w9.setCell ⟨hb, 0, none⟩ (.int .i32 0) = w10 at KT2 EQ2 B10 ⊢
  have z0 : w10.cell? ⟨gr, 0, none⟩ = some (.slice A3 n1 c3) := EQ2.out.cell 0
  have z1 : w10.cell? ⟨gr, 1, none⟩ = some (.slice A4 n c4) := EQ2.out.cell 1
  rw [hgr] 
  exact ⟨.agg #[.slice A3 n1 c3, .slice A4 n c4], by simp [results, Tryz.results96, go_sem, z0, z1], A3, c3, A4, c4, rfl, (O3.out.keepTU KT.out).keepTU KT2.out, B10.out⟩
end Go.Proofs.YtdkhdfedejbicaaGreatDoor
