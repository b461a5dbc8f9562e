/- Walk: l2All, with whose row it is. -/
import Derived.Test.YtfkobleefhpggaaDoorDrawBins
namespace Go.Proofs.YtfkobleefhpggaaDoor
open Go.RowKit

set_option maxRecDepth 100000 in
set_option maxHeartbeats 400000 in
theorem l2All_own (A : Option Addr) (n c : Nat) (bs : List (List Tk)) (w : World) (h : RdB w w.heap.size A n bs) (hz : bs.flatten.length ≤ 1048576) :
    Calls Tryd.prog 78 #[.slice A n c] w fun e w' => ∃ A m c vs, e = .returned (.slice A m c) ∧ m ≤ 1048576 ∧ w'.ownsRow w.heap.size 66 2 (.slice A m c) m vs ∧ TkCells w' w.heap.size vs bs.flatten ∧ bs.flatten.length = m ∧ Below w.heap.size w w' := by
  obtain ⟨i0, hi0, hz0, hz1, hz2⟩ := info_parts task_info
  have hl := Lib.hid h.len
  have hn := h.le
  go_enter Tryd.func78, Tryd.ntmps78
  go_wp2
  go_loopw [3, 4] (fun v i wr => ∃ k : Nat, i = .int .i64 k ∧ k ≤ n ∧ Below w.heap.size w wr ∧ ∃ A c vs, v = .slice A (bs.take k).flatten.length c ∧ wr.ownsRow w.heap.size 66 2 v (bs.take k).flatten.length vs ∧ TkCells wr w.heap.size vs (bs.take k).flatten) (fun _ i _ => n - (intOf i).toNat)
  case atStart => exact ⟨0, rfl, Nat.zero_le _, (Below.refl _ _).alloc (Nat.le_refl _) _, _, _, [], rfl, World.ownsRow_made w #[] 0 (Nat.le_refl _) (by unfold maxLen; omega) rfl, TkCells.nil⟩
  case round =>
    obtain ⟨k, rfl, hk, hbel, A0, c0, vs, rfl, hown, htk⟩ := hrel
    by_cases hlt : k < n
    · obtain ⟨b1, o1, A2, m2, c2, rfl, lb1, hc1, _, hr2⟩ := (h.below hbel).at_ hlt
      obtain ⟨news, hsrc, htn⟩ := hr2.src
      have lz := hbel.size
      have H := Lib.hid h
      have Hr2 := Lib.hid hr2
      have e1 := flat_take_succ (bs := bs) (k := k) (by have := hl.out; omega)
      have e2 : m2 = (bs[k]?.getD []).length := hr2.len.symm
      have e3 := flat_take_le (bs := bs) (k + 1)
      have e4 : (bs.take k).flatten.length + m2 ≤ 1048576 := by rw [e1, List.length_append, ← e2] at e3; omega
      have E1 := Lib.hid e1
      have E2 := Lib.hid e2
      clear h hr2 e1 e2 e3
      go_wp2_with (at_builtin; go_loud (refine wpList_append_src _ rfl _ _ 60 rfl w.heap.size 66 i0 _ 2 32 Tryd.underlying60 hi0 hz0 hz1 hz2 rfl (by omega) (.slice A0 _ c0) _ vs rfl hown A2 m2 c2 news rfl hsrc htn.one (by unfold maxLen; omega) (by omega) lz ?_); intro v' w1 hown1 hgrow hat)
      have hb' : Below w.heap.size w w1 := hbel.grown hgrow lz (fun j e => (hown.lt j e).1)
      have ht' := (htk.append htn).below ((Below.refl w.heap.size wr).grown hgrow lz (fun j e => (hown.lt j e).1))
      obtain ⟨A1, c1, rfl⟩ := own_shape hown1
      have Hown := Lib.hid hown1
      have Ht := Lib.hid ht'
      clear hown hown1 ht' htk htn hsrc
      go_roundw
      case rel => exact ⟨k + 1, by go_num, by omega, hb', A1, c1, _, by rw [E1.out, List.length_append, ← E2.out], by rw [E1.out, List.length_append, ← E2.out]; exact Hown.out, by rw [E1.out]; exact Ht.out⟩
      case measure => simp [intOf]; omega
    · have ek : k = n := by omega
      have e0 : bs.take k = bs := List.take_of_length_le (by have := hl.out; omega)
      rw [e0] at hown htk
      have Hown := Lib.hid hown
      have Ht := Lib.hid htk
      have E0 := Lib.hid e0
      clear ek hown htk e0 h
      go_wp2
      go_ret
      exact ⟨A0, bs.flatten.length, c0, vs, congrArg (fun l => Ending.returned (.slice A0 (List.length (List.flatten l)) c0)) E0.out, hz, Hown.out, Ht.out, rfl, hbel⟩

theorem own_ne_any {w : World} {base size n b : Nat} {v : Value} {xs : List Value} {t u : TypeId} {cs : Array Value} (ht : u ≠ t) (h : w.ownsRow base t size v n xs) (hb : Blk w b u cs) : v.ownBlock ≠ some b := by
  rcases h.2 with ⟨rfl, _⟩ | ⟨g, cap, cur, rfl, _, hg, _⟩
  · simp [Value.ownBlock]
  · intro e
    simp [Value.ownBlock] at e
    subst e
    exact blk_ne (t := u) (u := t) hb hg ht rfl

/-- A row of integers of the call's own. -/
def OwnI (w : World) (base : Nat) (A : Option Addr) (n c : Nat) (xs : List Int) : Prop := w.ownsRow base 3 1 (.slice A n c) n (xs.map (Value.int .i64))
section
variable {w w' : World} {base n c g : Nat} {A : Option Addr} {xs : List Int}
theorem OwnI.len (h : OwnI w base A n c xs) : xs.length = n := by have := h.1; simpa using this
theorem OwnI.keep (h : OwnI w base A n c xs) (hk : ∀ b, Value.ownBlock (.slice A n c) = some b → w'.heap[b]? = w.heap[b]?) : OwnI w' base A n c xs := own_keep h hk
theorem OwnI.only (h : OwnI w base A n c xs) (o : OnlyG w w' g) (hg : g < base) : OwnI w' base A n c xs := h.keep (fun b hb => o.block b (World.ownsRow.lt h b hb).2 (by have := (World.ownsRow.lt h b hb).1; omega))
theorem OwnI.rd (h : OwnI w base A n c xs) (hn : n ≤ 9223372036854775807) : RdI w w.heap.size A n xs := RdI.of_own h hn
theorem own_only {t : TypeId} {size : Nat} {v : Value} {ys : List Value} (h : w.ownsRow base t size v n ys) (o : OnlyG w w' g) (hg : g < base) : w'.ownsRow base t size v n ys := own_keep h (fun b hb => o.block b (h.lt b hb).2 (by have := (h.lt b hb).1; omega))
end
end Go.Proofs.YtfkobleefhpggaaDoor
