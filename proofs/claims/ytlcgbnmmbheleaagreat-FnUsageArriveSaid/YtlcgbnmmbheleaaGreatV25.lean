/- Several texts in one. -/
import Derived.Test.YtlcgbnmmbheleaaGreatV24
namespace Go.Proofs.YtlcgbnmmbheleaaGreat
open Go Go.RowKit

def NdR (w : World) (base n : Nat) (vs : List Value) (ts : List Tk) : Prop :=
  ts.length = n ∧ vs.length = n * 2 ∧ ∀ j, j < n → ∃ A m c, vs[j * 2]? = some (.int .i64 (ts[j]?.getD (0, [])).1) ∧ vs[j * 2 + 1]? = some (.slice A m c) ∧ w.ownsRow base 3 1 (.slice A m c) m ((ts[j]?.getD (0, [])).2.map (Value.int .i64))
def NdUR (w : World) (base n : Nat) (vs : List Value) (tk : Nat → Value) (us : List Un) : Prop :=
  us.length = n ∧ vs.length = n * 2 ∧ (∀ j, j < n → vs[j * 2]? = some (.bool (us[j]?.getD (false, [])).1) ∧ vs[j * 2 + 1]? = some (tk j) ∧
    ∃ A m c vt, tk j = .slice A m c ∧ w.ownsRow base 40 2 (.slice A m c) m vt ∧ NdR w base m vt (us[j]?.getD (false, [])).2) ∧
  (∀ i j, i < n → j < n → i ≠ j → ∀ b, (tk i).ownBlock = some b → (tk j).ownBlock ≠ some b)
def OwnUR (w : World) (base : Nat) (v : Value) (n : Nat) (us : List Un) : Prop := ∃ vs tk, w.ownsRow base 32 2 v n vs ∧ NdUR w base n vs tk us
def OwnCR (w : World) (base : Nat) (v1 v2 : Value) (m1 m2 : Nat) (room : List Int) (us : List Un) : Prop := w.ownsRow base 3 1 v1 m1 (room.map (Value.int .i64)) ∧ OwnUR w base v2 m2 us

section
variable {w w' : World} {base base' n m1 m2 : Nat} {v v1 v2 : Value} {vs : List Value} {tk : Nat → Value} {ts : List Tk} {us : List Un} {room : List Int}
theorem NdR.keepTI (h : NdR w base n vs ts) (hk : KeepTI w w') : NdR w' base n vs ts := ⟨h.1, h.2.1, fun j hj => by
  obtain ⟨A, m, c, h1, h2, h3⟩ := h.2.2 j hj
  exact ⟨A, m, c, h1, h2, own_keepTI h3 (.inl rfl) hk⟩⟩
theorem NdR.low (h : NdR w base n vs ts) (hb : base' ≤ base) : NdR w base' n vs ts := ⟨h.1, h.2.1, fun j hj => by
  obtain ⟨A, m, c, h1, h2, h3⟩ := h.2.2 j hj
  exact ⟨A, m, c, h1, h2, own_lo h3 hb⟩⟩
theorem NdR.nil : NdR w base 0 [] [] := ⟨rfl, rfl, fun j hj => by omega⟩
theorem NdR.of {nd : Nat → Value} (h : NdTs w base n vs nd ts) (hl : vs.length = n * 2) : NdR w base n vs ts := ⟨h.1, hl, fun j hj => by
  obtain ⟨h1, h2, A, m, c, h3, h4⟩ := h.2.1 j hj
  exact ⟨A, m, c, h1, by rw [h2, h3], h4⟩⟩
theorem NdR.grown {row : Value} {k : Nat} {xs : List Value} {t : TypeId} {s : Nat} (h : NdR w base n vs ts) (ho : w.ownsRow base' t s row k xs) (ht : t ≠ 3) (hg : w.grownBy w' row.ownBlock) : NdR w' base n vs ts := ⟨h.1, h.2.1, fun j hj => by
  obtain ⟨A, m, c, h1, h2, h3⟩ := h.2.2 j hj
  exact ⟨A, m, c, h1, h2, own_keep h3 (fun b hb => hg.block b (h3.lt b hb).2 (fun e => own_types ho h3 ht e.symm hb))⟩⟩
theorem NdR.snoc {A : Option Addr} {m c : Nat} {id : Int} {xs : List Int} (h : NdR w base n vs ts) (hx : w.ownsRow base 3 1 (.slice A m c) m (xs.map (Value.int .i64))) : NdR w base (n + 1) (vs ++ [.int .i64 id, .slice A m c]) (ts ++ [(id, xs)]) := by
  have h1 := h.1
  have h2 := h.2.1
  refine ⟨by simp [h1], by simp [h2]; omega, fun j hj => ?_⟩
  by_cases e : j = n
  · subst e
    refine ⟨A, m, c, ?_, ?_, ?_⟩
    · rw [List.getElem?_append_right (by omega), List.getElem?_append_right (by omega), h1, h2, Nat.sub_self, Nat.sub_self]; rfl
    · rw [List.getElem?_append_right (by omega), h2, show j * 2 + 1 - j * 2 = 1 by omega]; rfl
    · rw [List.getElem?_append_right (by omega), h1, Nat.sub_self]; exact hx
  · obtain ⟨A', m', c', e1, e2, e3⟩ := h.2.2 j (by omega)
    exact ⟨A', m', c', by rw [List.getElem?_append_left (by omega), List.getElem?_append_left (by omega)]; exact e1, by rw [List.getElem?_append_left (by omega)]; exact e2, by rw [List.getElem?_append_left (by omega)]; exact e3⟩
theorem NdR.rd {A : Option Addr} {c : Nat} (h : NdR w base n vs ts) (ho : w.ownsRow base 40 2 (.slice A n c) n vs) : RdT w w.heap.size A n ts := by
  refine RdT.of_own ho (B := w.heap.size) ⟨by rw [h.2.1, h.1], fun j hj => ?_⟩ (Nat.le_refl _) (own_le ho)
  obtain ⟨A', m', c', e1, e2, e3⟩ := h.2.2 j (by rw [← h.1]; exact hj)
  exact ⟨A', m', c', e1, e2, own_cap' e3, own_rdI e3 (own_le e3)⟩

theorem NdUR.keepTI (h : NdUR w base n vs tk us) (hk : KeepTI w w') : NdUR w' base n vs tk us := ⟨h.1, h.2.1, fun j hj => by
  obtain ⟨h1, h2, A, m, c, vt, h3, h4, h5⟩ := h.2.2.1 j hj
  exact ⟨h1, h2, A, m, c, vt, h3, own_keepTI h4 (.inr rfl) hk, h5.keepTI hk⟩, h.2.2.2⟩
theorem OwnUR.keepTU (h : OwnUR w base v n us) (hk : KeepTU w w') : OwnUR w' base v n us := by
  obtain ⟨vs, tk, h1, h2⟩ := h
  exact ⟨vs, tk, own_keepB h1 (fun b cs _ hc => hk b ⟨_, cs, .inr (.inr rfl), hc⟩), h2.keepTI hk.ti⟩
theorem OwnCR.keepTU (h : OwnCR w base v1 v2 m1 m2 room us) (hk : KeepTU w w') : OwnCR w' base v1 v2 m1 m2 room us := ⟨own_keepTI h.1 (.inl rfl) hk.ti, h.2.keepTU hk⟩
theorem OwnCR.low (h : OwnCR w base v1 v2 m1 m2 room us) (hb : base' ≤ base) : OwnCR w base' v1 v2 m1 m2 room us := by
  obtain ⟨h1, vs, tk, h2, h3, h4, h5, h6⟩ := h
  refine ⟨own_lo h1 hb, vs, tk, own_lo h2 hb, h3, h4, fun j hj => ?_, h6⟩
  obtain ⟨e1, e2, A, m, c, vt, e3, e4, e5⟩ := h5 j hj
  exact ⟨e1, e2, A, m, c, vt, e3, own_lo e4 hb, e5.low hb⟩
theorem NdUR.nil : NdUR w base 0 [] (fun _ => .slice none 0 0) [] := ⟨rfl, rfl, fun j hj => by omega, fun i j hi => by omega⟩
theorem OwnCR.none : OwnCR w base (.slice none 0 0) (.slice none 0 0) 0 0 [] [] := ⟨⟨rfl, .inl ⟨rfl, rfl⟩⟩, [], _, ⟨rfl, .inl ⟨rfl, rfl⟩⟩, NdUR.nil⟩
theorem OwnCR.len {c1 c2 : Nat} {A1 A2 : Option Addr} (h : OwnCR w base (.slice A1 m1 c1) (.slice A2 m2 c2) m1 m2 room us) : room.length = m1 ∧ us.length = m2 ∧ m1 ≤ c1 ∧ m2 ≤ c2 := by
  obtain ⟨h1, vs, tk, h2, h3⟩ := h
  exact ⟨own_len h1, h3.1, own_cap' h1, own_cap' h2⟩
theorem OwnCR.of {c1 c2 : Nat} {A1 A2 : Option Addr} (h : OwnC w base (.slice A1 m1 c1) (.slice A2 m2 c2) m1 m2 room us) : OwnCR w base (.slice A1 m1 c1) (.slice A2 m2 c2) m1 m2 room us := by
  obtain ⟨h1, md, h2, h3, vs, tk, f, h4, h5, h6⟩ := h
  refine ⟨h1, vs, tk, own_lo h4 h3, h5.1, h4.1, fun j hj => ?_, fun i j hi hj hij b hb1 hb2 => ?_⟩
  · obtain ⟨e0, e1, e2, A, m, c, e3, vt, nd, e4, e5, e6⟩ := h5.2 j hj
    have hfj := h5.mono 0 j (by omega) (by omega)
    exact ⟨e1, e2, A, m, c, vt, e3, own_lo e4 (by omega), NdR.of (e5.down (by omega)) e4.1⟩
  · obtain ⟨_, _, _, A, m, c, e3, vt, nd, e4, _, e6, _⟩ := h5.2 i hi
    obtain ⟨_, _, _, A', m', c', e3', vt', nd', e4', _, e6', _⟩ := h5.2 j hj
    rw [e3] at hb1
    rw [e3'] at hb2
    have a1 := (e4.lt b hb1).1
    have a2 := e6 b hb1
    have a3 := (e4'.lt b hb2).1
    have a4 := e6' b hb2
    rcases Nat.lt_or_ge i j with hlt | hge
    · have := h5.mono (i + 1) j (by omega) (by omega); omega
    · have := h5.mono (j + 1) i (by omega) (by omega); omega
theorem OwnUR.rd {A : Option Addr} {c : Nat} (h : OwnUR w base (.slice A n c) n us) : RdN w w.heap.size A n us := by
  obtain ⟨vs, tk, h1, h2, h3, h4, _⟩ := h
  refine RdN.of_own h1 (B := w.heap.size) ⟨by rw [h3, h2], fun j hj => ?_⟩ (Nat.le_refl _) (own_le h1)
  obtain ⟨e1, e2, A', m', c', vt, e3, e4, e5⟩ := h4 j (by rw [← h2]; exact hj)
  exact ⟨A', m', c', e1, by rw [e2, e3], own_cap' e4, e5.rd e4⟩
theorem OwnCR.rd {c1 c2 : Nat} {A1 A2 : Option Addr} (h : OwnCR w base (.slice A1 m1 c1) (.slice A2 m2 c2) m1 m2 room us) : RdC w A1 A2 m1 m2 room us := ⟨own_rdI h.1 (own_le h.1), h.2.rd⟩
theorem keepTU_only {g : Nat} {t : TypeId} {cs : Array Value} (k : OnlyG w w' g) (hb : Blk w g t cs) (h1 : t ≠ 3) (h2 : t ≠ 40) (h3 : t ≠ 32) : KeepTU w w' := fun b hti => by
  obtain ⟨t', cs', ht, hb'⟩ := hti
  refine k.block b hb'.lt ?_
  rintro rfl
  unfold Blk at hb hb'
  rw [hb] at hb'
  injection hb' with e
  injection e with _ e
  rcases ht with rfl | rfl | rfl
  · exact h1 e
  · exact h2 e
  · exact h3 e

theorem NdUR.put {j m c : Nat} {A : Option Addr} {vt : List Value} (h : NdUR w base n vs tk us) (hj : j < n) (ho : w.ownsRow base 40 2 (.slice A m c) m vt) (hn : NdR w base m vt ts) (hd : ∀ i, i < n → i ≠ j → ∀ b, (tk i).ownBlock = some b → (Value.slice A m c).ownBlock ≠ some b) :
    NdUR w base n (vs.set (j * 2 + 1) (.slice A m c)) (fun i => if i = j then .slice A m c else tk i) (us.set j ((us[j]?.getD (false, [])).1, ts)) := by
  have hl := h.2.1
  refine ⟨by rw [List.length_set]; exact h.1, by rw [List.length_set]; exact hl, fun i hi => ?_, fun i i' hi hi' hii b hb1 hb2 => ?_⟩
  · obtain ⟨h1, h2, A', m', c', vt', h3, h4, h5⟩ := h.2.2.1 i hi
    by_cases e : i = j
    · subst e
      have g1 : (vs.set (i * 2 + 1) (.slice A m c))[i * 2]? = vs[i * 2]? := List.getElem?_set_ne (by omega)
      have g2 : (vs.set (i * 2 + 1) (.slice A m c))[i * 2 + 1]? = some (.slice A m c) := List.getElem?_set_self (by omega)
      have g3 : (us.set i ((us[i]?.getD (false, [])).1, ts))[i]? = some ((us[i]?.getD (false, [])).1, ts) := List.getElem?_set_self (by rw [h.1]; exact hi)
      dsimp only
      rw [g1, g2, g3, if_pos rfl]
      exact ⟨h1, rfl, A, m, c, vt, rfl, ho, hn⟩
    · have g1 : (vs.set (j * 2 + 1) (.slice A m c))[i * 2]? = vs[i * 2]? := List.getElem?_set_ne (by omega)
      have g2 : (vs.set (j * 2 + 1) (.slice A m c))[i * 2 + 1]? = vs[i * 2 + 1]? := List.getElem?_set_ne (by omega)
      have g3 : (us.set j ((us[j]?.getD (false, [])).1, ts))[i]? = us[i]? := List.getElem?_set_ne (fun x => e x.symm)
      dsimp only
      rw [g1, g2, g3, if_neg e]
      exact ⟨h1, h2, A', m', c', vt', h3, h4, h5⟩
  · dsimp only at hb1 hb2
    by_cases ei : i = j
    · have ej : i' ≠ j := fun x => hii (by omega)
      rw [if_pos ei] at hb1
      rw [if_neg ej] at hb2
      exact hd i' hi' ej b hb2 hb1
    · rw [if_neg ei] at hb1
      by_cases ej : i' = j
      · rw [if_pos ej] at hb2
        exact hd i hi ei b hb1 hb2
      · rw [if_neg ej] at hb2
        exact h.2.2.2 i i' hi hi' hii b hb1 hb2
theorem NdUR.open_ {j : Nat} {op : Bool} (h : NdUR w base n vs tk us) (hj : j < n) : NdUR w base n (vs.set (j * 2) (.bool op)) tk (us.set j (op, (us[j]?.getD (false, [])).2)) := by
  have hl := h.2.1
  refine ⟨by rw [List.length_set]; exact h.1, by rw [List.length_set]; exact hl, fun i hi => ?_, h.2.2.2⟩
  obtain ⟨h1, h2, A', m', c', vt', h3, h4, h5⟩ := h.2.2.1 i hi
  by_cases e : i = j
  · subst e
    have g1 : (vs.set (i * 2) (.bool op))[i * 2]? = some (.bool op) := List.getElem?_set_self (by omega)
    have g2 : (vs.set (i * 2) (.bool op))[i * 2 + 1]? = vs[i * 2 + 1]? := List.getElem?_set_ne (by omega)
    have g3 : (us.set i (op, (us[i]?.getD (false, [])).2))[i]? = some (op, (us[i]?.getD (false, [])).2) := List.getElem?_set_self (by rw [h.1]; exact hi)
    rw [g1, g2, g3]
    exact ⟨rfl, h2, A', m', c', vt', h3, h4, h5⟩
  · have g1 : (vs.set (j * 2) (.bool op))[i * 2]? = vs[i * 2]? := List.getElem?_set_ne (by omega)
    have g2 : (vs.set (j * 2) (.bool op))[i * 2 + 1]? = vs[i * 2 + 1]? := List.getElem?_set_ne (by omega)
    have g3 : (us.set j (op, (us[j]?.getD (false, [])).2))[i]? = us[i]? := List.getElem?_set_ne (fun x => e x.symm)
    rw [g1, g2, g3]
    exact ⟨h1, h2, A', m', c', vt', h3, h4, h5⟩
end
end Go.Proofs.YtlcgbnmmbheleaaGreat

namespace Go.Proofs.YtlcgbnmmbheleaaGreat
open Go Go.RowKit
attribute [local go_sem ↓] Go.wp_at_zero Go.wp_at_succ

def takeP (ts : List Tk) (id : Int) : List Tk := ts.filter (fun t => !(t.1 == id))
theorem takeP_yes {ts : List Tk} {id : Int} {k : Nat} (h : k < ts.length) (he : (ts[k]?.getD (0, [])).1 = id) : takeP (ts.take (k + 1)) id = takeP (ts.take k) id := by
  rw [List.getElem?_eq_getElem h] at he
  rw [takeP, List.take_succ_eq_append_getElem h, List.filter_append]
  simp only [Option.getD_some] at he
  simp [takeP, he]
theorem takeP_no {ts : List Tk} {id : Int} {k : Nat} (h : k < ts.length) (he : (ts[k]?.getD (0, [])).1 ≠ id) : takeP (ts.take (k + 1)) id = takeP (ts.take k) id ++ [((ts[k]?.getD (0, [])).1, (ts[k]?.getD (0, [])).2)] := by
  rw [List.getElem?_eq_getElem h] at he ⊢
  rw [takeP, List.take_succ_eq_append_getElem h, List.filter_append]
  simp only [Option.getD_some] at he ⊢
  simp [takeP, he]
theorem takeP_len (ts : List Tk) (id : Int) : (takeP ts id).length ≤ ts.length := List.length_filter_le _ _
theorem takeP_mem {ts : List Tk} {id : Int} {t : Tk} (h : t ∈ takeP ts id) : t ∈ ts := (List.mem_filter.1 h).1

set_option maxRecDepth 100000 in
set_option maxHeartbeats 3200000 in
theorem l15Take1_any (gb base : Nat) (At : Option Addr) (m ct : Nat) (vt : List Value) (ts : List Tk) (id : Int) (w : World) (hb : Blk w gb 30 #[.slice At m ct]) (ho : w.ownsRow base 40 2 (.slice At m ct) m vt) (hn : NdR w base m vt ts) (hm : m ≤ 1000) :
    Calls Tryz.prog 70 #[.slice (some ⟨gb, 0, none⟩) 1 1, .int .i64 id] w fun e w' => ∃ g' c' Ar mr cr vr xi Ax mx cx, e = .returned (.tuple #[.slice (some ⟨g', 0, none⟩) 1 c', .agg #[.int .i64 xi, .slice Ax mx cx]]) ∧ w'.cell? ⟨g', 0, none⟩ = some (.slice Ar mr cr) ∧ w.heap.size ≤ g' ∧ g' < w'.heap.size ∧
      w'.ownsRow w.heap.size 40 2 (.slice Ar mr cr) mr vr ∧ NdR w' base mr vr (takeP ts id) ∧ Below w.heap.size w w' := by
  obtain ⟨t0, ht0, htz0, htz1, htz2⟩ := info_parts task_info
  obtain ⟨s0, hs0, hsz0, hsz1, hsz2⟩ := info_parts slice_info'
  have Hb := qh hb
  have Ho := qh ho
  have Hn := qh hn
  have Hl := qh hn.1
  have HKn := qh (fun w' (k : Below w.heap.size w w') => hn.keepTI (KeepTI.up k))
  have HKo := qh (fun w' (k : Below w.heap.size w w') => own_up' ho k)
  clear hb ho hn
  have sz1 : (w.alloc (.cells #[.int .i64 0, .slice none 0 0] 40)).heap.size = w.heap.size + 1 := World.size_alloc _ _
  have sz2 : ((w.alloc (.cells #[.int .i64 0, .slice none 0 0] 40)).alloc (.cells #[] 30)).heap.size = w.heap.size + 2 := by rw [World.size_alloc, sz1]
  have sz3 : (((w.alloc (.cells #[.int .i64 0, .slice none 0 0] 40)).alloc (.cells #[] 30)).alloc (.cells #[.int .i64 0, .slice none 0 0] 40)).heap.size = w.heap.size + 3 := by rw [World.size_alloc, sz2]
  have B3 := qh (((alloc_up w (.cells #[.int .i64 0, .slice none 0 0] 40)).alloc (by rw [sz1]; omega) (.cells #[] 30)).alloc (by rw [sz2]; omega) (.cells #[.int .i64 0, .slice none 0 0] 40))
  have Z3 := qh (((Blk.new w 40 #[.int .i64 0, .slice none 0 0]).alloc (.cells #[] 30)).alloc (.cells #[.int .i64 0, .slice none 0 0] 40))
  have hO := own_alloc (World.ownsRow_lit (base := w.heap.size) (e := 30) (size := 1) (w.alloc (.cells #[.int .i64 0, .slice none 0 0] 40)) #[] 0 (by rw [sz1]; omega) (by unfold maxLen; omega) rfl) (.cells #[.int .i64 0, .slice none 0 0] 40)
  rw [sz1] at hO
  have O3 := qh (show (((w.alloc (.cells #[.int .i64 0, .slice none 0 0] 40)).alloc (.cells #[] 30)).alloc (.cells #[.int .i64 0, .slice none 0 0] 40)).ownsRow w.heap.size 30 1 (.slice (some ⟨w.heap.size + 1, 0, none⟩) 0 0) 0 [] from hO)
  have hX := Blk.new ((w.alloc (.cells #[.int .i64 0, .slice none 0 0] 40)).alloc (.cells #[] 30)) 40 #[.int .i64 0, .slice none 0 0]
  rw [sz2] at hX
  have X3 := qh hX
  clear hO hX sz1 sz2
  go_enter Tryz.func70, Tryz.ntmps70
  go_wp2_with fail
  generalize ((w.alloc (.cells #[.int .i64 0, .slice none 0 0] 40)).alloc (.cells #[] 30)).alloc (.cells #[.int .i64 0, .slice none 0 0] 40) = w3 at sz3 B3 Z3 O3 X3 ⊢
  refine wp_loop_rounds 2 ?_
  rw [rounds_succ]
  have hR := World.ownsRow_lit (base := w.heap.size + 3) (e := 40) (size := 2) w3 #[] 0 (by omega) (by unfold maxLen; omega) rfl
  rw [sz3] at hR
  have R4 := qh (show (w3.alloc (.cells #[] 40)).ownsRow (w.heap.size + 3) 40 2 (.slice (some ⟨w.heap.size + 3, 0, none⟩) 0 0) 0 [] from hR)
  have B4 := qh (B3.out.alloc (by omega) (.cells #[] 40))
  have Z4 := qh (Z3.out.alloc (.cells #[] 40))
  have X4 := qh (X3.out.alloc (.cells #[] 40))
  have O4 := qh (own_alloc O3.out (.cells #[] 40))
  have lgb : gb < w.heap.size := Hb.out.lt
  clear hR B3 Z3 X3 O3
  go_wp2_with fail
  generalize w3.alloc (.cells #[] 40) = w4 at R4 B4 Z4 X4 O4 ⊢
  clear sz3
  go_loopw [9, 10] (fun v i wr => ∃ (j : Nat) (Ar : Option Addr) (mr cr : Nat) (vr : List Value) (xi : Int) (Ax : Option Addr) (mx cx : Nat), i = .int .i64 j ∧ j ≤ m ∧ v = .slice Ar mr cr ∧ Below w.heap.size w wr ∧ Blk wr w.heap.size 40 #[.int .i64 0, .slice none 0 0] ∧ Blk wr (w.heap.size + 2) 40 #[.int .i64 xi, .slice Ax mx cx] ∧
    wr.ownsRow w.heap.size 30 1 (.slice (some ⟨w.heap.size + 1, 0, none⟩) 0 0) 0 [] ∧ wr.ownsRow (w.heap.size + 3) 40 2 (.slice Ar mr cr) mr vr ∧ NdR wr base mr vr (takeP (ts.take j) id)) (fun _ i _ => m - (intOf i).toNat)
  case atStart => exact ⟨0, _, _, _, [], _, _, _, _, rfl, Nat.zero_le _, rfl, B4.out, Z4.out, X4.out, O4.out, R4.out, NdR.nil⟩
  case round =>
    clear B4 Z4 X4 O4 R4
    obtain ⟨j, Ar, mr, cr, vr, xi, Ax, mx, cx, rfl, hj, rfl, hbel, hz, hx, hob, hr, hnr⟩ := hrel
    have HB := qh hbel
    have HZ := qh hz
    have HX := qh hx
    have HO := qh hob
    have HR := qh hr
    have HN := qh hnr
    have lz := hbel.size
    have lx : w.heap.size + 2 < wr.heap.size := hx.lt
    have Hb' := qh (Hb.out.below hbel lgb)
    have hgb := (Hb.out.below hbel lgb).cell 0
    simp only [gT, gZ] at hgb
    have lmr : mr ≤ 1000 := by have := hnr.1; have := takeP_len (ts.take j) id; have : (ts.take j).length ≤ m := by rw [List.length_take]; omega
                               omega
    clear hbel hz hx hob hr hnr
    by_cases hlt : j < m
    · have k1 : (0 : Int) ≤ (j : Int) := by omega
      have k2 : (j : Int) < (m : Int) := by omega
      have k3 : 0 ≤ (j : Int) * 2 := by omega
      obtain ⟨An, mn, cn, e1, e2, e3⟩ := (HKn.out wr HB.out).2.2 j hlt
      obtain ⟨gt, hAt, _, _⟩ : ∃ gt, At = some ⟨gt, 0, none⟩ ∧ base ≤ gt ∧ gt < w.heap.size := by
        obtain ⟨g, cap, hv, h1, h2⟩ := Ho.out.form (by omega)
        injection hv with hv
        exact ⟨g, hv, h1, h2⟩
      subst hAt
      have d1 := (HKo.out wr HB.out).cells (g := gt) rfl _ _ e1
      have d2 := (HKo.out wr HB.out).cells (g := gt) rfl _ _ e2
      rw [addr_add, Nat.zero_add] at d1 d2
      have hjl : Hid (j < ts.length) := by have := Hl.out; show _ < _; omega
      have E3 := qh e3
      clear e1 e2 e3
      by_cases hid : (ts[j]?.getD (0, [])).1 = id
      · have Ht := qh (takeP_yes hjl.out hid)
        rw [hid] at d1
        have x0 := HX.out.cell 0
        have x1 := HX.out.cell 1
        simp only [gT, gZ, gS] at x0 x1
        have x2 := HX.out.frozen 0
        have x3 := HX.out.frozen 1
        clear hid
        go_wp2_with fail
        have hk : ∀ b, b ≠ w.heap.size + 2 → ((wr.setCell ⟨w.heap.size + 2, 0, none⟩ (.int .i64 id)).setCell ⟨w.heap.size + 2, 1, none⟩ (.slice An mn cn)).heap[b]? = wr.heap[b]? := fun b hb => (Below.heap_setCell _ _ _ b hb).trans (Below.heap_setCell _ _ _ b hb)
        have B5 := qh ((HB.out.setCell (p := ⟨w.heap.size + 2, 0, none⟩) (by show w.heap.size ≤ w.heap.size + 2; omega) (.int .i64 id)).setCell (p := ⟨w.heap.size + 2, 1, none⟩) (by show w.heap.size ≤ w.heap.size + 2; omega) (.slice An mn cn))
        have Z5 := qh ((HZ.out.far (p := ⟨w.heap.size + 2, 0, none⟩) (by show w.heap.size ≠ w.heap.size + 2; omega) (.int .i64 id)).far (p := ⟨w.heap.size + 2, 1, none⟩) (by show w.heap.size ≠ w.heap.size + 2; omega) (.slice An mn cn))
        have X5 := qh ((HX.out.set_ 0 (.int .i64 id)).set_ 1 (.slice An mn cn))
        have O5 := qh (own_keep HO.out (w' := (wr.setCell ⟨w.heap.size + 2, 0, none⟩ (.int .i64 id)).setCell ⟨w.heap.size + 2, 1, none⟩ (.slice An mn cn)) (fun b hb => hk b (by simp [Value.ownBlock] at hb; omega)))
        have R5' := qh (own_keep HR.out (w' := (wr.setCell ⟨w.heap.size + 2, 0, none⟩ (.int .i64 id)).setCell ⟨w.heap.size + 2, 1, none⟩ (.slice An mn cn)) (fun b hb => hk b (by have := (HR.out.lt b hb).1; omega)))
        have N5 := qh (show NdR ((wr.setCell ⟨w.heap.size + 2, 0, none⟩ (.int .i64 id)).setCell ⟨w.heap.size + 2, 1, none⟩ (.slice An mn cn)) base mr vr (takeP (ts.take j) id) from ⟨HN.out.1, HN.out.2.1, fun i hi => by
          obtain ⟨A', m', c', q1, q2, q3⟩ := HN.out.2.2 i hi
          exact ⟨A', m', c', q1, q2, own_keep q3 (fun b hb => hk b (fun e => own_blk_ne q3 HX.out (by decide) (by rw [hb, e])))⟩⟩)
        clear hk
        go_roundw
        case measure => simp [intOf]; omega
        case rel => exact ⟨j + 1, Ar, mr, cr, vr, id, An, mn, cn, by go_num, by omega, rfl, B5.out, Z5.out, X5.out, O5.out, R5'.out, by rw [Ht.out]; exact N5.out⟩
      · have Ht := qh (takeP_no hjl.out hid)
        have hne : ((ts[j]?.getD (0, [])).1 == id) = false := by simpa using hid
        clear hid
        generalize (ts[j]?.getD (0, [])).1 = ti at *
        generalize (ts[j]?.getD (0, [])).2 = nd at *
        have Own7 := qh (own_alloc HR.out (.cells #[.int .i64 ti, .slice An mn cn] 40))
        have X7 := qh (lit2 wr 40 (.int .i64 ti) (.slice An mn cn))
        have lz7 : w.heap.size + 3 ≤ (wr.alloc (.cells #[.int .i64 ti, .slice An mn cn] 40)).heap.size := by rw [World.size_alloc]; omega
        go_wp2_with (at_builtin; refine wpList_append_src _ rfl _ _ 30 rfl (w.heap.size + 3) 40 t0 _ 2 32 Tryz.underlying30 ht0 htz0 htz1 htz2 rfl (by omega) (.slice Ar mr cr) mr vr rfl Own7.out (some ⟨wr.heap.size, 0, none⟩) 1 1 [.int .i64 ti, .slice An mn cn] rfl X7.out (one2 _ _ rfl rfl) (by unfold maxLen; omega) (by omega) lz7 ?_; intro v' w8 hown8 hgrow8 hat8; obtain ⟨A8, c8, rfl⟩ := own_shape hown8)
        have ne8 : ∀ b, b < w.heap.size + 3 → some b ≠ (Value.slice Ar mr cr).ownBlock := fun b hb e => by have := (Own7.out.lt b e.symm).1; omega
        have B8 := qh ((HB.out.alloc lz (.cells #[.int .i64 ti, .slice An mn cn] 40)).grown hgrow8 (by omega) (fun r e => by have := (Own7.out.lt r e).1; omega))
        have Z8 := qh ((HZ.out.alloc (.cells #[.int .i64 ti, .slice An mn cn] 40)).grown hgrow8 (ne8 _ (by omega)))
        have X8 := qh ((HX.out.alloc (.cells #[.int .i64 ti, .slice An mn cn] 40)).grown hgrow8 (ne8 _ (by omega)))
        have O8 := qh (own_keep (own_alloc HO.out (.cells #[.int .i64 ti, .slice An mn cn] 40)) (fun b hb => hgrow8.block b (by simp [Value.ownBlock] at hb; subst hb; rw [World.size_alloc]; omega) (ne8 b (by simp [Value.ownBlock] at hb; omega))))
        have R8 := qh hown8
        have N8 := qh (((HN.out.keepTI (KeepTI.up (alloc_up wr (.cells #[.int .i64 ti, .slice An mn cn] 40)))).grown Own7.out (by decide) hgrow8).snoc (id := ti) (xs := nd) (own_keep (own_alloc E3.out (.cells #[.int .i64 ti, .slice An mn cn] 40)) (fun b hb => hgrow8.block b ((own_alloc E3.out (.cells #[.int .i64 ti, .slice An mn cn] 40)).lt b hb).2 (fun e => own_types Own7.out (own_alloc E3.out (.cells #[.int .i64 ti, .slice An mn cn] 40)) (by decide) e.symm hb))))
        clear hown8 hgrow8 hat8 Own7 X7 ne8
        go_wp2_with fail
        go_roundw
        case measure => simp [intOf]; omega
        case rel => exact ⟨j + 1, A8, mr + 1, c8, _, xi, Ax, mx, cx, by go_num, by omega, rfl, B8.out, Z8.out, X8.out, O8.out, R8.out, by rw [Ht.out]; exact N8.out⟩
    · obtain rfl : j = m := by omega
      have Hts := qh (show ts.take j = ts from List.take_of_length_le (by rw [Hl.out]; exact Nat.le_refl _))
      have Own7 := qh (own_alloc HO.out (.cells #[.slice Ar mr cr] 30))
      have X7 := qh (lit1 wr 30 (.slice Ar mr cr))
      have lz7 : w.heap.size ≤ (wr.alloc (.cells #[.slice Ar mr cr] 30)).heap.size := by rw [World.size_alloc]; omega
      have R7 := qh (own_alloc HR.out (.cells #[.slice Ar mr cr] 30))
      have N7 := qh (HN.out.keepTI (KeepTI.up (alloc_up wr (.cells #[.slice Ar mr cr] 30))))
      have Z7 := qh (HZ.out.alloc (.cells #[.slice Ar mr cr] 30))
      have X7' := qh (HX.out.alloc (.cells #[.slice Ar mr cr] 30))
      have B7 := qh (HB.out.alloc lz (.cells #[.slice Ar mr cr] 30))
      go_wp2_with (at_builtin; refine wpList_append_src _ rfl _ _ 55 rfl w.heap.size 30 s0 _ 1 24 Tryz.underlying55 hs0 hsz0 hsz1 hsz2 rfl (by omega) (.slice (some ⟨w.heap.size + 1, 0, none⟩) 0 0) 0 [] rfl Own7.out (some ⟨wr.heap.size, 0, none⟩) 1 1 [.slice Ar mr cr] rfl X7.out (one1 _ rfl) (by unfold maxLen; omega) (by omega) lz7 ?_; intro v' w8 hown8 hgrow8 hat8; rw [Nat.zero_add, List.nil_append] at hown8; obtain ⟨A8, c8, rfl⟩ := own_shape hown8)
      have B8 := qh (B7.out.grown hgrow8 lz7 (fun r e => (Own7.out.lt r e).1))
      have Z8 := qh (Z7.out.grown hgrow8 (fun e => own_blk_ne Own7.out Z7.out (by decide) e.symm))
      have X8 := qh (X7'.out.grown hgrow8 (fun e => own_blk_ne Own7.out X7'.out (by decide) e.symm))
      have R8 := qh (own_keep R7.out (fun b hb => hgrow8.block b (R7.out.lt b hb).2 (fun e => own_types Own7.out R7.out (by decide) e.symm hb)))
      have N8 := qh (N7.out.grown Own7.out (by decide) hgrow8)
      have O8 := qh hown8
      clear hown8 hgrow8 hat8 Own7 X7 R7 N7 Z7 X7' B7 HB HZ HX HO HR HN
      rw [rounds_succ]
      go_wp2_with fail
      have K0 : w8.drew.cell? ⟨w.heap.size + 2, 0, none⟩ = some (.int .i64 xi) ∧ w8.drew.cell? ⟨w.heap.size + 2, 1, none⟩ = some (.slice Ax mx cx) := ⟨X8.out.cell 0, X8.out.cell 1⟩
      have B9 := qh B8.out.drew
      have Z9 := qh Z8.out.drew
      have X9 := qh X8.out.drew
      have R9 := qh (World.ownsRow.drew R8.out)
      have N9 := qh (N8.out.keepTI (KeepTI.drew w8))
      have O9 := qh (World.ownsRow.drew O8.out)
      clear B8 Z8 X8 R8 N8 O8
      refine wp_region_mix (.take 0 (.take 1 (.take 2 (.bar 3 .nil)))) (fun w' => w'.cell? ⟨w.heap.size + 2, 0, none⟩ = some (.int .i64 xi) ∧ w'.cell? ⟨w.heap.size + 2, 1, none⟩ = some (.slice Ax mx cx)) (by kernel_rfl) (by kernel_rfl) K0 (fun _ => ?_)
      clear K0
      repeat ((first | refine mxS (by rfl) (by rfl) ?_ | (refine mxT (v := ?_) (by rfl) (by rfl) (fun z y => ?_) ?_; rotate_left; (focus ((try dsimp only at y); (go_simp <;> with_reducible rfl); done)))); (try simp only [Act.put,pS,pZ,pC]))
      generalize w8.drew = u0 at B9 Z9 X9 R9 N9 O9 ⊢
      have x0 := Z9.out.cell 0
      have x1 := Z9.out.cell 1
      simp only [gT, gZ, gS] at x0 x1
      have x2 := Z9.out.frozen 0
      have x3 := Z9.out.frozen 1
      (refine mxB (by rfl) (fun K hK => ?_); go_simp)
      have hk : ∀ b, b ≠ w.heap.size → ((u0.setCell ⟨w.heap.size, 0, none⟩ (.int .i64 xi)).setCell ⟨w.heap.size, 1, none⟩ (.slice Ax mx cx)).heap[b]? = u0.heap[b]? := fun b hb => (Below.heap_setCell _ _ _ b hb).trans (Below.heap_setCell _ _ _ b hb)
      have EQ := qh ((Z9.out.set_ 0 (.int .i64 xi)).set_ 1 (.slice Ax mx cx))
      have Xa := qh ((X9.out.far (p := ⟨w.heap.size, 0, none⟩) (by show w.heap.size + 2 ≠ w.heap.size; omega) (.int .i64 xi)).far (p := ⟨w.heap.size, 1, none⟩) (by show w.heap.size + 2 ≠ w.heap.size; omega) (.slice Ax mx cx))
      have Ba := qh ((B9.out.setCell (p := ⟨w.heap.size, 0, none⟩) (by simp) (.int .i64 xi)).setCell (p := ⟨w.heap.size, 1, none⟩) (by simp) (.slice Ax mx cx))
      have Ra := qh (own_keep R9.out (w' := (u0.setCell ⟨w.heap.size, 0, none⟩ (.int .i64 xi)).setCell ⟨w.heap.size, 1, none⟩ (.slice Ax mx cx)) (fun b hb => hk b (by have := (R9.out.lt b hb).1; omega)))
      have Oa := qh (own_keep O9.out (w' := (u0.setCell ⟨w.heap.size, 0, none⟩ (.int .i64 xi)).setCell ⟨w.heap.size, 1, none⟩ (.slice Ax mx cx)) (fun b hb => hk b (fun e => own_blk_ne O9.out Z9.out (by decide) (by rw [hb, e]))))
      have Na := qh (show NdR ((u0.setCell ⟨w.heap.size, 0, none⟩ (.int .i64 xi)).setCell ⟨w.heap.size, 1, none⟩ (.slice Ax mx cx)) base mr vr (takeP (ts.take j) id) from ⟨N9.out.1, N9.out.2.1, fun i hi => by
        obtain ⟨A', m', c', q1, q2, q3⟩ := N9.out.2.2 i hi
        exact ⟨A', m', c', q1, q2, own_keep q3 (fun b hb => hk b (fun e => own_blk_ne q3 Z9.out (by decide) (by rw [hb, e])))⟩⟩)
      clear hk x0 x1 x2 x3
      ((try dsimp only); refine nxK hK _ _ (⟨Xa.out.cell 0, Xa.out.cell 1⟩) ?_; clear hK K; (try simp only [Act.put,pS,pZ,pC]))
      generalize (u0.setCell ⟨w.heap.size, 0, none⟩ (.int .i64 xi)).setCell ⟨w.heap.size, 1, none⟩ (.slice Ax mx cx) = w9 at EQ Xa Ba Ra Oa Na ⊢
      refine wpMix_nil ?_
      obtain ⟨g', rfl, lg1, lg2, hcell⟩ : ∃ g', A8 = some ⟨g', 0, none⟩ ∧ w.heap.size ≤ g' ∧ g' < w9.heap.size ∧ w9.cell? ⟨g', 0, none⟩ = some (.slice Ar mr cr) := by
        obtain ⟨g, cap, hv, h1, h2⟩ := Oa.out.form (by omega)
        injection hv with hv
        subst hv
        have := Oa.out.cells (g := g) rfl 0 (.slice Ar mr cr) rfl
        rw [addr_add, Nat.zero_add] at this
        exact ⟨g, rfl, h1, h2, this⟩
      have z0 : w9.cell? ⟨w.heap.size, 0, none⟩ = some (.int .i64 xi) := EQ.out.cell 0
      have z1 : w9.cell? ⟨w.heap.size, 1, none⟩ = some (.slice Ax mx cx) := EQ.out.cell 1
      go_wp2_with fail
      refine bodyPost_ret (v := .tuple #[.slice (some ⟨g', 0, none⟩) 1 c8, .agg #[.int .i64 xi, .slice Ax mx cx]]) (by simp [results, Tryz.results70, go_sem, z0, z1]) rfl ⟨g', c8, Ar, mr, cr, vr, xi, Ax, mx, cx, rfl, hcell, lg1, lg2, own_lo Ra.out (by omega), ?_, Ba.out⟩
      have := Na.out
      rwa [Hts.out] at this
end Go.Proofs.YtlcgbnmmbheleaaGreat

namespace Go.Proofs.YtlcgbnmmbheleaaGreat
open Go Go.RowKit
attribute [local go_sem ↓] Go.wp_at_zero Go.wp_at_succ

theorem whereP_or (bs : List (List Tk)) (id : Int) : whereP bs id = -1 ∨ ∃ k : Nat, whereP bs id = (k : Int) ∧ k < bs.length := by
  unfold whereP
  cases h : bs.findIdx? (fun b => hasP b id) with
  | none => exact .inl rfl
  | some i =>
    rw [List.findIdx?_eq_some_iff_getElem] at h
    obtain ⟨hi, _⟩ := h
    exact .inr ⟨i, rfl, hi⟩
def depP (room : List Int) (us : List Un) (id : Int) : List Int × List Un × Int :=
  if clOk room us = true then (if whereP (us.map (·.2)) id < 0 then (room, us, 4) else (room, us.set (whereP (us.map (·.2)) id).toNat ((us[(whereP (us.map (·.2)) id).toNat]?.getD (false, [])).1, takeP (us[(whereP (us.map (·.2)) id).toNat]?.getD (false, [])).2 id), 0)) else ([], [], 1)
theorem depP_bad {room : List Int} {us : List Un} {id : Int} (h : clOk room us = false) : depP room us id = ([], [], 1) := by unfold depP; rw [if_neg (by rw [h]; simp)]
theorem depP_none {room : List Int} {us : List Un} {id : Int} (h : clOk room us = true) (hw : whereP (us.map (·.2)) id = -1) : depP room us id = (room, us, 4) := by unfold depP; rw [if_pos h, hw, if_pos (by omega)]
theorem depP_yes {room : List Int} {us : List Un} {id : Int} {k : Nat} (h : clOk room us = true) (hw : whereP (us.map (·.2)) id = (k : Int)) : depP room us id = (room, us.set k ((us[k]?.getD (false, [])).1, takeP (us[k]?.getD (false, [])).2 id), 0) := by
  unfold depP; rw [if_pos h, hw, if_neg (by omega), Int.toNat_natCast]

set_option maxRecDepth 100000 in
set_option maxHeartbeats 3200000 in
theorem clusterDepart_any (A1 A2 : Option Addr) (n1 c1 n2 c2 : Nat) (room : List Int) (us : List Un) (id : Int) (w : World) (h : RdC w A1 A2 n1 n2 room us) (hs : ShU us) (hn1 : n1 ≤ 1048576) :
    Calls Tryz.prog 38 #[.agg #[.slice A1 n1 c1, .slice A2 n2 c2], .int .i64 id] w fun e w' => ∃ A3 m3 c3 A4 m4 c4, e = .returned (.tuple #[.agg #[.slice A3 m3 c3, .slice A4 m4 c4], .int .i64 (depP room us id).2.2]) ∧ OwnCR w' w.heap.size (.slice A3 m3 c3) (.slice A4 m4 c4) m3 m4 (depP room us id).1 (depP room us id).2.1 ∧ Below w.heap.size w w' := by
  have hl := qh h.b.len
  have H := qh h
  have Hsh := qh hs
  have ln : n2 ≤ 1000 := by have := h.b.len; have := hs.1; omega
  clear h hs
  have sz : (w.alloc (.cells #[.slice A1 n1 c1, .slice A2 n2 c2] 26)).heap.size = w.heap.size + 1 := World.size_alloc _ _
  have B1 := qh ((alloc_up w (.cells #[.slice A1 n1 c1, .slice A2 n2 c2] 26)).alloc (by rw [sz]; omega) (.cells #[.slice none 0 0, .slice none 0 0] 26))
  have P1 := qh ((Blk.new w 26 #[.slice A1 n1 c1, .slice A2 n2 c2]).alloc (.cells #[.slice none 0 0, .slice none 0 0] 26))
  have hZ := Blk.new (w.alloc (.cells #[.slice A1 n1 c1, .slice A2 n2 c2] 26)) 26 #[.slice none 0 0, .slice none 0 0]
  rw [sz] at hZ
  have Z1 := qh hZ
  clear hZ sz
  have y0 := (P1.out).cell 0
  have y1 := (P1.out).cell 1
  simp only [gT, gZ, gS] at y0 y1
  have y2 := (P1.out).frozen 0
  have y3 := (P1.out).frozen 1
  go_enter Tryz.func38, Tryz.ntmps38
  go_wp2_with fail
  generalize (w.alloc (.cells #[.slice A1 n1 c1, .slice A2 n2 c2] 26)).alloc (.cells #[.slice none 0 0, .slice none 0 0] 26) = w1 at B1 P1 Z1 y0 y1 y2 y3 ⊢
  refine (clusterValidS_any A1 A2 n1 c1 n2 c2 room us w1 (H.out.up B1.out) Hsh.out).mono ?_; rintro e w2 ⟨rfl, hb2⟩
  have B2 := qh (below_to B1.out hb2)
  have P2 := qh (P1.out.below hb2 P1.out.lt)
  have Z2 := qh (Z1.out.below hb2 Z1.out.lt)
  clear hb2 y0 y1 y2 y3 B1 P1 Z1
  have y0 := (P2.out).cell 0
  have y1 := (P2.out).cell 1
  simp only [gT, gZ, gS] at y0 y1
  have y2 := (P2.out).frozen 0
  have y3 := (P2.out).frozen 1
  cases hok : clOk room us with
  | false =>
    have Hp := qh (depP_bad (id := id) hok)
    have x0 := (Z2.out).cell 0
    have x1 := (Z2.out).cell 1
    simp only [gT, gZ, gS] at x0 x1
    have x2 := (Z2.out).frozen 0
    have x3 := (Z2.out).frozen 1
    go_wp2_with fail
    have KT := (KeepTU.set_ (Z2.out) (by decide) (by decide) (by decide) 0 (.slice none 0 0)).trans (KeepTU.set_ ((Z2.out).set_ 0 (.slice none 0 0)) (by decide) (by decide) (by decide) 1 (.slice none 0 0))
    have EQ := qh (((Z2.out).set_ 0 (.slice none 0 0)).set_ 1 (.slice none 0 0))
    have B9 := qh (((B2.out).setCell (p := ⟨w.heap.size + 1, 0, none⟩) (by show w.heap.size ≤ w.heap.size + 1; omega) (.slice none 0 0)).setCell (p := ⟨w.heap.size + 1, 1, none⟩) (by show w.heap.size ≤ w.heap.size + 1; omega) (.slice none 0 0))
    have OC := qh (((OwnCR.none : OwnCR w2 w.heap.size (.slice none 0 0) (.slice none 0 0) 0 0 [] [])).keepTU KT)
    clear KT
    generalize World.setCell (World.setCell w2 ⟨w.heap.size + 1, 0, none⟩ (.slice none 0 0)) ⟨w.heap.size + 1, 1, none⟩ (.slice none 0 0) = w9 at EQ B9 OC ⊢
    have z0 : w9.cell? ⟨w.heap.size + 1, 0, none⟩ = some (.slice none 0 0) := EQ.out.cell 0
    have z1 : w9.cell? ⟨w.heap.size + 1, 1, none⟩ = some (.slice none 0 0) := EQ.out.cell 1
    refine bodyPost_ret (v := .tuple #[.agg #[(.slice none 0 0), (.slice none 0 0)], .int .i64 1]) (by simp [results, Tryz.results38, go_sem, z0, z1]) rfl ⟨none, 0, 0, none, 0, 0, by rw [Hp.out], ?_, B9.out⟩
    rw [Hp.out]
    exact OC.out
  | true =>
    have Hok := qh hok
    clear hok
    go_wp2_with fail
    refine (l21Copy_any A1 A2 n1 c1 n2 c2 room us w2 (H.out.up B2.out) Hsh.out hn1).mono ?_; rintro e w3 ⟨A3, c3, A4, c4, rfl, hoc, hb3⟩
    have d4 := below_to hb3 (alloc_up w3 (.cells #[.slice A3 n1 c3, .slice A4 n2 c4] 26))
    have B4 := qh (below_to B2.out d4)
    have P4 := qh (P2.out.below d4 P2.out.lt)
    have Z4 := qh (Z2.out.below d4 Z2.out.lt)
    have Q4 := qh (Blk.new w3 26 #[.slice A3 n1 c3, .slice A4 n2 c4])
    have OC4 := qh (((OwnCR.of hoc).low B2.out.size).keepTU (KeepTU.up (alloc_up w3 (.cells #[.slice A3 n1 c3, .slice A4 n2 c4] 26))))
    have lg : w.heap.size + 1 < w3.heap.size := (Z2.out.below hb3 Z2.out.lt).lt
    clear hoc hb3 d4 y0 y1 y2 y3 B2 P2 Z2
    have y0 := (P4.out).cell 0
    have y1 := (P4.out).cell 1
    simp only [gT, gZ, gS] at y0 y1
    have y2 := (P4.out).frozen 0
    have y3 := (P4.out).frozen 1
    have q0 := (Q4.out).cell 0
    have q1 := (Q4.out).cell 1
    simp only [gT, gZ, gS] at q0 q1
    have q2 := (Q4.out).frozen 0
    have q3 := (Q4.out).frozen 1
    have x0 := (Z4.out).cell 0
    have x1 := (Z4.out).cell 1
    simp only [gT, gZ, gS] at x0 x1
    have x2 := (Z4.out).frozen 0
    have x3 := (Z4.out).frozen 1
    go_wp2_with fail
    generalize hg6 : w3.heap.size = g6 at Q4 q0 q1 q2 q3 lg ⊢
    clear hg6
    generalize w3.alloc (.cells #[.slice A3 n1 c3, .slice A4 n2 c4] 26) = w4 at B4 P4 Z4 Q4 OC4 y0 y1 y2 y3 q0 q1 q2 q3 x0 x1 x2 x3 ⊢
    refine (l21Bins_any A1 A2 n1 c1 n2 c2 us w4 (H.out.up B4.out).b (by omega)).mono ?_; rintro e w5 ⟨A5, m5, c5, rfl, hr5, hb5⟩
    have hcall := qh (l2Where_any A5 m5 c5 (us.map (·.2)) id w5 hr5)
    have B5 := qh (below_to B4.out hb5)
    have Z5 := qh (Z4.out.below hb5 Z4.out.lt)
    have Q5 := qh (Q4.out.below hb5 Q4.out.lt)
    have OC5 := qh (OC4.out.keepTU (KeepTU.up hb5))
    clear hb5 hr5 y0 y1 y2 y3 q0 q1 q2 q3 x0 x1 x2 x3 B4 P4 Z4 Q4 OC4
    go_wp2_with fail
    refine hcall.out.mono ?_; rintro e w6 ⟨rfl, m6, rfl⟩
    have B6 := qh (below_drewN B5.out m6)
    have Z6 := qh (Z5.out.drewN m6)
    have Q6 := qh (Q5.out.drewN m6)
    have OC6 := qh (show OwnCR (w5.drewN m6) w.heap.size (.slice A3 n1 c3) (.slice A4 n2 c4) n1 n2 room us from OC5.out.keepTU (fun _ _ => rfl))
    clear hcall B5 Z5 Q5 OC5
    generalize w5.drewN m6 = w6 at B6 Z6 Q6 OC6 ⊢
    have q0 := (Q6.out).cell 0
    have q1 := (Q6.out).cell 1
    simp only [gT, gZ, gS] at q0 q1
    have q2 := (Q6.out).frozen 0
    have q3 := (Q6.out).frozen 1
    rcases whereP_or (us.map (·.2)) id with hw | ⟨k, hw, hkl⟩
    · have Hp := qh (depP_none Hok.out hw)
      have x0 := (Z6.out).cell 0
      have x1 := (Z6.out).cell 1
      simp only [gT, gZ, gS] at x0 x1
      have x2 := (Z6.out).frozen 0
      have x3 := (Z6.out).frozen 1
      rw [hw]
      go_wp2_with fail
      have KT := (KeepTU.set_ (Z6.out) (by decide) (by decide) (by decide) 0 (.slice A3 n1 c3)).trans (KeepTU.set_ ((Z6.out).set_ 0 (.slice A3 n1 c3)) (by decide) (by decide) (by decide) 1 (.slice A4 n2 c4))
      have EQ := qh (((Z6.out).set_ 0 (.slice A3 n1 c3)).set_ 1 (.slice A4 n2 c4))
      have B9 := qh (((B6.out).setCell (p := ⟨w.heap.size + 1, 0, none⟩) (by show w.heap.size ≤ w.heap.size + 1; omega) (.slice A3 n1 c3)).setCell (p := ⟨w.heap.size + 1, 1, none⟩) (by show w.heap.size ≤ w.heap.size + 1; omega) (.slice A4 n2 c4))
      have OC := qh ((OC6.out).keepTU KT)
      clear KT
      generalize World.setCell (World.setCell w6 ⟨w.heap.size + 1, 0, none⟩ (.slice A3 n1 c3)) ⟨w.heap.size + 1, 1, none⟩ (.slice A4 n2 c4) = w9 at EQ B9 OC ⊢
      have z0 : w9.cell? ⟨w.heap.size + 1, 0, none⟩ = some (.slice A3 n1 c3) := EQ.out.cell 0
      have z1 : w9.cell? ⟨w.heap.size + 1, 1, none⟩ = some (.slice A4 n2 c4) := EQ.out.cell 1
      refine bodyPost_ret (v := .tuple #[.agg #[(.slice A3 n1 c3), (.slice A4 n2 c4)], .int .i64 4]) (by simp [results, Tryz.results38, go_sem, z0, z1]) rfl ⟨A3, n1, c3, A4, n2, c4, by rw [Hp.out], ?_, B9.out⟩
      rw [Hp.out]
      exact OC.out
    · rw [List.length_map, hl.out] at hkl
      have Hp := qh (depP_yes Hok.out hw)
      rw [hw]
      obtain ⟨hr6, vs, tk, hU, hN⟩ := OC6.out
      obtain ⟨gu, cap, hv, hgu1, hgu2⟩ := hU.form (by omega)
      injection hv with hv1 hv2 hv3
      subst hv1 hv3
      obtain ⟨e1, e2, At, mt, ct, vt, e3, e4, e5⟩ := hN.2.2.1 k hkl
      have hsk := (Hsh.out.2 _ (un_mem (show k < us.length by rw [hl.out]; exact hkl))).1
      have lmt : mt ≤ 1000 := by have := e5.1; omega
      have u1 := hU.cells (g := gu) rfl (k * 2 + 1) _ (by rw [e2, e3])
      rw [addr_add, Nat.zero_add] at u1
      have k1 : (0 : Int) ≤ (k : Int) := by omega
      have k2 : (k : Int) < (n2 : Int) := by omega
      have k3 : 0 ≤ (k : Int) * 2 := by omega
      have hU6 := qh hU
      have hN6 := qh hN
      have hr6' := qh hr6
      have E4 := qh e4
      have E5 := qh e5
      have E3 := qh e3
      have lz6 := B6.out.size
      have GB := qh (Blk.new w6 30 #[.slice At mt ct])
      have D7 := qh (alloc_up w6 (.cells #[.slice At mt ct] 30))
      clear hU hN hr6 e1 e2 e3 e4 e5 hsk OC6
      have hcall := qh (l15Take1_any w6.heap.size w.heap.size At mt ct vt (us[k]?.getD (false, [])).2 id (w6.alloc (.cells #[.slice At mt ct] 30)) GB.out (own_alloc E4.out _) (E5.out.keepTI (KeepTI.up D7.out)) lmt)
      go_wp2_with fail
      refine hcall.out.mono ?_; rintro e w8 ⟨g', c', Ar, mr, cr, vr, xi, Ax, mx, cx, rfl, hc8, lg8, lt8, hr8, hn8, hb8⟩
      -- the box of the task that was taken
      have d9 := below_to (below_to D7.out hb8) (alloc_up w8 (.cells #[.int .i64 xi, .slice Ax mx cx] 40))
      have B9 := qh (below_to B6.out d9)
      have Z9 := qh (Z6.out.below d9 Z6.out.lt)
      have Q9 := qh (Q6.out.below d9 Q6.out.lt)
      have U9 := qh (own_up' hU6.out d9)
      have N9 := qh (hN6.out.keepTI (KeepTI.up d9))
      have M9 := qh (own_up' hr6'.out d9)
      have lz7 : w6.heap.size + 1 ≤ w8.heap.size := by have := hb8.size; rw [World.size_alloc] at this; exact this
      have R9 := qh (own_alloc hr8 (.cells #[.int .i64 xi, .slice Ax mx cx] 40))
      have V9 := qh (hn8.keepTI (KeepTI.up (alloc_up w8 (.cells #[.int .i64 xi, .slice Ax mx cx] 40))))
      have hc9 : (w8.alloc (.cells #[.int .i64 xi, .slice Ax mx cx] 40)).cell? ⟨g', 0, none⟩ = some (.slice Ar mr cr) := ((alloc_up w8 _).cell (p := ⟨g', 0, none⟩) lt8).trans hc8
      have lg8' : w6.heap.size + 1 ≤ g' := by rw [World.size_alloc] at lg8; exact lg8
      have lgu : gu < w6.heap.size := hgu2
      have ltn : (takeP (us[k]?.getD (false, [])).2 id).length = mr := hn8.1
      clear d9 hr8 hn8 hb8 hc8 lg8 hcall GB D7 u1 q0 q1 q2 q3 E3
      go_wp2_with fail
      generalize w8.alloc (.cells #[.int .i64 xi, .slice Ax mx cx] 40) = wa at B9 Z9 Q9 U9 N9 M9 R9 V9 hc9 ⊢
      have Ba := qh B9.out.drew
      have Za := qh Z9.out.drew
      have Qa := qh Q9.out.drew
      have Ua := qh (World.ownsRow.drew U9.out)
      have Na := qh (N9.out.keepTI (KeepTI.drew wa))
      have Ma := qh (World.ownsRow.drew M9.out)
      have Ra := qh (World.ownsRow.drew R9.out)
      have Va := qh (V9.out.keepTI (KeepTI.drew wa))
      have K0 : wa.drew.cell? ⟨g6, 1, none⟩ = some (.slice (some ⟨gu, 0, none⟩) n2 c4) ∧ wa.drew.cell? ⟨g', 0, none⟩ = some (.slice Ar mr cr) := ⟨Qa.out.cell 1, hc9⟩
      clear B9 Z9 Q9 U9 N9 M9 R9 V9 hc9
      refine wp_region_mix (.take 0 (.take 1 (.take 2 (.take 3 (.take 4 (.take 5 (.take 6 (.take 7 (.bar 8 .nil))))))))) (fun w' => w'.cell? ⟨g6, 1, none⟩ = some (.slice (some ⟨gu, 0, none⟩) n2 c4) ∧ w'.cell? ⟨g', 0, none⟩ = some (.slice Ar mr cr)) (by kernel_rfl) (by kernel_rfl) K0 (fun _ => ?_)
      repeat ((first | refine mxS (by rfl) (by rfl) ?_ | (refine mxT (v := ?_) (by rfl) (by rfl) (fun z y => ?_) ?_; rotate_left; (focus ((try dsimp only at y); (go_simp <;> with_reducible rfl); done)))); (try simp only [Act.put,pS,pZ,pC]))
      generalize wa.drew = u0 at K0 Ba Za Qa Ua Na Ma Ra Va ⊢
      obtain ⟨e1, e2, A', m', c'', vt', e3, e4, _⟩ := Na.out.2.2.1 k hkl
      have u1 := Ua.out.cells (g := gu) rfl (k * 2 + 1) _ e2
      rw [addr_add, Nat.zero_add] at u1
      have f1 := Ua.out.frozenAt (k * 2 + 1)
      clear e1 e2 e3 e4
      (refine mxB (by rfl) (fun K hK => ?_); go_simp)
      obtain ⟨_, curU, eU, _, hbU⟩ := own_row Ua.out (by omega)
      injection eU with eU
      injection eU with eU
      subst eU
      have KT := qh (KeepTI.set_ hbU (by decide) (by decide) (k * 2 + 1) (.slice Ar mr cr))
      have Bb := qh (Ba.out.setCell (p := ⟨gu, k * 2 + 1, none⟩) (by show w.heap.size ≤ gu; omega) (.slice Ar mr cr))
      have Zb := qh (Za.out.far (p := ⟨gu, k * 2 + 1, none⟩) (fun e => own_blk_ne Ua.out Za.out (by decide) (by rw [e]; rfl)) (.slice Ar mr cr))
      have Qb := qh (Qa.out.far (p := ⟨gu, k * 2 + 1, none⟩) (fun e => own_blk_ne Ua.out Qa.out (by decide) (by rw [e]; rfl)) (.slice Ar mr cr))
      have Ub := qh (own_set Ua.out (k * 2 + 1) (.slice Ar mr cr))
      have hput := (Na.out.keepTI KT.out).put hkl (own_lo (own_keepTI Ra.out (.inr rfl) KT.out) (by rw [World.size_alloc]; omega)) (Va.out.keepTI KT.out) (fun i hi hij b hb1 hb2 => by
        obtain ⟨_, _, Ai, mi, ci, vi, e3, e4, _⟩ := hN6.out.2.2.1 i hi
        rw [e3] at hb1
        have := (e4.lt b hb1).2
        have := (Ra.out.lt b hb2).1
        rw [World.size_alloc] at this
        omega)
      have OCb := qh (show OwnCR (u0.setCell ⟨gu, k * 2 + 1, none⟩ (.slice Ar mr cr)) w.heap.size (.slice A3 n1 c3) (.slice (some ⟨gu, 0, none⟩) n2 c4) n1 n2 room (us.set k ((us[k]?.getD (false, [])).1, takeP (us[k]?.getD (false, [])).2 id)) from ⟨own_keepTI Ma.out (.inl rfl) KT.out, _, _, Ub.out, hput⟩)
      have K1 : (u0.setCell ⟨gu, k * 2 + 1, none⟩ (.slice Ar mr cr)).cell? ⟨g', 0, none⟩ = some (.slice Ar mr cr) := (World.cell?_of_block (Below.heap_setCell u0 _ _ g' (by show g' ≠ gu; omega))).trans K0.2
      clear hput u1 f1 hbU KT Ub K0
      ((try dsimp only); refine nxK hK _ _ (⟨Qb.out.cell 1, K1⟩) ?_; clear hK K; (try simp only [Act.put,pS,pZ,pC]))
      clear K1
      generalize u0.setCell ⟨gu, k * 2 + 1, none⟩ (.slice Ar mr cr) = wb at Bb Zb Qb OCb ⊢
      refine wpMix_nil ?_
      have q0 := (Qb.out).cell 0
      have q1 := (Qb.out).cell 1
      simp only [gT, gZ, gS] at q0 q1
      have q2 := (Qb.out).frozen 0
      have q3 := (Qb.out).frozen 1
      have x0 := (Zb.out).cell 0
      have x1 := (Zb.out).cell 1
      simp only [gT, gZ, gS] at x0 x1
      have x2 := (Zb.out).frozen 0
      have x3 := (Zb.out).frozen 1
      go_wp2_with fail
      have KT := (KeepTU.set_ (Zb.out) (by decide) (by decide) (by decide) 0 (.slice A3 n1 c3)).trans (KeepTU.set_ ((Zb.out).set_ 0 (.slice A3 n1 c3)) (by decide) (by decide) (by decide) 1 (.slice (some ⟨gu, 0, none⟩) n2 c4))
      have EQ := qh (((Zb.out).set_ 0 (.slice A3 n1 c3)).set_ 1 (.slice (some ⟨gu, 0, none⟩) n2 c4))
      have B9 := qh (((Bb.out).setCell (p := ⟨w.heap.size + 1, 0, none⟩) (by show w.heap.size ≤ w.heap.size + 1; omega) (.slice A3 n1 c3)).setCell (p := ⟨w.heap.size + 1, 1, none⟩) (by show w.heap.size ≤ w.heap.size + 1; omega) (.slice (some ⟨gu, 0, none⟩) n2 c4))
      have OC := qh ((OCb.out).keepTU KT)
      clear KT
      generalize World.setCell (World.setCell wb ⟨w.heap.size + 1, 0, none⟩ (.slice A3 n1 c3)) ⟨w.heap.size + 1, 1, none⟩ (.slice (some ⟨gu, 0, none⟩) n2 c4) = w9 at EQ B9 OC ⊢
      have z0 : w9.cell? ⟨w.heap.size + 1, 0, none⟩ = some (.slice A3 n1 c3) := EQ.out.cell 0
      have z1 : w9.cell? ⟨w.heap.size + 1, 1, none⟩ = some (.slice (some ⟨gu, 0, none⟩) n2 c4) := EQ.out.cell 1
      refine bodyPost_ret (v := .tuple #[.agg #[(.slice A3 n1 c3), (.slice (some ⟨gu, 0, none⟩) n2 c4)], .int .i64 0]) (by simp [results, Tryz.results38, go_sem, z0, z1]) rfl ⟨A3, n1, c3, some ⟨gu, 0, none⟩, n2, c4, by rw [Hp.out], ?_, B9.out⟩
      rw [Hp.out]
      exact OC.out
end Go.Proofs.YtlcgbnmmbheleaaGreat
