/- Several texts in one. -/
import Derived.Test.YtlcgbnmmbheleaaGreatV16
import Derived.Test.YtlcgbnmmbheleaaGreatV10
namespace Go.Proofs.YtlcgbnmmbheleaaGreat

abbrev Un := Bool × List Tk
def clOk (room : List Int) (us : List Un) : Bool := decide (1 ≤ us.length ∧ us.length ≤ 10) && binsOk room (us.map (·.2)) && us.all (fun u => u.1 || u.2.isEmpty)

/-! ### The program's reading -/
/-! ### The reference's reading -/
/-! ### Both read what was written -/
theorem clOk_facts {room : List Int} {us : List Un} (h : clOk room us = true) : room.length = 3 ∧ 1 ≤ us.length ∧ us.length ≤ 10 ∧ (∀ u ∈ us, u.2.length ≤ 14 ∧ ∀ t ∈ u.2, t.2.length = 3) := by
  simp only [clOk, binsOk, tasksOk, Bool.and_eq_true, decide_eq_true_eq, List.all_eq_true] at h
  obtain ⟨⟨⟨h1, h2⟩, ⟨_, ⟨⟨⟨h3, h4⟩, h5⟩, h6⟩⟩, _⟩, _⟩ := h
  refine ⟨?_, h1, h2, fun u hu => ?_⟩
  · simp only [roomOk, Bool.and_eq_true] at h3
    exact vecOk_len h3.1
  · have hin : ∀ t ∈ u.2, t ∈ (us.map (·.2)).flatten := fun t ht => List.mem_flatten.2 ⟨u.2, List.mem_map.2 ⟨u, hu, rfl⟩, ht⟩
    refine ⟨?_, fun t ht => ?_⟩
    · have hs : u.2.length ≤ (us.map (·.2)).flatten.length := (List.sublist_flatten_of_mem (List.mem_map.2 ⟨u, hu, rfl⟩)).length_le
      omega
    · have := h5 t (hin t ht)
      simp only [taskOk, vecFits, Bool.and_eq_true] at this
      exact vecOk_len this.2.1.1

end Go.Proofs.YtlcgbnmmbheleaaGreat

namespace Go.Proofs.YtlcgbnmmbheleaaGreat
open Go Go.RowKit

def RdN (w : World) (B : Nat) (A : Option Addr) (n : Nat) (us : List Un) : Prop :=
  us.length = n ∧ n ≤ 9223372036854775807 ∧ (0 < n → ∃ b o, A = some ⟨b, o, none⟩ ∧ b < B ∧ ∀ j, j < n → ∃ A' m c,
    w.cell? ⟨b, o + j * 2, none⟩ = some (.bool (us[j]?.getD (false, [])).1) ∧ w.cell? ⟨b, o + j * 2 + 1, none⟩ = some (.slice A' m c) ∧ m ≤ c ∧
    RdT w B A' m (us[j]?.getD (false, [])).2)

section
variable {w w' : World} {B B' n k : Nat} {A : Option Addr} {us : List Un}
theorem RdN.len (h : RdN w B A n us) : us.length = n := h.1
theorem RdN.le (h : RdN w B A n us) : n ≤ 9223372036854775807 := h.2.1
theorem RdN.nil : RdN w B A 0 [] := ⟨rfl, by omega, fun h => absurd h (by omega)⟩
theorem RdN.at_ (h : RdN w B A n us) (hk : k < n) : ∃ b o A' m c, A = some ⟨b, o, none⟩ ∧ b < B ∧ w.cell? ⟨b, o + k * 2, none⟩ = some (.bool (us[k]?.getD (false, [])).1) ∧
    w.cell? ⟨b, o + k * 2 + 1, none⟩ = some (.slice A' m c) ∧ m ≤ c ∧ RdT w B A' m (us[k]?.getD (false, [])).2 := by
  obtain ⟨b, o, e, hb, hc⟩ := h.2.2 (by omega)
  obtain ⟨A', m, c, h1, h2, h3, h4⟩ := hc k hk
  exact ⟨b, o, A', m, c, e, hb, h1, h2, h3, h4⟩
theorem RdN.keep (h : RdN w B A n us) (hk : ∀ p : Addr, p.block < B → w'.cell? p = w.cell? p) (hB : B ≤ B') : RdN w' B' A n us :=
  ⟨h.1, h.2.1, fun hn => by
    obtain ⟨b, o, e, hb, hc⟩ := h.2.2 hn
    refine ⟨b, o, e, by omega, fun j hj => ?_⟩
    obtain ⟨A', m, c, h1, h2, h3, h4⟩ := hc j hj
    exact ⟨A', m, c, (hk ⟨b, o + j * 2, none⟩ hb).trans h1, (hk ⟨b, o + j * 2 + 1, none⟩ hb).trans h2, h3, h4.keep hk hB⟩⟩
theorem RdN.below (h : RdN w B A n us) (hb : Below B w w') : RdN w' B A n us := h.keep (fun _ hp => hb.cell hp) (Nat.le_refl _)
theorem RdN.more (h : RdN w B A n us) (hB : B ≤ B') : RdN w B' A n us := h.keep (fun _ _ => rfl) hB
theorem RdN.drewN (h : RdN w B A n us) (m : Nat) : RdN (w.drewN m) B A n us := h
theorem RdN.up (h : RdN w w.heap.size A n us) (hb : Below w.heap.size w w') : RdN w' w'.heap.size A n us := (h.below hb).more hb.size
end

def UnCells (w : World) (B : Nat) (vs : List Value) (us : List Un) : Prop :=
  vs.length = us.length * 2 ∧ ∀ j, j < us.length → ∃ A' m c, vs[j * 2]? = some (.bool (us[j]?.getD (false, [])).1) ∧ vs[j * 2 + 1]? = some (.slice A' m c) ∧ m ≤ c ∧ RdT w B A' m (us[j]?.getD (false, [])).2

section
variable {w w' : World} {B B' : Nat} {vs vs' : List Value} {us us' : List Un}
theorem UnCells.nil : UnCells w B [] [] := ⟨rfl, fun j hj => by simp at hj⟩
theorem UnCells.keep (h : UnCells w B vs us) (hk : ∀ p : Addr, p.block < B → w'.cell? p = w.cell? p) (hB : B ≤ B') : UnCells w' B' vs us :=
  ⟨h.1, fun j hj => by obtain ⟨A', m, c, h1, h2, h3, h4⟩ := h.2 j hj; exact ⟨A', m, c, h1, h2, h3, h4.keep hk hB⟩⟩
theorem UnCells.one {A' : Option Addr} {m c : Nat} {b : Bool} {ts : List Tk} (h : RdT w B A' m ts) (hc : m ≤ c) : UnCells w B [.bool b, .slice A' m c] [(b, ts)] :=
  ⟨rfl, fun j hj => by
    simp at hj; subst hj
    exact ⟨A', m, c, rfl, rfl, hc, h⟩⟩
theorem UnCells.append (h : UnCells w B vs us) (h' : UnCells w B vs' us') : UnCells w B (vs ++ vs') (us ++ us') := by
  refine ⟨by simp [h.1, h'.1]; omega, fun j hj => ?_⟩
  by_cases hl : j < us.length
  · obtain ⟨A', m, c, h1, h2, h3, h4⟩ := h.2 j hl
    refine ⟨A', m, c, ?_, ?_, h3, ?_⟩
    · rw [List.getElem?_append_left (by have := h.1; omega), List.getElem?_append_left hl]; exact h1
    · rw [List.getElem?_append_left (by have := h.1; omega)]; exact h2
    · rw [List.getElem?_append_left hl]; exact h4
  · obtain ⟨A', m, c, h1, h2, h3, h4⟩ := h'.2 (j - us.length) (by simp at hj; omega)
    refine ⟨A', m, c, ?_, ?_, h3, ?_⟩
    · rw [List.getElem?_append_right (by have := h.1; omega), List.getElem?_append_right (by omega), show j * 2 - vs.length = (j - us.length) * 2 from by have := h.1; omega]; exact h1
    · rw [List.getElem?_append_right (by have := h.1; omega), show j * 2 + 1 - vs.length = (j - us.length) * 2 + 1 from by have := h.1; omega]; exact h2
    · rw [List.getElem?_append_right (by omega)]; exact h4
theorem UnCells.ones (h : UnCells w B vs us) : ∀ u ∈ vs, u.oneCell' = true := by
  intro u hu
  obtain ⟨i, hi, rfl⟩ := List.getElem_of_mem hu
  obtain ⟨A', m, c, h1, h2, _⟩ := h.2 (i / 2) (by have := h.1; omega)
  rcases Nat.mod_two_eq_zero_or_one i with e | e
  · rw [show i / 2 * 2 = i from by omega, List.getElem?_eq_getElem hi] at h1
    injection h1 with h1; rw [h1]; rfl
  · rw [show i / 2 * 2 + 1 = i from by omega, List.getElem?_eq_getElem hi] at h2
    injection h2 with h2; rw [h2]; rfl
theorem RdN.of_own {base : Nat} {e : TypeId} {A : Option Addr} {n c : Nat} (h : w.ownsRow base e 2 (.slice A n c) n vs) (ht : UnCells w B vs us) (hB : B ≤ w.heap.size) (hn : n ≤ 9223372036854775807) : RdN w w.heap.size A n us := by
  have hl : us.length = n := by have := h.1; have := ht.1; omega
  refine ⟨hl, hn, fun hp => ?_⟩
  obtain ⟨g, cap, hv, _, hlt⟩ := h.form hp
  have hA : A = some ⟨g, 0, none⟩ := by injection hv
  subst hA
  refine ⟨g, 0, rfl, hlt, fun j hj => ?_⟩
  obtain ⟨A', m, c', h1, h2, h3, h4⟩ := ht.2 j (by omega)
  have e1 := h.cells (g := g) rfl _ _ h1
  have e2 := h.cells (g := g) rfl _ _ h2
  rw [addr_add] at e1 e2
  exact ⟨A', m, c', e1, e2, h3, h4.more hB⟩
end

/-! ### Units of the call's own -/
def OwnTsB (w : World) (lo hi : Nat) (v : Value) (n : Nat) (ts : List Tk) : Prop := ∃ vs nd, w.ownsRow lo 40 2 v n vs ∧ NdTs w lo n vs nd ts ∧ (∀ b, v.ownBlock = some b → b < hi) ∧ (∀ j, j < n → ∀ b, (nd j).ownBlock = some b → b < hi)
def NdUs (w : World) (n : Nat) (vs : List Value) (tk : Nat → Value) (f : Nat → Nat) (us : List Un) : Prop :=
  us.length = n ∧ (∀ j, j < n → f j ≤ f (j + 1) ∧ vs[j * 2]? = some (.bool (us[j]?.getD (false, [])).1) ∧ vs[j * 2 + 1]? = some (tk j) ∧
    ∃ A m c, tk j = .slice A m c ∧ OwnTsB w (f j) (f (j + 1)) (.slice A m c) m (us[j]?.getD (false, [])).2)
def OwnUs (w : World) (base : Nat) (v : Value) (n : Nat) (us : List Un) : Prop := ∃ vs tk f, w.ownsRow base 32 2 v n vs ∧ NdUs w n vs tk f us ∧ base ≤ f 0

theorem own_lo {w : World} {base base' s n : Nat} {t : TypeId} {v : Value} {xs : List Value} (h : w.ownsRow base t s v n xs) (hb : base' ≤ base) : w.ownsRow base' t s v n xs :=
  ⟨h.1, h.2.imp (fun h => h) (fun ⟨g, cap, cur, a, b, c⟩ => ⟨g, cap, cur, a, by omega, c⟩)⟩
section
variable {w w' : World} {lo lo' hi hi' base base' n : Nat} {v : Value} {vs : List Value} {tk : Nat → Value} {f : Nat → Nat} {ts : List Tk} {us : List Un}
theorem NdTs.down {nd : Nat → Value} (h : NdTs w base n vs nd ts) (hb : base' ≤ base) : NdTs w base' n vs nd ts :=
  ⟨h.1, fun j hj => by
    obtain ⟨h1, h2, A, m, c, h3, h4⟩ := h.2.1 j hj
    exact ⟨h1, h2, A, m, c, h3, own_lo h4 hb⟩, h.2.2⟩
theorem OwnTs.toB (h : OwnTs w base v n ts) : OwnTsB w base w.heap.size v n ts := by
  obtain ⟨vs, nd, h1, h2⟩ := h
  exact ⟨vs, nd, h1, h2, fun b hb => (h1.lt b hb).2, h2.old⟩
theorem OwnTsB.out (h : OwnTsB w lo hi v n ts) : OwnTs w lo v n ts := by
  obtain ⟨vs, nd, h1, h2, _⟩ := h
  exact ⟨vs, nd, h1, h2⟩
theorem own_keepB {s : Nat} {t : TypeId} {xs : List Value} (h : w.ownsRow base t s v n xs) (hk : ∀ b cs, v.ownBlock = some b → Blk w b t cs → w'.heap[b]? = w.heap[b]?) : w'.ownsRow base t s v n xs := by
  refine ⟨h.1, ?_⟩
  rcases h.2 with hn | ⟨g, cap, cur, rfl, hb, hgg, rest⟩
  · exact .inl hn
  · exact .inr ⟨g, cap, cur, rfl, hb, (hk g cur rfl hgg).trans hgg, rest⟩
def IsTI (w : World) (b : Nat) : Prop := ∃ t cs, (t = 3 ∨ t = 40) ∧ Blk w b t cs
theorem OwnTsB.keep (h : OwnTsB w lo hi v n ts) (hk : ∀ b, lo ≤ b → b < hi → IsTI w b → w'.heap[b]? = w.heap[b]?) : OwnTsB w' lo hi v n ts := by
  obtain ⟨vs, nd, h1, h2, h3, h4⟩ := h
  refine ⟨vs, nd, own_keepB h1 (fun b cs hb hc => hk b (h1.lt b hb).1 (h3 b hb) ⟨_, cs, .inr rfl, hc⟩), ⟨h2.1, fun j hj => ?_, h2.2.2⟩, h3, h4⟩
  obtain ⟨e1, e2, A, m, c, e3, e4⟩ := h2.2.1 j hj
  exact ⟨e1, e2, A, m, c, e3, own_keepB e4 (fun b cs hb hc => hk b (e4.lt b hb).1 (h4 j hj b (by rw [e3]; exact hb)) ⟨_, cs, .inl rfl, hc⟩)⟩
theorem OwnTsB.wide (h : OwnTsB w lo hi v n ts) (h1 : lo' ≤ lo) (h2 : hi ≤ hi') : OwnTsB w lo' hi' v n ts := by
  obtain ⟨vs, nd, e1, e2, e3, e4⟩ := h
  exact ⟨vs, nd, own_lo e1 h1, e2.down h1, fun b hb => by have := e3 b hb; omega, fun j hj b hb => by have := e4 j hj b hb; omega⟩

theorem NdUs.mono (h : NdUs w n vs tk f us) : ∀ i j, i ≤ j → j ≤ n → f i ≤ f j := by
  intro i j hij
  induction j with
  | zero => intro _; have : i = 0 := by omega
            subst this; exact Nat.le_refl _
  | succ j ih =>
    intro hjn
    by_cases e : i = j + 1
    · subst e; exact Nat.le_refl _
    · exact Nat.le_trans (ih (by omega) (by omega)) (h.2 j (by omega)).1
theorem NdUs.keep (h : NdUs w n vs tk f us) (hk : ∀ b, f 0 ≤ b → b < f n → IsTI w b → w'.heap[b]? = w.heap[b]?) : NdUs w' n vs tk f us := by
  refine ⟨h.1, fun j hj => ?_⟩
  obtain ⟨h0, h1, h2, A, m, c, h3, h4⟩ := h.2 j hj
  exact ⟨h0, h1, h2, A, m, c, h3, h4.keep (fun b hb1 hb2 hb3 => hk b (Nat.le_trans (h.mono 0 j (by omega) (by omega)) hb1) (Nat.lt_of_lt_of_le hb2 (h.mono (j + 1) n (by omega) (Nat.le_refl _))) hb3)⟩
def KeepTI (w w' : World) : Prop := ∀ b, IsTI w b → w'.heap[b]? = w.heap[b]?
theorem IsTI.lt {b : Nat} (h : IsTI w b) : b < w.heap.size := by obtain ⟨_, _, _, h⟩ := h; exact h.lt
theorem IsTI.keep {b : Nat} (h : IsTI w b) (hk : w'.heap[b]? = w.heap[b]?) : IsTI w' b := by obtain ⟨t, cs, ht, h⟩ := h; exact ⟨t, cs, ht, hk.trans h⟩
theorem KeepTI.refl (w : World) : KeepTI w w := fun _ _ => rfl
theorem KeepTI.trans {a b c : World} (h : KeepTI a b) (k : KeepTI b c) : KeepTI a c := fun g hg => (k g (hg.keep (h g hg))).trans (h g hg)
theorem KeepTI.up {a b : World} (h : Below a.heap.size a b) : KeepTI a b := fun g hg => h.block g hg.lt
theorem KeepTI.drew (a : World) : KeepTI a a.drew := fun _ _ => rfl
theorem IsTI.ne {b g : Nat} {t : TypeId} {cs : Array Value} (h : IsTI w b) (hb : Blk w g t cs) (h1 : t ≠ 3) (h2 : t ≠ 40) : b ≠ g := by
  rintro rfl
  obtain ⟨t', cs', ht, h⟩ := h
  unfold Blk at h hb
  rw [h] at hb
  injection hb with e
  injection e with _ e
  rcases ht with rfl | rfl
  · exact h1 e.symm
  · exact h2 e.symm
theorem KeepTI.set_ {a : World} {g : Nat} {t : TypeId} {cs : Array Value} (hb : Blk a g t cs) (h1 : t ≠ 3) (h2 : t ≠ 40) (i : Nat) (u : Value) : KeepTI a (a.setCell ⟨g, i, none⟩ u) := fun _ hg => Below.heap_setCell _ _ _ _ (hg.ne hb h1 h2)
theorem KeepTI.grown {a b : World} {base' s m : Nat} {t : TypeId} {r : Value} {xs : List Value} (ho : a.ownsRow base' t s r m xs) (hg : a.grownBy b r.ownBlock) (h1 : t ≠ 3) (h2 : t ≠ 40) : KeepTI a b := fun g hti => hg.block g hti.lt (fun e => by
  rcases ho.2 with ⟨rfl, _⟩ | ⟨g', cap, cur, rfl, _, hgg, _⟩
  · cases e
  · simp [Value.ownBlock] at e
    exact hti.ne (show Blk a g' t cur from hgg) h1 h2 e)
theorem NdUs.keepTI (h : NdUs w n vs tk f us) (hk : KeepTI w w') : NdUs w' n vs tk f us := h.keep (fun b _ _ hb => hk b hb)
theorem NdTs.keepTI {nd : Nat → Value} (h : NdTs w base n vs nd ts) (hk : KeepTI w w') : NdTs w' base n vs nd ts :=
  ⟨h.1, fun j hj => by
    obtain ⟨h1, h2, A, m, c, h3, h4⟩ := h.2.1 j hj
    exact ⟨h1, h2, A, m, c, h3, own_keepB h4 (fun b cs _ hc => hk b ⟨_, cs, .inl rfl, hc⟩)⟩, h.2.2⟩
theorem own_keepTI {xs : List Value} {s : Nat} {t : TypeId} (h : w.ownsRow base t s v n xs) (ht : t = 3 ∨ t = 40) (hk : KeepTI w w') : w'.ownsRow base t s v n xs := own_keepB h (fun b cs _ hc => hk b ⟨t, cs, ht, hc⟩)
theorem NdUs.nil (b : Nat) : NdUs w 0 [] (fun _ => .slice none 0 0) (fun _ => b) [] := ⟨rfl, fun j hj => by omega⟩
theorem NdUs.snoc {A : Option Addr} {m c : Nat} {op : Bool} (h : NdUs w n vs tk f us) (hl : vs.length = n * 2) (hx : OwnTsB w (f n) hi (.slice A m c) m ts) (hhi : f n ≤ hi) :
    NdUs w (n + 1) (vs ++ [.bool op, .slice A m c]) (fun j => if j = n then .slice A m c else tk j) (fun j => if j = n + 1 then hi else f j) (us ++ [(op, ts)]) := by
  have hus := h.1
  refine ⟨by simp [hus], fun j hj => ?_⟩
  by_cases e : j = n
  · subst e
    have g1 : (vs ++ [.bool op, .slice A m c])[j * 2]? = some (.bool op) := by rw [List.getElem?_append_right (by omega), hl, Nat.sub_self]; rfl
    have g2 : (vs ++ [.bool op, .slice A m c])[j * 2 + 1]? = some (.slice A m c) := by rw [List.getElem?_append_right (by omega), hl, show j * 2 + 1 - j * 2 = 1 by omega]; rfl
    have g3 : (us ++ [(op, ts)])[j]? = some (op, ts) := by rw [List.getElem?_append_right (by omega), hus, Nat.sub_self]; rfl
    dsimp only
    rw [g1, g2, g3, if_neg (by omega), if_pos rfl, if_pos rfl]
    exact ⟨hhi, rfl, rfl, A, m, c, rfl, hx⟩
  · obtain ⟨h0, h1, h2, A', m', c', h3, h4⟩ := h.2 j (by omega)
    dsimp only
    rw [if_neg e, if_neg (by omega), if_neg (by omega), List.getElem?_append_left (by omega), List.getElem?_append_left (by omega), List.getElem?_append_left (by omega)]
    exact ⟨h0, h1, h2, A', m', c', h3, h4⟩
def OwnC (w : World) (base : Nat) (v1 v2 : Value) (m1 m2 : Nat) (room : List Int) (us : List Un) : Prop :=
  w.ownsRow base 3 1 v1 m1 (room.map (Value.int .i64)) ∧ ∃ mid, (∀ b, v1.ownBlock = some b → b < mid) ∧ base ≤ mid ∧ OwnUs w mid v2 m2 us
theorem OwnUs.len {A : Option Addr} {c : Nat} (h : OwnUs w base (.slice A n c) n us) : us.length = n ∧ n ≤ c := by
  obtain ⟨vs, tk, f, h1, h2, _⟩ := h
  exact ⟨h2.1, own_cap' h1⟩
theorem OwnUs.rd {A : Option Addr} {c : Nat} (h : OwnUs w base (.slice A n c) n us) (hn : n ≤ 9223372036854775807) (hm : ∀ u ∈ us, u.2.length ≤ 9223372036854775807 ∧ ∀ t ∈ u.2, t.2.length ≤ 9223372036854775807) : RdN w w.heap.size A n us := by
  obtain ⟨vs, tk, f, h1, h2, _⟩ := h
  refine RdN.of_own h1 (B := w.heap.size) ⟨by rw [h1.1, h2.1], fun j hj => ?_⟩ (Nat.le_refl _) hn
  obtain ⟨_, e1, e2, A', m', c', e3, e4⟩ := h2.2 j (by rw [← h2.1]; exact hj)
  obtain ⟨vs', nd', o1, o2, _⟩ := e4
  have hu := hm (us[j]?.getD (false, [])) (by rw [List.getElem?_eq_getElem hj]; exact List.getElem_mem hj)
  have hl := o2.1
  refine ⟨A', m', c', e1, by rw [e2, e3], own_cap' o1, OwnTs.rd (base := f j) (c := c') ⟨vs', nd', o1, o2⟩ (by omega) hu.2⟩
end
end Go.Proofs.YtlcgbnmmbheleaaGreat

namespace Go.Proofs.YtlcgbnmmbheleaaGreat
open Go Go.Conc Go.RowKit Go.Conc.Lib Go.ConcR.Gen Go.ConcN.Gen
open Go.ConcN (WgLive PayAt)
open Go.ConcR (KK WgAt stA smA rd wr mk DC0)
set_option linter.unusedVariables false
set_option linter.unusedSimpArgs false

noncomputable def uBody : Code := Tryz.f22.body.getD .skip
noncomputable def uLB : Code := match uBody with | .seq _ (.seq _ (.seq _ (.seq (.seq _ (.block _ (.loop c))) _))) => c | _ => .skip
noncomputable def uTail : Code := match uBody with | .seq _ (.seq _ (.seq _ (.seq _ r))) => r | _ => .skip
noncomputable def uOps9 : Array Oper := match uTail with | .seq (.region _ ops _) _ => ops | _ => #[]
noncomputable def uT10 : Code := match uTail with | .seq _ r => r | _ => .skip
def bU : Frame := base 22

def uTH (K : Cw) (lv : Nat) (A2 : Option Addr) (n c2 i : Nat) (J : Nat → Value) : Array Value :=
  #[J 0, J 1, J 2, .pointer (some ⟨lv, 0, none⟩), .pointer (some ⟨K.Wg, 0, none⟩), J 5, J 6, J 7, J 8, J 9, J 10, J 11, .slice A2 n c2, .int .i64 n, .int .i64 i, J 15, J 16, J 17, J 18, J 19, J 20, J 21, J 22, J 23]
noncomputable def uHead (K : Cw) (lv : Nat) (A2 : Option Addr) (n c2 i : Nat) (J : Nat → Value) (cs : List Frame) : Goroutine := G (bU.at ⟨uTH K lv A2 n c2 i J, []⟩ [.code uLB, .inLoop uLB, .inBlock 0, .code uTail]) cs

structure FU (K : Cw) (W w : World) : Prop where
  rows : ∀ b, b < K.B → b ≠ K.Wg → b ≠ K.C → w.heap[b]? = W.heap[b]?
  size : K.B ≤ w.heap.size
theorem FU.rely {K : Cw} {O : Nat → Prop} {W w w' : World} (r : RS K O w w') (h : FU K W w) : FU K W w' := ⟨fun b h1 h2 h3 => (r.rows b (.inl ⟨h1, h2, h3⟩)).trans (h.rows b h1 h2 h3), Nat.le_trans h.size r.size⟩
structure FB (K : Cw) (W : World) (p1 p2 : Nat) (x : Value) (y z : Value) (w : World) : Prop where
  fu : FU K W w
  r1 : w.heap[p1]? = some (.cells #[x] 3)
  r2 : w.heap[p2]? = some (.cells #[y, z] 32)
theorem FB.rely {K : Cw} {W : World} {p1 p2 : Nat} {x y z : Value} {w w' : World} (r : RS K (two0 p1 p2) w w') (h : FB K W p1 p2 x y z w) : FB K W p1 p2 x y z w' :=
  ⟨h.fu.rely r, (r.rows p1 (.inr (.inl rfl))).trans h.r1, (r.rows p2 (.inr (.inr rfl))).trans h.r2⟩
section
variable {K : Cw} {O : Nat → Prop} {W w : World} {p1 p2 : Nat} {x y z : Value}
theorem FB.c1 (h : FB K W p1 p2 x y z w) : w.cell? ⟨p1, 0, none⟩ = some x ∧ w.frozen? ⟨p1, 0, none⟩ = false := ⟨by simp [World.cell?, h.r1], by simp [World.frozen?, h.r1]⟩
theorem FB.c2 (h : FB K W p1 p2 x y z w) : w.cell? ⟨p2, 0, none⟩ = some y ∧ w.cell? ⟨p2, 1, none⟩ = some z ∧ w.frozen? ⟨p2, 0, none⟩ = false ∧ w.frozen? ⟨p2, 1, none⟩ = false :=
  ⟨by simp [World.cell?, h.r2], by simp [World.cell?, h.r2], by simp [World.frozen?, h.r2], by simp [World.frozen?, h.r2]⟩
theorem FU.set (h : FU K W w) {a : Addr} (ha : K.B ≤ a.block) (x : Value) : FU K W (w.setCell a x) := ⟨fun b h1 h2 h3 => (Below.heap_setCell _ _ _ _ (by omega)).trans (h.rows b h1 h2 h3), by rw [World.size_setCell]; exact h.size⟩
theorem FB.set1 (h : FB K W p1 p2 x y z w) (h1 : K.B ≤ p1) (hne : p1 ≠ p2) (x' : Value) : FB K W p1 p2 x' y z (w.setCell ⟨p1, 0, none⟩ x') := by
  have hlt : p1 < w.heap.size := (Array.getElem?_eq_some_iff.1 h.r1).1
  refine ⟨h.fu.set h1 _, ?_, (Below.heap_setCell _ _ _ _ (fun e => hne e.symm)).trans h.r2⟩
  rw [setCell_put w _ _ h.r1]; simp [hlt]
theorem FB.set2 (h : FB K W p1 p2 x y z w) (h1 : K.B ≤ p2) (hne : p1 ≠ p2) (y' z' : Value) : FB K W p1 p2 x y' z' ((w.setCell ⟨p2, 0, none⟩ y').setCell ⟨p2, 1, none⟩ z') := by
  have hlt : p2 < w.heap.size := (Array.getElem?_eq_some_iff.1 h.r2).1
  have e1 : (w.setCell ⟨p2, 0, none⟩ y').heap[p2]? = some (.cells #[y', z] 32) := by rw [setCell_put w _ _ h.r2]; simp [hlt]
  refine ⟨(h.fu.set h1 _).set h1 _, ?_, ?_⟩
  · exact (Below.heap_setCell _ _ _ _ hne).trans ((Below.heap_setCell _ _ _ _ hne).trans h.r1)
  · rw [setCell_put _ _ _ e1]; simp [World.size_setCell, hlt]
theorem ds_set {a : Addr} {u : Value} (hO : O a.block) (hc : w.cell? a = some u) (x : Value) (h1 : ¬ K.S1 a.block) (h2 : a.block ≠ K.C) {es : Array Event} (hes : ∀ e ∈ es, e = ⟨.cell a, true, false⟩) : DS K O w (w.setCell a x) es :=
  ⟨⟨rfl, rfl, rfl, .setCell _ _ _ hc, fun b _ hn => Below.heap_setCell _ _ _ _ (fun e => hn (by rw [e]; exact hO))⟩, World.size_setCell _ _ _, fun e he => .inl ⟨a, true, hes e he, h1, h2, .inr hO⟩⟩
theorem DS.then {w' w'' : World} {es es' : Array Event} (h : DS K O w w' es) (k : DS K O w' w'' es') {fs : Array Event} (hf : ∀ e ∈ fs, e ∈ es ∨ e ∈ es') : DS K O w w'' fs :=
  ⟨h.mv.trans k.mv, k.size.trans h.size, fun e he => (hf e he).elim (h.evs e) (k.evs e)⟩
end

def StopS (P : Program) (K : Cw) (AnchW : Goroutine → World → Prop) : Nat → Goroutine → World → Prop
  | 0 => TKd P K AnchW
  | r + 1 => TAl1 P K (K.n - (r + 1)) (Spw P K AnchW r)
theorem spw_of {P : Program} {K : Cw} {AnchW : Goroutine → World → Prop} {r m : Nat} {g : Goroutine} {w : World} (h : Goes P true (RS K no0) (DS K no0) (StopS P K AnchW r) m g w) : Spw P K AnchW r g w := by
  cases r with
  | zero => exact ⟨m, h⟩
  | succ r => exact ⟨m, h⟩

section
variable {main : Bool} {b : Frame} {a : Act} {kk : List Item} {cs : List Frame} {w : World} {ops : Array Oper} {i : Nat} {rest : List Nat} {o : Oper}
theorem stepG_new {t : TypeId} {row : Array Value} (ho : ops[i]? = some o) (hw : Region.wanted o (yielded ops a.tmps) = true) (hk : b.kind ≠ .early) (hop : o.op = .alloc t)
    (hr : ∀ w : World, (Instr.alloc t true (.tuple #[])).run Tryz.prog w = .ok (.pointer (some ⟨w.heap.size, 0, none⟩)) (w.alloc (.cells row t))) (he : ∀ (w : World) (es : Array Event), (Instr.alloc t true (.tuple #[])).events Tryz.prog w es = es) :
    stepG Tryz.prog main (G (b.at a (.inRegion ops (i :: rest) :: kk)) cs) w = .go (G (b.at (a.put o.dst (.pointer (some ⟨w.heap.size, 0, none⟩))) (.inRegion ops rest :: kk)) cs) (w.alloc (.cells row t)) #[] := by
  have h1 : (execOp a.eval o).run Tryz.prog w = .ok (.value (.pointer (some ⟨w.heap.size, 0, none⟩))) (w.alloc (.cells row t)) := by
    unfold execOp
    simp only [hop]
    show (Sem.bind (Instr.alloc t true (.tuple #[])) _).run _ _ = _
    rw [Sem.run_bind', hr]
    rfl
  have h2 : (execOp a.eval o).events Tryz.prog w #[] = #[] := by
    unfold execOp
    simp only [hop]
    show (Sem.bind (Instr.alloc t true (.tuple #[])) _).events _ _ _ = _
    rw [Sem.events_bind', hr, he]
    rfl
  rw [stepG_value ho hw hk h1]
  unfold listed
  rw [h2, seen_none]
end
theorem new_int : (∀ w : World, (Instr.alloc 3 true (.tuple #[])).run Tryz.prog w = .ok (.pointer (some ⟨w.heap.size, 0, none⟩)) (w.alloc (.cells #[.int .i64 0] 3))) ∧ ∀ (w : World) (es : Array Event), (Instr.alloc 3 true (.tuple #[])).events Tryz.prog w es = es := ⟨fun _ => by kernel_rfl, fun _ _ => by kernel_rfl⟩
theorem new_unit : (∀ w : World, (Instr.alloc 32 true (.tuple #[])).run Tryz.prog w = .ok (.pointer (some ⟨w.heap.size, 0, none⟩)) (w.alloc (.cells #[.bool false, .slice none 0 0] 32))) ∧ ∀ (w : World) (es : Array Event), (Instr.alloc 32 true (.tuple #[])).events Tryz.prog w es = es := ⟨fun _ => by kernel_rfl, fun _ _ => by kernel_rfl⟩
end Go.Proofs.YtlcgbnmmbheleaaGreat
