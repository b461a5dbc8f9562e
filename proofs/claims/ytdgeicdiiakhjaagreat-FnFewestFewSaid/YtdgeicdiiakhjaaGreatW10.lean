/- Several texts in one. -/
import Derived.Test.YtdgeicdiiakhjaaGreatW9
import Derived.Test.YtdgeicdiiakhjaaGreatW1
import Derived.Test.YtdgeicdiiakhjaaGreatW3
import Derived.Laws.OwnMore
namespace Go.Proofs.YtdgeicdiiakhjaaGreat
open Go Go.RowKit

theorem own_rdI {w : World} {base : Nat} {t : TypeId} {A : Option Addr} {n c : Nat} {xs : List Int} (h : w.ownsRow base t 1 (.slice A n c) n (xs.map (Value.int .i64))) (hn : n ≤ 9223372036854775807) : RdI w w.heap.size A n xs := by
  have hl : xs.length = n := by have := h.1; simpa using this
  refine ⟨hl, hn, fun hp => ?_⟩
  obtain ⟨g, cap, hv, _, hlt⟩ := h.form hp
  have hA : A = some ⟨g, 0, none⟩ := by injection hv
  subst hA
  refine ⟨g, 0, rfl, hlt, fun j hj => ?_⟩
  have e1 := h.cells (g := g) rfl j (.int .i64 (xs[j]?.getD 0)) (by rw [List.getElem?_map, List.getElem?_eq_getElem (by omega)]; rfl)
  rwa [addr_add] at e1
theorem own_len {w : World} {base : Nat} {t : TypeId} {A : Option Addr} {n c : Nat} {xs : List Int} (h : w.ownsRow base t 1 (.slice A n c) n (xs.map (Value.int .i64))) : xs.length = n := by have := h.1; simpa using this
end Go.Proofs.YtdgeicdiiakhjaaGreat

namespace Go.Proofs.YtdgeicdiiakhjaaGreat

/-- A node as plain data: whether it is open, and its tasks. -/
abbrev Un := Bool × List Tk
/-- One step of the sum. -/
def sumS (n b : Int) : Int := (31 * n + b) % 251
def sumF (xs : List Int) : Int := xs.foldl sumS 1
/-- ClusterSum. -/
def sumP (xs : List Int) : Int := if xs.all (inR 0 255) = true ∧ xs.length ≤ 200 then sumF xs else -1

theorem sumF_bd (xs : List Int) : ∀ n : Int, 0 ≤ n → n < 251 → 0 ≤ xs.foldl sumS n ∧ xs.foldl sumS n < 251 := by
  induction xs with
  | nil => intro n h0 h1; exact ⟨h0, h1⟩
  | cons b xs ih =>
    intro n h0 h1
    rw [List.foldl_cons]
    have g0 : 0 ≤ sumS n b := Int.emod_nonneg _ (by omega)
    have g1 : sumS n b < 251 := Int.emod_lt_of_pos _ (by omega)
    exact ih _ g0 g1
theorem sumF_range (xs : List Int) : 0 ≤ sumF xs ∧ sumF xs < 251 := sumF_bd xs 1 (by omega) (by omega)
theorem sumF_succ {xs : List Int} {k : Nat} (h : k < xs.length) : sumF (xs.take (k + 1)) = sumS (sumF (xs.take k)) (xs[k]?.getD 0) := by
  unfold sumF
  rw [List.take_succ_eq_append_getElem h, List.foldl_append, List.getElem?_eq_getElem h]
  rfl
theorem sumP_neg {xs : List Int} : sumP xs < 0 ↔ ¬ (xs.all (inR 0 255) = true ∧ xs.length ≤ 200) := by
  unfold sumP
  have := sumF_range xs
  split
  · rename_i h; exact ⟨fun hn => by omega, fun hn => absurd h hn⟩
  · rename_i h; exact ⟨fun _ => h, fun _ => by omega⟩
theorem sumP_ok {xs : List Int} (h : xs.all (inR 0 255) = true) (hl : xs.length ≤ 200) : sumP xs = sumF xs := by unfold sumP; rw [if_pos ⟨h, hl⟩]

/-- ClusterValid. -/
def clOk (room : List Int) (us : List Un) : Bool := decide (1 ≤ us.length ∧ us.length ≤ 10) && binsOk room (us.map (·.2)) && us.all (fun u => u.1 || u.2.isEmpty)

/-- The bytes of a task, of a node, of a cluster without the sum, of a cluster. -/
def encT (t : Tk) : List Int := t.1 :: t.2
def encU (u : Un) : List Int := (if u.1 then 1 else 0) :: (u.2.length : Int) :: u.2.flatMap encT
def encC (room : List Int) (us : List Un) : List Int := room ++ us.flatMap encU
def bytesP (room : List Int) (us : List Un) : List Int := encC room us ++ [sumP (encC room us)]

/-- c tasks, read from the place a on. -/
def tkAt (zs : List Int) : Nat → Nat → List Tk
  | _, 0 => []
  | a, c + 1 => (zs[a]?.getD 0, (zs.drop (a + 1)).take 3) :: tkAt zs (a + 4) c
theorem tkAt_len (zs : List Int) : ∀ c a, (tkAt zs a c).length = c
  | 0, _ => rfl
  | c + 1, a => by rw [tkAt, List.length_cons, tkAt_len zs c]
theorem tkAt_snoc (zs : List Int) : ∀ c a, tkAt zs a (c + 1) = tkAt zs a c ++ [(zs[a + 4 * c]?.getD 0, (zs.drop (a + 4 * c + 1)).take 3)]
  | 0, a => by simp [tkAt]
  | c + 1, a => by
    rw [tkAt, tkAt_snoc zs c (a + 4), tkAt, List.cons_append]
    have : a + 4 + 4 * c = a + 4 * (c + 1) := by omega
    rw [this]
theorem tkAt_enc : ∀ (ts : List Tk) (pre post : List Int), (∀ t ∈ ts, t.2.length = 3) → tkAt (pre ++ (ts.flatMap encT ++ post)) pre.length ts.length = ts
  | [], _, _, _ => rfl
  | t :: ts, pre, post, h => by
    have h3 := h t (by simp)
    rw [List.length_cons, tkAt]
    have e1 : pre ++ ((t :: ts).flatMap encT ++ post) = (pre ++ encT t) ++ (ts.flatMap encT ++ post) := by simp
    have e2 : pre.length + 4 = (pre ++ encT t).length := by simp [encT, h3]
    have e3 : (pre ++ ((t :: ts).flatMap encT ++ post))[pre.length]?.getD 0 = t.1 := by
      rw [List.getElem?_append_right (Nat.le_refl _)]; simp [encT]
    have e4 : ((pre ++ ((t :: ts).flatMap encT ++ post)).drop (pre.length + 1)).take 3 = t.2 := by
      have : pre ++ ((t :: ts).flatMap encT ++ post) = (pre ++ [t.1]) ++ (t.2 ++ (ts.flatMap encT ++ post)) := by simp [encT]
      rw [this, List.drop_left' (by simp), List.take_left' h3]
    rw [e3, e4, e1, e2, tkAt_enc ts _ _ (fun t ht => h t (by simp [ht]))]

/-! ### The program's reading -/
def ibyte (zs : List Int) (i : Nat) : Nat := (zs[i]?.getD 0).toNat
/-- A whole node stands at a place. -/
def unitB (ys : List Int) (a : Nat) : Bool := decide (a + 2 ≤ ys.length) && decide (ys[a]?.getD 0 ≤ 1) && decide (a + 2 + 4 * ibyte ys (a + 1) ≤ ys.length)
def unitV (ys : List Int) (a : Nat) : Un := (ys[a]?.getD 0 == 1, tkAt ys (a + 2) (ibyte ys (a + 1)))
def unitN (ys : List Int) (a : Nat) : Nat := a + 2 + 4 * ibyte ys (a + 1)
def unitsI (ys : List Int) : Nat → Nat → Option (List Un)
  | 0, _ => some []
  | f + 1, a => if a < ys.length then (if unitB ys a = true then (unitsI ys f (unitN ys a)).map (unitV ys a :: ·) else none) else some []
/-- ClusterFrom, as the program does it. -/
def fromI (zs : List Int) : Option (List Int × List Un) :=
  if sumP zs < 0 ∨ zs.length = 0 then none
  else if zs.dropLast.length < 3 then none
  else match unitsI zs.dropLast (zs.dropLast.length) 3 with
    | none => none
    | some us => if clOk (zs.dropLast.take 3) us = true ∧ bytesP (zs.dropLast.take 3) us = zs then some (zs.dropLast.take 3, us) else none

/-! ### The reference's reading -/
def goB (zs : List Int) (a k : Nat) : Bool := decide (a + 2 < zs.length) && decide (ibyte zs (a + 1) ≤ 14) && decide (a + 2 + 4 * ibyte zs (a + 1) < zs.length) && decide (k < 10)
def unitsS (zs : List Int) : Nat → Nat → Nat → List Un
  | 0, _, _ => []
  | f + 1, a, k => if goB zs a k = true then unitV zs a :: unitsS zs f (unitN zs a) (k + 1) else []
/-- ClusterFrom, as the reference does it. -/
def fromS (zs : List Int) : Option (List Int × List Un) :=
  if sumP zs < 0 ∨ zs.length < 4 then none
  else if clOk (zs.take 3) (unitsS zs zs.length 3 0) = true ∧ bytesP (zs.take 3) (unitsS zs zs.length 3 0) = zs then some (zs.take 3, unitsS zs zs.length 3 0) else none

/-! ### Both read what was written -/
theorem encU_at (u : Un) (pre post : List Int) : (pre ++ (encU u ++ post))[pre.length]?.getD 0 = (if u.1 then 1 else 0) := by
  rw [List.getElem?_append_right (Nat.le_refl _)]; simp [encU]
theorem encU_num (u : Un) (pre post : List Int) : ibyte (pre ++ (encU u ++ post)) (pre.length + 1) = u.2.length := by
  unfold ibyte
  rw [List.getElem?_append_right (by omega)]; simp [encU]
theorem encT_len {ts : List Tk} (h : ∀ t ∈ ts, t.2.length = 3) : (ts.flatMap encT).length = 4 * ts.length := by
  induction ts with
  | nil => rfl
  | cons t ts ih =>
    rw [List.flatMap_cons, List.length_append, ih (fun t ht => h t (by simp [ht])), List.length_cons, encT, List.length_cons, h t (by simp)]; omega
theorem encU_len {u : Un} (h : ∀ t ∈ u.2, t.2.length = 3) : (encU u).length = 2 + 4 * u.2.length := by
  rw [encU, List.length_cons, List.length_cons, encT_len h]; omega
theorem unitV_enc {u : Un} (h : ∀ t ∈ u.2, t.2.length = 3) (pre post : List Int) : unitV (pre ++ (encU u ++ post)) pre.length = u := by
  have e1 : pre ++ (encU u ++ post) = (pre ++ [if u.1 then 1 else 0, (u.2.length : Int)]) ++ (u.2.flatMap encT ++ post) := by simp [encU]
  unfold unitV
  rw [encU_at, encU_num]
  have e2 : pre.length + 2 = (pre ++ [if u.1 then 1 else 0, (u.2.length : Int)]).length := by simp
  rw [e1, e2, tkAt_enc _ _ _ h]
  obtain ⟨b, ts⟩ := u
  cases b <;> rfl
theorem unitN_enc {u : Un} (h : ∀ t ∈ u.2, t.2.length = 3) (pre post : List Int) : unitN (pre ++ (encU u ++ post)) pre.length = (pre ++ encU u).length := by
  unfold unitN
  rw [encU_num, List.length_append, encU_len h]; omega

theorem unitsI_enc : ∀ (us : List Un) (pre : List Int) (f : Nat), us.length ≤ f → (∀ u ∈ us, ∀ t ∈ u.2, t.2.length = 3) → unitsI (pre ++ us.flatMap encU) f pre.length = some us
  | [], pre, f, _, _ => by
    cases f with
    | zero => rfl
    | succ f => rw [unitsI, if_neg (by simp)]
  | u :: us, pre, 0, hf, _ => by simp at hf
  | u :: us, pre, f + 1, hf, h => by
    have hu := h u (by simp)
    have hl := encU_len hu
    rw [unitsI, List.flatMap_cons, if_pos (by simp; omega)]
    have hB : unitB (pre ++ (encU u ++ us.flatMap encU)) pre.length = true := by
      unfold unitB
      rw [encU_at, encU_num]
      simp only [List.length_append, hl, Bool.and_eq_true, decide_eq_true_eq]
      refine ⟨⟨by omega, by split <;> omega⟩, by omega⟩
    rw [if_pos hB, unitV_enc hu, unitN_enc hu, ← List.append_assoc, unitsI_enc us (pre ++ encU u) f (by simp at hf; omega) (fun u hu => h u (by simp [hu]))]
    rfl
theorem unitsS_enc : ∀ (us : List Un) (pre : List Int) (s : Int) (f k : Nat), us.length ≤ f → us.length + k ≤ 10 → (∀ u ∈ us, u.2.length ≤ 14 ∧ ∀ t ∈ u.2, t.2.length = 3) → unitsS (pre ++ (us.flatMap encU ++ [s])) f pre.length k = us
  | [], pre, s, f, k, _, _, _ => by
    cases f with
    | zero => rfl
    | succ f =>
      rw [unitsS, if_neg]
      simp [goB]
  | u :: us, pre, s, 0, k, hf, _, _ => by simp at hf
  | u :: us, pre, s, f + 1, k, hf, hk, h => by
    obtain ⟨h14, hu⟩ := h u (by simp)
    have hl := encU_len hu
    have e : pre ++ ((u :: us).flatMap encU ++ [s]) = pre ++ (encU u ++ (us.flatMap encU ++ [s])) := by simp
    rw [unitsS, e]
    have hB : goB (pre ++ (encU u ++ (us.flatMap encU ++ [s]))) pre.length k = true := by
      unfold goB
      rw [encU_num]
      simp only [List.length_append, hl, Bool.and_eq_true, decide_eq_true_eq, List.length_singleton]
      simp only [List.length_cons] at hk
      refine ⟨⟨⟨by omega, h14⟩, by omega⟩, by omega⟩
    rw [if_pos hB, unitV_enc hu, unitN_enc hu, ← List.append_assoc, unitsS_enc us (pre ++ encU u) s f (k + 1) (by simp at hf; omega) (by simp at hk; omega) (fun u hu => h u (by simp [hu]))]

theorem clOk_facts {room : List Int} {us : List Un} (h : clOk room us = true) : room.length = 3 ∧ 1 ≤ us.length ∧ us.length ≤ 10 ∧ (∀ u ∈ us, u.2.length ≤ 14 ∧ ∀ t ∈ u.2, t.2.length = 3) := by
  simp only [clOk, binsOk, tasksOk, Bool.and_eq_true, decide_eq_true_eq, List.all_eq_true] at h
  obtain ⟨⟨⟨h1, h2⟩, ⟨_, ⟨⟨⟨h3, h4⟩, h5⟩, h6⟩⟩, _⟩, _⟩ := h
  refine ⟨?_, h1, h2, fun u hu => ?_⟩
  · simp only [roomOk, Bool.and_eq_true] at h3
    exact vecOk_len h3.1
  · have hin : ∀ t ∈ u.2, t ∈ (us.map (·.2)).flatten := fun t ht => List.mem_flatten.2 ⟨u.2, List.mem_map.2 ⟨u, hu, rfl⟩, ht⟩
    refine ⟨?_, fun t ht => ?_⟩
    · have hs : u.2.length ≤ (us.map (·.2)).flatten.length := (List.sublist_flatten_of_mem (List.mem_map.2 ⟨u, hu, rfl⟩)).length_le
      omega
    · have := h5 t (hin t ht)
      simp only [taskOk, vecFits, Bool.and_eq_true] at this
      exact vecOk_len this.2.1.1

theorem bytesP_drop (room : List Int) (us : List Un) : (bytesP room us).dropLast = encC room us := by rw [bytesP, List.dropLast_concat]
theorem units_le {us : List Un} : us.length ≤ (us.flatMap encU).length := by
  induction us with
  | nil => simp
  | cons u us ih => rw [List.flatMap_cons, List.length_append, List.length_cons, encU]; simp only [List.length_cons]; omega
/-- Both return the same. -/
theorem from_eq (zs : List Int) : fromI zs = fromS zs := by
  have key : ∀ room us, clOk room us = true → bytesP room us = zs → ¬ sumP zs < 0 → fromI zs = some (room, us) ∧ fromS zs = some (room, us) := by
    intro room us hc hb hs
    obtain ⟨h3, h1, h10, hu⟩ := clOk_facts hc
    have hle := units_le (us := us)
    have hd : zs.dropLast = encC room us := by rw [← hb, bytesP_drop]
    have hlen : zs.length = (encC room us).length + 1 := by rw [← hb, bytesP]; simp
    have hel : (encC room us).length = 3 + (us.flatMap encU).length := by rw [encC, List.length_append, h3]
    have ht : (encC room us).take 3 = room := by rw [encC, List.take_left' h3]
    have ht' : zs.take 3 = room := by rw [← hb, bytesP, encC, List.append_assoc, List.take_left' h3]
    have eI := unitsI_enc us room ((encC room us).length) (by omega) (fun u hu' => (hu u hu').2)
    have eS := unitsS_enc us room (sumP (encC room us)) zs.length 0 (by omega) (by omega) hu
    rw [h3] at eI eS
    have e5 : room ++ (us.flatMap encU ++ [sumP (encC room us)]) = zs := by rw [← hb, bytesP, encC, List.append_assoc]
    rw [e5] at eS
    constructor
    · unfold fromI
      rw [if_neg (by omega), hd, if_neg (by omega), show unitsI (encC room us) (encC room us).length 3 = some us from eI]
      dsimp only
      rw [ht, if_pos ⟨hc, hb⟩]
    · unfold fromS
      rw [if_neg (by omega), eS, ht', if_pos ⟨hc, hb⟩]
  have iff : ∀ c, fromI zs = some c → fromS zs = some c := by
    intro c h
    have h0 := h
    unfold fromI at h
    split at h
    · cases h
    · rename_i hs
      split at h
      · cases h
      · split at h
        · cases h
        · split at h
          · rename_i hh
            injection h with h
            rw [← h]
            exact (key _ _ hh.1 hh.2 (by omega)).2
          · cases h
  cases hI : fromI zs with
  | some c => rw [iff c hI]
  | none =>
    cases hS : fromS zs with
    | none => rfl
    | some c =>
      have h := hS
      unfold fromS at h
      split at h
      · cases h
      · rename_i hs
        split at h
        · rename_i hh
          have := (key _ _ hh.1 hh.2 (by omega)).1
          rw [hI] at this; cases this
        · cases h
end Go.Proofs.YtdgeicdiiakhjaaGreat

namespace Go.Proofs.YtdgeicdiiakhjaaGreat
open Go Go.RowKit

/-- A slice of units. -/
def RdN (w : World) (B : Nat) (A : Option Addr) (n : Nat) (us : List Un) : Prop :=
  us.length = n ∧ n ≤ 9223372036854775807 ∧ (0 < n → ∃ b o, A = some ⟨b, o, none⟩ ∧ b < B ∧ ∀ j, j < n → ∃ A' m c,
    w.cell? ⟨b, o + j * 2, none⟩ = some (.bool (us[j]?.getD (false, [])).1) ∧ w.cell? ⟨b, o + j * 2 + 1, none⟩ = some (.slice A' m c) ∧ m ≤ c ∧
    RdT w B A' m (us[j]?.getD (false, [])).2)

section
variable {w w' : World} {B B' n k : Nat} {A : Option Addr} {us : List Un}
theorem RdN.len (h : RdN w B A n us) : us.length = n := h.1
theorem RdN.le (h : RdN w B A n us) : n ≤ 9223372036854775807 := h.2.1
theorem RdN.nil : RdN w B A 0 [] := ⟨rfl, by omega, fun h => absurd h (by omega)⟩
theorem RdN.at_ (h : RdN w B A n us) (hk : k < n) : ∃ b o A' m c, A = some ⟨b, o, none⟩ ∧ b < B ∧ w.cell? ⟨b, o + k * 2, none⟩ = some (.bool (us[k]?.getD (false, [])).1) ∧
    w.cell? ⟨b, o + k * 2 + 1, none⟩ = some (.slice A' m c) ∧ m ≤ c ∧ RdT w B A' m (us[k]?.getD (false, [])).2 := by
  obtain ⟨b, o, e, hb, hc⟩ := h.2.2 (by omega)
  obtain ⟨A', m, c, h1, h2, h3, h4⟩ := hc k hk
  exact ⟨b, o, A', m, c, e, hb, h1, h2, h3, h4⟩
theorem RdN.keep (h : RdN w B A n us) (hk : ∀ p : Addr, p.block < B → w'.cell? p = w.cell? p) (hB : B ≤ B') : RdN w' B' A n us :=
  ⟨h.1, h.2.1, fun hn => by
    obtain ⟨b, o, e, hb, hc⟩ := h.2.2 hn
    refine ⟨b, o, e, by omega, fun j hj => ?_⟩
    obtain ⟨A', m, c, h1, h2, h3, h4⟩ := hc j hj
    exact ⟨A', m, c, (hk ⟨b, o + j * 2, none⟩ hb).trans h1, (hk ⟨b, o + j * 2 + 1, none⟩ hb).trans h2, h3, h4.keep hk hB⟩⟩
theorem RdN.below (h : RdN w B A n us) (hb : Below B w w') : RdN w' B A n us := h.keep (fun _ hp => hb.cell hp) (Nat.le_refl _)
theorem RdN.more (h : RdN w B A n us) (hB : B ≤ B') : RdN w B' A n us := h.keep (fun _ _ => rfl) hB
theorem RdN.drewN (h : RdN w B A n us) (m : Nat) : RdN (w.drewN m) B A n us := h
theorem RdN.up (h : RdN w w.heap.size A n us) (hb : Below w.heap.size w w') : RdN w' w'.heap.size A n us := (h.below hb).more hb.size
end

/-- The cells of units, whose tasks lie below block B. -/
def UnCells (w : World) (B : Nat) (vs : List Value) (us : List Un) : Prop :=
  vs.length = us.length * 2 ∧ ∀ j, j < us.length → ∃ A' m c, vs[j * 2]? = some (.bool (us[j]?.getD (false, [])).1) ∧ vs[j * 2 + 1]? = some (.slice A' m c) ∧ m ≤ c ∧ RdT w B A' m (us[j]?.getD (false, [])).2

section
variable {w w' : World} {B B' : Nat} {vs vs' : List Value} {us us' : List Un}
theorem UnCells.nil : UnCells w B [] [] := ⟨rfl, fun j hj => by simp at hj⟩
theorem UnCells.keep (h : UnCells w B vs us) (hk : ∀ p : Addr, p.block < B → w'.cell? p = w.cell? p) (hB : B ≤ B') : UnCells w' B' vs us :=
  ⟨h.1, fun j hj => by obtain ⟨A', m, c, h1, h2, h3, h4⟩ := h.2 j hj; exact ⟨A', m, c, h1, h2, h3, h4.keep hk hB⟩⟩
theorem UnCells.one {A' : Option Addr} {m c : Nat} {b : Bool} {ts : List Tk} (h : RdT w B A' m ts) (hc : m ≤ c) : UnCells w B [.bool b, .slice A' m c] [(b, ts)] :=
  ⟨rfl, fun j hj => by
    simp at hj; subst hj
    exact ⟨A', m, c, rfl, rfl, hc, h⟩⟩
theorem UnCells.append (h : UnCells w B vs us) (h' : UnCells w B vs' us') : UnCells w B (vs ++ vs') (us ++ us') := by
  refine ⟨by simp [h.1, h'.1]; omega, fun j hj => ?_⟩
  by_cases hl : j < us.length
  · obtain ⟨A', m, c, h1, h2, h3, h4⟩ := h.2 j hl
    refine ⟨A', m, c, ?_, ?_, h3, ?_⟩
    · rw [List.getElem?_append_left (by have := h.1; omega), List.getElem?_append_left hl]; exact h1
    · rw [List.getElem?_append_left (by have := h.1; omega)]; exact h2
    · rw [List.getElem?_append_left hl]; exact h4
  · obtain ⟨A', m, c, h1, h2, h3, h4⟩ := h'.2 (j - us.length) (by simp at hj; omega)
    refine ⟨A', m, c, ?_, ?_, h3, ?_⟩
    · rw [List.getElem?_append_right (by have := h.1; omega), List.getElem?_append_right (by omega), show j * 2 - vs.length = (j - us.length) * 2 from by have := h.1; omega]; exact h1
    · rw [List.getElem?_append_right (by have := h.1; omega), show j * 2 + 1 - vs.length = (j - us.length) * 2 + 1 from by have := h.1; omega]; exact h2
    · rw [List.getElem?_append_right (by omega)]; exact h4
theorem UnCells.ones (h : UnCells w B vs us) : ∀ u ∈ vs, u.oneCell' = true := by
  intro u hu
  obtain ⟨i, hi, rfl⟩ := List.getElem_of_mem hu
  obtain ⟨A', m, c, h1, h2, _⟩ := h.2 (i / 2) (by have := h.1; omega)
  rcases Nat.mod_two_eq_zero_or_one i with e | e
  · rw [show i / 2 * 2 = i from by omega, List.getElem?_eq_getElem hi] at h1
    injection h1 with h1; rw [h1]; rfl
  · rw [show i / 2 * 2 + 1 = i from by omega, List.getElem?_eq_getElem hi] at h2
    injection h2 with h2; rw [h2]; rfl
/-- A row of units that the call owns reads. -/
theorem RdN.of_own {base : Nat} {e : TypeId} {A : Option Addr} {n c : Nat} (h : w.ownsRow base e 2 (.slice A n c) n vs) (ht : UnCells w B vs us) (hB : B ≤ w.heap.size) (hn : n ≤ 9223372036854775807) : RdN w w.heap.size A n us := by
  have hl : us.length = n := by have := h.1; have := ht.1; omega
  refine ⟨hl, hn, fun hp => ?_⟩
  obtain ⟨g, cap, hv, _, hlt⟩ := h.form hp
  have hA : A = some ⟨g, 0, none⟩ := by injection hv
  subst hA
  refine ⟨g, 0, rfl, hlt, fun j hj => ?_⟩
  obtain ⟨A', m, c', h1, h2, h3, h4⟩ := ht.2 j (by omega)
  have e1 := h.cells (g := g) rfl _ _ h1
  have e2 := h.cells (g := g) rfl _ _ h2
  rw [addr_add] at e1 e2
  exact ⟨A', m, c', e1, e2, h3, h4.more hB⟩
end

/-! ### Units of the call's own -/
/-- A row of tasks of the call's own, all in blocks from lo to hi. -/
def OwnTsB (w : World) (lo hi : Nat) (v : Value) (n : Nat) (ts : List Tk) : Prop := ∃ vs nd, w.ownsRow lo 43 2 v n vs ∧ NdTs w lo n vs nd ts ∧ (∀ b, v.ownBlock = some b → b < hi) ∧ (∀ j, j < n → ∀ b, (nd j).ownBlock = some b → b < hi)
/-- The cells of units, whose tasks are the call's own: unit j's lie from f j to f (j+1). -/
def NdUs (w : World) (n : Nat) (vs : List Value) (tk : Nat → Value) (f : Nat → Nat) (us : List Un) : Prop :=
  us.length = n ∧ (∀ j, j < n → f j ≤ f (j + 1) ∧ vs[j * 2]? = some (.bool (us[j]?.getD (false, [])).1) ∧ vs[j * 2 + 1]? = some (tk j) ∧
    ∃ A m c, tk j = .slice A m c ∧ OwnTsB w (f j) (f (j + 1)) (.slice A m c) m (us[j]?.getD (false, [])).2)
theorem own_lo {w : World} {base base' s n : Nat} {t : TypeId} {v : Value} {xs : List Value} (h : w.ownsRow base t s v n xs) (hb : base' ≤ base) : w.ownsRow base' t s v n xs :=
  ⟨h.1, h.2.imp (fun h => h) (fun ⟨g, cap, cur, a, b, c⟩ => ⟨g, cap, cur, a, by omega, c⟩)⟩
theorem own_up {w : World} {base base' s n : Nat} {t : TypeId} {v : Value} {xs : List Value} (h : w.ownsRow base t s v n xs) (hb : ∀ b, v.ownBlock = some b → base' ≤ b) : w.ownsRow base' t s v n xs :=
  ⟨h.1, h.2.imp (fun h => h) (fun ⟨g, cap, cur, a, b, c⟩ => ⟨g, cap, cur, a, hb g (by rw [a]; rfl), c⟩)⟩
section
variable {w w' : World} {lo lo' hi hi' base base' n : Nat} {v : Value} {vs : List Value} {tk : Nat → Value} {f : Nat → Nat} {ts : List Tk} {us : List Un}
theorem NdTs.down {nd : Nat → Value} (h : NdTs w base n vs nd ts) (hb : base' ≤ base) : NdTs w base' n vs nd ts :=
  ⟨h.1, fun j hj => by
    obtain ⟨h1, h2, A, m, c, h3, h4⟩ := h.2.1 j hj
    exact ⟨h1, h2, A, m, c, h3, own_lo h4 hb⟩, h.2.2⟩
theorem OwnTs.toB (h : OwnTs w base v n ts) : OwnTsB w base w.heap.size v n ts := by
  obtain ⟨vs, nd, h1, h2⟩ := h
  exact ⟨vs, nd, h1, h2, fun b hb => (h1.lt b hb).2, h2.old⟩
theorem OwnTsB.out (h : OwnTsB w lo hi v n ts) : OwnTs w lo v n ts := by
  obtain ⟨vs, nd, h1, h2, _⟩ := h
  exact ⟨vs, nd, h1, h2⟩
theorem own_keepB {s : Nat} {t : TypeId} {xs : List Value} (h : w.ownsRow base t s v n xs) (hk : ∀ b cs, v.ownBlock = some b → Blk w b t cs → w'.heap[b]? = w.heap[b]?) : w'.ownsRow base t s v n xs := by
  refine ⟨h.1, ?_⟩
  rcases h.2 with hn | ⟨g, cap, cur, rfl, hb, hgg, rest⟩
  · exact .inl hn
  · exact .inr ⟨g, cap, cur, rfl, hb, (hk g cur rfl hgg).trans hgg, rest⟩
/-- A block of integers or of tasks. -/
def IsTI (w : World) (b : Nat) : Prop := ∃ t cs, (t = 3 ∨ t = 43) ∧ Blk w b t cs
theorem OwnTsB.keep (h : OwnTsB w lo hi v n ts) (hk : ∀ b, lo ≤ b → b < hi → IsTI w b → w'.heap[b]? = w.heap[b]?) : OwnTsB w' lo hi v n ts := by
  obtain ⟨vs, nd, h1, h2, h3, h4⟩ := h
  refine ⟨vs, nd, own_keepB h1 (fun b cs hb hc => hk b (h1.lt b hb).1 (h3 b hb) ⟨_, cs, .inr rfl, hc⟩), ⟨h2.1, fun j hj => ?_, h2.2.2⟩, h3, h4⟩
  obtain ⟨e1, e2, A, m, c, e3, e4⟩ := h2.2.1 j hj
  exact ⟨e1, e2, A, m, c, e3, own_keepB e4 (fun b cs hb hc => hk b (e4.lt b hb).1 (h4 j hj b (by rw [e3]; exact hb)) ⟨_, cs, .inl rfl, hc⟩)⟩
theorem OwnTsB.wide (h : OwnTsB w lo hi v n ts) (h1 : lo' ≤ lo) (h2 : hi ≤ hi') : OwnTsB w lo' hi' v n ts := by
  obtain ⟨vs, nd, e1, e2, e3, e4⟩ := h
  exact ⟨vs, nd, own_lo e1 h1, e2.down h1, fun b hb => by have := e3 b hb; omega, fun j hj b hb => by have := e4 j hj b hb; omega⟩

theorem NdUs.mono (h : NdUs w n vs tk f us) : ∀ i j, i ≤ j → j ≤ n → f i ≤ f j := by
  intro i j hij
  induction j with
  | zero => intro _; have : i = 0 := by omega
            subst this; exact Nat.le_refl _
  | succ j ih =>
    intro hjn
    by_cases e : i = j + 1
    · subst e; exact Nat.le_refl _
    · exact Nat.le_trans (ih (by omega) (by omega)) (h.2 j (by omega)).1
theorem NdUs.keep (h : NdUs w n vs tk f us) (hk : ∀ b, f 0 ≤ b → b < f n → IsTI w b → w'.heap[b]? = w.heap[b]?) : NdUs w' n vs tk f us := by
  refine ⟨h.1, fun j hj => ?_⟩
  obtain ⟨h0, h1, h2, A, m, c, h3, h4⟩ := h.2 j hj
  exact ⟨h0, h1, h2, A, m, c, h3, h4.keep (fun b hb1 hb2 hb3 => hk b (Nat.le_trans (h.mono 0 j (by omega) (by omega)) hb1) (Nat.lt_of_lt_of_le hb2 (h.mono (j + 1) n (by omega) (Nat.le_refl _))) hb3)⟩
/-- A step that leaves blocks of integers and of tasks alone. -/
def KeepTI (w w' : World) : Prop := ∀ b, IsTI w b → w'.heap[b]? = w.heap[b]?
theorem IsTI.lt {b : Nat} (h : IsTI w b) : b < w.heap.size := by obtain ⟨_, _, _, h⟩ := h; exact h.lt
theorem IsTI.keep {b : Nat} (h : IsTI w b) (hk : w'.heap[b]? = w.heap[b]?) : IsTI w' b := by obtain ⟨t, cs, ht, h⟩ := h; exact ⟨t, cs, ht, hk.trans h⟩
theorem KeepTI.refl (w : World) : KeepTI w w := fun _ _ => rfl
theorem KeepTI.trans {a b c : World} (h : KeepTI a b) (k : KeepTI b c) : KeepTI a c := fun g hg => (k g (hg.keep (h g hg))).trans (h g hg)
theorem KeepTI.up {a b : World} (h : Below a.heap.size a b) : KeepTI a b := fun g hg => h.block g hg.lt
theorem KeepTI.drew (a : World) : KeepTI a a.drew := fun _ _ => rfl
theorem IsTI.ne {b g : Nat} {t : TypeId} {cs : Array Value} (h : IsTI w b) (hb : Blk w g t cs) (h1 : t ≠ 3) (h2 : t ≠ 43) : b ≠ g := by
  rintro rfl
  obtain ⟨t', cs', ht, h⟩ := h
  unfold Blk at h hb
  rw [h] at hb
  injection hb with e
  injection e with _ e
  rcases ht with rfl | rfl
  · exact h1 e.symm
  · exact h2 e.symm
theorem KeepTI.set_ {a : World} {g : Nat} {t : TypeId} {cs : Array Value} (hb : Blk a g t cs) (h1 : t ≠ 3) (h2 : t ≠ 43) (i : Nat) (u : Value) : KeepTI a (a.setCell ⟨g, i, none⟩ u) := fun _ hg => Below.heap_setCell _ _ _ _ (hg.ne hb h1 h2)
theorem KeepTI.grown {a b : World} {base' s m : Nat} {t : TypeId} {r : Value} {xs : List Value} (ho : a.ownsRow base' t s r m xs) (hg : a.grownBy b r.ownBlock) (h1 : t ≠ 3) (h2 : t ≠ 43) : KeepTI a b := fun g hti => hg.block g hti.lt (fun e => by
  rcases ho.2 with ⟨rfl, _⟩ | ⟨g', cap, cur, rfl, _, hgg, _⟩
  · cases e
  · simp [Value.ownBlock] at e
    exact hti.ne (show Blk a g' t cur from hgg) h1 h2 e)
theorem NdUs.keepTI (h : NdUs w n vs tk f us) (hk : KeepTI w w') : NdUs w' n vs tk f us := h.keep (fun b _ _ hb => hk b hb)
theorem NdTs.keepTI {nd : Nat → Value} (h : NdTs w base n vs nd ts) (hk : KeepTI w w') : NdTs w' base n vs nd ts :=
  ⟨h.1, fun j hj => by
    obtain ⟨h1, h2, A, m, c, h3, h4⟩ := h.2.1 j hj
    exact ⟨h1, h2, A, m, c, h3, own_keepB h4 (fun b cs _ hc => hk b ⟨_, cs, .inl rfl, hc⟩)⟩, h.2.2⟩
theorem own_keepTI {xs : List Value} {s : Nat} {t : TypeId} (h : w.ownsRow base t s v n xs) (ht : t = 3 ∨ t = 43) (hk : KeepTI w w') : w'.ownsRow base t s v n xs := own_keepB h (fun b cs _ hc => hk b ⟨t, cs, ht, hc⟩)
theorem NdUs.nil (b : Nat) : NdUs w 0 [] (fun _ => .slice none 0 0) (fun _ => b) [] := ⟨rfl, fun j hj => by omega⟩
/-- One unit more, whose tasks lie above all. -/
theorem NdUs.snoc {A : Option Addr} {m c : Nat} {op : Bool} (h : NdUs w n vs tk f us) (hl : vs.length = n * 2) (hx : OwnTsB w (f n) hi (.slice A m c) m ts) (hhi : f n ≤ hi) :
    NdUs w (n + 1) (vs ++ [.bool op, .slice A m c]) (fun j => if j = n then .slice A m c else tk j) (fun j => if j = n + 1 then hi else f j) (us ++ [(op, ts)]) := by
  have hus := h.1
  refine ⟨by simp [hus], fun j hj => ?_⟩
  by_cases e : j = n
  · subst e
    have g1 : (vs ++ [.bool op, .slice A m c])[j * 2]? = some (.bool op) := by rw [List.getElem?_append_right (by omega), hl, Nat.sub_self]; rfl
    have g2 : (vs ++ [.bool op, .slice A m c])[j * 2 + 1]? = some (.slice A m c) := by rw [List.getElem?_append_right (by omega), hl, show j * 2 + 1 - j * 2 = 1 by omega]; rfl
    have g3 : (us ++ [(op, ts)])[j]? = some (op, ts) := by rw [List.getElem?_append_right (by omega), hus, Nat.sub_self]; rfl
    dsimp only
    rw [g1, g2, g3, if_neg (by omega), if_pos rfl, if_pos rfl]
    exact ⟨hhi, rfl, rfl, A, m, c, rfl, hx⟩
  · obtain ⟨h0, h1, h2, A', m', c', h3, h4⟩ := h.2 j (by omega)
    dsimp only
    rw [if_neg e, if_neg (by omega), if_neg (by omega), List.getElem?_append_left (by omega), List.getElem?_append_left (by omega), List.getElem?_append_left (by omega)]
    exact ⟨h0, h1, h2, A', m', c', h3, h4⟩
end
end Go.Proofs.YtdgeicdiiakhjaaGreat

namespace Go.Proofs.YtdgeicdiiakhjaaGreat
open Go Go.RowKit

theorem own_blk_ne {w : World} {base s n g : Nat} {t t' : TypeId} {v : Value} {xs : List Value} {cs : Array Value} (h : w.ownsRow base t s v n xs) (hb : Blk w g t' cs) (ht : t ≠ t') : v.ownBlock ≠ some g := by
  intro e
  rcases h.2 with ⟨rfl, _⟩ | ⟨g', _, _, rfl, _, hg, _⟩
  · cases e
  · simp [Value.ownBlock] at e
    subst e
    unfold Blk at hb
    rw [hg] at hb
    injection hb with e
    injection e with _ e
    exact ht e
theorem own_src' {w : World} {base s n c : Nat} {e : TypeId} {A : Option Addr} {xs : List Value} (h : w.ownsRow base e s (.slice A n c) n xs) : Src w s A n xs := by
  refine ⟨h.1, fun hp => ?_⟩
  obtain ⟨g, cur, rfl, _, _⟩ := own_row h hp
  exact ⟨_, rfl, h.cells (g := g) rfl⟩
theorem own_le {w : World} {base s n c : Nat} {e : TypeId} {A : Option Addr} {xs : List Value} (h : w.ownsRow base e s (.slice A n c) n xs) : n ≤ 9223372036854775807 := by
  rcases h.2 with ⟨_, h0⟩ | ⟨g, cap, cur, he, _, _, h1, h2, _⟩
  · omega
  · unfold maxLen at h2; omega
theorem box_pair (t : TypeId) (w : World) (v0 v1 : Value) {w' : World} (hb : Below (w.heap.size + 1) (w.alloc (.cells #[v0, v1] t)) w') : w'.cell? ⟨w.heap.size, 0, none⟩ = some v0 ∧ w'.cell? ⟨w.heap.size, 1, none⟩ = some v1 := by
  constructor
  · rw [hb.cell (by simp)]; exact (Blk.new w _ _).cell 0
  · rw [hb.cell (by simp)]; exact (Blk.new w _ _).cell 1
theorem lit1 (w : World) (t : TypeId) (v : Value) : Src (w.alloc (.cells #[v] t)) 1 (some ⟨w.heap.size, 0, none⟩) 1 [v] :=
  ⟨rfl, fun _ => ⟨_, rfl, fun j u hu => by rw [addr_add, Nat.zero_add, (Blk.new w t #[v]).cell]; simpa using hu⟩⟩
theorem lit2 (w : World) (t : TypeId) (a b : Value) : Src (w.alloc (.cells #[a, b] t)) 2 (some ⟨w.heap.size, 0, none⟩) 1 [a, b] :=
  ⟨rfl, fun _ => ⟨_, rfl, fun j u hu => by rw [addr_add, Nat.zero_add, (Blk.new w t #[a, b]).cell]; simpa using hu⟩⟩
theorem one1 (v : Value) (h : v.oneCell' = true) : ∀ u ∈ [v], u.oneCell' = true := by simpa using h
theorem one2 (a b : Value) (h : a.oneCell' = true) (h' : b.oneCell' = true) : ∀ u ∈ [a, b], u.oneCell' = true := by simp [h, h']
theorem own_alloc {w : World} {base s n : Nat} {t : TypeId} {v : Value} {xs : List Value} (h : w.ownsRow base t s v n xs) (o : Obj) : (w.alloc o).ownsRow base t s v n xs := own_keep h (fun b hb => Below.heap_alloc _ _ _ (h.lt b hb).2)
theorem own_up' {w w' : World} {base s n : Nat} {t : TypeId} {v : Value} {xs : List Value} (h : w.ownsRow base t s v n xs) (hb : Below w.heap.size w w') : w'.ownsRow base t s v n xs := own_keep h (fun b hlt => hb.block b (h.lt b hlt).2)
/-- The cells of nodes. -/
def BnCells (w : World) (B : Nat) (vs : List Value) (bs : List (List Tk)) : Prop :=
  vs.length = bs.length ∧ ∀ j, j < bs.length → ∃ A' m c, vs[j]? = some (.slice A' m c) ∧ m ≤ c ∧ RdT w B A' m (bs[j]?.getD [])
theorem BnCells.nil {w : World} {B : Nat} : BnCells w B [] [] := ⟨rfl, fun j hj => by simp at hj⟩
theorem BnCells.keep {w w' : World} {B B' : Nat} {vs : List Value} {bs : List (List Tk)} (h : BnCells w B vs bs) (hk : ∀ p : Addr, p.block < B → w'.cell? p = w.cell? p) (hB : B ≤ B') : BnCells w' B' vs bs :=
  ⟨h.1, fun j hj => by obtain ⟨A', m, c, h1, h2, h3⟩ := h.2 j hj; exact ⟨A', m, c, h1, h2, h3.keep hk hB⟩⟩
theorem BnCells.snoc {w : World} {B : Nat} {vs : List Value} {bs : List (List Tk)} {A : Option Addr} {m c : Nat} {ts : List Tk} (h : BnCells w B vs bs) (hr : RdT w B A m ts) (hc : m ≤ c) : BnCells w B (vs ++ [.slice A m c]) (bs ++ [ts]) := by
  have hl := h.1
  refine ⟨by simp [hl], fun j hj => ?_⟩
  by_cases e : j < bs.length
  · obtain ⟨A', m', c', h1, h2, h3⟩ := h.2 j e
    exact ⟨A', m', c', by rw [List.getElem?_append_left (by omega)]; exact h1, h2, by rw [List.getElem?_append_left e]; exact h3⟩
  · have : j = bs.length := by simp at hj; omega
    subst this
    exact ⟨A, m, c, by rw [List.getElem?_append_right (by omega), hl, Nat.sub_self]; rfl, hc, by rw [List.getElem?_append_right (by omega), Nat.sub_self]; exact hr⟩
theorem RdB.of_own {w : World} {base B n c : Nat} {e : TypeId} {A : Option Addr} {vs : List Value} {bs : List (List Tk)} (h : w.ownsRow base e 1 (.slice A n c) n vs) (ht : BnCells w B vs bs) (hB : B ≤ w.heap.size) (hn : n ≤ 9223372036854775807) : RdB w w.heap.size A n bs := by
  have hl : bs.length = n := by have := h.1; have := ht.1; omega
  refine ⟨hl, hn, fun hp => ?_⟩
  obtain ⟨g, cap, hv, _, hlt⟩ := h.form hp
  have hA : A = some ⟨g, 0, none⟩ := by injection hv
  subst hA
  refine ⟨g, 0, rfl, hlt, fun j hj => ?_⟩
  obtain ⟨A', m, c', h1, h2, h3⟩ := ht.2 j (by omega)
  have e1 := h.cells (g := g) rfl _ _ h1
  rw [addr_add] at e1
  exact ⟨A', m, c', e1, h2, h3.more hB⟩
/-- What is read of a cluster. -/
structure RdC (w : World) (A1 A2 : Option Addr) (n1 n2 : Nat) (room : List Int) (us : List Un) : Prop where
  a : RdI w w.heap.size A1 n1 room
  b : RdN w w.heap.size A2 n2 us
theorem RdC.up {w w' : World} {A1 A2 : Option Addr} {n1 n2 : Nat} {room : List Int} {us : List Un} (h : RdC w A1 A2 n1 n2 room us) (hb : Below w.heap.size w w') : RdC w' A1 A2 n1 n2 room us := ⟨h.a.up hb, h.b.up hb⟩
/-- Short tasks. -/
def ShU (us : List Un) : Prop := us.length ≤ 1000 ∧ ∀ u ∈ us, u.2.length ≤ 1000 ∧ ∀ t ∈ u.2, t.2.length ≤ 1000
/-- Not too many units and tasks. -/
def ShV (us : List Un) : Prop := us.length ≤ 1048576 ∧ ((us.map (·.2)).flatten).length ≤ 1048576
theorem un_mem {us : List Un} {k : Nat} (hk : k < us.length) : us[k]?.getD (false, []) ∈ us := by rw [List.getElem?_eq_getElem hk]; exact List.getElem_mem hk
theorem tk_mem {ts : List Tk} {k : Nat} (hk : k < ts.length) : ts[k]?.getD (0, []) ∈ ts := by rw [List.getElem?_eq_getElem hk]; exact List.getElem_mem hk
theorem slice_info' : (Tryz.prog.info? 24).map (fun i => (i.zero, i.size, i.bytes)) = some (some (.slice none 0 0), 1, 24) := by kernel_rfl
end Go.Proofs.YtdgeicdiiakhjaaGreat
