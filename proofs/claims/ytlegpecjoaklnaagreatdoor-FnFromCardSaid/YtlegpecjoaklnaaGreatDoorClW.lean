/- Words for the draw of a cluster: its shape; the state between two steps. -/
import Derived.Test.YtlegpecjoaklnaaGreatDoorClDepart
import Derived.Test.YtlegpecjoaklnaaGreatDoorClOpen
import Derived.Test.YtlegpecjoaklnaaGreatDoorClCome
import Derived.Test.YtlegpecjoaklnaaGreatDoorClNew
import Derived.Test.YtlegpecjoaklnaaGreatDoorJ3
namespace Go.Proofs.YtlegpecjoaklnaaGreatDoor
open Go Go.RowKit

/-- A small cluster: no node without a room of three. -/
def Sh (B : Nat) (room : List Int) (us : List Un) : Prop := (room.length = 3 ∨ (room = [] ∧ us = [])) ∧ us.length ≤ 10 ∧ ∀ u ∈ us, u.2.length ≤ B ∧ ∀ t ∈ u.2, t.2.length ≤ 3
section
variable {room : List Int} {us : List Un} {B : Nat}
theorem Sh.empty : Sh B [] [] := ⟨.inr ⟨rfl, rfl⟩, by simp, fun u hu => by simp at hu⟩
theorem Sh.of_ok (h : clOk room us = true) : Sh 14 room us := by
  obtain ⟨f1, _, f3, f4⟩ := clOk_facts h
  exact ⟨.inl f1, f3, fun u hu => ⟨(f4 u hu).1, fun t ht => by rw [(f4 u hu).2 t ht]; omega⟩⟩
theorem Sh.more {B' : Nat} (h : Sh B room us) (hb : B ≤ B') : Sh B' room us := ⟨h.1, h.2.1, fun u hu => ⟨Nat.le_trans (h.2.2 u hu).1 hb, (h.2.2 u hu).2⟩⟩
theorem Sh.room_le (h : Sh B room us) : room.length ≤ 3 := by rcases h.1 with h | ⟨h, _⟩ <;> simp [h]
theorem Sh.shU (h : Sh B room us) (hb : B ≤ 1000) : ShU us := ⟨by have := h.2.1; omega, fun u hu => ⟨Nat.le_trans (h.2.2 u hu).1 hb, fun t ht => by have := (h.2.2 u hu).2 t ht; omega⟩⟩
theorem Sh.set_ {op : Bool} {T : List Tk} (h : Sh B room us) (k : Nat) (hT : T.length ≤ B ∧ ∀ t ∈ T, t.2.length ≤ 3) : Sh B room (us.set k (op, T)) := by
  refine ⟨?_, by rw [List.length_set]; exact h.2.1, fun u hu => ?_⟩
  · rcases h.1 with h | ⟨h, h'⟩
    · exact .inl h
    · exact .inr ⟨h, by rw [h']; rfl⟩
  · rcases List.mem_or_eq_of_mem_set hu with hu | rfl
    · exact h.2.2 u hu
    · exact hT
/-- The tasks of one unit. -/
theorem Sh.at_ (h : Sh B room us) (k : Nat) : (us[k]?.getD (false, [])).2.length ≤ B ∧ ∀ t ∈ (us[k]?.getD (false, [])).2, t.2.length ≤ 3 := by
  by_cases hk : k < us.length
  · exact h.2.2 _ (un_mem hk)
  · rw [List.getElem?_eq_none (by omega)]
    exact ⟨by simp, fun t ht => by simp at ht⟩
theorem depP_sh (room : List Int) (us : List Un) (id : Int) : Sh 15 (depP room us id).1 (depP room us id).2.1 := by
  cases hok : clOk room us with
  | false => rw [depP_bad hok]; exact Sh.empty
  | true =>
    have h0 := (Sh.of_ok hok).more (show 14 ≤ 15 by omega)
    rcases whereP_or (us.map (·.2)) id with hw | ⟨k, hw, hk⟩
    · rw [depP_none hok hw]; exact h0
    · rw [depP_yes hok hw]
      exact h0.set_ k ⟨Nat.le_trans (takeP_len _ _) (h0.at_ k).1, fun t ht => (h0.at_ k).2 t (takeP_mem ht)⟩
theorem opnP_sh (room : List Int) (us : List Un) (node : Int) (op : Bool) : Sh 15 (opnP room us node op).1 (opnP room us node op).2.1 := by
  unfold opnP
  split
  · rename_i hok
    have h0 := (Sh.of_ok hok).more (show 14 ≤ 15 by omega)
    split
    · split
      · exact h0
      · split
        · exact h0
        · exact h0.set_ _ (h0.at_ _)
    · exact h0
  · exact Sh.empty
theorem cavP_sh (room : List Int) (us : List Un) (id : Int) (xs : List Int) (g : Bool) : Sh 15 (cavP room us id xs g).1 (cavP room us id xs g).2.1 := by
  unfold cavP
  split
  · rename_i hok
    have h0 := Sh.of_ok hok
    have h1 := h0.more (show 14 ≤ 15 by omega)
    split
    · rename_i hv
      have hx := vecOk_len (tasksOk_vecs hv (id, xs) (List.mem_singleton.2 rfl))
      split
      · exact h1
      · unfold arvP
        split
        · exact h1
        · refine h1.set_ _ ⟨?_, fun t ht => ?_⟩
          · rw [List.length_append, List.length_singleton]; have := (h0.at_ (arvAt room us xs g).toNat).1; omega
          · rcases List.mem_append.1 ht with ht | ht
            · exact (h0.at_ _).2 t ht
            · rw [List.mem_singleton.1 ht]; exact Nat.le_of_eq hx
    · exact h1
  · exact Sh.empty
theorem newP_sh (room : List Int) (q : Int) : Sh 15 (newP room q).1 (newP room q).2 := by
  unfold newP
  split
  · rename_i h
    refine ⟨.inl (vecOk_len (roomOk_vec h.1)), ?_, fun u hu => ?_⟩
    · rw [List.length_replicate]; have := (inR_iff.1 h.2).2; have := (inR_iff.1 h.2).1; omega
    · rw [List.eq_of_mem_replicate hu]; exact ⟨by simp, fun t ht => by simp at ht⟩
  · exact Sh.empty
end

/-- The state between two steps of the draw: the cluster's box C, the result's box Z, the reader g. -/
structure ClW (w0 w : World) (g Z C q : Nat) (A1 : Option Addr) (m1 c1 : Nat) (A2 : Option Addr) (m2 c2 : Nat) (room : List Int) (us : List Un) : Prop where
  c : Blk w C 26 #[.slice A1 m1 c1, .slice A2 m2 c2]
  z : Blk w Z 26 #[.slice none 0 0, .slice none 0 0]
  oc : OwnCR w w0.heap.size (.slice A1 m1 c1) (.slice A2 m2 c2) m1 m2 room us
  o : OnlyG w0 w g
  r : Rdr w g q
  lc : w0.heap.size ≤ C
  lz : w0.heap.size ≤ Z
  ne : C ≠ Z
  lg : g < w0.heap.size
section
variable {w0 w w' : World} {g Z C q q' m1 c1 m2 c2 : Nat} {A1 A2 : Option Addr} {room : List Int} {us : List Un}
theorem keepTU_rdr (r : Rdr w g q) (o : OnlyG w w' g) : KeepTU w w' := by
  obtain ⟨A, n, c, hb, _⟩ := r
  exact keepTU_only o hb (by decide) (by decide) (by decide)
theorem ClW.only (h : ClW w0 w g Z C q A1 m1 c1 A2 m2 c2 room us) (o : OnlyG w w' g) (r : Rdr w' g q') : ClW w0 w' g Z C q' A1 m1 c1 A2 m2 c2 room us :=
  ⟨o.blk h.c (by have := h.lg; have := h.lc; omega), o.blk h.z (by have := h.lg; have := h.lz; omega), h.oc.keepTU (keepTU_rdr h.r o), h.o.trans o, r, h.lc, h.lz, h.ne, h.lg⟩
theorem ClW.below (h : ClW w0 w g Z C q A1 m1 c1 A2 m2 c2 room us) (b : Below w.heap.size w w') : ClW w0 w' g Z C q A1 m1 c1 A2 m2 c2 room us :=
  ⟨h.c.below b h.c.lt, h.z.below b h.z.lt, h.oc.keepTU (KeepTU.up b), h.o.below b, h.r.below b, h.lc, h.lz, h.ne, h.lg⟩
theorem ClW.drew (h : ClW w0 w g Z C q A1 m1 c1 A2 m2 c2 room us) : ClW w0 w.drew g Z C q A1 m1 c1 A2 m2 c2 room us :=
  ⟨h.c.drew, h.z.drew, h.oc.keepTU (fun _ _ => rfl), h.o.drew, h.r.keep (fun _ _ => rfl), h.lc, h.lz, h.ne, h.lg⟩
theorem ClW.put {m3 c3 m4 c4 : Nat} {A3 A4 : Option Addr} {room' : List Int} {us' : List Un} (h : ClW w0 w g Z C q A1 m1 c1 A2 m2 c2 room us) (oc : OwnCR w w0.heap.size (.slice A3 m3 c3) (.slice A4 m4 c4) m3 m4 room' us') :
    ClW w0 ((w.setCell ⟨C, 0, none⟩ (.slice A3 m3 c3)).setCell ⟨C, 1, none⟩ (.slice A4 m4 c4)) g Z C q A3 m3 c3 A4 m4 c4 room' us' := by
  have l1 := h.lc
  have l2 := h.lg
  have l3 := h.ne
  refine ⟨(h.c.set_ 0 (.slice A3 m3 c3)).set_ 1 (.slice A4 m4 c4), (h.z.far (p := ⟨C, 0, none⟩) (fun e => l3 e.symm) _).far (p := ⟨C, 1, none⟩) (fun e => l3 e.symm) _,
    oc.keepTU ((KeepTU.set_ h.c (by decide) (by decide) (by decide) 0 (.slice A3 m3 c3)).trans (KeepTU.set_ (h.c.set_ 0 (.slice A3 m3 c3)) (by decide) (by decide) (by decide) 1 (.slice A4 m4 c4))),
    (h.o.set_new (p := ⟨C, 0, none⟩) l1 _).set_new (p := ⟨C, 1, none⟩) l1 _, ?_, h.lc, h.lz, h.ne, h.lg⟩
  exact (h.r.keep (fun b hb => Below.heap_setCell _ _ _ _ (by show b ≠ C; omega))).keep (fun b hb => Below.heap_setCell _ _ _ _ (by show b ≠ C; omega))
theorem ClW.cells (h : ClW w0 w g Z C q A1 m1 c1 A2 m2 c2 room us) : w.cell? ⟨C, 0, none⟩ = some (.slice A1 m1 c1) ∧ w.cell? ⟨C, 1, none⟩ = some (.slice A2 m2 c2) ∧ w.frozen? ⟨C, 0, none⟩ = false ∧ w.frozen? ⟨C, 1, none⟩ = false :=
  ⟨h.c.cell 0, h.c.cell 1, h.c.frozen 0, h.c.frozen 1⟩
theorem ClW.len (h : ClW w0 w g Z C q A1 m1 c1 A2 m2 c2 room us) : room.length = m1 ∧ us.length = m2 ∧ m1 ≤ c1 ∧ m2 ≤ c2 := h.oc.len
/-- The row of units, its cells at one node. -/
theorem ClW.row {k : Nat} (h : ClW w0 w g Z C q A1 m1 c1 A2 m2 c2 room us) (hk : k < m2) : ∃ gu vs tk, A2 = some ⟨gu, 0, none⟩ ∧ w.ownsRow w0.heap.size 3 1 (.slice A1 m1 c1) m1 (room.map (Value.int .i64)) ∧
    w.ownsRow w0.heap.size 52 2 (.slice (some ⟨gu, 0, none⟩) m2 c2) m2 vs ∧ NdUR w w0.heap.size m2 vs tk us ∧ w0.heap.size ≤ gu ∧ gu < w.heap.size ∧ gu ≠ C ∧ gu ≠ Z ∧
    w.cell? ⟨gu, k * 2, none⟩ = some (.bool (us[k]?.getD (false, [])).1) ∧ w.cell? ⟨gu, k * 2 + 1, none⟩ = some (tk k) ∧ w.frozen? ⟨gu, k * 2, none⟩ = false ∧ w.frozen? ⟨gu, k * 2 + 1, none⟩ = false ∧ ∃ cs, Blk w gu 52 cs := by
  obtain ⟨hr, vs, tk, hU, hN⟩ := h.oc
  obtain ⟨gu, cap, hv, hgu1, hgu2⟩ := hU.form (by omega)
  injection hv with hv1 hv2 hv3
  subst hv1 hv3
  obtain ⟨e1, e2, _⟩ := hN.2.2.1 k hk
  have u1 := hU.cells (g := gu) rfl (k * 2) _ e1
  have u2 := hU.cells (g := gu) rfl (k * 2 + 1) _ e2
  rw [addr_add, Nat.zero_add] at u1 u2
  obtain ⟨_, curU, eU, _, hbU⟩ := own_row hU (by omega)
  injection eU with eU
  injection eU with eU
  subst eU
  exact ⟨gu, vs, tk, rfl, hr, hU, hN, hgu1, hgu2, fun e => own_blk_ne hU h.c (by decide) (by rw [← e]; rfl), fun e => own_blk_ne hU h.z (by decide) (by rw [← e]; rfl), u1, u2, hU.frozenAt _, hU.frozenAt _, curU, hbU⟩
/-- One cell of the units is set. -/
theorem ClW.setU {gu i : Nat} {v : Value} {vs : List Value} {tk : Nat → Value} {us' : List Un} {cs : Array Value} (hc : Blk w C 26 #[.slice A1 m1 c1, .slice (some ⟨gu, 0, none⟩) m2 c2]) (hz : Blk w Z 26 #[.slice none 0 0, .slice none 0 0]) (o : OnlyG w0 w g) (r : Rdr w g q) (lc : w0.heap.size ≤ C) (lz : w0.heap.size ≤ Z) (ne : C ≠ Z) (lg : g < w0.heap.size)
    (hbU : Blk w gu 52 cs) (hgu : w0.heap.size ≤ gu) (h1 : gu ≠ C) (h2 : gu ≠ Z) (hr : w.ownsRow w0.heap.size 3 1 (.slice A1 m1 c1) m1 (room.map (Value.int .i64))) (hU : w.ownsRow w0.heap.size 52 2 (.slice (some ⟨gu, 0, none⟩) m2 c2) m2 vs) (hN : NdUR w w0.heap.size m2 (vs.set i v) tk us') :
    ClW w0 (w.setCell ⟨gu, i, none⟩ v) g Z C q A1 m1 c1 (some ⟨gu, 0, none⟩) m2 c2 room us' := by
  have KT := KeepTI.set_ hbU (by decide) (by decide) i v
  exact ⟨hc.far (p := ⟨gu, i, none⟩) (fun e => h1 e.symm) _, hz.far (p := ⟨gu, i, none⟩) (fun e => h2 e.symm) _, ⟨own_keepTI hr (.inl rfl) KT, _, _, own_set hU i v, hN.keepTI KT⟩, o.set_new (p := ⟨gu, i, none⟩) hgu _, r.keep (fun b hb => Below.heap_setCell _ _ _ _ (by show b ≠ gu; omega)), lc, lz, ne, lg⟩
/-- A row of integers that is one block whole. -/
theorem OwI.own {lo b : Nat} {xs : List Int} (h : OwI w lo b xs) (hl : xs.length = 3) : w.ownsRow lo 3 1 (.slice (some ⟨b, 0, none⟩) 3 3) 3 (xs.map (Value.int .i64)) :=
  ⟨by simp [hl], .inr ⟨b, 3, (xs.map (Value.int .i64)).toArray, rfl, h.1, h.2, Nat.le_refl _, by unfold maxLen; omega, by simp [hl], by rw [List.take_of_length_le (by simp [hl])]⟩⟩
theorem RdI.drop1 {B b : Nat} {n : Nat} {xs : List Int} (h : RdI w B (some ⟨b, 0, none⟩) (n + 1) xs) : RdI w B (some ⟨b, 1, none⟩) n (xs.drop 1) := by
  refine ⟨by rw [List.length_drop, h.1]; omega, by have := h.2.1; omega, fun hn => ?_⟩
  obtain ⟨b', o, e, hb, hc⟩ := h.2.2 (by omega)
  injection e with e
  injection e with e1 e2 e3
  subst e1 e2
  refine ⟨b, 1, rfl, hb, fun j hj => ?_⟩
  have := hc (j + 1) (by omega)
  rw [List.getElem?_drop, show 1 + j = j + 1 by omega]
  rw [Nat.zero_add] at this
  exact this
end
end Go.Proofs.YtlegpecjoaklnaaGreatDoor
