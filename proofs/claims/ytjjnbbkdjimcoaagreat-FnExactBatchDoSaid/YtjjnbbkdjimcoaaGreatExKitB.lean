/- Words for the exact laws of batches: readings below a bound, an own cluster, what may be written; frames of the marks. (Printed by noreq.py.) -/
import Derived.Test.YtjjnbbkdjimcoaaGreatLawArgB
import Derived.Test.YtjjnbbkdjimcoaaGreatRqRows
import Derived.Test.YtjjnbbkdjimcoaaGreatDone
namespace Go.Proofs.YtjjnbbkdjimcoaaGreat
set_option linter.unusedSimpArgs false
set_option linter.unusedVariables false
open Go Go.RowKit

theorem smU_ok {room : List Int} {us : List Un} (h : clOk room us = true) : SmU us := by
  obtain ⟨f1, f2, f3, f4⟩ := clOk_facts h
  exact ⟨f3, fun u hu => ⟨by have := (f4 u hu).1; omega, fun t ht => by have := (f4 u hu).2 t ht; omega⟩⟩
theorem SmU.sh {us : List Un} (h : SmU us) : ShU us := ⟨by have := h.1; omega, fun u hu => ⟨by have := (h.2 u hu).1; omega, fun t ht => by have := (h.2 u hu).2 t ht; omega⟩⟩
theorem mkUL_short {us : List Un} (q : Int) (h : SmU us) (j : Nat) : ShU (mkUL q us j) := by
  refine ⟨by rw [mkUL_len]; have := h.1; omega, fun u hu => ?_⟩
  obtain ⟨i, hi, rfl⟩ := List.mem_iff_getElem.1 hu
  have hi' : i < us.length := by rwa [mkUL_len] at hi
  have := mkUL_at q us j i hi'
  rw [List.getElem?_eq_getElem hi, Option.getD_some] at this
  rw [this]
  have hb := un_getD h i
  split
  · rw [mkU]
    refine ⟨by rw [mkL_len]; omega, fun t ht => ?_⟩
    obtain ⟨k, hk, rfl⟩ := List.mem_iff_getElem.1 ht
    have hk' : k < (us[i]?.getD (false, [])).2.length := by rwa [mkL_len] at hk
    have e := mkL_at (posU q us i + 1) (us[i]?.getD (false, [])).2 (us[i]?.getD (false, [])).2.length k hk'
    rw [List.getElem?_eq_getElem hk, Option.getD_some] at e
    rw [e, if_pos hk', mkT, seqI_len]
    have := need_getD hb.2 k
    omega
  · exact ⟨by omega, fun t ht => by have := hb.2 t ht; omega⟩

/-- A cluster that reads below a bound. -/
structure RdW (w : World) (B : Nat) (A1 A2 : Option Addr) (n1 n2 : Nat) (room : List Int) (us : List Un) : Prop where
  a : RdI w B A1 n1 room
  b : RdN w B A2 n2 us
  le : B ≤ w.heap.size
/-- A cluster of the call's own, made from base on. -/
structure OwW (w : World) (base : Nat) (v1 v2 : Value) (m1 m2 : Nat) (room : List Int) (us : List Un) : Prop where
  o : OwnC w base v1 v2 m1 m2 room us
  le : base ≤ w.heap.size
section
variable {w w' : World} {B lo hi a b g n : Nat} {A1 A2 : Option Addr} {n1 n2 m1 m2 : Nat} {room : List Int} {us : List Un} {v1 v2 : Value}
theorem RdC.toW (h : RdC w A1 A2 n1 n2 room us) : RdW w w.heap.size A1 A2 n1 n2 room us := ⟨h.a, h.b, Nat.le_refl _⟩
theorem RdW.rd (h : RdW w B A1 A2 n1 n2 room us) : RdC w A1 A2 n1 n2 room us := ⟨h.a.more h.le, h.b.more h.le⟩
theorem RdW.low (h : RdW w B A1 A2 n1 n2 room us) (hb : Below B w w') : RdW w' B A1 A2 n1 n2 room us := ⟨h.a.below hb, h.b.below hb, by have := hb.size; have := h.le; omega⟩
theorem RdW.up (h : RdW w B A1 A2 n1 n2 room us) (hb : Below w.heap.size w w') : RdW w' B A1 A2 n1 n2 room us := h.low (hb.mono h.le)
theorem KeptOut.low (k : KeptOut w w' lo hi) (hl : B ≤ lo) (hs : B ≤ w.heap.size) : Below B w w' := ⟨k.os, k.tape, k.output, k.size, fun c hc => k.block c (by omega) (.inl (by omega))⟩
theorem RdW.ko (h : RdW w B A1 A2 n1 n2 room us) (k : KeptOut w w' lo hi) (hl : B ≤ lo) : RdW w' B A1 A2 n1 n2 room us := h.low (k.low hl h.le)
theorem OwnC.keepge {base : Nat} (h : OwnC w base v1 v2 m1 m2 room us) (hk : ∀ b, base ≤ b → b < w.heap.size → w'.heap[b]? = w.heap[b]?) : OwnC w' base v1 v2 m1 m2 room us := by
  obtain ⟨h1, md, h2, h3, h4⟩ := h
  exact ⟨own_keep h1 (fun b hb => hk b (h1.lt b hb).1 (h1.lt b hb).2), md, h2, h3, h4.keepge (fun b hb hlt => hk b (by omega) hlt)⟩
theorem OwW.up {base : Nat} (h : OwW w base v1 v2 m1 m2 room us) (hb : Below w.heap.size w w') : OwW w' base v1 v2 m1 m2 room us := ⟨h.o.keepTU (KeepTU.up hb), Nat.le_trans h.le hb.size⟩
theorem OwW.ko {base : Nat} (h : OwW w base v1 v2 m1 m2 room us) (k : KeptOut w w' lo hi) (hl : hi ≤ base) : OwW w' base v1 v2 m1 m2 room us := ⟨h.o.keepge (fun b hb hlt => k.block b hlt (.inr (by omega))), Nat.le_trans h.le k.size⟩
theorem SwI.up (h : SwI w lo hi g n) (hb : Below w.heap.size w w') : SwI w' lo hi g n := h.shp (Shp.of_keep (fun b hb' => hb.block b hb'))
theorem SwN.up (h : SwN w lo hi g n) (hb : Below w.heap.size w w') : SwN w' lo hi g n := h.shp (Shp.of_keep (fun b hb' => hb.block b hb'))
theorem SwI.ko (h : SwI w lo hi g n) (k : KeptOut w w' a b) (hl : b ≤ lo) : SwI w' lo hi g n := by
  obtain ⟨h1, h2, xs, h3, h4⟩ := h
  exact ⟨h1, h2, xs, h3, (k.block g h4.lt (.inr (by omega))).trans h4⟩
theorem SwT.up (h : SwT w lo hi g n) (hb : Below w.heap.size w w') : SwT w' lo hi g n := h.shp (Shp.of_keep (fun b hb' => hb.block b hb'))
theorem SwT.ko (h : SwT w lo hi g n) (k : KeptOut w w' a b) (hl : b ≤ lo) : SwT w' lo hi g n := by
  obtain ⟨h1, h2, vs, h3, h4, h5⟩ := h
  refine ⟨h1, h2, vs, (k.block g h3.lt (.inr (by omega))).trans h3, h4, fun j hj => ?_⟩
  obtain ⟨x, g', m, e1, e2, e3, e4⟩ := h5 j hj
  exact ⟨x, g', m, e1, e2, e3, e4.ko k hl⟩
theorem OwT.rd2 {ts : List Tk} (h : OwT w lo g ts) (hl : ts.length = n) (hn : n ≤ 9223372036854775807) : RdT w w.heap.size (some ⟨g, 0, none⟩) n ts := by
  subst hl; exact h.rd hn
theorem Blk.koLo {t : TypeId} {cs : Array Value} (h : Blk w g t cs) (k : KeptOut w w' lo hi) (hg : g < lo) : Blk w' g t cs := (k.block g h.lt (.inl hg)).trans h
theorem Blk.koHi {t : TypeId} {cs : Array Value} (h : Blk w g t cs) (k : KeptOut w w' lo hi) (hg : hi ≤ g) : Blk w' g t cs := (k.block g h.lt (.inr hg)).trans h
end
end Go.Proofs.YtjjnbbkdjimcoaaGreat
