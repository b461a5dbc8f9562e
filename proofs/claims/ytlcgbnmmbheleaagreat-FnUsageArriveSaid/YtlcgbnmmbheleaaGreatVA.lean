/- Several texts in one. -/
import Derived.Test.YtlcgbnmmbheleaaGreatClArrive
namespace Go.Proofs.YtlcgbnmmbheleaaGreat
set_option linter.unusedSimpArgs false
set_option linter.unusedVariables false
open Go Go.RowKit

section
variable {w w' : World} {base base' n : Nat} {v : Value} {vs : List Value} {bs : List (List Tk)} {ts : List Tk}
end
end Go.Proofs.YtlcgbnmmbheleaaGreat

namespace Go.Proofs.YtlcgbnmmbheleaaGreat
set_option linter.unusedSimpArgs false
set_option linter.unusedVariables false
open Go Go.RowKit

def hostC (l : Int) (A1 : Option Addr) (n1 c1 n : Nat) (vs : List Value) : Array Value := (Value.int .i32 l :: Value.int .u32 0 :: Value.slice A1 n1 c1 :: Value.int .i64 (n : Int) :: vs).toArray
section
variable {l l' : Int} {A1 : Option Addr} {n1 c1 n : Nat} {vs : List Value}
theorem hostC_unit (i : Nat) : (hostC l A1 n1 c1 n vs)[4 + i]? = vs[i]? := by
  unfold hostC
  rw [gT, show 4 + i = i + 1 + 1 + 1 + 1 by omega, gS, gS, gS, gS]
theorem hostC_lock : (hostC l A1 n1 c1 n vs).setIfInBounds 0 (.int .i32 l') = hostC l' A1 n1 c1 n vs := by
  unfold hostC; rw [pS]; rfl
theorem hostC_set (i : Nat) (v : Value) : (hostC l A1 n1 c1 n vs).setIfInBounds (4 + i) v = hostC l A1 n1 c1 n (vs.set i v) := by
  unfold hostC; rw [pS, show 4 + i = i + 1 + 1 + 1 + 1 by omega]; rfl
end

structure HostV (w : World) (hb : Nat) (A1 : Option Addr) (n1 c1 n : Nat) (room : List Int) (us : List Un) : Prop where
  c2 : w.cell? ⟨hb, 2, none⟩ = some (.slice A1 n1 c1)
  c3 : w.cell? ⟨hb, 3, none⟩ = some (.int .i64 (n : Int))
  lt : hb < w.heap.size
  rm : RdI w w.heap.size A1 n1 room
  un : RdN w w.heap.size (some ⟨hb, 4, none⟩) n us
theorem HostV.up {w w' : World} {hb : Nat} {A1 : Option Addr} {n1 c1 n : Nat} {room : List Int} {us : List Un} (h : HostV w hb A1 n1 c1 n room us) (k : Below w.heap.size w w') : HostV w' hb A1 n1 c1 n room us :=
  ⟨(k.cell (p := ⟨hb, 2, none⟩) h.lt).trans h.c2, (k.cell (p := ⟨hb, 3, none⟩) h.lt).trans h.c3, Nat.lt_of_lt_of_le h.lt k.size, h.rm.up k, h.un.up k⟩
structure HostP (w : World) (hb : Nat) (A1 : Option Addr) (n1 c1 n : Nat) (room : List Int) (us : List Un) : Prop where
  v : HostV w hb A1 n1 c1 n room us
  lock : w.cell? ⟨hb, 0, none⟩ = some (.int .i32 0)
  free : w.frozen? ⟨hb, 0, none⟩ = false
  bk : ∃ cs, Blk w hb 97 cs

structure HostX (w : World) (base hb : Nat) (l : Int) (A1 : Option Addr) (n1 c1 n : Nat) (room : List Int) (us : List Un) (vs zs : List Value) (tk : Nat → Value) : Prop where
  blk : Blk w hb 97 (hostC l A1 n1 c1 n (vs ++ zs))
  ge : base ≤ hb
  rm : w.ownsRow base 3 1 (.slice A1 n1 c1) n1 (room.map (Value.int .i64))
  un : NdUR w base n vs tk us
  n : n ≤ 10
def HostR (w : World) (base hb : Nat) (l : Int) (A1 : Option Addr) (n1 c1 n : Nat) (room : List Int) (us : List Un) : Prop := ∃ vs zs tk, HostX w base hb l A1 n1 c1 n room us vs zs tk

section
variable {w w' : World} {base base' hb n1 c1 n : Nat} {l l' : Int} {A1 : Option Addr} {room : List Int} {us : List Un} {vs zs : List Value} {tk : Nat → Value}
theorem HostX.cellU (h : HostX w base hb l A1 n1 c1 n room us vs zs tk) {i : Nat} (hi : i < n * 2) : w.cell? ⟨hb, 4 + i, none⟩ = vs[i]? := by
  rw [h.blk.cell, hostC_unit, List.getElem?_append_left (by rw [h.un.2.1]; exact hi)]
theorem HostX.rd (h : HostX w base hb l A1 n1 c1 n room us vs zs tk) : RdN w w.heap.size (some ⟨hb, 4, none⟩) n us := by
  refine ⟨h.un.1, by have := h.n; omega, fun _ => ⟨hb, 4, rfl, h.blk.lt, fun j hj => ?_⟩⟩
  obtain ⟨h1, h2, A, m, c, vt, h3, h4, h5⟩ := h.un.2.2.1 j hj
  exact ⟨A, m, c, by rw [h.cellU (by omega)]; exact h1, by rw [Nat.add_assoc, h.cellU (by omega), h2, h3], own_cap' h4, h5.rd h4⟩
theorem HostX.view (h : HostX w base hb l A1 n1 c1 n room us vs zs tk) : HostV w hb A1 n1 c1 n room us :=
  ⟨h.blk.cell 2, h.blk.cell 3, h.blk.lt, own_rdI h.rm (own_le h.rm), h.rd⟩
theorem HostX.post (h : HostX w base hb 0 A1 n1 c1 n room us vs zs tk) : HostP w hb A1 n1 c1 n room us := ⟨h.view, h.blk.cell 0, h.blk.frozen 0, _, h.blk⟩
theorem HostX.keep (h : HostX w base hb l A1 n1 c1 n room us vs zs tk) (hk : KeepTI w w') (hh : w'.heap[hb]? = w.heap[hb]?) : HostX w' base hb l A1 n1 c1 n room us vs zs tk :=
  ⟨hh.trans h.blk, h.ge, own_keepTI h.rm (.inl rfl) hk, h.un.keepTI hk, h.n⟩
theorem HostX.up (h : HostX w base hb l A1 n1 c1 n room us vs zs tk) (hk : Below w.heap.size w w') : HostX w' base hb l A1 n1 c1 n room us vs zs tk := h.keep (KeepTI.up hk) (hk.block _ h.blk.lt)
theorem HostX.setL (h : HostX w base hb l A1 n1 c1 n room us vs zs tk) : HostX (w.setCell ⟨hb, 0, none⟩ (.int .i32 l')) base hb l' A1 n1 c1 n room us vs zs tk := by
  have hk : KeepTI w (w.setCell ⟨hb, 0, none⟩ (.int .i32 l')) := KeepTI.set_ h.blk (by decide) (by decide) 0 _
  refine ⟨?_, h.ge, own_keepTI h.rm (.inl rfl) hk, h.un.keepTI hk, h.n⟩
  have := h.blk.set_ 0 (.int .i32 l')
  rwa [hostC_lock] at this
theorem HostX.setU (h : HostX w base hb l A1 n1 c1 n room us vs zs tk) {i : Nat} (hi : i < n * 2) (v : Value) {us' : List Un} {tk' : Nat → Value} (hu : NdUR w base n (vs.set i v) tk' us') :
    HostX (w.setCell ⟨hb, 4 + i, none⟩ v) base hb l A1 n1 c1 n room us' (vs.set i v) zs tk' := by
  have hk : KeepTI w (w.setCell ⟨hb, 4 + i, none⟩ v) := KeepTI.set_ h.blk (by decide) (by decide) _ _
  refine ⟨?_, h.ge, own_keepTI h.rm (.inl rfl) hk, hu.keepTI hk, h.n⟩
  have := h.blk.set_ (4 + i) v
  rwa [hostC_set, List.set_append_left i v (by rw [h.un.2.1]; exact hi)] at this
theorem HostX.lk (h : HostX w base hb l A1 n1 c1 n room us vs zs tk) : w.cell? ⟨hb, 0, none⟩ = some (.int .i32 l) ∧ w.frozen? ⟨hb, 0, none⟩ = false := ⟨h.blk.cell 0, h.blk.frozen 0⟩
end
end Go.Proofs.YtlcgbnmmbheleaaGreat
