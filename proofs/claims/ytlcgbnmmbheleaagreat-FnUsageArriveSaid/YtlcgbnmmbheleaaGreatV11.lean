/- Several texts in one. -/
import Derived.Test.YtlcgbnmmbheleaaGreatV9
namespace Go.Proofs.YtlcgbnmmbheleaaGreat
open Go.RowKit

theorem run_make_n {P : Program} (t e : TypeId) (i : TypeInfo) (z : Value) (ht : P.underlying t = some (.slice e)) (hi : P.info? e = some i) (hz : i.zero = some z)
    (n : Nat) (hbytes : i.bytes * n ≤ 281474976710656) (h63 : n ≤ 9223372036854775807) (w : World) :
    (Instr.makeSlice t (.int .i64 (n : Int)) (.int .i64 (n : Int))).run P w = .ok (.slice (some ⟨w.heap.size, 0, none⟩) n n) (w.alloc (.cells (madeCells z.cells (n * i.size)) e)) := by
  have hb : (i.bytes : Int) * (n : Int) ≤ 281474976710656 := by
    have h : ((i.bytes * n : Nat) : Int) ≤ 281474976710656 := by omega
    rwa [Int.natCast_mul] at h
  have hr := run_make (P := P) w t e i z ht hi hz .i64 .i64 n n (by omega) (by omega) hb (by omega)
  simp only [Int.toNat_natCast] at hr
  exact hr

def OwI (w : World) (lo g : Nat) (xs : List Int) : Prop := lo ≤ g ∧ Blk w g 3 (xs.map (Value.int .i64)).toArray

section
variable {w w' : World} {lo lo' g k : Nat} {xs : List Int} {ts : List Tk} {bs : List (List Tk)} {vs : List Value}

theorem OwI.keep (h : OwI w lo g xs) (hk : ∀ b, lo ≤ b → b < w.heap.size → w'.heap[b]? = w.heap[b]?) (hl : lo' ≤ lo) : OwI w' lo' g xs := ⟨by have := h.1; omega, (hk g h.1 h.2.lt).trans h.2⟩
theorem OwI.rd (h : OwI w lo g xs) (hn : xs.length ≤ 9223372036854775807) : RdI w w.heap.size (some ⟨g, 0, none⟩) xs.length xs := RdI.of_blk h.2 rfl hn
end

end Go.Proofs.YtlcgbnmmbheleaaGreat

namespace Go.Proofs.YtlcgbnmmbheleaaGreat
open Go.RowKit

end Go.Proofs.YtlcgbnmmbheleaaGreat

namespace Go.Proofs.YtlcgbnmmbheleaaGreat
open Go.RowKit

end Go.Proofs.YtlcgbnmmbheleaaGreat
