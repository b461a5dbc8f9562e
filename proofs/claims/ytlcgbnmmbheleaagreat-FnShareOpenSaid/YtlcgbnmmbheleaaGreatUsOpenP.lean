/- FnShareOpen: the plain law; the law's drawn region, beside leavers, in any order. (The program of this text: gen_usopen.py.) -/
import Derived.Test.YtlcgbnmmbheleaaGreatVK
import Derived.Test.YtlcgbnmmbheleaaGreatVJ
namespace Go.Proofs.YtlcgbnmmbheleaaGreat
open Go Go.Conc Go.RowKit
set_option linter.unusedVariables false
set_option linter.unusedSimpArgs false

theorem un_closed {room : List Int} {us : List Un} (h : clOk room us = true) {k : Nat} (hk : k < us.length) (hc : (us[k]?.getD (false, [])).1 = false) : (us[k]?.getD (false, [])).2 = [] :=
  ((clOk_iff.1 h).2.2 _ (un_mem hk)).resolve_left (by rw [hc]; simp)
theorem opn_yes {room : List Int} {us : List Un} (h : clOk room us = true) {k : Nat} (hk : k < us.length) (hc : (us[k]?.getD (false, [])).1 = false) : opnP room us (k : Int) true = (room, us.set k (true, (us[k]?.getD (false, [])).2), 0) :=
  opnP_yes h (inR_iff.2 ⟨by omega, by omega⟩) (by rw [hc]; simp) (by rw [un_closed h hk hc]; simp)
theorem set_snd (us : List Un) (k j : Nat) (b : Bool) : ((us.set k (b, (us[k]?.getD (false, [])).2))[j]?.getD (false, [])).2 = (us[j]?.getD (false, [])).2 := by
  rw [List.getElem?_set]
  split
  · rename_i e
    subst e
    split
    · rfl
    · rename_i hl
      rw [List.getElem?_eq_none (by omega)]
  · rfl
theorem togTo_set (us : List Un) (k : Nat) (b : Bool) : ∀ j : Nat, togTo (us.set k (b, (us[k]?.getD (false, [])).2)) j = togTo us j
  | 0 => rfl
  | j + 1 => by
    unfold togTo
    rw [togTo_set us k b j, set_snd]
theorem openN_set : ∀ {us : List Un} {k : Nat} {x : List Tk}, k < us.length → (us[k]?.getD (false, [])).1 = false → openN (us.set k (true, x)) = openN us + 1
  | [], k, x, h, _ => by simp at h
  | u :: us, 0, x, _, h => by
    have h' : u.1 = false := by simpa using h
    simp [openN, h']
  | u :: us, k + 1, x, hk, h => by
    have ih := openN_set (us := us) (k := k) (x := x) (by simpa using hk) (by simpa using h)
    unfold openN at ih ⊢
    rw [pC, List.filter_cons, List.filter_cons]
    split
    · rw [List.length_cons, List.length_cons, ih]
    · exact ih
theorem openN_all {us : List Un} (h : ∀ j : Nat, j < us.length → (us[j]?.getD (false, [])).1 = true) : openN us = us.length := by
  unfold openN
  rw [List.filter_eq_self.2]
  intro u hu
  obtain ⟨j, hj, rfl⟩ := List.mem_iff_getElem.1 hu
  have := h j hj
  rwa [List.getElem?_eq_getElem hj] at this
theorem load_le {room : List Int} {us : List Un} (h : clOk room us = true) {k : Nat} (hk : k < 3) : ∀ j : Nat, j ≤ us.length → (togTo us j)[k]?.getD 0 ≤ room[k]?.getD 0 * j
  | 0, _ => by
    match k, hk with
    | 0, _ => simp [togTo]
    | 1, _ => simp [togTo]
    | 2, _ => simp [togTo]
  | j + 1, hj => by
    have ih := load_le h hk j (by omega)
    have hf : fits3 (loadP (us[j]?.getD (false, [])).2) room = true := by
      simp only [clOk, binsOk, Bool.and_eq_true, List.all_eq_true] at h
      exact h.1.2.2 _ (List.mem_map.2 ⟨_, un_mem (by omega), rfl⟩)
    have f0 := fits3_iff.1 hf k hk
    unfold togTo
    rw [add3_at hk, Int.natCast_add, Int.mul_add]
    omega
theorem share_some {room : List Int} {us : List Un} {dim : Int} (h : ¬ shareP room us dim < 1) : clOk room us = true ∧ openN us ≠ 0 ∧ ∃ k : Nat, k < 3 ∧ dim = (k : Int) ∧ shareP room us dim = (100 * (togTo us us.length)[k]?.getD 0) / (room[k]?.getD 0 * (openN us : Nat)) := by
  unfold shareP at h ⊢
  by_cases h1 : clOk room us = true ∧ inR 0 2 dim = true
  · rw [if_pos h1] at h ⊢
    by_cases h2 : openN us = 0
    · rw [if_pos h2] at h; omega
    · rw [if_neg h2] at h ⊢
      obtain ⟨m0, m1⟩ := inR_iff.1 h1.2
      obtain ⟨k, rfl⟩ := Int.eq_ofNat_of_zero_le m0
      exact ⟨h1.1, h2, k, by omega, rfl, by rw [Int.toNat_natCast]⟩
  · rw [if_neg h1] at h; omega
theorem div_le_div {a b c : Int} (ha : 0 ≤ a) (hb : 0 < b) (hbc : b ≤ c) : a / c ≤ a / b := by
  have hq : 0 ≤ a / c := Int.ediv_nonneg ha (by omega)
  refine Int.le_ediv_of_mul_le hb ?_
  exact Int.le_trans (Int.mul_le_mul_of_nonneg_left hbc hq) (Int.ediv_mul_le a (by omega))
theorem share_open {room : List Int} {us : List Un} {dim : Int} (h : ¬ shareP room us dim < 1) {k : Nat} (hk : k < us.length) (hc : (us[k]?.getD (false, [])).1 = false) :
    shareP room (us.set k (true, (us[k]?.getD (false, [])).2)) dim ≤ shareP room us dim := by
  obtain ⟨hok, h0, d, hd, rfl, e⟩ := share_some h
  have hok' : clOk room (us.set k (true, (us[k]?.getD (false, [])).2)) = true := by
    have := (opn_facts (node := (k : Int)) (op := true) hok).2.1
    rwa [opn_yes hok hk hc] at this
  have hn := openN_set (x := (us[k]?.getD (false, [])).2) hk hc
  have hr := (room_pos hok hd).1
  have ht := (togTo_bd hok d us.length).1
  rw [e]
  unfold shareP
  rw [if_pos ⟨hok', inR_iff.2 ⟨by omega, by omega⟩⟩, hn, if_neg (by omega), Int.toNat_natCast, List.length_set, togTo_set]
  refine div_le_div (by omega) (Int.mul_pos (by omega) (by omega)) (Int.mul_le_mul_of_nonneg_left (by omega) (by omega))
theorem share_all {room : List Int} {us : List Un} {dim : Int} (h : ¬ shareP room us dim < 1) (ha : ∀ j : Nat, j < us.length → (us[j]?.getD (false, [])).1 = true) : shareP room us dim ≤ 100 := by
  obtain ⟨hok, h0, d, hd, rfl, e⟩ := share_some h
  have hn := openN_all ha
  have hr := (room_pos hok hd).1
  have hl := load_le hok hd us.length (Nat.le_refl _)
  rw [e, hn]
  have hp : 0 < room[d]?.getD 0 * (us.length : Int) := Int.mul_pos (by omega) (by omega)
  have : (100 * (togTo us us.length)[d]?.getD 0) / (room[d]?.getD 0 * (us.length : Int)) < 101 := Int.ediv_lt_of_lt_mul hp (by omega)
  omega

noncomputable def soBody : Code := Tryz.f3.body.getD .skip
noncomputable def soLoop : Code := match soBody with | .seq _ (.seq _ (.seq _ (.seq _ (.seq _ (.seq _ (.seq (.seq _ (.block _ (.loop l))) _)))))) => l | _ => .skip
noncomputable def soOps : Array Oper := match soLoop with | .seq _ (.seq (.block _ (.seq _ (.cond _ (.seq _ (.seq (.region _ ops _) _)) _))) _) => ops | _ => #[]
def soF : Frame := base 3
theorem fewSo : soF.kind ≠ .early := by decide
def soA (A A1 A2 A3 A4 : Option Addr) (n c n1 c1 n2 c2 c3 c4 gc gx : Nat) (dim out : Int) (y7 y34 y35 y36 y37 y38 y39 y40 y41 y42 y43 y44 y45 y46 y47 y48 y49 y50 y51 y52 y53 y2 y54 y55 y56 y57 y58 y59 y60 y61 y62 y63 y64 y65 y66 y67 y68 y69 : Value) : Act := ⟨#[.slice A n c, undef, y2, .pointer (some ⟨gc, 0, none⟩), .int .i64 dim, .int .i64 out, .int .i64 out, y7, .pointer (some ⟨gx, 0, none⟩), .int .i64 0, .slice A n c, .int .i64 n, .bool false, .tuple #[.agg #[.slice A1 n1 c1, .slice A2 n2 c2], .int .i64 dim], .slice A n c, .tuple #[.agg #[.slice A1 n1 c1, .slice A2 n2 c2], .int .i64 dim], .agg #[.slice A1 n1 c1, .slice A2 n2 c2], .int .i64 dim, .agg #[.slice A1 n1 c1, .slice A2 n2 c2], .int .i64 dim, .int .i64 out, .agg #[.slice A1 n1 c1, .slice A2 n2 c2], .int .i64 dim, .int .i64 out, .int .i64 out, .int .i64 out, .bool false, .bool false, .int .i64 out, .bool false, .bool false, undef, undef, undef, y34, y35, y36, y37, y38, y39, y40, y41, y42, y43, y44, y45, y46, y47, y48, y49, y50, y51, y52, y53, y54, y55, y56, y57, y58, y59, y60, y61, y62, y63, y64, y65, y66, y67, y68, y69, undef, undef], []⟩
structure FZ (A1 A2 A3 A4 : Option Addr) (n1 c1 n2 c2 c3 c4 gc gx : Nat) (room : List Int) (us us' : List Un) (v0 v : World) : Prop where
  cl : RdC v A1 A2 n1 n2 room us
  cx : RdC v A3 A4 n1 n2 room us'
  box : Blk v gc 26 #[.slice A1 n1 c1, .slice A2 n2 c2]
  bx : Blk v gx 26 #[.slice A3 n1 c3, .slice A4 n2 c4]
  gr : GR v0 v
structure NZ (room : List Int) (us us' : List Un) (dim out s : Int) : Prop where
  hok : clOk room us = true
  hok' : clOk room us' = true
  hs : shareP room us' dim = s
  le : s ≤ out
  tog : togTo us' us'.length = togTo us us.length
theorem FZ.go {A1 A2 A3 A4 : Option Addr} {n1 c1 n2 c2 c3 c4 gc gx : Nat} {room : List Int} {us us' : List Un} {v0 v v' : World} (h : FZ A1 A2 A3 A4 n1 c1 n2 c2 c3 c4 gc gx room us us' v0 v) (r : GR v v') : FZ A1 A2 A3 A4 n1 c1 n2 c2 c3 c4 gc gx room us us' v0 v' :=
  ⟨h.cl.gr r, h.cx.gr r, h.box.grr r, h.bx.grr r, h.gr.trans r⟩
theorem FZ.same {A1 A2 A3 A4 : Option Addr} {n1 c1 n2 c2 c3 c4 gc gx : Nat} {room : List Int} {us us' : List Un} {v0 v v' : World} (h : FZ A1 A2 A3 A4 n1 c1 n2 c2 c3 c4 gc gx room us us' v0 v) (e : SameHeap v' v) : FZ A1 A2 A3 A4 n1 c1 n2 c2 c3 c4 gc gx room us us' v0 v' :=
  ⟨h.cl.same e.heap, h.cx.same e.heap, ViewOf_cells_of h.box e.heap, ViewOf_cells_of h.bx e.heap, h.gr.same e⟩

section
variable {H : Nat → Prop} {Tgt : Goroutine → World → Prop} {v0 v : World} {A A1 A2 A3 A4 : Option Addr} {n c n1 c1 n2 c2 c3 c4 gc gx : Nat} {dim out s : Int} {room : List Int} {us us' : List Un} {y7 y34 y35 y36 y37 y38 y39 y40 y41 y42 y43 y44 y45 y46 y47 y48 y49 y50 y51 y52 y53 : Value} {kk : List Item} {cs : List Frame} {rest : List Nat}
set_option maxRecDepth 100000 in
theorem so_0 {y2 y54 y55 y56 y57 y58 y59 y60 y61 y62 y63 y64 y65 y66 y67 y68 y69 : Value} (hF : FZ A1 A2 A3 A4 n1 c1 n2 c2 c3 c4 gc gx room us us' v0 v) (hN : NZ room us us' dim out s) (next : KV Tryz.prog H Tgt (G (soF.at (soA A A1 A2 A3 A4 n c n1 c1 n2 c2 c3 c4 gc gx dim out y7 y34 y35 y36 y37 y38 y39 y40 y41 y42 y43 y44 y45 y46 y47 y48 y49 y50 y51 y52 y53 y2 (.int .i64 0) y55 y56 y57 y58 y59 y60 y61 y62 y63 y64 y65 y66 y67 y68 y69) (.inRegion soOps (rest) :: kk)) cs) v) :
    KV Tryz.prog H Tgt (G (soF.at (soA A A1 A2 A3 A4 n c n1 c1 n2 c2 c3 c4 gc gx dim out y7 y34 y35 y36 y37 y38 y39 y40 y41 y42 y43 y44 y45 y46 y47 y48 y49 y50 y51 y52 y53 y2 y54 y55 y56 y57 y58 y59 y60 y61 y62 y63 y64 y65 y66 y67 y68 y69) (.inRegion soOps (0 :: rest) :: kk)) cs) v := by
  simp only [soA, soOps, soLoop, soBody, Tryz.f3, Option.getD_some] at next ⊢
  refine KV.op anaA_good rfl (by rfl) fewSo (by kernel_rfl) (fun t => anaA.noTr_spec (by kernel_rfl) t) (fun v₁ hs K' hK' => ?_)
  go_simp
  refine hK' _ _ ?_
  try walk_nrm
  exact KV.heap next ⟨hs.heap.symm, hs.os.symm, hs.output.symm⟩
set_option maxRecDepth 100000 in
theorem so_1 {y2 y55 y56 y57 y58 y59 y60 y61 y62 y63 y64 y65 y66 y67 y68 y69 : Value} (hF : FZ A1 A2 A3 A4 n1 c1 n2 c2 c3 c4 gc gx room us us' v0 v) (hN : NZ room us us' dim out s) (next : KV Tryz.prog H Tgt (G (soF.at (soA A A1 A2 A3 A4 n c n1 c1 n2 c2 c3 c4 gc gx dim out y7 y34 y35 y36 y37 y38 y39 y40 y41 y42 y43 y44 y45 y46 y47 y48 y49 y50 y51 y52 y53 y2 (.int .i64 0) (.bool true) y56 y57 y58 y59 y60 y61 y62 y63 y64 y65 y66 y67 y68 y69) (.inRegion soOps (rest) :: kk)) cs) v) :
    KV Tryz.prog H Tgt (G (soF.at (soA A A1 A2 A3 A4 n c n1 c1 n2 c2 c3 c4 gc gx dim out y7 y34 y35 y36 y37 y38 y39 y40 y41 y42 y43 y44 y45 y46 y47 y48 y49 y50 y51 y52 y53 y2 (.int .i64 0) y55 y56 y57 y58 y59 y60 y61 y62 y63 y64 y65 y66 y67 y68 y69) (.inRegion soOps (1 :: rest) :: kk)) cs) v := by
  simp only [soA, soOps, soLoop, soBody, Tryz.f3, Option.getD_some] at next ⊢
  refine KV.op anaA_good rfl (by rfl) fewSo (by kernel_rfl) (fun t => anaA.noTr_spec (by kernel_rfl) t) (fun v₁ hs K' hK' => ?_)
  go_simp
  refine hK' _ _ ?_
  try walk_nrm
  exact KV.heap next ⟨hs.heap.symm, hs.os.symm, hs.output.symm⟩
set_option maxRecDepth 100000 in
theorem so_2 {y2 y54 y56 y57 y58 y59 y60 y61 y62 y63 y64 y65 y66 y67 y68 y69 : Value} (hF : FZ A1 A2 A3 A4 n1 c1 n2 c2 c3 c4 gc gx room us us' v0 v) (hN : NZ room us us' dim out s) (next : KV Tryz.prog H Tgt (G (soF.at (soA A A1 A2 A3 A4 n c n1 c1 n2 c2 c3 c4 gc gx dim out y7 y34 y35 y36 y37 y38 y39 y40 y41 y42 y43 y44 y45 y46 y47 y48 y49 y50 y51 y52 y53 y2 y54 (.bool true) (.bool true) y57 y58 y59 y60 y61 y62 y63 y64 y65 y66 y67 y68 y69) (.inRegion soOps (rest) :: kk)) cs) v) :
    KV Tryz.prog H Tgt (G (soF.at (soA A A1 A2 A3 A4 n c n1 c1 n2 c2 c3 c4 gc gx dim out y7 y34 y35 y36 y37 y38 y39 y40 y41 y42 y43 y44 y45 y46 y47 y48 y49 y50 y51 y52 y53 y2 y54 (.bool true) y56 y57 y58 y59 y60 y61 y62 y63 y64 y65 y66 y67 y68 y69) (.inRegion soOps (2 :: rest) :: kk)) cs) v := by
  simp only [soA, soOps, soLoop, soBody, Tryz.f3, Option.getD_some] at next ⊢
  refine KV.op anaA_good rfl (by rfl) fewSo (by kernel_rfl) (fun t => anaA.noTr_spec (by kernel_rfl) t) (fun v₁ hs K' hK' => ?_)
  go_simp
  refine hK' _ _ ?_
  try walk_nrm
  exact KV.heap next ⟨hs.heap.symm, hs.os.symm, hs.output.symm⟩
set_option maxRecDepth 100000 in
theorem so_3 {y2 y54 y55 y57 y58 y59 y60 y61 y62 y63 y64 y65 y66 y67 y68 y69 : Value} (hF : FZ A1 A2 A3 A4 n1 c1 n2 c2 c3 c4 gc gx room us us' v0 v) (hN : NZ room us us' dim out s) (next : KV Tryz.prog H Tgt (G (soF.at (soA A A1 A2 A3 A4 n c n1 c1 n2 c2 c3 c4 gc gx dim out y7 y34 y35 y36 y37 y38 y39 y40 y41 y42 y43 y44 y45 y46 y47 y48 y49 y50 y51 y52 y53 y2 y54 y55 (.bool true) (.agg #[.slice A3 n1 c3, .slice A4 n2 c4]) y58 y59 y60 y61 y62 y63 y64 y65 y66 y67 y68 y69) (.inRegion soOps (rest) :: kk)) cs) v) :
    KV Tryz.prog H Tgt (G (soF.at (soA A A1 A2 A3 A4 n c n1 c1 n2 c2 c3 c4 gc gx dim out y7 y34 y35 y36 y37 y38 y39 y40 y41 y42 y43 y44 y45 y46 y47 y48 y49 y50 y51 y52 y53 y2 y54 y55 (.bool true) y57 y58 y59 y60 y61 y62 y63 y64 y65 y66 y67 y68 y69) (.inRegion soOps (3 :: rest) :: kk)) cs) v := by
  simp only [soA, soOps, soLoop, soBody, Tryz.f3, Option.getD_some] at next ⊢
  refine KV.op anaA_good rfl (by rfl) fewSo (by kernel_rfl) (fun t => anaA.noTr_spec (by kernel_rfl) t) (fun v₁ hs K' hK' => ?_)
  have hbx := ViewOf_cells_of hF.bx hs.heap
  have x0 := hbx.cell 0
  have x1 := hbx.cell 1
  simp only [gT, gZ, gS] at x0 x1
  clear hbx
  go_simp
  refine hK' _ _ ?_
  try walk_nrm
  exact KV.heap next ⟨hs.heap.symm, hs.os.symm, hs.output.symm⟩
set_option maxRecDepth 100000 in
theorem so_4 {y2 y54 y55 y57 y58 y59 y60 y61 y62 y63 y64 y65 y66 y67 y68 y69 : Value} (hF : FZ A1 A2 A3 A4 n1 c1 n2 c2 c3 c4 gc gx room us us' v0 v) (hN : NZ room us us' dim out s) (next : KV Tryz.prog H Tgt (G (soF.at (soA A A1 A2 A3 A4 n c n1 c1 n2 c2 c3 c4 gc gx dim out y7 y34 y35 y36 y37 y38 y39 y40 y41 y42 y43 y44 y45 y46 y47 y48 y49 y50 y51 y52 y53 y2 y54 y55 (.bool true) y57 (.int .i64 dim) y59 y60 y61 y62 y63 y64 y65 y66 y67 y68 y69) (.inRegion soOps (rest) :: kk)) cs) v) :
    KV Tryz.prog H Tgt (G (soF.at (soA A A1 A2 A3 A4 n c n1 c1 n2 c2 c3 c4 gc gx dim out y7 y34 y35 y36 y37 y38 y39 y40 y41 y42 y43 y44 y45 y46 y47 y48 y49 y50 y51 y52 y53 y2 y54 y55 (.bool true) y57 y58 y59 y60 y61 y62 y63 y64 y65 y66 y67 y68 y69) (.inRegion soOps (4 :: rest) :: kk)) cs) v := by
  simp only [soA, soOps, soLoop, soBody, Tryz.f3, Option.getD_some] at next ⊢
  refine KV.op anaA_good rfl (by rfl) fewSo (by kernel_rfl) (fun t => anaA.noTr_spec (by kernel_rfl) t) (fun v₁ hs K' hK' => ?_)
  go_simp
  refine hK' _ _ ?_
  try walk_nrm
  exact KV.heap next ⟨hs.heap.symm, hs.os.symm, hs.output.symm⟩
set_option maxRecDepth 100000 in
theorem so_5 {y2 y54 y55 y59 y60 y61 y62 y63 y64 y65 y66 y67 y68 y69 : Value} (hF : FZ A1 A2 A3 A4 n1 c1 n2 c2 c3 c4 gc gx room us us' v0 v) (hN : NZ room us us' dim out s) (next : ∀ v', FZ A1 A2 A3 A4 n1 c1 n2 c2 c3 c4 gc gx room us us' v0 v' → KV Tryz.prog H Tgt (G (soF.at (soA A A1 A2 A3 A4 n c n1 c1 n2 c2 c3 c4 gc gx dim out y7 y34 y35 y36 y37 y38 y39 y40 y41 y42 y43 y44 y45 y46 y47 y48 y49 y50 y51 y52 y53 y2 y54 y55 (.bool true) (.agg #[.slice A3 n1 c3, .slice A4 n2 c4]) (.int .i64 dim) (.int .i64 s) y60 y61 y62 y63 y64 y65 y66 y67 y68 y69) (.inRegion soOps (rest) :: kk)) cs) v') :
    KV Tryz.prog H Tgt (G (soF.at (soA A A1 A2 A3 A4 n c n1 c1 n2 c2 c3 c4 gc gx dim out y7 y34 y35 y36 y37 y38 y39 y40 y41 y42 y43 y44 y45 y46 y47 y48 y49 y50 y51 y52 y53 y2 y54 y55 (.bool true) (.agg #[.slice A3 n1 c3, .slice A4 n2 c4]) (.int .i64 dim) y59 y60 y61 y62 y63 y64 y65 y66 y67 y68 y69) (.inRegion soOps (5 :: rest) :: kk)) cs) v := by
  simp only [soA, soOps, soLoop, soBody, Tryz.f3, Option.getD_some] at next ⊢
  refine KV.callV rfl (by rfl) fewSo rfl (Post := fun x v' => x = .int .i64 s ∧ GR v v') ?_ (fun x v3 hp => ?_)
  · have hus := usageShareA_v (H := H) (c1 := c3) (c2 := c4) dim hF.cx (clOk_sh hN.hok')
    rw [hN.hs] at hus
    simpa [Act.eval, Act.put] using hus
  obtain ⟨rfl, hg⟩ := hp
  try walk_nrm
  exact next v3 (hF.go hg)
set_option maxRecDepth 100000 in
theorem so_6 {y2 y54 y55 y57 y58 y59 y60 y61 y62 y63 y64 y65 y66 y67 y68 y69 : Value} (hF : FZ A1 A2 A3 A4 n1 c1 n2 c2 c3 c4 gc gx room us us' v0 v) (hN : NZ room us us' dim out s) (next : KV Tryz.prog H Tgt (G (soF.at (soA A A1 A2 A3 A4 n c n1 c1 n2 c2 c3 c4 gc gx dim out y7 y34 y35 y36 y37 y38 y39 y40 y41 y42 y43 y44 y45 y46 y47 y48 y49 y50 y51 y52 y53 y2 y54 y55 (.bool true) y57 y58 y59 (.int .i64 out) y61 y62 y63 y64 y65 y66 y67 y68 y69) (.inRegion soOps (rest) :: kk)) cs) v) :
    KV Tryz.prog H Tgt (G (soF.at (soA A A1 A2 A3 A4 n c n1 c1 n2 c2 c3 c4 gc gx dim out y7 y34 y35 y36 y37 y38 y39 y40 y41 y42 y43 y44 y45 y46 y47 y48 y49 y50 y51 y52 y53 y2 y54 y55 (.bool true) y57 y58 y59 y60 y61 y62 y63 y64 y65 y66 y67 y68 y69) (.inRegion soOps (6 :: rest) :: kk)) cs) v := by
  simp only [soA, soOps, soLoop, soBody, Tryz.f3, Option.getD_some] at next ⊢
  refine KV.op anaA_good rfl (by rfl) fewSo (by kernel_rfl) (fun t => anaA.noTr_spec (by kernel_rfl) t) (fun v₁ hs K' hK' => ?_)
  go_simp
  refine hK' _ _ ?_
  try walk_nrm
  exact KV.heap next ⟨hs.heap.symm, hs.os.symm, hs.output.symm⟩
set_option maxRecDepth 100000 in
theorem so_7 {y2 y54 y55 y57 y58 y61 y62 y63 y64 y65 y66 y67 y68 y69 : Value} (hF : FZ A1 A2 A3 A4 n1 c1 n2 c2 c3 c4 gc gx room us us' v0 v) (hN : NZ room us us' dim out s) (next : KV Tryz.prog H Tgt (G (soF.at (soA A A1 A2 A3 A4 n c n1 c1 n2 c2 c3 c4 gc gx dim out y7 y34 y35 y36 y37 y38 y39 y40 y41 y42 y43 y44 y45 y46 y47 y48 y49 y50 y51 y52 y53 y2 y54 y55 (.bool true) y57 y58 (.int .i64 s) (.int .i64 out) (.bool true) y62 y63 y64 y65 y66 y67 y68 y69) (.inRegion soOps (rest) :: kk)) cs) v) :
    KV Tryz.prog H Tgt (G (soF.at (soA A A1 A2 A3 A4 n c n1 c1 n2 c2 c3 c4 gc gx dim out y7 y34 y35 y36 y37 y38 y39 y40 y41 y42 y43 y44 y45 y46 y47 y48 y49 y50 y51 y52 y53 y2 y54 y55 (.bool true) y57 y58 (.int .i64 s) (.int .i64 out) y61 y62 y63 y64 y65 y66 y67 y68 y69) (.inRegion soOps (7 :: rest) :: kk)) cs) v := by
  simp only [soA, soOps, soLoop, soBody, Tryz.f3, Option.getD_some] at next ⊢
  refine KV.op anaA_good rfl (by rfl) fewSo (by kernel_rfl) (fun t => anaA.noTr_spec (by kernel_rfl) t) (fun v₁ hs K' hK' => ?_)
  have q7 : decide (s ≤ out) = true := decide_eq_true hN.le
  have q8 := hN.le
  go_simp
  refine hK' _ _ ?_
  try walk_nrm
  exact KV.heap next ⟨hs.heap.symm, hs.os.symm, hs.output.symm⟩
set_option maxRecDepth 100000 in
theorem so_8 {y2 y54 y55 y57 y58 y59 y60 y62 y63 y64 y65 y66 y67 y68 y69 : Value} (hF : FZ A1 A2 A3 A4 n1 c1 n2 c2 c3 c4 gc gx room us us' v0 v) (hN : NZ room us us' dim out s) (next : KV Tryz.prog H Tgt (G (soF.at (soA A A1 A2 A3 A4 n c n1 c1 n2 c2 c3 c4 gc gx dim out y7 y34 y35 y36 y37 y38 y39 y40 y41 y42 y43 y44 y45 y46 y47 y48 y49 y50 y51 y52 y53 y2 y54 y55 (.bool true) y57 y58 y59 y60 (.bool true) (.bool true) y63 y64 y65 y66 y67 y68 y69) (.inRegion soOps (rest) :: kk)) cs) v) :
    KV Tryz.prog H Tgt (G (soF.at (soA A A1 A2 A3 A4 n c n1 c1 n2 c2 c3 c4 gc gx dim out y7 y34 y35 y36 y37 y38 y39 y40 y41 y42 y43 y44 y45 y46 y47 y48 y49 y50 y51 y52 y53 y2 y54 y55 (.bool true) y57 y58 y59 y60 (.bool true) y62 y63 y64 y65 y66 y67 y68 y69) (.inRegion soOps (8 :: rest) :: kk)) cs) v := by
  simp only [soA, soOps, soLoop, soBody, Tryz.f3, Option.getD_some] at next ⊢
  refine KV.op anaA_good rfl (by rfl) fewSo (by kernel_rfl) (fun t => anaA.noTr_spec (by kernel_rfl) t) (fun v₁ hs K' hK' => ?_)
  go_simp
  refine hK' _ _ ?_
  try walk_nrm
  exact KV.heap next ⟨hs.heap.symm, hs.os.symm, hs.output.symm⟩
set_option maxRecDepth 100000 in
theorem so_9 {y2 y54 y55 y56 y57 y58 y59 y60 y61 y63 y64 y65 y66 y67 y68 y69 : Value} (hF : FZ A1 A2 A3 A4 n1 c1 n2 c2 c3 c4 gc gx room us us' v0 v) (hN : NZ room us us' dim out s) (next : KV Tryz.prog H Tgt (G (soF.at (soA A A1 A2 A3 A4 n c n1 c1 n2 c2 c3 c4 gc gx dim out y7 y34 y35 y36 y37 y38 y39 y40 y41 y42 y43 y44 y45 y46 y47 y48 y49 y50 y51 y52 y53 y2 y54 y55 y56 y57 y58 y59 y60 y61 (.bool true) (.bool true) y64 y65 y66 y67 y68 y69) (.inRegion soOps (rest) :: kk)) cs) v) :
    KV Tryz.prog H Tgt (G (soF.at (soA A A1 A2 A3 A4 n c n1 c1 n2 c2 c3 c4 gc gx dim out y7 y34 y35 y36 y37 y38 y39 y40 y41 y42 y43 y44 y45 y46 y47 y48 y49 y50 y51 y52 y53 y2 y54 y55 y56 y57 y58 y59 y60 y61 (.bool true) y63 y64 y65 y66 y67 y68 y69) (.inRegion soOps (9 :: rest) :: kk)) cs) v := by
  simp only [soA, soOps, soLoop, soBody, Tryz.f3, Option.getD_some] at next ⊢
  refine KV.op anaA_good rfl (by rfl) fewSo (by kernel_rfl) (fun t => anaA.noTr_spec (by kernel_rfl) t) (fun v₁ hs K' hK' => ?_)
  go_simp
  refine hK' _ _ ?_
  try walk_nrm
  exact KV.heap next ⟨hs.heap.symm, hs.os.symm, hs.output.symm⟩
set_option maxRecDepth 100000 in
theorem so_10 {y2 y54 y55 y56 y57 y58 y59 y60 y61 y62 y64 y65 y66 y67 y68 y69 : Value} (hF : FZ A1 A2 A3 A4 n1 c1 n2 c2 c3 c4 gc gx room us us' v0 v) (hN : NZ room us us' dim out s) (next : KV Tryz.prog H Tgt (G (soF.at (soA A A1 A2 A3 A4 n c n1 c1 n2 c2 c3 c4 gc gx dim out y7 y34 y35 y36 y37 y38 y39 y40 y41 y42 y43 y44 y45 y46 y47 y48 y49 y50 y51 y52 y53 y2 y54 y55 y56 y57 y58 y59 y60 y61 y62 (.bool true) (.agg #[.slice A3 n1 c3, .slice A4 n2 c4]) y65 y66 y67 y68 y69) (.inRegion soOps (rest) :: kk)) cs) v) :
    KV Tryz.prog H Tgt (G (soF.at (soA A A1 A2 A3 A4 n c n1 c1 n2 c2 c3 c4 gc gx dim out y7 y34 y35 y36 y37 y38 y39 y40 y41 y42 y43 y44 y45 y46 y47 y48 y49 y50 y51 y52 y53 y2 y54 y55 y56 y57 y58 y59 y60 y61 y62 (.bool true) y64 y65 y66 y67 y68 y69) (.inRegion soOps (10 :: rest) :: kk)) cs) v := by
  simp only [soA, soOps, soLoop, soBody, Tryz.f3, Option.getD_some] at next ⊢
  refine KV.op anaA_good rfl (by rfl) fewSo (by kernel_rfl) (fun t => anaA.noTr_spec (by kernel_rfl) t) (fun v₁ hs K' hK' => ?_)
  have hbx := ViewOf_cells_of hF.bx hs.heap
  have x0 := hbx.cell 0
  have x1 := hbx.cell 1
  simp only [gT, gZ, gS] at x0 x1
  clear hbx
  go_simp
  refine hK' _ _ ?_
  try walk_nrm
  exact KV.heap next ⟨hs.heap.symm, hs.os.symm, hs.output.symm⟩
set_option maxRecDepth 100000 in
theorem so_11 {y2 y54 y55 y56 y57 y58 y59 y60 y61 y62 y65 y66 y67 y68 y69 : Value} (hF : FZ A1 A2 A3 A4 n1 c1 n2 c2 c3 c4 gc gx room us us' v0 v) (hN : NZ room us us' dim out s) (next : ∀ A5 c5 v', FZ A1 A2 A3 A4 n1 c1 n2 c2 c3 c4 gc gx room us us' v0 v' → RdI v' v'.heap.size A5 3 (togTo us us.length) → KV Tryz.prog H Tgt (G (soF.at (soA A A1 A2 A3 A4 n c n1 c1 n2 c2 c3 c4 gc gx dim out y7 y34 y35 y36 y37 y38 y39 y40 y41 y42 y43 y44 y45 y46 y47 y48 y49 y50 y51 y52 y53 y2 y54 y55 y56 y57 y58 y59 y60 y61 y62 (.bool true) (.agg #[.slice A3 n1 c3, .slice A4 n2 c4]) (.slice A5 3 c5) y66 y67 y68 y69) (.inRegion soOps (rest) :: kk)) cs) v') :
    KV Tryz.prog H Tgt (G (soF.at (soA A A1 A2 A3 A4 n c n1 c1 n2 c2 c3 c4 gc gx dim out y7 y34 y35 y36 y37 y38 y39 y40 y41 y42 y43 y44 y45 y46 y47 y48 y49 y50 y51 y52 y53 y2 y54 y55 y56 y57 y58 y59 y60 y61 y62 (.bool true) (.agg #[.slice A3 n1 c3, .slice A4 n2 c4]) y65 y66 y67 y68 y69) (.inRegion soOps (11 :: rest) :: kk)) cs) v := by
  simp only [soA, soOps, soLoop, soBody, Tryz.f3, Option.getD_some] at next ⊢
  refine KV.callV rfl (by rfl) fewSo rfl (Post := fun x v' => ∃ A c, x = .slice A 3 c ∧ RdI v' v'.heap.size A 3 (togTo us us.length) ∧ GR v v') ?_ (fun x v3 hp => ?_)
  · have hus := usageOf_v (H := H) (c1 := c3) (c2 := c4) hF.cx (clOk_sh hN.hok') hN.hok'
    rw [hN.tog] at hus
    simpa [Act.eval, Act.put] using hus
  obtain ⟨A5, c5, rfl, hrd, hg⟩ := hp
  try walk_nrm
  exact next A5 c5 v3 (hF.go hg) hrd
set_option maxRecDepth 100000 in
theorem so_12 {y2 y54 y55 y56 y57 y58 y59 y60 y61 y62 y64 y65 y66 y67 y68 y69 : Value} (hF : FZ A1 A2 A3 A4 n1 c1 n2 c2 c3 c4 gc gx room us us' v0 v) (hN : NZ room us us' dim out s) (next : KV Tryz.prog H Tgt (G (soF.at (soA A A1 A2 A3 A4 n c n1 c1 n2 c2 c3 c4 gc gx dim out y7 y34 y35 y36 y37 y38 y39 y40 y41 y42 y43 y44 y45 y46 y47 y48 y49 y50 y51 y52 y53 y2 y54 y55 y56 y57 y58 y59 y60 y61 y62 (.bool true) y64 y65 (.agg #[.slice A1 n1 c1, .slice A2 n2 c2]) y67 y68 y69) (.inRegion soOps (rest) :: kk)) cs) v) :
    KV Tryz.prog H Tgt (G (soF.at (soA A A1 A2 A3 A4 n c n1 c1 n2 c2 c3 c4 gc gx dim out y7 y34 y35 y36 y37 y38 y39 y40 y41 y42 y43 y44 y45 y46 y47 y48 y49 y50 y51 y52 y53 y2 y54 y55 y56 y57 y58 y59 y60 y61 y62 (.bool true) y64 y65 y66 y67 y68 y69) (.inRegion soOps (12 :: rest) :: kk)) cs) v := by
  simp only [soA, soOps, soLoop, soBody, Tryz.f3, Option.getD_some] at next ⊢
  refine KV.op anaA_good rfl (by rfl) fewSo (by kernel_rfl) (fun t => anaA.noTr_spec (by kernel_rfl) t) (fun v₁ hs K' hK' => ?_)
  have hbx := ViewOf_cells_of hF.box hs.heap
  have x0 := hbx.cell 0
  have x1 := hbx.cell 1
  simp only [gT, gZ, gS] at x0 x1
  clear hbx
  go_simp
  refine hK' _ _ ?_
  try walk_nrm
  exact KV.heap next ⟨hs.heap.symm, hs.os.symm, hs.output.symm⟩
set_option maxRecDepth 100000 in
theorem so_13 {y2 y54 y55 y56 y57 y58 y59 y60 y61 y62 y64 y65 y67 y68 y69 : Value} (hF : FZ A1 A2 A3 A4 n1 c1 n2 c2 c3 c4 gc gx room us us' v0 v) (hN : NZ room us us' dim out s) (next : ∀ A6 c6 v', GR v v' → FZ A1 A2 A3 A4 n1 c1 n2 c2 c3 c4 gc gx room us us' v0 v' → RdI v' v'.heap.size A6 3 (togTo us us.length) → KV Tryz.prog H Tgt (G (soF.at (soA A A1 A2 A3 A4 n c n1 c1 n2 c2 c3 c4 gc gx dim out y7 y34 y35 y36 y37 y38 y39 y40 y41 y42 y43 y44 y45 y46 y47 y48 y49 y50 y51 y52 y53 y2 y54 y55 y56 y57 y58 y59 y60 y61 y62 (.bool true) y64 y65 (.agg #[.slice A1 n1 c1, .slice A2 n2 c2]) (.slice A6 3 c6) y68 y69) (.inRegion soOps (rest) :: kk)) cs) v') :
    KV Tryz.prog H Tgt (G (soF.at (soA A A1 A2 A3 A4 n c n1 c1 n2 c2 c3 c4 gc gx dim out y7 y34 y35 y36 y37 y38 y39 y40 y41 y42 y43 y44 y45 y46 y47 y48 y49 y50 y51 y52 y53 y2 y54 y55 y56 y57 y58 y59 y60 y61 y62 (.bool true) y64 y65 (.agg #[.slice A1 n1 c1, .slice A2 n2 c2]) y67 y68 y69) (.inRegion soOps (13 :: rest) :: kk)) cs) v := by
  simp only [soA, soOps, soLoop, soBody, Tryz.f3, Option.getD_some] at next ⊢
  refine KV.callV rfl (by rfl) fewSo rfl (Post := fun x v' => ∃ A c, x = .slice A 3 c ∧ RdI v' v'.heap.size A 3 (togTo us us.length) ∧ GR v v') ?_ (fun x v3 hp => ?_)
  · have hus := usageOf_v (H := H) (c1 := c1) (c2 := c2) hF.cl (clOk_sh hN.hok) hN.hok
    simpa [Act.eval, Act.put] using hus
  obtain ⟨A5, c5, rfl, hrd, hg⟩ := hp
  try walk_nrm
  exact next A5 c5 v3 hg (hF.go hg) hrd
set_option maxRecDepth 100000 in
theorem so_14 {y2 y54 y55 y56 y57 y58 y59 y60 y61 y62 y64 y66 y68 y69 : Value} {A5 : Option Addr} {c5 : Nat} {A6 : Option Addr} {c6 : Nat} (hF : FZ A1 A2 A3 A4 n1 c1 n2 c2 c3 c4 gc gx room us us' v0 v) (hN : NZ room us us' dim out s) (h11 : RdI v v.heap.size A5 3 (togTo us us.length)) (h13 : RdI v v.heap.size A6 3 (togTo us us.length)) (next : ∀ v', FZ A1 A2 A3 A4 n1 c1 n2 c2 c3 c4 gc gx room us us' v0 v' → KV Tryz.prog H Tgt (G (soF.at (soA A A1 A2 A3 A4 n c n1 c1 n2 c2 c3 c4 gc gx dim out y7 y34 y35 y36 y37 y38 y39 y40 y41 y42 y43 y44 y45 y46 y47 y48 y49 y50 y51 y52 y53 y2 y54 y55 y56 y57 y58 y59 y60 y61 y62 (.bool true) y64 (.slice A5 3 c5) y66 (.slice A6 3 c6) (.bool true) y69) (.inRegion soOps (rest) :: kk)) cs) v') :
    KV Tryz.prog H Tgt (G (soF.at (soA A A1 A2 A3 A4 n c n1 c1 n2 c2 c3 c4 gc gx dim out y7 y34 y35 y36 y37 y38 y39 y40 y41 y42 y43 y44 y45 y46 y47 y48 y49 y50 y51 y52 y53 y2 y54 y55 y56 y57 y58 y59 y60 y61 y62 (.bool true) y64 (.slice A5 3 c5) y66 (.slice A6 3 c6) y68 y69) (.inRegion soOps (14 :: rest) :: kk)) cs) v := by
  simp only [soA, soOps, soLoop, soBody, Tryz.f3, Option.getD_some] at next ⊢
  refine KV.call anaA_good (R := fun v₁ x v' => x = .bool true ∧ GR v₁ v') (f := 9) (by kernel_rfl) (by kernel_rfl) rfl (by rfl) fewSo rfl (fun v₁ hs => ?_) (fun v₁ x v4 hs hp => ?_)
  · have ht := sameInts_any A5 A6 3 c5 c6 _ _ (togTo us us.length) v₁ (h11.gain (fun p y hy => hs.cell hy) (by rw [hs.heap]; exact Nat.le_refl _) : RdI v₁ v₁.heap.size A5 3 _) (h13.gain (fun p y hy => hs.cell hy) (by rw [hs.heap]; exact Nat.le_refl _) : RdI v₁ v₁.heap.size A6 3 _)
    have ht2 : Calls Tryz.prog 9 #[.slice A5 3 c5, .slice A6 3 c6] v₁ (fun e v' => ∃ x, e = .returned x ∧ x = .bool true ∧ GR v₁ v') := ht.mono (by
      rintro e v' ⟨rfl, m, rfl⟩
      exact ⟨_, rfl, rfl, ⟨rfl, rfl, Nat.le_refl _, fun _ _ => rfl⟩⟩)
    simpa [Act.eval, Act.put] using ht2
  obtain ⟨rfl, hg⟩ := hp
  try walk_nrm
  exact next v4 (hF.go (GR.from hs hg))
set_option maxRecDepth 100000 in
theorem so_15 {y2 y54 y55 y56 y57 y58 y59 y60 y61 y62 y64 y65 y66 y67 y69 : Value} (hF : FZ A1 A2 A3 A4 n1 c1 n2 c2 c3 c4 gc gx room us us' v0 v) (hN : NZ room us us' dim out s) (next : KV Tryz.prog H Tgt (G (soF.at (soA A A1 A2 A3 A4 n c n1 c1 n2 c2 c3 c4 gc gx dim out y7 y34 y35 y36 y37 y38 y39 y40 y41 y42 y43 y44 y45 y46 y47 y48 y49 y50 y51 y52 y53 y2 y54 y55 y56 y57 y58 y59 y60 y61 y62 (.bool true) y64 y65 y66 y67 (.bool true) (.bool true)) (.inRegion soOps (rest) :: kk)) cs) v) :
    KV Tryz.prog H Tgt (G (soF.at (soA A A1 A2 A3 A4 n c n1 c1 n2 c2 c3 c4 gc gx dim out y7 y34 y35 y36 y37 y38 y39 y40 y41 y42 y43 y44 y45 y46 y47 y48 y49 y50 y51 y52 y53 y2 y54 y55 y56 y57 y58 y59 y60 y61 y62 (.bool true) y64 y65 y66 y67 (.bool true) y69) (.inRegion soOps (15 :: rest) :: kk)) cs) v := by
  simp only [soA, soOps, soLoop, soBody, Tryz.f3, Option.getD_some] at next ⊢
  refine KV.op anaA_good rfl (by rfl) fewSo (by kernel_rfl) (fun t => anaA.noTr_spec (by kernel_rfl) t) (fun v₁ hs K' hK' => ?_)
  go_simp
  refine hK' _ _ ?_
  try walk_nrm
  exact KV.heap next ⟨hs.heap.symm, hs.os.symm, hs.output.symm⟩
set_option maxRecDepth 100000 in
theorem so_16 {y2 y54 y55 y56 y57 y58 y59 y60 y61 y62 y63 y64 y65 y66 y67 y68 : Value} (hF : FZ A1 A2 A3 A4 n1 c1 n2 c2 c3 c4 gc gx room us us' v0 v) (hN : NZ room us us' dim out s) (next : KV Tryz.prog H Tgt (G (soF.at (soA A A1 A2 A3 A4 n c n1 c1 n2 c2 c3 c4 gc gx dim out y7 y34 y35 y36 y37 y38 y39 y40 y41 y42 y43 y44 y45 y46 y47 y48 y49 y50 y51 y52 y53 (.bool true) y54 y55 y56 y57 y58 y59 y60 y61 y62 y63 y64 y65 y66 y67 y68 (.bool true)) (.inRegion soOps (rest) :: kk)) cs) v) :
    KV Tryz.prog H Tgt (G (soF.at (soA A A1 A2 A3 A4 n c n1 c1 n2 c2 c3 c4 gc gx dim out y7 y34 y35 y36 y37 y38 y39 y40 y41 y42 y43 y44 y45 y46 y47 y48 y49 y50 y51 y52 y53 y2 y54 y55 y56 y57 y58 y59 y60 y61 y62 y63 y64 y65 y66 y67 y68 (.bool true)) (.inRegion soOps (16 :: rest) :: kk)) cs) v := by
  simp only [soA, soOps, soLoop, soBody, Tryz.f3, Option.getD_some] at next ⊢
  refine KV.op anaA_good rfl (by rfl) fewSo (by kernel_rfl) (fun t => anaA.noTr_spec (by kernel_rfl) t) (fun v₁ hs K' hK' => ?_)
  go_simp
  refine hK' _ _ ?_
  try walk_nrm
  exact KV.heap next ⟨hs.heap.symm, hs.os.symm, hs.output.symm⟩
end
section
variable {H : Nat → Prop} {Tgt : Goroutine → World → Prop} {v0 v : World} {A A1 A2 A3 A4 : Option Addr} {n c n1 c1 n2 c2 c3 c4 gc gx : Nat} {dim out s : Int} {room : List Int} {us us' : List Un} {y7 y34 y35 y36 y37 y38 y39 y40 y41 y42 y43 y44 y45 y46 y47 y48 y49 y50 y51 y52 y53 : Value} {kk : List Item} {cs : List Frame}
theorem sos_0_1_2_3_4_5_6_7_8_9_10_11_12_13_14_15_16 (A5 : Option Addr) (c5 : Nat) (A6 : Option Addr) (c6 : Nat) (z : Nat) (hF : FZ A1 A2 A3 A4 n1 c1 n2 c2 c3 c4 gc gx room us us' v0 v) (hN : NZ room us us' dim out s) (hend : ∀ (y : Act) v, FZ A1 A2 A3 A4 n1 c1 n2 c2 c3 c4 gc gx room us us' v0 v → y.defers = [] → y.tmps.size = 72 → y.tmps[2]? = some (.bool true) → KV Tryz.prog H Tgt (G (soF.at y (.inRegion soOps [] :: kk)) cs) v) :
    KV Tryz.prog H Tgt (G (soF.at (soA A A1 A2 A3 A4 n c n1 c1 n2 c2 c3 c4 gc gx dim out y7 y34 y35 y36 y37 y38 y39 y40 y41 y42 y43 y44 y45 y46 y47 y48 y49 y50 y51 y52 y53 (.bool true) (.int .i64 0) (.bool true) (.bool true) (.agg #[.slice A3 n1 c3, .slice A4 n2 c4]) (.int .i64 dim) (.int .i64 s) (.int .i64 out) (.bool true) (.bool true) (.bool true) (.agg #[.slice A3 n1 c3, .slice A4 n2 c4]) (.slice A5 3 c5) (.agg #[.slice A1 n1 c1, .slice A2 n2 c2]) (.slice A6 3 c6) (.bool true) (.bool true)) (.inRegion soOps (Region.linearise.go .any soOps 0 z #[true, true, true, true, true, true, true, true, true, true, true, true, true, true, true, true, true] []) :: kk)) cs) v := by
  exact hend _ v hF rfl rfl rfl
theorem sos_0_1_2_3_4_5_6_7_8_9_10_11_12_13_14_15 (A5 : Option Addr) (c5 : Nat) (A6 : Option Addr) (c6 : Nat) (z : Nat) (hF : FZ A1 A2 A3 A4 n1 c1 n2 c2 c3 c4 gc gx room us us' v0 v) (hN : NZ room us us' dim out s) (hend : ∀ (y : Act) v, FZ A1 A2 A3 A4 n1 c1 n2 c2 c3 c4 gc gx room us us' v0 v → y.defers = [] → y.tmps.size = 72 → y.tmps[2]? = some (.bool true) → KV Tryz.prog H Tgt (G (soF.at y (.inRegion soOps [] :: kk)) cs) v) :
    KV Tryz.prog H Tgt (G (soF.at (soA A A1 A2 A3 A4 n c n1 c1 n2 c2 c3 c4 gc gx dim out y7 y34 y35 y36 y37 y38 y39 y40 y41 y42 y43 y44 y45 y46 y47 y48 y49 y50 y51 y52 y53 (.bool false) (.int .i64 0) (.bool true) (.bool true) (.agg #[.slice A3 n1 c3, .slice A4 n2 c4]) (.int .i64 dim) (.int .i64 s) (.int .i64 out) (.bool true) (.bool true) (.bool true) (.agg #[.slice A3 n1 c3, .slice A4 n2 c4]) (.slice A5 3 c5) (.agg #[.slice A1 n1 c1, .slice A2 n2 c2]) (.slice A6 3 c6) (.bool true) (.bool true)) (.inRegion soOps (Region.linearise.go .any soOps 1 z #[true, true, true, true, true, true, true, true, true, true, true, true, true, true, true, true, false] []) :: kk)) cs) v := by
  obtain ⟨i, hi, z', e⟩ := go_some (md := .any) (ops := soOps) (fuel := 0) (t := z) (listed := #[true, true, true, true, true, true, true, true, true, true, true, true, true, true, true, true, false]) (rs := [16]) (by kernel_rfl) (by simp)
  rw [e]
  clear e
  simp only [List.mem_cons, List.not_mem_nil, or_false] at hi
  rcases hi with rfl
  · exact so_16 hF hN (sos_0_1_2_3_4_5_6_7_8_9_10_11_12_13_14_15_16 A5 c5 A6 c6 z' hF hN hend)
theorem sos_0_1_2_3_4_5_6_7_8_9_10_11_12_13_14 (A5 : Option Addr) (c5 : Nat) (A6 : Option Addr) (c6 : Nat) (z : Nat) (hF : FZ A1 A2 A3 A4 n1 c1 n2 c2 c3 c4 gc gx room us us' v0 v) (hN : NZ room us us' dim out s) (hend : ∀ (y : Act) v, FZ A1 A2 A3 A4 n1 c1 n2 c2 c3 c4 gc gx room us us' v0 v → y.defers = [] → y.tmps.size = 72 → y.tmps[2]? = some (.bool true) → KV Tryz.prog H Tgt (G (soF.at y (.inRegion soOps [] :: kk)) cs) v) :
    KV Tryz.prog H Tgt (G (soF.at (soA A A1 A2 A3 A4 n c n1 c1 n2 c2 c3 c4 gc gx dim out y7 y34 y35 y36 y37 y38 y39 y40 y41 y42 y43 y44 y45 y46 y47 y48 y49 y50 y51 y52 y53 (.bool false) (.int .i64 0) (.bool true) (.bool true) (.agg #[.slice A3 n1 c3, .slice A4 n2 c4]) (.int .i64 dim) (.int .i64 s) (.int .i64 out) (.bool true) (.bool true) (.bool true) (.agg #[.slice A3 n1 c3, .slice A4 n2 c4]) (.slice A5 3 c5) (.agg #[.slice A1 n1 c1, .slice A2 n2 c2]) (.slice A6 3 c6) (.bool true) undef) (.inRegion soOps (Region.linearise.go .any soOps 2 z #[true, true, true, true, true, true, true, true, true, true, true, true, true, true, true, false, false] []) :: kk)) cs) v := by
  obtain ⟨i, hi, z', e⟩ := go_some (md := .any) (ops := soOps) (fuel := 1) (t := z) (listed := #[true, true, true, true, true, true, true, true, true, true, true, true, true, true, true, false, false]) (rs := [15]) (by kernel_rfl) (by simp)
  rw [e]
  clear e
  simp only [List.mem_cons, List.not_mem_nil, or_false] at hi
  rcases hi with rfl
  · exact so_15 hF hN (sos_0_1_2_3_4_5_6_7_8_9_10_11_12_13_14_15 A5 c5 A6 c6 z' hF hN hend)
theorem sos_0_1_2_3_4_5_6_7_8_9_10_11_12_13 (A5 : Option Addr) (c5 : Nat) (A6 : Option Addr) (c6 : Nat) (z : Nat) (hF : FZ A1 A2 A3 A4 n1 c1 n2 c2 c3 c4 gc gx room us us' v0 v) (hN : NZ room us us' dim out s) (h11 : RdI v v.heap.size A5 3 (togTo us us.length)) (h13 : RdI v v.heap.size A6 3 (togTo us us.length)) (hend : ∀ (y : Act) v, FZ A1 A2 A3 A4 n1 c1 n2 c2 c3 c4 gc gx room us us' v0 v → y.defers = [] → y.tmps.size = 72 → y.tmps[2]? = some (.bool true) → KV Tryz.prog H Tgt (G (soF.at y (.inRegion soOps [] :: kk)) cs) v) :
    KV Tryz.prog H Tgt (G (soF.at (soA A A1 A2 A3 A4 n c n1 c1 n2 c2 c3 c4 gc gx dim out y7 y34 y35 y36 y37 y38 y39 y40 y41 y42 y43 y44 y45 y46 y47 y48 y49 y50 y51 y52 y53 (.bool false) (.int .i64 0) (.bool true) (.bool true) (.agg #[.slice A3 n1 c3, .slice A4 n2 c4]) (.int .i64 dim) (.int .i64 s) (.int .i64 out) (.bool true) (.bool true) (.bool true) (.agg #[.slice A3 n1 c3, .slice A4 n2 c4]) (.slice A5 3 c5) (.agg #[.slice A1 n1 c1, .slice A2 n2 c2]) (.slice A6 3 c6) undef undef) (.inRegion soOps (Region.linearise.go .any soOps 3 z #[true, true, true, true, true, true, true, true, true, true, true, true, true, true, false, false, false] []) :: kk)) cs) v := by
  obtain ⟨i, hi, z', e⟩ := go_some (md := .any) (ops := soOps) (fuel := 2) (t := z) (listed := #[true, true, true, true, true, true, true, true, true, true, true, true, true, true, false, false, false]) (rs := [14]) (by kernel_rfl) (by simp)
  rw [e]
  clear e
  simp only [List.mem_cons, List.not_mem_nil, or_false] at hi
  rcases hi with rfl
  · exact so_14 hF hN h11 h13 fun v' hF' => sos_0_1_2_3_4_5_6_7_8_9_10_11_12_13_14 A5 c5 A6 c6 z' hF' hN hend
theorem sos_0_1_2_3_4_5_6_7_8_9_10_11_12 (A5 : Option Addr) (c5 : Nat) (z : Nat) (hF : FZ A1 A2 A3 A4 n1 c1 n2 c2 c3 c4 gc gx room us us' v0 v) (hN : NZ room us us' dim out s) (h11 : RdI v v.heap.size A5 3 (togTo us us.length)) (hend : ∀ (y : Act) v, FZ A1 A2 A3 A4 n1 c1 n2 c2 c3 c4 gc gx room us us' v0 v → y.defers = [] → y.tmps.size = 72 → y.tmps[2]? = some (.bool true) → KV Tryz.prog H Tgt (G (soF.at y (.inRegion soOps [] :: kk)) cs) v) :
    KV Tryz.prog H Tgt (G (soF.at (soA A A1 A2 A3 A4 n c n1 c1 n2 c2 c3 c4 gc gx dim out y7 y34 y35 y36 y37 y38 y39 y40 y41 y42 y43 y44 y45 y46 y47 y48 y49 y50 y51 y52 y53 (.bool false) (.int .i64 0) (.bool true) (.bool true) (.agg #[.slice A3 n1 c3, .slice A4 n2 c4]) (.int .i64 dim) (.int .i64 s) (.int .i64 out) (.bool true) (.bool true) (.bool true) (.agg #[.slice A3 n1 c3, .slice A4 n2 c4]) (.slice A5 3 c5) (.agg #[.slice A1 n1 c1, .slice A2 n2 c2]) undef undef undef) (.inRegion soOps (Region.linearise.go .any soOps 4 z #[true, true, true, true, true, true, true, true, true, true, true, true, true, false, false, false, false] []) :: kk)) cs) v := by
  obtain ⟨i, hi, z', e⟩ := go_some (md := .any) (ops := soOps) (fuel := 3) (t := z) (listed := #[true, true, true, true, true, true, true, true, true, true, true, true, true, false, false, false, false]) (rs := [13]) (by kernel_rfl) (by simp)
  rw [e]
  clear e
  simp only [List.mem_cons, List.not_mem_nil, or_false] at hi
  rcases hi with rfl
  · exact so_13 hF hN fun A6 c6 v' hg hF' h13 => sos_0_1_2_3_4_5_6_7_8_9_10_11_12_13 A5 c5 A6 c6 z' hF' hN (h11.gr hg) h13 hend
theorem sos_0_1_2_3_4_5_6_7_8_9_10_11 (A5 : Option Addr) (c5 : Nat) (z : Nat) (hF : FZ A1 A2 A3 A4 n1 c1 n2 c2 c3 c4 gc gx room us us' v0 v) (hN : NZ room us us' dim out s) (h11 : RdI v v.heap.size A5 3 (togTo us us.length)) (hend : ∀ (y : Act) v, FZ A1 A2 A3 A4 n1 c1 n2 c2 c3 c4 gc gx room us us' v0 v → y.defers = [] → y.tmps.size = 72 → y.tmps[2]? = some (.bool true) → KV Tryz.prog H Tgt (G (soF.at y (.inRegion soOps [] :: kk)) cs) v) :
    KV Tryz.prog H Tgt (G (soF.at (soA A A1 A2 A3 A4 n c n1 c1 n2 c2 c3 c4 gc gx dim out y7 y34 y35 y36 y37 y38 y39 y40 y41 y42 y43 y44 y45 y46 y47 y48 y49 y50 y51 y52 y53 (.bool false) (.int .i64 0) (.bool true) (.bool true) (.agg #[.slice A3 n1 c3, .slice A4 n2 c4]) (.int .i64 dim) (.int .i64 s) (.int .i64 out) (.bool true) (.bool true) (.bool true) (.agg #[.slice A3 n1 c3, .slice A4 n2 c4]) (.slice A5 3 c5) undef undef undef undef) (.inRegion soOps (Region.linearise.go .any soOps 5 z #[true, true, true, true, true, true, true, true, true, true, true, true, false, false, false, false, false] []) :: kk)) cs) v := by
  obtain ⟨i, hi, z', e⟩ := go_some (md := .any) (ops := soOps) (fuel := 4) (t := z) (listed := #[true, true, true, true, true, true, true, true, true, true, true, true, false, false, false, false, false]) (rs := [12]) (by kernel_rfl) (by simp)
  rw [e]
  clear e
  simp only [List.mem_cons, List.not_mem_nil, or_false] at hi
  rcases hi with rfl
  · exact so_12 hF hN (sos_0_1_2_3_4_5_6_7_8_9_10_11_12 A5 c5 z' hF hN h11 hend)
theorem sos_0_1_2_3_4_5_6_7_8_9_10_12 (z : Nat) (hF : FZ A1 A2 A3 A4 n1 c1 n2 c2 c3 c4 gc gx room us us' v0 v) (hN : NZ room us us' dim out s) (hend : ∀ (y : Act) v, FZ A1 A2 A3 A4 n1 c1 n2 c2 c3 c4 gc gx room us us' v0 v → y.defers = [] → y.tmps.size = 72 → y.tmps[2]? = some (.bool true) → KV Tryz.prog H Tgt (G (soF.at y (.inRegion soOps [] :: kk)) cs) v) :
    KV Tryz.prog H Tgt (G (soF.at (soA A A1 A2 A3 A4 n c n1 c1 n2 c2 c3 c4 gc gx dim out y7 y34 y35 y36 y37 y38 y39 y40 y41 y42 y43 y44 y45 y46 y47 y48 y49 y50 y51 y52 y53 (.bool false) (.int .i64 0) (.bool true) (.bool true) (.agg #[.slice A3 n1 c3, .slice A4 n2 c4]) (.int .i64 dim) (.int .i64 s) (.int .i64 out) (.bool true) (.bool true) (.bool true) (.agg #[.slice A3 n1 c3, .slice A4 n2 c4]) undef (.agg #[.slice A1 n1 c1, .slice A2 n2 c2]) undef undef undef) (.inRegion soOps (Region.linearise.go .any soOps 5 z #[true, true, true, true, true, true, true, true, true, true, true, false, true, false, false, false, false] []) :: kk)) cs) v := by
  obtain ⟨i, hi, z', e⟩ := go_some (md := .any) (ops := soOps) (fuel := 4) (t := z) (listed := #[true, true, true, true, true, true, true, true, true, true, true, false, true, false, false, false, false]) (rs := [11]) (by kernel_rfl) (by simp)
  rw [e]
  clear e
  simp only [List.mem_cons, List.not_mem_nil, or_false] at hi
  rcases hi with rfl
  · exact so_11 hF hN fun A5 c5 v' hF' h11 => sos_0_1_2_3_4_5_6_7_8_9_10_11_12 A5 c5 z' hF' hN h11 hend
theorem sos_0_1_2_3_4_5_6_7_8_9_10 (z : Nat) (hF : FZ A1 A2 A3 A4 n1 c1 n2 c2 c3 c4 gc gx room us us' v0 v) (hN : NZ room us us' dim out s) (hend : ∀ (y : Act) v, FZ A1 A2 A3 A4 n1 c1 n2 c2 c3 c4 gc gx room us us' v0 v → y.defers = [] → y.tmps.size = 72 → y.tmps[2]? = some (.bool true) → KV Tryz.prog H Tgt (G (soF.at y (.inRegion soOps [] :: kk)) cs) v) :
    KV Tryz.prog H Tgt (G (soF.at (soA A A1 A2 A3 A4 n c n1 c1 n2 c2 c3 c4 gc gx dim out y7 y34 y35 y36 y37 y38 y39 y40 y41 y42 y43 y44 y45 y46 y47 y48 y49 y50 y51 y52 y53 (.bool false) (.int .i64 0) (.bool true) (.bool true) (.agg #[.slice A3 n1 c3, .slice A4 n2 c4]) (.int .i64 dim) (.int .i64 s) (.int .i64 out) (.bool true) (.bool true) (.bool true) (.agg #[.slice A3 n1 c3, .slice A4 n2 c4]) undef undef undef undef undef) (.inRegion soOps (Region.linearise.go .any soOps 6 z #[true, true, true, true, true, true, true, true, true, true, true, false, false, false, false, false, false] []) :: kk)) cs) v := by
  obtain ⟨i, hi, z', e⟩ := go_some (md := .any) (ops := soOps) (fuel := 5) (t := z) (listed := #[true, true, true, true, true, true, true, true, true, true, true, false, false, false, false, false, false]) (rs := [11, 12]) (by kernel_rfl) (by simp)
  rw [e]
  clear e
  simp only [List.mem_cons, List.not_mem_nil, or_false] at hi
  rcases hi with rfl | rfl
  · exact so_11 hF hN fun A5 c5 v' hF' h11 => sos_0_1_2_3_4_5_6_7_8_9_10_11 A5 c5 z' hF' hN h11 hend
  · exact so_12 hF hN (sos_0_1_2_3_4_5_6_7_8_9_10_12 z' hF hN hend)
theorem sos_0_1_2_3_4_5_6_7_8_9_12 (z : Nat) (hF : FZ A1 A2 A3 A4 n1 c1 n2 c2 c3 c4 gc gx room us us' v0 v) (hN : NZ room us us' dim out s) (hend : ∀ (y : Act) v, FZ A1 A2 A3 A4 n1 c1 n2 c2 c3 c4 gc gx room us us' v0 v → y.defers = [] → y.tmps.size = 72 → y.tmps[2]? = some (.bool true) → KV Tryz.prog H Tgt (G (soF.at y (.inRegion soOps [] :: kk)) cs) v) :
    KV Tryz.prog H Tgt (G (soF.at (soA A A1 A2 A3 A4 n c n1 c1 n2 c2 c3 c4 gc gx dim out y7 y34 y35 y36 y37 y38 y39 y40 y41 y42 y43 y44 y45 y46 y47 y48 y49 y50 y51 y52 y53 (.bool false) (.int .i64 0) (.bool true) (.bool true) (.agg #[.slice A3 n1 c3, .slice A4 n2 c4]) (.int .i64 dim) (.int .i64 s) (.int .i64 out) (.bool true) (.bool true) (.bool true) undef undef (.agg #[.slice A1 n1 c1, .slice A2 n2 c2]) undef undef undef) (.inRegion soOps (Region.linearise.go .any soOps 6 z #[true, true, true, true, true, true, true, true, true, true, false, false, true, false, false, false, false] []) :: kk)) cs) v := by
  obtain ⟨i, hi, z', e⟩ := go_some (md := .any) (ops := soOps) (fuel := 5) (t := z) (listed := #[true, true, true, true, true, true, true, true, true, true, false, false, true, false, false, false, false]) (rs := [10]) (by kernel_rfl) (by simp)
  rw [e]
  clear e
  simp only [List.mem_cons, List.not_mem_nil, or_false] at hi
  rcases hi with rfl
  · exact so_10 hF hN (sos_0_1_2_3_4_5_6_7_8_9_10_12 z' hF hN hend)
theorem sos_0_1_2_3_4_5_6_7_8_9 (z : Nat) (hF : FZ A1 A2 A3 A4 n1 c1 n2 c2 c3 c4 gc gx room us us' v0 v) (hN : NZ room us us' dim out s) (hend : ∀ (y : Act) v, FZ A1 A2 A3 A4 n1 c1 n2 c2 c3 c4 gc gx room us us' v0 v → y.defers = [] → y.tmps.size = 72 → y.tmps[2]? = some (.bool true) → KV Tryz.prog H Tgt (G (soF.at y (.inRegion soOps [] :: kk)) cs) v) :
    KV Tryz.prog H Tgt (G (soF.at (soA A A1 A2 A3 A4 n c n1 c1 n2 c2 c3 c4 gc gx dim out y7 y34 y35 y36 y37 y38 y39 y40 y41 y42 y43 y44 y45 y46 y47 y48 y49 y50 y51 y52 y53 (.bool false) (.int .i64 0) (.bool true) (.bool true) (.agg #[.slice A3 n1 c3, .slice A4 n2 c4]) (.int .i64 dim) (.int .i64 s) (.int .i64 out) (.bool true) (.bool true) (.bool true) undef undef undef undef undef undef) (.inRegion soOps (Region.linearise.go .any soOps 7 z #[true, true, true, true, true, true, true, true, true, true, false, false, false, false, false, false, false] []) :: kk)) cs) v := by
  obtain ⟨i, hi, z', e⟩ := go_some (md := .any) (ops := soOps) (fuel := 6) (t := z) (listed := #[true, true, true, true, true, true, true, true, true, true, false, false, false, false, false, false, false]) (rs := [10, 12]) (by kernel_rfl) (by simp)
  rw [e]
  clear e
  simp only [List.mem_cons, List.not_mem_nil, or_false] at hi
  rcases hi with rfl | rfl
  · exact so_10 hF hN (sos_0_1_2_3_4_5_6_7_8_9_10 z' hF hN hend)
  · exact so_12 hF hN (sos_0_1_2_3_4_5_6_7_8_9_12 z' hF hN hend)
theorem sos_0_1_2_3_4_5_6_7_8 (z : Nat) (hF : FZ A1 A2 A3 A4 n1 c1 n2 c2 c3 c4 gc gx room us us' v0 v) (hN : NZ room us us' dim out s) (hend : ∀ (y : Act) v, FZ A1 A2 A3 A4 n1 c1 n2 c2 c3 c4 gc gx room us us' v0 v → y.defers = [] → y.tmps.size = 72 → y.tmps[2]? = some (.bool true) → KV Tryz.prog H Tgt (G (soF.at y (.inRegion soOps [] :: kk)) cs) v) :
    KV Tryz.prog H Tgt (G (soF.at (soA A A1 A2 A3 A4 n c n1 c1 n2 c2 c3 c4 gc gx dim out y7 y34 y35 y36 y37 y38 y39 y40 y41 y42 y43 y44 y45 y46 y47 y48 y49 y50 y51 y52 y53 (.bool false) (.int .i64 0) (.bool true) (.bool true) (.agg #[.slice A3 n1 c3, .slice A4 n2 c4]) (.int .i64 dim) (.int .i64 s) (.int .i64 out) (.bool true) (.bool true) undef undef undef undef undef undef undef) (.inRegion soOps (Region.linearise.go .any soOps 8 z #[true, true, true, true, true, true, true, true, true, false, false, false, false, false, false, false, false] []) :: kk)) cs) v := by
  obtain ⟨i, hi, z', e⟩ := go_some (md := .any) (ops := soOps) (fuel := 7) (t := z) (listed := #[true, true, true, true, true, true, true, true, true, false, false, false, false, false, false, false, false]) (rs := [9]) (by kernel_rfl) (by simp)
  rw [e]
  clear e
  simp only [List.mem_cons, List.not_mem_nil, or_false] at hi
  rcases hi with rfl
  · exact so_9 hF hN (sos_0_1_2_3_4_5_6_7_8_9 z' hF hN hend)
theorem sos_0_1_2_3_4_5_6_7 (z : Nat) (hF : FZ A1 A2 A3 A4 n1 c1 n2 c2 c3 c4 gc gx room us us' v0 v) (hN : NZ room us us' dim out s) (hend : ∀ (y : Act) v, FZ A1 A2 A3 A4 n1 c1 n2 c2 c3 c4 gc gx room us us' v0 v → y.defers = [] → y.tmps.size = 72 → y.tmps[2]? = some (.bool true) → KV Tryz.prog H Tgt (G (soF.at y (.inRegion soOps [] :: kk)) cs) v) :
    KV Tryz.prog H Tgt (G (soF.at (soA A A1 A2 A3 A4 n c n1 c1 n2 c2 c3 c4 gc gx dim out y7 y34 y35 y36 y37 y38 y39 y40 y41 y42 y43 y44 y45 y46 y47 y48 y49 y50 y51 y52 y53 (.bool false) (.int .i64 0) (.bool true) (.bool true) (.agg #[.slice A3 n1 c3, .slice A4 n2 c4]) (.int .i64 dim) (.int .i64 s) (.int .i64 out) (.bool true) undef undef undef undef undef undef undef undef) (.inRegion soOps (Region.linearise.go .any soOps 9 z #[true, true, true, true, true, true, true, true, false, false, false, false, false, false, false, false, false] []) :: kk)) cs) v := by
  obtain ⟨i, hi, z', e⟩ := go_some (md := .any) (ops := soOps) (fuel := 8) (t := z) (listed := #[true, true, true, true, true, true, true, true, false, false, false, false, false, false, false, false, false]) (rs := [8]) (by kernel_rfl) (by simp)
  rw [e]
  clear e
  simp only [List.mem_cons, List.not_mem_nil, or_false] at hi
  rcases hi with rfl
  · exact so_8 hF hN (sos_0_1_2_3_4_5_6_7_8 z' hF hN hend)
theorem sos_0_1_2_3_4_5_6 (z : Nat) (hF : FZ A1 A2 A3 A4 n1 c1 n2 c2 c3 c4 gc gx room us us' v0 v) (hN : NZ room us us' dim out s) (hend : ∀ (y : Act) v, FZ A1 A2 A3 A4 n1 c1 n2 c2 c3 c4 gc gx room us us' v0 v → y.defers = [] → y.tmps.size = 72 → y.tmps[2]? = some (.bool true) → KV Tryz.prog H Tgt (G (soF.at y (.inRegion soOps [] :: kk)) cs) v) :
    KV Tryz.prog H Tgt (G (soF.at (soA A A1 A2 A3 A4 n c n1 c1 n2 c2 c3 c4 gc gx dim out y7 y34 y35 y36 y37 y38 y39 y40 y41 y42 y43 y44 y45 y46 y47 y48 y49 y50 y51 y52 y53 (.bool false) (.int .i64 0) (.bool true) (.bool true) (.agg #[.slice A3 n1 c3, .slice A4 n2 c4]) (.int .i64 dim) (.int .i64 s) (.int .i64 out) undef undef undef undef undef undef undef undef undef) (.inRegion soOps (Region.linearise.go .any soOps 10 z #[true, true, true, true, true, true, true, false, false, false, false, false, false, false, false, false, false] []) :: kk)) cs) v := by
  obtain ⟨i, hi, z', e⟩ := go_some (md := .any) (ops := soOps) (fuel := 9) (t := z) (listed := #[true, true, true, true, true, true, true, false, false, false, false, false, false, false, false, false, false]) (rs := [7]) (by kernel_rfl) (by simp)
  rw [e]
  clear e
  simp only [List.mem_cons, List.not_mem_nil, or_false] at hi
  rcases hi with rfl
  · exact so_7 hF hN (sos_0_1_2_3_4_5_6_7 z' hF hN hend)
theorem sos_0_1_2_3_4_5 (z : Nat) (hF : FZ A1 A2 A3 A4 n1 c1 n2 c2 c3 c4 gc gx room us us' v0 v) (hN : NZ room us us' dim out s) (hend : ∀ (y : Act) v, FZ A1 A2 A3 A4 n1 c1 n2 c2 c3 c4 gc gx room us us' v0 v → y.defers = [] → y.tmps.size = 72 → y.tmps[2]? = some (.bool true) → KV Tryz.prog H Tgt (G (soF.at y (.inRegion soOps [] :: kk)) cs) v) :
    KV Tryz.prog H Tgt (G (soF.at (soA A A1 A2 A3 A4 n c n1 c1 n2 c2 c3 c4 gc gx dim out y7 y34 y35 y36 y37 y38 y39 y40 y41 y42 y43 y44 y45 y46 y47 y48 y49 y50 y51 y52 y53 (.bool false) (.int .i64 0) (.bool true) (.bool true) (.agg #[.slice A3 n1 c3, .slice A4 n2 c4]) (.int .i64 dim) (.int .i64 s) undef undef undef undef undef undef undef undef undef undef) (.inRegion soOps (Region.linearise.go .any soOps 11 z #[true, true, true, true, true, true, false, false, false, false, false, false, false, false, false, false, false] []) :: kk)) cs) v := by
  obtain ⟨i, hi, z', e⟩ := go_some (md := .any) (ops := soOps) (fuel := 10) (t := z) (listed := #[true, true, true, true, true, true, false, false, false, false, false, false, false, false, false, false, false]) (rs := [6]) (by kernel_rfl) (by simp)
  rw [e]
  clear e
  simp only [List.mem_cons, List.not_mem_nil, or_false] at hi
  rcases hi with rfl
  · exact so_6 hF hN (sos_0_1_2_3_4_5_6 z' hF hN hend)
theorem sos_0_1_2_3_4_6 (z : Nat) (hF : FZ A1 A2 A3 A4 n1 c1 n2 c2 c3 c4 gc gx room us us' v0 v) (hN : NZ room us us' dim out s) (hend : ∀ (y : Act) v, FZ A1 A2 A3 A4 n1 c1 n2 c2 c3 c4 gc gx room us us' v0 v → y.defers = [] → y.tmps.size = 72 → y.tmps[2]? = some (.bool true) → KV Tryz.prog H Tgt (G (soF.at y (.inRegion soOps [] :: kk)) cs) v) :
    KV Tryz.prog H Tgt (G (soF.at (soA A A1 A2 A3 A4 n c n1 c1 n2 c2 c3 c4 gc gx dim out y7 y34 y35 y36 y37 y38 y39 y40 y41 y42 y43 y44 y45 y46 y47 y48 y49 y50 y51 y52 y53 (.bool false) (.int .i64 0) (.bool true) (.bool true) (.agg #[.slice A3 n1 c3, .slice A4 n2 c4]) (.int .i64 dim) undef (.int .i64 out) undef undef undef undef undef undef undef undef undef) (.inRegion soOps (Region.linearise.go .any soOps 11 z #[true, true, true, true, true, false, true, false, false, false, false, false, false, false, false, false, false] []) :: kk)) cs) v := by
  obtain ⟨i, hi, z', e⟩ := go_some (md := .any) (ops := soOps) (fuel := 10) (t := z) (listed := #[true, true, true, true, true, false, true, false, false, false, false, false, false, false, false, false, false]) (rs := [5]) (by kernel_rfl) (by simp)
  rw [e]
  clear e
  simp only [List.mem_cons, List.not_mem_nil, or_false] at hi
  rcases hi with rfl
  · exact so_5 hF hN fun v' hF' => sos_0_1_2_3_4_5_6 z' hF' hN hend
theorem sos_0_1_2_3_4 (z : Nat) (hF : FZ A1 A2 A3 A4 n1 c1 n2 c2 c3 c4 gc gx room us us' v0 v) (hN : NZ room us us' dim out s) (hend : ∀ (y : Act) v, FZ A1 A2 A3 A4 n1 c1 n2 c2 c3 c4 gc gx room us us' v0 v → y.defers = [] → y.tmps.size = 72 → y.tmps[2]? = some (.bool true) → KV Tryz.prog H Tgt (G (soF.at y (.inRegion soOps [] :: kk)) cs) v) :
    KV Tryz.prog H Tgt (G (soF.at (soA A A1 A2 A3 A4 n c n1 c1 n2 c2 c3 c4 gc gx dim out y7 y34 y35 y36 y37 y38 y39 y40 y41 y42 y43 y44 y45 y46 y47 y48 y49 y50 y51 y52 y53 (.bool false) (.int .i64 0) (.bool true) (.bool true) (.agg #[.slice A3 n1 c3, .slice A4 n2 c4]) (.int .i64 dim) undef undef undef undef undef undef undef undef undef undef undef) (.inRegion soOps (Region.linearise.go .any soOps 12 z #[true, true, true, true, true, false, false, false, false, false, false, false, false, false, false, false, false] []) :: kk)) cs) v := by
  obtain ⟨i, hi, z', e⟩ := go_some (md := .any) (ops := soOps) (fuel := 11) (t := z) (listed := #[true, true, true, true, true, false, false, false, false, false, false, false, false, false, false, false, false]) (rs := [5, 6]) (by kernel_rfl) (by simp)
  rw [e]
  clear e
  simp only [List.mem_cons, List.not_mem_nil, or_false] at hi
  rcases hi with rfl | rfl
  · exact so_5 hF hN fun v' hF' => sos_0_1_2_3_4_5 z' hF' hN hend
  · exact so_6 hF hN (sos_0_1_2_3_4_6 z' hF hN hend)
theorem sos_0_1_2_3_6 (z : Nat) (hF : FZ A1 A2 A3 A4 n1 c1 n2 c2 c3 c4 gc gx room us us' v0 v) (hN : NZ room us us' dim out s) (hend : ∀ (y : Act) v, FZ A1 A2 A3 A4 n1 c1 n2 c2 c3 c4 gc gx room us us' v0 v → y.defers = [] → y.tmps.size = 72 → y.tmps[2]? = some (.bool true) → KV Tryz.prog H Tgt (G (soF.at y (.inRegion soOps [] :: kk)) cs) v) :
    KV Tryz.prog H Tgt (G (soF.at (soA A A1 A2 A3 A4 n c n1 c1 n2 c2 c3 c4 gc gx dim out y7 y34 y35 y36 y37 y38 y39 y40 y41 y42 y43 y44 y45 y46 y47 y48 y49 y50 y51 y52 y53 (.bool false) (.int .i64 0) (.bool true) (.bool true) (.agg #[.slice A3 n1 c3, .slice A4 n2 c4]) undef undef (.int .i64 out) undef undef undef undef undef undef undef undef undef) (.inRegion soOps (Region.linearise.go .any soOps 12 z #[true, true, true, true, false, false, true, false, false, false, false, false, false, false, false, false, false] []) :: kk)) cs) v := by
  obtain ⟨i, hi, z', e⟩ := go_some (md := .any) (ops := soOps) (fuel := 11) (t := z) (listed := #[true, true, true, true, false, false, true, false, false, false, false, false, false, false, false, false, false]) (rs := [4]) (by kernel_rfl) (by simp)
  rw [e]
  clear e
  simp only [List.mem_cons, List.not_mem_nil, or_false] at hi
  rcases hi with rfl
  · exact so_4 hF hN (sos_0_1_2_3_4_6 z' hF hN hend)
theorem sos_0_1_2_4_6 (z : Nat) (hF : FZ A1 A2 A3 A4 n1 c1 n2 c2 c3 c4 gc gx room us us' v0 v) (hN : NZ room us us' dim out s) (hend : ∀ (y : Act) v, FZ A1 A2 A3 A4 n1 c1 n2 c2 c3 c4 gc gx room us us' v0 v → y.defers = [] → y.tmps.size = 72 → y.tmps[2]? = some (.bool true) → KV Tryz.prog H Tgt (G (soF.at y (.inRegion soOps [] :: kk)) cs) v) :
    KV Tryz.prog H Tgt (G (soF.at (soA A A1 A2 A3 A4 n c n1 c1 n2 c2 c3 c4 gc gx dim out y7 y34 y35 y36 y37 y38 y39 y40 y41 y42 y43 y44 y45 y46 y47 y48 y49 y50 y51 y52 y53 (.bool false) (.int .i64 0) (.bool true) (.bool true) undef (.int .i64 dim) undef (.int .i64 out) undef undef undef undef undef undef undef undef undef) (.inRegion soOps (Region.linearise.go .any soOps 12 z #[true, true, true, false, true, false, true, false, false, false, false, false, false, false, false, false, false] []) :: kk)) cs) v := by
  obtain ⟨i, hi, z', e⟩ := go_some (md := .any) (ops := soOps) (fuel := 11) (t := z) (listed := #[true, true, true, false, true, false, true, false, false, false, false, false, false, false, false, false, false]) (rs := [3]) (by kernel_rfl) (by simp)
  rw [e]
  clear e
  simp only [List.mem_cons, List.not_mem_nil, or_false] at hi
  rcases hi with rfl
  · exact so_3 hF hN (sos_0_1_2_3_4_6 z' hF hN hend)
theorem sos_0_1_2_3 (z : Nat) (hF : FZ A1 A2 A3 A4 n1 c1 n2 c2 c3 c4 gc gx room us us' v0 v) (hN : NZ room us us' dim out s) (hend : ∀ (y : Act) v, FZ A1 A2 A3 A4 n1 c1 n2 c2 c3 c4 gc gx room us us' v0 v → y.defers = [] → y.tmps.size = 72 → y.tmps[2]? = some (.bool true) → KV Tryz.prog H Tgt (G (soF.at y (.inRegion soOps [] :: kk)) cs) v) :
    KV Tryz.prog H Tgt (G (soF.at (soA A A1 A2 A3 A4 n c n1 c1 n2 c2 c3 c4 gc gx dim out y7 y34 y35 y36 y37 y38 y39 y40 y41 y42 y43 y44 y45 y46 y47 y48 y49 y50 y51 y52 y53 (.bool false) (.int .i64 0) (.bool true) (.bool true) (.agg #[.slice A3 n1 c3, .slice A4 n2 c4]) undef undef undef undef undef undef undef undef undef undef undef undef) (.inRegion soOps (Region.linearise.go .any soOps 13 z #[true, true, true, true, false, false, false, false, false, false, false, false, false, false, false, false, false] []) :: kk)) cs) v := by
  obtain ⟨i, hi, z', e⟩ := go_some (md := .any) (ops := soOps) (fuel := 12) (t := z) (listed := #[true, true, true, true, false, false, false, false, false, false, false, false, false, false, false, false, false]) (rs := [4, 6]) (by kernel_rfl) (by simp)
  rw [e]
  clear e
  simp only [List.mem_cons, List.not_mem_nil, or_false] at hi
  rcases hi with rfl | rfl
  · exact so_4 hF hN (sos_0_1_2_3_4 z' hF hN hend)
  · exact so_6 hF hN (sos_0_1_2_3_6 z' hF hN hend)
theorem sos_0_1_2_4 (z : Nat) (hF : FZ A1 A2 A3 A4 n1 c1 n2 c2 c3 c4 gc gx room us us' v0 v) (hN : NZ room us us' dim out s) (hend : ∀ (y : Act) v, FZ A1 A2 A3 A4 n1 c1 n2 c2 c3 c4 gc gx room us us' v0 v → y.defers = [] → y.tmps.size = 72 → y.tmps[2]? = some (.bool true) → KV Tryz.prog H Tgt (G (soF.at y (.inRegion soOps [] :: kk)) cs) v) :
    KV Tryz.prog H Tgt (G (soF.at (soA A A1 A2 A3 A4 n c n1 c1 n2 c2 c3 c4 gc gx dim out y7 y34 y35 y36 y37 y38 y39 y40 y41 y42 y43 y44 y45 y46 y47 y48 y49 y50 y51 y52 y53 (.bool false) (.int .i64 0) (.bool true) (.bool true) undef (.int .i64 dim) undef undef undef undef undef undef undef undef undef undef undef) (.inRegion soOps (Region.linearise.go .any soOps 13 z #[true, true, true, false, true, false, false, false, false, false, false, false, false, false, false, false, false] []) :: kk)) cs) v := by
  obtain ⟨i, hi, z', e⟩ := go_some (md := .any) (ops := soOps) (fuel := 12) (t := z) (listed := #[true, true, true, false, true, false, false, false, false, false, false, false, false, false, false, false, false]) (rs := [3, 6]) (by kernel_rfl) (by simp)
  rw [e]
  clear e
  simp only [List.mem_cons, List.not_mem_nil, or_false] at hi
  rcases hi with rfl | rfl
  · exact so_3 hF hN (sos_0_1_2_3_4 z' hF hN hend)
  · exact so_6 hF hN (sos_0_1_2_4_6 z' hF hN hend)
theorem sos_0_1_2_6 (z : Nat) (hF : FZ A1 A2 A3 A4 n1 c1 n2 c2 c3 c4 gc gx room us us' v0 v) (hN : NZ room us us' dim out s) (hend : ∀ (y : Act) v, FZ A1 A2 A3 A4 n1 c1 n2 c2 c3 c4 gc gx room us us' v0 v → y.defers = [] → y.tmps.size = 72 → y.tmps[2]? = some (.bool true) → KV Tryz.prog H Tgt (G (soF.at y (.inRegion soOps [] :: kk)) cs) v) :
    KV Tryz.prog H Tgt (G (soF.at (soA A A1 A2 A3 A4 n c n1 c1 n2 c2 c3 c4 gc gx dim out y7 y34 y35 y36 y37 y38 y39 y40 y41 y42 y43 y44 y45 y46 y47 y48 y49 y50 y51 y52 y53 (.bool false) (.int .i64 0) (.bool true) (.bool true) undef undef undef (.int .i64 out) undef undef undef undef undef undef undef undef undef) (.inRegion soOps (Region.linearise.go .any soOps 13 z #[true, true, true, false, false, false, true, false, false, false, false, false, false, false, false, false, false] []) :: kk)) cs) v := by
  obtain ⟨i, hi, z', e⟩ := go_some (md := .any) (ops := soOps) (fuel := 12) (t := z) (listed := #[true, true, true, false, false, false, true, false, false, false, false, false, false, false, false, false, false]) (rs := [3, 4]) (by kernel_rfl) (by simp)
  rw [e]
  clear e
  simp only [List.mem_cons, List.not_mem_nil, or_false] at hi
  rcases hi with rfl | rfl
  · exact so_3 hF hN (sos_0_1_2_3_6 z' hF hN hend)
  · exact so_4 hF hN (sos_0_1_2_4_6 z' hF hN hend)
theorem sos_0_1_2 (z : Nat) (hF : FZ A1 A2 A3 A4 n1 c1 n2 c2 c3 c4 gc gx room us us' v0 v) (hN : NZ room us us' dim out s) (hend : ∀ (y : Act) v, FZ A1 A2 A3 A4 n1 c1 n2 c2 c3 c4 gc gx room us us' v0 v → y.defers = [] → y.tmps.size = 72 → y.tmps[2]? = some (.bool true) → KV Tryz.prog H Tgt (G (soF.at y (.inRegion soOps [] :: kk)) cs) v) :
    KV Tryz.prog H Tgt (G (soF.at (soA A A1 A2 A3 A4 n c n1 c1 n2 c2 c3 c4 gc gx dim out y7 y34 y35 y36 y37 y38 y39 y40 y41 y42 y43 y44 y45 y46 y47 y48 y49 y50 y51 y52 y53 (.bool false) (.int .i64 0) (.bool true) (.bool true) undef undef undef undef undef undef undef undef undef undef undef undef undef) (.inRegion soOps (Region.linearise.go .any soOps 14 z #[true, true, true, false, false, false, false, false, false, false, false, false, false, false, false, false, false] []) :: kk)) cs) v := by
  obtain ⟨i, hi, z', e⟩ := go_some (md := .any) (ops := soOps) (fuel := 13) (t := z) (listed := #[true, true, true, false, false, false, false, false, false, false, false, false, false, false, false, false, false]) (rs := [3, 4, 6]) (by kernel_rfl) (by simp)
  rw [e]
  clear e
  simp only [List.mem_cons, List.not_mem_nil, or_false] at hi
  rcases hi with rfl | rfl | rfl
  · exact so_3 hF hN (sos_0_1_2_3 z' hF hN hend)
  · exact so_4 hF hN (sos_0_1_2_4 z' hF hN hend)
  · exact so_6 hF hN (sos_0_1_2_6 z' hF hN hend)
theorem sos_0_1 (z : Nat) (hF : FZ A1 A2 A3 A4 n1 c1 n2 c2 c3 c4 gc gx room us us' v0 v) (hN : NZ room us us' dim out s) (hend : ∀ (y : Act) v, FZ A1 A2 A3 A4 n1 c1 n2 c2 c3 c4 gc gx room us us' v0 v → y.defers = [] → y.tmps.size = 72 → y.tmps[2]? = some (.bool true) → KV Tryz.prog H Tgt (G (soF.at y (.inRegion soOps [] :: kk)) cs) v) :
    KV Tryz.prog H Tgt (G (soF.at (soA A A1 A2 A3 A4 n c n1 c1 n2 c2 c3 c4 gc gx dim out y7 y34 y35 y36 y37 y38 y39 y40 y41 y42 y43 y44 y45 y46 y47 y48 y49 y50 y51 y52 y53 (.bool false) (.int .i64 0) (.bool true) undef undef undef undef undef undef undef undef undef undef undef undef undef undef) (.inRegion soOps (Region.linearise.go .any soOps 15 z #[true, true, false, false, false, false, false, false, false, false, false, false, false, false, false, false, false] []) :: kk)) cs) v := by
  obtain ⟨i, hi, z', e⟩ := go_some (md := .any) (ops := soOps) (fuel := 14) (t := z) (listed := #[true, true, false, false, false, false, false, false, false, false, false, false, false, false, false, false, false]) (rs := [2]) (by kernel_rfl) (by simp)
  rw [e]
  clear e
  simp only [List.mem_cons, List.not_mem_nil, or_false] at hi
  rcases hi with rfl
  · exact so_2 hF hN (sos_0_1_2 z' hF hN hend)
theorem sos_0 (z : Nat) (hF : FZ A1 A2 A3 A4 n1 c1 n2 c2 c3 c4 gc gx room us us' v0 v) (hN : NZ room us us' dim out s) (hend : ∀ (y : Act) v, FZ A1 A2 A3 A4 n1 c1 n2 c2 c3 c4 gc gx room us us' v0 v → y.defers = [] → y.tmps.size = 72 → y.tmps[2]? = some (.bool true) → KV Tryz.prog H Tgt (G (soF.at y (.inRegion soOps [] :: kk)) cs) v) :
    KV Tryz.prog H Tgt (G (soF.at (soA A A1 A2 A3 A4 n c n1 c1 n2 c2 c3 c4 gc gx dim out y7 y34 y35 y36 y37 y38 y39 y40 y41 y42 y43 y44 y45 y46 y47 y48 y49 y50 y51 y52 y53 (.bool false) (.int .i64 0) undef undef undef undef undef undef undef undef undef undef undef undef undef undef undef) (.inRegion soOps (Region.linearise.go .any soOps 16 z #[true, false, false, false, false, false, false, false, false, false, false, false, false, false, false, false, false] []) :: kk)) cs) v := by
  obtain ⟨i, hi, z', e⟩ := go_some (md := .any) (ops := soOps) (fuel := 15) (t := z) (listed := #[true, false, false, false, false, false, false, false, false, false, false, false, false, false, false, false, false]) (rs := [1]) (by kernel_rfl) (by simp)
  rw [e]
  clear e
  simp only [List.mem_cons, List.not_mem_nil, or_false] at hi
  rcases hi with rfl
  · exact so_1 hF hN (sos_0_1 z' hF hN hend)
theorem sos_start (z : Nat) (hF : FZ A1 A2 A3 A4 n1 c1 n2 c2 c3 c4 gc gx room us us' v0 v) (hN : NZ room us us' dim out s) (hend : ∀ (y : Act) v, FZ A1 A2 A3 A4 n1 c1 n2 c2 c3 c4 gc gx room us us' v0 v → y.defers = [] → y.tmps.size = 72 → y.tmps[2]? = some (.bool true) → KV Tryz.prog H Tgt (G (soF.at y (.inRegion soOps [] :: kk)) cs) v) :
    KV Tryz.prog H Tgt (G (soF.at (soA A A1 A2 A3 A4 n c n1 c1 n2 c2 c3 c4 gc gx dim out y7 y34 y35 y36 y37 y38 y39 y40 y41 y42 y43 y44 y45 y46 y47 y48 y49 y50 y51 y52 y53 (.bool false) undef undef undef undef undef undef undef undef undef undef undef undef undef undef undef undef) (.inRegion soOps (Region.linearise.go .any soOps 17 z #[false, false, false, false, false, false, false, false, false, false, false, false, false, false, false, false, false] []) :: kk)) cs) v := by
  obtain ⟨i, hi, z', e⟩ := go_some (md := .any) (ops := soOps) (fuel := 16) (t := z) (listed := #[false, false, false, false, false, false, false, false, false, false, false, false, false, false, false, false, false]) (rs := [0]) (by kernel_rfl) (by simp)
  rw [e]
  clear e
  simp only [List.mem_cons, List.not_mem_nil, or_false] at hi
  rcases hi with rfl
  · exact so_0 hF hN (sos_0 z' hF hN hend)
end
end Go.Proofs.YtlcgbnmmbheleaaGreat
