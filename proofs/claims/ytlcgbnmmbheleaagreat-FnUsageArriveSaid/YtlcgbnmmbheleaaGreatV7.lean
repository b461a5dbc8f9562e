/- Several texts in one. -/
import Derived.Test.YtlcgbnmmbheleaaGreatV6
import Derived.Conc.CrowdStepC2
import Derived.Conc.WgGenN2
namespace Go.Proofs.YtlcgbnmmbheleaaGreat
open Go Go.Conc
open Go.ConcN (WSit AtR0 RW DWs Has PayAt WgLive CTag WD CT OkW Ok0 RelBy phi cnt Vc Ssum Fsum pend sumTo upd upd_same upd_ne isOpen isW3 isFin OpenSt AllQuit bk_cell norel_of bk_dis bk_en bk_rd bk_rw bk_sem sumTo_upd_out lt2_trans allQuit_of Deaf_still Deaf_absent cell_of_block deafBehind_idle)
open Go.ConcR (KK WgAt stA smA rd wr mk Payload g_of_ofEvents Bk ofEvent_loc_mark ofEvent_mk)
set_option linter.unusedVariables false
set_option linter.unusedSimpArgs false
variable [Payload]

structure EvZ (K : Cw) (ow lw : Nat → Nat) (J N : Nat) (e : Event) : Prop where
  touch : ∀ x, (MemAct.ofEvent e).touch? = some x → x.loc.low N ∧ ((ShS K.S1 x.loc ∧ x.kind ≠ .plain) ∨ (¬ ShS K.S1 x.loc ∧ (∀ k, 1 ≤ k → k ≤ J → ¬ OwnL K ow k x.loc) ∧ (x.write = true → ∀ k, 1 ≤ k → k ≤ J → ¬ RdL K ow lw k x.loc)))
  norel : e.loc ≠ .mark (.release (stA K.Wg))

section
variable {P : Program} {K : Cw} {AnchW Fin : Goroutine → World → Prop} {v0 w0 w w' : World} {t0 t : Trace} {J N k : Nat} {gs : Array Goroutine} {ow ow' lw lw' : Nat → Nat} {vl : Nat → Value} {O O' : Nat → Prop} {D : Nat → WD} {d0 f0 f' : Nat} {tag tag' : CTag} {sl : Option (Nat × Nat)} {a a' : Goroutine}
  {es : Array Event} {st sm st' sm' : Int}

omit [Payload] in
theorem Tr.ev0 (h : Tr K ow lw J N t0 t) {fn : FuncId} {pos : String} (hes : ∀ e ∈ es, EvZ K ow lw J N e) : Tr K ow lw J N t0 (t ++ MemOp.ofEvents 0 fn pos es) := by
  have hu : ∀ op ∈ MemOp.ofEvents 0 fn pos es, ∃ e ∈ es, op = { g := 0, fn, pos, act := .ofEvent e } := fun op hop => Go.Conc.mem_ofEvents hop
  refine ⟨?_, h.ct.app0 (apart_ow K ow lw) fun op hop => ?_, fun op hop x hx => ?_, fun i hi hx => ?_, h.old⟩
  · obtain ⟨u, rfl, h1⟩ := h.since
    refine ⟨u ++ MemOp.ofEvents 0 fn pos es, by rw [Array.append_assoc], fun op hop => ?_⟩
    rcases Array.mem_append.1 hop with hop | hop
    · exact h1 op hop
    · obtain ⟨e, he, rfl⟩ := hu op hop
      exact .inl rfl
  · obtain ⟨e, he, rfl⟩ := hu op hop
    exact ⟨rfl, fun x hx => ((hes e he).touch x hx).2⟩
  · rcases Array.mem_append.1 hop with hop | hop
    · exact h.low op hop x hx
    · obtain ⟨e, he, rfl⟩ := hu op hop
      exact ((hes e he).touch x hx).1
  · obtain ⟨op, ho, hoa⟩ := Option.map_eq_some_iff.1 hx
    rcases getElem?_append_cases ho with ⟨_, ho'⟩ | ⟨_, hou⟩
    · exact h.norel i hi (by rw [Trace.act?, ho']; exact congrArg some hoa)
    · exact norel_of (fun e he => (hes e he).norel) op hou hoa

omit [Payload] in
theorem EvZ.still {e : Event} (h : (MemAct.ofEvent e).touch? = none) (hn : e.loc ≠ .mark (.release (stA K.Wg))) : EvZ K ow lw J N e := ⟨fun x hx => (by rw [h] at hx; cases hx), hn⟩
omit [Payload] in
theorem EvZ.book (hN : K.Wg < N) {e : Event} (h : Bk K.Wg e) : EvZ K ow lw J N e := by
  rcases h with h | h | ⟨a, wr, rfl, ha⟩
  · exact .still (by rw [ofEvent_loc_mark h]; rfl) (by rw [h]; simp)
  · exact .still (by rw [ofEvent_loc_mark h]; rfl) (by rw [h]; simp)
  · refine ⟨fun x hx => ?_, by simp⟩
    have hx' : some (⟨.cell a, wr, .atomic⟩ : Touch) = some x := hx
    cases hx'
    exact ⟨(by rw [← ha] at hN; exact hN), .inl ⟨⟨a, rfl, .inr ha⟩, by simp⟩⟩
theorem EvZ.of0 (hK : K.Ok) (h : Com P K w0 t0 J gs w t ow lw vl O D d0) {e : Event} (he : E0 K O e) : EvZ K ow lw J w.heap.size e := by
  rcases he with ⟨a, wr, rfl, h1, h2, h3⟩ | ⟨a, h1, h2⟩
  · refine ⟨fun x hx => ?_, by simp⟩
    have hx' : some (⟨.cell a, wr, .plain⟩ : Touch) = some x := hx
    cases hx'
    have h0 : ow a.block = 0 := h3.elim (fun z => h.own0 _ z.1) (fun z => (h.oO _ z).2.2.1)
    refine ⟨h3.elim (fun z => Nat.lt_of_lt_of_le z.1 h.sB) (fun z => (h.oO _ z).2.1), .inr ⟨fun ⟨b, e, hb⟩ => (by cases e; exact h1 hb), fun k k1 kJ hk => ?_, fun hw k k1 kJ hk => ?_⟩⟩
    · obtain ⟨_, b, e, _, h4⟩ := hk
      cases e
      rcases h4 with ⟨h4, _⟩ | ⟨h4, _⟩
      · omega
      · exact h2 h4
    · obtain ⟨_, b, e, _, _, h5, _⟩ := hk
      cases e
      rcases h3 with ⟨_, h3⟩ | h3
      · dsimp only at hw; rw [h3] at hw; cases hw
      · have := (h.oO _ h3).2.2.2 (k - 1) (by omega); omega
  · refine ⟨fun x hx => ?_, by rcases h1 with rfl | rfl <;> simp⟩
    have hlow : a.block < w.heap.size := by rw [h2]; exact Nat.lt_of_lt_of_le hK.hW h.sB
    rcases h1 with rfl | rfl
    · have hx' : some (⟨.cell a, false, .said⟩ : Touch) = some x := hx
      cases hx'
      exact ⟨hlow, .inl ⟨⟨a, rfl, .inr h2⟩, by simp⟩⟩
    · have hx' : some (⟨.cell a, true, .said⟩ : Touch) = some x := hx
      cases hx'
      exact ⟨hlow, .inl ⟨⟨a, rfl, .inr h2⟩, by simp⟩⟩

theorem cwIdle (hK : K.Ok) (ha : gs[0]? = some a) (hcom : Com P K w0 t0 J gs w t ow lw vl O D d0) (hwg : WgAt K.ty K.Wg w st sm) (hmode : ConcN.Mode J D tag st sm) (hacq : tag = .ret → AcqK K J t)
    (hgo : stepG P true a w = .go a' w' es) (hD : DS K O w w' es) (hcs' : CS P K AnchW Fin tag O (J - K.j0) f' d0 a' w') (hf : f' < f0) :
    ∃ m₁ ops μ', runT P (crowd gs w sl) 0 = (.next m₁, ops) ∧ Lt2 μ' (phi K.n (Vc J D) tag + Ssum J D, f0 + 2 * Fsum J D) ∧ CInv P K AnchW Fin w0 t0 μ' m₁ (t ++ ops) := by
  have hsB := hcom.sB
  have hWN : K.Wg < w.heap.size := Nat.lt_of_lt_of_le hK.hW hsB
  have hCN : K.C < w.heap.size := Nat.lt_of_lt_of_le hK.hC hsB
  have hW := hD.mv.rows K.Wg hWN fun h => by have := (hcom.oO _ h).1; have := hK.hW; omega
  have hC := hD.mv.rows K.C hCN fun h => by have := (hcom.oO _ h).1; have := hK.hC; omega
  obtain ⟨cs, hc1, hc2⟩ := id hcom.pay
  have hT : Turn K ow ow lw J 0 w w' := ⟨hD.mv.mono fun b hb => let ⟨h1, _, h3, h4⟩ := hcom.oO b hb; .inr (.inr ⟨h1, h3, fun _ => h4⟩), fun _ _ => rfl, fun b h1 h2 => by rw [hD.size] at h2; omega, fun b hb => hcom.ownN b (by rw [hD.size] at hb; exact hb),
    ⟨_, _, hwg.of_block hW⟩, ⟨cs, hC.trans hc1, hc2⟩, fun c _ => cell_of_block hC c⟩
  have hdf : deafBehind d0 es = d0 := deafBehind_idle (fun e he => by
    rcases hD.evs e he with ⟨_, _, rfl, _⟩ | ⟨_, rfl | rfl, _⟩ <;> exact ⟨by simp, by simp⟩) d0
  exact cwCaller hK ha hcom hgo hT (by rw [hD.size]; exact hcom.tr.ev0 fun e he => EvZ.of0 hK hcom (hD.evs e he)) (fun b hb => let ⟨h1, h2, h3, h4⟩ := hcom.oO b hb; ⟨h1, by rw [hD.size]; exact h2, h3, h4⟩) (by rw [hdf]; exact hcs') (hwg.of_block hW) hmode
    (fun e => (hacq e).app fun i r _ _ hr => hr.appOther g_of_ofEvents (by omega)) (.inr ⟨rfl, hf⟩)

theorem cwBook (hK : K.Ok) (ha : gs[0]? = some a) (hcom : Com P K w0 t0 J gs w t ow lw vl O D d0) (hwg : WgAt K.ty K.Wg w st sm)
    (hgo : stepG P true a w = .go a' w' es) (hAs : Aside K.Wg w w') (hwg' : WgAt K.ty K.Wg w' st' sm') (hbk : ∀ e ∈ es, Bk K.Wg e) (hcs' : CS P K AnchW Fin tag' O (J - K.j0) f' (deafBehind d0 es) a' w')
    (hmode' : ConcN.Mode J D tag' st' sm') (hne : tag' ≠ .ret) (hlt : phi K.n (Vc J D) tag' < phi K.n (Vc J D) tag ∨ (phi K.n (Vc J D) tag' = phi K.n (Vc J D) tag ∧ f' < f0)) :
    ∃ m₁ ops μ', runT P (crowd gs w sl) 0 = (.next m₁, ops) ∧ Lt2 μ' (phi K.n (Vc J D) tag + Ssum J D, f0 + 2 * Fsum J D) ∧ CInv P K AnchW Fin w0 t0 μ' m₁ (t ++ ops) := by
  have hWN : K.Wg < w.heap.size := Nat.lt_of_lt_of_le hK.hW hcom.sB
  obtain ⟨cs, hc1, hc2⟩ := id hcom.pay
  have hT : Turn K ow ow lw J 0 w w' := .still hK hcom (.of_aside hAs hwg hwg') hAs.size ⟨_, _, hwg'⟩ ⟨cs, (hAs.block K.C hK.hCW).trans hc1, hc2⟩ fun c _ => cell_of_block (hAs.block K.C hK.hCW) c
  exact cwCaller hK ha hcom hgo hT (by rw [hAs.size]; exact hcom.tr.ev0 fun e he => EvZ.book hWN (hbk e he)) (fun b hb => let ⟨h1, h2, h3, h4⟩ := hcom.oO b hb; ⟨h1, by rw [hAs.size]; exact h2, h3, h4⟩) hcs' hwg' hmode' (fun e => absurd e hne) hlt

theorem cwAlloc (hK : K.Ok) (ha : gs[0]? = some a) (hcom : Com P K w0 t0 J gs w t ow lw vl O D d0) (hwg : WgAt K.ty K.Wg w st sm) {cs : Array Value} {ty : TypeId}
    (hgo : stepG P true a w = .go a' (w.alloc (.cells cs ty)) #[]) (hcs' : CS P K AnchW Fin tag' O' (J - K.j0) f' d0 a' (w.alloc (.cells cs ty))) (hO' : ∀ b, O' b → O b ∨ b = w.heap.size)
    (hmode' : ConcN.Mode J D tag' st sm) (hne : tag' ≠ .ret) (hlt : phi K.n (Vc J D) tag' < phi K.n (Vc J D) tag) :
    ∃ m₁ ops μ', runT P (crowd gs w sl) 0 = (.next m₁, ops) ∧ Lt2 μ' (phi K.n (Vc J D) tag + Ssum J D, f0 + 2 * Fsum J D) ∧ CInv P K AnchW Fin w0 t0 μ' m₁ (t ++ ops) := by
  have hsB := hcom.sB
  have hWN : K.Wg < w.heap.size := Nat.lt_of_lt_of_le hK.hW hsB
  have hCN : K.C < w.heap.size := Nat.lt_of_lt_of_le hK.hC hsB
  have hsz : (w.alloc (.cells cs ty)).heap.size = w.heap.size + 1 := by show (w.heap.push _).size = _; simp
  have hold : ∀ b, b < w.heap.size → (w.alloc (.cells cs ty)).heap[b]? = w.heap[b]? := fun b hb => by show (w.heap.push _)[b]? = _; rw [Array.getElem?_push, if_neg (by omega)]
  obtain ⟨pcs, hc1, hc2⟩ := id hcom.pay
  have hT : Turn K ow ow lw J 0 w (w.alloc (.cells cs ty)) := ⟨⟨rfl, rfl, rfl, .alloc _ _ _ _, fun b hb _ => hold b hb⟩, fun _ _ => rfl, fun b h1 h2 => hcom.ownN b h1, fun b hb => hcom.ownN b (by omega),
    ⟨_, _, hwg.of_block (hold _ hWN)⟩, ⟨pcs, (hold _ hCN).trans hc1, hc2⟩, fun c _ => cell_of_block (hold _ hCN) c⟩
  refine cwCaller hK ha hcom hgo hT ?_ (fun b hb => ?_) (by rw [deafBehind_nil]; exact hcs') (hwg.of_block (hold _ hWN)) hmode' (fun e => absurd e hne) (.inl hlt)
  · exact (hcom.tr.grow (by omega) (fun _ _ => rfl) (fun b hb => hcom.ownN b hb) hcom.lwN).ev0 (by simp)
  · rcases hO' b hb with hb | rfl
    · obtain ⟨h1, h2, h3, h4⟩ := hcom.oO b hb
      exact ⟨h1, by omega, h3, h4⟩
    · exact ⟨hsB, by omega, hcom.ownN _ (Nat.le_refl _), fun i _ => hcom.lwN i⟩

omit [Payload] in
theorem Tr.relw (h : Tr K ow lw J N t0 t) (hl : ∀ i, i < J → lw' i = lw i) : Tr K ow lw' J N t0 t := by
  have c := h.ct
  have e : ∀ k l, 1 ≤ k → k ≤ J → (RdL K ow lw' k l ↔ RdL K ow lw k l) := fun k l k1 kj => by unfold RdL; rw [hl (k - 1) (by omega)]
  exact ⟨h.since, ⟨c.quiet, c.own, fun k k1 kj l hk => c.rd k k1 kj l ((e k l k1 kj).1 hk), fun l hs hk => c.free l hs fun k k1 kj => ⟨(hk k k1 kj).1, fun x => (hk k k1 kj).2 ((e k l k1 kj).2 x)⟩, c.mine, c.nr, c.gs⟩, h.low, h.norel, h.old⟩

theorem WS.relw {i s m d : Nat} {x : Value} {g : Goroutine} (h : WS P K ow lw i x s m d g w) (hl : lw' i = lw i) : WS P K ow lw' i x s m d g w := by
  have e : HidB K ow lw' i = HidB K ow lw i := by
    funext w b
    unfold HidB Vis
    rw [hl]
  cases h with
  | vw v h1 h2 h3 => exact .vw v h1 ⟨by rw [e]; exact h2.view, h2.tape, h2.drawn⟩ (by rw [hl]; exact h3)
  | lib v h1 h2 h3 h4 h5 => exact .lib v h1 ⟨by rw [e]; exact h2.view, h2.tape, h2.drawn⟩ h3 h4 h5
  | quit h1 h2 => exact .quit h1 h2

theorem Com.view (hK : K.Ok) (hv0 : ViewOf K.S K.H v0 w0) (h : Com P K w0 t0 J gs w t ow lw vl O D d0) (hwg : WgLive K.ty K.Wg w) {X : Nat → Prop} (hXS : ∀ b, X b → b < w.heap.size ∧ (K.S1 b ∨ b = K.C ∨ K.B ≤ b)) (hS : ∀ b, K.S1 b → X b) :
    ∃ v, ViewOf X K.H v w ∧ v.tape = w.tape ∧ v.drawn = w.drawn ∧ ∀ b, ¬ X b → ¬ K.H b → v.heap[b]? = w.heap[b]? := by
  have hSH : ∀ b, K.S b → ¬ K.H b := fun b hs hh => by
    obtain ⟨_, _, _, h1, _⟩ := hv0.dead b hs
    rcases hv0.hid b hh with ⟨_, _, h2, _⟩ | ⟨_, _, h2, _⟩ <;> rw [h1] at h2 <;> cases h2
  have hsB := h.sB
  have hbB := h.bB
  obtain ⟨wst, wsm, hwa⟩ := hwg
  obtain ⟨pcs, hc1, _⟩ := id h.pay
  refine ⟨_, view_make hv0 h.since.os h.since.output (fun b hb => ?_) (fun b hx hh => ?_) (fun b hx => ?_) (fun b hx hh => ?_)⟩
  · have := hK.hB b hb
    exact h.since.rows b (by omega) fun e => e.elim (fun e => hK.hHW (e ▸ hb)) (fun e => hK.hHC (e ▸ hb))
  · obtain ⟨h1, h2⟩ := hXS b hx
    have := hK.hB b hh
    rcases h2 with (h2 | h2) | h2 | h2
    · exact hSH b h2 hh
    · exact hK.hHW (h2 ▸ hh)
    · exact hK.hHC (h2 ▸ hh)
    · omega
  · obtain ⟨h1, h2⟩ := hXS b hx
    rcases h2 with (h2 | h2) | h2 | h2
    · obtain ⟨cs, ty, fr, e, _⟩ := hv0.dead b h2
      rcases h.since.cells.old b (Array.getElem?_eq_some_iff.1 e).1 with e' | ⟨_, _, _, _, _, e'⟩
      · exact ⟨_, _, _, e'.trans e⟩
      · exact ⟨_, _, _, e'⟩
    · subst h2; exact ⟨_, _, _, hwa⟩
    · subst h2; exact ⟨_, _, _, hc1⟩
    · exact h.since.cells.new b (by omega) h1
  · rcases Nat.lt_or_ge b K.B with hlt | hge
    · by_cases hC : b = K.C
      · subst hC; exact .inl ⟨_, _, _, hc1⟩
      · have hnS : ¬ K.S1 b := fun e => hx (hS b e)
        refine .inr ?_
        rw [h.since.rows b (by omega) fun e => e.elim (fun e => hnS (.inr e)) hC, hv0.same b (fun e => hnS (.inl e)) hh]
    · rcases Nat.lt_or_ge b w.heap.size with h1 | h1
      · exact .inl (h.since.cells.new b (by omega) h1)
      · refine .inr ?_
        rw [Array.getElem?_eq_none h1, Array.getElem?_eq_none (by rw [hv0.size]; omega)]

theorem Com.spawn (hK : K.Ok) (hv0 : ViewOf K.S K.H v0 w0) (h : Com P K w0 t0 J gs w t ow lw vl O D 0) (hwg : WgLive K.ty K.Wg w) {child : Goroutine} {x y : MemOp} (hx : x.g = 0 ∧ x.act = .go (J + 1)) (hy : y.g = J + 1 ∧ y.act = .start)
    (hc : ∀ v, Shows K O v w → ∃ m, GV P false K.H w.heap.size (AtSt P K (J - K.j0)) m child v) :
    ∃ m, Com P K w0 t0 (J + 1) ((gs.setIfInBounds 0 a').push child) w (t ++ #[x, y]) ow (upd lw J w.heap.size) vl no0 (upd D J ⟨7, m + 64, 0⟩) 0 := by
  have hm : ∀ op ∈ #[x, y], op = x ∨ op = y := by intro op hop; simpa using hop
  have hnt : ∀ op ∈ #[x, y], op.act.touch? = none := by
    intro op hop
    rcases hm op hop with rfl | rfl
    · rw [hx.2]; rfl
    · rw [hy.2]; rfl
  have hst : ∀ op ∈ #[x, y], op.act ≠ .mark .disable ∧ op.act ≠ .mark .enable := by
    intro op hop
    rcases hm op hop with rfl | rfl
    · rw [hx.2]; exact ⟨by simp, by simp⟩
    · rw [hy.2]; exact ⟨by simp, by simp⟩
  have hnr : ∀ op ∈ #[x, y], op.act ≠ .mark (.release (stA K.Wg)) := by
    intro op hop
    rcases hm op hop with rfl | rfl
    · rw [hx.2]; simp
    · rw [hy.2]; simp
  have hjJ := h.jJ
  have hsB := h.sB
  have eJ : upd lw J w.heap.size J = w.heap.size := upd_same _ _ _
  have eL : ∀ i, i ≠ J → upd lw J w.heap.size i = lw i := fun i hi => upd_ne lw _ hi
  obtain ⟨v, hv1, hv2, hv3, hv4⟩ := h.view (X := HidB K ow (upd lw J w.heap.size) J w) hK hv0 hwg (fun b hb => ⟨hb.1, Classical.byContradiction fun hn => hb.2 ⟨fun e => hn (.inl e), fun e => hn (.inr (.inl e)), .inr ⟨h.own0 b (Nat.lt_of_not_le fun e => hn (.inr (.inr e))), by rw [eJ]; exact hb.1⟩⟩⟩)
    (fun b hb => ⟨by
      rcases hb with hb | hb
      · have := hK.sB b hb; omega
      · have := hK.hW; omega, fun hvis => hvis.1 hb⟩)
  have hshow : Shows K O v w := by
    refine ⟨hv1.size, fun b hb => hv4 b (fun hx => hx.2 ?_) ?_⟩
    · rcases hb with ⟨h1, h2, h3, h4, h5⟩ | hb
      · exact ⟨fun e => e.elim h2 h4, h5, .inr ⟨h.own0 b h1, by rw [eJ]; omega⟩⟩
      · obtain ⟨h1, h2, h3, _⟩ := h.oO b hb
        exact ⟨fun e => e.elim (fun e => by have := hK.sB b e; omega) (fun e => by have := hK.hW; omega), fun e => by have := hK.hC; omega, .inr ⟨h3, by rw [eJ]; exact h2⟩⟩
    · rcases hb with ⟨_, _, h3, _⟩ | hb
      · exact h3
      · exact fun e => by have := hK.hB b e; have := (h.oO b hb).1; omega
  obtain ⟨m, hgv⟩ := hc v hshow
  refine ⟨m, ⟨by simp [h.size], by omega, fun i hi => ?_, ?_, by rw [Deaf_still t 0 _ hst, h.deaf0], fun i hi => ?_, fun i h0 hi hs => ?_, fun i h0 hi hs => ?_, h.pay, h.own0, h.ownN, fun b => Nat.le_succ_of_le (h.ownJ b), fun i hi => ?_, fun i h0 hi => ?_, fun i hi => ?_, fun i => ?_, fun b hb => hb.elim, h.since, h.bB⟩⟩
  · rcases Nat.lt_or_ge i J with hlt | hge
    · obtain ⟨g, hg, hsg⟩ := h.wk i hlt
      refine ⟨g, ?_, by rw [upd_ne D _ (by omega)]; exact hsg.relw (eL i (by omega))⟩
      rw [Array.getElem?_push_lt (by simp [h.size]; omega), ← Array.getElem?_eq_getElem, Array.getElem?_setIfInBounds_ne (by omega)]
      exact hg
    · obtain rfl : i = J := by omega
      refine ⟨child, ?_, by rw [upd_same]; exact .vw v h.jJ ⟨hv1, hv2, hv3⟩ (by rw [eJ]; exact hgv)⟩
      rw [show i + 1 = (gs.setIfInBounds 0 a').size by simp [h.size], Array.getElem?_push_size]
  · have h1 := h.tr.relw (lw' := upd lw J w.heap.size) fun i hi => eL i (by omega)
    refine ⟨?_, h1.ct.fork (apart_ow K ow _) hx hy h.deaf0, fun op hop z hz => ?_, fun i hi hx' => ?_, h1.old⟩
    · obtain ⟨u, rfl, hu⟩ := h1.since
      refine ⟨u ++ #[x, y], by rw [Array.append_assoc], fun op hop => ?_⟩
      rcases Array.mem_append.1 hop with hop | hop
      · exact hu op hop
      · exact .inr fun z hz => by rw [hnt op hop] at hz; cases hz
    · rcases Array.mem_append.1 hop with hop | hop
      · exact h1.low op hop z hz
      · rw [hnt op hop] at hz; cases hz
    · obtain ⟨op, ho, hoa⟩ := Option.map_eq_some_iff.1 hx'
      rcases getElem?_append_cases ho with ⟨_, ho'⟩ | ⟨_, hou⟩
      · exact h1.norel i hi (by rw [Trace.act?, ho']; exact congrArg some hoa)
      · exact hnr op hou hoa
  · rw [Deaf_still t _ _ hst]
    rcases Nat.lt_or_ge i J with hlt | hge
    · rw [h.deafW i hlt, upd_ne D _ (by omega)]
    · obtain rfl : i = J := by omega
      rw [upd_same]
      exact Deaf_absent fun a op ha e => by have := h.tr.ct.gs a op ha; omega
  · rcases Nat.lt_or_ge i J with hlt | hge
    · rw [upd_ne D _ (by omega)] at hs
      obtain ⟨r, hr⟩ := h.rel i h0 hlt hs
      refine ⟨r, hr.appNot fun op hop => ?_⟩
      rcases hm op hop with rfl | rfl
      · rw [hx.1]; omega
      · rw [hy.1]; omega
    · obtain rfl : i = J := by omega
      rw [upd_same] at hs
      simp at hs
  · rcases Nat.lt_or_ge i J with hlt | hge
    · rw [upd_ne D _ (by omega)] at hs
      exact h.has i h0 hlt hs
    · obtain rfl : i = J := by omega
      rw [upd_same] at hs
      simp at hs
  · rw [eL i (by omega)]; exact h.lw0 i hi
  · rcases Nat.lt_or_ge i J with hlt | hge
    · rw [eL i (by omega)]; exact h.lwB i h0 hlt
    · obtain rfl : i = J := by omega
      rw [eJ]; exact hsB
  · rw [eL i (by omega)]; exact h.lwJ i (by omega)
  · by_cases e : i = J
    · subst e; rw [eJ]; exact Nat.le_refl _
    · rw [eL i e]; exact h.lwN i
end
end Go.Proofs.YtlcgbnmmbheleaaGreat

namespace Go.Proofs.YtlcgbnmmbheleaaGreat
open Go Go.Conc
open Go.ConcN (WSit AtR0 RW DWs Has PayAt WgLive CTag WD CT RelBy phi cnt Vc Ssum Fsum pend sumTo upd upd_same upd_ne isOpen isW3 isFin OpenSt AllQuit bk_cell bk_dis bk_en bk_rd bk_rw bk_sem sumTo_upd_out lt2_trans allQuit_of le_sumTo)
open Go.ConcR (KK WgAt stA smA rd wr mk Payload g_of_ofEvents Bk ofEvent_mk)
set_option linter.unusedVariables false
set_option linter.unusedSimpArgs false
variable [Payload]

def CFin (P : Program) (K : Cw) (Fin : Goroutine → World → Prop) (w0 : World) (t0 : Trace) (m : Machine) (t : Trace) : Prop :=
  ∃ (gs : Array Goroutine) (w : World) (sl : Option (Nat × Nat)) (J : Nat) (ow lw : Nat → Nat) (vl : Nat → Value) (D : Nat → WD) (a : Goroutine), m = crowd gs w sl ∧ gs[0]? = some a ∧ Fin a w ∧ Com P K w0 t0 J gs w t ow lw vl no0 D 0 ∧ J - K.j0 = K.n ∧ AllQuit J D ∧ AcqK K J t ∧ WgAt K.ty K.Wg w 0 0

section
variable {P : Program} {K : Cw} {AnchW Fin : Goroutine → World → Prop} {v0 w0 w : World} {t0 t : Trace} {J j : Nat} {gs : Array Goroutine} {ow lw : Nat → Nat} {vl : Nat → Value} {O : Nat → Prop} {D : Nat → WD} {d0 f0 : Nat} {tag : CTag} {sl : Option (Nat × Nat)} {a : Goroutine} {st sm : Int}

theorem cwW1 (hK : K.Ok) (ha : gs[0]? = some a) (hcom : Com P K w0 t0 J gs w t ow lw vl no0 D 1) (hj : J - K.j0 = K.n) (hwg : WgAt K.ty K.Wg w st sm) (hmode : ConcN.Mode J D .w1 st sm)
    (h : Goes P true (RS K no0) (DS K no0) (TW1 P K AnchW Fin) f0 a w) :
    ∃ m₁ ops μ', runT P (crowd gs w sl) 0 = (.next m₁, ops) ∧ Lt2 μ' (phi K.n (Vc J D) .w1 + Ssum J D, f0 + 2 * Fsum J D) ∧ CInv P K AnchW Fin w0 t0 μ' m₁ (t ++ ops) := by
  have hV := hcom.vc
  have hn := hK.hn
  rcases Goes.cases h with hstop | ⟨m', rfl, hstep⟩
  · obtain ⟨_, hall⟩ := hstop w (.refl _ _ w)
    obtain ⟨ho, rfl, rfl, _⟩ := hmode.open_inv trivial
    obtain ⟨a', hgo, h0, hne⟩ := hall (Vc J D) (by omega) (by simpa [pend] using hwg)
    by_cases hv : Vc J D = 0
    · obtain ⟨m₂, hk⟩ := h0 hv
      refine cwBook hK ha hcom hwg hgo (.refl K.Wg w) hwg bk_rd (tag' := .ke) (by rw [hj]; exact .ke hk) ?_ (by simp) (.inl (by simp only [phi]; omega))
      have e : ((Vc J D + pend .w1 : Nat) : Int) * KK = 0 := by rw [hv]; simp [pend]
      rw [e]
      exact .fin trivial (allQuit_of ho hv)
    · obtain ⟨m₂, hk⟩ := hne hv
      exact cwBook hK ha hcom hwg hgo (.refl K.Wg w) hwg bk_rd (tag' := .w2 (Vc J D)) (by rw [hj]; exact .w2 hk) (hmode.reopen trivial trivial rfl (fun vs e => by cases e; omega)) (by simp) (.inl (by simp only [phi]; omega))
  · obtain ⟨a', w', es, hgo, hD, hg'⟩ := hstep w (.refl _ _ w)
    exact cwIdle hK ha hcom hwg hmode (by simp) hgo hD (by rw [hj]; exact .w1 hg') (by omega)

set_option maxHeartbeats 1600000 in
theorem cwStepC (hK : K.Ok) (hv0 : ViewOf K.S K.H v0 w0)
    (hAn : ∀ g w, AnchW g w → ∃ m, Goes P true (RS K no0) (DS K no0) (TW1 P K AnchW Fin) m g w)
    (ha : gs[0]? = some a) (hcs : CS P K AnchW Fin tag O j f0 d0 a w) (hj : j = J - K.j0) (hcom : Com P K w0 t0 J gs w t ow lw vl O D d0) (hwg : WgAt K.ty K.Wg w st sm) (hmode : ConcN.Mode J D tag st sm)
    (hacq : tag = .ret → AcqK K J t) (hrun : a.status = .running) (hnot : tag = .ret → ¬ ∀ w₁, RS K no0 w w₁ → TEnd Fin a w₁) :
    ∃ m₁ ops μ', runT P (crowd gs w sl) 0 = (.next m₁, ops) ∧ Lt2 μ' (phi K.n (Vc J D) tag + Ssum J D, f0 + 2 * Fsum J D) ∧ CInv P K AnchW Fin w0 t0 μ' m₁ (t ++ ops) := by
  have hV := hcom.vc
  have hn := hK.hn
  have hjJ := hcom.jJ
  have cv : ∀ {tag : CTag} {O : Nat → Prop} {f d : Nat} {g : Goroutine} {w : World}, CS P K AnchW Fin tag O j f d g w → CS P K AnchW Fin tag O (J - K.j0) f d g w := by
    rw [hj]; exact id
  cases hcs with
  | al1 hr h =>
    rcases Goes.cases h with hstop | ⟨m', rfl, hstep⟩
    · obtain ⟨_, a', cs, ty, hgo, m₂, hk⟩ := hstop w (.refl _ _ w)
      exact cwAlloc hK ha hcom hwg hgo (cv (.al2 hr hk)) (fun b hb => .inr hb) (hmode.reopen trivial trivial rfl (by simp)) (by simp) (by simp only [phi]; omega)
    · obtain ⟨a', w', es, hgo, hD, hg'⟩ := hstep w (.refl _ _ w)
      exact cwIdle hK ha hcom hwg hmode (by simp) hgo hD (cv (.al1 hr hg')) (by omega)
  | al2 hr h =>
    rcases Goes.cases h with hstop | ⟨m', rfl, hstep⟩
    · obtain ⟨_, a', cs, ty, hgo, m₂, hk⟩ := hstop w (.refl _ _ w)
      exact cwAlloc hK ha hcom hwg hgo (cv (.skd hr hk)) (fun b hb => hb) (hmode.reopen trivial trivial rfl (by simp)) (by simp) (by simp only [phi]; omega)
    · obtain ⟨a', w', es, hgo, hD, hg'⟩ := hstep w (.refl _ _ w)
      exact cwIdle hK ha hcom hwg hmode (by simp) hgo hD (cv (.al2 hr hg')) (by omega)
  | skd hr h =>
    rcases Goes.cases h with hstop | ⟨m', rfl, hstep⟩
    · obtain ⟨_, a', hgo, m₂, hk⟩ := hstop w (.refl _ _ w)
      exact cwBook hK ha hcom hwg hgo (.refl K.Wg w) hwg bk_dis (cv (.sa1 hr hk)) (hmode.reopen trivial trivial rfl (by simp)) (by simp) (.inl (by simp only [phi]; omega))
    · obtain ⟨a', w', es, hgo, hD, hg'⟩ := hstep w (.refl _ _ w)
      exact cwIdle hK ha hcom hwg hmode (by simp) hgo hD (cv (.skd hr hg')) (by omega)
  | sa1 hr h =>
    rename_i r
    rcases Goes.cases h with hstop | ⟨m', rfl, hstep⟩
    · obtain ⟨_, hall⟩ := hstop w (.refl _ _ w)
      obtain ⟨ho, rfl, rfl, _⟩ := hmode.open_inv trivial
      obtain ⟨a', hgo, m₂, hk⟩ := hall (Vc J D) (by omega) (by simpa [pend] using hwg)
      refine cwBook hK ha hcom hwg hgo (aside_setCell w (stA K.Wg) _) (hwg.setSt _) bk_rw (cv (.ske hr hk)) ?_ (by simp) (.inl (by simp only [phi]; omega))
      have e : (((Vc J D : Nat) : Int) + 1) * KK = ((Vc J D + pend (.sp r 3) : Nat) : Int) * KK := by simp [pend]
      rw [e]
      exact .opn trivial ho (by simp)
    · obtain ⟨a', w', es, hgo, hD, hg'⟩ := hstep w (.refl _ _ w)
      exact cwIdle hK ha hcom hwg hmode (by simp) hgo hD (cv (.sa1 hr hg')) (by omega)
  | ske hr h =>
    rcases Goes.cases h with hstop | ⟨m', rfl, hstep⟩
    · obtain ⟨_, a', hgo, m₂, hk⟩ := hstop w (.refl _ _ w)
      exact cwBook hK ha hcom hwg hgo (.refl K.Wg w) hwg bk_en (cv (.sgo hr hk)) (hmode.reopen trivial trivial rfl (by simp)) (by simp) (.inl (by simp only [phi]; omega))
    · obtain ⟨a', w', es, hgo, hD, hg'⟩ := hstep w (.refl _ _ w)
      exact cwIdle hK ha hcom hwg hmode (by simp) hgo hD (cv (.ske hr hg')) (by omega)
  | sgo hr h =>
    rename_i r
    rcases Goes.cases h with hstop | ⟨m', rfl, hstep⟩
    · obtain ⟨_, a', child, hsp, _, hwk0, hnext⟩ := hstop w (.refl _ _ w)
      obtain ⟨ho, rfl, rfl, _⟩ := hmode.open_inv trivial
      have hrun' := runT_crowd_spawn (P := P) (sl := sl) (i := 0) ha (by simpa using hsp)
      rw [hcom.size] at hrun'
      obtain ⟨m₂, hcom'⟩ := hcom.spawn hK hv0 ⟨_, _, hwg⟩ (a' := a') (child := child) (x := { g := 0, fn := a.frame.fn, pos := a.frame.place, act := .go (J + 1) }) (y := { g := J + 1, fn := child.frame.fn, pos := a.frame.place, act := .start }) ⟨rfl, rfl⟩ ⟨rfl, rfl⟩ (by rw [← hj]; exact hwk0)
      have eV : Vc (J + 1) (upd D J ⟨7, m₂ + 64, 0⟩) = Vc J D + 1 := by
        simp only [Vc, sumTo, upd_same]
        rw [sumTo_upd_out D _ cnt (Nat.le_refl _)]; rfl
      have eS : Ssum (J + 1) (upd D J ⟨7, m₂ + 64, 0⟩) = Ssum J D + 7 := by
        simp only [Ssum, sumTo, upd_same]
        rw [sumTo_upd_out D _ WD.stage (Nat.le_refl _)]
      have ho' : OpenSt (J + 1) (upd D J ⟨7, m₂ + 64, 0⟩) := fun i hi => by
        by_cases e : i = J
        · subst e; rw [upd_same]; simp
        · rw [upd_ne D _ e]; exact ho i (by omega)
      have ha' : ((gs.setIfInBounds 0 a').push child)[0]? = some a' := by
        rw [Array.getElem?_push_lt (by simp [hcom.size]), ← Array.getElem?_eq_getElem]
        simp [hcom.size]
      have est : ∀ tag', pend tag' = 0 → ((Vc J D + pend (.sp r 2) : Nat) : Int) * KK = ((Vc (J + 1) (upd D J ⟨7, m₂ + 64, 0⟩) + pend tag' : Nat) : Int) * KK := fun tag' hp => by rw [eV, hp]; simp [pend]
      cases r with
      | zero =>
        obtain ⟨m₃, hk⟩ := hnext
        refine ⟨_, _, (phi K.n (Vc (J + 1) (upd D J ⟨7, m₂ + 64, 0⟩)) .kd + Ssum (J + 1) (upd D J ⟨7, m₂ + 64, 0⟩), m₃ + 2 * Fsum (J + 1) (upd D J ⟨7, m₂ + 64, 0⟩)), hrun', Prod.Lex.left _ _ (by simp only [phi]; omega),
          _, w, sl, J + 1, ow, _, vl, no0, _, .kd, m₃, 0, a', _, _, rfl, ha', by rw [show J + 1 - K.j0 = K.n by omega]; exact .kd hk, hcom', hwg, ?_, by simp, rfl⟩
        rw [est .kd rfl]
        exact .opn trivial ho' (by simp)
      | succ r' =>
        obtain ⟨m₃, hk⟩ := hnext
        refine ⟨_, _, (phi K.n (Vc (J + 1) (upd D J ⟨7, m₂ + 64, 0⟩)) (.sp r' 7) + Ssum (J + 1) (upd D J ⟨7, m₂ + 64, 0⟩), m₃ + 2 * Fsum (J + 1) (upd D J ⟨7, m₂ + 64, 0⟩)), hrun', Prod.Lex.left _ _ (by simp only [phi]; omega),
          _, w, sl, J + 1, ow, _, vl, no0, _, .sp r' 7, m₃, 0, a', _, _, rfl, ha', by rw [show J + 1 - K.j0 = K.n - (r' + 1) by omega]; exact .al1 (by omega) hk, hcom', hwg, ?_, by simp, rfl⟩
        rw [est (.sp r' 7) rfl]
        exact .opn trivial ho' (by simp)
    · obtain ⟨a', w', es, hgo, hD, hg'⟩ := hstep w (.refl _ _ w)
      exact cwIdle hK ha hcom hwg hmode (by simp) hgo hD (cv (.sgo hr hg')) (by omega)
  | kd h =>
    rcases Goes.cases h with hstop | ⟨m', rfl, hstep⟩
    · obtain ⟨_, a', hgo, m₂, hk⟩ := hstop w (.refl _ _ w)
      exact cwBook hK ha hcom hwg hgo (.refl K.Wg w) hwg bk_dis (cv (.anch hk)) (hmode.reopen trivial trivial rfl (by simp)) (by simp) (.inl (by simp only [phi]; omega))
    · obtain ⟨a', w', es, hgo, hD, hg'⟩ := hstep w (.refl _ _ w)
      exact cwIdle hK ha hcom hwg hmode (by simp) hgo hD (cv (.kd hg')) (by omega)
  | anch h =>
    rcases Goes.cases h with hstop | ⟨m', rfl, hstep⟩
    · obtain ⟨m₂, hk⟩ := hAn a w (hstop w (.refl _ _ w))
      obtain ⟨m₁, ops, μ', h1, h2, h3⟩ := cwW1 (sl := sl) hK ha hcom hj.symm hwg (hmode.reopen trivial trivial rfl (by simp)) hk
      exact ⟨m₁, ops, μ', h1, lt2_trans h2 (Prod.Lex.left _ _ (by simp only [phi]; omega)), h3⟩
    · obtain ⟨a', w', es, hgo, hD, hg'⟩ := hstep w (.refl _ _ w)
      exact cwIdle hK ha hcom hwg hmode (by simp) hgo hD (cv (.anch hg')) (by omega)
  | w1 h => exact cwW1 hK ha hcom hj.symm hwg hmode h
  | w2 h =>
    rename_i vs
    rcases Goes.cases h with hstop | ⟨m', rfl, hstep⟩
    · obtain ⟨_, hall⟩ := hstop w (.refl _ _ w)
      obtain ⟨ho, rfl, rfl, hw2⟩ := hmode.open_inv trivial
      obtain ⟨hle, h1⟩ := hw2 vs rfl
      obtain ⟨hhit, hmiss⟩ := hall (Vc J D) (by omega) (by simpa [pend] using hwg)
      by_cases e : Vc J D = vs
      · obtain ⟨a', hgo, m₂, hk⟩ := hhit e
        exact cwBook hK ha hcom hwg hgo (aside_setCell w (stA K.Wg) _) (hwg.setSt _) bk_rw (cv (.w3 hk)) (.reg trivial ho (by omega)) (by simp) (.inl (by simp only [phi]; omega))
      · obtain ⟨a', hgo, m₂, hk⟩ := hmiss e
        exact cwBook hK ha hcom hwg hgo (.refl K.Wg w) hwg bk_rd (cv (.anch hk)) (hmode.reopen trivial trivial rfl (by simp)) (by simp) (.inl (by simp only [phi]; omega))
    · obtain ⟨a', w', es, hgo, hD, hg'⟩ := hstep w (.refl _ _ w)
      exact cwIdle hK ha hcom hwg hmode (by simp) hgo hD (cv (.w2 hg')) (by omega)
  | w3 h =>
    rcases Goes.cases h with hstop | ⟨m', rfl, hstep⟩
    · obtain ⟨_, hoff, hblk, htake⟩ := hstop w (.refl _ _ w)
      cases hmode with
      | opn h1 _ _ => exact h1.elim
      | reg h1 h2 h3 => exact cwBook hK ha hcom hwg (hblk ⟨_, hwg⟩) (.refl K.Wg w) hwg (by simp) (cv (.blk hstop)) (.reg trivial h2 h3) (by simp) (.inr ⟨rfl, by omega⟩)
      | last L h1 h2 h3 h4 => exact cwBook hK ha hcom hwg (hblk ⟨_, hwg⟩) (.refl K.Wg w) hwg (by simp) (cv (.blk hstop)) (.last L trivial h2 h3 h4) (by simp) (.inr ⟨rfl, by omega⟩)
      | sema h2 =>
        obtain ⟨a', hgo, m₂, hk⟩ := htake hwg
        exact cwBook hK ha hcom hwg hgo (aside_setCell w (smA K.Wg) _) (hwg.setSm 0) bk_sem (cv (.w4 hk)) (.fin trivial h2) (by simp) (.inl (by simp only [phi]; omega))
      | fin h1 _ => exact h1.elim
    · obtain ⟨a', w', es, hgo, hD, hg'⟩ := hstep w (.refl _ _ w)
      exact cwIdle hK ha hcom hwg hmode (by simp) hgo hD (cv (.w3 hg')) (by omega)
  | blk h => simp at hrun
  | w4 h =>
    rcases Goes.cases h with hstop | ⟨m', rfl, hstep⟩
    · obtain ⟨_, hx⟩ := hstop w (.refl _ _ w)
      obtain ⟨hq, rfl, rfl⟩ := hmode.fin_inv trivial
      obtain ⟨a', hgo, m₂, hk⟩ := hx hwg
      exact cwBook hK ha hcom hwg hgo (.refl K.Wg w) hwg bk_rd (cv (.ke hk)) (.fin trivial hq) (by simp) (.inl (by simp only [phi]; omega))
    · obtain ⟨a', w', es, hgo, hD, hg'⟩ := hstep w (.refl _ _ w)
      exact cwIdle hK ha hcom hwg hmode (by simp) hgo hD (cv (.w4 hg')) (by omega)
  | ke h =>
    rcases Goes.cases h with hstop | ⟨m', rfl, hstep⟩
    · obtain ⟨_, a', hgo, m₂, hk⟩ := hstop w (.refl _ _ w)
      obtain ⟨hq, rfl, rfl⟩ := hmode.fin_inv trivial
      exact cwBook hK ha hcom hwg hgo (.refl K.Wg w) hwg bk_en (cv (.acq hk)) (.fin trivial hq) (by simp) (.inl (by simp only [phi]; omega))
    · obtain ⟨a', w', es, hgo, hD, hg'⟩ := hstep w (.refl _ _ w)
      exact cwIdle hK ha hcom hwg hmode (by simp) hgo hD (cv (.ke hg')) (by omega)
  | acq h =>
    rcases Goes.cases h with hstop | ⟨m', rfl, hstep⟩
    · obtain ⟨_, a', hgo, m₂, hk⟩ := hstop w (.refl _ _ w)
      obtain ⟨hq, rfl, rfl⟩ := hmode.fin_inv trivial
      refine cwCaller hK ha hcom hgo (.still hK hcom (.refl _ w) rfl ⟨_, _, hwg⟩ hcom.pay fun _ _ => rfl) (hcom.tr.ev0 (by intro e he; simp at he; subst he; exact .still rfl (by simp [mk]))) hcom.oO (cv (.ret hk)) hwg (.fin trivial hq) (fun _ => ?_) (.inl (by simp only [phi]; omega))
      have e1 : MemOp.ofEvents 0 a.frame.fn a.frame.place #[mk (.acquire (stA K.Wg))] = #[{ g := 0, fn := a.frame.fn, pos := a.frame.place, act := .mark (.acquire (stA K.Wg)) }] := by rw [ofEvents_eq]; simp [ofEvent_mk]
      have hy : (t ++ #[({ g := 0, fn := a.frame.fn, pos := a.frame.place, act := .mark (.acquire (stA K.Wg)) } : MemOp)])[t.size]? = some { g := 0, fn := a.frame.fn, pos := a.frame.place, act := .mark (.acquire (stA K.Wg)) } := by simp
      refine ⟨t.size, by rw [e1, act?_of hy], by rw [e1]; simp [Trace.g?], by rw [e1]; exact ⟨0, by simp [Trace.g?], by rw [deaf_old (Nat.le_refl _)]; exact hcom.deaf0⟩, fun i h0 hi => ?_⟩
      obtain ⟨r, hr⟩ := hcom.rel i h0 hi (by rw [hq i hi]; omega)
      exact ⟨r, hr.appOther g_of_ofEvents (by omega), lt_of_act? hr.act⟩
    · obtain ⟨a', w', es, hgo, hD, hg'⟩ := hstep w (.refl _ _ w)
      exact cwIdle hK ha hcom hwg hmode (by simp) hgo hD (cv (.acq hg')) (by omega)
  | ret h =>
    rcases Goes.cases h with hstop | ⟨m', rfl, hstep⟩
    · exact absurd hstop (hnot rfl)
    · obtain ⟨a', w', es, hgo, hD, hg'⟩ := hstep w (.refl _ _ w)
      exact cwIdle hK ha hcom hwg hmode hacq hgo hD (cv (.ret hg')) (by omega)

theorem WS.running {i s m d : Nat} {x : Value} {g : Goroutine} (h : WS P K ow lw i x s m d g w) (hs : s ≠ 1) : g.status = .running := by
  cases h with
  | vw v _ _ h => exact GV.running (fun g v x => x.1) h
  | quit _ _ => exact absurd rfl hs
  | lib v _ _ _ _ h =>
    cases h with
    | r0 h | k1 h | d1 h | d2 h | d3 h | d4 h => exact Goes.running (fun _ _ x => x.1) w (ConcN.RW.refl w) h
    | quit h => exact absurd rfl hs

omit [Payload] in
theorem counted_one : ∀ {n : Nat} {D : Nat → WD}, 1 ≤ Vc n D → ∃ i, i < n ∧ 5 ≤ (D i).stage
  | 0, _, h => by simp [Vc, sumTo] at h
  | n + 1, D, h => by
    by_cases hc : 5 ≤ (D n).stage
    · exact ⟨n, by omega, hc⟩
    · have h0 : cnt (D n) = 0 := by simp [cnt, hc]
      have : 1 ≤ Vc n D := by simp only [Vc, sumTo] at h ⊢; omega
      obtain ⟨i, hi, h5⟩ := counted_one this
      exact ⟨i, by omega, h5⟩

theorem cwStep (hK : K.Ok) (hv0 : ViewOf K.S K.H v0 w0) (hAr : ∀ g w, AnchW g w → g.status = .running)
    (hAn : ∀ g w, AnchW g w → ∃ m, Goes P true (RS K no0) (DS K no0) (TW1 P K AnchW Fin) m g w) (μ : Nat × Nat) (m : Machine) (t : Trace) (h : CInv P K AnchW Fin w0 t0 μ m t) :
    CFin P K Fin w0 t0 m t ∨ ∃ m' ops μ', stepT P m = (.next m', ops) ∧ Lt2 μ' μ ∧ CInv P K AnchW Fin w0 t0 μ' m' (t ++ ops) := by
  obtain ⟨gs, w, sl, J, ow, lw, vl, O, D, tag, f0, d0, a, st, sm, rfl, ha, hcs, hcom, hwg, hmode, hacq, rfl⟩ := h
  by_cases hend : tag = .ret ∧ ∀ w₁, RS K no0 w w₁ → TEnd Fin a w₁
  · obtain ⟨rfl, hst⟩ := hend
    refine .inl ?_
    have hf := hmode.fin_inv trivial
    obtain ⟨hq, rfl, rfl⟩ := hf
    generalize hj : J - K.j0 = j at hcs
    cases hcs with
    | ret h => exact ⟨gs, w, sl, J, ow, lw, vl, D, a, rfl, ha, (hst w (.refl _ _ w)).2, hcom, hj, hq, hacq rfl, hwg⟩
  · refine .inr ?_
    have haw : ∀ g ∈ gs, awake g := by
      intro g hg
      obtain ⟨i, hi, rfl⟩ := Array.mem_iff_getElem.1 hg
      rcases Nat.eq_zero_or_pos i with rfl | hpos
      · have : gs[0] = a := by simpa [Array.getElem?_eq_getElem hi] using ha
        rw [this]
        exact awake_of ((hcs.status hAr).elim (fun x => .inl x.1) (fun x => .inr (.inl x.1)))
      · obtain ⟨i', rfl⟩ : ∃ i', i = i' + 1 := ⟨i - 1, by omega⟩
        obtain ⟨g, hg, hs⟩ := hcom.wk i' (by rw [hcom.size] at hi; omega)
        rw [Array.getElem?_eq_getElem hi] at hg
        cases hg
        exact awake_of (hs.status.elim .inl fun x => .inr (.inr x))
    have some1 : ∃ (i : Nat) (g : Goroutine), gs[i]? = some g ∧ g.status = .running := by
      rcases hcs.status hAr with ⟨h1, _⟩ | ⟨_, rfl⟩
      · exact ⟨0, a, ha, h1⟩
      · have hex : ∃ i, i < J ∧ (D i).stage ≠ 1 := by
          cases hmode with
          | opn h1 _ _ => exact h1.elim
          | reg _ _ h3 =>
            obtain ⟨i, hi, h5⟩ := counted_one h3
            exact ⟨i, hi, by omega⟩
          | last L _ h2 h3 _ => exact ⟨L, h2, by omega⟩
          | fin h1 _ => exact h1.elim
        obtain ⟨i, hi, hne⟩ := hex
        obtain ⟨g, hg, hs⟩ := hcom.wk i hi
        exact ⟨i + 1, g, hg, hs.running hne⟩
    obtain ⟨i, g, d, sl', hi, hg, hpick⟩ := crowd_pick (P := P) (w := w) (sl := sl) haw some1
    have hcom' := hcom.at hK ⟨_, _, hwg⟩ d
    have hwg' : WgAt K.ty K.Wg (w.at d) st sm := hwg
    have hrs : ∀ O, RS K O w (w.at d) := fun O => ⟨Nat.le_refl _, fun _ _ => rfl, id⟩
    have hcs' := hcs.rely (hrs O)
    rcases Nat.eq_zero_or_pos i with rfl | hpos
    · obtain rfl : g = a := by rw [ha] at hi; exact (Option.some.inj hi).symm
      obtain ⟨m₁, ops, μ', h1, h2, h3⟩ := cwStepC (sl := sl') hK hv0 hAn ha hcs' rfl hcom' hwg' hmode hacq hg (fun e hx => hend ⟨e, fun w₁ h₁ => hx w₁ ⟨h₁.size, h₁.rows, h₁.live⟩⟩)
      exact ⟨m₁, ops, μ', hpick.trans h1, h2, h3⟩
    · obtain ⟨i', rfl⟩ : ∃ i', i = i' + 1 := ⟨i - 1, by omega⟩
      have hi' : i' < J := by have := (Array.getElem?_eq_some_iff.1 hi).1; rw [hcom.size] at this; omega
      obtain ⟨m₁, ops, μ', h1, h2, h3⟩ := cwStepW (sl := sl') hK hAr ha hcs' hcom' hwg' hmode hacq hi' hi hg
      exact ⟨m₁, ops, μ', hpick.trans h1, h2, h3⟩

omit [Payload] in
theorem run_to {M : Type} {r : M → M → Prop} (wf : WellFounded r) (Inv : M → Machine → Trace → Prop) (Fi : Machine → Trace → Prop)
    (step : ∀ μ m t, Inv μ m t → Fi m t ∨ ∃ m' ops μ', stepT P m = (.next m', ops) ∧ r μ' μ ∧ Inv μ' m' (t ++ ops)) (μ : M) : ∀ m t, Inv μ m t → ∃ N m' t', runNT P N m t = (.next m', t') ∧ Fi m' t' := by
  induction μ using wf.induction with
  | _ μ ih =>
    intro m t h
    rcases step μ m t h with h | ⟨m', ops, μ', h1, h2, h3⟩
    · exact ⟨0, m, t, rfl, h⟩
    · obtain ⟨N, m'', t', h4, h5⟩ := ih μ' h2 m' (t ++ ops) h3
      exact ⟨N + 1, m'', t', by simp only [runNT, h1]; exact h4, h5⟩

theorem crowd_all (hK : K.Ok) (hAr : ∀ g w, AnchW g w → g.status = .running)
    (hAn : ∀ g w, AnchW g w → ∃ m, Goes P true (RS K no0) (DS K no0) (TW1 P K AnchW Fin) m g w)
    {q : Nat → Nat} (ha : gs[0]? = some a) (hj0 : gs.size = K.j0 + 1) (hL : Leavers P t gs q) (hP : PastK K.S gs.size K.Wg t) (hv0 : ViewOf K.S K.H v0 w) (hB : w.heap.size = K.B) (hwg : WgAt K.ty K.Wg w 0 0) (hpay : PayAt K.C K.n w)
    (hsp : Spw P K AnchW K.n a w) :
    ∃ (N : Nat) (gs' : Array Goroutine) (a' : Goroutine) (w' v' : World) (sl' : Option (Nat × Nat)) (t' : Trace) (q' : Nat → Nat) (cs : Array Value), runNT P N (crowd gs w sl) t = (.next (crowd gs' w' sl'), t') ∧ gs'[0]? = some a' ∧ Fin a' w' ∧ Leavers P t' gs' q' ∧ PastK K.S1 gs'.size w'.heap.size t' ∧
      ViewOf K.S1 K.H v' w' ∧ (v'.os = v0.os ∧ v'.output = v0.output) ∧ v0.heap.size ≤ v'.heap.size ∧ (∀ b, b < K.B → b ≠ K.Wg → b ≠ K.C → v'.heap[b]? = v0.heap[b]?) ∧ v'.heap[K.C]? = some (.cells cs Payload.ety) ∧ cs.size = K.n ∧ (∀ c, c < K.n → ∃ x, cs[c]? = some x ∧ Fit (K.ld c) x v') ∧ Mv (fun b => b = K.Wg ∨ b = K.C) w w' := by
  have hcom : Com P K w t K.j0 gs w t (fun _ => 0) (fun _ => 0) (fun _ => undef) no0 (fun i => ⟨1, q (i + 1), Deaf t (i + 1)⟩) 0 := by
    refine ⟨hj0, Nat.le_refl _, fun i hi => ?_, .begin hP (by omega) (fun _ => rfl) (fun _ _ => rfl) (by rw [hB]; exact Nat.le_of_lt hK.hW), hP.hears, fun _ _ => rfl, fun i h1 h2 => by omega, fun i h1 h2 => by omega, hpay, fun _ _ => rfl, fun _ _ => rfl, fun _ => Nat.zero_le _, fun _ _ => rfl, fun i h1 h2 => by omega, fun _ _ => rfl, fun _ => Nat.zero_le _, fun b hb => hb.elim, .refl _ w, hB⟩
    have hlt : i + 1 < gs.size := by omega
    exact ⟨gs[i + 1], Array.getElem?_eq_getElem hlt, .quit hi (hL.old (i + 1) _ (by omega) (Array.getElem?_eq_getElem hlt))⟩
  have hvc : ∀ n, Vc n (fun i => (⟨1, q (i + 1), Deaf t (i + 1)⟩ : WD)) = 0 := by
    intro n
    induction n with
    | zero => rfl
    | succ n ih => simp only [Vc, sumTo] at ih ⊢; rw [ih]; rfl
  have hmode : ∀ tag, isOpen tag → pend tag = 0 → (∀ vs, tag ≠ .w2 vs) → ConcN.Mode K.j0 (fun i => (⟨1, q (i + 1), Deaf t (i + 1)⟩ : WD)) tag 0 0 := fun tag h1 h2 h3 => by
    have := ConcN.Mode.opn (j := K.j0) (D := fun i => (⟨1, q (i + 1), Deaf t (i + 1)⟩ : WD)) h1 (fun i hi => .inr (.inr (.inr rfl))) (fun vs e => absurd e (h3 vs))
    simpa [hvc, h2] using this
  have hInv : ∃ μ, CInv P K AnchW Fin w t μ (crowd gs w sl) t := by
    cases hn : K.n with
    | zero =>
      rw [hn] at hsp
      obtain ⟨m, hk⟩ := hsp
      exact ⟨_, gs, w, sl, K.j0, _, _, _, _, _, .kd, m, 0, a, 0, 0, rfl, ha, by rw [Nat.sub_self]; have := CS.kd (Fin := Fin) hk; rw [hn] at this; exact this, hcom, hwg, hmode .kd trivial rfl (by simp), by simp, rfl⟩
    | succ r =>
      rw [hn] at hsp
      obtain ⟨m, hk⟩ := hsp
      have hc := CS.al1 (Fin := Fin) (show r < K.n by omega) hk
      rw [show K.n - (r + 1) = 0 by omega] at hc
      exact ⟨_, gs, w, sl, K.j0, _, _, _, _, _, .sp r 7, m, 0, a, 0, 0, rfl, ha, by rw [Nat.sub_self]; exact hc, hcom, hwg, hmode (.sp r 7) trivial rfl (by simp), by simp, rfl⟩
  obtain ⟨μ, hI⟩ := hInv
  obtain ⟨N, m', t', hr, gs', w', sl', J, ow, lw, vl, D, a', rfl, ha', hF, hc, hJ, hq, hacq, hwg'⟩ := run_to (Prod.lex Nat.lt_wfRel Nat.lt_wfRel).wf _ _ (cwStep hK hv0 hAr hAn) μ _ _ hI
  obtain ⟨qa, h1, h2, h3, h4⟩ := hacq
  have hover := hc.tr.handed hP.over (q := qa) (fun g hg hgJ => by
    have := h4 (g - 1) (by omega) (by omega)
    rwa [show g - 1 + 1 = g by omega] at this) h1 h2 h3
  have hpast := hc.tr.finish (gs := gs'.size) hP hover hc.deaf0 (by rw [hc.size]; omega)
  obtain ⟨v', hv1, hv2, hv3, hv4⟩ := hc.view (X := K.S1) hK hv0 ⟨_, _, hwg'⟩ (fun b hb => ⟨by
    rcases hb with hb | hb
    · have := hK.sB b hb; have := hc.sB; omega
    · have := hK.hW; have := hc.sB; omega, .inl hb⟩) (fun _ h => h)
  obtain ⟨cs, hcs1, hcs2⟩ := id hc.pay
  have hrow : v'.heap[K.C]? = w'.heap[K.C]? := hv4 K.C (fun e => e.elim hK.sC hK.hCW) hK.hHC
  refine ⟨N, gs', a', w', v', sl', t', fun i => (D (i - 1)).fuel, cs, hr, ha', hF, ⟨fun i g hi hg => ?_, fun k hk => ?_⟩, hpast, hv1, ⟨hv1.os.trans (hc.since.os.trans hv0.os.symm), hv1.output.trans (hc.since.output.trans hv0.output.symm)⟩, ?_, fun b hb h5 h6 => ?_, hrow.trans hcs1, hcs2, fun c hcn => ?_, hc.since⟩
  · obtain ⟨i', rfl⟩ : ∃ i', i = i' + 1 := ⟨i - 1, by omega⟩
    have hi' : i' < J := by have := (Array.getElem?_eq_some_iff.1 hg).1; rw [hc.size] at this; omega
    obtain ⟨g', hg', hs⟩ := hc.wk i' hi'
    rw [hg] at hg'
    cases hg'
    rw [hc.deafW i' hi']
    have h1 := hq i' hi'
    generalize (D i').stage = s at hs h1
    subst h1
    show QuitsD P (D (i' + 1 - 1)).fuel (D i').deaf g
    rw [Nat.add_sub_cancel]
    generalize (D i').fuel = f at hs ⊢
    generalize (D i').deaf = dd at hs ⊢
    cases hs with
    | lib _ _ _ _ _ h => exact h.quits rfl
    | quit _ h => exact h
  · exact ConcN.Deaf_absent fun i op hi e => by have := hc.tr.ct.gs i op hi; have := hc.size; omega
  · rw [hv1.size, hv0.size]; exact hc.since.size
  · by_cases hh : K.H b
    · have e1 := hv1.hid b hh
      have e2 := hv0.hid b hh
      have e3 := hc.since.rows b (by omega) fun e => e.elim h5 h6
      rw [e3] at e1
      rcases e1 with ⟨_, _, x1, x2⟩ | ⟨_, _, x1, x2⟩ <;> rcases e2 with ⟨_, _, y1, y2⟩ | ⟨_, _, y1, y2⟩ <;> rw [x1] at y1 <;> first | (rw [x2, y2]; done) | cases y1
    · by_cases hs : K.S b
      · obtain ⟨c1, t1, f1, e1, e2⟩ := hv0.dead b hs
        obtain ⟨c2, t2, f2, e3, e4⟩ := hv1.dead b (.inl hs)
        rw [hc.since.rows b (by omega) fun e => e.elim h5 h6, e1] at e3
        cases e3
        rw [e4, e2]
      · rw [hv4 b (fun e => e.elim hs h5) hh, hc.since.rows b (by omega) (fun e => e.elim h5 h6), hv0.same b hs hh]
  · have hi' : K.j0 + c < J := by have := hc.jJ; omega
    obtain ⟨g, hg, hs⟩ := hc.wk (K.j0 + c) hi'
    have hst := hq _ hi'
    have hhas := hc.has (K.j0 + c) (by omega) hi' (by rw [hst]; omega)
    rw [show K.j0 + c - K.j0 = c by omega] at hhas
    have hx : cs[c]? = some (vl (K.j0 + c)) := by
      simp only [Has, World.cell?, hcs1] at hhas
      simpa using hhas
    refine ⟨vl (K.j0 + c), hx, ?_⟩
    generalize (D (K.j0 + c)).stage = s at hs hst
    subst hst
    generalize (D (K.j0 + c)).fuel = f at hs
    generalize (D (K.j0 + c)).deaf = dd at hs
    cases hs with
    | quit h _ => omega
    | lib v _ hl hft _ _ =>
      rw [show K.j0 + c - K.j0 = c by omega] at hft
      refine hft.gain (fun p y hy => ?_) (by rw [hv1.size, hl.view.size]; exact Nat.le_refl _)
      have hn : ¬ HidB K ow lw (K.j0 + c) w' p.block := fun h => by rw [cell_gone hl.view (.inl h)] at hy; cases hy
      have hh : ¬ K.H p.block := fun h => by rw [cell_gone hl.view (.inr h)] at hy; cases hy
      rw [cell_view hl.view hn hh] at hy
      have hlt : p.block < w'.heap.size := cell_lt hy
      have hvis : Vis K ow lw (K.j0 + c) p.block := Classical.byContradiction fun h => hn ⟨hlt, h⟩
      rw [cell_view hv1 hvis.1 hh]
      exact hy
end
end Go.Proofs.YtlcgbnmmbheleaaGreat

namespace Go.Proofs.YtlcgbnmmbheleaaGreat
open Go Go.Conc
abbrev lk : Go.Conc.Lib.WgLink := { add := 47, done := 49, wait := 51, relMerge := 76, disable := 77, enable := 78, inBubble := 79, associate := 80, fatal := 81, uOr := 82, uAdd := 83, raceRead := 84, uLoad := 85, uStore := 86, disassociate := 87, semrelease := 88, acquire := 89, isAssociated := 90, uCas := 91, raceWrite := 92, semacquire := 93, orU64 := 111, addU64 := 112, loadU64 := 113, storeU64 := 114, casU64 := 115, tWgP := 114, tUP := 116, tAssoc := 118, tWg := 85, tAU := 82, tU64 := 80, tUint := 122, tU32 := 83, tPU32 := 123, tPAU := 142, tPU64 := 144, tNoCopy := 77, tANoCopy := 78, tAlign64 := 79 }
theorem wgLib : Go.Conc.Lib.WgLib Tryz.prog lk :=
  ⟨Tryz.func47, Tryz.func49, Tryz.func51, Tryz.func76, Tryz.func77, Tryz.func78, Tryz.func79, Tryz.func80, Tryz.func81, Tryz.func82, Tryz.func83, Tryz.func84, Tryz.func85, Tryz.func86, Tryz.func87, Tryz.func88, Tryz.func89, Tryz.func90, Tryz.func91, Tryz.func92, Tryz.func93, Tryz.func111, Tryz.func112, Tryz.func113, Tryz.func114, Tryz.func115, Tryz.underlying114, Tryz.runUnderlying114, Tryz.sizeOf114, Tryz.isAgg114, Tryz.zeroValue114, Tryz.underlying116, Tryz.runUnderlying116, Tryz.sizeOf116, Tryz.isAgg116, Tryz.zeroValue116, Tryz.underlying118, Tryz.runUnderlying118, Tryz.sizeOf118, Tryz.isAgg118, Tryz.zeroValue118, Tryz.underlying85, Tryz.runUnderlying85, Tryz.sizeOf85, Tryz.isAgg85, Tryz.zeroValue85, Tryz.underlying82, Tryz.runUnderlying82, Tryz.sizeOf82, Tryz.isAgg82, Tryz.zeroValue82, Tryz.underlying80, Tryz.runUnderlying80, Tryz.sizeOf80, Tryz.isAgg80, Tryz.zeroValue80, Tryz.underlying122, Tryz.runUnderlying122, Tryz.sizeOf122, Tryz.isAgg122, Tryz.zeroValue122, Tryz.underlying83, Tryz.runUnderlying83, Tryz.sizeOf83, Tryz.isAgg83, Tryz.zeroValue83, Tryz.underlying123, Tryz.runUnderlying123, Tryz.sizeOf123, Tryz.isAgg123, Tryz.zeroValue123, Tryz.underlying142, Tryz.runUnderlying142, Tryz.sizeOf142, Tryz.isAgg142, Tryz.zeroValue142, Tryz.underlying144, Tryz.runUnderlying144, Tryz.sizeOf144, Tryz.isAgg144, Tryz.zeroValue144, Tryz.underlying0, Tryz.runUnderlying0, Tryz.sizeOf0, Tryz.isAgg0, Tryz.zeroValue0, Tryz.underlying3, Tryz.runUnderlying3, Tryz.sizeOf3, Tryz.isAgg3, Tryz.zeroValue3, Tryz.underlying4, Tryz.runUnderlying4, Tryz.sizeOf4, Tryz.isAgg4, Tryz.zeroValue4, Tryz.underlying9, Tryz.runUnderlying9, Tryz.sizeOf9, Tryz.isAgg9, Tryz.zeroValue9, Tryz.underlying20, Tryz.runUnderlying20, Tryz.sizeOf20, Tryz.isAgg20, Tryz.zeroValue20, Tryz.underlying21, Tryz.runUnderlying21, Tryz.sizeOf21, Tryz.isAgg21, Tryz.zeroValue21, by kernel_rfl, by kernel_rfl⟩
instance : Go.ConcR.Payload := ⟨48⟩
end Go.Proofs.YtlcgbnmmbheleaaGreat
