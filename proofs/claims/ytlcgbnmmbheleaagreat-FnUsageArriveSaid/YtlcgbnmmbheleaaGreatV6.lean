/- Several texts in one. -/
import Derived.Test.YtlcgbnmmbheleaaGreatV5
import Derived.Below
namespace Go.Proofs.YtlcgbnmmbheleaaGreat
open Go Go.Conc
open Go.ConcN (WSit AtR0 RW DWs Has PayAt WgLive CTag WD CT OkW Ok0 RelBy phi cnt Vc Ssum Fsum pend sumTo upd upd_same upd_ne sumTo_upd sumTo_congr le_sumTo get_map_set get_map_set_same norel_of phi_mono phi_retag)
open Go.ConcR (KK WgAt stA smA rd wr mk Payload g_of_ofEvents)
set_option linter.unusedVariables false
set_option linter.unusedSimpArgs false
variable [Payload]

structure Com (P : Program) (K : Cw) (w0 : World) (t0 : Trace) (J : Nat) (gs : Array Goroutine) (w : World) (t : Trace) (ow lw : Nat → Nat) (vl : Nat → Value) (O : Nat → Prop) (D : Nat → WD) (d0 : Nat) : Prop where
  size : gs.size = J + 1
  jJ : K.j0 ≤ J
  wk : ∀ i, i < J → ∃ g, gs[i + 1]? = some g ∧ WS P K ow lw i (vl i) (D i).stage (D i).fuel (D i).deaf g w
  tr : Tr K ow lw J w.heap.size t0 t
  deaf0 : Deaf t 0 = d0
  deafW : ∀ i, i < J → Deaf t (i + 1) = (D i).deaf
  rel : ∀ i, K.j0 ≤ i → i < J → (D i).stage ≤ 6 → ∃ r, RelBy (stA K.Wg) t (i + 1) r
  has : ∀ i, K.j0 ≤ i → i < J → (D i).stage ≤ 6 → Has K.C (i - K.j0) (vl i) w
  pay : PayAt K.C K.n w
  own0 : ∀ b, b < K.B → ow b = 0
  ownN : ∀ b, w.heap.size ≤ b → ow b = 0
  ownJ : ∀ b, ow b ≤ J
  lw0 : ∀ i, i < K.j0 → lw i = 0
  lwB : ∀ i, K.j0 ≤ i → i < J → K.B ≤ lw i
  lwJ : ∀ i, J ≤ i → lw i = 0
  lwN : ∀ i, lw i ≤ w.heap.size
  oO : ∀ b, O b → K.B ≤ b ∧ b < w.heap.size ∧ ow b = 0 ∧ ∀ i, i < J → lw i ≤ b
  since : Mv (fun b => b = K.Wg ∨ b = K.C) w0 w
  bB : w0.heap.size = K.B

section
variable {P : Program} {K : Cw} {AnchW Fin : Goroutine → World → Prop} {w0 w w' : World} {t0 t : Trace} {J : Nat} {gs : Array Goroutine} {ow ow' lw : Nat → Nat} {vl : Nat → Value} {O O' : Nat → Prop} {D : Nat → WD} {d0 : Nat}

theorem Com.sB (h : Com P K w0 t0 J gs w t ow lw vl O D d0) : K.B ≤ w.heap.size := by rw [← h.bB]; exact h.since.size

theorem Com.owner (hK : K.Ok) (h : Com P K w0 t0 J gs w t ow lw vl O D d0) {me : Nat} (hme : me ≤ J) (hT : Turn K ow ow' lw J me w w') :
    (∀ b, b < K.B → ow' b = 0) ∧ (∀ b, ow' b ≤ J) ∧ (∀ i, lw i ≤ w'.heap.size) ∧ Mv (fun b => b = K.Wg ∨ b = K.C) w0 w' := by
  have hs := h.sB
  have hsz := hT.mv.size
  refine ⟨fun b hb => ?_, fun b => ?_, fun i => Nat.le_trans (h.lwN i) hsz, ?_⟩
  · rw [hT.ag b (by omega)]; exact h.own0 b hb
  · rcases Nat.lt_or_ge b w.heap.size with h1 | h1
    · rw [hT.ag b h1]; exact h.ownJ b
    · rcases Nat.lt_or_ge b w'.heap.size with h2 | h2
      · rw [hT.new b h1 h2]; exact hme
      · rw [hT.past b h2]; omega
  · refine ⟨hT.mv.tape.trans h.since.tape, hT.mv.os.trans h.since.os, hT.mv.output.trans h.since.output, h.since.cells.trans hT.mv.cells, fun b hb hn => ?_⟩
    refine (hT.mv.rows b (Nat.lt_of_lt_of_le hb h.since.size) fun hc => ?_).trans (h.since.rows b hb hn)
    rcases hc with hc | hc | ⟨hc, _⟩
    · exact hn (.inl hc)
    · exact hn (.inr hc)
    · rw [h.bB] at hb; omega

theorem Com.at (hK : K.Ok) (h : Com P K w0 t0 J gs w t ow lw vl O D d0) (hwg : WgLive K.ty K.Wg w) (d : Nat) : Com P K w0 t0 J gs (w.at d) t ow lw vl O D d0 := by
  have hT : Turn K ow ow lw J (J + 1) w (w.at d) := ⟨.at _ w d, fun _ _ => rfl, fun b h1 h2 => absurd h2 (Nat.not_lt.2 h1), h.ownN, hwg, h.pay, fun _ _ => rfl⟩
  exact ⟨h.size, h.jJ, fun i hi => let ⟨g, hg, hs⟩ := h.wk i hi; ⟨g, hg, hs.other hK hT hi (by omega) (h.lwN i) h.sB⟩, h.tr, h.deaf0, h.deafW, h.rel, h.has, h.pay, h.own0, h.ownN, h.ownJ, h.lw0, h.lwB, h.lwJ, h.lwN, h.oO, h.since.trans (.at _ w d), h.bB⟩

theorem Com.stepW (hK : K.Ok) (h : Com P K w0 t0 J gs w t ow lw vl O D d0) {i : Nat} (hi : i < J) {g g' : Goroutine} {fn : FuncId} {pos : String} {es : Array Event} {s' m' dd' : Nat} {x' : Value}
    (hT : Turn K ow ow' lw J (i + 1) w w') (hs' : WS P K ow' lw i x' s' m' dd' g' w')
    (htr : Tr K ow' lw J w'.heap.size t0 (t ++ MemOp.ofEvents (i + 1) fn pos es)) (hdeaf : deafBehind (D i).deaf es = dd')
    (hrel : K.j0 ≤ i → s' ≤ 6 → ∃ r, RelBy (stA K.Wg) (t ++ MemOp.ofEvents (i + 1) fn pos es) (i + 1) r) (hhas : K.j0 ≤ i → s' ≤ 6 → Has K.C (i - K.j0) x' w') :
    Com P K w0 t0 J ((gs.map (woken P g g' w')).setIfInBounds (i + 1) g') w' (t ++ MemOp.ofEvents (i + 1) fn pos es) ow' lw (upd vl i x') O (upd D i ⟨s', m', dd'⟩) d0 := by
  obtain ⟨o1, o2, o3, o4⟩ := h.owner hK (by omega) hT
  refine ⟨by simp [h.size], h.jJ, fun i' hi' => ?_, htr, by rw [Deaf_other t (by omega) _ g_of_ofEvents, h.deaf0], fun i' hi' => ?_, fun i' h0 hi' hst => ?_, fun i' h0 hi' hst => ?_, hT.pay, o1, hT.past, o2, h.lw0, h.lwB, h.lwJ, o3, fun b hb => ?_, o4, h.bB⟩
  · by_cases e : i' = i
    · subst e
      exact ⟨g', get_map_set_same _ _ _ (by rw [h.size]; omega), by rw [upd_same, upd_same]; exact hs'⟩
    · obtain ⟨x, hx, hsx⟩ := h.wk i' hi'
      refine ⟨x, by rw [get_map_set _ _ _ _ (by omega), hx, Option.map_some, hsx.woken], ?_⟩
      rw [upd_ne D _ e, upd_ne vl _ e]
      exact hsx.other hK hT hi' (by omega) (h.lwN i') h.sB
  · by_cases e : i' = i
    · subst e; rw [Deaf_own, h.deafW i' hi', upd_same]; exact hdeaf
    · rw [Deaf_other t (by omega) _ g_of_ofEvents, h.deafW i' hi', upd_ne D _ e]
  · by_cases e : i' = i
    · subst e; rw [upd_same] at hst; exact hrel h0 hst
    · rw [upd_ne D _ e] at hst
      obtain ⟨r, hr⟩ := h.rel i' h0 hi' hst
      exact ⟨r, hr.appOther g_of_ofEvents (by omega)⟩
  · by_cases e : i' = i
    · subst e; rw [upd_same] at hst; rw [upd_same]; exact hhas h0 hst
    · rw [upd_ne D _ e] at hst
      rw [upd_ne vl _ e]
      exact (hT.cell (i' - K.j0) (by omega)).trans (h.has i' h0 hi' hst)
  · obtain ⟨h1, h2, h3, h4⟩ := h.oO b hb
    exact ⟨h1, Nat.lt_of_lt_of_le h2 hT.mv.size, by rw [hT.ag b h2]; exact h3, h4⟩

theorem Com.step0 (hK : K.Ok) (h : Com P K w0 t0 J gs w t ow lw vl O D d0) {a a' : Goroutine} {fn : FuncId} {pos : String} {es : Array Event}
    (hT : Turn K ow ow' lw J 0 w w') (htr : Tr K ow' lw J w'.heap.size t0 (t ++ MemOp.ofEvents 0 fn pos es)) (hO : ∀ b, O' b → K.B ≤ b ∧ b < w'.heap.size ∧ ow' b = 0 ∧ ∀ i, i < J → lw i ≤ b) :
    Com P K w0 t0 J ((gs.map (woken P a a' w')).setIfInBounds 0 a') w' (t ++ MemOp.ofEvents 0 fn pos es) ow' lw vl O' D (deafBehind d0 es) := by
  obtain ⟨o1, o2, o3, o4⟩ := h.owner hK (by omega) hT
  refine ⟨by simp [h.size], h.jJ, fun i hi => ?_, htr, by rw [Deaf_own, h.deaf0], fun i hi => by rw [Deaf_other t (by omega) _ g_of_ofEvents, h.deafW i hi], fun i h0 hi hst => ?_, fun i h0 hi hst => (hT.cell _ (by omega)).trans (h.has i h0 hi hst), hT.pay, o1, hT.past, o2, h.lw0, h.lwB, h.lwJ, o3, hO, o4, h.bB⟩
  · obtain ⟨x, hx, hsx⟩ := h.wk i hi
    exact ⟨x, by rw [get_map_set _ _ _ _ (by omega), hx, Option.map_some, hsx.woken], hsx.other hK hT hi (by omega) (h.lwN i) h.sB⟩
  · obtain ⟨r, hr⟩ := h.rel i h0 hi hst
    exact ⟨r, hr.appOther g_of_ofEvents (by omega)⟩

theorem Turn.rs {me : Nat} (hK : K.Ok) (h : Com P K w0 t0 J gs w t ow lw vl O D d0) (hT : Turn K ow ow' lw J me w w') (hme : me ≠ 0) : RS K O w w' :=
  ⟨hT.mv.size, fun b hb => by
    have hs := h.sB
    rcases hb with ⟨h1, h2, h3⟩ | hb
    · exact hT.mv.rows b (by omega) fun hc => by
        rcases hc with hc | hc | ⟨hc, _⟩
        · exact h2 hc
        · exact h3 hc
        · omega
    · obtain ⟨h1, h2, h3, _⟩ := h.oO b hb
      exact hT.mv.rows b h2 fun hc => by
        rcases hc with hc | hc | ⟨_, hc, _⟩
        · have := hK.hW; omega
        · have := hK.hC; omega
        · omega, fun _ => hT.live⟩

def AcqK (K : Cw) (J : Nat) (t : Trace) : Prop :=
  ∃ q, t.act? q = some (.mark (.acquire (stA K.Wg))) ∧ t.g? q = some 0 ∧ t.heard q ∧ ∀ i, K.j0 ≤ i → i < J → ∃ r, RelBy (stA K.Wg) t (i + 1) r ∧ r < q
omit [Payload] in
theorem AcqK.app {u : Trace} (h : AcqK K J t) (hu : ∀ i r, K.j0 ≤ i → i < J → RelBy (stA K.Wg) t (i + 1) r → RelBy (stA K.Wg) (t ++ u) (i + 1) r) : AcqK K J (t ++ u) := by
  obtain ⟨q, h1, h2, h3, h4⟩ := h
  have hq := lt_of_act? h1
  exact ⟨q, by rw [act?_old hq]; exact h1, by rw [g?_old hq]; exact h2, (heard_old hq).2 h3, fun i h0 hi => let ⟨r, hr, hrq⟩ := h4 i h0 hi; ⟨r, hu i r h0 hi hr, hrq⟩⟩
end

def CInv (P : Program) (K : Cw) (AnchW Fin : Goroutine → World → Prop) (w0 : World) (t0 : Trace) (μ : Nat × Nat) (m : Machine) (t : Trace) : Prop :=
  ∃ (gs : Array Goroutine) (w : World) (sl : Option (Nat × Nat)) (J : Nat) (ow lw : Nat → Nat) (vl : Nat → Value) (O : Nat → Prop) (D : Nat → WD) (tag : CTag) (f0 d0 : Nat) (a : Goroutine) (st sm : Int),
    m = crowd gs w sl ∧ gs[0]? = some a ∧ CS P K AnchW Fin tag O (J - K.j0) f0 d0 a w ∧ Com P K w0 t0 J gs w t ow lw vl O D d0 ∧ WgAt K.ty K.Wg w st sm ∧ ConcN.Mode J D tag st sm ∧
    (tag = .ret → AcqK K J t) ∧ μ = (phi K.n (Vc J D) tag + Ssum J D, f0 + 2 * Fsum J D)

section
variable {P : Program} {K : Cw} {AnchW Fin : Goroutine → World → Prop} {w0 w w' : World} {t0 t : Trace} {J : Nat} {gs : Array Goroutine} {ow ow' lw : Nat → Nat} {vl : Nat → Value} {O O' : Nat → Prop} {D : Nat → WD} {d0 f0 : Nat} {tag : CTag} {sl : Option (Nat × Nat)} {a : Goroutine}

theorem cwWorker (hK : K.Ok) (hAr : ∀ g w, AnchW g w → g.status = .running)
    (ha : gs[0]? = some a) (hcs : CS P K AnchW Fin tag O (J - K.j0) f0 d0 a w) (hcom : Com P K w0 t0 J gs w t ow lw vl O D d0)
    {i : Nat} (hi : i < J) {g g' : Goroutine} {es : Array Event} {s' m' dd' : Nat} {x' : Value} {st' sm' : Int} (hg : gs[i + 1]? = some g) (hgo : stepG P false g w = .go g' w' es)
    (hT : Turn K ow ow' lw J (i + 1) w w') (hs' : WS P K ow' lw i x' s' m' dd' g' w')
    (htr : Tr K ow' lw J w'.heap.size t0 (t ++ MemOp.ofEvents (i + 1) g.frame.fn g.frame.place es)) (hdeaf : deafBehind (D i).deaf es = dd')
    (hrel : K.j0 ≤ i → s' ≤ 6 → ∃ r, RelBy (stA K.Wg) (t ++ MemOp.ofEvents (i + 1) g.frame.fn g.frame.place es) (i + 1) r) (hhas : K.j0 ≤ i → s' ≤ 6 → Has K.C (i - K.j0) x' w') (hwg : WgAt K.ty K.Wg w' st' sm')
    (hmode : ∀ tag', (tag' = tag ∨ (tag = .blk ∧ tag' = .w3)) → (mayWake P g = true → g'.status = .running → tag' ≠ .blk) → ConcN.Mode J (upd D i ⟨s', m', dd'⟩) tag' st' sm')
    (hacq : tag = .ret → AcqK K J (t ++ MemOp.ofEvents (i + 1) g.frame.fn g.frame.place es))
    (hlt : (s' < (D i).stage ∧ cnt ⟨s', m', dd'⟩ ≤ cnt (D i)) ∨ (s' = (D i).stage ∧ m' + 1 ≤ (D i).fuel)) :
    ∃ m₁ ops μ', runT P (crowd gs w sl) (i + 1) = (.next m₁, ops) ∧ Lt2 μ' (phi K.n (Vc J D) tag + Ssum J D, f0 + 2 * Fsum J D) ∧ CInv P K AnchW Fin w0 t0 μ' m₁ (t ++ ops) := by
  obtain ⟨tag', f', hcs', hf', htag, hwk⟩ := hcs.wokenBy hAr (hT.rs hK hcom (by omega)) g g'
  have hrun := runT_crowd_go (P := P) (sl := sl) (i := i + 1) hg (by simpa using hgo)
  have e1 := sumTo_upd D (⟨s', m', dd'⟩ : WD) cnt hi
  have e2 := sumTo_upd D (⟨s', m', dd'⟩ : WD) WD.stage hi
  have e3 := sumTo_upd D (⟨s', m', dd'⟩ : WD) WD.fuel hi
  refine ⟨_, _, (phi K.n (Vc J (upd D i ⟨s', m', dd'⟩)) tag' + Ssum J (upd D i ⟨s', m', dd'⟩), f' + 2 * Fsum J (upd D i ⟨s', m', dd'⟩)), hrun, ?_,
    _, w', sl, J, ow', lw, upd vl i x', O, upd D i ⟨s', m', dd'⟩, tag', f', d0, woken P g g' w' a, st', sm', rfl, by rw [get_map_set _ _ _ _ (by omega), ha]; rfl, hcs', hcom.stepW hK hi hT hs' htr hdeaf hrel hhas, hwg, hmode tag' htag hwk, ?_, rfl⟩
  · rw [phi_retag K.n _ htag]
    simp only [Vc, Ssum, Fsum] at *
    rcases hlt with ⟨h1, h2⟩ | ⟨h1, h2⟩
    · refine Prod.Lex.left _ _ ?_
      have := phi_mono K.n (v' := sumTo J fun a => cnt (upd D i ⟨s', m', dd'⟩ a)) (v := sumTo J fun a => cnt (D a)) (by omega) tag
      omega
    · have ec : cnt (⟨s', m', dd'⟩ : WD) = cnt (D i) := by simp only [cnt, h1]
      have ev : (sumTo J fun a => cnt (upd D i ⟨s', m', dd'⟩ a)) = sumTo J fun a => cnt (D a) := by omega
      have es' : (sumTo J fun a => (upd D i ⟨s', m', dd'⟩ a).stage) = sumTo J fun a => (D a).stage := by omega
      rw [ev, es']
      refine Prod.Lex.right _ ?_
      omega
  · intro e
    rcases htag with rfl | ⟨_, rfl⟩
    · exact hacq e
    · cases e

theorem cwCaller (hK : K.Ok) (ha : gs[0]? = some a) (hcom : Com P K w0 t0 J gs w t ow lw vl O D d0)
    {a' : Goroutine} {es : Array Event} {tag' : CTag} {f' : Nat} {st' sm' : Int} (hgo : stepG P true a w = .go a' w' es)
    (hT : Turn K ow ow' lw J 0 w w') (htr : Tr K ow' lw J w'.heap.size t0 (t ++ MemOp.ofEvents 0 a.frame.fn a.frame.place es)) (hO : ∀ b, O' b → K.B ≤ b ∧ b < w'.heap.size ∧ ow' b = 0 ∧ ∀ i, i < J → lw i ≤ b)
    (hcs' : CS P K AnchW Fin tag' O' (J - K.j0) f' (deafBehind d0 es) a' w') (hwg : WgAt K.ty K.Wg w' st' sm') (hmode : ConcN.Mode J D tag' st' sm')
    (hacq : tag' = .ret → AcqK K J (t ++ MemOp.ofEvents 0 a.frame.fn a.frame.place es))
    (hlt : phi K.n (Vc J D) tag' < phi K.n (Vc J D) tag ∨ (phi K.n (Vc J D) tag' = phi K.n (Vc J D) tag ∧ f' < f0)) :
    ∃ m₁ ops μ', runT P (crowd gs w sl) 0 = (.next m₁, ops) ∧ Lt2 μ' (phi K.n (Vc J D) tag + Ssum J D, f0 + 2 * Fsum J D) ∧ CInv P K AnchW Fin w0 t0 μ' m₁ (t ++ ops) := by
  have hrun := runT_crowd_go (P := P) (sl := sl) (i := 0) ha (by simpa using hgo)
  refine ⟨_, _, (phi K.n (Vc J D) tag' + Ssum J D, f' + 2 * Fsum J D), hrun, ?_,
    _, w', sl, J, ow', lw, vl, O', D, tag', f', deafBehind d0 es, a', st', sm', rfl, get_map_set_same _ _ _ (by rw [hcom.size]; omega), hcs', hcom.step0 hK hT htr hO, hwg, hmode, hacq, rfl⟩
  rcases hlt with h | ⟨h1, h2⟩
  · exact Prod.Lex.left _ _ (by omega)
  · rw [h1]; exact Prod.Lex.right _ (by omega)
end
end Go.Proofs.YtlcgbnmmbheleaaGreat

namespace Go.Proofs.YtlcgbnmmbheleaaGreat
open Go Go.Conc
open Go.ConcN (WSit AtR0 RW DWs AsideCell EvW ShN Has PayAt WgLive CTag WD CT OkW Ok0 RelBy phi cnt Vc Ssum Fsum pend sumTo upd upd_same upd_ne isW3 isFin OpenSt bk_cell okW_of_Bk norel_of_Bk norel_of Vc_upd Vc_le others_uncounted cell_of_block deafBehind_idle le_sumTo)
open Go.ConcR (KK WgAt stA smA rd wr mk Payload g_of_ofEvents Bk bk_of_mute ofEvent_loc_mark DC0)
set_option linter.unusedVariables false
set_option linter.unusedSimpArgs false
variable [Payload]

structure EvT (K : Cw) (ow lw : Nat → Nat) (k N : Nat) (e : Event) : Prop where
  touch : ∀ x, (MemAct.ofEvent e).touch? = some x → x.loc.low N ∧ K.j0 < k ∧ ((ShS K.S1 x.loc ∧ x.kind ≠ .plain ∧ x.kind ≠ .said) ∨ ((OwnL K ow k x.loc ∨ (RdL K ow lw k x.loc ∧ x.write = false)) ∧ x.kind ≠ .atomic ∧ x.loc.isMemory = true))
  norel : e.loc ≠ .mark (.release (stA K.Wg))

section
variable {P : Program} {K : Cw} {AnchW Fin : Goroutine → World → Prop} {w0 w w' : World} {t0 t : Trace} {J N k : Nat} {gs : Array Goroutine} {ow ow' lw : Nat → Nat} {vl : Nat → Value} {O O' : Nat → Prop} {D : Nat → WD} {d0 f0 : Nat} {tag : CTag} {sl : Option (Nat × Nat)} {a : Goroutine}

omit [Payload] in
theorem Tr.evW (h : Tr K ow lw J N t0 t) (k1 : 1 ≤ k) (kj : k ≤ J) {fn : FuncId} {pos : String} {es : Array Event} (hes : ∀ e ∈ es, EvT K ow lw k N e) : Tr K ow lw J N t0 (t ++ MemOp.ofEvents k fn pos es) := by
  have hu : ∀ op ∈ MemOp.ofEvents k fn pos es, ∃ e ∈ es, op = { g := k, fn, pos, act := .ofEvent e } := fun op hop => Go.Conc.mem_ofEvents hop
  refine ⟨?_, h.ct.appW (apart_ow K ow lw) k1 kj fun op hop => ?_, fun op hop x hx => ?_, fun i hi hx => ?_, h.old⟩
  · obtain ⟨u, rfl, h1⟩ := h.since
    refine ⟨u ++ MemOp.ofEvents k fn pos es, by rw [Array.append_assoc], fun op hop => ?_⟩
    rcases Array.mem_append.1 hop with hop | hop
    · exact h1 op hop
    · obtain ⟨e, he, rfl⟩ := hu op hop
      refine .inr fun x hx => ?_
      obtain ⟨_, h2, h3⟩ := (hes e he).touch x hx
      exact ⟨h2, h3.imp (fun z => z.1) (fun z => ⟨z.2.1, z.2.2⟩)⟩
  · obtain ⟨e, he, rfl⟩ := hu op hop
    refine ⟨rfl, fun x hx => ?_⟩
    obtain ⟨_, _, h3⟩ := (hes e he).touch x hx
    exact h3.elim .inl fun z => .inr z.1
  · rcases Array.mem_append.1 hop with hop | hop
    · exact h.low op hop x hx
    · obtain ⟨e, he, rfl⟩ := hu op hop
      exact ((hes e he).touch x hx).1
  · obtain ⟨op, ho, hoa⟩ := Option.map_eq_some_iff.1 hx
    rcases getElem?_append_cases ho with ⟨_, ho'⟩ | ⟨_, hou⟩
    · exact h.norel i hi (by rw [Trace.act?, ho']; exact congrArg some hoa)
    · exact norel_of (fun e he => (hes e he).norel) op hou hoa

omit [Payload] in
theorem EvT.still {e : Event} (h : (MemAct.ofEvent e).touch? = none) (hn : e.loc ≠ .mark (.release (stA K.Wg))) : EvT K ow lw k N e := ⟨fun x hx => (by rw [h] at hx; cases hx), hn⟩
omit [Payload] in
theorem EvT.book (hN : K.Wg < N) (hk : K.j0 < k) {e : Event} (h : Bk K.Wg e) : EvT K ow lw k N e := by
  rcases h with h | h | ⟨a, wr, rfl, ha⟩
  · exact .still (by rw [ofEvent_loc_mark h]; rfl) (by rw [h]; simp)
  · exact .still (by rw [ofEvent_loc_mark h]; rfl) (by rw [h]; simp)
  · refine ⟨fun x hx => ?_, by simp⟩
    have hx' : some (⟨.cell a, wr, .atomic⟩ : Touch) = some x := hx
    cases hx'
    exact ⟨(by rw [← ha] at hN; exact hN), hk, .inl ⟨⟨a, rfl, .inr ha⟩, by simp, by simp⟩⟩
omit [Payload] in
theorem EvT.ofW (hN : K.Wg < N) (hk : K.j0 < k) {e : Event} {c : Nat} (h : EvW K.Wg No2 No2 c e) : EvT K ow lw k N e := by
  refine ⟨fun x hx => ?_, h.2.2.2⟩
  rcases (h.1 0 "").2 x hx with ⟨⟨a, e1, ha⟩, h2, h3⟩ | h | ⟨h, _⟩
  · exact ⟨(by rw [e1]; show a.block < N; rw [ha]; exact hN), hk, .inl ⟨⟨a, e1, .inr ha⟩, h2, h3⟩⟩
  · exact h.elim
  · exact h.elim

omit [Payload] in
theorem Mv.of_aside {st sm st' sm' : Int} (h : Aside K.Wg w w') (h1 : WgAt K.ty K.Wg w st sm) (h2 : WgAt K.ty K.Wg w' st' sm') : Mv (fun b => b = K.Wg ∨ b = K.C) w w' := by
  refine ⟨h.tape, h.os, h.output, ⟨by rw [h.size]; exact Nat.le_refl _, fun b hb => ?_, fun b h1 h2 => by rw [h.size] at h2; omega⟩, fun b _ hn => h.block b fun e => hn (.inl e)⟩
  by_cases e : b = K.Wg
  · subst e; exact .inr ⟨_, _, _, _, h1, h2⟩
  · exact .inl (h.block b e)
theorem Mv.of_cell {c : Nat} (h : AsideCell K.C K.n c w w') (hp : PayAt K.C K.n w) : Mv (fun b => b = K.Wg ∨ b = K.C) w w' := by
  refine ⟨h.tape, h.os, h.output, ⟨by rw [h.size]; exact Nat.le_refl _, fun b hb => ?_, fun b h1 h2 => by rw [h.size] at h2; omega⟩, fun b _ hn => h.block b fun e => hn (.inr e)⟩
  by_cases e : b = K.C
  · subst e
    obtain ⟨cs, h1, _⟩ := hp
    obtain ⟨cs', h2, _⟩ := h.pay ⟨cs, h1, ‹_›⟩
    exact .inr ⟨_, _, _, _, h1, h2⟩
  · exact .inl (h.block b e)
theorem Turn.still {me : Nat} (hK : K.Ok) (h : Com P K w0 t0 J gs w t ow lw vl O D d0) (hm : Mv (fun b => b = K.Wg ∨ b = K.C) w w') (hs : w'.heap.size = w.heap.size) (hl : WgLive K.ty K.Wg w') (hp : PayAt K.C K.n w') (hc : ∀ c, K.j0 + c + 1 ≠ me → w'.cell? ⟨K.C, c, none⟩ = w.cell? ⟨K.C, c, none⟩) :
    Turn K ow ow lw J me w w' :=
  ⟨hm.mono fun b hb => hb.elim .inl fun x => .inr (.inl x), fun _ _ => rfl, fun b h1 h2 => by omega, fun b hb => h.ownN b (by omega), hl, hp, hc⟩

theorem CS.bound (h : CS P K AnchW Fin tag O k f0 d0 a w) : k + pend tag ≤ K.n := by
  cases h <;> simp only [pend] <;> (try simp) <;> omega

theorem Com.vc (h : Com P K w0 t0 J gs w t ow lw vl O D d0) : Vc J D ≤ J - K.j0 := by
  have key : ∀ n, n ≤ J → sumTo n (fun i => cnt (D i)) ≤ n - K.j0 := by
    intro n
    induction n with
    | zero => intro _; simp [sumTo]
    | succ n ih =>
      intro hn
      have := ih (by omega)
      simp only [sumTo]
      have hc : cnt (D n) ≤ 1 := by simp only [cnt]; split <;> omega
      rcases Nat.lt_or_ge n K.j0 with hlt | hge
      · have h0 : cnt (D n) = 0 := by
          obtain ⟨g, _, hs⟩ := h.wk n (by omega)
          generalize hst : (D n).stage = s at hs
          generalize (D n).fuel = f at hs
          generalize (D n).deaf = dd at hs
          have : s = 1 := by
            cases hs with
            | vw _ h1 => omega
            | lib _ h1 => omega
            | quit => rfl
          simp [cnt, hst, this]
        omega
      · omega
  exact key J (Nat.le_refl _)

set_option maxHeartbeats 1600000 in
theorem cwStepW (hK : K.Ok) (hAr : ∀ g w, AnchW g w → g.status = .running)
    (ha : gs[0]? = some a) (hcs : CS P K AnchW Fin tag O (J - K.j0) f0 d0 a w) (hcom : Com P K w0 t0 J gs w t ow lw vl O D d0) {st sm : Int} (hwg : WgAt K.ty K.Wg w st sm) (hmode : ConcN.Mode J D tag st sm)
    (hacq : tag = .ret → AcqK K J t) {i : Nat} (hi : i < J) {g : Goroutine} (hg : gs[i + 1]? = some g) (hrun : g.status = .running) :
    ∃ m₁ ops μ', runT P (crowd gs w sl) (i + 1) = (.next m₁, ops) ∧ Lt2 μ' (phi K.n (Vc J D) tag + Ssum J D, f0 + 2 * Fsum J D) ∧ CInv P K AnchW Fin w0 t0 μ' m₁ (t ++ ops) := by
  obtain ⟨g₁, hg₁, hs⟩ := hcom.wk i hi
  obtain rfl : g = g₁ := by rw [hg] at hg₁; exact Option.some.inj hg₁
  generalize hst : (D i).stage = s at hs
  generalize hfu : (D i).fuel = m at hs
  generalize hde : (D i).deaf = dd at hs
  generalize hxe : vl i = xv at hs
  have hb := hcs.bound
  have hVj := hcom.vc
  have hn' := hK.hn
  have hsB := hcom.sB
  have hWN : K.Wg < w.heap.size := Nat.lt_of_lt_of_le hK.hW hsB
  have hCN : K.C < w.heap.size := Nat.lt_of_lt_of_le hK.hC hsB
  have hdk : Deaf t (i + 1) = dd := by rw [hcom.deafW i hi, hde]
  obtain ⟨pcs, hpc1, hpc2⟩ := id hcom.pay
  have nr : s ≠ 1 → tag ≠ .ret := fun h => hmode.not_ret hi (by omega)
  -- behind its store
  have lib : ∀ (v : World), K.j0 ≤ i → Looks K ow lw i v w → Fit (K.ld (i - K.j0)) xv v → ∀ {g' : Goroutine} {w' : World} {es : Array Event} {s' m' dd' : Nat} {st' sm' : Int}, stepG P false g w = .go g' w' es → Aside K.Wg w w' → WgAt K.ty K.Wg w' st' sm' → (∀ e ∈ es, Bk K.Wg e ∨ e = mk (.releaseMerge (stA K.Wg))) →
      (s ≤ 6 → (∀ e ∈ es, Bk K.Wg e) ∧ ∀ jx e, es[jx]? = some e → (MemAct.ofEvent e).touch? = none ∨ 0 < deafBehind dd (es.extract 0 jx)) → WSit P K.ty K.Wg K.C K.n No2 No2 K.B (i - K.j0 + 1) xv s' m' dd' g' w' → deafBehind dd es = dd' → s' ≤ 6 →
      (s ≤ 6 ∨ (Has K.C (i - K.j0) xv w ∧ ∃ r, RelBy (stA K.Wg) (t ++ MemOp.ofEvents (i + 1) g.frame.fn g.frame.place es) (i + 1) r)) →
      (∀ tag', (tag' = tag ∨ (tag = .blk ∧ tag' = .w3)) → (mayWake P g = true → g'.status = .running → tag' ≠ .blk) → ConcN.Mode J (upd D i ⟨s', m', dd'⟩) tag' st' sm') → (tag = .ret → AcqK K J (t ++ MemOp.ofEvents (i + 1) g.frame.fn g.frame.place es)) → ((s' < s ∧ cnt ⟨s', m', dd'⟩ ≤ cnt (D i)) ∨ (s' = s ∧ m' + 1 ≤ m)) →
      ∃ m₁ ops μ', runT P (crowd gs w sl) (i + 1) = (.next m₁, ops) ∧ Lt2 μ' (phi K.n (Vc J D) tag + Ssum J D, f0 + 2 * Fsum J D) ∧ CInv P K AnchW Fin w0 t0 μ' m₁ (t ++ ops) := by
    intro v h0 hlk hft g' w' es s' m' dd' st' sm' hgo hAs hwg' hbk hbk6 hs' hdd h6 hrh hmode' hacq' hlt
    have hm := Mv.of_aside hAs hwg hwg'
    have hT : Turn K ow ow lw J (i + 1) w w' := .still hK hcom hm hAs.size ⟨_, _, hwg'⟩ ⟨pcs, (hAs.block K.C hK.hCW).trans hpc1, hpc2⟩ fun c _ => cell_of_block (hAs.block K.C hK.hCW) c
    obtain ⟨v', hr, hl'⟩ := hlk.own (J := J) hK hm hAs.size
    refine cwWorker hK hAr ha hcs hcom hi hg hgo hT (.lib v' h0 hl' (hft.gr hr) (fun h => by omega) hs') (by
      rw [hAs.size]
      exact hcom.tr.evW (by omega) (by omega) fun e he => (hbk e he).elim (EvT.book hWN (by omega)) fun h => by subst h; exact .still rfl (by simp [mk])) (by rw [hde]; exact hdd) (fun _ _ => ?_) (fun _ _ => ?_) hwg' hmode' hacq' (by rw [hst, hfu]; exact hlt)
    · rcases hrh with h | ⟨_, h⟩
      · obtain ⟨r, hr⟩ := hcom.rel i h0 hi (by omega)
        exact ⟨r, hr.book hdk _ _ (hbk6 h).1 (hbk6 h).2⟩
      · exact h
    · have : Has K.C (i - K.j0) xv w := by
        rcases hrh with h | ⟨h, _⟩
        · rw [← hxe]; exact hcom.has i h0 hi (by omega)
        · exact h
      exact (cell_of_block (hAs.block K.C hK.hCW) _).trans this
  cases hs with
  | @quit q d g w hj hq =>
    cases m with
    | zero => rw [hq.1] at hrun; cases hrun
    | succ q' =>
      rcases hq with ⟨hf, _⟩ | ⟨_, g', es, hmute, hstep, hq⟩
      · rw [hf] at hrun; cases hrun
      · have hT : Turn K ow ow lw J (i + 1) w w := .still hK hcom (.refl _ w) rfl ⟨_, _, hwg⟩ hcom.pay fun _ _ => rfl
        refine cwWorker hK hAr ha hcs hcom hi hg (hstep w) hT (x' := xv) (.quit hj hq) (hcom.tr.evW (by omega) (by omega) fun e he => ?_) (by rw [hde]) (fun h => by omega) (fun h => by omega) hwg
          (fun _ ht _ => ConcN.Mode.retag (by have := hmode.same (i := i) q' (deafBehind dd es); rwa [hst] at this) ht) (fun e => (hacq e).app fun i' r h0 hi' hr => hr.appOther g_of_ofEvents (by omega)) (.inr ⟨hst.symm, by omega⟩)
        refine .still (touch_mute (hmute e he)) fun h => ?_
        have := hmute e he
        obtain ⟨loc, wr, sy⟩ := e
        dsimp only at h
        subst h
        simp [Event.mute] at this
  | @vw m' g w v hj hlk hgv =>
    have hcases : (∀ v₁, GR v v₁ → AtSt P K (i - K.j0) g v₁) ∨ ∃ n', m' = n' + 1 ∧ ∀ v₁, GR v v₁ → Tied P false K.H (lw i) (GV P false K.H (lw i) (AtSt P K (i - K.j0)) n') g v₁ := by
      cases m' with
      | zero => exact .inl hgv
      | succ n' => exact hgv.imp id fun x => ⟨n', rfl, x.2⟩
    rcases hcases with hstop | ⟨n', rfl, hstep⟩
    · -- IT STORES ITS RESULT
      obtain ⟨_, x, hft, hall⟩ := hstop v (.refl v)
      obtain ⟨g', hgo, m₂, hm₂, hk⟩ := hall w ⟨_, _, hwg⟩ hcom.pay (by omega)
      have hcell : w.cell? ⟨K.C, i - K.j0, none⟩ = some (pcs[i - K.j0]'(by omega)) := by
        simp [World.cell?, hpc1, Array.getElem?_eq_getElem (show i - K.j0 < pcs.size by omega)]
      have hrow : (w.setCell ⟨K.C, i - K.j0, none⟩ x).heap[K.C]? = some (.cells (pcs.setIfInBounds (i - K.j0) x) Payload.ety) := by
        rw [setCell_put w _ x hpc1]
        simp [hCN]
      have hoth : ∀ b, b ≠ K.C → (w.setCell ⟨K.C, i - K.j0, none⟩ x).heap[b]? = w.heap[b]? := fun b hb => RowKit.Below.heap_setCell _ _ _ _ hb
      have hm : Mv (fun b => b = K.Wg ∨ b = K.C) w (w.setCell ⟨K.C, i - K.j0, none⟩ x) := ⟨rfl, rfl, rfl, .setCell _ _ _ hcell, fun b _ hn => hoth b fun e => hn (.inr e)⟩
      have hsz : (w.setCell ⟨K.C, i - K.j0, none⟩ x).heap.size = w.heap.size := World.size_setCell _ _ _
      have hwg' : WgAt K.ty K.Wg (w.setCell ⟨K.C, i - K.j0, none⟩ x) st sm := hwg.of_block (hoth _ (Ne.symm hK.hCW))
      have hT : Turn K ow ow lw J (i + 1) w (w.setCell ⟨K.C, i - K.j0, none⟩ x) := .still hK hcom hm hsz ⟨_, _, hwg'⟩ ⟨_, hrow, by simp [hpc2]⟩ fun c hc => World.cell?_setCell_other _ _ _ _ (by intro e; cases e; omega)
      obtain ⟨v', hr, hl'⟩ := hlk.own (J := J) hK hm hsz
      refine cwWorker hK hAr ha hcs hcom hi hg hgo hT (s' := 7) (m' := m₂) (dd' := 0) (x' := x) (.lib v' hj hl' (hft.gr hr) (fun _ => hm₂) (.r0 hk)) (by
        rw [hsz]
        refine hcom.tr.evW (by omega) (by omega) fun e he => ?_
        rw [Array.mem_singleton] at he
        subst he
        refine ⟨fun y hy => ?_, by simp⟩
        have hy' : some (⟨.cell ⟨K.C, i - K.j0, none⟩, true, .plain⟩ : Touch) = some y := hy
        cases hy'
        exact ⟨hCN, by omega, .inr ⟨.inl ⟨by omega, _, rfl, fun h => h.elim hK.sC (fun h => hK.hCW h), .inr ⟨rfl, by omega, by show i - K.j0 = i + 1 - 1 - K.j0; omega⟩⟩, by simp, rfl⟩⟩) (by rw [hde]; rfl) (fun _ h => by omega) (fun _ h => by omega) hwg'
        (fun _ ht _ => ConcN.Mode.retag (by have := hmode.same (i := i) m₂ 0; rwa [hst] at this) ht) (fun e => absurd e (nr (by omega))) (.inr ⟨hst.symm, by omega⟩)
    · -- IT WORKS
      obtain ⟨g', v', w', es, hgo, hv', htp, htp', hdr', hsz, hkept, hD, htame, hg'⟩ := hstep v (.refl v) _ w hlk.view hlk.tape hlk.drawn
      have hvs := hlk.view.size
      have hvs' := hv'.size
      have hHs : ∀ b, K.H b → b < w.heap.size := fun b hb => Nat.lt_of_lt_of_le (hK.hB b hb) hsB
      have hidW : HidB K ow lw i w K.Wg := ⟨hWN, fun h => h.1 (.inr rfl)⟩
      have hidC : HidB K ow lw i w K.C := ⟨hCN, fun h => h.2.1 rfl⟩
      have seen1 : ∀ b, ¬ HidB K ow lw i w b → ¬ K.H b → w'.heap[b]? = v'.heap[b]? ∧ w.heap[b]? = v.heap[b]? := fun b h1 h2 => ⟨(hv'.same b h1 h2).symm, (hlk.view.same b h1 h2).symm⟩
      have hT : Turn K ow (fun b => if w.heap.size ≤ b ∧ b < w'.heap.size then i + 1 else ow b) lw J (i + 1) w w' := by
        refine ⟨⟨htp, hv'.os.symm.trans (hD.os.trans hlk.view.os), hv'.output.symm.trans (hD.output.trans hlk.view.output), ⟨hsz, fun b hb => ?_, fun b h1 h2 => ?_⟩, fun b hb hn => ?_⟩, fun b hb => if_neg (by omega), fun b h1 h2 => if_pos ⟨h1, h2⟩, fun b hb => by rw [if_neg (by omega)]; exact hcom.ownN b (by omega), ⟨_, _, hwg.of_block (hkept _ (.inl hidW))⟩, ⟨pcs, (hkept _ (.inl hidC)).trans hpc1, hpc2⟩, fun c _ => cell_of_block (hkept _ (.inl hidC)) c⟩
        · by_cases hh : HidB K ow lw i w b ∨ K.H b
          · exact .inl (hkept b hh)
          · obtain ⟨e1, e2⟩ := seen1 b (fun x => hh (.inl x)) (fun x => hh (.inr x))
            rw [e1, e2]
            exact hD.cells.old b (by omega)
        · have h3 : ¬ HidB K ow lw i w b := fun h => by have := h.1; omega
          have h4 : ¬ K.H b := fun h => by have := hHs b h; omega
          rw [(seen1 b h3 h4).1]
          exact hD.cells.new b (by omega) (by omega)
        · by_cases hh : HidB K ow lw i w b ∨ K.H b
          · exact hkept b hh
          · obtain ⟨e1, e2⟩ := seen1 b (fun x => hh (.inl x)) (fun x => hh (.inr x))
            have hvis : Vis K ow lw i b := Classical.byContradiction fun h => hh (.inl ⟨hb, h⟩)
            rcases hvis.2.2 with h3 | ⟨_, h3⟩
            · exfalso
              refine hn (.inr (.inr ⟨Nat.le_of_not_lt fun hlt => ?_, h3, fun h => by omega⟩))
              have := hcom.own0 b hlt
              omega
            · rw [e1, e2]; exact hD.low b h3
      have hsame : HidB K (fun b => if w.heap.size ≤ b ∧ b < w'.heap.size then i + 1 else ow b) lw i w' = HidB K ow lw i w := by
        funext b
        apply propext
        constructor
        · rintro ⟨h1, h2⟩
          rcases Nat.lt_or_ge b w.heap.size with hlt | hge
          · refine ⟨hlt, fun ⟨h3, h4, h5⟩ => h2 ⟨h3, h4, ?_⟩⟩
            dsimp only
            rw [if_neg (by omega)]; exact h5
          · refine absurd ⟨fun h => ?_, fun h => ?_, .inl (if_pos ⟨hge, h1⟩)⟩ h2
            · rcases h with h | h
              · have := hK.sB b h; omega
              · omega
            · omega
        · rintro ⟨h1, h2⟩
          refine ⟨by omega, fun ⟨h3, h4, h5⟩ => h2 ⟨h3, h4, ?_⟩⟩
          dsimp only at h5
          rw [if_neg (by omega)] at h5; exact h5
      refine cwWorker hK hAr ha hcs hcom hi hg hgo hT (s' := 7) (m' := n' + 64) (dd' := 0) (x' := xv) (.vw v' hj ⟨by rw [hsame]; exact hv', htp', hdr'⟩ hg') (((hcom.tr.grow hsz (fun b hb => if_neg (by omega)) (fun b hb => hcom.ownN b hb) hcom.lwN).evW (by omega) (by omega) fun e he => ?_)) (by
        rw [hde]
        exact deafBehind_idle (fun e he => by obtain ⟨ad, h1, _⟩ := hD.evs e he; rw [h1]; exact ⟨by simp, by simp⟩) 0) (fun _ h => by omega) (fun _ h => by omega) (hwg.of_block (hkept _ (.inl hidW)))
        (fun _ ht _ => ConcN.Mode.retag (by have := hmode.same (i := i) (n' + 64) 0; rwa [hst] at this) ht) (fun e => absurd e (nr (by omega))) (.inr ⟨hst.symm, by omega⟩)
      obtain ⟨ad, h1, h2, h3⟩ := hD.evs e he
      have htm := htame e he
      obtain ⟨loc, wr, sy⟩ := e
      dsimp only at h1 h2 h3
      subst h1 h2
      obtain ⟨h4, h5⟩ : ¬ HidB K ow lw i w ad.block ∧ ad.block < w'.heap.size := htm
      refine ⟨fun y hy => ?_, by simp⟩
      have hy' : some (⟨.cell ad, wr, .plain⟩ : Touch) = some y := hy
      cases hy'
      refine ⟨h5, by omega, .inr ⟨?_, by simp, rfl⟩⟩
      rcases Nat.lt_or_ge ad.block w.heap.size with hlt | hge
      · have hvis : Vis K ow lw i ad.block := Classical.byContradiction fun h => h4 ⟨hlt, h⟩
        rcases hvis.2.2 with h6 | ⟨h6, h7⟩
        · exact .inl ⟨by omega, ad, rfl, hvis.1, .inl ⟨by dsimp only; rw [if_neg (by omega)]; exact h6, hvis.2.1⟩⟩
        · refine .inr ⟨⟨by omega, ad, rfl, hvis.1, by dsimp only; rw [if_neg (by omega)]; exact h6, h7, hvis.2.1⟩, ?_⟩
          cases wr with
          | false => rfl
          | true => have := h3 rfl; omega
      · refine .inl ⟨by omega, ad, rfl, fun h => ?_, .inl ⟨if_pos ⟨hge, h5⟩, by omega⟩⟩
        rcases h with h | h
        · have := hK.sB _ h; omega
        · omega
  | @lib s m dd g w v hj hlk hft hm7 hws =>
    have idle : ∀ {g' : Goroutine} {m' : Nat}, stepG P false g w = .go g' w #[] → WSit P K.ty K.Wg K.C K.n No2 No2 K.B (i - K.j0 + 1) xv s m' dd g' w → m' + 1 = m → s ≤ 6 → s ≠ 1 →
        ∃ m₁ ops μ', runT P (crowd gs w sl) (i + 1) = (.next m₁, ops) ∧ Lt2 μ' (phi K.n (Vc J D) tag + Ssum J D, f0 + 2 * Fsum J D) ∧ CInv P K AnchW Fin w0 t0 μ' m₁ (t ++ ops) := by
      intro g' m' hgo hs' hm h6 h1
      exact lib v hj hlk hft hgo (.refl K.Wg w) hwg (by simp) (fun _ => ⟨by simp, by simp⟩) hs' rfl h6 (.inl h6) (fun _ ht _ => ConcN.Mode.retag (by have := hmode.same (i := i) m' dd; rwa [hst] at this) ht) (fun e => absurd e (nr h1)) (.inr ⟨rfl, by omega⟩)
    cases hws with
    | r0 h =>
      rcases Goes.cases h with hstop | ⟨m', rfl, hstep⟩
      · obtain ⟨_, hhas, g', hgo, m₂, hk⟩ := hstop w (ConcN.RW.refl w)
        exact lib v hj hlk hft hgo (.refl K.Wg w) hwg (by intro e he; simp at he; exact .inr he) (fun h => by omega) (.k1 hk) rfl (by omega) (.inr ⟨by simpa using hhas, t.size, RelBy.new hdk _ _⟩)
          (fun _ ht _ => ConcN.Mode.retag (hmode.counted hi (by omega) (.inl rfl) _ _) ht) (fun e => absurd e (nr (by omega))) (.inl ⟨by omega, by simp [cnt, hst]⟩)
      · obtain ⟨g', w', es, hgo, ⟨hac, hev⟩, hg'⟩ := hstep w (ConcN.RW.refl w)
        simp only [Nat.add_sub_cancel] at hac
        have hm := Mv.of_cell hac hcom.pay
        have hT : Turn K ow ow lw J (i + 1) w w' := .still hK hcom hm hac.size ⟨_, _, hwg.of_block (hac.block K.Wg (Ne.symm hK.hCW))⟩ (hac.pay hcom.pay) fun c hc => hac.cells c (by omega)
        obtain ⟨v', hr, hl'⟩ := hlk.own (J := J) hK hm hac.size
        exact cwWorker hK hAr ha hcs hcom hi hg hgo hT (.lib v' hj hl' (hft.gr hr) (fun h => by have := hm7 h; omega) (.r0 hg')) (by rw [hac.size]; exact hcom.tr.evW (by omega) (by omega) fun e he => EvT.ofW hWN (by omega) (hev e he))
          (by rw [hde]; exact deafBehind_idle (fun e he => ⟨(hev e he).2.1, (hev e he).2.2.1⟩) 0) (fun _ h => by omega) (fun _ h => by omega) (hwg.of_block (hac.block K.Wg (Ne.symm hK.hCW)))
          (fun _ ht _ => ConcN.Mode.retag (by have := hmode.same (i := i) m' 0; rwa [hst] at this) ht) (fun e => absurd e (nr (by omega))) (.inr ⟨hst.symm, by omega⟩)
    | k1 h =>
      rcases Goes.cases h with hstop | ⟨m', rfl, hstep⟩
      · obtain ⟨_, g', hgo, m₂, hk⟩ := hstop w (ConcN.RW.refl w)
        have hb1 : ∀ e ∈ #[mk .disable], Bk K.Wg e := by intro e he; simp at he; subst he; exact .inl rfl
        exact lib v hj hlk hft hgo (.refl K.Wg w) hwg (fun e he => .inl (hb1 e he)) (fun _ => ⟨hb1, by intro jx e he; exact .inl (by have := Array.mem_of_getElem? he; simp at this; subst this; rfl)⟩) (.d1 hk) rfl (by omega) (.inl (by omega))
          (fun _ ht _ => ConcN.Mode.retag (hmode.counted hi (by omega) (.inr rfl) _ _) ht) (fun e => absurd e (nr (by omega))) (.inl ⟨by omega, by simp [cnt, hst]⟩)
      · obtain ⟨g', w', es, hgo, ⟨rfl, rfl⟩, hg'⟩ := hstep w (ConcN.RW.refl w)
        exact idle hgo (.k1 hg') rfl (by omega) (by omega)
    | d1 h =>
      rcases Goes.cases h with hstop | ⟨m', rfl, hstep⟩
      · obtain ⟨_, hall⟩ := hstop w (ConcN.RW.refl w)
        have hc1 : cnt (D i) = 1 := by simp [cnt, hst]
        have hV1 : 1 ≤ Vc J D := by have := le_sumTo (f := fun x => cnt (D x)) hi; simp only [Vc]; omega
        have bk2 : ∀ e ∈ #[rd (stA K.Wg), wr (stA K.Wg)], Bk K.Wg e := by intro e he; simp at he; rcases he with rfl | rfl <;> exact bk_cell _ _ rfl
        have df2 : ∀ jx e, (#[rd (stA K.Wg), wr (stA K.Wg)] : Array Event)[jx]? = some e → (MemAct.ofEvent e).touch? = none ∨ 0 < deafBehind 1 ((#[rd (stA K.Wg), wr (stA K.Wg)] : Array Event).extract 0 jx) := by
          intro jx e he
          match jx, he with
          | 0, _ => exact .inr (by simp [deafBehind])
          | 1, _ => exact .inr (by simp [deafBehind, rd])
          | jx + 2, he => simp at he
        have hq0 : ∀ q, cnt (⟨1, q, 1⟩ : WD) = 0 := fun _ => rfl
        have opq : ∀ q, OpenSt J D → OpenSt J (upd D i ⟨1, q, 1⟩) := fun q h a ha => by
          by_cases e : a = i
          · subst e; rw [upd_same]; simp
          · rw [upd_ne D _ e]; exact h a ha
        cases hmode with
        | opn h1 h2 h3 =>
          obtain ⟨v1, hv⟩ : ∃ v1, Vc J D + pend tag = v1 + 1 := ⟨Vc J D + pend tag - 1, by omega⟩
          rw [hv] at hwg
          have hw1 : WgAt K.ty K.Wg w (((v1 : Nat) + 1) * KK + ((0 : Nat) : Int)) 0 := by simpa using hwg
          obtain ⟨g', hgo, _, hq⟩ := hall v1 0 (by omega) (by omega) hw1
          obtain ⟨q, hq⟩ := hq (by omega)
          have hv' : Vc J (upd D i ⟨1, q, 1⟩) + pend tag = v1 := by have := Vc_upd D (⟨1, q, 1⟩ : WD) hi; have := hq0 q; omega
          refine lib v hj hlk hft hgo (aside_setCell w (stA K.Wg) _) (hw1.setSt _) (fun e he => .inl (bk2 e he)) (fun _ => ⟨bk2, df2⟩) (.quit hq) rfl (by omega) (.inl (by omega)) (fun _ ht _ => ConcN.Mode.retag ?_ ht) (fun e => absurd e (nr (by omega))) (.inl ⟨by omega, by simp [cnt]⟩)
          have e : ((v1 : Nat) : Int) * KK + ((0 : Nat) : Int) = ((Vc J (upd D i ⟨1, q, 1⟩) + pend tag : Nat) : Int) * KK := by rw [hv']; simp
          rw [e]
          exact .opn h1 (opq q h2) (fun vs ev => by have := h3 vs ev; omega)
        | reg h1 h2 h3 =>
          obtain ⟨v1, hv⟩ : ∃ v1, Vc J D = v1 + 1 := ⟨Vc J D - 1, by omega⟩
          rw [hv] at hwg
          have hp : pend tag = 0 := by cases tag <;> first | rfl | exact h1.elim
          have hw1 : WgAt K.ty K.Wg w (((v1 : Nat) + 1) * KK + ((1 : Nat) : Int)) 0 := by simpa using hwg
          obtain ⟨g', hgo, hl, hq⟩ := hall v1 1 (by omega) (by omega) hw1
          by_cases hv0 : v1 = 0
          · subst hv0
            obtain ⟨m₂, hk⟩ := hl ⟨rfl, rfl⟩
            refine lib v hj hlk hft hgo (aside_setCell w (stA K.Wg) _) (hw1.setSt _) (fun e he => .inl (bk2 e he)) (fun _ => ⟨bk2, df2⟩) (.d2 hk) rfl (by omega) (.inl (by omega)) (fun _ ht _ => ConcN.Mode.retag ?_ ht) (fun e => absurd e (nr (by omega))) (.inl ⟨by omega, by simp [cnt]⟩)
            have hoth : ∀ a, a < J → a ≠ i → (D a).stage = 1 := fun a ha e => by
              have c0 := others_uncounted hi hv hc1 a ha e
              have := h2 a ha
              simp only [cnt] at c0
              split at c0 <;> omega
            have := ConcN.Mode.last (j := J) (D := upd D i ⟨4, m₂, 1⟩) (tag := tag) i h1 hi (by rw [upd_same]; simp) (fun a ha e => by rw [upd_ne D _ e]; exact hoth a ha e)
            rw [upd_same] at this
            simpa using this
          · obtain ⟨q, hq⟩ := hq (by omega)
            have hv' : Vc J (upd D i ⟨1, q, 1⟩) = v1 := by have := Vc_upd D (⟨1, q, 1⟩ : WD) hi; have := hq0 q; omega
            refine lib v hj hlk hft hgo (aside_setCell w (stA K.Wg) _) (hw1.setSt _) (fun e he => .inl (bk2 e he)) (fun _ => ⟨bk2, df2⟩) (.quit hq) rfl (by omega) (.inl (by omega)) (fun _ ht _ => ConcN.Mode.retag ?_ ht) (fun e => absurd e (nr (by omega))) (.inl ⟨by omega, by simp [cnt]⟩)
            have e : ((v1 : Nat) : Int) * KK + ((1 : Nat) : Int) = ((Vc J (upd D i ⟨1, q, 1⟩) : Nat) : Int) * KK + 1 := by rw [hv']; simp
            rw [e]
            exact .reg h1 (opq q h2) (by omega)
        | last L _ h2 h3 h4 =>
          by_cases e : i = L
          · subst e; omega
          · have := h4 i hi e; omega
        | sema h2 => have := h2 i hi; omega
        | fin _ h2 => have := h2 i hi; omega
      · obtain ⟨g', w', es, hgo, ⟨rfl, rfl⟩, hg'⟩ := hstep w (ConcN.RW.refl w)
        exact idle hgo (.d1 hg') rfl (by omega) (by omega)
    | d2 h =>
      rcases Goes.cases h with hstop | ⟨m', rfl, hstep⟩
      · obtain ⟨_, hx⟩ := hstop w (ConcN.RW.refl w)
        obtain ⟨hW3, hoth, rfl, rfl⟩ := hmode.isLast hi (by omega)
        simp only [hst] at hwg
        obtain ⟨g', hgo, m₂, hk⟩ := hx (by simpa using hwg)
        have hb1 : ∀ e ∈ #[rd (stA K.Wg)], Bk K.Wg e := by intro e he; simp at he; subst he; exact bk_cell _ _ rfl
        refine lib v hj hlk hft hgo (.refl K.Wg w) hwg (fun e he => .inl (hb1 e he)) (fun _ => ⟨hb1, by intro jx e he; match jx, he with | 0, _ => exact .inr (by simp [deafBehind]) | jx + 1, he => simp at he⟩) (.d3 hk) rfl (by omega) (.inl (by omega)) (fun _ ht _ => ConcN.Mode.retag ?_ ht) (fun e => absurd e (nr (by omega))) (.inl ⟨by omega, by simp [cnt]⟩)
        have := ConcN.Mode.last (j := J) (D := upd D i ⟨3, m₂, 1⟩) (tag := tag) i hW3 hi (by rw [upd_same]; simp) (fun a ha e => by rw [upd_ne D _ e]; exact hoth a ha e)
        rw [upd_same] at this
        simpa using this
      · obtain ⟨g', w', es, hgo, ⟨rfl, rfl⟩, hg'⟩ := hstep w (ConcN.RW.refl w)
        exact idle hgo (.d2 hg') rfl (by omega) (by omega)
    | d3 h =>
      rcases Goes.cases h with hstop | ⟨m', rfl, hstep⟩
      · obtain ⟨_, hx⟩ := hstop w (ConcN.RW.refl w)
        obtain ⟨hW3, hoth, rfl, rfl⟩ := hmode.isLast hi (by omega)
        simp only [hst] at hwg
        obtain ⟨g', hgo, m₂, hk⟩ := hx (by simpa using hwg)
        have hb1 : ∀ e ∈ #[wr (stA K.Wg)], Bk K.Wg e := by intro e he; simp at he; subst he; exact bk_cell _ _ rfl
        refine lib v hj hlk hft hgo (aside_setCell w (stA K.Wg) _) (hwg.setSt 0) (fun e he => .inl (hb1 e he)) (fun _ => ⟨hb1, by intro jx e he; match jx, he with | 0, _ => exact .inr (by simp [deafBehind]) | jx + 1, he => simp at he⟩) (.d4 hk) rfl (by omega) (.inl (by omega)) (fun _ ht _ => ConcN.Mode.retag ?_ ht) (fun e => absurd e (nr (by omega))) (.inl ⟨by omega, by simp [cnt]⟩)
        have := ConcN.Mode.last (j := J) (D := upd D i ⟨2, m₂, 1⟩) (tag := tag) i hW3 hi (by rw [upd_same]; simp) (fun a ha e => by rw [upd_ne D _ e]; exact hoth a ha e)
        rw [upd_same] at this
        simpa using this
      · obtain ⟨g', w', es, hgo, ⟨rfl, rfl⟩, hg'⟩ := hstep w (ConcN.RW.refl w)
        exact idle hgo (.d3 hg') rfl (by omega) (by omega)
    | d4 h =>
      rcases Goes.cases h with hstop | ⟨m', rfl, hstep⟩
      · obtain ⟨_, hmw, hx⟩ := hstop w (ConcN.RW.refl w)
        obtain ⟨hW3, hoth, rfl, rfl⟩ := hmode.isLast hi (by omega)
        simp only [hst] at hwg
        obtain ⟨g', hgo, q, hq⟩ := hx (by simpa using hwg)
        have hrun' : g'.status = .running := by
          cases q with
          | zero => exact absurd hq.2 (by decide)
          | succ q => exact hq.elim (fun x => absurd x.2 (by decide)) (fun x => x.1)
        have hb1 : ∀ e ∈ semEvents (smA K.Wg), Bk K.Wg e := by
          intro e he
          simp [semEvents] at he
          rcases he with rfl | rfl | rfl | rfl
          · exact .inl rfl
          · exact bk_cell _ _ rfl
          · exact bk_cell _ _ rfl
          · exact .inr (.inl rfl)
        refine lib v hj hlk hft hgo (aside_setCell w (smA K.Wg) _) (hwg.setSm 1) (fun e he => .inl (hb1 e he)) (fun _ => ⟨hb1, ?_⟩) (.quit hq) (by simp [deafBehind, semEvents]) (by omega) (.inl (by omega)) ?_ (fun e => absurd e (nr (by omega))) (.inl ⟨by omega, by simp [cnt]⟩)
        · intro jx e he
          match jx, he with
          | 0, he => simp [semEvents] at he; subst he; exact .inl rfl
          | 1, _ => exact .inr (by simp [deafBehind, semEvents])
          | 2, _ => exact .inr (by simp [deafBehind, semEvents])
          | 3, he => simp [semEvents] at he; subst he; exact .inl rfl
          | jx + 4, he => simp [semEvents] at he
        · intro tag' ht hw
          have hnb := hw hmw hrun'
          have e3 : tag' = .w3 := by
            rcases ht with rfl | ⟨_, rfl⟩
            · cases tag' <;> first | rfl | exact hW3.elim | exact absurd rfl hnb
            · rfl
          subst e3
          simp only [if_true]
          exact .sema fun a ha => by
            by_cases e : a = i
            · subst e; rw [upd_same]
            · rw [upd_ne D _ e]; exact hoth a ha e
      · obtain ⟨g', w', es, hgo, ⟨rfl, rfl⟩, hg'⟩ := hstep w (ConcN.RW.refl w)
        exact idle hgo (.d4 hg') rfl (by omega) (by omega)
    | quit h =>
      cases m with
      | zero => rw [h.1] at hrun; cases hrun
      | succ q =>
        rcases h with ⟨hf, _⟩ | ⟨_, g', es, hmute, hstep, hq⟩
        · rw [hf] at hrun; cases hrun
        · have hbk : ∀ e ∈ es, Bk K.Wg e := fun e he => bk_of_mute (hmute e he)
          have hno : ∀ jx e, es[jx]? = some e → (MemAct.ofEvent e).touch? = none ∨ 0 < deafBehind dd (es.extract 0 jx) := fun jx e he => .inl (touch_mute (hmute e (Array.mem_of_getElem? he)))
          refine lib v hj hlk hft (hstep w) (.refl K.Wg w) hwg (fun e he => .inl (hbk e he)) (fun _ => ⟨hbk, hno⟩) (.quit hq) rfl (by omega) (.inl (by omega)) (fun _ ht _ => ConcN.Mode.retag (by have := hmode.same (i := i) q (deafBehind dd es); rwa [hst] at this) ht) (fun e => (hacq e).app fun i' r h0 hi' hr => ?_) (.inr ⟨rfl, by omega⟩)
          by_cases e' : i' = i
          · subst e'; exact hr.book hdk _ _ hbk hno
          · exact hr.appOther g_of_ofEvents (by omega)
end
end Go.Proofs.YtlcgbnmmbheleaaGreat
