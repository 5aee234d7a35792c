/-
  A row of writers that a loop grows; a region whose order is open, that makes writers and puts them behind such a row.
  Conditions: none.
-/
import Derived.Test.YtaadfalklddhcaaZStmT3
import Derived.Test.YtaadfalklddhcaaZStmW11
namespace Go.Proofs.Ytaadfalklddhcaa
open Go.RowKit Go.Sort Go.Lib
set_option linter.unusedVariables false
set_option linter.unusedSimpArgs false
/-- The row grows, in place or elsewhere. -/
theorem WrF.app' {gr gr' : Nat} {w w' : World} {v : Value} {m : List UInt8} (h : WrF gr w v m) (hg : w.grownBy w' (some gr)) (hr : gr' = gr ∨ w.heap.size ≤ gr') : WrF gr' w' v m := by
  obtain ⟨a, b, h1, h⟩ := h
  refine ⟨a, b, ?_, h.step (fun i h2 h3 => hg.block i (by have := h.1; omega) (by intro q; injection q with q; omega)) (by have := h.1; have := hg.size; omega)⟩
  rcases hr with rfl | hr
  · exact h1
  · exact .inr (Nat.le_trans h.1 hr)
/-- Writers, one for each list of bytes, none of which leans on block gr. -/
def WrFs (gr : Nat) (w : World) : List Value → List (List UInt8) → Prop
  | [], [] => True
  | v :: vs, m :: ms => WrF gr w v m ∧ WrFs gr w vs ms
  | _, _ => False
theorem WrFs.all {gr : Nat} {w : World} : ∀ {vs : List Value} {ms : List (List UInt8)}, WrFs gr w vs ms → WrAll w vs ms
  | [], [], _ => trivial
  | _ :: vs, _ :: ms, h => ⟨h.1.ok, WrFs.all (vs := vs) (ms := ms) h.2⟩
  | [], _ :: _, h => h.elim
  | _ :: _, [], h => h.elim
theorem WrFs.len {gr : Nat} {w : World} : ∀ {vs : List Value} {ms : List (List UInt8)}, WrFs gr w vs ms → vs.length = ms.length
  | [], [], _ => rfl
  | _ :: vs, _ :: ms, h => by rw [List.length_cons, List.length_cons, WrFs.len (vs := vs) (ms := ms) h.2]
  | [], _ :: _, h => h.elim
  | _ :: _, [], h => h.elim
theorem WrFs.map {gr gr' : Nat} {w w' : World} (f : ∀ v m, WrF gr w v m → WrF gr' w' v m) : ∀ {vs : List Value} {ms : List (List UInt8)}, WrFs gr w vs ms → WrFs gr' w' vs ms
  | [], [], _ => trivial
  | _ :: vs, _ :: ms, h => ⟨f _ _ h.1, WrFs.map f (vs := vs) (ms := ms) h.2⟩
  | [], _ :: _, h => h.elim
  | _ :: _, [], h => h.elim
theorem WrFs.below {gr : Nat} {w w' : World} {vs : List Value} {ms : List (List UInt8)} (h : WrFs gr w vs ms) (hb : Below w.heap.size w w') : WrFs gr w' vs ms := h.map fun _ _ q => q.below hb
theorem WrFs.app {gr gr' : Nat} {w w' : World} {vs : List Value} {ms : List (List UInt8)} (h : WrFs gr w vs ms) (hg : w.grownBy w' (some gr)) (hr : gr' = gr ∨ w.heap.size ≤ gr') : WrFs gr' w' vs ms := h.map fun _ _ q => q.app' hg hr
theorem WrFs.snoc {gr : Nat} {w : World} {v : Value} {m : List UInt8} (hv : WrF gr w v m) : ∀ {vs : List Value} {ms : List (List UInt8)}, WrFs gr w vs ms → WrFs gr w (vs ++ [v]) (ms ++ [m])
  | [], [], _ => ⟨hv, trivial⟩
  | _ :: vs, _ :: ms, h => ⟨h.1, WrFs.snoc hv (vs := vs) (ms := ms) h.2⟩
  | [], _ :: _, h => h.elim
  | _ :: _, [], h => h.elim
theorem OwnF.len {w : World} {base n c : Nat} {A : Option Addr} {l : List Value} (h : OwnF w base A n c l) : l.length = n := by
  have := h.1; omega
theorem OwnF.lt {w : World} {base n c gr : Nat} {l : List Value} (h : OwnF w base (some ⟨gr, 0, none⟩) n c l) : base ≤ gr ∧ gr < w.heap.size := World.ownsRow.lt h gr rfl
theorem OwnF.cap {w : World} {base n c gr : Nat} {l : List Value} (h : OwnF w base (some ⟨gr, 0, none⟩) n c l) : n ≤ c := by
  rcases h.2 with ⟨hv, _⟩ | ⟨g, cap, cur, hv, _, _, h1, _⟩
  · injection hv with e; cases e
  · injection hv with _ _ e; omega
/-! ### Makers of writers in an open order, behind a row that grows -/
def jrows (pu : List (Nat × Nat × Value)) (ms : List (Nat × Nat × List UInt8)) (E : Ends) (n0 : Nat) (F : Nat → Value) (bA gr' rc : Nat) : List (Nat × Nat × Value) :=
  pu ++ ((E.ib, E.sb, .slice (some ⟨bA, 0, none⟩) ms.length ms.length) :: (E.ia, E.sa, .slice (some ⟨gr', 0, none⟩) (n0 + ms.length) rc) :: (E.i4, E.s4, .slice (some ⟨gr', 0, none⟩) (n0 + ms.length) rc) :: ms.map fun m => (m.1, m.2.1, F m.1))
structure WJ (a0 : Act) (ds : List Nat) (pu : List (Nat × Nat × Value)) (ms : List (Nat × Nat × List UInt8)) (E : Ends) (be : Nat) (V : World) (gr n0 c0 : Nat) (l0 : List Value) (F : Nat → Value) (bA gr' rc : Nat) (L : Nat → Bool) (a : Act) (w : World) : Prop where
  pif : PIF a0 ds (jrows pu ms E n0 F bA gr' rc) L a
  lo : be ≤ V.heap.size
  lt : gr < V.heap.size
  gb : V.grownBy w (some gr)
  ok : ∀ m ∈ ms, L m.1 = true → ∃ b, WrIn V.heap.size b w (F m.1) m.2.2 ∧ (L E.ia = true → gr' = gr ∨ b ≤ gr')
  own : L E.ia = false → OwnF w be (some ⟨gr, 0, none⟩) n0 c0 l0
  bld : L E.ib = true → L E.ia = false → Row w (some ⟨bA, 0, none⟩) (ms.map fun m => F m.1)
  app : L E.ia = true → OwnF w be (some ⟨gr', 0, none⟩) (n0 + ms.length) rc (l0 ++ ms.map fun m => F m.1) ∧ (gr' = gr ∨ V.heap.size ≤ gr')
  dbm : L E.ib = true → ∀ m ∈ ms, L m.1 = true
  dab : L E.ia = true → L E.ib = true ∧ L 0 = true
  d4a : L E.i4 = true → L E.ia = true
  st : L E.i4 = false → a.tmps.getD E.s4 undef = a0.tmps.getD E.s4 undef
section
variable {a0 : Act} {ds : List Nat} {pu : List (Nat × Nat × Value)} {ms : List (Nat × Nat × List UInt8)} {E : Ends} {be : Nat} {V : World} {gr n0 c0 : Nat} {l0 : List Value} {F : Nat → Value} {bA gr' rc : Nat} {L : Nat → Bool} {a : Act} {w w' : World}
theorem WJ.start (hb : be ≤ V.heap.size) (hO : OwnF V be (some ⟨gr, 0, none⟩) n0 c0 l0) (hw : V.grownBy w (some gr)) (hO2 : OwnF w be (some ⟨gr, 0, none⟩) n0 c0 l0) : WJ a0 ds pu ms E be V gr n0 c0 l0 F bA gr' rc (fun _ => false) a0 w :=
  ⟨PIF.start _ _ _, hb, hO.lt.2, hw, nofun, fun _ => hO2, nofun, nofun, nofun, nofun, nofun, fun _ => rfl⟩
theorem WJ.size (h : WJ a0 ds pu ms E be V gr n0 c0 l0 F bA gr' rc L a w) : be ≤ w.heap.size := Nat.le_trans h.lo h.gb.size
theorem WJ.one (h : WJ a0 ds pu ms E be V gr n0 c0 l0 F bA gr' rc L a w) {m : Nat × Nat × List UInt8} (hm : m ∈ ms) (hL : L m.1 = true) : WrOk w (F m.1) m.2.2 := by
  obtain ⟨b, h1, _⟩ := h.ok m hm hL
  exact h1.ok
/-- An operation whose value is known ahead. -/
theorem WJ.pure (h : WJ a0 ds pu ms E be V gr n0 c0 l0 F bA gr' rc L a w) (i s : Nat) (v : Value) (h1 : ∀ q ∈ jrows pu ms E n0 F bA gr' rc, q.1 = i → q.2.1 = s ∧ q.2.2 = v) (h2 : ∀ q ∈ jrows pu ms E n0 F bA gr' rc, q.2.1 = s → q.1 = i)
    (h3 : ∀ m ∈ ms, m.1 ≠ i) (h4 : i ≠ E.ib ∧ i ≠ E.ia ∧ i ≠ E.i4 ∧ s ≠ E.s4) (hd : ds.contains s = true) (hlt : s < a0.tmps.size) : WJ a0 ds pu ms E be V gr n0 c0 l0 F bA gr' rc (upd L i) (a.put (some s) v) w := by
  obtain ⟨g1, g2, g3, g4⟩ := h4
  refine ⟨h.pif.put i s v h1 h2 hd hlt, h.lo, h.lt, h.gb, fun m hm hL => ?_, fun q => h.own (by rwa [upd_ne L (Ne.symm g2)] at q), fun q q2 => h.bld (updT q (Ne.symm g1)) (by rwa [upd_ne L (Ne.symm g2)] at q2), fun q => h.app (updT q (Ne.symm g2)), fun q m hm => updK (h.dbm (updT q (Ne.symm g1)) m hm),
    fun q => ⟨updK (h.dab (updT q (Ne.symm g2))).1, updK (h.dab (updT q (Ne.symm g2))).2⟩, fun q => updK (h.d4a (updT q (Ne.symm g3))), fun q => ?_⟩
  · obtain ⟨b, k1, k2⟩ := h.ok m hm (updT hL (h3 m hm))
    exact ⟨b, k1, fun q => k2 (updT q (Ne.symm g2))⟩
  · rw [act_ne a v g4]
    exact h.st (by rwa [upd_ne L (Ne.symm g3)] at q)
/-- A maker. -/
theorem WJ.call (h : WJ a0 ds pu ms E be V gr n0 c0 l0 F bA gr' rc L a w) (m : Nat × Nat × List UInt8) (hm : m ∈ ms) (hi : L m.1 = false) (v : Value) (hok : WrIn w.heap.size w'.heap.size w' v m.2.2) (hw : Below w.heap.size w w')
    (h0 : ∀ q ∈ pu, q.1 ≠ m.1) (hu : ∀ p ∈ ms, p.1 = m.1 → p = m)
    (h1 : ∀ q ∈ jrows pu ms E n0 (setF F m.1 v) bA gr' rc, q.1 = m.1 → q.2.1 = m.2.1 ∧ q.2.2 = v) (h2 : ∀ q ∈ jrows pu ms E n0 (setF F m.1 v) bA gr' rc, q.2.1 = m.2.1 → q.1 = m.1)
    (h4 : m.1 ≠ E.ib ∧ m.1 ≠ E.ia ∧ m.1 ≠ E.i4 ∧ m.2.1 ≠ E.s4) (hd : ds.contains m.2.1 = true) (hlt : m.2.1 < a0.tmps.size) : WJ a0 ds pu ms E be V gr n0 c0 l0 (setF F m.1 v) bA gr' rc (upd L m.1) (a.put (some m.2.1) v) w' := by
  obtain ⟨g1, g2, g3, g4⟩ := h4
  have hnb : L E.ib = false := by
    cases e : L E.ib with
    | false => rfl
    | true => rw [h.dbm e m hm] at hi; cases hi
  have hna : L E.ia = false := by
    cases e : L E.ia with
    | false => rfl
    | true => rw [(h.dab e).1] at hnb; cases hnb
  have hn4 : L E.i4 = false := by
    cases e : L E.i4 with
    | false => rfl
    | true => rw [h.d4a e] at hna; cases hna
  have hp : PIF a0 ds (jrows pu ms E n0 (setF F m.1 v) bA gr' rc) L a := PIF.swap h.pif (by
    intro q hq hL
    have hne : q.1 ≠ m.1 := fun e => by rw [e, hi] at hL; cases hL
    unfold jrows at hq ⊢
    simp only [List.mem_append, List.mem_cons, List.mem_map] at hq ⊢
    rcases hq with hq | hq | hq | hq | ⟨p, hp, rfl⟩
    · exact .inl hq
    · exact .inr (.inl hq)
    · exact .inr (.inr (.inl hq))
    · exact .inr (.inr (.inr (.inl hq)))
    · refine .inr (.inr (.inr (.inr ⟨p, hp, ?_⟩)))
      rw [setF_ne F v hne])
  refine ⟨hp.put m.1 m.2.1 v h1 h2 hd hlt, h.lo, h.lt, h.gb.andThen (World.grownBy.but ⟨hw.os, hw.tape, hw.output, hw.size, fun i hi _ => hw.block i hi⟩ (some gr)) (fun j hj => .inr (by rw [hj])), fun p hp hL => ?_, fun q => (h.own hna).below hw, fun q => ?_, fun q => ?_, fun q => ?_, fun q => ?_, fun q => ?_, fun q => ?_⟩
  · by_cases e : p.1 = m.1
    · rw [hu p hp e, setF_eq]
      exact ⟨_, hok.mono h.gb.size (Nat.le_refl _) (Nat.le_refl _), fun q => by rw [upd_ne L (Ne.symm g2), hna] at q; cases q⟩
    · rw [setF_ne F v e]
      obtain ⟨b, k1, k2⟩ := h.ok p hp (updT hL e)
      exact ⟨b, k1.below hw, fun q => by rw [upd_ne L (Ne.symm g2), hna] at q; cases q⟩
  · rw [upd_ne L (Ne.symm g1), hnb] at q; cases q
  · rw [upd_ne L (Ne.symm g2), hna] at q; cases q
  · rw [upd_ne L (Ne.symm g1), hnb] at q; cases q
  · rw [upd_ne L (Ne.symm g2), hna] at q; cases q
  · rw [upd_ne L (Ne.symm g3), hn4] at q; cases q
  · rw [act_ne a v g4]; exact h.st hn4
theorem jrows_ne {pu : List (Nat × Nat × Value)} {ms : List (Nat × Nat × List UInt8)} {E : Ends} {n0 : Nat} {F : Nat → Value} {bA bA' : Nat} {rA rA' : Nat} {rc rc' : Nat} {L : Nat → Bool}
    (hb : bA' = bA ∨ L E.ib = false) (ha : (rA' = rA ∧ rc' = rc) ∨ (L E.ia = false ∧ L E.i4 = false)) : ∀ q ∈ jrows pu ms E n0 F bA' rA' rc', L q.1 = true → q ∈ jrows pu ms E n0 F bA rA rc := by
  intro q hq hL
  unfold jrows at hq ⊢
  simp only [List.mem_append, List.mem_cons, List.mem_map] at hq ⊢
  rcases hq with hq | rfl | rfl | rfl | hq
  · exact .inl hq
  · rcases hb with rfl | hb
    · exact .inr (.inl rfl)
    · rw [hb] at hL; cases hL
  · rcases ha with ⟨rfl, rfl⟩ | ha
    · exact .inr (.inr (.inl rfl))
    · rw [ha.1] at hL; cases hL
  · rcases ha with ⟨rfl, rfl⟩ | ha
    · exact .inr (.inr (.inr (.inl rfl)))
    · rw [ha.2] at hL; cases hL
  · exact .inr (.inr (.inr (.inr hq)))
/-- The literal of the makers' writers. -/
theorem WJ.build (h : WJ a0 ds pu ms E be V gr n0 c0 l0 F bA gr' rc L a w) (hi : L E.ib = false) (hall : ∀ m ∈ ms, L m.1 = true) (cs : Array Value) (hcs : cs.toList = ms.map fun m => F m.1)
    (h1 : ∀ q ∈ jrows pu ms E n0 F w.heap.size gr' rc, q.1 = E.ib → q.2.1 = E.sb ∧ q.2.2 = .slice (some ⟨w.heap.size, 0, none⟩) ms.length ms.length) (h2 : ∀ q ∈ jrows pu ms E n0 F w.heap.size gr' rc, q.2.1 = E.sb → q.1 = E.ib)
    (h4 : E.ib ≠ E.ia ∧ E.ib ≠ E.i4 ∧ E.sb ≠ E.s4) (hm : ∀ m ∈ ms, m.1 ≠ E.ib) (hd : ds.contains E.sb = true) (hlt : E.sb < a0.tmps.size) :
    WJ a0 ds pu ms E be V gr n0 c0 l0 F w.heap.size gr' rc (upd L E.ib) (a.put (some E.sb) (.slice (some ⟨w.heap.size, 0, none⟩) ms.length ms.length)) (w.alloc (.cells cs 84)) := by
  obtain ⟨g2, g3, g4⟩ := h4
  have hw : Below w.heap.size w (w.alloc (.cells cs 84)) := (Below.refl _ _).alloc (Nat.le_refl _) _
  have hna : L E.ia = false := by
    cases e : L E.ia with
    | false => rfl
    | true => rw [(h.dab e).1] at hi; cases hi
  have hn4 : L E.i4 = false := by
    cases e : L E.i4 with
    | false => rfl
    | true => rw [h.d4a e] at hna; cases hna
  have hp : PIF a0 ds (jrows pu ms E n0 F w.heap.size gr' rc) L a := PIF.swap h.pif (jrows_ne (.inr hi) (.inl ⟨rfl, rfl⟩))
  refine ⟨hp.put E.ib E.sb _ h1 h2 hd hlt, h.lo, h.lt, h.gb.andThen (World.grownBy_alloc w _ none) nofun, fun p hp hL => ?_, fun q => (h.own hna).below hw, fun q _ => row_fn w _ cs hcs, fun q => ?_, fun q m hm' => updK (hall m hm'), fun q => ?_, fun q => ?_, fun q => ?_⟩
  · obtain ⟨b, k1, k2⟩ := h.ok p hp (updT hL (hm p hp))
    exact ⟨b, k1.below hw, fun q => by rw [upd_ne L (Ne.symm g2), hna] at q; cases q⟩
  · rw [upd_ne L (Ne.symm g2), hna] at q; cases q
  · rw [upd_ne L (Ne.symm g2), hna] at q; cases q
  · rw [upd_ne L (Ne.symm g3), hn4] at q; cases q
  · rw [act_ne a _ g4]; exact h.st hn4
/-- The append. -/
theorem WJ.appd (h : WJ a0 ds pu ms E be V gr n0 c0 l0 F bA gr' rc L a w) (hi : L E.ia = false) (hib : L E.ib = true) (h00 : L 0 = true) (gr2 c' : Nat) (hO : OwnF w' be (some ⟨gr2, 0, none⟩) (n0 + ms.length) c' (l0 ++ ms.map fun m => F m.1)) (hg : w.grownBy w' (some gr)) (hr : gr2 = gr ∨ gr2 = w.heap.size)
    (h1 : ∀ q ∈ jrows pu ms E n0 F bA gr2 c', q.1 = E.ia → q.2.1 = E.sa ∧ q.2.2 = .slice (some ⟨gr2, 0, none⟩) (n0 + ms.length) c') (h2 : ∀ q ∈ jrows pu ms E n0 F bA gr2 c', q.2.1 = E.sa → q.1 = E.ia)
    (h4 : E.ib ≠ E.ia ∧ E.ia ≠ E.i4 ∧ E.sa ≠ E.s4) (hm : ∀ m ∈ ms, m.1 ≠ E.ia) (hd : ds.contains E.sa = true) (hlt : E.sa < a0.tmps.size) :
    WJ a0 ds pu ms E be V gr n0 c0 l0 F bA gr2 c' (upd L E.ia) (a.put (some E.sa) (.slice (some ⟨gr2, 0, none⟩) (n0 + ms.length) c')) w' := by
  obtain ⟨g2, g3, g4⟩ := h4
  have hn4 : L E.i4 = false := by
    cases e : L E.i4 with
    | false => rfl
    | true => rw [h.d4a e] at hi; cases hi
  have hp : PIF a0 ds (jrows pu ms E n0 F bA gr2 c') L a := PIF.swap h.pif (jrows_ne (.inl rfl) (.inr ⟨hi, hn4⟩))
  refine ⟨hp.put E.ia E.sa _ h1 h2 hd hlt, h.lo, h.lt, h.gb.andThen hg (fun j hj => .inr (by rw [hj])), fun p hp hL => ?_, fun q => ?_, fun q q2 => ?_, fun q => ⟨hO, ?_⟩, fun q m hm' => updK (h.dbm hib m hm'), fun q => ⟨updK hib, updK h00⟩, fun q => ?_, fun q => ?_⟩
  · obtain ⟨b, k1, k2⟩ := h.ok p hp (updT hL (hm p hp))
    have hl := h.lt
    refine ⟨b, k1.step (fun i q1 q2 => hg.block i (by have := k1.1; omega) (by intro e; injection e with e; omega)) (Nat.le_trans k1.1 hg.size), fun _ => ?_⟩
    rcases hr with rfl | rfl
    · exact .inl rfl
    · exact .inr k1.1
  · rw [upd_eq] at q; cases q
  · rw [upd_eq] at q2; cases q2
  · rcases hr with rfl | rfl
    · exact .inl rfl
    · exact .inr h.gb.size
  · rw [upd_ne L (Ne.symm g3), hn4] at q; cases q
  · rw [act_ne a _ g4]; exact h.st hn4
/-- The slot takes it. -/
theorem WJ.fin (h : WJ a0 ds pu ms E be V gr n0 c0 l0 F bA gr' rc L a w) (hia : L E.ia = true)
    (h1 : ∀ q ∈ jrows pu ms E n0 F bA gr' rc, q.1 = E.i4 → q.2.1 = E.s4 ∧ q.2.2 = .slice (some ⟨gr', 0, none⟩) (n0 + ms.length) rc) (h2 : ∀ q ∈ jrows pu ms E n0 F bA gr' rc, q.2.1 = E.s4 → q.1 = E.i4)
    (h4 : E.ib ≠ E.i4 ∧ E.ia ≠ E.i4) (hm : ∀ m ∈ ms, m.1 ≠ E.i4) (hd : ds.contains E.s4 = true) (hlt : E.s4 < a0.tmps.size) :
    WJ a0 ds pu ms E be V gr n0 c0 l0 F bA gr' rc (upd L E.i4) (a.put (some E.s4) (.slice (some ⟨gr', 0, none⟩) (n0 + ms.length) rc)) w := by
  obtain ⟨g1, g2⟩ := h4
  refine ⟨h.pif.put E.i4 E.s4 _ h1 h2 hd hlt, h.lo, h.lt, h.gb, fun p hp hL => ?_, fun q => ?_, fun q q2 => ?_, fun q => h.app hia, fun q m hm' => updK (h.dbm (h.dab hia).1 m hm'), fun q => ⟨updK (h.dab hia).1, updK (h.dab hia).2⟩, fun q => updK hia, fun q => ?_⟩
  · obtain ⟨b, k1, k2⟩ := h.ok p hp (updT hL (hm p hp))
    exact ⟨b, k1, fun _ => k2 hia⟩
  · rw [upd_ne L g2, hia] at q; cases q
  · rw [upd_ne L g2, hia] at q2; cases q2
  · rw [upd_eq] at q; cases q
/-- A new writer, when all is done. -/
theorem WJ.wrf (h : WJ a0 ds pu ms E be V gr n0 c0 l0 F bA gr' rc L a w) (hia : L E.ia = true) {m : Nat × Nat × List UInt8} (hm : m ∈ ms) : WrF gr' w (F m.1) m.2.2 := by
  obtain ⟨b, k1, k2⟩ := h.ok m hm (h.dbm (h.dab hia).1 m hm)
  refine ⟨_, b, ?_, k1⟩
  rcases k2 hia with rfl | q
  · exact .inl h.lt
  · exact .inr q
end
end Go.Proofs.Ytaadfalklddhcaa
