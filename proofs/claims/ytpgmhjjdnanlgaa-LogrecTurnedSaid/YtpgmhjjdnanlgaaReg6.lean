/-
  A region whose order is open, that makes lists of bytes one from another: what holds whatever has been done.
  Conditions: none.
-/
import Derived.Test.YtpgmhjjdnanlgaaReg5
import Derived.Test.YtpgmhjjdnanlgaaMem2
namespace Go.Proofs.Ytpgmhjjdnanlgaa
open Go.RowKit Go.Sort Go.Lib
set_option linter.unusedVariables false
/-- What an operation that makes bytes hands back. -/
structure Rs where
  A : Option Addr
  n : Nat
  c : Nat
def Rs.v (r : Rs) : Value := .slice r.A r.n r.c
def setR (R : Nat → Rs) (i : Nat) (r : Rs) : Nat → Rs := fun j => if j = i then r else R j
theorem setR_eq (R : Nat → Rs) (i : Nat) (r : Rs) : setR R i r i = r := if_pos rfl
theorem setR_ne (R : Nat → Rs) {i j : Nat} (r : Rs) (h : j ≠ i) : setR R i r j = R j := if_neg h
/-- A maker: which operation, its slot, its bytes, the operation that uses them up. -/
structure Mk where
  i : Nat
  s : Nat
  l : List UInt8
  nx : Option Nat
/-- A slot that takes what a maker handed back. -/
structure Cp where
  i : Nat
  s : Nat
  j : Nat
def rows (pu : List (Nat × Nat × Value)) (ms : List Mk) (cs : List Cp) (R : Nat → Rs) : List (Nat × Nat × Value) :=
  pu ++ (ms.map fun m => (m.i, m.s, (R m.i).v)) ++ cs.map fun c => (c.i, c.s, (R c.j).v)
/-- What holds. b: the bytes that lay there ahead of the region, used up by the operation ke. -/
structure Ch (a0 : Act) (ds : List Nat) (pu : List (Nat × Nat × Value)) (ms : List Mk) (cs : List Cp) (base : Nat) (V : World) (be : Nat) (b : Rs) (lb : List UInt8) (ke : Nat) (dp : List (Nat × Nat)) (k0 sl : Nat) (R : Nat → Rs) (L : Nat → Bool) (a : Act) (w : World) : Prop where
  pif : PIF a0 ds (rows pu ms cs R) L a
  bel : Below base V w
  hb : base ≤ V.heap.size
  ex : L ke = false → Own w be b.A b.c lb
  own : ∀ m ∈ ms, L m.i = true → (∀ k, m.nx = some k → L k = false) → Own w base (R m.i).A (R m.i).c m.l
  len : ∀ m ∈ ms, L m.i = true → m.l.length = (R m.i).n
  cp : ∀ c ∈ cs, L c.i = true → L c.j = true
  dep : ∀ d ∈ dp, L d.1 = true → L d.2 = true
  st : L k0 = false → a.tmps.getD sl undef = a0.tmps.getD sl undef
section
theorem dep_upd {dp : List (Nat × Nat)} {L : Nat → Bool} {i : Nat} (h : ∀ d ∈ dp, L d.1 = true → L d.2 = true) (h5 : ∀ d ∈ dp, d.1 = i → L d.2 = true) : ∀ d ∈ dp, upd L i d.1 = true → upd L i d.2 = true := by
  intro d hd hL
  have : L d.2 = true := by
    by_cases e : d.1 = i
    · exact h5 d hd e
    · exact h d hd (by rwa [upd_ne L e] at hL)
  by_cases e : d.2 = i
  · rw [e, upd_eq]
  · rwa [upd_ne L e]
theorem st_upd {L : Nat → Bool} {a a0 : Act} {k0 sl i s : Nat} {v : Value} (h : L k0 = false → a.tmps.getD sl undef = a0.tmps.getD sl undef) (h6 : s = sl → L k0 = true ∨ k0 = i) : upd L i k0 = false → (a.put (some s) v).tmps.getD sl undef = a0.tmps.getD sl undef := by
  intro q
  have hk : k0 ≠ i := fun e => by rw [e, upd_eq] at q; cases q
  rw [upd_ne L hk] at q
  by_cases e : s = sl
  · rcases h6 e with h7 | h7
    · rw [q] at h7; cases h7
    · exact absurd h7 hk
  · rw [act_ne a v e]; exact h q
variable {a0 : Act} {ds : List Nat} {pu : List (Nat × Nat × Value)} {ms : List Mk} {cs : List Cp} {base : Nat} {V : World} {be : Nat} {b : Rs} {lb : List UInt8} {ke : Nat} {dp : List (Nat × Nat)} {k0 sl : Nat} {R : Nat → Rs} {L : Nat → Bool} {a : Act} {w w' : World}
theorem Ch.start (hb : base ≤ V.heap.size) (hB : Below base V w) (hO : Own w be b.A b.c lb) : Ch a0 ds pu ms cs base V be b lb ke dp k0 sl R (fun _ => false) a0 w :=
  ⟨PIF.start _ _ _, hB, hb, fun _ => hO, nofun, nofun, nofun, nofun, fun _ => rfl⟩
theorem Ch.size (h : Ch a0 ds pu ms cs base V be b lb ke dp k0 sl R L a w) : base ≤ w.heap.size := Nat.le_trans h.hb h.bel.size
/-- An operation whose value is known ahead; it may write beyond what there is. -/
theorem Ch.pureW (h : Ch a0 ds pu ms cs base V be b lb ke dp k0 sl R L a w) (hw : Below w.heap.size w w') (i s : Nat) (v : Value) (h1 : ∀ q ∈ rows pu ms cs R, q.1 = i → q.2.1 = s ∧ q.2.2 = v) (h2 : ∀ q ∈ rows pu ms cs R, q.2.1 = s → q.1 = i)
    (h3 : ∀ m ∈ ms, m.i ≠ i) (h4 : ∀ c ∈ cs, c.i ≠ i) (hd : ds.contains s = true) (hlt : s < a0.tmps.size) (hke : i ≠ ke) (h5 : ∀ d ∈ dp, d.1 = i → L d.2 = true) (h6 : s = sl → L k0 = true ∨ k0 = i) : Ch a0 ds pu ms cs base V be b lb ke dp k0 sl R (upd L i) (a.put (some s) v) w' := by
  refine ⟨h.pif.put i s v h1 h2 hd hlt, h.bel.trans (hw.mono h.size), h.hb, fun q => (h.ex (by rwa [upd_ne L (Ne.symm hke)] at q)).below hw, fun m hm hL hx => (h.own m hm (by rwa [upd_ne L (h3 m hm)] at hL) fun k hk => ?_).below hw, fun m hm hL => h.len m hm (by rwa [upd_ne L (h3 m hm)] at hL), fun c hc hL => ?_, dep_upd h.dep h5, st_upd h.st h6⟩
  · have := hx k hk
    by_cases e : k = i
    · subst e; rw [upd_eq] at this; cases this
    · rwa [upd_ne L e] at this
  · have := h.cp c hc (by rwa [upd_ne L (h4 c hc)] at hL)
    by_cases e : c.j = i
    · rw [e, upd_eq]
    · rwa [upd_ne L e]
theorem Ch.pure (h : Ch a0 ds pu ms cs base V be b lb ke dp k0 sl R L a w) (i s : Nat) (v : Value) (h1 : ∀ q ∈ rows pu ms cs R, q.1 = i → q.2.1 = s ∧ q.2.2 = v) (h2 : ∀ q ∈ rows pu ms cs R, q.2.1 = s → q.1 = i)
    (h3 : ∀ m ∈ ms, m.i ≠ i) (h4 : ∀ c ∈ cs, c.i ≠ i) (hd : ds.contains s = true) (hlt : s < a0.tmps.size) (hke : i ≠ ke) (h5 : ∀ d ∈ dp, d.1 = i → L d.2 = true) (h6 : s = sl → L k0 = true ∨ k0 = i) : Ch a0 ds pu ms cs base V be b lb ke dp k0 sl R (upd L i) (a.put (some s) v) w :=
  h.pureW (Below.refl _ _) i s v h1 h2 h3 h4 hd hlt hke h5 h6
/-- A slot takes what a maker handed back. -/
theorem Ch.copy (h : Ch a0 ds pu ms cs base V be b lb ke dp k0 sl R L a w) (i s j : Nat) (hj : L j = true) (h1 : ∀ q ∈ rows pu ms cs R, q.1 = i → q.2.1 = s ∧ q.2.2 = (R j).v) (h2 : ∀ q ∈ rows pu ms cs R, q.2.1 = s → q.1 = i)
    (h3 : ∀ m ∈ ms, m.i ≠ i) (h4 : ∀ c ∈ cs, c.i = i → c.j = j) (hd : ds.contains s = true) (hlt : s < a0.tmps.size) (hke : i ≠ ke) (h5 : ∀ d ∈ dp, d.1 = i → L d.2 = true) (h6 : s = sl → L k0 = true ∨ k0 = i) : Ch a0 ds pu ms cs base V be b lb ke dp k0 sl R (upd L i) (a.put (some s) (R j).v) w := by
  refine ⟨h.pif.put i s _ h1 h2 hd hlt, h.bel, h.hb, fun q => h.ex (by rwa [upd_ne L (Ne.symm hke)] at q), fun m hm hL hx => h.own m hm (by rwa [upd_ne L (h3 m hm)] at hL) fun k hk => ?_, fun m hm hL => h.len m hm (by rwa [upd_ne L (h3 m hm)] at hL), fun c hc hL => ?_, dep_upd h.dep h5, st_upd h.st h6⟩
  · have := hx k hk
    by_cases e : k = i
    · subst e; rw [upd_eq] at this; cases this
    · rwa [upd_ne L e] at this
  · by_cases e : c.i = i
    · rw [h4 c hc e]
      by_cases e2 : j = i
      · rw [e2, upd_eq]
      · rwa [upd_ne L e2]
    · have := h.cp c hc (by rwa [upd_ne L e] at hL)
      by_cases e2 : c.j = i
      · rw [e2, upd_eq]
      · rwa [upd_ne L e2]
theorem Ch.reR (h : Ch a0 ds pu ms cs base V be b lb ke dp k0 sl R L a w) (i : Nat) (r : Rs) (hi : L i = false) (h0 : ∀ q ∈ pu, q.1 ≠ i) : Ch a0 ds pu ms cs base V be b lb ke dp k0 sl (setR R i r) L a w := by
  refine ⟨h.pif.swap fun q hq hL => ?_, h.bel, h.hb, h.ex, fun m hm hL hx => ?_, fun m hm hL => ?_, h.cp, h.dep, h.st⟩
  · simp only [rows, List.mem_append, List.mem_map] at hq ⊢
    rcases hq with (hq | ⟨m, hm, rfl⟩) | ⟨c, hc, rfl⟩
    · exact .inl (.inl hq)
    · refine .inl (.inr ⟨m, hm, ?_⟩)
      rw [setR_ne R r (fun e => by simp only at hL; rw [e, hi] at hL; cases hL)]
    · refine .inr ⟨c, hc, ?_⟩
      rw [setR_ne R r (fun e => by have := h.cp c hc hL; rw [e, hi] at this; cases this)]
  · rw [setR_ne R r (fun e => by rw [e, hi] at hL; cases hL)]; exact h.own m hm hL hx
  · rw [setR_ne R r (fun e => by rw [e, hi] at hL; cases hL)]; exact h.len m hm hL
/-- New bytes beyond what there is. -/
theorem Ch.call (h : Ch a0 ds pu ms cs base V be b lb ke dp k0 sl R L a w) (m : Mk) (hm : m ∈ ms) (r : Rs) (hi : L m.i = false) (hO : Own w' w.heap.size r.A r.c m.l) (hn : m.l.length = r.n) (hw : Below w.heap.size w w')
    (hu : ∀ m' ∈ ms, m'.i = m.i → m' = m) (h0 : ∀ q ∈ pu, q.1 ≠ m.i) (h1 : ∀ q ∈ rows pu ms cs (setR R m.i r), q.1 = m.i → q.2.1 = m.s ∧ q.2.2 = r.v) (h2 : ∀ q ∈ rows pu ms cs (setR R m.i r), q.2.1 = m.s → q.1 = m.i)
    (h4 : ∀ c ∈ cs, c.i ≠ m.i) (hd : ds.contains m.s = true) (hlt : m.s < a0.tmps.size) (h5 : ∀ d ∈ dp, d.1 = m.i → L d.2 = true) (h6 : m.s = sl → L k0 = true ∨ k0 = m.i) : Ch a0 ds pu ms cs base V be b lb ke dp k0 sl (setR R m.i r) (upd L m.i) (a.put (some m.s) r.v) w' := by
  have h' := h.reR m.i r hi h0
  refine ⟨h'.pif.put m.i m.s r.v h1 h2 hd hlt, h.bel.trans (hw.mono h.size), h.hb, fun q => ?_, fun m' hm' hL hx => ?_, fun m' hm' hL => ?_, fun c hc hL => ?_, dep_upd h'.dep h5, st_upd h'.st h6⟩
  · by_cases e : ke = m.i
    · rw [e, upd_eq] at q; cases q
    · exact (h.ex (by rwa [upd_ne L e] at q)).below hw
  · by_cases e : m'.i = m.i
    · rw [hu m' hm' e, setR_eq]; exact hO.base_ h.size
    · refine (h'.own m' hm' (by rwa [upd_ne L e] at hL) fun k hk => ?_).below hw
      have := hx k hk
      by_cases e2 : k = m.i
      · rw [e2, upd_eq] at this; cases this
      · rwa [upd_ne L e2] at this
  · by_cases e : m'.i = m.i
    · rw [hu m' hm' e, setR_eq]; exact hn
    · exact h'.len m' hm' (by rwa [upd_ne L e] at hL)
  · have := h.cp c hc (by rwa [upd_ne L (h4 c hc)] at hL)
    by_cases e : c.j = m.i
    · rw [e, upd_eq]
    · rwa [upd_ne L e]
/-- Bytes appended onto bytes: nothing else that is in use lies there. -/
theorem Ch.app (h : Ch a0 ds pu ms cs base V be b lb ke dp k0 sl R L a w) (m : Mk) (hm : m ∈ ms) (r : Rs) (hi : L m.i = false) {A1 : Option Addr} {c1 n1 : Nat} {l1 : List UInt8} (hO1 : Own w base A1 c1 l1) (hn1 : l1.length = n1) (hO : Own w' base r.A r.c m.l) (hn : m.l.length = r.n) (hw : w.grownBy w' (Value.slice A1 n1 c1).ownBlock)
    (hx : ∀ m' ∈ ms, m'.i ≠ m.i → L m'.i = true → ∃ k, m'.nx = some k ∧ (L k = true ∨ k = m.i)) (hke : L ke = true ∨ ke = m.i)
    (hu : ∀ m' ∈ ms, m'.i = m.i → m' = m) (h0 : ∀ q ∈ pu, q.1 ≠ m.i) (h1 : ∀ q ∈ rows pu ms cs (setR R m.i r), q.1 = m.i → q.2.1 = m.s ∧ q.2.2 = r.v) (h2 : ∀ q ∈ rows pu ms cs (setR R m.i r), q.2.1 = m.s → q.1 = m.i)
    (h4 : ∀ c ∈ cs, c.i ≠ m.i) (hd : ds.contains m.s = true) (hlt : m.s < a0.tmps.size) (h5 : ∀ d ∈ dp, d.1 = m.i → L d.2 = true) (h6 : m.s = sl → L k0 = true ∨ k0 = m.i) : Ch a0 ds pu ms cs base V be b lb ke dp k0 sl (setR R m.i r) (upd L m.i) (a.put (some m.s) r.v) w' := by
  have h' := h.reR m.i r hi h0
  refine ⟨h'.pif.put m.i m.s r.v h1 h2 hd hlt, hO1.grown_below (by rw [hn1]) hw h.bel (Nat.le_refl _) h.size, h.hb, fun q => ?_, fun m' hm' hL hxx => ?_, fun m' hm' hL => ?_, fun c hc hL => ?_, dep_upd h'.dep h5, st_upd h'.st h6⟩
  · exfalso
    rcases hke with e | e
    · by_cases e2 : ke = m.i
      · rw [e2, upd_eq] at q; cases q
      · rw [upd_ne L e2, e] at q; cases q
    · rw [e, upd_eq] at q; cases q
  · by_cases e : m'.i = m.i
    · rw [hu m' hm' e, setR_eq]; exact hO
    · exfalso
      obtain ⟨k, hk, hk2⟩ := hx m' hm' e (by rwa [upd_ne L e] at hL)
      have := hxx k hk
      rcases hk2 with e3 | e3
      · by_cases e2 : k = m.i
        · rw [e2, upd_eq] at this; cases this
        · rw [upd_ne L e2, e3] at this; cases this
      · rw [e3, upd_eq] at this; cases this
  · by_cases e : m'.i = m.i
    · rw [hu m' hm' e, setR_eq]; exact hn
    · exact h'.len m' hm' (by rwa [upd_ne L e] at hL)
  · have := h.cp c hc (by rwa [upd_ne L (h4 c hc)] at hL)
    by_cases e : c.j = m.i
    · rw [e, upd_eq]
    · rwa [upd_ne L e]
end
end Go.Proofs.Ytpgmhjjdnanlgaa
