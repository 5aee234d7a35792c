/-
  A row of writers of the call's own; a region whose order is open, that makes writers and puts them behind the row.
  Conditions: none.
-/
import Derived.Test.YtaadfalklddhcaaZStmW6
import Derived.Test.YtaadfalklddhcaaZCj
namespace Go.Proofs.Ytaadfalklddhcaa
open Go.RowKit Go.Sort Go.Lib
set_option linter.unusedVariables false
set_option linter.unusedSimpArgs false
theorem info_fn : (Try.prog.info? 84).map (fun i => (i.zero, i.size, i.bytes)) = some (some .nilFunc, 1, 8) := by kernel_rfl
/-- The slice of writers (A, n, c) is the call's own, and holds l. -/
def OwnF (w : World) (base : Nat) (A : Option Addr) (n c : Nat) (l : List Value) : Prop := w.ownsRow base 84 1 (.slice A n c) n l
section
variable {w w' : World} {base n c : Nat} {A : Option Addr} {l : List Value}
theorem OwnF.row (h : OwnF w base A n c l) : Row w A l := Row.of_own h
theorem OwnF.below (h : OwnF w base A n c l) (hb : Below w.heap.size w w') : OwnF w' base A n c l := by
  refine ⟨h.1, ?_⟩
  rcases h.2 with hn | ⟨g, cap, cur, e, hb', hg, rest⟩
  · exact .inl hn
  · refine .inr ⟨g, cap, cur, e, hb', ?_, rest⟩
    rw [hb.block g (Array.getElem?_eq_some_iff.1 hg).1]; exact hg
theorem OwnF.new (w : World) (l : List Value) (n : Nat) (hn : l.length = n) (hm : n ≤ 1000) (hb : base ≤ w.heap.size) : OwnF (w.alloc (.cells l.toArray 84)) base (some ⟨w.heap.size, 0, none⟩) n n l :=
  ⟨by omega, .inr ⟨w.heap.size, n, _, rfl, hb, Blk.new w _ _, Nat.le_refl _, by unfold maxLen; omega, by simp [hn], by rw [Nat.mul_one, ← hn, List.take_length]⟩⟩
end
theorem row_fn (w : World) (l : List Value) (cs : Array Value) (h : cs.toList = l) : Row (w.alloc (.cells cs 84)) (some ⟨w.heap.size, 0, none⟩) l :=
  .inr ⟨w.heap.size, 0, rfl, fun j u hu => by
    rw [Nat.zero_add, Blk.cell (Blk.new w 84 cs) j, ← Array.getElem?_toList, h, hu]⟩
theorem WrOk.one {w : World} {v : Value} {m : List UInt8} (h : WrOk w v m) : v.oneCell' = true := by
  obtain ⟨fn, caps, rfl, _⟩ := h
  rfl
theorem WrOk.form {w : World} {v : Value} {m : List UInt8} (h : WrOk w v m) : ∃ fn caps, v = .func (.func fn) #[] caps := by
  obtain ⟨fn, caps, rfl, _⟩ := h
  exact ⟨fn, caps, rfl⟩
/-- append of writers, in the walk. -/
theorem wpl_appF (w : World) {ops : Array Oper} {rest : List Oper} {o : Oper} {a : Act} {Q : Exit → Act → World → Prop} (hgd : Region.wanted o (yielded ops a.tmps) = true) (s x : Operand)
    (ho : o.op = .call { callee := .builtin .append, args := #[s, x], argTypes := #[86, 86] })
    (base : Nat) (A : Option Addr) (c : Nat) (l : List Value) (n : Nat) (hs : a.eval s = .slice A n c) (hown : OwnF w base A n c l)
    (A2 : Option Addr) (c2 : Nat) (m : List Value) (k : Nat) (hx : a.eval x = .slice A2 k c2) (hk : m.length = k) (hr : Row w A2 m) (h1 : ∀ u ∈ m, u.oneCell' = true)
    (hlen : n + k ≤ 1000) (hbase : base ≤ w.heap.size)
    (h : ∀ A' c' w', OwnF w' base A' (n + k) c' (l ++ m) → w.grownBy w' (Value.slice A n c).ownBlock →
      wpList Try.prog ops Q rest (a.put o.dst (.slice A' (n + k) c')) w') : wpList Try.prog ops Q (o :: rest) a w := by
  obtain ⟨i0, hi0, hz0, hz1, hz2⟩ := info_parts info_fn
  exact wpl_append w hgd s x _ ho base 84 i0 _ 1 8 Try.underlying86 hi0 hz0 hz1 hz2 rfl (by omega) _ n l hs hown A2 k c2 m hx (by omega) hr h1
    (by unfold maxLen; omega) (by omega) hbase fun A' c' w' h1 h2 h3 => h A' c' w' h1 h2
/-- append of writers, at a step of a region that draws its order. -/
theorem step_appF (w : World) {ops : Array Oper} {o : Oper} {a : Act} {K : Act → World → Prop} {Q : Exit → Act → World → Prop} {E : Prop} (hgd : o.guard = none) (s x : Operand)
    (ho : o.op = .call { callee := .builtin .append, args := #[s, x], argTypes := #[86, 86] })
    (base : Nat) (A : Option Addr) (c : Nat) (l : List Value) (n : Nat) (hs : a.eval s = .slice A n c) (hown : OwnF w base A n c l)
    (A2 : Option Addr) (c2 : Nat) (m : List Value) (k : Nat) (hx : a.eval x = .slice A2 k c2) (hk : m.length = k) (hr : Row w A2 m) (h1 : ∀ u ∈ m, u.oneCell' = true)
    (hlen : n + k ≤ 1000) (hbase : base ≤ w.heap.size)
    (h : ∀ A' c' w', OwnF w' base A' (n + k) c' (l ++ m) → w.grownBy w' (Value.slice A n c).ownBlock → K (a.put o.dst (.slice A' (n + k) c')) w') :
    if Region.wanted o (yielded ops a.tmps) = true then Oper.wp Try.prog o a w K Q else E := by
  have hw : Region.wanted o (yielded ops a.tmps) = true := by simp [Region.wanted, hgd]
  rw [if_pos hw]
  obtain ⟨i0, hi0, hz0, hz1, hz2⟩ := info_parts info_fn
  exact wp_append_row w s x _ ho base 84 i0 _ 1 8 Try.underlying86 hi0 hz0 hz1 hz2 rfl (by omega) _ n l hs hown A2 k c2 m hx (by omega) hr h1
    (by unfold maxLen; omega) (by omega) hbase fun A' c' w' h1 h2 h3 => h A' c' w' h1 h2
theorem OwnF.grown_below {w w' w0 : World} {base n c B : Nat} {A : Option Addr} {l : List Value} (h : OwnF w base A n c l) (hg : w.grownBy w' (Value.slice A n c).ownBlock) (hb : Below B w0 w) (hB : B ≤ base) (hs : B ≤ w.heap.size) : Below B w0 w' :=
  hb.grown hg hs fun k hk => by
    have := World.ownsRow.lt h k hk
    omega
set_option maxRecDepth 100000 in
/-- append of writers to a row that is full: new memory. -/
theorem run_appF_full (w : World) (ty : TypeId) (base : Nat) (A : Option Addr) (n : Nat) (l : List Value) (hown : OwnF w base A n n l) (A2 : Option Addr) (c2 : Nat) (m : List Value) (k : Nat) (hk : m.length = k) (hr : Row w A2 m) (h1 : ∀ u ∈ m, u.oneCell' = true)
    (hn0 : 1 ≤ n) (hk0 : 1 ≤ k) (hlen : n + k ≤ 1000) (hbase : base ≤ w.heap.size) :
    ∃ A' c' w', (Builtin.append_ #[86, 86] ty #[.slice A n n, .slice A2 k c2]).run Try.prog w = .ok (.slice A' (n + k) c') w' ∧ OwnF w' base A' (n + k) c' (l ++ m) ∧ Below w.heap.size w w' := by
  obtain ⟨i0, hi0, hz0, hz1, hz2⟩ := info_parts info_fn
  have hll : l.length = n := by have := hown.1; omega
  obtain ⟨A', c', w', hrun, h2, h3, h4⟩ := run_append_row (P := Try.prog) w base 86 ty 84 i0 .nilFunc 1 8 Try.underlying86 hi0 hz0 hz1 hz2 rfl (by omega) _ n l hown A2 k c2 m (by omega) hr h1 (by unfold maxLen; omega) (by omega) hbase
  refine ⟨A', c', w', hrun, h2, ?_⟩
  rcases hown.2 with ⟨hv, _⟩ | ⟨g, cap, cur, hv, hgb, hg, hnc, _⟩
  · injection hv with _ hv _; omega
  · injection hv with e1 _ e2
    subst e1
    have hnews : ∃ a, A2 = some a := by
      rcases hr with h | ⟨b, o, h, _⟩
      · rw [h] at hk; simp at hk; omega
      · exact ⟨_, h⟩
    obtain ⟨ad, rfl⟩ := hnews
    have hcells : ∀ j u, m[j]? = some u → w.cell? (ad.add j) = some u := by
      intro j u hu
      rcases hr with h | ⟨b, o, h, hc⟩
      · subst h; simp at hu
      · injection h with h
        subst h
        rw [Addr.add_lit]
        exact hc j u hu
    have hg2 := run_append_grow (P := Try.prog) w 86 ty 84 i0 .nilFunc Try.underlying86 hi0 hz0 ⟨g, 0, none⟩ n n l (by rw [hz1]; omega) (fun j u hu => World.ownsRow.cells hown rfl j u hu) ad k c2 m (by rw [hz1]; omega) hcells (by omega) (by omega) (growslice_fits (by omega) (by rw [hz2]; omega))
    rw [hrun] at hg2
    injection hg2 with _ hw
    subst hw
    exact (Below.refl w.heap.size w).trans ⟨rfl, rfl, rfl, by simp, fun i hi => heap_alloc_old w.drew _ hi⟩
theorem wpl_appF1 (w : World) {ops : Array Oper} {rest : List Oper} {o : Oper} {a : Act} {Q : Exit → Act → World → Prop} (hgd : Region.wanted o (yielded ops a.tmps) = true) (s x : Operand)
    (ho : o.op = .call { callee := .builtin .append, args := #[s, x], argTypes := #[86, 86] })
    (base : Nat) (A : Option Addr) (l : List Value) (n : Nat) (hs : a.eval s = .slice A n n) (hown : OwnF w base A n n l)
    (A2 : Option Addr) (c2 : Nat) (m : List Value) (k : Nat) (hx : a.eval x = .slice A2 k c2) (hk : m.length = k) (hr : Row w A2 m) (h1 : ∀ u ∈ m, u.oneCell' = true)
    (hn0 : 1 ≤ n) (hk0 : 1 ≤ k) (hlen : n + k ≤ 1000) (hbase : base ≤ w.heap.size)
    (h : ∀ A' c' w', OwnF w' base A' (n + k) c' (l ++ m) → Below w.heap.size w w' →
      wpList Try.prog ops Q rest (a.put o.dst (.slice A' (n + k) c')) w') : wpList Try.prog ops Q (o :: rest) a w :=
  wpList_step fun _ hK => by
    rw [if_pos hgd]
    obtain ⟨A', c', w', hrun, h2, h3⟩ := run_appF_full w o.type base A n l hown A2 c2 m k hk hr h1 hn0 hk0 hlen hbase
    unfold Oper.wp execOp
    simp only [ho, resolve, invoke, builtin, Sem.run_bind, Sem.run_pure, Result.andThen_ok, List.map_toArray, List.map_cons, List.map_nil, hs, hx, hrun]
    exact hK _ _ (h A' c' w' h2 h3)
theorem step_appF1 (w : World) {ops : Array Oper} {o : Oper} {a : Act} {K : Act → World → Prop} {Q : Exit → Act → World → Prop} {E : Prop} (hgd : o.guard = none) (s x : Operand)
    (ho : o.op = .call { callee := .builtin .append, args := #[s, x], argTypes := #[86, 86] })
    (base : Nat) (A : Option Addr) (l : List Value) (n : Nat) (hs : a.eval s = .slice A n n) (hown : OwnF w base A n n l)
    (A2 : Option Addr) (c2 : Nat) (m : List Value) (k : Nat) (hx : a.eval x = .slice A2 k c2) (hk : m.length = k) (hr : Row w A2 m) (h1 : ∀ u ∈ m, u.oneCell' = true)
    (hn0 : 1 ≤ n) (hk0 : 1 ≤ k) (hlen : n + k ≤ 1000) (hbase : base ≤ w.heap.size)
    (h : ∀ A' c' w', OwnF w' base A' (n + k) c' (l ++ m) → Below w.heap.size w w' → K (a.put o.dst (.slice A' (n + k) c')) w') :
    if Region.wanted o (yielded ops a.tmps) = true then Oper.wp Try.prog o a w K Q else E := by
  have hw : Region.wanted o (yielded ops a.tmps) = true := by simp [Region.wanted, hgd]
  rw [if_pos hw]
  obtain ⟨A', c', w', hrun, h2, h3⟩ := run_appF_full w o.type base A n l hown A2 c2 m k hk hr h1 hn0 hk0 hlen hbase
  unfold Oper.wp execOp
  simp only [ho, resolve, invoke, builtin, Sem.run_bind, Sem.run_pure, Result.andThen_ok, List.map_toArray, List.map_cons, List.map_nil, hs, hx, hrun]
  exact h A' c' w' h2 h3
/-! ### Makers of writers in an open order -/
def setF (F : Nat → Value) (i : Nat) (v : Value) : Nat → Value := fun j => if j = i then v else F j
theorem setF_eq (F : Nat → Value) (i : Nat) (v : Value) : setF F i v i = v := if_pos rfl
theorem setF_ne (F : Nat → Value) {i j : Nat} (v : Value) (h : j ≠ i) : setF F i v j = F j := if_neg h
/-- The last operations: the literal of the makers' writers, the append, the slot that takes it. -/
structure Ends where
  ib : Nat
  sb : Nat
  ia : Nat
  sa : Nat
  i4 : Nat
  s4 : Nat
  n0 : Nat
def wrows (pu : List (Nat × Nat × Value)) (ms : List (Nat × Nat × List UInt8)) (E : Ends) (F : Nat → Value) (bA : Nat) (rA : Option Addr) (rc : Nat) : List (Nat × Nat × Value) :=
  pu ++ ((E.ib, E.sb, .slice (some ⟨bA, 0, none⟩) ms.length ms.length) :: (E.ia, E.sa, .slice rA (E.n0 + ms.length) rc) :: (E.i4, E.s4, .slice rA (E.n0 + ms.length) rc) :: ms.map fun m => (m.1, m.2.1, F m.1))
structure WI (a0 : Act) (ds : List Nat) (pu : List (Nat × Nat × Value)) (ms : List (Nat × Nat × List UInt8)) (E : Ends) (base be : Nat) (V : World) (A0 : Option Addr) (c0 : Nat) (l0 : List Value) (F : Nat → Value) (bA : Nat) (rA : Option Addr) (rc : Nat) (L : Nat → Bool) (a : Act) (w : World) : Prop where
  pif : PIF a0 ds (wrows pu ms E F bA rA rc) L a
  bel : Below base V w
  hb : base ≤ V.heap.size
  ok : ∀ m ∈ ms, L m.1 = true → WrOk w (F m.1) m.2.2
  own : L E.ia = false → OwnF w be A0 E.n0 c0 l0
  bld : L E.ib = true → Row w (some ⟨bA, 0, none⟩) (ms.map fun m => F m.1)
  app : L E.ia = true → Row w rA (l0 ++ ms.map fun m => F m.1)
  dbm : L E.ib = true → ∀ m ∈ ms, L m.1 = true
  dab : L E.ia = true → L E.ib = true ∧ L 0 = true
  d4a : L E.i4 = true → L E.ia = true
  st : L E.i4 = false → a.tmps.getD E.s4 undef = a0.tmps.getD E.s4 undef
section
variable {a0 : Act} {ds : List Nat} {pu : List (Nat × Nat × Value)} {ms : List (Nat × Nat × List UInt8)} {E : Ends} {base be : Nat} {V : World} {A0 : Option Addr} {c0 : Nat} {l0 : List Value} {F : Nat → Value} {bA : Nat} {rA : Option Addr} {rc : Nat} {L : Nat → Bool} {a : Act} {w w' : World}
theorem WI.start (hb : base ≤ V.heap.size) (hB : Below base V w) (hO : OwnF w be A0 E.n0 c0 l0) : WI a0 ds pu ms E base be V A0 c0 l0 F bA rA rc (fun _ => false) a0 w :=
  ⟨PIF.start _ _ _, hB, hb, nofun, fun _ => hO, nofun, nofun, nofun, nofun, nofun, fun _ => rfl⟩
theorem WI.size (h : WI a0 ds pu ms E base be V A0 c0 l0 F bA rA rc L a w) : base ≤ w.heap.size := Nat.le_trans h.hb h.bel.size
theorem updT {L : Nat → Bool} {i j : Nat} (h : upd L i j = true) (hne : j ≠ i) : L j = true := by rwa [upd_ne L hne] at h
theorem updK {L : Nat → Bool} {i j : Nat} (h : L j = true) : upd L i j = true := by
  by_cases e : j = i
  · rw [e, upd_eq]
  · rwa [upd_ne L e]
/-- An operation whose value is known ahead. -/
theorem WI.pure (h : WI a0 ds pu ms E base be V A0 c0 l0 F bA rA rc L a w) (i s : Nat) (v : Value) (h1 : ∀ q ∈ wrows pu ms E F bA rA rc, q.1 = i → q.2.1 = s ∧ q.2.2 = v) (h2 : ∀ q ∈ wrows pu ms E F bA rA rc, q.2.1 = s → q.1 = i)
    (h3 : ∀ m ∈ ms, m.1 ≠ i) (h4 : i ≠ E.ib ∧ i ≠ E.ia ∧ i ≠ E.i4 ∧ s ≠ E.s4) (hd : ds.contains s = true) (hlt : s < a0.tmps.size) : WI a0 ds pu ms E base be V A0 c0 l0 F bA rA rc (upd L i) (a.put (some s) v) w := by
  obtain ⟨g1, g2, g3, g4⟩ := h4
  refine ⟨h.pif.put i s v h1 h2 hd hlt, h.bel, h.hb, fun m hm hL => h.ok m hm (updT hL (h3 m hm)), fun q => h.own (by rwa [upd_ne L (Ne.symm g2)] at q), fun q => h.bld (updT q (Ne.symm g1)), fun q => h.app (updT q (Ne.symm g2)), fun q m hm => updK (h.dbm (updT q (Ne.symm g1)) m hm),
    fun q => ⟨updK (h.dab (updT q (Ne.symm g2))).1, updK (h.dab (updT q (Ne.symm g2))).2⟩, fun q => updK (h.d4a (updT q (Ne.symm g3))), fun q => ?_⟩
  rw [act_ne a v g4]
  exact h.st (by rwa [upd_ne L (Ne.symm g3)] at q)
/-- A maker. -/
theorem WI.call (h : WI a0 ds pu ms E base be V A0 c0 l0 F bA rA rc L a w) (m : Nat × Nat × List UInt8) (hm : m ∈ ms) (hi : L m.1 = false) (v : Value) (hok : WrOk w' v m.2.2) (hw : Below w.heap.size w w')
    (h0 : ∀ q ∈ pu, q.1 ≠ m.1) (hu : ∀ p ∈ ms, p.1 = m.1 → p = m)
    (h1 : ∀ q ∈ wrows pu ms E (setF F m.1 v) bA rA rc, q.1 = m.1 → q.2.1 = m.2.1 ∧ q.2.2 = v) (h2 : ∀ q ∈ wrows pu ms E (setF F m.1 v) bA rA rc, q.2.1 = m.2.1 → q.1 = m.1)
    (h4 : m.1 ≠ E.ib ∧ m.1 ≠ E.ia ∧ m.1 ≠ E.i4 ∧ m.2.1 ≠ E.s4) (hd : ds.contains m.2.1 = true) (hlt : m.2.1 < a0.tmps.size) : WI a0 ds pu ms E base be V A0 c0 l0 (setF F m.1 v) bA rA rc (upd L m.1) (a.put (some m.2.1) v) w' := by
  obtain ⟨g1, g2, g3, g4⟩ := h4
  have hnb : L E.ib = false := by
    cases e : L E.ib with
    | false => rfl
    | true => rw [h.dbm e m hm] at hi; cases hi
  have hna : L E.ia = false := by
    cases e : L E.ia with
    | false => rfl
    | true => rw [(h.dab e).1] at hnb; cases hnb
  have hn4 : L E.i4 = false := by
    cases e : L E.i4 with
    | false => rfl
    | true => rw [h.d4a e] at hna; cases hna
  have hp : PIF a0 ds (wrows pu ms E (setF F m.1 v) bA rA rc) L a := PIF.swap h.pif (by
    intro q hq hL
    have hne : q.1 ≠ m.1 := fun e => by rw [e, hi] at hL; cases hL
    unfold wrows at hq ⊢
    simp only [List.mem_append, List.mem_cons, List.mem_map] at hq ⊢
    rcases hq with hq | hq | hq | hq | ⟨p, hp, rfl⟩
    · exact .inl hq
    · exact .inr (.inl hq)
    · exact .inr (.inr (.inl hq))
    · exact .inr (.inr (.inr (.inl hq)))
    · refine .inr (.inr (.inr (.inr ⟨p, hp, ?_⟩)))
      rw [setF_ne F v hne])
  refine ⟨hp.put m.1 m.2.1 v h1 h2 hd hlt, h.bel.trans (hw.mono h.size), h.hb, fun p hp hL => ?_, fun q => (h.own hna).below hw, fun q => ?_, fun q => ?_, fun q => ?_, fun q => ?_, fun q => ?_, fun q => ?_⟩
  · by_cases e : p.1 = m.1
    · rw [hu p hp e, setF_eq]; exact hok
    · rw [setF_ne F v e]; exact (h.ok p hp (updT hL e)).below hw
  · rw [upd_ne L (Ne.symm g1), hnb] at q; cases q
  · rw [upd_ne L (Ne.symm g2), hna] at q; cases q
  · rw [upd_ne L (Ne.symm g1), hnb] at q; cases q
  · rw [upd_ne L (Ne.symm g2), hna] at q; cases q
  · rw [upd_ne L (Ne.symm g3), hn4] at q; cases q
  · rw [act_ne a v g4]; exact h.st hn4
theorem wrows_ne {pu : List (Nat × Nat × Value)} {ms : List (Nat × Nat × List UInt8)} {E : Ends} {F : Nat → Value} {bA bA' : Nat} {rA rA' : Option Addr} {rc rc' : Nat} {L : Nat → Bool}
    (hb : bA' = bA ∨ L E.ib = false) (ha : (rA' = rA ∧ rc' = rc) ∨ (L E.ia = false ∧ L E.i4 = false)) : ∀ q ∈ wrows pu ms E F bA' rA' rc', L q.1 = true → q ∈ wrows pu ms E F bA rA rc := by
  intro q hq hL
  unfold wrows at hq ⊢
  simp only [List.mem_append, List.mem_cons, List.mem_map] at hq ⊢
  rcases hq with hq | rfl | rfl | rfl | hq
  · exact .inl hq
  · rcases hb with rfl | hb
    · exact .inr (.inl rfl)
    · rw [hb] at hL; cases hL
  · rcases ha with ⟨rfl, rfl⟩ | ha
    · exact .inr (.inr (.inl rfl))
    · rw [ha.1] at hL; cases hL
  · rcases ha with ⟨rfl, rfl⟩ | ha
    · exact .inr (.inr (.inr (.inl rfl)))
    · rw [ha.2] at hL; cases hL
  · exact .inr (.inr (.inr (.inr hq)))
/-- The literal of the makers' writers. -/
theorem WI.build (h : WI a0 ds pu ms E base be V A0 c0 l0 F bA rA rc L a w) (hi : L E.ib = false) (hall : ∀ m ∈ ms, L m.1 = true) (cs : Array Value) (hcs : cs.toList = ms.map fun m => F m.1)
    (h1 : ∀ q ∈ wrows pu ms E F w.heap.size rA rc, q.1 = E.ib → q.2.1 = E.sb ∧ q.2.2 = .slice (some ⟨w.heap.size, 0, none⟩) ms.length ms.length) (h2 : ∀ q ∈ wrows pu ms E F w.heap.size rA rc, q.2.1 = E.sb → q.1 = E.ib)
    (h4 : E.ib ≠ E.ia ∧ E.ib ≠ E.i4 ∧ E.sb ≠ E.s4) (hm : ∀ m ∈ ms, m.1 ≠ E.ib) (hd : ds.contains E.sb = true) (hlt : E.sb < a0.tmps.size) :
    WI a0 ds pu ms E base be V A0 c0 l0 F w.heap.size rA rc (upd L E.ib) (a.put (some E.sb) (.slice (some ⟨w.heap.size, 0, none⟩) ms.length ms.length)) (w.alloc (.cells cs 84)) := by
  obtain ⟨g2, g3, g4⟩ := h4
  have hw : Below w.heap.size w (w.alloc (.cells cs 84)) := (Below.refl _ _).alloc (Nat.le_refl _) _
  have hna : L E.ia = false := by
    cases e : L E.ia with
    | false => rfl
    | true => rw [(h.dab e).1] at hi; cases hi
  have hn4 : L E.i4 = false := by
    cases e : L E.i4 with
    | false => rfl
    | true => rw [h.d4a e] at hna; cases hna
  have hp : PIF a0 ds (wrows pu ms E F w.heap.size rA rc) L a := PIF.swap h.pif (wrows_ne (.inr hi) (.inl ⟨rfl, rfl⟩))
  refine ⟨hp.put E.ib E.sb _ h1 h2 hd hlt, h.bel.trans (hw.mono h.size), h.hb, fun p hp hL => (h.ok p hp (updT hL (hm p hp))).below hw, fun q => (h.own hna).below hw, fun q => row_fn w _ cs hcs, fun q => ?_, fun q m hm' => updK (hall m hm'), fun q => ?_, fun q => ?_, fun q => ?_⟩
  · rw [upd_ne L (Ne.symm g2), hna] at q; cases q
  · rw [upd_ne L (Ne.symm g2), hna] at q; cases q
  · rw [upd_ne L (Ne.symm g3), hn4] at q; cases q
  · rw [act_ne a _ g4]; exact h.st hn4
/-- The append. -/
theorem WI.appd (h : WI a0 ds pu ms E base be V A0 c0 l0 F bA rA rc L a w) (hi : L E.ia = false) (hib : L E.ib = true) (h00 : L 0 = true) (A' : Option Addr) (c' : Nat) (hO : OwnF w' be A' (E.n0 + ms.length) c' (l0 ++ ms.map fun m => F m.1)) (hg : Below w.heap.size w w')
    (h1 : ∀ q ∈ wrows pu ms E F bA A' c', q.1 = E.ia → q.2.1 = E.sa ∧ q.2.2 = .slice A' (E.n0 + ms.length) c') (h2 : ∀ q ∈ wrows pu ms E F bA A' c', q.2.1 = E.sa → q.1 = E.ia)
    (h4 : E.ib ≠ E.ia ∧ E.ia ≠ E.i4 ∧ E.sa ≠ E.s4) (hm : ∀ m ∈ ms, m.1 ≠ E.ia) (hd : ds.contains E.sa = true) (hlt : E.sa < a0.tmps.size) :
    WI a0 ds pu ms E base be V A0 c0 l0 F bA A' c' (upd L E.ia) (a.put (some E.sa) (.slice A' (E.n0 + ms.length) c')) w' := by
  obtain ⟨g2, g3, g4⟩ := h4
  have hn4 : L E.i4 = false := by
    cases e : L E.i4 with
    | false => rfl
    | true => rw [h.d4a e] at hi; cases hi
  have hp : PIF a0 ds (wrows pu ms E F bA A' c') L a := PIF.swap h.pif (wrows_ne (.inl rfl) (.inr ⟨hi, hn4⟩))
  refine ⟨hp.put E.ia E.sa _ h1 h2 hd hlt, h.bel.trans (hg.mono h.size), h.hb, fun p hp hL => (h.ok p hp (updT hL (hm p hp))).below hg, fun q => ?_, fun q => (h.bld hib).below hg, fun q => hO.row, fun q m hm' => updK (h.dbm hib m hm'), fun q => ⟨updK hib, updK h00⟩, fun q => ?_, fun q => ?_⟩
  · rw [upd_eq] at q; cases q
  · rw [upd_ne L (Ne.symm g3), hn4] at q; cases q
  · rw [act_ne a _ g4]; exact h.st hn4
/-- The slot takes it. -/
theorem WI.fin (h : WI a0 ds pu ms E base be V A0 c0 l0 F bA rA rc L a w) (hia : L E.ia = true)
    (h1 : ∀ q ∈ wrows pu ms E F bA rA rc, q.1 = E.i4 → q.2.1 = E.s4 ∧ q.2.2 = .slice rA (E.n0 + ms.length) rc) (h2 : ∀ q ∈ wrows pu ms E F bA rA rc, q.2.1 = E.s4 → q.1 = E.i4)
    (h4 : E.ib ≠ E.i4 ∧ E.ia ≠ E.i4) (hm : ∀ m ∈ ms, m.1 ≠ E.i4) (hd : ds.contains E.s4 = true) (hlt : E.s4 < a0.tmps.size) :
    WI a0 ds pu ms E base be V A0 c0 l0 F bA rA rc (upd L E.i4) (a.put (some E.s4) (.slice rA (E.n0 + ms.length) rc)) w := by
  obtain ⟨g1, g2⟩ := h4
  refine ⟨h.pif.put E.i4 E.s4 _ h1 h2 hd hlt, h.bel, h.hb, fun p hp hL => h.ok p hp (updT hL (hm p hp)), fun q => ?_, fun q => h.bld (h.dab hia).1, fun q => h.app hia, fun q m hm' => updK (h.dbm (h.dab hia).1 m hm'), fun q => ⟨updK (h.dab hia).1, updK (h.dab hia).2⟩, fun q => updK hia, fun q => ?_⟩
  · rw [upd_ne L g2, hia] at q; cases q
  · rw [upd_eq] at q; cases q
end
end Go.Proofs.Ytaadfalklddhcaa
