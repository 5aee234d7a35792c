/-
  A record in the making while the document's reader is read: what lies in memory.
  Conditions: none.
-/
import Derived.Test.YtpgmhjjdnanlgaaLogR2
import Derived.Test.YtpgmhjjdnanlgaaRow
namespace Go.Proofs.Ytpgmhjjdnanlgaa
open Go.RowKit Go.Sort Go.Lib
set_option linter.unusedVariables false
set_option linter.unusedSimpArgs false
/-- A record in block gx that is being read from the document's reader gr; gz: the result's block. -/
structure DSt (B0 base : Nat) (w0 : World) (gr gx gz : Nat) (r : CodeM.Rd) (s : Lrec) (y : Lsl) (wc : World) : Prop where
  rd : RdIn base 78 wc gr r
  x : Blk wc gx 31 #[.int .i64 s.kind, .int .u64 (s.lsn : Int), .int .u32 (s.epoch : Int), .int .u64 (s.txn : Int), .int .u32 (s.page : Int), .int .u16 (s.off : Int), .slice y.oA y.on y.oc, .slice y.nA y.nn y.nc, .slice y.uA y.un y.uc, .int .u64 (s.prev : Int), .int .u64 (s.next : Int), .bool s.clr, .int .u64 (s.stamp : Int), .slice y.pA y.pn y.pc, .slice y.dA y.dn y.dc]
  z : Blk wc gz 31 #[.int .i64 0, .int .u64 0, .int .u32 0, .int .u64 0, .int .u32 0, .int .u16 0, .slice none 0 0, .slice none 0 0, .slice none 0 0, .int .u64 0, .int .u64 0, .bool false, .int .u64 0, .slice none 0 0, .slice none 0 0]
  ow : Lown wc base y s
  bel : Below B0 w0 wc
  sz : base ≤ wc.heap.size
  ord : B0 ≤ gr ∧ gr < base ∧ B0 ≤ gx ∧ gx < base ∧ B0 ≤ gz ∧ gz < base ∧ gr ≠ gx ∧ gr ≠ gz ∧ gx ≠ gz ∧ B0 ≤ base
section
variable {B0 base : Nat} {w0 : World} {gr gx gz : Nat} {r r' : CodeM.Rd} {s s' : Lrec} {y y' : Lsl} {w w' : World}
/-- A step of the reader. -/
theorem DSt.step (h : DSt B0 base w0 gr gx gz r s y w) (h1 : RdIn base 78 w' gr r') (hg : w.grownBy w' (some gr)) : DSt B0 base w0 gr gx gz r' s y w' := by
  obtain ⟨o1, o2, o3, o4, o5, o6, o7, o8, o9, o0⟩ := h.ord
  exact ⟨h1, h.x.grown hg (fun q => o7 (by injection q with q; omega)), h.z.grown hg (fun q => o8 (by injection q with q; omega)), h.ow.kept hg o2, below_grown h.bel hg (Nat.le_trans o0 h.sz) o1, Nat.le_trans h.sz hg.size, h.ord⟩
/-- A field is written. -/
theorem DSt.fill (h : DSt B0 base w0 gr gx gz r s y w) (i : Nat) (v : Value) (hc : (#[.int .i64 s.kind, .int .u64 (s.lsn : Int), .int .u32 (s.epoch : Int), .int .u64 (s.txn : Int), .int .u32 (s.page : Int), .int .u16 (s.off : Int), .slice y.oA y.on y.oc, .slice y.nA y.nn y.nc, .slice y.uA y.un y.uc, .int .u64 (s.prev : Int), .int .u64 (s.next : Int), .bool s.clr, .int .u64 (s.stamp : Int), .slice y.pA y.pn y.pc, .slice y.dA y.dn y.dc] : Array Value).setIfInBounds i v = #[.int .i64 s'.kind, .int .u64 (s'.lsn : Int), .int .u32 (s'.epoch : Int), .int .u64 (s'.txn : Int), .int .u32 (s'.page : Int), .int .u16 (s'.off : Int), .slice y'.oA y'.on y'.oc, .slice y'.nA y'.nn y'.nc, .slice y'.uA y'.un y'.uc, .int .u64 (s'.prev : Int), .int .u64 (s'.next : Int), .bool s'.clr, .int .u64 (s'.stamp : Int), .slice y'.pA y'.pn y'.pc, .slice y'.dA y'.dn y'.dc]) (ho : Lown w base y' s') : DSt B0 base w0 gr gx gz r s' y' (w.setCell ⟨gx, i, none⟩ v) := by
  obtain ⟨o1, o2, o3, o4, o5, o6, o7, o8, o9, o0⟩ := h.ord
  have hg := grownBy_setCell w gx i v
  have hx := h.x.set_ i v
  rw [hc] at hx
  exact ⟨h.rd.grown hg (Ne.symm o7) (fun A l hr _ => row_other hr h.x (rec_apart s y) hg), hx, h.z.grown hg (fun q => o9 (by injection q with q; omega)), ho.kept hg o4, below_grown h.bel hg (Nat.le_trans o0 h.sz) o3, Nat.le_trans h.sz hg.size, h.ord⟩
/-- New memory is made beyond. -/
theorem DSt.far (h : DSt B0 base w0 gr gx gz r s y w) (hb : Below w.heap.size w w') : DSt B0 base w0 gr gx gz r s y w' := by
  obtain ⟨o1, o2, o3, o4, o5, o6, o7, o8, o9, o0⟩ := h.ord
  exact ⟨h.rd.below hb, h.x.below hb h.x.lt, h.z.below hb h.z.lt, h.ow.below hb, h.bel.trans (hb.mono (Nat.le_trans o0 h.sz)), Nat.le_trans h.sz hb.size, h.ord⟩
/-- A list of its own grows. -/
theorem DSt.app {row : Option Nat} (h : DSt B0 base w0 gr gx gz r s y w) (hg : w.grownBy w' row) (hk : ∀ k, row = some k → base ≤ k) (i : Nat) (v : Value) (hc : (#[.int .i64 s.kind, .int .u64 (s.lsn : Int), .int .u32 (s.epoch : Int), .int .u64 (s.txn : Int), .int .u32 (s.page : Int), .int .u16 (s.off : Int), .slice y.oA y.on y.oc, .slice y.nA y.nn y.nc, .slice y.uA y.un y.uc, .int .u64 (s.prev : Int), .int .u64 (s.next : Int), .bool s.clr, .int .u64 (s.stamp : Int), .slice y.pA y.pn y.pc, .slice y.dA y.dn y.dc] : Array Value).setIfInBounds i v = #[.int .i64 s'.kind, .int .u64 (s'.lsn : Int), .int .u32 (s'.epoch : Int), .int .u64 (s'.txn : Int), .int .u32 (s'.page : Int), .int .u16 (s'.off : Int), .slice y'.oA y'.on y'.oc, .slice y'.nA y'.nn y'.nc, .slice y'.uA y'.un y'.uc, .int .u64 (s'.prev : Int), .int .u64 (s'.next : Int), .bool s'.clr, .int .u64 (s'.stamp : Int), .slice y'.pA y'.pn y'.pc, .slice y'.dA y'.dn y'.dc]) (ho : Lown w' base y' s') : Blk w' gx 31 #[.int .i64 s.kind, .int .u64 (s.lsn : Int), .int .u32 (s.epoch : Int), .int .u64 (s.txn : Int), .int .u32 (s.page : Int), .int .u16 (s.off : Int), .slice y.oA y.on y.oc, .slice y.nA y.nn y.nc, .slice y.uA y.un y.uc, .int .u64 (s.prev : Int), .int .u64 (s.next : Int), .bool s.clr, .int .u64 (s.stamp : Int), .slice y.pA y.pn y.pc, .slice y.dA y.dn y.dc] ∧ DSt B0 base w0 gr gx gz r s' y' (w'.setCell ⟨gx, i, none⟩ v) := by
  obtain ⟨o1, o2, o3, o4, o5, o6, o7, o8, o9, o0⟩ := h.ord
  have hne : ∀ g, g < base → some g ≠ row := fun g hg q => by have := hk g q.symm; omega
  have hrow : ∀ (A : Option Addr) (l : List UInt8), Row w A (bs l) → (l = [] ∨ ∀ a : Addr, A = some a → a.block < base) → Row w' A (bs l) := by
    intro A l hr ha
    rcases ha with ha | ha
    · rw [ha]; exact Row.nil _ _
    · rcases hr with e1 | ⟨b, o, e1, hc⟩
      · exact .inl e1
      · exact .inr ⟨b, o, e1, fun j u hu => hg.cell (hc j u hu) (hne b (ha _ e1))⟩
  have hrd : RdIn base 78 w' gr r := by
    obtain ⟨A, n, c, hB, e1, e2, e3, e4, e5⟩ := h.rd
    exact ⟨A, n, c, hB.grown hg (hne gr o2), e1, e2, e3, hrow _ _ e4 e5, e5⟩
  have hx := h.x.grown hg (hne gx o4)
  have hgs := grownBy_setCell w' gx i v
  have hX := hx.set_ i v
  rw [hc] at hX
  have hb := h.bel.grown hg (Nat.le_trans o0 h.sz) (fun k hkk => Nat.le_trans o0 (hk k hkk))
  exact ⟨hx, hrd.grown hgs (Ne.symm o7) (fun A l hr _ => row_other hr hx (rec_apart s y) hgs), hX, (h.z.grown hg (hne gz o6)).grown hgs (fun q => o9 (by injection q with q; omega)), ho.kept hgs o4, below_grown hb hgs (Nat.le_trans o0 (Nat.le_trans h.sz hg.size)) o3, Nat.le_trans h.sz (Nat.le_trans hg.size hgs.size), h.ord⟩
end
/-- An element in the making, in a block of its own. -/
structure ESt (base gr gc : Nat) (W0 : World) (t : TypeId) (r : CodeM.Rd) (cs : Array Value) (wc : World) : Prop where
  rd : RdIn base 78 wc gr r
  c : Blk wc gc t cs
  gr_ : W0.grownBy wc (some gr)
  ap : ∀ v ∈ cs.toList, ∀ u : UInt8, v ≠ B u
  ord : gr < base ∧ base ≤ W0.heap.size ∧ W0.heap.size ≤ gc
section
variable {base gr gc : Nat} {W0 : World} {t : TypeId} {r r' : CodeM.Rd} {cs : Array Value} {w w' : World}
theorem ESt.start (hr : RdIn base 78 W0 gr r) (h1 : gr < base) (h2 : base ≤ W0.heap.size) (hap : ∀ v ∈ cs.toList, ∀ u : UInt8, v ≠ B u) : ESt base gr W0.heap.size W0 t r cs (W0.alloc (.cells cs t)) :=
  ⟨hr.below ((Below.refl _ _).alloc (Nat.le_refl _) _), Blk.new W0 t cs, World.grownBy_alloc _ _ _, hap, h1, h2, Nat.le_refl _⟩
theorem ESt.step (h : ESt base gr gc W0 t r cs w) (h1 : RdIn base 78 w' gr r') (hg : w.grownBy w' (some gr)) : ESt base gr gc W0 t r' cs w' := by
  obtain ⟨o1, o2, o3⟩ := h.ord
  exact ⟨h1, h.c.grown hg (fun q => by injection q with q; omega), h.gr_.trans hg, h.ap, h.ord⟩
theorem ESt.put (h : ESt base gr gc W0 t r cs w) (i : Nat) (v : Value) (hv : ∀ u : UInt8, v ≠ B u) {cs' : Array Value} (hc : cs.setIfInBounds i v = cs') : ESt base gr gc W0 t r cs' (w.setCell ⟨gc, i, none⟩ v) := by
  obtain ⟨o1, o2, o3⟩ := h.ord
  have hg := grownBy_setCell w gc i v
  have hC := h.c.set_ i v
  rw [hc] at hC
  refine ⟨h.rd.grown hg (by omega) (fun A l hr _ => row_other hr h.c h.ap hg), hC, h.gr_.andThen hg (fun j hj => .inl (by injection hj with hj; omega)), ?_, h.ord⟩
  intro v' hv' u
  rw [← hc, Array.toList_setIfInBounds] at hv'
  rcases List.mem_or_eq_of_mem_set hv' with hv' | rfl
  · exact h.ap v' hv' u
  · exact hv u
end
theorem row_newC (w : World) (t : TypeId) (l : List Value) (cs : Array Value) (h : cs = l.toArray) : Row (w.alloc (.cells cs t)) (some ⟨w.heap.size, 0, none⟩) l := by
  subst h
  refine .inr ⟨_, 0, rfl, fun j u hu => ?_⟩
  have hB := (Blk.new w t l.toArray).cell (0 + j)
  rw [hB, Nat.zero_add, List.getElem?_toArray]
  exact hu
/-- A return whose first result lies in a block. -/
theorem ret_cellD {P : Program} {fn : Func} {R : Ending → World → Prop} {a : Act} {w : World} {p u : Tmp} {ty : TypeId} (h : fn.results = #[.cell p ty, .tmp u]) (g : Nat) (cs : Array Value) (d : TypeDesc)
    (hp : a.tmps.getD p undef = .pointer (some ⟨g, 0, none⟩)) (hB : Blk w g ty cs) (hu : P.underlying ty = some d) (hd : (match d with | .struct _ | .array _ _ => true | _ => false) = true) (hi : (P.info? ty).map (·.size) = some cs.size)
    (hdf : a.defers = []) (hR : R (.returned (.tuple #[.agg cs, a.tmps.getD u undef])) w) : bodyPost P fn R .ret a w := by
  refine bodyPost_ret ?_ hdf hR
  rw [results_cell_tmp h, hp]
  simp [asAddr, run_loadVar_row w g ty ty cs (0, 0) d hB hu hd hi, Result.andThen]
theorem info_chD : (Try.prog.info? 54).map (fun i => (i.zero, i.size, i.bytes)) = some (some (.agg #[.int .u64 0, .int .u64 0, .int .u64 0]), 3, 24) := by kernel_rfl
theorem info_dtD : (Try.prog.info? 56).map (fun i => (i.zero, i.size, i.bytes)) = some (some (.agg #[.int .u32 0, .int .u64 0]), 2, 16) := by kernel_rfl
theorem one_chD (c : Nat × Nat × Nat) : ∀ u ∈ chC c, u.oneCell' = true := by intro u hu; simp only [chC, List.mem_cons, List.not_mem_nil, or_false] at hu; rcases hu with rfl | rfl | rfl <;> rfl
theorem one_dtD (c : Nat × Nat) : ∀ u ∈ dtC c, u.oneCell' = true := by intro u hu; simp only [dtC, List.mem_cons, List.not_mem_nil, or_false] at hu; rcases hu with rfl | rfl <;> rfl
theorem Blk.c3D {w : World} {g : Nat} {t : TypeId} {v0 v1 v2 : Value} (h : Blk w g t #[v0, v1, v2]) : w.cell? ⟨g, 0, none⟩ = some v0 ∧ w.cell? ⟨g, 1, none⟩ = some v1 ∧ w.cell? ⟨g, 2, none⟩ = some v2 := ⟨h.cell 0, h.cell 1, h.cell 2⟩
theorem Blk.c2D {w : World} {g : Nat} {t : TypeId} {v0 v1 : Value} (h : Blk w g t #[v0, v1]) : w.cell? ⟨g, 0, none⟩ = some v0 ∧ w.cell? ⟨g, 1, none⟩ = some v1 := ⟨h.cell 0, h.cell 1⟩
end Go.Proofs.Ytpgmhjjdnanlgaa
