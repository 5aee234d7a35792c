/-
  Lists of records, and of hits, read from a reader (stmt.list, and ReadTell's closures).
  Conditions: the reader lies in memory; its bytes lie below a bound.
-/
import Derived.Test.YtaadfalklddhcaaZStmQ2
import Derived.Test.YtaadfalklddhcaaZStmN
import Derived.Test.YtaadfalklddhcaaZStmR2
namespace Go.Proofs.Ytaadfalklddhcaa
open Go.RowKit Go.Sort Go.Lib
set_option linter.unusedVariables false
set_option linter.unusedSimpArgs false
/-- A reader, the box that leads to it, and something that is written, while it is read. -/
structure RdT (t : TypeId) (B : Nat) (w0 : World) (gr gp gx : Nat) (r : CodeM.Rd) (cs : Array Value) (w : World) : Prop where
  rd : RdIn B 111 w gr r
  p : Blk w gp 55 #[.pointer (some ⟨gr, 0, none⟩)]
  x : Blk w gx t cs
  chg : Chg gr gx w0 w
section
variable {t : TypeId} {B gr gp gx : Nat} {w0 w w' : World} {r r' : CodeM.Rd} {cs : Array Value}
theorem RdT.call (h : RdT t B w0 gr gp gx r cs w) (n : Ne B gr gp gx) (hR : RdIn B 111 w' gr r') (hg : w.grownBy w' (some gr)) : RdT t B w0 gr gp gx r' cs w' :=
  ⟨hR, h.p.grown hg (by simpa using n.rp.symm), h.x.grown hg (by simpa using n.rx.symm), h.chg.trans (Chg.of1 hg)⟩
theorem RdT.set (h : RdT t B w0 gr gp gx r cs w) (n : Ne B gr gp gx) (i : Nat) (v : Value) : RdT t B w0 gr gp gx r (cs.setIfInBounds i v) (w.setCell ⟨gx, i, none⟩ v) :=
  ⟨h.rd.above (grownBy_setCell w gx i v) n.rx.symm n.bx, h.p.far (p := ⟨gx, i, none⟩) n.px v, h.x.set_ i v, h.chg.trans (Chg.of2 (grownBy_setCell w gx i v))⟩
theorem RdT.setRow (h : RdT t B w0 gr gp gx r cs w) (n : Ne B gr gp gx) (cs' : Array Value) : RdT t B w0 gr gp gx r cs' (w.setRow gx cs') :=
  ⟨h.rd.above (grownBy_setRow w gx cs') n.rx.symm n.bx, h.p.grown (grownBy_setRow w gx cs') (by intro q; injection q with q; exact n.px q), h.x.setRow_ cs', h.chg.trans (Chg.of2 (grownBy_setRow w gx cs'))⟩
theorem RdT.drew (h : RdT t B w0 gr gp gx r cs w) : RdT t B w0 gr gp gx r cs w.drew := ⟨h.rd, h.p, h.x, h.chg.trans ⟨rfl, rfl, rfl, Nat.le_refl _, fun _ _ _ _ => rfl⟩⟩
theorem RdT.below (h : RdT t B w0 gr gp gx r cs w) (hb : Below w.heap.size w w') : RdT t B w0 gr gp gx r cs w' :=
  ⟨h.rd.below hb, h.p.below hb h.p.lt, h.x.below hb h.x.lt, h.chg.trans (Chg.ofB hb)⟩
end
theorem Chg.grown {a b : Nat} {w w1 w' : World} (h : Chg a b w1 w') (hb : Below w.heap.size w w1) (hn : w.heap.size ≤ b) : w.grownBy w' (some a) :=
  ⟨h.os.trans hb.os, h.tape.trans hb.tape, h.output.trans hb.output, Nat.le_trans hb.size h.size, fun i hi hne => (h.block i (Nat.lt_of_lt_of_le hi hb.size) (fun e => hne (by rw [e])) (by omega)).trans (hb.block i hi)⟩
theorem text_len (r : CodeM.Rd) (k : Int) : ((r.text k).1.length : Int) ≤ max 0 k := by
  unfold CodeM.Rd.text
  split
  · simp only [List.length_nil]; omega
  · split
    · simp only [List.length_nil]; omega
    · split
      · simp only [List.length_nil]; omega
      · split
        · simp only [List.length_nil]; omega
        · simp only [List.length_take]; omega
/-! ### A record in memory of its own -/
structure ItO (w : World) (base : Nat) (s : Itv) : Prop where
  o1 : Own32 w base s.A s.x.vec.length s.c s.x.vec
  o2 : Own w base s.A2 s.c2 s.x.note
  ok : s.x.Ok
section
variable {w w' : World} {base b : Nat} {s : Itv}
theorem ItO.at_ (h : ItO w base s) : s.At w := by
  have hle : s.x.vec.length ≤ s.c ∧ s.c ≤ maxLen := by
    rcases own_cap h.o1 with q | ⟨_, h2, h3⟩
    · exact q
    · rw [h2, h3]; exact ⟨Nat.le_refl _, Nat.zero_le _⟩
  exact ⟨h.o1.row, h.o2.row, h.ok, hle.1, h.o2.le.1, hle.2, h.o2.le.2⟩
theorem ItO.fr (h : ItO w base s) : Fresh base s.A ∧ Fresh base s.A2 := ⟨fresh_own h.o1, fresh_own h.o2⟩
theorem ItO.kept (h : ItO w base s) {g : Nat} (hg : w.grownBy w' (some g)) (hlt : g < base) : ItO w' base s := ⟨Own32.keptA h.o1 hg hlt, Own.kept h.o2 hg hlt, h.ok⟩
theorem ItO.below (h : ItO w base s) (hb : Below w.heap.size w w') : ItO w' base s := ⟨h.o1.below hb, h.o2.below hb, h.ok⟩
theorem ItO.base_ (h : ItO w base s) (hb : b ≤ base) : ItO w b s := by
  refine ⟨?_, h.o2.base_ hb, h.ok⟩
  have h1 := h.o1
  refine ⟨h1.1, ?_⟩
  rcases h1.2 with hn | ⟨g, cap, cur, e, hb', rest⟩
  · exact .inl hn
  · exact .inr ⟨g, cap, cur, e, Nat.le_trans hb hb', rest⟩
theorem rows_apart {e t : TypeId} {size m j : Nat} {v : Value} {xs : List Value} {cur : Array Value} (h : w.ownsRow base e size v m xs) (hj : w.heap[j]? = some (.cells cur t (0, 0))) (hne : e ≠ t) : v.ownBlock ≠ some j := by
  rcases h.2 with ⟨hv, _⟩ | ⟨g, cap, cur', hv, _, hg, _⟩
  · rw [hv]; simp [Value.ownBlock]
  · rw [hv]
    intro q
    have q2 : g = j := by simpa [Value.ownBlock] using q
    subst q2
    rw [hg] at hj
    injection hj with hj
    injection hj with _ h2
    exact hne h2
/-- A row of records changes: the records' own lists do not. -/
theorem ItO.row (h : ItO w base s) {t : TypeId} {sz m b2 : Nat} {v : Value} {xs : List Value} (hO : w.ownsRow b2 t sz v m xs) (h8 : 5 ≠ t) (h32 : 21 ≠ t) (hg : w.grownBy w' v.ownBlock) : ItO w' base s := by
  rcases hO.2 with ⟨hv, _⟩ | ⟨g, cap, cur, hv, _, hj, _⟩
  · rw [hv] at hg
    exact h.below ⟨hg.os, hg.tape, hg.output, hg.size, fun i hi => hg.block i hi (by simp [Value.ownBlock])⟩
  · have e : v.ownBlock = some g := by rw [hv]; simp [Value.ownBlock]
    rw [e] at hg
    have n1 := rows_apart h.o1 hj h32
    have n2 := rows_apart h.o2 hj h8
    exact ⟨World.ownsRow.kept h.o1 hg (by
        cases q : (Value.slice s.A s.x.vec.length s.c).ownBlock with
        | none => exact .inl rfl
        | some y => exact .inr (by rw [q] at n1; exact n1)), World.ownsRow.kept h.o2 hg (by
        cases q : (Value.slice s.A2 s.x.note.length s.c2).ownBlock with
        | none => exact .inl rfl
        | some y => exact .inr (by rw [q] at n2; exact n2)), h.ok⟩
end
theorem ret_cellT {P : Program} {fn : Func} {R : Ending → World → Prop} {a : Act} {w : World} {p : Tmp} {ty : TypeId} (h : fn.results = #[.cell p ty]) (g : Nat) (cs : Array Value) (d : TypeDesc)
    (hp : a.tmps.getD p undef = .pointer (some ⟨g, 0, none⟩)) (hB : Blk w g ty cs) (hu : P.underlying ty = some d) (hd : (match d with | .struct _ | .array _ _ => true | _ => false) = true) (hi : (P.info? ty).map (·.size) = some cs.size)
    (hdf : a.defers = []) (hR : R (.returned (.agg cs)) w) : bodyPost P fn R .ret a w :=
  bodyPost_ret (results_cell_row h a.tmps w g ty cs (0, 0) d hp hB hu hd hi) hdf hR
theorem itO_no (w : World) (base : Nat) : ItO w base ⟨StmM.no, none, 0, none, 0⟩ := ⟨Own32.nil_ _ _, Own.nil_ _ _, StmM.no_ok⟩
theorem info_hit : (Try.prog.info? 67).map (fun i => (i.zero, i.size, i.bytes)) = some (some (.agg #[.int .u64 0, .int .i64 0]), 2, 16) := by kernel_rfl
theorem info_item : (Try.prog.info? 30).map (fun i => (i.zero, i.size, i.bytes)) = some (some (.agg #[.int .u64 0, .slice none 0 0, .slice none 0 0]), 3, 56) := by kernel_rfl
theorem hits_len (l : List (Nat × Int)) : (l.flatMap hitC).length = l.length * 2 := by
  induction l with
  | nil => rfl
  | cons a l ih => rw [List.flatMap_cons, List.length_append, ih, List.length_cons]; show 2 + _ = _; omega
theorem itvs_len (l : List Itv) : (l.flatMap Itv.cells).length = l.length * 3 := by
  induction l with
  | nil => rfl
  | cons a l ih => rw [List.flatMap_cons, List.length_append, ih, List.length_cons]; show 3 + _ = _; omega
/-- The slice of hits, of records, is the call's own, and holds l. -/
def OwnH (w : World) (base : Nat) (A : Option Addr) (n c : Nat) (l : List (Nat × Int)) : Prop := w.ownsRow base 67 2 (.slice A n c) n (l.flatMap hitC)
def OwnV (w : World) (base : Nat) (A : Option Addr) (n c : Nat) (l : List Itv) : Prop := w.ownsRow base 30 3 (.slice A n c) n (l.flatMap Itv.cells)
theorem OwnH.nil_ (w : World) (base : Nat) : OwnH w base none 0 0 [] := World.ownsRow_nil w base 67 2
theorem OwnV.nil_ (w : World) (base : Nat) : OwnV w base none 0 0 [] := World.ownsRow_nil w base 30 3
theorem OwnH.get {w : World} {base n c : Nat} {A : Option Addr} {l : List (Nat × Int)} (h : OwnH w base A n c l) : Row w A (l.flatMap hitC) ∧ l.length = n := by
  refine ⟨Row.of_own h, ?_⟩
  have := h.1
  rw [hits_len] at this; omega
theorem OwnV.get {w : World} {base n c : Nat} {A : Option Addr} {l : List Itv} (h : OwnV w base A n c l) : Row w A (l.flatMap Itv.cells) ∧ l.length = n := by
  refine ⟨Row.of_own h, ?_⟩
  have := h.1
  rw [itvs_len] at this; omega
theorem ownsRow_keptA {e : TypeId} {size : Nat} {w w' : World} {base n c m g : Nat} {A : Option Addr} {l : List Value} (h : w.ownsRow base e size (.slice A n c) m l) (hg : w.grownBy w' (some g)) (hlt : g < base) : w'.ownsRow base e size (.slice A n c) m l := by
  refine World.ownsRow.kept h hg ?_
  rcases h.2 with ⟨hv, _⟩ | ⟨g', cap, cur, hv, hb, _⟩
  · left; injection hv with e; rw [e]; rfl
  · right; injection hv with e; rw [e]; simp only [Value.ownBlock]; intro q; injection q with q; omega
theorem row_cs {w : World} {t : TypeId} {cs : Array Value} {l : List Value} (h : cs.toList = l) : Row (w.alloc (.cells cs t)) (some ⟨w.heap.size, 0, none⟩) l :=
  .inr ⟨w.heap.size, 0, rfl, fun j u hu => by rw [Nat.zero_add, Blk.cell (Blk.new w t cs) j, ← Array.getElem?_toList, h, hu]⟩
def t6hY (v1 v2 : Nat) (b0 : Bool) : Array Value := bif b0 then #[.int .u64 (v1 : Int), .int .i64 (RepM.i64 v2)] else #[.int .u64 0, .int .i64 0]
def t6hP (gr gx : Nat) (v1 v2 : Nat) : List (Nat × Nat × Value) := [(0, 2, (.pointer (some ⟨gr, 0, none⟩))), (1, 3, (.int .u64 (v1 : Int))), (2, 4, (.pointer (some ⟨gr, 0, none⟩))), (3, 5, (.int .u64 (v2 : Int))), (4, 6, (.int .i64 (RepM.i64 v2))), (5, 7, (.agg #[.int .u64 (v1 : Int), .int .i64 (RepM.i64 v2)]))]
set_option maxRecDepth 100000 in
set_option maxHeartbeats 4000000 in
theorem oneH_any {B : Nat} (gr gp : Nat) (r : CodeM.Rd) (w : World) (hr : RdIn B 111 w gr r) (hp : Blk w gp 55 #[.pointer (some ⟨gr, 0, none⟩)]) (hne : gp ≠ gr) (hB : B ≤ w.heap.size) :
    Calls Try.prog 36 #[.pointer (some ⟨gp, 0, none⟩)] w (RdStepI B 111 gr (.agg #[.int .u64 ((RepM.oneH r).1.1 : Int), .int .i64 (RepM.oneH r).1.2]) (RepM.oneH r).2 w) := by
  obtain ⟨p1, hp1⟩ : ∃ p, r.fixed 8 = p := ⟨_, rfl⟩
  obtain ⟨v1, r1⟩ := p1
  have hv1 : v1 < 18446744073709551616 := by have := StmM.fixed_lt8 r; rw [hp1] at this; exact this
  obtain ⟨p2, hp2⟩ : ∃ p, r1.fixed 8 = p := ⟨_, rfl⟩
  obtain ⟨v2, r2⟩ := p2
  have hv2 : v2 < 18446744073709551616 := by have := StmM.fixed_lt8 r1; rw [hp2] at this; exact this
  have HP1 := Lib.hid hp1
  have HV1 := Lib.hid hv1
  have HP2 := Lib.hid hp2
  have HV2 := Lib.hid hv2
  clear hp1 hv1 hp2 hv2
  have e : RepM.oneH r = ((v1, RepM.i64 v2), r2) := by unfold RepM.oneH; rw [HP1.out]; simp only; rw [HP2.out]
  rw [e]
  clear e
  have cw2 : IntKind.i64.wrap (v2 : Int) = RepM.i64 v2 := by rw [IntKind.wrap_i64]; unfold RepM.i64; omega
  have hb0 : Below w.heap.size w (w.alloc (.cells #[.int .u64 0, .int .i64 0] 67)) := (Below.refl _ _).alloc (Nat.le_refl _) _
  have HB0 := Lib.hid hb0
  have HX : Hid (RdT 67 B (w.alloc (.cells #[.int .u64 0, .int .i64 0] 67)) gr gp w.heap.size r #[.int .u64 0, .int .i64 0] (w.alloc (.cells #[.int .u64 0, .int .i64 0] 67))) := Lib.hid ⟨hr.below hb0, hp.below hb0 hp.lt, Blk.new w _ _, Chg.refl _ _ _⟩
  have HNE : Hid (Ne B gr gp w.heap.size) := Lib.hid ⟨Ne.symm hne, Nat.ne_of_lt hr.lt, Nat.ne_of_lt hp.lt, hB⟩
  clear hr hp hb0
  go_enter Try.func36, Try.ntmps36
  go_upto_region 1 with fail
  generalize w.alloc (.cells #[.int .u64 0, .int .i64 0] 67) = W1 at *
  obtain ⟨gx, hgx⟩ : ∃ g, w.heap.size = g := ⟨_, rfl⟩
  have HGX := Lib.hid hgx
  simp only [hgx]
  rw [hgx] at HX HNE
  clear hgx
  refine wp_named fun a0 ha0 => ?_
  have z0 : a0.tmps.getD 0 undef = (.pointer (some ⟨gp, 0, none⟩)) := by rw [ha0.out]; rfl
  have z1 : a0.tmps.getD 1 undef = (.pointer (some ⟨gx, 0, none⟩)) := by rw [ha0.out]; rfl
  have hsz0 : a0.tmps.size = 8 := by rw [ha0.out]; rfl
  refine wp_region_invB _ (by kernel_rfl) (fun L a wv => PIF a0 [2, 3, 4, 5, 6, 7] (t6hP gr gx v1 v2) L a ∧ RdT 67 B W1 gr gp gx (bif L 3 then r2 else (bif L 1 then r1 else r)) (t6hY v1 v2 (L 6)) wv ∧ (L 3 = true → L 1 = true)) (by kernel_rfl) ?_ ?_ ?_
  · exact ⟨PIF.start _ _ _, ⟨HX.out.drew, nofun⟩⟩
  rotate_left
  · as_aux_lemma =>
    refine ⟨?_, ?_, ?_, ?_, ?_, ?_, ?_, trivial⟩
    · intro L a w1 hI hi hd
      obtain ⟨hp, hw⟩ := hI
      have t0 := hp.at_ 0 _ rfl z0
      have t0' := t0
      rw [Array.getD_eq_getD_getElem?] at t0'
      have cp := hw.1.p.cell 0
      simp only [List.getElem?_toArray, List.getElem?_cons_zero] at cp
      exact rstep_valW (wanted_none rfl _) (.pointer (some ⟨gr, 0, none⟩)) w1 (by go_simp) ⟨(hp.put 0 2 (.pointer (some ⟨gr, 0, none⟩)) (by simp [t6hP]) (by simp [t6hP]) rfl (by rw [hsz0]; exact (by decide : 2 < 8))), by rw [upd_ne L (show (1 : Nat) ≠ 0 by decide), upd_ne L (show (3 : Nat) ≠ 0 by decide), upd_ne L (show (6 : Nat) ≠ 0 by decide)]; exact hw⟩
    · intro L a w1 hI hi hd
      obtain ⟨hp, hw⟩ := hI
      simp [Region.binds] at hd
      have e0 : a.tmps.getD 2 undef = (.pointer (some ⟨gr, 0, none⟩)) := hp.pu (0, 2, (.pointer (some ⟨gr, 0, none⟩))) (by simp [t6hP]) (by simp [hd])
      have f0 : a.tmps[2]?.getD undef = (.pointer (some ⟨gr, 0, none⟩)) := by rw [← Array.getD_eq_getD_getElem?]; exact e0
      have hi : L 1 = false := hi
      have n3 : L 3 = false := by
        cases q : L 3 with
        | false => rfl
        | true => rw [hw.2 q] at hi; cases hi
      have hR := hw.1.rd
      rw [n3, hi] at hR
      have HC := u64I_any gr r w1 hR
      rw [HP1.out] at HC
      refine rstep_callW (wanted_none rfl _) 37 #[(.pointer (some ⟨gr, 0, none⟩))] (by go_simp) ?_
      refine (HC).mono ?_
      rintro e w2 ⟨rfl, hR2, hg2⟩
      exact ⟨(hp.put 1 3 (.int .u64 (v1 : Int)) (by simp [t6hP]) (by simp [t6hP]) rfl (by rw [hsz0]; exact (by decide : 3 < 8))), (by rw [upd_eq, upd_ne L (show (3 : Nat) ≠ 1 by decide), upd_ne L (show (6 : Nat) ≠ 1 by decide)]; rw [n3]; exact ⟨(hw.1.call HNE.out hR2 hg2), (fun _ => rfl)⟩)⟩
    · intro L a w1 hI hi hd
      obtain ⟨hp, hw⟩ := hI
      have t0 := hp.at_ 0 _ rfl z0
      have t0' := t0
      rw [Array.getD_eq_getD_getElem?] at t0'
      have cp := hw.1.p.cell 0
      simp only [List.getElem?_toArray, List.getElem?_cons_zero] at cp
      exact rstep_valW (wanted_none rfl _) (.pointer (some ⟨gr, 0, none⟩)) w1 (by go_simp) ⟨(hp.put 2 4 (.pointer (some ⟨gr, 0, none⟩)) (by simp [t6hP]) (by simp [t6hP]) rfl (by rw [hsz0]; exact (by decide : 4 < 8))), by rw [upd_ne L (show (1 : Nat) ≠ 2 by decide), upd_ne L (show (3 : Nat) ≠ 2 by decide), upd_ne L (show (6 : Nat) ≠ 2 by decide)]; exact hw⟩
    · intro L a w1 hI hi hd
      obtain ⟨hp, hw⟩ := hI
      simp [Region.binds] at hd
      have e2 : a.tmps.getD 4 undef = (.pointer (some ⟨gr, 0, none⟩)) := hp.pu (2, 4, (.pointer (some ⟨gr, 0, none⟩))) (by simp [t6hP]) (by simp [hd])
      have f2 : a.tmps[4]?.getD undef = (.pointer (some ⟨gr, 0, none⟩)) := by rw [← Array.getD_eq_getD_getElem?]; exact e2
      have hi : L 3 = false := hi
      have hR := hw.1.rd
      have y1 : L 1 = true := by simp [hd]
      rw [hi, y1] at hR
      have HC := u64I_any gr r1 w1 hR
      rw [HP2.out] at HC
      refine rstep_callW (wanted_none rfl _) 37 #[(.pointer (some ⟨gr, 0, none⟩))] (by go_simp) ?_
      refine (HC).mono ?_
      rintro e w2 ⟨rfl, hR2, hg2⟩
      exact ⟨(hp.put 3 5 (.int .u64 (v2 : Int)) (by simp [t6hP]) (by simp [t6hP]) rfl (by rw [hsz0]; exact (by decide : 5 < 8))), (by rw [upd_ne L (show (1 : Nat) ≠ 3 by decide), upd_eq, upd_ne L (show (6 : Nat) ≠ 3 by decide)]; exact ⟨(hw.1.call HNE.out hR2 hg2), (fun _ => y1)⟩)⟩
    · intro L a w1 hI hi hd
      obtain ⟨hp, hw⟩ := hI
      simp [Region.binds] at hd
      have e3 : a.tmps.getD 5 undef = (.int .u64 (v2 : Int)) := hp.pu (3, 5, (.int .u64 (v2 : Int))) (by simp [t6hP]) (by simp [hd])
      have f3 : a.tmps[5]?.getD undef = (.int .u64 (v2 : Int)) := by rw [← Array.getD_eq_getD_getElem?]; exact e3
      exact rstep_valW (wanted_none rfl _) (.int .i64 (RepM.i64 v2)) w1 (by go_simp) ⟨(hp.put 4 6 (.int .i64 (RepM.i64 v2)) (by simp [t6hP]) (by simp [t6hP]) rfl (by rw [hsz0]; exact (by decide : 6 < 8))), by rw [upd_ne L (show (1 : Nat) ≠ 4 by decide), upd_ne L (show (3 : Nat) ≠ 4 by decide), upd_ne L (show (6 : Nat) ≠ 4 by decide)]; exact hw⟩
    · intro L a w1 hI hi hd
      obtain ⟨hp, hw⟩ := hI
      simp [Region.binds] at hd
      have e1 : a.tmps.getD 3 undef = (.int .u64 (v1 : Int)) := hp.pu (1, 3, (.int .u64 (v1 : Int))) (by simp [t6hP]) (by simp [hd])
      have f1 : a.tmps[3]?.getD undef = (.int .u64 (v1 : Int)) := by rw [← Array.getD_eq_getD_getElem?]; exact e1
      have e4 : a.tmps.getD 6 undef = (.int .i64 (RepM.i64 v2)) := hp.pu (4, 6, (.int .i64 (RepM.i64 v2))) (by simp [t6hP]) (by simp [hd])
      have f4 : a.tmps[6]?.getD undef = (.int .i64 (RepM.i64 v2)) := by rw [← Array.getD_eq_getD_getElem?]; exact e4
      exact rstep_valW (wanted_none rfl _) (.agg #[.int .u64 (v1 : Int), .int .i64 (RepM.i64 v2)]) w1 (by go_simp) ⟨(hp.put 5 7 (.agg #[.int .u64 (v1 : Int), .int .i64 (RepM.i64 v2)]) (by simp [t6hP]) (by simp [t6hP]) rfl (by rw [hsz0]; exact (by decide : 7 < 8))), by rw [upd_ne L (show (1 : Nat) ≠ 5 by decide), upd_ne L (show (3 : Nat) ≠ 5 by decide), upd_ne L (show (6 : Nat) ≠ 5 by decide)]; exact hw⟩
    · intro L a w1 hI hi hd
      obtain ⟨hp, hw⟩ := hI
      simp [Region.binds] at hd
      have e5 : a.tmps.getD 7 undef = (.agg #[.int .u64 (v1 : Int), .int .i64 (RepM.i64 v2)]) := hp.pu (5, 7, (.agg #[.int .u64 (v1 : Int), .int .i64 (RepM.i64 v2)])) (by simp [t6hP]) (by simp [hd])
      have f5 : a.tmps[7]?.getD undef = (.agg #[.int .u64 (v1 : Int), .int .i64 (RepM.i64 v2)]) := by rw [← Array.getD_eq_getD_getElem?]; exact e5
      have t1 := hp.at_ 1 _ rfl z1
      have t1' := t1
      rw [Array.getD_eq_getD_getElem?] at t1'
      have e_ : a.eval (.tmp 7) = _ := e5
      exact rstep_skip rfl (w1.setRow gx #[.int .u64 (v1 : Int), .int .i64 (RepM.i64 v2)]) (exec_store_row _ (.tmp 1) (.tmp 7) rfl gx #[.int .u64 (v1 : Int), .int .i64 (RepM.i64 v2)] t1 e_ _ _ hw.1.x (by kernel_rfl) (by cases L 6 <;> simp [t6hY]) (by simp [Value.oneCell'])) ⟨(hp.skip 6 undef (by simp [t6hP])), by rw [upd_ne L (show (1 : Nat) ≠ 6 by decide), upd_ne L (show (3 : Nat) ≠ 6 by decide), upd_eq]; exact ⟨hw.1.setRow HNE.out _, hw.2⟩⟩
  rintro L a W0 ⟨hp, hw⟩ hL
  rw [hL 1 (by simp), hL 3 (by simp), hL 6 (by simp)] at hw
  have HW : Hid (RdT 67 B W1 gr gp gx r2 #[.int .u64 (v1 : Int), .int .i64 (RepM.i64 v2)] W0) := Lib.hid hw.1
  clear hw
  rw [hp.eq]
  refine of_assigns (P := Try.prog) _ _ _ _ ?_
  rw [ha0.out]
  simp only [asgs, List.map]
  generalize a.tmps.getD 2 undef = u2
  generalize a.tmps.getD 3 undef = u3
  generalize a.tmps.getD 4 undef = u4
  generalize a.tmps.getD 5 undef = u5
  generalize a.tmps.getD 6 undef = u6
  generalize a.tmps.getD 7 undef = u7
  clear hp hL hsz0  z0 z1
  clear ha0
  go_wp2
  refine ret_cellT rfl gx #[.int .u64 (v1 : Int), .int .i64 (RepM.i64 v2)] _ rfl HW.out.x Try.underlying67 rfl (by kernel_rfl) rfl ?_
  exact ⟨rfl, HW.out.rd, HW.out.chg.grown HB0.out (Nat.le_of_eq HGX.out)⟩
/-- A record is read. -/
def OneVP (B gr : Nat) (L : Itm × CodeM.Rd) (w : World) (e : Ending) (w' : World) : Prop := ∃ s : Itv, e = .returned (.agg #[.int .u64 (s.x.key : Int), .slice s.A s.x.vec.length s.c, .slice s.A2 s.x.note.length s.c2]) ∧ s.x = L.1 ∧ ItO w' w.heap.size s ∧ RdIn B 111 w' gr L.2 ∧ w.grownBy w' (some gr)
set_option maxRecDepth 100000 in
set_option maxHeartbeats 4000000 in
theorem oneV_any {B : Nat} (gr gp : Nat) (r : CodeM.Rd) (w : World) (hr : RdIn B 111 w gr r) (hp : Blk w gp 55 #[.pointer (some ⟨gr, 0, none⟩)]) (hne : gp ≠ gr) (hB : B ≤ w.heap.size) :
    Calls Try.prog 33 #[.pointer (some ⟨gp, 0, none⟩)] w (OneVP B gr (RepM.oneI r) w) := by
  obtain ⟨p1, hp1⟩ : ∃ p, r.text 17500 = p := ⟨_, rfl⟩
  obtain ⟨tx, r1⟩ := p1
  have e : RepM.oneI r = ((ItemM.readR tx).getD StmM.no, r1) := by unfold RepM.oneI; rw [hp1]
  rw [e]
  clear e
  have hb0 : Below w.heap.size w (w.alloc (.cells #[.int .u64 0, .slice none 0 0, .slice none 0 0] 30)) := (Below.refl _ _).alloc (Nat.le_refl _) _
  have HB0 := Lib.hid hb0
  have HT := Lib.hid (textI_any gr r 17500 (w.alloc (.cells #[.int .u64 0, .slice none 0 0, .slice none 0 0] 30)) (hr.below hb0) (by decide) (by decide))
  rw [hp1] at HT
  have hp0 := hp.below hb0 hp.lt
  have HX1 := Lib.hid (Blk.new w 30 #[.int .u64 0, .slice none 0 0, .slice none 0 0])
  have cp := hp0.cell 0
  simp only [List.getElem?_toArray, List.getElem?_cons_zero] at cp
  have HL := Lib.hid (And.intro hr.lt hp.lt)
  clear hr hp hb0 hp0
  go_enter Try.func33, Try.ntmps33
  go_wp2_with fail
  refine HT.out.mono ?_
  rintro e w1 ⟨tA, tn, tc, rfl, hn, hO, hR1, hg1⟩
  obtain rfl : tx.length = tn := hn.out
  have hx1 := HX1.out.grown hg1 (by have := HL.out; intro q; injection q with q; omega)
  have HX2 := Lib.hid hx1
  have HR1 := Lib.hid hR1
  have HG1 := Lib.hid hg1
  have HC := Lib.hid (itemread_any tA tc tx w1 hO.row (by have := text_len r 17500; rw [hp1] at this; simp only at this; omega))
  clear hx1 hR1 hg1 hO hn HT cp HX1 hp1
  go_wp2_with fail
  refine HC.out.mono ?_
  cases hrd : ItemM.readP tx with
  | none =>
    rintro e w2 ⟨rfl, hb2⟩
    have HRD := Lib.hid hrd
    clear hrd
    have hb3 : Below w2.heap.size w2 (w2.alloc (.cells #[.int .u64 0, .slice none 0 0, .slice none 0 0] 30)) := (Below.refl _ _).alloc (Nat.le_refl _) _
    have hx3 := (HX2.out.below hb2 HX2.out.lt).below hb3 (HX2.out.below hb2 HX2.out.lt).lt
    have HY := Lib.hid (And.intro (below_join hb2 hb3) hb3)
    have hx3' := Blk.new w2 30 #[.int .u64 0, .slice none 0 0, .slice none 0 0]
    have HO : Hid (∀ {w4 : World}, (w2.alloc (.cells #[.int .u64 0, .slice none 0 0, .slice none 0 0] 30)).grownBy w4 (some w.heap.size) → w.heap.size < w1.heap.size → ItO w4 w.heap.size ⟨StmM.no, none, 0, none, 0⟩) := Lib.hid fun _ _ => itO_no _ _
    clear hb2 hb3 HC
    go_wp2_with (first | (refine wpl_load_row rfl _ (.tmp 2) rfl w2.heap.size (by go_simp) _ #[.int .u64 0, .slice none 0 0, .slice none 0 0] (0, 0) _ hx3' Try.underlying30 rfl (by kernel_rfl) ?_) | (refine wpList_store_row rfl _ (.tmp 1) (.tmp 10) rfl w.heap.size #[.int .u64 0, .slice none 0 0, .slice none 0 0] (by go_simp) (by go_simp) _ _ hx3 (by kernel_rfl) rfl (by simp [Value.oneCell']) ?_))
    refine ret_cellT rfl w.heap.size #[.int .u64 0, .slice none 0 0, .slice none 0 0] _ rfl (hx3.setRow_ _) Try.underlying30 rfl (by kernel_rfl) rfl ?_
    have gs := grownBy_setRow (w2.alloc (.cells #[.int .u64 0, .slice none 0 0, .slice none 0 0] 30)) w.heap.size #[.int .u64 0, .slice none 0 0, .slice none 0 0]
    have hgA := HB0.out
    have hgB := HG1.out
    have hs0 : w.heap.size < (w.alloc (.cells #[.int .u64 0, .slice none 0 0, .slice none 0 0] 30)).heap.size := by simp
    have hs1 : w.heap.size < w1.heap.size := Nat.lt_of_lt_of_le hs0 hgB.size
    refine ⟨⟨StmM.no, none, 0, none, 0⟩, rfl, (by show _ = (ItemM.readR tx).getD StmM.no; rw [← ItemM.readP_eq, HRD.out]; rfl), ?_, ((HR1.out.below HY.out.1).above gs (by have := HL.out; omega) hB), ?_⟩
    · exact HO.out gs hs1
    · exact (((World.grownBy.but (World.grownBy_alloc w _ none) (some gr)).trans hgB).andThen (World.grownBy.but ⟨HY.out.1.os, HY.out.1.tape, HY.out.1.output, HY.out.1.size, fun i hi _ => HY.out.1.block i hi⟩ (some gr)) (fun j hj => .inr (by rw [hj]))).andThen gs (fun j hj => .inl (by injection hj with hj; omega))
  | some x =>
    rintro e w2 ⟨A1, n1, c1, A2, n2, c2, rfl, hn1, hn2, hO1, hO2, hb2⟩
    have HXOK := Lib.hid (ItemM.read_inv (b := tx) (by rw [← ItemM.readP_eq]; exact hrd)).2.2
    obtain rfl : x.vec.length = n1 := hn1.out
    obtain rfl : x.note.length = n2 := hn2.out
    have HRD := Lib.hid hrd
    clear hrd
    have hb3 : Below w2.heap.size w2 (w2.alloc (.cells #[.int .u64 (x.key : Int), .slice A1 x.vec.length c1, .slice A2 x.note.length c2] 30)) := (Below.refl _ _).alloc (Nat.le_refl _) _
    have hx3 := (HX2.out.below hb2 HX2.out.lt).below hb3 (HX2.out.below hb2 HX2.out.lt).lt
    have HY := Lib.hid (And.intro (below_join hb2 hb3) hb3)
    have hx3' := Blk.new w2 30 #[.int .u64 (x.key : Int), .slice A1 x.vec.length c1, .slice A2 x.note.length c2]
    have hxok : x.Ok := HXOK.out
    have HO : Hid (∀ {w4 : World}, (w2.alloc (.cells #[.int .u64 (x.key : Int), .slice A1 x.vec.length c1, .slice A2 x.note.length c2] 30)).grownBy w4 (some w.heap.size) → w.heap.size < w1.heap.size → ItO w4 w.heap.size ⟨x, A1, c1, A2, c2⟩) := Lib.hid fun hg hs => (ItO.kept (s := ⟨x, A1, c1, A2, c2⟩) ⟨hO1.alloc _, hO2.alloc _, hxok⟩ hg hs).base_ (Nat.le_of_lt hs)
    clear hO1 hO2 hn1 hn2
    clear hb2 hb3 HC
    go_wp2_with (first | (refine wpl_load_row rfl _ (.tmp 2) rfl w2.heap.size (by go_simp) _ #[.int .u64 (x.key : Int), .slice A1 x.vec.length c1, .slice A2 x.note.length c2] (0, 0) _ hx3' Try.underlying30 rfl (by kernel_rfl) ?_) | (refine wpList_store_row rfl _ (.tmp 1) (.tmp 10) rfl w.heap.size #[.int .u64 (x.key : Int), .slice A1 x.vec.length c1, .slice A2 x.note.length c2] (by go_simp) (by go_simp) _ _ hx3 (by kernel_rfl) rfl (by simp [Value.oneCell']) ?_))
    refine ret_cellT rfl w.heap.size #[.int .u64 (x.key : Int), .slice A1 x.vec.length c1, .slice A2 x.note.length c2] _ rfl (hx3.setRow_ _) Try.underlying30 rfl (by kernel_rfl) rfl ?_
    have gs := grownBy_setRow (w2.alloc (.cells #[.int .u64 (x.key : Int), .slice A1 x.vec.length c1, .slice A2 x.note.length c2] 30)) w.heap.size #[.int .u64 (x.key : Int), .slice A1 x.vec.length c1, .slice A2 x.note.length c2]
    have hgA := HB0.out
    have hgB := HG1.out
    have hs0 : w.heap.size < (w.alloc (.cells #[.int .u64 0, .slice none 0 0, .slice none 0 0] 30)).heap.size := by simp
    have hs1 : w.heap.size < w1.heap.size := Nat.lt_of_lt_of_le hs0 hgB.size
    refine ⟨⟨x, A1, c1, A2, c2⟩, rfl, (by show _ = (ItemM.readR tx).getD StmM.no; rw [← ItemM.readP_eq, HRD.out]; rfl), ?_, ((HR1.out.below HY.out.1).above gs (by have := HL.out; omega) hB), ?_⟩
    · exact HO.out gs hs1
    · exact (((World.grownBy.but (World.grownBy_alloc w _ none) (some gr)).trans hgB).andThen (World.grownBy.but ⟨HY.out.1.os, HY.out.1.tape, HY.out.1.output, HY.out.1.size, fun i hi _ => HY.out.1.block i hi⟩ (some gr)) (fun j hj => .inr (by rw [hj]))).andThen gs (fun j hj => .inl (by injection hj with hj; omega))
/-- A list is read. -/
def ListHP (B gr : Nat) (L : List (Nat × Int) × CodeM.Rd) (w : World) (e : Ending) (w' : World) : Prop := ∃ A n c, e = .returned (.slice A n c) ∧ OwnH w' w.heap.size A n c L.1 ∧ RdIn B 111 w' gr L.2 ∧ w.grownBy w' (some gr)
set_option maxRecDepth 100000 in
set_option maxHeartbeats 4000000 in
theorem listH_any (B gr gp : Nat) (r : CodeM.Rd) (w : World) (hr : RdIn B 111 w gr r) (hp : Blk w gp 55 #[.pointer (some ⟨gr, 0, none⟩)]) (hne : gp ≠ gr) (hB : B ≤ w.heap.size) :
    Calls Try.prog 35 #[.pointer (some ⟨gr, 0, none⟩), .int .i64 16, .int .i64 50, .func (.func 36) #[] #[.pointer (some ⟨gp, 0, none⟩)]] w (ListHP B gr (StmM.listC 16 50 (RepM.seqs RepM.oneH) r) w) := by
  have HUV := Lib.hid (uvI_any gr r w hr)
  have hgr := hr.lt
  obtain ⟨p, hp0⟩ : ∃ p, r.uv = p := ⟨_, rfl⟩
  obtain ⟨n, r1⟩ := p
  have hlc : StmM.listC 16 50 (RepM.seqs RepM.oneH) r = if 50 < n ∨ r1.l.length < n * 16 then ([], r1) else RepM.seqs RepM.oneH n r1 := by unfold StmM.listC; rw [hp0]
  obtain ⟨LL, hLL⟩ : ∃ L, StmM.listC 16 50 (RepM.seqs RepM.oneH) r = L := ⟨_, rfl⟩
  rw [hLL]
  rw [hlc] at hLL
  have HLL := Lib.hid hLL
  clear hLL
  rw [hp0] at HUV
  have hn64 : n < 18446744073709551616 := by have := uv_lt r; rw [hp0] at this; exact this
  have HP := Lib.hid hp
  clear hr hlc hp0 hp
  go_enter Try.func35, Try.ntmps35
  go_wp2_with fail
  refine HUV.out.mono ?_
  rintro e w1 ⟨rfl, h1, hg1⟩
  clear HUV
  by_cases hbig : 50 < n
  · obtain rfl : LL = ([], r1) := HLL.out.symm.trans (if_pos (.inl hbig))
    go_wp2
    go_ret
    exact ⟨none, 0, 0, rfl, OwnH.nil_ _ _, h1, hg1⟩
  · have HL := left_any gr r1 w1 h1.at_
    have hw1 : IntKind.i64.wrap (n : Int) = (n : Int) := by rw [IntKind.wrap_i64]; omega
    have hw2 : IntKind.i64.wrap ((n : Int) * 16) = (n : Int) * 16 := by rw [IntKind.wrap_i64]; omega
    have hw3 : wrap64 (n : Int) = (n : Int) := by unfold wrap64; omega
    have hw4 : wrap64 ((n : Int) * 16) = (n : Int) * 16 := by unfold wrap64; omega
    go_wp2_with fail
    refine HL.mono ?_
    rintro e w1' ⟨rfl, rfl⟩
    by_cases hsh : r1.l.length < n * 16
    · obtain rfl : LL = ([], r1) := HLL.out.symm.trans (if_pos (.inr hsh))
      have hd : decide ((r1.l.length : Int) < (n : Int) * 16) = true := decide_eq_true (by omega)
      go_wp2
      go_ret
      exact ⟨none, 0, 0, rfl, OwnH.nil_ _ _, h1, hg1⟩
    · obtain rfl : LL = RepM.seqs RepM.oneH n r1 := HLL.out.symm.trans (if_neg (by omega))
      have hd : decide ((r1.l.length : Int) < (n : Int) * 16) = false := decide_eq_false (by omega)
      have H1 := Lib.hid (And.intro h1 hg1)
      clear h1 hg1 HL
      go_wp2
      clear hd hsh hw1 hw2 hw3 hw4
      go_loopw [10, 27] (fun a i wr => ∃ (k : Nat) (A : Option Addr) (c : Nat), i = .int .u64 (k : Int) ∧ k ≤ n ∧ a = .slice A k c ∧ OwnH wr w.heap.size A k c (RepM.seqs RepM.oneH k r1).1 ∧ RdIn B 111 wr gr (RepM.seqs RepM.oneH k r1).2 ∧ w.grownBy wr (some gr)) (fun _ i _ => n - (RowKit.intOf i).toNat)
      case atStart => exact ⟨0, none, 0, rfl, Nat.zero_le _, rfl, OwnH.nil_ _ _, H1.out.1, H1.out.2⟩
      case round =>
        obtain ⟨k, A, c, rfl, hk, rfl, hO, hR, hg⟩ := hrel
        by_cases hlt : k < n
        · have HC := Lib.hid (oneH_any gr gp _ wr hR (HP.out.grown hg (by simpa using hne)) hne (Nat.le_trans hB hg.size))
          have HX := Lib.hid (And.intro hO hg)
          clear hO hR hg H1
          go_wp2_with fail
          refine HC.out.mono ?_
          rintro e w2 ⟨rfl, hR2, hg2⟩
          obtain ⟨hh, hhh⟩ : ∃ h, (RepM.oneH (RepM.seqs RepM.oneH k r1).2).1 = h := ⟨_, rfl⟩
          have HH := Lib.hid hhh
          rw [hhh]
          clear hhh
          have hO2 := ownsRow_keptA HX.out.1 hg2 hgr
          have hgw2 := HX.out.2.trans hg2
          have hga : w2.grownBy (w2.alloc (.cells #[.int .u64 (hh.1 : Int), .int .i64 hh.2] 67)) none := World.grownBy_alloc w2 _ none
          have hba : Below w2.heap.size w2 (w2.alloc (.cells #[.int .u64 (hh.1 : Int), .int .i64 hh.2] 67)) := (Below.refl _ _).alloc (Nat.le_refl _) _
          have hO3 := World.ownsRow.alloc hO2 (.cells #[.int .u64 (hh.1 : Int), .int .i64 hh.2] 67)
          have hR3 := hR2.below hba
          have hs3 : w.heap.size ≤ (w2.alloc (.cells #[.int .u64 (hh.1 : Int), .int .i64 hh.2] 67)).heap.size := Nat.le_trans hgw2.size hba.size
          have HY := Lib.hid (And.intro hO3 (And.intro hR3 (And.intro hs3 (hgw2.andThen hga (by intro j hj; cases hj)))))
          clear hR2 hg2 hO2 hgw2 hga hba hO3 hR3 hs3 HX HC
          obtain ⟨i0, hi0, hz0, hz1, hz2⟩ := info_parts info_hit
          go_wp2_with (at_builtin; refine wpl_append _ rfl (.tmp 29) (.tmp 32) _ rfl w.heap.size 67 i0 _ 2 16 Try.underlying32 hi0 hz0 hz1 hz2 rfl (by omega) (.slice A k c) k ((RepM.seqs RepM.oneH k r1).1.flatMap hitC) rfl HY.out.1 (some ⟨w2.heap.size, 0, none⟩) 1 1 (hitC hh) rfl rfl (row_cs rfl) (by intro u hu; simp [hitC] at hu; rcases hu with rfl | rfl <;> rfl) (by unfold maxLen; omega) (by omega) HY.out.2.2.1 ?_)
          intro A' c' w4 hO4 hg4 _
          have HZ : Hid (OwnH w4 w.heap.size A' (k + 1) c' (RepM.seqs RepM.oneH (k + 1) r1).1 ∧ RdIn B 111 w4 gr (RepM.seqs RepM.oneH (k + 1) r1).2 ∧ w.grownBy w4 (some gr)) := Lib.hid (by
            have hlt2 : ∀ j, (Value.slice A k c).ownBlock = some j → w.heap.size ≤ j := fun j hj => (World.ownsRow.lt HY.out.1 j hj).1
            refine ⟨?_, ?_, HY.out.2.2.2.andThen hg4 (fun j hj => .inl (hlt2 j hj))⟩
            · show World.ownsRow w4 _ _ _ _ _ (((RepM.seqs RepM.oneH k r1).1 ++ [(RepM.oneH (RepM.seqs RepM.oneH k r1).2).1]).flatMap hitC)
              rw [List.flatMap_append, HH.out]
              simpa using hO4
            · cases hob : (Value.slice A k c).ownBlock with
              | none =>
                rw [hob] at hg4
                exact HY.out.2.1.below ⟨hg4.os, hg4.tape, hg4.output, hg4.size, fun i hi => hg4.block i hi (by simp)⟩
              | some b =>
                rw [hob] at hg4
                have := hlt2 b hob
                exact HY.out.2.1.above hg4 (by omega) (by omega))
          clear hO4 hg4 HY
          go_wp2
          go_roundw
          case rel => exact ⟨k + 1, A', c', by go_num, by omega, rfl, HZ.out.1, HZ.out.2.1, HZ.out.2.2⟩
          case measure => simp [RowKit.intOf]; omega
        · obtain rfl : k = n := by omega
          have HX := Lib.hid (And.intro hO (And.intro hR hg))
          clear hO hR hg H1
          go_wp2
          go_ret
          exact ⟨A, k, c, rfl, HX.out.1, HX.out.2.1, HX.out.2.2⟩
/-- A list is read. -/
def ListVP (B gr : Nat) (L : List Itm × CodeM.Rd) (w : World) (e : Ending) (w' : World) : Prop := ∃ A n c l, e = .returned (.slice A n c) ∧ (OwnV w' w.heap.size A n c l ∧ (∀ s ∈ l, ItO w' w.heap.size s) ∧ l.map (·.x) = L.1) ∧ RdIn B 111 w' gr L.2 ∧ w.grownBy w' (some gr)
set_option maxRecDepth 100000 in
set_option maxHeartbeats 4000000 in
theorem listV_any (B gr gp : Nat) (r : CodeM.Rd) (w : World) (hr : RdIn B 111 w gr r) (hp : Blk w gp 55 #[.pointer (some ⟨gr, 0, none⟩)]) (hne : gp ≠ gr) (hB : B ≤ w.heap.size) :
    Calls Try.prog 32 #[.pointer (some ⟨gr, 0, none⟩), .int .i64 1, .int .i64 50, .func (.func 33) #[] #[.pointer (some ⟨gp, 0, none⟩)]] w (ListVP B gr (StmM.listC 1 50 (RepM.seqs RepM.oneI) r) w) := by
  have HUV := Lib.hid (uvI_any gr r w hr)
  have hgr := hr.lt
  obtain ⟨p, hp0⟩ : ∃ p, r.uv = p := ⟨_, rfl⟩
  obtain ⟨n, r1⟩ := p
  have hlc : StmM.listC 1 50 (RepM.seqs RepM.oneI) r = if 50 < n ∨ r1.l.length < n * 1 then ([], r1) else RepM.seqs RepM.oneI n r1 := by unfold StmM.listC; rw [hp0]
  obtain ⟨LL, hLL⟩ : ∃ L, StmM.listC 1 50 (RepM.seqs RepM.oneI) r = L := ⟨_, rfl⟩
  rw [hLL]
  rw [hlc] at hLL
  have HLL := Lib.hid hLL
  clear hLL
  rw [hp0] at HUV
  have hn64 : n < 18446744073709551616 := by have := uv_lt r; rw [hp0] at this; exact this
  have HP := Lib.hid hp
  clear hr hlc hp0 hp
  go_enter Try.func32, Try.ntmps32
  go_wp2_with fail
  refine HUV.out.mono ?_
  rintro e w1 ⟨rfl, h1, hg1⟩
  clear HUV
  by_cases hbig : 50 < n
  · obtain rfl : LL = ([], r1) := HLL.out.symm.trans (if_pos (.inl hbig))
    go_wp2
    go_ret
    exact ⟨none, 0, 0, [], rfl, ⟨OwnV.nil_ _ _, nofun, rfl⟩, h1, hg1⟩
  · have HL := left_any gr r1 w1 h1.at_
    have hw1 : IntKind.i64.wrap (n : Int) = (n : Int) := by rw [IntKind.wrap_i64]; omega
    have hw2 : IntKind.i64.wrap ((n : Int) * 1) = (n : Int) * 1 := by rw [IntKind.wrap_i64]; omega
    have hw3 : wrap64 (n : Int) = (n : Int) := by unfold wrap64; omega
    have hw4 : wrap64 ((n : Int) * 1) = (n : Int) * 1 := by unfold wrap64; omega
    go_wp2_with fail
    refine HL.mono ?_
    rintro e w1' ⟨rfl, rfl⟩
    by_cases hsh : r1.l.length < n * 1
    · obtain rfl : LL = ([], r1) := HLL.out.symm.trans (if_pos (.inr hsh))
      have hd : decide ((r1.l.length : Int) < (n : Int) * 1) = true := decide_eq_true (by omega)
      have hd : decide (r1.l.length < n) = true := decide_eq_true (by omega)
      go_wp2
      go_ret
      exact ⟨none, 0, 0, [], rfl, ⟨OwnV.nil_ _ _, nofun, rfl⟩, h1, hg1⟩
    · obtain rfl : LL = RepM.seqs RepM.oneI n r1 := HLL.out.symm.trans (if_neg (by omega))
      have hd : decide ((r1.l.length : Int) < (n : Int) * 1) = false := decide_eq_false (by omega)
      have hd : decide (r1.l.length < n) = false := decide_eq_false (by omega)
      have H1 := Lib.hid (And.intro h1 hg1)
      clear h1 hg1 HL
      go_wp2
      clear hd hsh hw1 hw2 hw3 hw4
      go_loopw [10, 27] (fun a i wr => ∃ (k : Nat) (A : Option Addr) (c : Nat) (l : List Itv), i = .int .u64 (k : Int) ∧ k ≤ n ∧ a = .slice A k c ∧ (OwnV wr w.heap.size A k c l ∧ (∀ s ∈ l, ItO wr w.heap.size s) ∧ l.map (·.x) = (RepM.seqs RepM.oneI k r1).1) ∧ RdIn B 111 wr gr (RepM.seqs RepM.oneI k r1).2 ∧ w.grownBy wr (some gr)) (fun _ i _ => n - (RowKit.intOf i).toNat)
      case atStart => exact ⟨0, none, 0, [], rfl, Nat.zero_le _, rfl, ⟨OwnV.nil_ _ _, nofun, rfl⟩, H1.out.1, H1.out.2⟩
      case round =>
        obtain ⟨k, A, c, l, rfl, hk, rfl, hO, hR, hg⟩ := hrel
        by_cases hlt : k < n
        · have HC := Lib.hid (oneV_any gr gp _ wr hR (HP.out.grown hg (by simpa using hne)) hne (Nat.le_trans hB hg.size))
          have HX := Lib.hid (And.intro hO hg)
          clear hO hR hg H1
          go_wp2_with fail
          refine HC.out.mono ?_
          rintro e w2 ⟨s, rfl, hsx, hit, hR2, hg2⟩
          have HS := Lib.hid hsx
          clear hsx
          have hO2 := ownsRow_keptA HX.out.1.1 hg2 hgr
          have hI2 : ∀ s ∈ l, ItO w2 w.heap.size s := fun s hs => (HX.out.1.2.1 s hs).kept hg2 hgr
          have hs2 : ItO w2 w.heap.size s := hit.base_ HX.out.2.size
          have hgw2 := HX.out.2.trans hg2
          have hga : w2.grownBy (w2.alloc (.cells #[.int .u64 (s.x.key : Int), .slice s.A s.x.vec.length s.c, .slice s.A2 s.x.note.length s.c2] 30)) none := World.grownBy_alloc w2 _ none
          have hba : Below w2.heap.size w2 (w2.alloc (.cells #[.int .u64 (s.x.key : Int), .slice s.A s.x.vec.length s.c, .slice s.A2 s.x.note.length s.c2] 30)) := (Below.refl _ _).alloc (Nat.le_refl _) _
          have hO3 := World.ownsRow.alloc hO2 (.cells #[.int .u64 (s.x.key : Int), .slice s.A s.x.vec.length s.c, .slice s.A2 s.x.note.length s.c2] 30)
          have hR3 := hR2.below hba
          have hs3 : w.heap.size ≤ (w2.alloc (.cells #[.int .u64 (s.x.key : Int), .slice s.A s.x.vec.length s.c, .slice s.A2 s.x.note.length s.c2] 30)).heap.size := Nat.le_trans hgw2.size hba.size
          have HY := Lib.hid (And.intro hO3 (And.intro hR3 (And.intro hs3 (hgw2.andThen hga (by intro j hj; cases hj)))))
          have HI : Hid ((∀ s ∈ l, ItO _ w.heap.size s) ∧ ItO _ w.heap.size s) := Lib.hid ⟨fun s hs => (hI2 s hs).below hba, hs2.below hba⟩
          have HM := Lib.hid HX.out.1.2.2
          clear hI2 hs2 hit
          clear hR2 hg2 hO2 hgw2 hga hba hO3 hR3 hs3 HX HC
          obtain ⟨i0, hi0, hz0, hz1, hz2⟩ := info_parts info_item
          go_wp2_with (at_builtin; refine wpl_append _ rfl (.tmp 29) (.tmp 32) _ rfl w.heap.size 30 i0 _ 3 56 Try.underlying31 hi0 hz0 hz1 hz2 rfl (by omega) (.slice A k c) k (l.flatMap Itv.cells) rfl HY.out.1 (some ⟨w2.heap.size, 0, none⟩) 1 1 (Itv.cells s) rfl rfl (row_cs rfl) (by intro u hu; simp [Itv.cells] at hu; rcases hu with rfl | rfl | rfl <;> rfl) (by unfold maxLen; omega) (by omega) HY.out.2.2.1 ?_)
          intro A' c' w4 hO4 hg4 _
          have HZ : Hid ((OwnV w4 w.heap.size A' (k + 1) c' (l ++ [s]) ∧ (∀ s' ∈ l ++ [s], ItO w4 w.heap.size s') ∧ (l ++ [s]).map (·.x) = (RepM.seqs RepM.oneI (k + 1) r1).1) ∧ RdIn B 111 w4 gr (RepM.seqs RepM.oneI (k + 1) r1).2 ∧ w.grownBy w4 (some gr)) := Lib.hid (by
            have hlt2 : ∀ j, (Value.slice A k c).ownBlock = some j → w.heap.size ≤ j := fun j hj => (World.ownsRow.lt HY.out.1 j hj).1
            refine ⟨?_, ?_, HY.out.2.2.2.andThen hg4 (fun j hj => .inl (hlt2 j hj))⟩
            · refine ⟨?_, fun s' hs' => ?_, ?_⟩
              · show World.ownsRow w4 _ _ _ _ _ ((l ++ [s]).flatMap Itv.cells)
                rw [List.flatMap_append]
                simpa using hO4
              · rcases List.mem_append.1 hs' with q | q
                · exact (HI.out.1 s' q).row HY.out.1 (by decide) (by decide) hg4
                · rw [List.mem_singleton.1 q]; exact HI.out.2.row HY.out.1 (by decide) (by decide) hg4
              · show (l ++ [s]).map (·.x) = (RepM.seqs RepM.oneI k r1).1 ++ [(RepM.oneI (RepM.seqs RepM.oneI k r1).2).1]
                rw [List.map_append, HM.out, ← HS.out]; rfl
            · cases hob : (Value.slice A k c).ownBlock with
              | none =>
                rw [hob] at hg4
                exact HY.out.2.1.below ⟨hg4.os, hg4.tape, hg4.output, hg4.size, fun i hi => hg4.block i hi (by simp)⟩
              | some b =>
                rw [hob] at hg4
                have := hlt2 b hob
                exact HY.out.2.1.above hg4 (by omega) (by omega))
          clear hO4 hg4 HY
          go_wp2
          go_roundw
          case rel => exact ⟨k + 1, A', c', l ++ [s], by go_num, by omega, rfl, HZ.out.1, HZ.out.2.1, HZ.out.2.2⟩
          case measure => simp [RowKit.intOf]; omega
        · obtain rfl : k = n := by omega
          have HX := Lib.hid (And.intro hO (And.intro hR hg))
          clear hO hR hg H1
          go_wp2
          go_ret
          exact ⟨A, k, c, l, rfl, HX.out.1, HX.out.2.1, HX.out.2.2⟩
end Go.Proofs.Ytaadfalklddhcaa
