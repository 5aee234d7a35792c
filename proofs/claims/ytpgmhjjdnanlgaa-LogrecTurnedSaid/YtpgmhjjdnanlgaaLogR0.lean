/-
  A record in the making while a reader is read: what lies in memory.
  Conditions: none.
-/
import Derived.Test.YtpgmhjjdnanlgaaLogF2
import Derived.Test.YtpgmhjjdnanlgaaLogM2
import Derived.Test.YtpgmhjjdnanlgaaCodeR1
import Derived.Laws.AppendOwn
namespace Go.Proofs.Ytpgmhjjdnanlgaa
open Go.RowKit Go.Sort Go.Lib
set_option linter.unusedVariables false
set_option linter.unusedSimpArgs false
theorem rec_apart (s : Lrec) (y : Lsl) : ∀ v ∈ (#[.int .i64 s.kind, .int .u64 (s.lsn : Int), .int .u32 (s.epoch : Int), .int .u64 (s.txn : Int), .int .u32 (s.page : Int), .int .u16 (s.off : Int), .slice y.oA y.on y.oc, .slice y.nA y.nn y.nc, .slice y.uA y.un y.uc, .int .u64 (s.prev : Int), .int .u64 (s.next : Int), .bool s.clr, .int .u64 (s.stamp : Int), .slice y.pA y.pn y.pc, .slice y.dA y.dn y.dc] : Array Value).toList, ∀ c : UInt8, v ≠ B c := by
  intro v hv c
  simp only [List.mem_cons, List.not_mem_nil, or_false] at hv
  rcases hv with rfl | rfl | rfl | rfl | rfl | rfl | rfl | rfl | rfl | rfl | rfl | rfl | rfl | rfl | rfl <;> simp [B]
theorem RdAt.other {t t9 : TypeId} {w w' : World} {g g9 : Nat} {r : CodeM.Rd} {cs : Array Value} (h : RdAt t w g r) (hB : Blk w g9 t9 cs) (hcs : ∀ v ∈ cs.toList, ∀ c : UInt8, v ≠ B c) (hne : g9 ≠ g) (hg : w.grownBy w' (some g9)) : RdAt t w' g r := by
  obtain ⟨A, n, c, hB', h1, h2, h3, h4⟩ := h
  exact ⟨A, n, c, hB'.grown hg (fun q => hne (by injection q with q; omega)), h1, h2, h3, row_other h4 hB hcs hg⟩
theorem owns_kept {w w' : World} {base : Nat} {e : TypeId} {z : Nat} {v : Value} {n : Nat} {xs : List Value} {g : Nat} (h : w.ownsRow base e z v n xs) (hg : w.grownBy w' (some g)) (hlt : g < base) : w'.ownsRow base e z v n xs := by
  refine ⟨h.1, ?_⟩
  rcases h.2 with hn | ⟨k, cap, cur, e1, hb, hk, rest⟩
  · exact .inl hn
  · exact .inr ⟨k, cap, cur, e1, hb, by rw [hg.block k (Array.getElem?_eq_some_iff.1 hk).1 (fun q => by injection q with q; omega)]; exact hk, rest⟩
theorem owns_below {w w' : World} {base : Nat} {e : TypeId} {z : Nat} {v : Value} {n : Nat} {xs : List Value} (h : w.ownsRow base e z v n xs) (hb : Below w.heap.size w w') : w'.ownsRow base e z v n xs := by
  refine ⟨h.1, ?_⟩
  rcases h.2 with hn | ⟨k, cap, cur, e1, hb', hk, rest⟩
  · exact .inl hn
  · exact .inr ⟨k, cap, cur, e1, hb', by rw [hb.block k (Array.getElem?_eq_some_iff.1 hk).1]; exact hk, rest⟩
theorem owns_base {w : World} {base b : Nat} {e : TypeId} {z : Nat} {v : Value} {n : Nat} {xs : List Value} (h : w.ownsRow base e z v n xs) (hb : b ≤ base) : w.ownsRow b e z v n xs := by
  refine ⟨h.1, ?_⟩
  rcases h.2 with hn | ⟨k, cap, cur, e1, hb', rest⟩
  · exact .inl hn
  · exact .inr ⟨k, cap, cur, e1, Nat.le_trans hb hb', rest⟩
theorem owns_cap {w : World} {base c : Nat} {e : TypeId} {z : Nat} {A : Option Addr} {n : Nat} {xs : List Value} (h : w.ownsRow base e z (.slice A n c) n xs) : n ≤ c ∧ c ≤ maxLen := by
  rcases h.2 with ⟨hv, hn⟩ | ⟨g, cap, cur, hv, _, _, h1, h2, _⟩
  · injection hv with e1 e2 e3
    subst e3 hn
    exact ⟨Nat.le_refl _, Nat.zero_le _⟩
  · injection hv with e1 e2 e3
    subst e3
    exact ⟨h1, h2⟩
/-- A record's lists, in memory of their own. -/
structure Lown (w : World) (base : Nat) (y : Lsl) (s : Lrec) : Prop where
  o : Own w base y.oA y.oc s.old
  n : Own w base y.nA y.nc s.new
  u : Own w base y.uA y.uc s.undo
  p : w.ownsRow base 54 3 (.slice y.pA y.pn y.pc) y.pn (s.opn.flatMap chC)
  d : w.ownsRow base 56 2 (.slice y.dA y.dn y.dc) y.dn (s.dirty.flatMap dtC)
  lo : s.old.length = y.on
  ln : s.new.length = y.nn
  lu : s.undo.length = y.un
  lp : s.opn.length = y.pn
  ld : s.dirty.length = y.dn
theorem Lown.kept {w w' : World} {base g : Nat} {y : Lsl} {s : Lrec} (h : Lown w base y s) (hg : w.grownBy w' (some g)) (hlt : g < base) : Lown w' base y s :=
  ⟨h.o.kept hg hlt, h.n.kept hg hlt, h.u.kept hg hlt, owns_kept h.p hg hlt, owns_kept h.d hg hlt, h.lo, h.ln, h.lu, h.lp, h.ld⟩
theorem Lown.below {w w' : World} {base : Nat} {y : Lsl} {s : Lrec} (h : Lown w base y s) (hb : Below w.heap.size w w') : Lown w' base y s :=
  ⟨h.o.below hb, h.n.below hb, h.u.below hb, owns_below h.p hb, owns_below h.d hb, h.lo, h.ln, h.lu, h.lp, h.ld⟩
theorem Lown.base_ {w : World} {base b : Nat} {y : Lsl} {s : Lrec} (h : Lown w base y s) (hb : b ≤ base) : Lown w b y s :=
  ⟨h.o.base_ hb, h.n.base_ hb, h.u.base_ hb, owns_base h.p hb, owns_base h.d hb, h.lo, h.ln, h.lu, h.lp, h.ld⟩
theorem Lown.at_ {w : World} {base : Nat} {y : Lsl} {s : Lrec} (h : Lown w base y s) (hf : LogM.Fit s) : LogAt w y s :=
  ⟨h.o.row, h.n.row, h.u.row, Row.of_own h.p, Row.of_own h.d, h.lo, h.ln, h.lu, h.lp, h.ld, by have := h.o.le; rw [h.lo] at this; exact this, by have := h.n.le; rw [h.ln] at this; exact this, by have := h.u.le; rw [h.lu] at this; exact this, owns_cap h.p, owns_cap h.d, hf⟩
def Lsl.z : Lsl := ⟨none, 0, 0, none, 0, 0, none, 0, 0, none, 0, 0, none, 0, 0⟩
theorem Lown.zr (w : World) (base : Nat) (k : Int) (lsn epoch : Nat) : Lown w base Lsl.z (LogM.zr k lsn epoch) :=
  ⟨Own.nil_ _ _, Own.nil_ _ _, Own.nil_ _ _, World.ownsRow_nil _ _ _ _, World.ownsRow_nil _ _ _ _, rfl, rfl, rfl, rfl, rfl⟩
/-- A record in block gx that is being read from reader gr; gz: the result's block. -/
structure RSt (B0 base : Nat) (w0 : World) (gr gx gz : Nat) (A0 : Option Addr) (m : List UInt8) (r : CodeM.Rd) (s : Lrec) (y : Lsl) (wc : World) : Prop where
  rd : RdIn base 68 wc gr r
  x : Blk wc gx 31 #[.int .i64 s.kind, .int .u64 (s.lsn : Int), .int .u32 (s.epoch : Int), .int .u64 (s.txn : Int), .int .u32 (s.page : Int), .int .u16 (s.off : Int), .slice y.oA y.on y.oc, .slice y.nA y.nn y.nc, .slice y.uA y.un y.uc, .int .u64 (s.prev : Int), .int .u64 (s.next : Int), .bool s.clr, .int .u64 (s.stamp : Int), .slice y.pA y.pn y.pc, .slice y.dA y.dn y.dc]
  z : Blk wc gz 31 #[.int .i64 0, .int .u64 0, .int .u32 0, .int .u64 0, .int .u32 0, .int .u16 0, .slice none 0 0, .slice none 0 0, .slice none 0 0, .int .u64 0, .int .u64 0, .bool false, .int .u64 0, .slice none 0 0, .slice none 0 0]
  ow : Lown wc base y s
  bel : Below B0 w0 wc
  sz : base ≤ wc.heap.size
  inp : Row wc A0 (bs m)
  ia : ∀ a : Addr, A0 = some a → a.block < base
  ord : B0 ≤ gr ∧ gr < base ∧ B0 ≤ gx ∧ gx < base ∧ gz < base ∧ gr ≠ gx ∧ gr ≠ gz ∧ gx ≠ gz ∧ B0 ≤ base
section
variable {B0 base : Nat} {w0 : World} {gr gx gz : Nat} {A0 : Option Addr} {m : List UInt8} {r r' : CodeM.Rd} {s s' : Lrec} {y y' : Lsl} {w w' : World}
/-- A step of the reader. -/
theorem RSt.step (h : RSt B0 base w0 gr gx gz A0 m r s y w) (h1 : RdIn base 68 w' gr r') (hg : w.grownBy w' (some gr)) : RSt B0 base w0 gr gx gz A0 m r' s y w' := by
  obtain ⟨o1, o2, o3, o4, o5, o6, o7, o8, o9⟩ := h.ord
  exact ⟨h1, h.x.grown hg (fun q => o6 (by injection q with q; omega)), h.z.grown hg (fun q => o7 (by injection q with q; omega)), h.ow.kept hg o2, below_grown h.bel hg (Nat.le_trans o9 h.sz) o1, Nat.le_trans h.sz hg.size, h.rd.at_.row hg h.inp, h.ia, h.ord⟩
/-- The record's cells are written. -/
theorem RSt.fill (h : RSt B0 base w0 gr gx gz A0 m r s y w) (hx : Blk w' gx 31 #[.int .i64 s'.kind, .int .u64 (s'.lsn : Int), .int .u32 (s'.epoch : Int), .int .u64 (s'.txn : Int), .int .u32 (s'.page : Int), .int .u16 (s'.off : Int), .slice y'.oA y'.on y'.oc, .slice y'.nA y'.nn y'.nc, .slice y'.uA y'.un y'.uc, .int .u64 (s'.prev : Int), .int .u64 (s'.next : Int), .bool s'.clr, .int .u64 (s'.stamp : Int), .slice y'.pA y'.pn y'.pc, .slice y'.dA y'.dn y'.dc]) (hg : w.grownBy w' (some gx)) (ho : Lown w base y' s') : RSt B0 base w0 gr gx gz A0 m r s' y' w' := by
  obtain ⟨o1, o2, o3, o4, o5, o6, o7, o8, o9⟩ := h.ord
  exact ⟨h.rd.grown hg (Ne.symm o6) (fun A l hr _ => row_other hr h.x (rec_apart s y) hg), hx, h.z.grown hg (fun q => o8 (by injection q with q; omega)), ho.kept hg o4, below_grown h.bel hg (Nat.le_trans o9 h.sz) o3, Nat.le_trans h.sz hg.size, row_other h.inp h.x (rec_apart s y) hg, h.ia, h.ord⟩
/-- New memory is made beyond. -/
theorem RSt.far (h : RSt B0 base w0 gr gx gz A0 m r s y w) (hb : Below w.heap.size w w') : RSt B0 base w0 gr gx gz A0 m r s y w' := by
  obtain ⟨o1, o2, o3, o4, o5, o6, o7, o8, o9⟩ := h.ord
  exact ⟨h.rd.below hb, h.x.below hb h.x.lt, h.z.below hb h.z.lt, h.ow.below hb, h.bel.trans (hb.mono (Nat.le_trans o9 h.sz)), Nat.le_trans h.sz hb.size, h.inp.below hb, h.ia, h.ord⟩
end
end Go.Proofs.Ytpgmhjjdnanlgaa
