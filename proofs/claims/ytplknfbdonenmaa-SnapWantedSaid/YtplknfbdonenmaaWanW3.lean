/-
  What of a chain is wanted, by the program's word (snap.Wanted).
  Conditions: the heads, the looks and their stamps lie in memory; at most 1000 heads.
-/
import Derived.Test.YtplknfbdonenmaaWanW1
import Derived.Test.YtplknfbdonenmaaWanW2
import Derived.Test.YtplknfbdonenmaaReg7
import Derived.Test.YtplknfbdonenmaaRow
import Derived.Deep.Cut
import Derived.Deep.CutBlock
import Derived.BigQuiet
namespace Go.Proofs.Ytplknfbdonenmaa
open Go.RowKit Go.Shelf
set_option linter.unusedVariables false
set_option linter.unusedSimpArgs false
def bls (l : List Bool) : Array Value := (l.map Value.bool).toArray
theorem bls_get {l : List Bool} {i : Nat} {v : Bool} (h : l[i]? = some v) : (bls l)[i]? = some (.bool v) := by
  unfold bls
  rw [List.getElem?_toArray, List.getElem?_map, h]; rfl
theorem bls_set (l : List Bool) (i : Nat) (v : Bool) : (bls l).setIfInBounds i (.bool v) = bls (l.set i v) := by
  unfold bls
  rw [List.setIfInBounds_toArray, List.map_set]
theorem info_bool : (Try.prog.info? 4).map (fun i => (i.zero, i.size, i.bytes)) = some (some (.bool false), 1, 1) := by kernel_rfl
theorem falses_made (n : Nat) : madeCells #[Value.bool false] n = bls (List.replicate n false) := by
  apply Array.ext'
  rw [toList_madeCells_one]
  simp [bls]
theorem run_mkb (w : World) (n : Nat) (hn : n ≤ 1000000) : (Instr.makeSlice 26 (.int .i64 (n : Int)) (.int .i64 (n : Int))).run Try.prog w = .ok (.slice (some ⟨w.heap.size, 0, none⟩) n n) (w.alloc (.cells (bls (List.replicate n false)) 4)) := by
  obtain ⟨i0, hi0, hz0, hz1, hz2⟩ := info_parts info_bool
  have hr := run_make (P := Try.prog) w 26 4 i0 _ Try.underlying26 hi0 hz0 .i64 .i64 (n : Int) (n : Int) (by omega) (Int.le_refl _) (by rw [hz2]; omega) (by omega)
  rw [hz1, Nat.mul_one, Int.toNat_natCast, show (Value.bool false).cells = #[Value.bool false] from rfl, falses_made] at hr
  exact hr
/-- Where everything lies. -/
structure SnA where
  b3 : Nat
  b5 : Nat
  bs : Nat
  b9 : Nat
  bo : Nat
  b10 : Nat
  b11 : Nat
  bc : Nat
  N : Nat
  c2 : Nat
  cc : Nat
  A2 : Option Addr
  AC : Option Addr
  ks : List Lkv
  sl : List Bool
/-- The cells ahead of a round, or behind it. -/
structure Sn (S : SnA) (w0 : World) (o : List Bool) (bh : Bool) (W : World) : Prop where
  k3 : Blk W S.b3 23 #[.slice S.A2 S.ks.length S.c2]
  k5 : Blk W S.b5 26 #[.slice (some ⟨S.bs, 0, none⟩) S.N S.N]
  ks : Blk W S.bs 4 (bls S.sl)
  k9 : Blk W S.b9 39 #[.func (.func 9) #[] #[.pointer (some ⟨S.b3, 0, none⟩)]]
  ko : Blk W S.bo 4 (bls o)
  k10 : Blk W S.b10 26 #[.slice (some ⟨S.bo, 0, none⟩) S.N S.N]
  k11 : Blk W S.b11 4 #[.bool bh]
  kc : Blk W S.bc 22 #[.slice S.AC S.N S.cc]
  bel : Below w0.heap.size w0 W
/-- Which blocks are which. -/
structure SnA.Ok (S : SnA) (w0 : World) : Prop where
  o3 : S.bo ≠ S.b3
  o5 : S.bo ≠ S.b5
  os : S.bo ≠ S.bs
  o9 : S.bo ≠ S.b9
  o10 : S.bo ≠ S.b10
  o11 : S.bo ≠ S.b11
  oc : S.bo ≠ S.bc
  e3 : S.b11 ≠ S.b3
  e5 : S.b11 ≠ S.b5
  es : S.b11 ≠ S.bs
  e9 : S.b11 ≠ S.b9
  e10 : S.b11 ≠ S.b10
  ec : S.b11 ≠ S.bc
  lo : w0.heap.size ≤ S.bo
  l11 : w0.heap.size ≤ S.b11
section
variable {S : SnA} {w0 W W' : World} {o : List Bool} {bh : Bool}
theorem Sn.below (h : Sn S w0 o bh W) (hb : Below W.heap.size W W') : Sn S w0 o bh W' :=
  ⟨h.k3.below hb h.k3.lt, h.k5.below hb h.k5.lt, h.ks.below hb h.ks.lt, h.k9.below hb h.k9.lt, h.ko.below hb h.ko.lt, h.k10.below hb h.k10.lt, h.k11.below hb h.k11.lt, h.kc.below hb h.kc.lt, h.bel.trans (hb.mono h.bel.size)⟩
theorem Sn.drew (h : Sn S w0 o bh W) : Sn S w0 o bh W.drew := h.below ⟨rfl, rfl, rfl, Nat.le_refl _, fun _ _ => rfl⟩
theorem grownBy_setC (w : World) (g i : Nat) (v : Value) : w.grownBy (w.setCell ⟨g, i, none⟩ v) (some g) := ⟨rfl, rfl, rfl, by simp, fun k _ hne => Below.heap_setCell w _ v k (fun e => hne (by rw [e]))⟩
theorem below_set0 {B g : Nat} {a w : World} (h : Below B a w) (hs : B ≤ w.heap.size) (hg : B ≤ g) (i : Nat) (v : Value) : Below B a (w.setCell ⟨g, i, none⟩ v) := h.grown (grownBy_setC w g i v) hs (fun k hk => by injection hk with hk; omega)
theorem Sn.setO (h : Sn S w0 o bh W) (k : S.Ok w0) (i : Nat) (v : Bool) : Sn S w0 (o.set i v) bh (W.setCell ⟨S.bo, i, none⟩ (.bool v)) := by
  have f : ∀ {g : Nat} {t : TypeId} {cs : Array Value}, Blk W g t cs → S.bo ≠ g → Blk (W.setCell ⟨S.bo, i, none⟩ (.bool v)) g t cs := fun hB hne => hB.far (p := ⟨S.bo, i, none⟩) (Ne.symm hne) _
  exact ⟨f h.k3 k.o3, f h.k5 k.o5, f h.ks k.os, f h.k9 k.o9, by rw [← bls_set]; exact h.ko.set_ i _, f h.k10 k.o10, f h.k11 k.o11, f h.kc k.oc, below_set0 h.bel h.bel.size k.lo _ _⟩
theorem Sn.setB (h : Sn S w0 o bh W) (k : S.Ok w0) (v : Bool) : Sn S w0 o v (W.setCell ⟨S.b11, 0, none⟩ (.bool v)) := by
  have f : ∀ {g : Nat} {t : TypeId} {cs : Array Value}, Blk W g t cs → S.b11 ≠ g → Blk (W.setCell ⟨S.b11, 0, none⟩ (.bool v)) g t cs := fun hB hne => hB.far (p := ⟨S.b11, 0, none⟩) (Ne.symm hne) _
  exact ⟨f h.k3 k.e3, f h.k5 k.e5, f h.ks k.es, f h.k9 k.e9, f h.ko (Ne.symm k.o11), f h.k10 k.e10, h.k11.set_ 0 _, f h.kc k.ec, below_set0 h.bel h.bel.size k.l11 _ _⟩
/-- Blocks of cells stay where a block that is none turns. -/
theorem Blk.abides {W W' : World} {g : Nat} {t : TypeId} {cs : Array Value} {row : Option Nat} (h : Blk W g t cs) (hg : W.grownBy W' row) (hr : ∀ r, row = some r → ∃ o : Obj, W.heap[r]? = some o ∧ o.isCells = false) : Blk W' g t cs := by
  refine h.grown hg ?_
  intro q
  obtain ⟨o, h1, h2⟩ := hr g q.symm
  have h3 : W.heap[g]? = some (.cells cs t (0, 0)) := h
  rw [h3] at h1
  injection h1 with h1
  subst h1
  cases h2
theorem Sn.abides {row : Option Nat} {B : Nat} (h : Sn S w0 o bh W) (hB : w0.heap.size ≤ B) (hg : W.grownBy W' row) (hr : ∀ r, row = some r → B ≤ r ∧ ∃ o : Obj, W.heap[r]? = some o ∧ o.isCells = false) : Sn S w0 o bh W' := by
  have f : ∀ {g : Nat} {t : TypeId} {cs : Array Value}, Blk W g t cs → Blk W' g t cs := fun hB => hB.abides hg fun r e => (hr r e).2
  exact ⟨f h.k3, f h.k5, f h.ks, f h.k9, f h.ko, f h.k10, f h.k11, f h.kc, h.bel.grown hg h.bel.size (fun k e => Nat.le_trans hB (hr k e).1)⟩
end
/-- While a round runs. -/
structure Sr (S : SnA) (w0 W : World) (Bx : Nat) (hc : Array Value) (o : List Bool) (bh : Bool) (wv : World) : Prop where
  sn : Sn S w0 o bh wv
  bel : Below w0.heap.size W wv
  ko : KeepsOthers W wv
  hx : Blk wv Bx 36 hc
theorem keeps_below {W W' : World} (hb : Below W.heap.size W W') : KeepsOthers W W' :=
  ⟨hb.size, fun k o hk _ => (hb.block k (Array.getElem?_eq_some_iff.1 hk).1).trans hk⟩
section
variable {S : SnA} {w0 W wv wv' : World} {Bx : Nat} {hc : Array Value} {o : List Bool} {bh : Bool}
theorem Sr.below (h : Sr S w0 W Bx hc o bh wv) (hb : Below wv.heap.size wv wv') : Sr S w0 W Bx hc o bh wv' :=
  ⟨h.sn.below hb, h.bel.trans (hb.mono h.sn.bel.size), h.ko.trans (keeps_below hb), h.hx.below hb h.hx.lt⟩
theorem Sr.drew (h : Sr S w0 W Bx hc o bh wv) : Sr S w0 W Bx hc o bh wv.drew := h.below ⟨rfl, rfl, rfl, Nat.le_refl _, fun _ _ => rfl⟩
theorem Sr.setO (h : Sr S w0 W Bx hc o bh wv) (k : S.Ok w0) (hB : Bx ≠ S.bo) (i : Nat) (v : Bool) : Sr S w0 W Bx hc (o.set i v) bh (wv.setCell ⟨S.bo, i, none⟩ (.bool v)) :=
  ⟨h.sn.setO k i v, below_set0 h.bel h.sn.bel.size k.lo _ _, h.ko.trans (KeepsOthers.setCell _ _ _), h.hx.far (p := ⟨S.bo, i, none⟩) hB _⟩
theorem Sr.setB (h : Sr S w0 W Bx hc o bh wv) (k : S.Ok w0) (hB : Bx ≠ S.b11) (v : Bool) : Sr S w0 W Bx hc o v (wv.setCell ⟨S.b11, 0, none⟩ (.bool v)) :=
  ⟨h.sn.setB k v, below_set0 h.bel h.sn.bel.size k.l11 _ _, h.ko.trans (KeepsOthers.setCell _ _ _), h.hx.far (p := ⟨S.b11, 0, none⟩) hB _⟩
end
/-- The frame that a round's body begins with. -/
structure AxF (N : Nat) (i : Nat) (Bx b5 b9 b10 b11 : Nat) (a : Act) : Prop where
  df : a.defers = []
  sz : a.tmps.size = 74
  z5 : a.tmps.getD 5 undef = .pointer (some ⟨b5, 0, none⟩)
  z9 : a.tmps.getD 9 undef = .pointer (some ⟨b9, 0, none⟩)
  z10 : a.tmps.getD 10 undef = .pointer (some ⟨b10, 0, none⟩)
  z11 : a.tmps.getD 11 undef = .pointer (some ⟨b11, 0, none⟩)
  z12 : a.tmps.getD 12 undef = .int .i64 (i : Int)
  z13 : a.tmps.getD 13 undef = .pointer (some ⟨Bx, 0, none⟩)
end Go.Proofs.Ytplknfbdonenmaa
