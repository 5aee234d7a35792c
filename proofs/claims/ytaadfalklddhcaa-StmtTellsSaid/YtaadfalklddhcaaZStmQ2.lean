/-
  What a reading closure of a request does: it moves the reader on, and writes into the request.
  Conditions: the reader's bytes lie below a bound; the request's block, the reader and the box that leads to it are apart.
-/
import Derived.Test.YtaadfalklddhcaaZStmQ1
import Derived.Test.YtaadfalklddhcaaZStmW9
import Derived.Test.YtaadfalklddhcaaZItemW6
namespace Go.Proofs.Ytaadfalklddhcaa
open Go.RowKit Go.Sort Go.Lib
set_option linter.unusedVariables false
set_option linter.unusedSimpArgs false
/-- Of the blocks that there were, two alone may have changed. -/
structure Chg (a b : Nat) (w w' : World) : Prop where
  os : w'.os = w.os
  tape : w'.tape = w.tape
  output : w'.output = w.output
  size : w.heap.size ≤ w'.heap.size
  block : ∀ k, k < w.heap.size → k ≠ a → k ≠ b → w'.heap[k]? = w.heap[k]?
theorem Chg.refl (a b : Nat) (w : World) : Chg a b w w := ⟨rfl, rfl, rfl, Nat.le_refl _, fun _ _ _ _ => rfl⟩
theorem Chg.trans {a b : Nat} {w w1 w2 : World} (h : Chg a b w w1) (k : Chg a b w1 w2) : Chg a b w w2 :=
  ⟨k.os.trans h.os, k.tape.trans h.tape, k.output.trans h.output, Nat.le_trans h.size k.size, fun i hi h1 h2 => (k.block i (Nat.lt_of_lt_of_le hi h.size) h1 h2).trans (h.block i hi h1 h2)⟩
theorem Chg.of1 {a b : Nat} {w w' : World} (h : w.grownBy w' (some a)) : Chg a b w w' := ⟨h.os, h.tape, h.output, h.size, fun i hi h1 _ => h.block i hi (by simpa using h1)⟩
theorem Chg.of2 {a b : Nat} {w w' : World} (h : w.grownBy w' (some b)) : Chg a b w w' := ⟨h.os, h.tape, h.output, h.size, fun i hi _ h2 => h.block i hi (by simpa using h2)⟩
theorem Chg.ofB {a b : Nat} {w w' : World} (h : Below w.heap.size w w') : Chg a b w w' := ⟨h.os, h.tape, h.output, h.size, fun i hi _ _ => h.block i hi⟩
theorem Chg.blk {a b g : Nat} {w w' : World} {t : TypeId} {cs : Array Value} (h : Chg a b w w') (hB : Blk w g t cs) (h1 : g ≠ a) (h2 : g ≠ b) : Blk w' g t cs := (h.block g hB.lt h1 h2).trans hB
/-- Which blocks are which. -/
structure Ne (B gr gp gx : Nat) : Prop where
  rp : gr ≠ gp
  rx : gr ≠ gx
  px : gp ≠ gx
  bx : B ≤ gx
structure RdX (B : Nat) (w0 : World) (gr gp gx : Nat) (r : CodeM.Rd) (cs : Array Value) (w : World) : Prop where
  rd : RdIn B 111 w gr r
  p : Blk w gp 55 #[.pointer (some ⟨gr, 0, none⟩)]
  x : Blk w gx 42 cs
  chg : Chg gr gx w0 w
section
variable {B gr gp gx : Nat} {w0 w w' : World} {r r' : CodeM.Rd} {cs : Array Value}
theorem RdX.call (h : RdX B w0 gr gp gx r cs w) (n : Ne B gr gp gx) (hR : RdIn B 111 w' gr r') (hg : w.grownBy w' (some gr)) : RdX B w0 gr gp gx r' cs w' :=
  ⟨hR, h.p.grown hg (by simpa using n.rp.symm), h.x.grown hg (by simpa using n.rx.symm), h.chg.trans (Chg.of1 hg)⟩
theorem RdX.set (h : RdX B w0 gr gp gx r cs w) (n : Ne B gr gp gx) (i : Nat) (v : Value) : RdX B w0 gr gp gx r (cs.setIfInBounds i v) (w.setCell ⟨gx, i, none⟩ v) :=
  ⟨h.rd.above (grownBy_setCell w gx i v) n.rx.symm n.bx, h.p.far (p := ⟨gx, i, none⟩) n.px v, h.x.set_ i v, h.chg.trans (Chg.of2 (grownBy_setCell w gx i v))⟩
theorem RdX.drew (h : RdX B w0 gr gp gx r cs w) : RdX B w0 gr gp gx r cs w.drew := ⟨h.rd, h.p, h.x, h.chg.trans ⟨rfl, rfl, rfl, Nat.le_refl _, fun _ _ _ _ => rfl⟩⟩
theorem RdX.below (h : RdX B w0 gr gp gx r cs w) (hb : Below w.heap.size w w') : RdX B w0 gr gp gx r cs w' :=
  ⟨h.rd.below hb, h.p.below hb h.p.lt, h.x.below hb h.x.lt, h.chg.trans (Chg.ofB hb)⟩
end
/-- A list's memory is at base or above. -/
def Fresh (base : Nat) (A : Option Addr) : Prop := ∀ a, A = some a → base ≤ a.block
theorem Fresh.none {base : Nat} : Fresh base none := nofun
theorem fresh_own {w : World} {base : Nat} {e : TypeId} {size n c m : Nat} {A : Option Addr} {xs : List Value} (h : w.ownsRow base e size (.slice A n c) m xs) : Fresh base A := by
  intro a ha
  rcases h.2 with ⟨hv, _⟩ | ⟨g', cap, cur, hv, hb, _⟩
  · injection hv with e1; rw [e1] at ha; cases ha
  · injection hv with e1; rw [e1] at ha; injection ha with ha; rw [← ha]; exact hb
theorem own_cap {w : World} {base : Nat} {e : TypeId} {size n c m : Nat} {A : Option Addr} {xs : List Value} (h : w.ownsRow base e size (.slice A n c) m xs) : m ≤ c ∧ c ≤ maxLen ∨ (A = none ∧ n = 0 ∧ c = 0) := by
  rcases h.2 with ⟨hv, _⟩ | ⟨g', cap, cur, hv, hb, hg, hnc, hcm, _⟩
  · injection hv with e1 e2 e3; exact .inr ⟨e1, e2, e3⟩
  · injection hv with e1 e2 e3; subst e3; exact .inl ⟨hnc, hcm⟩
/-- The request's lists are new memory. -/
structure Rqv.Fr (s : Rqv) (base : Nat) : Prop where
  f1 : Fresh base s.A
  f2 : Fresh base s.A2
  f3 : Fresh base s.QA
  f4 : Fresh base s.FA
/-- What the closure leaves: the request with what was read. -/
def RdEnd (B : Nat) (gr gp gx : Nat) (x : Rq) (w : World) (e : Ending) (w' : World) : Prop := ∃ s : Rqv, e = .returned (.tuple #[]) ∧ s.x = x ∧ Blk w' gx 42 s.cells ∧ s.At w' ∧ s.Fr w.heap.size ∧ Chg gr gx w w'
/-- The empty request of a kind. -/
def nilC (k : Int) : Array Value := #[.int .i64 k, .int .u64 0, .slice none 0 0, .slice none 0 0, .int .u64 0, .int .u64 0, .int .i64 0, .slice none 0 0, .slice none 0 0, .int .i64 0]
theorem int_u8 {n : Nat} (h : n < 256) : IntKind.i64.wrap (n : Int) = (n : Int) := by rw [IntKind.wrap_i64]; omega
theorem s8_wrap {n : Nat} (h : n < 256) : IntKind.i8.wrap (n : Int) = StmM.s8 n := by
  unfold StmM.s8 IntKind.wrap
  simp only [IntKind.bits, IntKind.signed]
  repeat' split
  all_goals first | omega | (simp at *; omega)
theorem s8_wrap2 {n : Nat} (h : n < 256) : IntKind.i64.wrap (StmM.s8 n) = StmM.s8 n := by
  have := StmM.s8_range h
  rw [IntKind.wrap_i64]; omega
def rq5Y (k : Int) (v1 v2 v3 : Nat) (b0 b1 b2 : Bool) : Array Value := #[.int .i64 k, .int .u64 0, .slice none 0 0, .slice none 0 0, (bif b0 then (.int .u64 (v1 : Int)) else .int .u64 0), (bif b1 then (.int .u64 (v2 : Int)) else .int .u64 0), (bif b2 then (.int .i64 (v3 : Int)) else .int .i64 0), .slice none 0 0, .slice none 0 0, .int .i64 0]
def rq5P (gr gx : Nat) (k : Int) (v1 v2 v3 : Nat) : List (Nat × Nat × Value) := [(0, 2, (.pointer (some ⟨gr, 0, none⟩))), (1, 3, (.int .u64 (v1 : Int))), (2, 4, (.pointer (some ⟨gr, 0, none⟩))), (3, 5, (.int .u64 (v2 : Int))), (4, 6, (.pointer (some ⟨gr, 0, none⟩))), (5, 7, (.int .u8 (v3 : Int))), (6, 8, (.int .i64 (v3 : Int))), (7, 9, (.pointer (some ⟨gx, 4, none⟩))), (9, 10, (.pointer (some ⟨gx, 5, none⟩))), (11, 11, (.pointer (some ⟨gx, 6, none⟩)))]
def rq10Y (k : Int) (v1 v2 : Nat) (b0 b1 : Bool) : Array Value := #[.int .i64 k, (bif b0 then (.int .u64 (v1 : Int)) else .int .u64 0), .slice none 0 0, .slice none 0 0, .int .u64 0, .int .u64 0, .int .i64 0, .slice none 0 0, .slice none 0 0, (bif b1 then (.int .i64 (StmM.s8 v2)) else .int .i64 0)]
def rq10P (gr gx : Nat) (k : Int) (v1 v2 : Nat) : List (Nat × Nat × Value) := [(0, 2, (.pointer (some ⟨gr, 0, none⟩))), (1, 3, (.int .u64 (v1 : Int))), (2, 4, (.pointer (some ⟨gr, 0, none⟩))), (3, 5, (.int .u8 (v2 : Int))), (4, 6, (.int .i8 (StmM.s8 v2))), (5, 7, (.int .i64 (StmM.s8 v2))), (6, 8, (.pointer (some ⟨gx, 1, none⟩))), (7, 9, (.pointer (some ⟨gx, 1, none⟩))), (9, 10, (.pointer (some ⟨gx, 9, none⟩)))]
def rq11Y (k : Int) (v1 v2 : Nat) (b0 b1 : Bool) : Array Value := #[.int .i64 k, .int .u64 0, .slice none 0 0, .slice none 0 0, .int .u64 0, .int .u64 0, (bif b0 then (.int .i64 (v1 : Int)) else .int .i64 0), .slice none 0 0, .slice none 0 0, (bif b1 then (.int .i64 (StmM.s8 v2)) else .int .i64 0)]
def rq11P (gr gx : Nat) (k : Int) (v1 v2 : Nat) : List (Nat × Nat × Value) := [(0, 2, (.pointer (some ⟨gr, 0, none⟩))), (1, 3, (.int .u8 (v1 : Int))), (2, 4, (.int .i64 (v1 : Int))), (3, 5, (.pointer (some ⟨gr, 0, none⟩))), (4, 6, (.int .u8 (v2 : Int))), (5, 7, (.int .i8 (StmM.s8 v2))), (6, 8, (.int .i64 (StmM.s8 v2))), (7, 9, (.pointer (some ⟨gx, 6, none⟩))), (9, 10, (.pointer (some ⟨gx, 9, none⟩)))]
set_option maxRecDepth 100000 in
set_option maxHeartbeats 8000000 in
theorem rdask3 {B : Nat} (gr gp gx : Nat) (k : Int) (r : CodeM.Rd) (w : World) (hX : RdX B w gr gp gx r (nilC k) w) (hn : Ne B gr gp gx) (hB : B ≤ w.heap.size) (hk : -9223372036854775808 ≤ k ∧ k < 9223372036854775808) :
    Calls Try.prog 63 #[.pointer (some ⟨gp, 0, none⟩), .pointer (some ⟨gx, 0, none⟩)] w (RdEnd B gr gp gx ⟨k, StmM.no, (r.fixed 8).1, 0, 0, [], [], 0⟩ w) := by
  obtain ⟨p1, hp1⟩ : ∃ p, r.fixed 8 = p := ⟨_, rfl⟩
  obtain ⟨v1, r1⟩ := p1
  have hv1 : v1 < 18446744073709551616 := by have := StmM.fixed_lt8 r; rw [hp1] at this; exact this
  have HP1 := Lib.hid hp1
  have HV1 := Lib.hid hv1
  clear hp1 hv1
  have HNE := Lib.hid hn
  have HK := Lib.hid hk
  have HC := Lib.hid (u64I_any gr r w hX.rd)
  rw [HP1.out] at HC
  have HX := Lib.hid hX
  have cp := hX.p.cell 0
  simp only [List.getElem?_toArray, List.getElem?_cons_zero] at cp
  clear hX hn hk
  rw [HP1.out]
  go_enter Try.func63, Try.ntmps63
  go_wp2_with fail
  refine HC.out.mono ?_
  rintro e w1 ⟨rfl, hR, hg⟩
  have hX1 := HX.out.call HNE.out hR hg
  have fz := hX1.x.frozen 4
  have HY := Lib.hid (hX1.set HNE.out 4 (.int .u64 (v1 : Int)))
  have cz := hX1.x.cell 4
  simp only [nilC, List.getElem?_toArray, List.getElem?_cons_zero, List.getElem?_cons_succ] at cz
  clear hX1 hR hg cp HC
  go_wp2
  go_end0
  exact ⟨⟨⟨k, StmM.no, v1, 0, 0, [], [], 0⟩, none, 0, none, 0, none, 0, none, 0⟩, rfl, rfl, HY.out.x, ⟨.inl rfl, .inl rfl, .inl rfl, .inl rfl, ⟨HK.out, StmM.no_ok, HV1.out, by simp, by simp, (fun v hv => by cases hv), (fun v hv => by cases hv), by simp⟩, Nat.le_refl _, Nat.le_refl _, Nat.le_refl _, Nat.le_refl _, Nat.zero_le _, Nat.zero_le _, Nat.zero_le _, Nat.zero_le _⟩, ⟨Fresh.none, Fresh.none, Fresh.none, Fresh.none⟩, HY.out.chg⟩
set_option maxRecDepth 100000 in
set_option maxHeartbeats 8000000 in
theorem rdask4 {B : Nat} (gr gp gx : Nat) (k : Int) (r : CodeM.Rd) (w : World) (hX : RdX B w gr gp gx r (nilC k) w) (hn : Ne B gr gp gx) (hB : B ≤ w.heap.size) (hk : -9223372036854775808 ≤ k ∧ k < 9223372036854775808) :
    Calls Try.prog 64 #[.pointer (some ⟨gp, 0, none⟩), .pointer (some ⟨gx, 0, none⟩)] w (RdEnd B gr gp gx ⟨k, StmM.no, (r.fixed 8).1, 0, 0, [], [], 0⟩ w) := by
  obtain ⟨p1, hp1⟩ : ∃ p, r.fixed 8 = p := ⟨_, rfl⟩
  obtain ⟨v1, r1⟩ := p1
  have hv1 : v1 < 18446744073709551616 := by have := StmM.fixed_lt8 r; rw [hp1] at this; exact this
  have HP1 := Lib.hid hp1
  have HV1 := Lib.hid hv1
  clear hp1 hv1
  have HNE := Lib.hid hn
  have HK := Lib.hid hk
  have HC := Lib.hid (u64I_any gr r w hX.rd)
  rw [HP1.out] at HC
  have HX := Lib.hid hX
  have cp := hX.p.cell 0
  simp only [List.getElem?_toArray, List.getElem?_cons_zero] at cp
  clear hX hn hk
  rw [HP1.out]
  go_enter Try.func64, Try.ntmps64
  go_wp2_with fail
  refine HC.out.mono ?_
  rintro e w1 ⟨rfl, hR, hg⟩
  have hX1 := HX.out.call HNE.out hR hg
  have fz := hX1.x.frozen 4
  have HY := Lib.hid (hX1.set HNE.out 4 (.int .u64 (v1 : Int)))
  have cz := hX1.x.cell 4
  simp only [nilC, List.getElem?_toArray, List.getElem?_cons_zero, List.getElem?_cons_succ] at cz
  clear hX1 hR hg cp HC
  go_wp2
  go_end0
  exact ⟨⟨⟨k, StmM.no, v1, 0, 0, [], [], 0⟩, none, 0, none, 0, none, 0, none, 0⟩, rfl, rfl, HY.out.x, ⟨.inl rfl, .inl rfl, .inl rfl, .inl rfl, ⟨HK.out, StmM.no_ok, HV1.out, by simp, by simp, (fun v hv => by cases hv), (fun v hv => by cases hv), by simp⟩, Nat.le_refl _, Nat.le_refl _, Nat.le_refl _, Nat.le_refl _, Nat.zero_le _, Nat.zero_le _, Nat.zero_le _, Nat.zero_le _⟩, ⟨Fresh.none, Fresh.none, Fresh.none, Fresh.none⟩, HY.out.chg⟩
set_option maxRecDepth 100000 in
set_option maxHeartbeats 8000000 in
theorem rdask5 {B : Nat} (gr gp gx : Nat) (k : Int) (r : CodeM.Rd) (w : World) (hX : RdX B w gr gp gx r (nilC k) w) (hn : Ne B gr gp gx) (hB : B ≤ w.heap.size) (hk : -9223372036854775808 ≤ k ∧ k < 9223372036854775808) :
    Calls Try.prog 65 #[.pointer (some ⟨gp, 0, none⟩), .pointer (some ⟨gx, 0, none⟩)] w (RdEnd B gr gp gx ⟨k, StmM.no, (r.fixed 8).1, ((r.fixed 8).2.fixed 8).1, (((r.fixed 8).2.fixed 8).2.fixed 1).1, [], [], 0⟩ w) := by
  obtain ⟨p1, hp1⟩ : ∃ p, r.fixed 8 = p := ⟨_, rfl⟩
  obtain ⟨v1, r1⟩ := p1
  have hv1 : v1 < 18446744073709551616 := by have := StmM.fixed_lt8 r; rw [hp1] at this; exact this
  obtain ⟨p2, hp2⟩ : ∃ p, r1.fixed 8 = p := ⟨_, rfl⟩
  obtain ⟨v2, r2⟩ := p2
  have hv2 : v2 < 18446744073709551616 := by have := StmM.fixed_lt8 r1; rw [hp2] at this; exact this
  obtain ⟨p3, hp3⟩ : ∃ p, r2.fixed 1 = p := ⟨_, rfl⟩
  obtain ⟨v3, r3⟩ := p3
  have hv3 : v3 < 256 := by have := StmM.fixed_lt1 r2; rw [hp3] at this; exact this
  have HP1 := Lib.hid hp1
  have HV1 := Lib.hid hv1
  have HP2 := Lib.hid hp2
  have HV2 := Lib.hid hv2
  have HP3 := Lib.hid hp3
  have HV3 := Lib.hid hv3
  clear hp1 hv1 hp2 hv2 hp3 hv3
  have HNE := Lib.hid hn
  have HK := Lib.hid hk
  have HBW := Lib.hid hB
  have HX := Lib.hid hX
  have cw3 := int_u8 HV3.out
  simp only [HP1.out, HP2.out, HP3.out]
  clear hn hk hB
  go_enter Try.func65, Try.ntmps65
  go_upto_region 0 with fail
  refine wp_named fun a0 ha0 => ?_
  have z0 : a0.tmps.getD 0 undef = (.pointer (some ⟨gp, 0, none⟩)) := by rw [ha0.out]; rfl
  have z1 : a0.tmps.getD 1 undef = (.pointer (some ⟨gx, 0, none⟩)) := by rw [ha0.out]; rfl
  have hsz0 : a0.tmps.size = 12 := by rw [ha0.out]; rfl
  refine wp_region_invB _ (by kernel_rfl) (fun L a wv => PIF a0 [2, 3, 4, 5, 6, 7, 8, 9, 10, 11] (rq5P gr gx k v1 v2 v3) L a ∧ RdX B w gr gp gx (bif L 5 then r3 else (bif L 3 then r2 else (bif L 1 then r1 else r))) (rq5Y k v1 v2 v3 (L 8) (L 10) (L 12)) wv ∧ (L 3 = true → L 1 = true) ∧ (L 5 = true → L 3 = true)) (by kernel_rfl) ?_ ?_ ?_
  · exact ⟨PIF.start _ _ _, ⟨hX.drew, nofun, nofun⟩⟩
  rotate_left
  · as_aux_lemma =>
    refine ⟨?_, ?_, ?_, ?_, ?_, ?_, ?_, ?_, ?_, ?_, ?_, ?_, ?_, trivial⟩
    · intro L a w1 hI hi hd
      obtain ⟨hp, hw⟩ := hI
      have t0 := hp.at_ 0 _ rfl z0
      have t0' := t0
      rw [Array.getD_eq_getD_getElem?] at t0'
      have cp := hw.1.p.cell 0
      simp only [List.getElem?_toArray, List.getElem?_cons_zero] at cp
      exact rstep_valW (wanted_none rfl _) (.pointer (some ⟨gr, 0, none⟩)) w1 (by go_simp) ⟨(hp.put 0 2 (.pointer (some ⟨gr, 0, none⟩)) (by simp [rq5P]) (by simp [rq5P]) rfl (by rw [hsz0]; exact (by decide : 2 < 12))), by rw [upd_ne L (show (1 : Nat) ≠ 0 by decide), upd_ne L (show (3 : Nat) ≠ 0 by decide), upd_ne L (show (5 : Nat) ≠ 0 by decide), upd_ne L (show (8 : Nat) ≠ 0 by decide), upd_ne L (show (10 : Nat) ≠ 0 by decide), upd_ne L (show (12 : Nat) ≠ 0 by decide)]; exact hw⟩
    · intro L a w1 hI hi hd
      obtain ⟨hp, hw⟩ := hI
      simp [Region.binds] at hd
      have e0 : a.tmps.getD 2 undef = (.pointer (some ⟨gr, 0, none⟩)) := hp.pu (0, 2, (.pointer (some ⟨gr, 0, none⟩))) (by simp [rq5P]) (by simp [hd])
      have f0 : a.tmps[2]?.getD undef = (.pointer (some ⟨gr, 0, none⟩)) := by rw [← Array.getD_eq_getD_getElem?]; exact e0
      have hi : L 1 = false := hi
      have n3 : L 3 = false := by
        cases q : L 3 with
        | false => rfl
        | true => rw [hw.2.1 q] at hi; cases hi
      have n5 : L 5 = false := by
        cases q : L 5 with
        | false => rfl
        | true => rw [hw.2.2 q] at n3; cases n3
      have hR := hw.1.rd
      rw [n5, n3, hi] at hR
      have HC := u64I_any gr r w1 hR
      rw [HP1.out] at HC
      refine rstep_callW (wanted_none rfl _) 37 #[(.pointer (some ⟨gr, 0, none⟩))] (by go_simp) ?_
      refine (HC).mono ?_
      rintro e w2 ⟨rfl, hR2, hg2⟩
      exact ⟨(hp.put 1 3 (.int .u64 (v1 : Int)) (by simp [rq5P]) (by simp [rq5P]) rfl (by rw [hsz0]; exact (by decide : 3 < 12))), (by rw [upd_eq, upd_ne L (show (3 : Nat) ≠ 1 by decide), upd_ne L (show (5 : Nat) ≠ 1 by decide), upd_ne L (show (8 : Nat) ≠ 1 by decide), upd_ne L (show (10 : Nat) ≠ 1 by decide), upd_ne L (show (12 : Nat) ≠ 1 by decide)]; rw [n5, n3]; exact ⟨(hw.1.call HNE.out hR2 hg2), (fun _ => rfl), (fun q => by cases q)⟩)⟩
    · intro L a w1 hI hi hd
      obtain ⟨hp, hw⟩ := hI
      have t0 := hp.at_ 0 _ rfl z0
      have t0' := t0
      rw [Array.getD_eq_getD_getElem?] at t0'
      have cp := hw.1.p.cell 0
      simp only [List.getElem?_toArray, List.getElem?_cons_zero] at cp
      exact rstep_valW (wanted_none rfl _) (.pointer (some ⟨gr, 0, none⟩)) w1 (by go_simp) ⟨(hp.put 2 4 (.pointer (some ⟨gr, 0, none⟩)) (by simp [rq5P]) (by simp [rq5P]) rfl (by rw [hsz0]; exact (by decide : 4 < 12))), by rw [upd_ne L (show (1 : Nat) ≠ 2 by decide), upd_ne L (show (3 : Nat) ≠ 2 by decide), upd_ne L (show (5 : Nat) ≠ 2 by decide), upd_ne L (show (8 : Nat) ≠ 2 by decide), upd_ne L (show (10 : Nat) ≠ 2 by decide), upd_ne L (show (12 : Nat) ≠ 2 by decide)]; exact hw⟩
    · intro L a w1 hI hi hd
      obtain ⟨hp, hw⟩ := hI
      simp [Region.binds] at hd
      have e2 : a.tmps.getD 4 undef = (.pointer (some ⟨gr, 0, none⟩)) := hp.pu (2, 4, (.pointer (some ⟨gr, 0, none⟩))) (by simp [rq5P]) (by simp [hd])
      have f2 : a.tmps[4]?.getD undef = (.pointer (some ⟨gr, 0, none⟩)) := by rw [← Array.getD_eq_getD_getElem?]; exact e2
      have hi : L 3 = false := hi
      have n5 : L 5 = false := by
        cases q : L 5 with
        | false => rfl
        | true => rw [hw.2.2 q] at hi; cases hi
      have hR := hw.1.rd
      have y1 : L 1 = true := by simp [hd]
      rw [n5, hi, y1] at hR
      have HC := u64I_any gr r1 w1 hR
      rw [HP2.out] at HC
      refine rstep_callW (wanted_none rfl _) 37 #[(.pointer (some ⟨gr, 0, none⟩))] (by go_simp) ?_
      refine (HC).mono ?_
      rintro e w2 ⟨rfl, hR2, hg2⟩
      exact ⟨(hp.put 3 5 (.int .u64 (v2 : Int)) (by simp [rq5P]) (by simp [rq5P]) rfl (by rw [hsz0]; exact (by decide : 5 < 12))), (by rw [upd_ne L (show (1 : Nat) ≠ 3 by decide), upd_eq, upd_ne L (show (5 : Nat) ≠ 3 by decide), upd_ne L (show (8 : Nat) ≠ 3 by decide), upd_ne L (show (10 : Nat) ≠ 3 by decide), upd_ne L (show (12 : Nat) ≠ 3 by decide)]; rw [n5]; exact ⟨(hw.1.call HNE.out hR2 hg2), (fun _ => y1), (fun _ => rfl)⟩)⟩
    · intro L a w1 hI hi hd
      obtain ⟨hp, hw⟩ := hI
      have t0 := hp.at_ 0 _ rfl z0
      have t0' := t0
      rw [Array.getD_eq_getD_getElem?] at t0'
      have cp := hw.1.p.cell 0
      simp only [List.getElem?_toArray, List.getElem?_cons_zero] at cp
      exact rstep_valW (wanted_none rfl _) (.pointer (some ⟨gr, 0, none⟩)) w1 (by go_simp) ⟨(hp.put 4 6 (.pointer (some ⟨gr, 0, none⟩)) (by simp [rq5P]) (by simp [rq5P]) rfl (by rw [hsz0]; exact (by decide : 6 < 12))), by rw [upd_ne L (show (1 : Nat) ≠ 4 by decide), upd_ne L (show (3 : Nat) ≠ 4 by decide), upd_ne L (show (5 : Nat) ≠ 4 by decide), upd_ne L (show (8 : Nat) ≠ 4 by decide), upd_ne L (show (10 : Nat) ≠ 4 by decide), upd_ne L (show (12 : Nat) ≠ 4 by decide)]; exact hw⟩
    · intro L a w1 hI hi hd
      obtain ⟨hp, hw⟩ := hI
      simp [Region.binds] at hd
      have e4 : a.tmps.getD 6 undef = (.pointer (some ⟨gr, 0, none⟩)) := hp.pu (4, 6, (.pointer (some ⟨gr, 0, none⟩))) (by simp [rq5P]) (by simp [hd])
      have f4 : a.tmps[6]?.getD undef = (.pointer (some ⟨gr, 0, none⟩)) := by rw [← Array.getD_eq_getD_getElem?]; exact e4
      have hi : L 5 = false := hi
      have hR := hw.1.rd
      have y3 : L 3 = true := by simp [hd]
      rw [hi, y3] at hR
      have HC := u8I_any gr r2 w1 hR
      rw [HP3.out] at HC
      refine rstep_callW (wanted_none rfl _) 29 #[(.pointer (some ⟨gr, 0, none⟩))] (by go_simp) ?_
      refine (HC).mono ?_
      rintro e w2 ⟨rfl, hR2, hg2⟩
      exact ⟨(hp.put 5 7 (.int .u8 (v3 : Int)) (by simp [rq5P]) (by simp [rq5P]) rfl (by rw [hsz0]; exact (by decide : 7 < 12))), (by rw [upd_ne L (show (1 : Nat) ≠ 5 by decide), upd_ne L (show (3 : Nat) ≠ 5 by decide), upd_eq, upd_ne L (show (8 : Nat) ≠ 5 by decide), upd_ne L (show (10 : Nat) ≠ 5 by decide), upd_ne L (show (12 : Nat) ≠ 5 by decide)]; exact ⟨(hw.1.call HNE.out hR2 hg2), hw.2.1, (fun _ => y3)⟩)⟩
    · intro L a w1 hI hi hd
      obtain ⟨hp, hw⟩ := hI
      simp [Region.binds] at hd
      have e5 : a.tmps.getD 7 undef = (.int .u8 (v3 : Int)) := hp.pu (5, 7, (.int .u8 (v3 : Int))) (by simp [rq5P]) (by simp [hd])
      have f5 : a.tmps[7]?.getD undef = (.int .u8 (v3 : Int)) := by rw [← Array.getD_eq_getD_getElem?]; exact e5
      exact rstep_valW (wanted_none rfl _) (.int .i64 (v3 : Int)) w1 (by go_simp) ⟨(hp.put 6 8 (.int .i64 (v3 : Int)) (by simp [rq5P]) (by simp [rq5P]) rfl (by rw [hsz0]; exact (by decide : 8 < 12))), by rw [upd_ne L (show (1 : Nat) ≠ 6 by decide), upd_ne L (show (3 : Nat) ≠ 6 by decide), upd_ne L (show (5 : Nat) ≠ 6 by decide), upd_ne L (show (8 : Nat) ≠ 6 by decide), upd_ne L (show (10 : Nat) ≠ 6 by decide), upd_ne L (show (12 : Nat) ≠ 6 by decide)]; exact hw⟩
    · intro L a w1 hI hi hd
      obtain ⟨hp, hw⟩ := hI
      have t1 := hp.at_ 1 _ rfl z1
      have t1' := t1
      rw [Array.getD_eq_getD_getElem?] at t1'
      exact rstep_valW (wanted_none rfl _) (.pointer (some ⟨gx, 4, none⟩)) w1 (by go_simp) ⟨(hp.put 7 9 (.pointer (some ⟨gx, 4, none⟩)) (by simp [rq5P]) (by simp [rq5P]) rfl (by rw [hsz0]; exact (by decide : 9 < 12))), by rw [upd_ne L (show (1 : Nat) ≠ 7 by decide), upd_ne L (show (3 : Nat) ≠ 7 by decide), upd_ne L (show (5 : Nat) ≠ 7 by decide), upd_ne L (show (8 : Nat) ≠ 7 by decide), upd_ne L (show (10 : Nat) ≠ 7 by decide), upd_ne L (show (12 : Nat) ≠ 7 by decide)]; exact hw⟩
    · intro L a w1 hI hi hd
      obtain ⟨hp, hw⟩ := hI
      simp [Region.binds] at hd
      have e1 : a.tmps.getD 3 undef = (.int .u64 (v1 : Int)) := hp.pu (1, 3, (.int .u64 (v1 : Int))) (by simp [rq5P]) (by simp [hd])
      have f1 : a.tmps[3]?.getD undef = (.int .u64 (v1 : Int)) := by rw [← Array.getD_eq_getD_getElem?]; exact e1
      have e7 : a.tmps.getD 9 undef = (.pointer (some ⟨gx, 4, none⟩)) := hp.pu (7, 9, (.pointer (some ⟨gx, 4, none⟩))) (by simp [rq5P]) (by simp [hd])
      have f7 : a.tmps[9]?.getD undef = (.pointer (some ⟨gx, 4, none⟩)) := by rw [← Array.getD_eq_getD_getElem?]; exact e7
      have fz := hw.1.x.frozen 4
      have cz := hw.1.x.cell 4
      simp only [rq5Y, List.getElem?_toArray, List.getElem?_cons_zero, List.getElem?_cons_succ] at cz
      have hset := hw.1.set HNE.out 4 (.int .u64 (v1 : Int))
      exact rstep_skip rfl (w1.setCell ⟨gx, 4, none⟩ (.int .u64 (v1 : Int))) (by go_simp) ⟨(hp.skip 8 undef (by simp [rq5P])), by rw [upd_ne L (show (1 : Nat) ≠ 8 by decide), upd_ne L (show (3 : Nat) ≠ 8 by decide), upd_ne L (show (5 : Nat) ≠ 8 by decide), upd_eq, upd_ne L (show (10 : Nat) ≠ 8 by decide), upd_ne L (show (12 : Nat) ≠ 8 by decide)]; exact ⟨hset, hw.2⟩⟩
    · intro L a w1 hI hi hd
      obtain ⟨hp, hw⟩ := hI
      have t1 := hp.at_ 1 _ rfl z1
      have t1' := t1
      rw [Array.getD_eq_getD_getElem?] at t1'
      exact rstep_valW (wanted_none rfl _) (.pointer (some ⟨gx, 5, none⟩)) w1 (by go_simp) ⟨(hp.put 9 10 (.pointer (some ⟨gx, 5, none⟩)) (by simp [rq5P]) (by simp [rq5P]) rfl (by rw [hsz0]; exact (by decide : 10 < 12))), by rw [upd_ne L (show (1 : Nat) ≠ 9 by decide), upd_ne L (show (3 : Nat) ≠ 9 by decide), upd_ne L (show (5 : Nat) ≠ 9 by decide), upd_ne L (show (8 : Nat) ≠ 9 by decide), upd_ne L (show (10 : Nat) ≠ 9 by decide), upd_ne L (show (12 : Nat) ≠ 9 by decide)]; exact hw⟩
    · intro L a w1 hI hi hd
      obtain ⟨hp, hw⟩ := hI
      simp [Region.binds] at hd
      have e3 : a.tmps.getD 5 undef = (.int .u64 (v2 : Int)) := hp.pu (3, 5, (.int .u64 (v2 : Int))) (by simp [rq5P]) (by simp [hd])
      have f3 : a.tmps[5]?.getD undef = (.int .u64 (v2 : Int)) := by rw [← Array.getD_eq_getD_getElem?]; exact e3
      have e9 : a.tmps.getD 10 undef = (.pointer (some ⟨gx, 5, none⟩)) := hp.pu (9, 10, (.pointer (some ⟨gx, 5, none⟩))) (by simp [rq5P]) (by simp [hd])
      have f9 : a.tmps[10]?.getD undef = (.pointer (some ⟨gx, 5, none⟩)) := by rw [← Array.getD_eq_getD_getElem?]; exact e9
      have fz := hw.1.x.frozen 5
      have cz := hw.1.x.cell 5
      simp only [rq5Y, List.getElem?_toArray, List.getElem?_cons_zero, List.getElem?_cons_succ] at cz
      have hset := hw.1.set HNE.out 5 (.int .u64 (v2 : Int))
      exact rstep_skip rfl (w1.setCell ⟨gx, 5, none⟩ (.int .u64 (v2 : Int))) (by go_simp) ⟨(hp.skip 10 undef (by simp [rq5P])), by rw [upd_ne L (show (1 : Nat) ≠ 10 by decide), upd_ne L (show (3 : Nat) ≠ 10 by decide), upd_ne L (show (5 : Nat) ≠ 10 by decide), upd_ne L (show (8 : Nat) ≠ 10 by decide), upd_eq, upd_ne L (show (12 : Nat) ≠ 10 by decide)]; exact ⟨hset, hw.2⟩⟩
    · intro L a w1 hI hi hd
      obtain ⟨hp, hw⟩ := hI
      have t1 := hp.at_ 1 _ rfl z1
      have t1' := t1
      rw [Array.getD_eq_getD_getElem?] at t1'
      exact rstep_valW (wanted_none rfl _) (.pointer (some ⟨gx, 6, none⟩)) w1 (by go_simp) ⟨(hp.put 11 11 (.pointer (some ⟨gx, 6, none⟩)) (by simp [rq5P]) (by simp [rq5P]) rfl (by rw [hsz0]; exact (by decide : 11 < 12))), by rw [upd_ne L (show (1 : Nat) ≠ 11 by decide), upd_ne L (show (3 : Nat) ≠ 11 by decide), upd_ne L (show (5 : Nat) ≠ 11 by decide), upd_ne L (show (8 : Nat) ≠ 11 by decide), upd_ne L (show (10 : Nat) ≠ 11 by decide), upd_ne L (show (12 : Nat) ≠ 11 by decide)]; exact hw⟩
    · intro L a w1 hI hi hd
      obtain ⟨hp, hw⟩ := hI
      simp [Region.binds] at hd
      have e6 : a.tmps.getD 8 undef = (.int .i64 (v3 : Int)) := hp.pu (6, 8, (.int .i64 (v3 : Int))) (by simp [rq5P]) (by simp [hd])
      have f6 : a.tmps[8]?.getD undef = (.int .i64 (v3 : Int)) := by rw [← Array.getD_eq_getD_getElem?]; exact e6
      have e11 : a.tmps.getD 11 undef = (.pointer (some ⟨gx, 6, none⟩)) := hp.pu (11, 11, (.pointer (some ⟨gx, 6, none⟩))) (by simp [rq5P]) (by simp [hd])
      have f11 : a.tmps[11]?.getD undef = (.pointer (some ⟨gx, 6, none⟩)) := by rw [← Array.getD_eq_getD_getElem?]; exact e11
      have fz := hw.1.x.frozen 6
      have cz := hw.1.x.cell 6
      simp only [rq5Y, List.getElem?_toArray, List.getElem?_cons_zero, List.getElem?_cons_succ] at cz
      have hset := hw.1.set HNE.out 6 (.int .i64 (v3 : Int))
      exact rstep_skip rfl (w1.setCell ⟨gx, 6, none⟩ (.int .i64 (v3 : Int))) (by go_simp) ⟨(hp.skip 12 undef (by simp [rq5P])), by rw [upd_ne L (show (1 : Nat) ≠ 12 by decide), upd_ne L (show (3 : Nat) ≠ 12 by decide), upd_ne L (show (5 : Nat) ≠ 12 by decide), upd_ne L (show (8 : Nat) ≠ 12 by decide), upd_ne L (show (10 : Nat) ≠ 12 by decide), upd_eq]; exact ⟨hset, hw.2⟩⟩
  rintro L a W0 ⟨hp, hw⟩ hL
  rw [hL 1 (by simp), hL 3 (by simp), hL 5 (by simp), hL 8 (by simp), hL 10 (by simp), hL 12 (by simp)] at hw
  have HW : Hid (RdX B w gr gp gx r3 #[.int .i64 k, .int .u64 0, .slice none 0 0, .slice none 0 0, (.int .u64 (v1 : Int)), (.int .u64 (v2 : Int)), (.int .i64 (v3 : Int)), .slice none 0 0, .slice none 0 0, .int .i64 0] W0) := Lib.hid hw.1
  clear hw
  rw [hp.eq]
  refine of_assigns (P := Try.prog) _ _ _ _ ?_
  rw [ha0.out]
  simp only [asgs, List.map]
  generalize a.tmps.getD 2 undef = u2
  generalize a.tmps.getD 3 undef = u3
  generalize a.tmps.getD 4 undef = u4
  generalize a.tmps.getD 5 undef = u5
  generalize a.tmps.getD 6 undef = u6
  generalize a.tmps.getD 7 undef = u7
  generalize a.tmps.getD 8 undef = u8
  generalize a.tmps.getD 9 undef = u9
  generalize a.tmps.getD 10 undef = u10
  generalize a.tmps.getD 11 undef = u11
  clear hp hL hsz0  z0 z1
  clear ha0
  go_wp2
  go_end0
  exact ⟨⟨⟨k, StmM.no, v1, v2, (v3 : Int), [], [], 0⟩, none, 0, none, 0, none, 0, none, 0⟩, rfl, rfl, HW.out.x, ⟨.inl rfl, .inl rfl, .inl rfl, .inl rfl, ⟨HK.out, StmM.no_ok, HV1.out, HV2.out, (by have := HV3.out; constructor <;> dsimp only <;> omega), (fun v hv => by cases hv), (fun v hv => by cases hv), by simp⟩, Nat.le_refl _, Nat.le_refl _, Nat.le_refl _, Nat.le_refl _, Nat.zero_le _, Nat.zero_le _, Nat.zero_le _, Nat.zero_le _⟩, ⟨Fresh.none, Fresh.none, Fresh.none, Fresh.none⟩, HW.out.chg⟩
set_option maxRecDepth 100000 in
set_option maxHeartbeats 8000000 in
theorem rdask10 {B : Nat} (gr gp gx : Nat) (k : Int) (r : CodeM.Rd) (w : World) (hX : RdX B w gr gp gx r (nilC k) w) (hn : Ne B gr gp gx) (hB : B ≤ w.heap.size) (hk : -9223372036854775808 ≤ k ∧ k < 9223372036854775808) :
    Calls Try.prog 70 #[.pointer (some ⟨gp, 0, none⟩), .pointer (some ⟨gx, 0, none⟩)] w (RdEnd B gr gp gx ⟨k, ⟨(r.fixed 8).1, [], ((StmM.listC 8 4096 StmM.fls ((r.fixed 8).2.fixed 1).2).2.text 1024).1⟩, 0, 0, 0, [], (StmM.listC 8 4096 StmM.fls ((r.fixed 8).2.fixed 1).2).1, StmM.s8 ((r.fixed 8).2.fixed 1).1⟩ w) := by
  obtain ⟨p1, hp1⟩ : ∃ p, r.fixed 8 = p := ⟨_, rfl⟩
  obtain ⟨v1, r1⟩ := p1
  have hv1 : v1 < 18446744073709551616 := by have := StmM.fixed_lt8 r; rw [hp1] at this; exact this
  obtain ⟨p2, hp2⟩ : ∃ p, r1.fixed 1 = p := ⟨_, rfl⟩
  obtain ⟨v2, r2⟩ := p2
  have hv2 : v2 < 256 := by have := StmM.fixed_lt1 r1; rw [hp2] at this; exact this
  have HP1 := Lib.hid hp1
  have HV1 := Lib.hid hv1
  have HP2 := Lib.hid hp2
  have HV2 := Lib.hid hv2
  clear hp1 hv1 hp2 hv2
  have HNE := Lib.hid hn
  have HK := Lib.hid hk
  have HBW := Lib.hid hB
  have HX := Lib.hid hX
  have cw2 := s8_wrap HV2.out
  have cx2 := s8_wrap2 HV2.out
  simp only [HP1.out, HP2.out]
  obtain ⟨L, hL0⟩ : ∃ L, StmM.listC 8 4096 StmM.fls r2 = L := ⟨_, rfl⟩
  have HLL := Lib.hid hL0
  have HFL := Lib.hid (StmM.listC_flt r2)
  rw [hL0] at HFL
  obtain ⟨tx, htx⟩ : ∃ p, L.2.text 1024 = p := ⟨_, rfl⟩
  have HTX := Lib.hid htx
  simp only [hL0, htx]
  clear htx
  obtain ⟨fl, r3⟩ := L
  clear hL0 hn hk hB
  go_enter Try.func70, Try.ntmps70
  go_upto_region 0 with fail
  refine wp_named fun a0 ha0 => ?_
  have z0 : a0.tmps.getD 0 undef = (.pointer (some ⟨gp, 0, none⟩)) := by rw [ha0.out]; rfl
  have z1 : a0.tmps.getD 1 undef = (.pointer (some ⟨gx, 0, none⟩)) := by rw [ha0.out]; rfl
  have hsz0 : a0.tmps.size = 20 := by rw [ha0.out]; rfl
  refine wp_region_invB _ (by kernel_rfl) (fun L a wv => PIF a0 [2, 3, 4, 5, 6, 7, 8, 9, 10] (rq10P gr gx k v1 v2) L a ∧ RdX B w gr gp gx (bif L 3 then r2 else (bif L 1 then r1 else r)) (rq10Y k v1 v2 (L 8) (L 10)) wv ∧ (L 3 = true → L 1 = true)) (by kernel_rfl) ?_ ?_ ?_
  · exact ⟨PIF.start _ _ _, ⟨hX.drew, nofun⟩⟩
  rotate_left
  · as_aux_lemma =>
    refine ⟨?_, ?_, ?_, ?_, ?_, ?_, ?_, ?_, ?_, ?_, ?_, trivial⟩
    · intro L a w1 hI hi hd
      obtain ⟨hp, hw⟩ := hI
      have t0 := hp.at_ 0 _ rfl z0
      have t0' := t0
      rw [Array.getD_eq_getD_getElem?] at t0'
      have cp := hw.1.p.cell 0
      simp only [List.getElem?_toArray, List.getElem?_cons_zero] at cp
      exact rstep_valW (wanted_none rfl _) (.pointer (some ⟨gr, 0, none⟩)) w1 (by go_simp) ⟨(hp.put 0 2 (.pointer (some ⟨gr, 0, none⟩)) (by simp [rq10P]) (by simp [rq10P]) rfl (by rw [hsz0]; exact (by decide : 2 < 20))), by rw [upd_ne L (show (1 : Nat) ≠ 0 by decide), upd_ne L (show (3 : Nat) ≠ 0 by decide), upd_ne L (show (8 : Nat) ≠ 0 by decide), upd_ne L (show (10 : Nat) ≠ 0 by decide)]; exact hw⟩
    · intro L a w1 hI hi hd
      obtain ⟨hp, hw⟩ := hI
      simp [Region.binds] at hd
      have e0 : a.tmps.getD 2 undef = (.pointer (some ⟨gr, 0, none⟩)) := hp.pu (0, 2, (.pointer (some ⟨gr, 0, none⟩))) (by simp [rq10P]) (by simp [hd])
      have f0 : a.tmps[2]?.getD undef = (.pointer (some ⟨gr, 0, none⟩)) := by rw [← Array.getD_eq_getD_getElem?]; exact e0
      have hi : L 1 = false := hi
      have n3 : L 3 = false := by
        cases q : L 3 with
        | false => rfl
        | true => rw [hw.2 q] at hi; cases hi
      have hR := hw.1.rd
      rw [n3, hi] at hR
      have HC := u64I_any gr r w1 hR
      rw [HP1.out] at HC
      refine rstep_callW (wanted_none rfl _) 37 #[(.pointer (some ⟨gr, 0, none⟩))] (by go_simp) ?_
      refine (HC).mono ?_
      rintro e w2 ⟨rfl, hR2, hg2⟩
      exact ⟨(hp.put 1 3 (.int .u64 (v1 : Int)) (by simp [rq10P]) (by simp [rq10P]) rfl (by rw [hsz0]; exact (by decide : 3 < 20))), (by rw [upd_eq, upd_ne L (show (3 : Nat) ≠ 1 by decide), upd_ne L (show (8 : Nat) ≠ 1 by decide), upd_ne L (show (10 : Nat) ≠ 1 by decide)]; rw [n3]; exact ⟨(hw.1.call HNE.out hR2 hg2), (fun _ => rfl)⟩)⟩
    · intro L a w1 hI hi hd
      obtain ⟨hp, hw⟩ := hI
      have t0 := hp.at_ 0 _ rfl z0
      have t0' := t0
      rw [Array.getD_eq_getD_getElem?] at t0'
      have cp := hw.1.p.cell 0
      simp only [List.getElem?_toArray, List.getElem?_cons_zero] at cp
      exact rstep_valW (wanted_none rfl _) (.pointer (some ⟨gr, 0, none⟩)) w1 (by go_simp) ⟨(hp.put 2 4 (.pointer (some ⟨gr, 0, none⟩)) (by simp [rq10P]) (by simp [rq10P]) rfl (by rw [hsz0]; exact (by decide : 4 < 20))), by rw [upd_ne L (show (1 : Nat) ≠ 2 by decide), upd_ne L (show (3 : Nat) ≠ 2 by decide), upd_ne L (show (8 : Nat) ≠ 2 by decide), upd_ne L (show (10 : Nat) ≠ 2 by decide)]; exact hw⟩
    · intro L a w1 hI hi hd
      obtain ⟨hp, hw⟩ := hI
      simp [Region.binds] at hd
      have e2 : a.tmps.getD 4 undef = (.pointer (some ⟨gr, 0, none⟩)) := hp.pu (2, 4, (.pointer (some ⟨gr, 0, none⟩))) (by simp [rq10P]) (by simp [hd])
      have f2 : a.tmps[4]?.getD undef = (.pointer (some ⟨gr, 0, none⟩)) := by rw [← Array.getD_eq_getD_getElem?]; exact e2
      have hi : L 3 = false := hi
      have hR := hw.1.rd
      have y1 : L 1 = true := by simp [hd]
      rw [hi, y1] at hR
      have HC := u8I_any gr r1 w1 hR
      rw [HP2.out] at HC
      refine rstep_callW (wanted_none rfl _) 29 #[(.pointer (some ⟨gr, 0, none⟩))] (by go_simp) ?_
      refine (HC).mono ?_
      rintro e w2 ⟨rfl, hR2, hg2⟩
      exact ⟨(hp.put 3 5 (.int .u8 (v2 : Int)) (by simp [rq10P]) (by simp [rq10P]) rfl (by rw [hsz0]; exact (by decide : 5 < 20))), (by rw [upd_ne L (show (1 : Nat) ≠ 3 by decide), upd_eq, upd_ne L (show (8 : Nat) ≠ 3 by decide), upd_ne L (show (10 : Nat) ≠ 3 by decide)]; exact ⟨(hw.1.call HNE.out hR2 hg2), (fun _ => y1)⟩)⟩
    · intro L a w1 hI hi hd
      obtain ⟨hp, hw⟩ := hI
      simp [Region.binds] at hd
      have e3 : a.tmps.getD 5 undef = (.int .u8 (v2 : Int)) := hp.pu (3, 5, (.int .u8 (v2 : Int))) (by simp [rq10P]) (by simp [hd])
      have f3 : a.tmps[5]?.getD undef = (.int .u8 (v2 : Int)) := by rw [← Array.getD_eq_getD_getElem?]; exact e3
      exact rstep_valW (wanted_none rfl _) (.int .i8 (StmM.s8 v2)) w1 (by go_simp) ⟨(hp.put 4 6 (.int .i8 (StmM.s8 v2)) (by simp [rq10P]) (by simp [rq10P]) rfl (by rw [hsz0]; exact (by decide : 6 < 20))), by rw [upd_ne L (show (1 : Nat) ≠ 4 by decide), upd_ne L (show (3 : Nat) ≠ 4 by decide), upd_ne L (show (8 : Nat) ≠ 4 by decide), upd_ne L (show (10 : Nat) ≠ 4 by decide)]; exact hw⟩
    · intro L a w1 hI hi hd
      obtain ⟨hp, hw⟩ := hI
      simp [Region.binds] at hd
      have e4 : a.tmps.getD 6 undef = (.int .i8 (StmM.s8 v2)) := hp.pu (4, 6, (.int .i8 (StmM.s8 v2))) (by simp [rq10P]) (by simp [hd])
      have f4 : a.tmps[6]?.getD undef = (.int .i8 (StmM.s8 v2)) := by rw [← Array.getD_eq_getD_getElem?]; exact e4
      exact rstep_valW (wanted_none rfl _) (.int .i64 (StmM.s8 v2)) w1 (by go_simp) ⟨(hp.put 5 7 (.int .i64 (StmM.s8 v2)) (by simp [rq10P]) (by simp [rq10P]) rfl (by rw [hsz0]; exact (by decide : 7 < 20))), by rw [upd_ne L (show (1 : Nat) ≠ 5 by decide), upd_ne L (show (3 : Nat) ≠ 5 by decide), upd_ne L (show (8 : Nat) ≠ 5 by decide), upd_ne L (show (10 : Nat) ≠ 5 by decide)]; exact hw⟩
    · intro L a w1 hI hi hd
      obtain ⟨hp, hw⟩ := hI
      have t1 := hp.at_ 1 _ rfl z1
      have t1' := t1
      rw [Array.getD_eq_getD_getElem?] at t1'
      exact rstep_valW (wanted_none rfl _) (.pointer (some ⟨gx, 1, none⟩)) w1 (by go_simp) ⟨(hp.put 6 8 (.pointer (some ⟨gx, 1, none⟩)) (by simp [rq10P]) (by simp [rq10P]) rfl (by rw [hsz0]; exact (by decide : 8 < 20))), by rw [upd_ne L (show (1 : Nat) ≠ 6 by decide), upd_ne L (show (3 : Nat) ≠ 6 by decide), upd_ne L (show (8 : Nat) ≠ 6 by decide), upd_ne L (show (10 : Nat) ≠ 6 by decide)]; exact hw⟩
    · intro L a w1 hI hi hd
      obtain ⟨hp, hw⟩ := hI
      simp [Region.binds] at hd
      have e6 : a.tmps.getD 8 undef = (.pointer (some ⟨gx, 1, none⟩)) := hp.pu (6, 8, (.pointer (some ⟨gx, 1, none⟩))) (by simp [rq10P]) (by simp [hd])
      have f6 : a.tmps[8]?.getD undef = (.pointer (some ⟨gx, 1, none⟩)) := by rw [← Array.getD_eq_getD_getElem?]; exact e6
      exact rstep_valW (wanted_none rfl _) (.pointer (some ⟨gx, 1, none⟩)) w1 (by go_simp) ⟨(hp.put 7 9 (.pointer (some ⟨gx, 1, none⟩)) (by simp [rq10P]) (by simp [rq10P]) rfl (by rw [hsz0]; exact (by decide : 9 < 20))), by rw [upd_ne L (show (1 : Nat) ≠ 7 by decide), upd_ne L (show (3 : Nat) ≠ 7 by decide), upd_ne L (show (8 : Nat) ≠ 7 by decide), upd_ne L (show (10 : Nat) ≠ 7 by decide)]; exact hw⟩
    · intro L a w1 hI hi hd
      obtain ⟨hp, hw⟩ := hI
      simp [Region.binds] at hd
      have e1 : a.tmps.getD 3 undef = (.int .u64 (v1 : Int)) := hp.pu (1, 3, (.int .u64 (v1 : Int))) (by simp [rq10P]) (by simp [hd])
      have f1 : a.tmps[3]?.getD undef = (.int .u64 (v1 : Int)) := by rw [← Array.getD_eq_getD_getElem?]; exact e1
      have e7 : a.tmps.getD 9 undef = (.pointer (some ⟨gx, 1, none⟩)) := hp.pu (7, 9, (.pointer (some ⟨gx, 1, none⟩))) (by simp [rq10P]) (by simp [hd])
      have f7 : a.tmps[9]?.getD undef = (.pointer (some ⟨gx, 1, none⟩)) := by rw [← Array.getD_eq_getD_getElem?]; exact e7
      have fz := hw.1.x.frozen 1
      have cz := hw.1.x.cell 1
      simp only [rq10Y, List.getElem?_toArray, List.getElem?_cons_zero, List.getElem?_cons_succ] at cz
      have hset := hw.1.set HNE.out 1 (.int .u64 (v1 : Int))
      exact rstep_skip rfl (w1.setCell ⟨gx, 1, none⟩ (.int .u64 (v1 : Int))) (by go_simp) ⟨(hp.skip 8 undef (by simp [rq10P])), by rw [upd_ne L (show (1 : Nat) ≠ 8 by decide), upd_ne L (show (3 : Nat) ≠ 8 by decide), upd_eq, upd_ne L (show (10 : Nat) ≠ 8 by decide)]; exact ⟨hset, hw.2⟩⟩
    · intro L a w1 hI hi hd
      obtain ⟨hp, hw⟩ := hI
      have t1 := hp.at_ 1 _ rfl z1
      have t1' := t1
      rw [Array.getD_eq_getD_getElem?] at t1'
      exact rstep_valW (wanted_none rfl _) (.pointer (some ⟨gx, 9, none⟩)) w1 (by go_simp) ⟨(hp.put 9 10 (.pointer (some ⟨gx, 9, none⟩)) (by simp [rq10P]) (by simp [rq10P]) rfl (by rw [hsz0]; exact (by decide : 10 < 20))), by rw [upd_ne L (show (1 : Nat) ≠ 9 by decide), upd_ne L (show (3 : Nat) ≠ 9 by decide), upd_ne L (show (8 : Nat) ≠ 9 by decide), upd_ne L (show (10 : Nat) ≠ 9 by decide)]; exact hw⟩
    · intro L a w1 hI hi hd
      obtain ⟨hp, hw⟩ := hI
      simp [Region.binds] at hd
      have e5 : a.tmps.getD 7 undef = (.int .i64 (StmM.s8 v2)) := hp.pu (5, 7, (.int .i64 (StmM.s8 v2))) (by simp [rq10P]) (by simp [hd])
      have f5 : a.tmps[7]?.getD undef = (.int .i64 (StmM.s8 v2)) := by rw [← Array.getD_eq_getD_getElem?]; exact e5
      have e9 : a.tmps.getD 10 undef = (.pointer (some ⟨gx, 9, none⟩)) := hp.pu (9, 10, (.pointer (some ⟨gx, 9, none⟩))) (by simp [rq10P]) (by simp [hd])
      have f9 : a.tmps[10]?.getD undef = (.pointer (some ⟨gx, 9, none⟩)) := by rw [← Array.getD_eq_getD_getElem?]; exact e9
      have fz := hw.1.x.frozen 9
      have cz := hw.1.x.cell 9
      simp only [rq10Y, List.getElem?_toArray, List.getElem?_cons_zero, List.getElem?_cons_succ] at cz
      have hset := hw.1.set HNE.out 9 (.int .i64 (StmM.s8 v2))
      exact rstep_skip rfl (w1.setCell ⟨gx, 9, none⟩ (.int .i64 (StmM.s8 v2))) (by go_simp) ⟨(hp.skip 10 undef (by simp [rq10P])), by rw [upd_ne L (show (1 : Nat) ≠ 10 by decide), upd_ne L (show (3 : Nat) ≠ 10 by decide), upd_ne L (show (8 : Nat) ≠ 10 by decide), upd_eq]; exact ⟨hset, hw.2⟩⟩
  rintro L a W0 ⟨hp, hw⟩ hL
  rw [hL 1 (by simp), hL 3 (by simp), hL 8 (by simp), hL 10 (by simp)] at hw
  have HW : Hid (RdX B w gr gp gx r2 #[.int .i64 k, (.int .u64 (v1 : Int)), .slice none 0 0, .slice none 0 0, .int .u64 0, .int .u64 0, .int .i64 0, .slice none 0 0, .slice none 0 0, (.int .i64 (StmM.s8 v2))] W0) := Lib.hid hw.1
  clear hw
  rw [hp.eq]
  refine of_assigns (P := Try.prog) _ _ _ _ ?_
  rw [ha0.out]
  simp only [asgs, List.map]
  generalize a.tmps.getD 2 undef = u2
  generalize a.tmps.getD 3 undef = u3
  generalize a.tmps.getD 4 undef = u4
  generalize a.tmps.getD 5 undef = u5
  generalize a.tmps.getD 6 undef = u6
  generalize a.tmps.getD 7 undef = u7
  generalize a.tmps.getD 8 undef = u8
  generalize a.tmps.getD 9 undef = u9
  generalize a.tmps.getD 10 undef = u10
  clear hp hL hsz0  z0 z1
  clear ha0
  have HC := Lib.hid (list64_any B gr r2 W0 HW.out.rd (Nat.le_trans HBW.out HW.out.chg.size))
  rw [HLL.out] at HC
  have cp := HW.out.p.cell 0
  simp only [List.getElem?_toArray, List.getElem?_cons_zero] at cp
  go_wp2_with fail
  refine HC.out.mono ?_
  rintro e w1 ⟨A1, n1, c1, rfl, hn1, hO1, hR1, hg1⟩
  obtain rfl : fl.length = n1 := hn1.out
  have hX1 := HW.out.call HNE.out hR1 hg1
  have fz := hX1.x.frozen 8
  have cz := hX1.x.cell 8
  simp only [List.getElem?_toArray, List.getElem?_cons_zero, List.getElem?_cons_succ] at cz
  have hY : RdX B w gr gp gx r3 #[.int .i64 k, (.int .u64 (v1 : Int)), .slice none 0 0, .slice none 0 0, .int .u64 0, .int .u64 0, .int .i64 0, .slice none 0 0, .slice A1 fl.length c1, (.int .i64 (StmM.s8 v2))] (w1.setCell ⟨gx, 8, none⟩ (.slice A1 fl.length c1)) := hX1.set HNE.out 8 (.slice A1 fl.length c1)
  have hO2 : Own64 (w1.setCell ⟨gx, 8, none⟩ (.slice A1 fl.length c1)) w.heap.size A1 fl.length c1 fl := by
    have := Own64.keptA hO1 (grownBy_setCell w1 gx 8 (.slice A1 fl.length c1)) HW.out.x.lt
    refine ⟨this.1, ?_⟩
    rcases this.2 with h | ⟨g, cap, cur, e, hb', rest⟩
    · exact .inl h
    · exact .inr ⟨g, cap, cur, e, Nat.le_trans HW.out.chg.size hb', rest⟩
  have HY := Lib.hid (And.intro hY hO2)
  clear hn1 hO1 hR1 hg1 hX1 hY hO2 cp HC
  obtain ⟨tx, r4⟩ := tx
  go_upto_region 2 with fail
  generalize w1.setCell ⟨gx, 8, none⟩ (.slice A1 fl.length c1) = w2 at *
  have HC := Lib.hid (textI_any gr r3 1024 w2 HY.out.1.rd (by decide) (by decide))
  rw [HTX.out] at HC
  have cp := HY.out.1.p.cell 0
  simp only [List.getElem?_toArray, List.getElem?_cons_zero] at cp
  go_wp2_with fail
  refine HC.out.mono ?_
  rintro e w3 ⟨A2, n2, c2, rfl, hn2, hO3, hR3, hg3⟩
  try simp only at hn2 hO3 hR3
  obtain rfl : tx.length = n2 := hn2.out
  have hX3 := HY.out.1.call HNE.out hR3 hg3
  have fz2 := hX3.x.frozen 3
  have cz2 := hX3.x.cell 3
  simp only [List.getElem?_toArray, List.getElem?_cons_zero, List.getElem?_cons_succ] at cz2
  have hZ : RdX B w gr gp gx r4 #[.int .i64 k, (.int .u64 (v1 : Int)), .slice none 0 0, .slice A2 tx.length c2, .int .u64 0, .int .u64 0, .int .i64 0, .slice none 0 0, .slice A1 fl.length c1, (.int .i64 (StmM.s8 v2))] (w3.setCell ⟨gx, 3, none⟩ (.slice A2 tx.length c2)) := hX3.set HNE.out 3 (.slice A2 tx.length c2)
  have hgs := grownBy_setCell w3 gx 3 (.slice A2 tx.length c2)
  have hF : Own64 (w3.setCell ⟨gx, 3, none⟩ (.slice A2 tx.length c2)) w.heap.size A1 fl.length c1 fl := Own64.keptA (Own64.keptA HY.out.2 hg3 HX.out.rd.lt) hgs HX.out.x.lt
  have hT : Own (w3.setCell ⟨gx, 3, none⟩ (.slice A2 tx.length c2)) w.heap.size A2 c2 tx := (Own.kept hO3 hgs HY.out.1.x.lt).base_ HY.out.1.chg.size
  have hcap := own_cap hF
  have hle : fl.length ≤ c1 ∧ c1 ≤ maxLen := by
    rcases hcap with h | ⟨_, h2, h3⟩
    · exact h
    · rw [h2, h3]; exact ⟨Nat.le_refl _, Nat.zero_le _⟩
  have HLE := Lib.hid hle
  have HZ := Lib.hid (And.intro hZ (And.intro hF hT))
  clear hn2 hO3 hR3 hg3 hX3 hZ hF hT cp HC hcap hle hgs HY
  go_wp2
  go_end0
  exact ⟨⟨⟨k, ⟨v1, [], tx⟩, 0, 0, 0, [], fl, StmM.s8 v2⟩, none, 0, A2, c2, none, 0, A1, c1⟩, rfl, rfl, HZ.out.1.x, ⟨.inl rfl, HZ.out.2.2.row, .inl rfl, (Own64.get HZ.out.2.1).1, ⟨HK.out, ⟨HV1.out, (fun v hv => by cases hv)⟩, by simp, by simp, by simp, (fun v hv => by cases hv), HFL.out, (by have := StmM.s8_range HV2.out; constructor <;> dsimp only <;> omega)⟩, Nat.le_refl _, HZ.out.2.2.le.1, Nat.le_refl _, HLE.out.1, Nat.zero_le _, HZ.out.2.2.le.2, Nat.zero_le _, HLE.out.2⟩, ⟨Fresh.none, fresh_own HZ.out.2.2, Fresh.none, fresh_own HZ.out.2.1⟩, HZ.out.1.chg⟩
set_option maxRecDepth 100000 in
set_option maxHeartbeats 8000000 in
theorem rdask11 {B : Nat} (gr gp gx : Nat) (k : Int) (r : CodeM.Rd) (w : World) (hX : RdX B w gr gp gx r (nilC k) w) (hn : Ne B gr gp gx) (hB : B ≤ w.heap.size) (hk : -9223372036854775808 ≤ k ∧ k < 9223372036854775808) :
    Calls Try.prog 72 #[.pointer (some ⟨gp, 0, none⟩), .pointer (some ⟨gx, 0, none⟩)] w (RdEnd B gr gp gx ⟨k, StmM.no, 0, 0, (r.fixed 1).1, [], (StmM.listC 8 4096 StmM.fls ((r.fixed 1).2.fixed 1).2).1, StmM.s8 ((r.fixed 1).2.fixed 1).1⟩ w) := by
  obtain ⟨p1, hp1⟩ : ∃ p, r.fixed 1 = p := ⟨_, rfl⟩
  obtain ⟨v1, r1⟩ := p1
  have hv1 : v1 < 256 := by have := StmM.fixed_lt1 r; rw [hp1] at this; exact this
  obtain ⟨p2, hp2⟩ : ∃ p, r1.fixed 1 = p := ⟨_, rfl⟩
  obtain ⟨v2, r2⟩ := p2
  have hv2 : v2 < 256 := by have := StmM.fixed_lt1 r1; rw [hp2] at this; exact this
  have HP1 := Lib.hid hp1
  have HV1 := Lib.hid hv1
  have HP2 := Lib.hid hp2
  have HV2 := Lib.hid hv2
  clear hp1 hv1 hp2 hv2
  have HNE := Lib.hid hn
  have HK := Lib.hid hk
  have HBW := Lib.hid hB
  have HX := Lib.hid hX
  have cw1 := int_u8 HV1.out
  have cw2 := s8_wrap HV2.out
  have cx2 := s8_wrap2 HV2.out
  simp only [HP1.out, HP2.out]
  obtain ⟨L, hL0⟩ : ∃ L, StmM.listC 8 4096 StmM.fls r2 = L := ⟨_, rfl⟩
  have HLL := Lib.hid hL0
  have HFL := Lib.hid (StmM.listC_flt r2)
  rw [hL0] at HFL
  simp only [hL0]
  obtain ⟨fl, r3⟩ := L
  clear hL0 hn hk hB
  go_enter Try.func72, Try.ntmps72
  go_upto_region 0 with fail
  refine wp_named fun a0 ha0 => ?_
  have z0 : a0.tmps.getD 0 undef = (.pointer (some ⟨gp, 0, none⟩)) := by rw [ha0.out]; rfl
  have z1 : a0.tmps.getD 1 undef = (.pointer (some ⟨gx, 0, none⟩)) := by rw [ha0.out]; rfl
  have hsz0 : a0.tmps.size = 16 := by rw [ha0.out]; rfl
  refine wp_region_invB _ (by kernel_rfl) (fun L a wv => PIF a0 [2, 3, 4, 5, 6, 7, 8, 9, 10] (rq11P gr gx k v1 v2) L a ∧ RdX B w gr gp gx (bif L 4 then r2 else (bif L 1 then r1 else r)) (rq11Y k v1 v2 (L 8) (L 10)) wv ∧ (L 4 = true → L 1 = true)) (by kernel_rfl) ?_ ?_ ?_
  · exact ⟨PIF.start _ _ _, ⟨hX.drew, nofun⟩⟩
  rotate_left
  · as_aux_lemma =>
    refine ⟨?_, ?_, ?_, ?_, ?_, ?_, ?_, ?_, ?_, ?_, ?_, trivial⟩
    · intro L a w1 hI hi hd
      obtain ⟨hp, hw⟩ := hI
      have t0 := hp.at_ 0 _ rfl z0
      have t0' := t0
      rw [Array.getD_eq_getD_getElem?] at t0'
      have cp := hw.1.p.cell 0
      simp only [List.getElem?_toArray, List.getElem?_cons_zero] at cp
      exact rstep_valW (wanted_none rfl _) (.pointer (some ⟨gr, 0, none⟩)) w1 (by go_simp) ⟨(hp.put 0 2 (.pointer (some ⟨gr, 0, none⟩)) (by simp [rq11P]) (by simp [rq11P]) rfl (by rw [hsz0]; exact (by decide : 2 < 16))), by rw [upd_ne L (show (1 : Nat) ≠ 0 by decide), upd_ne L (show (4 : Nat) ≠ 0 by decide), upd_ne L (show (8 : Nat) ≠ 0 by decide), upd_ne L (show (10 : Nat) ≠ 0 by decide)]; exact hw⟩
    · intro L a w1 hI hi hd
      obtain ⟨hp, hw⟩ := hI
      simp [Region.binds] at hd
      have e0 : a.tmps.getD 2 undef = (.pointer (some ⟨gr, 0, none⟩)) := hp.pu (0, 2, (.pointer (some ⟨gr, 0, none⟩))) (by simp [rq11P]) (by simp [hd])
      have f0 : a.tmps[2]?.getD undef = (.pointer (some ⟨gr, 0, none⟩)) := by rw [← Array.getD_eq_getD_getElem?]; exact e0
      have hi : L 1 = false := hi
      have n4 : L 4 = false := by
        cases q : L 4 with
        | false => rfl
        | true => rw [hw.2 q] at hi; cases hi
      have hR := hw.1.rd
      rw [n4, hi] at hR
      have HC := u8I_any gr r w1 hR
      rw [HP1.out] at HC
      refine rstep_callW (wanted_none rfl _) 29 #[(.pointer (some ⟨gr, 0, none⟩))] (by go_simp) ?_
      refine (HC).mono ?_
      rintro e w2 ⟨rfl, hR2, hg2⟩
      exact ⟨(hp.put 1 3 (.int .u8 (v1 : Int)) (by simp [rq11P]) (by simp [rq11P]) rfl (by rw [hsz0]; exact (by decide : 3 < 16))), (by rw [upd_eq, upd_ne L (show (4 : Nat) ≠ 1 by decide), upd_ne L (show (8 : Nat) ≠ 1 by decide), upd_ne L (show (10 : Nat) ≠ 1 by decide)]; rw [n4]; exact ⟨(hw.1.call HNE.out hR2 hg2), (fun _ => rfl)⟩)⟩
    · intro L a w1 hI hi hd
      obtain ⟨hp, hw⟩ := hI
      simp [Region.binds] at hd
      have e1 : a.tmps.getD 3 undef = (.int .u8 (v1 : Int)) := hp.pu (1, 3, (.int .u8 (v1 : Int))) (by simp [rq11P]) (by simp [hd])
      have f1 : a.tmps[3]?.getD undef = (.int .u8 (v1 : Int)) := by rw [← Array.getD_eq_getD_getElem?]; exact e1
      exact rstep_valW (wanted_none rfl _) (.int .i64 (v1 : Int)) w1 (by go_simp) ⟨(hp.put 2 4 (.int .i64 (v1 : Int)) (by simp [rq11P]) (by simp [rq11P]) rfl (by rw [hsz0]; exact (by decide : 4 < 16))), by rw [upd_ne L (show (1 : Nat) ≠ 2 by decide), upd_ne L (show (4 : Nat) ≠ 2 by decide), upd_ne L (show (8 : Nat) ≠ 2 by decide), upd_ne L (show (10 : Nat) ≠ 2 by decide)]; exact hw⟩
    · intro L a w1 hI hi hd
      obtain ⟨hp, hw⟩ := hI
      have t0 := hp.at_ 0 _ rfl z0
      have t0' := t0
      rw [Array.getD_eq_getD_getElem?] at t0'
      have cp := hw.1.p.cell 0
      simp only [List.getElem?_toArray, List.getElem?_cons_zero] at cp
      exact rstep_valW (wanted_none rfl _) (.pointer (some ⟨gr, 0, none⟩)) w1 (by go_simp) ⟨(hp.put 3 5 (.pointer (some ⟨gr, 0, none⟩)) (by simp [rq11P]) (by simp [rq11P]) rfl (by rw [hsz0]; exact (by decide : 5 < 16))), by rw [upd_ne L (show (1 : Nat) ≠ 3 by decide), upd_ne L (show (4 : Nat) ≠ 3 by decide), upd_ne L (show (8 : Nat) ≠ 3 by decide), upd_ne L (show (10 : Nat) ≠ 3 by decide)]; exact hw⟩
    · intro L a w1 hI hi hd
      obtain ⟨hp, hw⟩ := hI
      simp [Region.binds] at hd
      have e3 : a.tmps.getD 5 undef = (.pointer (some ⟨gr, 0, none⟩)) := hp.pu (3, 5, (.pointer (some ⟨gr, 0, none⟩))) (by simp [rq11P]) (by simp [hd])
      have f3 : a.tmps[5]?.getD undef = (.pointer (some ⟨gr, 0, none⟩)) := by rw [← Array.getD_eq_getD_getElem?]; exact e3
      have hi : L 4 = false := hi
      have hR := hw.1.rd
      have y1 : L 1 = true := by simp [hd]
      rw [hi, y1] at hR
      have HC := u8I_any gr r1 w1 hR
      rw [HP2.out] at HC
      refine rstep_callW (wanted_none rfl _) 29 #[(.pointer (some ⟨gr, 0, none⟩))] (by go_simp) ?_
      refine (HC).mono ?_
      rintro e w2 ⟨rfl, hR2, hg2⟩
      exact ⟨(hp.put 4 6 (.int .u8 (v2 : Int)) (by simp [rq11P]) (by simp [rq11P]) rfl (by rw [hsz0]; exact (by decide : 6 < 16))), (by rw [upd_ne L (show (1 : Nat) ≠ 4 by decide), upd_eq, upd_ne L (show (8 : Nat) ≠ 4 by decide), upd_ne L (show (10 : Nat) ≠ 4 by decide)]; exact ⟨(hw.1.call HNE.out hR2 hg2), (fun _ => y1)⟩)⟩
    · intro L a w1 hI hi hd
      obtain ⟨hp, hw⟩ := hI
      simp [Region.binds] at hd
      have e4 : a.tmps.getD 6 undef = (.int .u8 (v2 : Int)) := hp.pu (4, 6, (.int .u8 (v2 : Int))) (by simp [rq11P]) (by simp [hd])
      have f4 : a.tmps[6]?.getD undef = (.int .u8 (v2 : Int)) := by rw [← Array.getD_eq_getD_getElem?]; exact e4
      exact rstep_valW (wanted_none rfl _) (.int .i8 (StmM.s8 v2)) w1 (by go_simp) ⟨(hp.put 5 7 (.int .i8 (StmM.s8 v2)) (by simp [rq11P]) (by simp [rq11P]) rfl (by rw [hsz0]; exact (by decide : 7 < 16))), by rw [upd_ne L (show (1 : Nat) ≠ 5 by decide), upd_ne L (show (4 : Nat) ≠ 5 by decide), upd_ne L (show (8 : Nat) ≠ 5 by decide), upd_ne L (show (10 : Nat) ≠ 5 by decide)]; exact hw⟩
    · intro L a w1 hI hi hd
      obtain ⟨hp, hw⟩ := hI
      simp [Region.binds] at hd
      have e5 : a.tmps.getD 7 undef = (.int .i8 (StmM.s8 v2)) := hp.pu (5, 7, (.int .i8 (StmM.s8 v2))) (by simp [rq11P]) (by simp [hd])
      have f5 : a.tmps[7]?.getD undef = (.int .i8 (StmM.s8 v2)) := by rw [← Array.getD_eq_getD_getElem?]; exact e5
      exact rstep_valW (wanted_none rfl _) (.int .i64 (StmM.s8 v2)) w1 (by go_simp) ⟨(hp.put 6 8 (.int .i64 (StmM.s8 v2)) (by simp [rq11P]) (by simp [rq11P]) rfl (by rw [hsz0]; exact (by decide : 8 < 16))), by rw [upd_ne L (show (1 : Nat) ≠ 6 by decide), upd_ne L (show (4 : Nat) ≠ 6 by decide), upd_ne L (show (8 : Nat) ≠ 6 by decide), upd_ne L (show (10 : Nat) ≠ 6 by decide)]; exact hw⟩
    · intro L a w1 hI hi hd
      obtain ⟨hp, hw⟩ := hI
      have t1 := hp.at_ 1 _ rfl z1
      have t1' := t1
      rw [Array.getD_eq_getD_getElem?] at t1'
      exact rstep_valW (wanted_none rfl _) (.pointer (some ⟨gx, 6, none⟩)) w1 (by go_simp) ⟨(hp.put 7 9 (.pointer (some ⟨gx, 6, none⟩)) (by simp [rq11P]) (by simp [rq11P]) rfl (by rw [hsz0]; exact (by decide : 9 < 16))), by rw [upd_ne L (show (1 : Nat) ≠ 7 by decide), upd_ne L (show (4 : Nat) ≠ 7 by decide), upd_ne L (show (8 : Nat) ≠ 7 by decide), upd_ne L (show (10 : Nat) ≠ 7 by decide)]; exact hw⟩
    · intro L a w1 hI hi hd
      obtain ⟨hp, hw⟩ := hI
      simp [Region.binds] at hd
      have e2 : a.tmps.getD 4 undef = (.int .i64 (v1 : Int)) := hp.pu (2, 4, (.int .i64 (v1 : Int))) (by simp [rq11P]) (by simp [hd])
      have f2 : a.tmps[4]?.getD undef = (.int .i64 (v1 : Int)) := by rw [← Array.getD_eq_getD_getElem?]; exact e2
      have e7 : a.tmps.getD 9 undef = (.pointer (some ⟨gx, 6, none⟩)) := hp.pu (7, 9, (.pointer (some ⟨gx, 6, none⟩))) (by simp [rq11P]) (by simp [hd])
      have f7 : a.tmps[9]?.getD undef = (.pointer (some ⟨gx, 6, none⟩)) := by rw [← Array.getD_eq_getD_getElem?]; exact e7
      have fz := hw.1.x.frozen 6
      have cz := hw.1.x.cell 6
      simp only [rq11Y, List.getElem?_toArray, List.getElem?_cons_zero, List.getElem?_cons_succ] at cz
      have hset := hw.1.set HNE.out 6 (.int .i64 (v1 : Int))
      exact rstep_skip rfl (w1.setCell ⟨gx, 6, none⟩ (.int .i64 (v1 : Int))) (by go_simp) ⟨(hp.skip 8 undef (by simp [rq11P])), by rw [upd_ne L (show (1 : Nat) ≠ 8 by decide), upd_ne L (show (4 : Nat) ≠ 8 by decide), upd_eq, upd_ne L (show (10 : Nat) ≠ 8 by decide)]; exact ⟨hset, hw.2⟩⟩
    · intro L a w1 hI hi hd
      obtain ⟨hp, hw⟩ := hI
      have t1 := hp.at_ 1 _ rfl z1
      have t1' := t1
      rw [Array.getD_eq_getD_getElem?] at t1'
      exact rstep_valW (wanted_none rfl _) (.pointer (some ⟨gx, 9, none⟩)) w1 (by go_simp) ⟨(hp.put 9 10 (.pointer (some ⟨gx, 9, none⟩)) (by simp [rq11P]) (by simp [rq11P]) rfl (by rw [hsz0]; exact (by decide : 10 < 16))), by rw [upd_ne L (show (1 : Nat) ≠ 9 by decide), upd_ne L (show (4 : Nat) ≠ 9 by decide), upd_ne L (show (8 : Nat) ≠ 9 by decide), upd_ne L (show (10 : Nat) ≠ 9 by decide)]; exact hw⟩
    · intro L a w1 hI hi hd
      obtain ⟨hp, hw⟩ := hI
      simp [Region.binds] at hd
      have e6 : a.tmps.getD 8 undef = (.int .i64 (StmM.s8 v2)) := hp.pu (6, 8, (.int .i64 (StmM.s8 v2))) (by simp [rq11P]) (by simp [hd])
      have f6 : a.tmps[8]?.getD undef = (.int .i64 (StmM.s8 v2)) := by rw [← Array.getD_eq_getD_getElem?]; exact e6
      have e9 : a.tmps.getD 10 undef = (.pointer (some ⟨gx, 9, none⟩)) := hp.pu (9, 10, (.pointer (some ⟨gx, 9, none⟩))) (by simp [rq11P]) (by simp [hd])
      have f9 : a.tmps[10]?.getD undef = (.pointer (some ⟨gx, 9, none⟩)) := by rw [← Array.getD_eq_getD_getElem?]; exact e9
      have fz := hw.1.x.frozen 9
      have cz := hw.1.x.cell 9
      simp only [rq11Y, List.getElem?_toArray, List.getElem?_cons_zero, List.getElem?_cons_succ] at cz
      have hset := hw.1.set HNE.out 9 (.int .i64 (StmM.s8 v2))
      exact rstep_skip rfl (w1.setCell ⟨gx, 9, none⟩ (.int .i64 (StmM.s8 v2))) (by go_simp) ⟨(hp.skip 10 undef (by simp [rq11P])), by rw [upd_ne L (show (1 : Nat) ≠ 10 by decide), upd_ne L (show (4 : Nat) ≠ 10 by decide), upd_ne L (show (8 : Nat) ≠ 10 by decide), upd_eq]; exact ⟨hset, hw.2⟩⟩
  rintro L a W0 ⟨hp, hw⟩ hL
  rw [hL 1 (by simp), hL 4 (by simp), hL 8 (by simp), hL 10 (by simp)] at hw
  have HW : Hid (RdX B w gr gp gx r2 #[.int .i64 k, .int .u64 0, .slice none 0 0, .slice none 0 0, .int .u64 0, .int .u64 0, (.int .i64 (v1 : Int)), .slice none 0 0, .slice none 0 0, (.int .i64 (StmM.s8 v2))] W0) := Lib.hid hw.1
  clear hw
  rw [hp.eq]
  refine of_assigns (P := Try.prog) _ _ _ _ ?_
  rw [ha0.out]
  simp only [asgs, List.map]
  generalize a.tmps.getD 2 undef = u2
  generalize a.tmps.getD 3 undef = u3
  generalize a.tmps.getD 4 undef = u4
  generalize a.tmps.getD 5 undef = u5
  generalize a.tmps.getD 6 undef = u6
  generalize a.tmps.getD 7 undef = u7
  generalize a.tmps.getD 8 undef = u8
  generalize a.tmps.getD 9 undef = u9
  generalize a.tmps.getD 10 undef = u10
  clear hp hL hsz0  z0 z1
  clear ha0
  have HC := Lib.hid (list64_any B gr r2 W0 HW.out.rd (Nat.le_trans HBW.out HW.out.chg.size))
  rw [HLL.out] at HC
  have cp := HW.out.p.cell 0
  simp only [List.getElem?_toArray, List.getElem?_cons_zero] at cp
  go_wp2_with fail
  refine HC.out.mono ?_
  rintro e w1 ⟨A1, n1, c1, rfl, hn1, hO1, hR1, hg1⟩
  obtain rfl : fl.length = n1 := hn1.out
  have hX1 := HW.out.call HNE.out hR1 hg1
  have fz := hX1.x.frozen 8
  have cz := hX1.x.cell 8
  simp only [List.getElem?_toArray, List.getElem?_cons_zero, List.getElem?_cons_succ] at cz
  have hY : RdX B w gr gp gx r3 #[.int .i64 k, .int .u64 0, .slice none 0 0, .slice none 0 0, .int .u64 0, .int .u64 0, (.int .i64 (v1 : Int)), .slice none 0 0, .slice A1 fl.length c1, (.int .i64 (StmM.s8 v2))] (w1.setCell ⟨gx, 8, none⟩ (.slice A1 fl.length c1)) := hX1.set HNE.out 8 (.slice A1 fl.length c1)
  have hO2 : Own64 (w1.setCell ⟨gx, 8, none⟩ (.slice A1 fl.length c1)) w.heap.size A1 fl.length c1 fl := by
    have := Own64.keptA hO1 (grownBy_setCell w1 gx 8 (.slice A1 fl.length c1)) HW.out.x.lt
    refine ⟨this.1, ?_⟩
    rcases this.2 with h | ⟨g, cap, cur, e, hb', rest⟩
    · exact .inl h
    · exact .inr ⟨g, cap, cur, e, Nat.le_trans HW.out.chg.size hb', rest⟩
  have HY := Lib.hid (And.intro hY hO2)
  clear hn1 hO1 hR1 hg1 hX1 hY hO2 cp HC
  have hcap := own_cap HY.out.2
  have hle : fl.length ≤ c1 ∧ c1 ≤ maxLen := by
    rcases hcap with h | ⟨_, h2, h3⟩
    · exact h
    · rw [h2, h3]; exact ⟨Nat.le_refl _, Nat.zero_le _⟩
  have HLE := Lib.hid hle
  clear hcap hle
  go_wp2
  go_end0
  exact ⟨⟨⟨k, StmM.no, 0, 0, (v1 : Int), [], fl, StmM.s8 v2⟩, none, 0, none, 0, none, 0, A1, c1⟩, rfl, rfl, HY.out.1.x, ⟨.inl rfl, .inl rfl, .inl rfl, (Own64.get HY.out.2).1, ⟨HK.out, StmM.no_ok, by simp, by simp, (by have := HV1.out; constructor <;> dsimp only <;> omega), (fun v hv => by cases hv), HFL.out, (by have := StmM.s8_range HV2.out; constructor <;> dsimp only <;> omega)⟩, Nat.le_refl _, Nat.le_refl _, Nat.le_refl _, HLE.out.1, Nat.zero_le _, Nat.zero_le _, Nat.zero_le _, HLE.out.2⟩, ⟨Fresh.none, Fresh.none, Fresh.none, fresh_own HY.out.2⟩, HY.out.1.chg⟩
set_option maxRecDepth 100000 in
set_option maxHeartbeats 8000000 in
theorem rdask6 {B : Nat} (gr gp gx : Nat) (k : Int) (r : CodeM.Rd) (w : World) (hX : RdX B w gr gp gx r (nilC k) w) (hn : Ne B gr gp gx) (hB : B ≤ w.heap.size) (hk : -9223372036854775808 ≤ k ∧ k < 9223372036854775808) :
    Calls Try.prog 66 #[.pointer (some ⟨gp, 0, none⟩), .pointer (some ⟨gx, 0, none⟩)] w (RdEnd B gr gp gx ⟨k, StmM.no, 0, 0, (r.fixed 1).1, (StmM.listC 4 4096 ItemM.vecs (r.fixed 1).2).1, [], 0⟩ w) := by
  obtain ⟨p1, hp1⟩ : ∃ p, r.fixed 1 = p := ⟨_, rfl⟩
  obtain ⟨v1, r1⟩ := p1
  have hv1 : v1 < 256 := by have := StmM.fixed_lt1 r; rw [hp1] at this; exact this
  have HP1 := Lib.hid hp1
  have HV1 := Lib.hid hv1
  clear hp1 hv1
  have HNE := Lib.hid hn
  have HK := Lib.hid hk
  have HBW := Lib.hid hB
  have HX := Lib.hid hX
  have cw1 := int_u8 HV1.out
  simp only [HP1.out]
  obtain ⟨L, hL0⟩ : ∃ L, StmM.listC 4 4096 ItemM.vecs r1 = L := ⟨_, rfl⟩
  have HLL := Lib.hid hL0
  have HFL := Lib.hid (StmM.listC_vlt r1)
  rw [hL0] at HFL
  simp only [hL0]
  obtain ⟨q, r3⟩ := L
  have HC0 := Lib.hid (u8I_any gr r w hX.rd)
  rw [HP1.out] at HC0
  have cp0 := hX.p.cell 0
  simp only [List.getElem?_toArray, List.getElem?_cons_zero] at cp0
  clear hL0 hn hk hB hX
  go_enter Try.func66, Try.ntmps66
  go_wp2_with fail
  refine HC0.out.mono ?_
  rintro e w0 ⟨rfl, hR0, hg0⟩
  have hX0 := HX.out.call HNE.out hR0 hg0
  have fz0 := hX0.x.frozen 6
  have cz0 := hX0.x.cell 6
  simp only [nilC, List.getElem?_toArray, List.getElem?_cons_zero, List.getElem?_cons_succ] at cz0
  have hW : RdX B w gr gp gx r1 #[.int .i64 k, .int .u64 0, .slice none 0 0, .slice none 0 0, .int .u64 0, .int .u64 0, .int .i64 (v1 : Int), .slice none 0 0, .slice none 0 0, .int .i64 0] (w0.setCell ⟨gx, 6, none⟩ (.int .i64 (v1 : Int))) := hX0.set HNE.out 6 (.int .i64 (v1 : Int))
  have HW := Lib.hid hW
  clear hR0 hg0 hX0 hW cp0 HC0
  go_upto_region 1 with fail
  generalize w0.setCell ⟨gx, 6, none⟩ (.int .i64 (v1 : Int)) = W0 at *
  clear fz0 cz0
  have cp := HW.out.p.cell 0
  simp only [List.getElem?_toArray, List.getElem?_cons_zero] at cp
  have HC := Lib.hid (list32_any B gr gp r1 W0 HW.out.rd cp HNE.out.rp.symm (Nat.le_trans HBW.out HW.out.chg.size))
  rw [HLL.out] at HC
  go_wp2_with fail
  refine HC.out.mono ?_
  rintro e w1 ⟨A1, n1, c1, rfl, hn1, hO1, hR1, hg1⟩
  obtain rfl : q.length = n1 := hn1.out
  have hX1 := HW.out.call HNE.out hR1 hg1
  have fz := hX1.x.frozen 7
  have cz := hX1.x.cell 7
  simp only [List.getElem?_toArray, List.getElem?_cons_zero, List.getElem?_cons_succ] at cz
  have hY : RdX B w gr gp gx r3 #[.int .i64 k, .int .u64 0, .slice none 0 0, .slice none 0 0, .int .u64 0, .int .u64 0, .int .i64 (v1 : Int), .slice A1 q.length c1, .slice none 0 0, .int .i64 0] (w1.setCell ⟨gx, 7, none⟩ (.slice A1 q.length c1)) := hX1.set HNE.out 7 (.slice A1 q.length c1)
  have hO2 : Own32 (w1.setCell ⟨gx, 7, none⟩ (.slice A1 q.length c1)) w.heap.size A1 q.length c1 q := (Own32.keptA hO1 (grownBy_setCell w1 gx 7 (.slice A1 q.length c1)) HW.out.x.lt).base_ HW.out.chg.size
  have hcap := own_cap hO2
  have hle : q.length ≤ c1 ∧ c1 ≤ maxLen := by
    rcases hcap with h | ⟨_, h2, h3⟩
    · exact h
    · rw [h2, h3]; exact ⟨Nat.le_refl _, Nat.zero_le _⟩
  have HLE := Lib.hid hle
  have HY := Lib.hid (And.intro hY hO2)
  clear hn1 hO1 hR1 hg1 hX1 hY hO2 cp HC hcap hle
  go_wp2
  go_end0
  exact ⟨⟨⟨k, StmM.no, 0, 0, (v1 : Int), q, [], 0⟩, none, 0, none, 0, A1, c1, none, 0⟩, rfl, rfl, HY.out.1.x, ⟨.inl rfl, .inl rfl, HY.out.2.row, .inl rfl, ⟨HK.out, StmM.no_ok, by simp, by simp, (by have := HV1.out; constructor <;> dsimp only <;> omega), HFL.out, (fun v hv => by cases hv), by simp⟩, Nat.le_refl _, Nat.le_refl _, HLE.out.1, Nat.le_refl _, Nat.zero_le _, Nat.zero_le _, HLE.out.2, Nat.zero_le _⟩, ⟨Fresh.none, Fresh.none, fresh_own HY.out.2, Fresh.none⟩, HY.out.1.chg⟩
set_option maxRecDepth 100000 in
set_option maxHeartbeats 8000000 in
theorem rdask2 (B gr gp gb gx : Nat) (k : Int) (A : Option Addr) (c : Nat) (u : UInt8) (b' : List UInt8) (w : World) (hb : Blk w gb 22 #[.slice A (b'.length + 1) c]) (hx : Blk w gx 42 (nilC k)) (hr : Row w A (bs (u :: b'))) (hc : b'.length + 1 ≤ c) (hlen : b'.length + 1 ≤ 140737488355328) (hk : -9223372036854775808 ≤ k ∧ k < 9223372036854775808) :
    Calls Try.prog 62 #[.pointer (some ⟨gb, 0, none⟩), .pointer (some ⟨gx, 0, none⟩)] w (RdEnd B gr gp gx ⟨k, (ItemM.readR b').getD StmM.no, 0, 0, 0, [], [], 0⟩ w) := by
  have HX := Lib.hid hx
  have HK := Lib.hid hk
  have HLEN := Lib.hid hlen
  have c0 := hb.cell 0
  simp only [List.getElem?_toArray, List.getElem?_cons_zero] at c0
  obtain ⟨ab, ao, rfl, _⟩ := row_at hr (k := 0) (u := u) rfl
  have hrow : Row w (some ⟨ab, ao + 1, none⟩) (bs b') := row_drop hr 1
  clear hb hx hk hr hlen
  by_cases hc1 : c = 1
  · have hm : b'.length = 0 := by omega
    have HR : Hid (Row w (some ⟨ab, ao, none⟩) (bs b')) := Lib.hid (.inl (by rw [List.length_eq_zero_iff.1 hm]; rfl))
    have HM := Lib.hid hm
    subst hc1
    rw [hm] at c0
    clear hrow hc hm
    go_enter Try.func62, Try.ntmps62
    have HC := Lib.hid (itemread_any (some ⟨ab, ao, none⟩) 0 b' w HR.out (by have := HLEN.out; omega))
    rw [HM.out] at HC
    go_wp2_with fail
    refine HC.out.mono ?_
    cases hrd : ItemM.readP b' with
    | none =>
      rintro e w1 ⟨rfl, hb⟩
      have HRD := Lib.hid hrd
      have HB1 := Lib.hid hb
      have fz1 := (HX.out.below hb HX.out.lt).frozen 1
      have fz2 := (HX.out.below hb HX.out.lt).frozen 2
      have fz3 := (HX.out.below hb HX.out.lt).frozen 3
      obtain ⟨d0, d1, d2, d3, d4, d5, d6, d7, d8, d9⟩ := (HX.out.below hb HX.out.lt).c10
      clear d0 d4 d5 d6 d7 d8 d9 hrd hb HC
      go_wp2
      go_end0
      refine ⟨⟨⟨k, StmM.no, 0, 0, 0, [], [], 0⟩, none, 0, none, 0, none, 0, none, 0⟩, rfl, ?_, (((HX.out.below HB1.out HX.out.lt).set_ 1 (.int .u64 0)).set_ 2 (.slice none 0 0)).set_ 3 (.slice none 0 0), ⟨.inl rfl, .inl rfl, .inl rfl, .inl rfl, ⟨HK.out, StmM.no_ok, by simp, by simp, by simp, (fun v hv => by cases hv), (fun v hv => by cases hv), by simp⟩, Nat.le_refl _, Nat.le_refl _, Nat.le_refl _, Nat.le_refl _, Nat.zero_le _, Nat.zero_le _, Nat.zero_le _, Nat.zero_le _⟩, ⟨Fresh.none, Fresh.none, Fresh.none, Fresh.none⟩, (((Chg.ofB HB1.out).trans (Chg.of2 (grownBy_setCell _ gx 1 _))).trans (Chg.of2 (grownBy_setCell _ gx 2 _))).trans (Chg.of2 (grownBy_setCell _ gx 3 _))⟩
      rw [← ItemM.readP_eq, HRD.out]; rfl
    | some x =>
      rintro e w1 ⟨A1, n1, c1, A2, n2, c2, rfl, hn1, hn2, hO1, hO2, hb⟩
      have HRD := Lib.hid hrd
      have HB1 := Lib.hid hb
      obtain rfl : x.vec.length = n1 := hn1.out
      obtain rfl : x.note.length = n2 := hn2.out
      have fz1 := (HX.out.below hb HX.out.lt).frozen 1
      have fz2 := (HX.out.below hb HX.out.lt).frozen 2
      have fz3 := (HX.out.below hb HX.out.lt).frozen 3
      obtain ⟨d0, d1, d2, d3, d4, d5, d6, d7, d8, d9⟩ := (HX.out.below hb HX.out.lt).c10
      have HO := Lib.hid (And.intro hO1 hO2)
      clear d0 d4 d5 d6 d7 d8 d9 hrd hb HC hn1 hn2 hO1 hO2
      go_wp2
      go_end0
      have hxok : x.Ok := (ItemM.read_inv (b := b') (by rw [← ItemM.readP_eq]; exact HRD.out)).2.2
      have g1 := grownBy_setCell w1 gx 1 (.int .u64 (x.key : Int))
      have g2 := grownBy_setCell (w1.setCell ⟨gx, 1, none⟩ (.int .u64 (x.key : Int))) gx 2 (.slice A1 x.vec.length c1)
      have g3 := grownBy_setCell ((w1.setCell ⟨gx, 1, none⟩ (.int .u64 (x.key : Int))).setCell ⟨gx, 2, none⟩ (.slice A1 x.vec.length c1)) gx 3 (.slice A2 x.note.length c2)
      have k1 := Own32.keptA (Own32.keptA (Own32.keptA HO.out.1 g1 HX.out.lt) g2 HX.out.lt) g3 HX.out.lt
      have k2 := Own.kept (Own.kept (Own.kept HO.out.2 g1 HX.out.lt) g2 HX.out.lt) g3 HX.out.lt
      have hle : x.vec.length ≤ c1 ∧ c1 ≤ maxLen := by
        rcases own_cap k1 with h | ⟨_, h2, h3⟩
        · exact h
        · rw [h2, h3]; exact ⟨Nat.le_refl _, Nat.zero_le _⟩
      refine ⟨⟨⟨k, x, 0, 0, 0, [], [], 0⟩, A1, c1, A2, c2, none, 0, none, 0⟩, rfl, ?_, (((HX.out.below HB1.out HX.out.lt).set_ 1 (.int .u64 (x.key : Int))).set_ 2 (.slice A1 x.vec.length c1)).set_ 3 (.slice A2 x.note.length c2), ⟨k1.row, k2.row, .inl rfl, .inl rfl, ⟨HK.out, hxok, by simp, by simp, by simp, (fun v hv => by cases hv), (fun v hv => by cases hv), by simp⟩, hle.1, k2.le.1, Nat.le_refl _, Nat.le_refl _, hle.2, k2.le.2, Nat.zero_le _, Nat.zero_le _⟩, ⟨fresh_own k1, fresh_own k2, Fresh.none, Fresh.none⟩, (((Chg.ofB HB1.out).trans (Chg.of2 g1)).trans (Chg.of2 g2)).trans (Chg.of2 g3)⟩
      rw [← ItemM.readP_eq, HRD.out]; rfl
  · have HR := Lib.hid hrow
    clear hrow
    go_enter Try.func62, Try.ntmps62
    have HC := Lib.hid (itemread_any (some ⟨ab, ao + 1, none⟩) (c - 1) b' w HR.out (by have := HLEN.out; omega))
    go_wp2_with fail
    refine HC.out.mono ?_
    cases hrd : ItemM.readP b' with
    | none =>
      rintro e w1 ⟨rfl, hb⟩
      have HRD := Lib.hid hrd
      have HB1 := Lib.hid hb
      have fz1 := (HX.out.below hb HX.out.lt).frozen 1
      have fz2 := (HX.out.below hb HX.out.lt).frozen 2
      have fz3 := (HX.out.below hb HX.out.lt).frozen 3
      obtain ⟨d0, d1, d2, d3, d4, d5, d6, d7, d8, d9⟩ := (HX.out.below hb HX.out.lt).c10
      clear d0 d4 d5 d6 d7 d8 d9 hrd hb HC
      go_wp2
      go_end0
      refine ⟨⟨⟨k, StmM.no, 0, 0, 0, [], [], 0⟩, none, 0, none, 0, none, 0, none, 0⟩, rfl, ?_, (((HX.out.below HB1.out HX.out.lt).set_ 1 (.int .u64 0)).set_ 2 (.slice none 0 0)).set_ 3 (.slice none 0 0), ⟨.inl rfl, .inl rfl, .inl rfl, .inl rfl, ⟨HK.out, StmM.no_ok, by simp, by simp, by simp, (fun v hv => by cases hv), (fun v hv => by cases hv), by simp⟩, Nat.le_refl _, Nat.le_refl _, Nat.le_refl _, Nat.le_refl _, Nat.zero_le _, Nat.zero_le _, Nat.zero_le _, Nat.zero_le _⟩, ⟨Fresh.none, Fresh.none, Fresh.none, Fresh.none⟩, (((Chg.ofB HB1.out).trans (Chg.of2 (grownBy_setCell _ gx 1 _))).trans (Chg.of2 (grownBy_setCell _ gx 2 _))).trans (Chg.of2 (grownBy_setCell _ gx 3 _))⟩
      rw [← ItemM.readP_eq, HRD.out]; rfl
    | some x =>
      rintro e w1 ⟨A1, n1, c1, A2, n2, c2, rfl, hn1, hn2, hO1, hO2, hb⟩
      have HRD := Lib.hid hrd
      have HB1 := Lib.hid hb
      obtain rfl : x.vec.length = n1 := hn1.out
      obtain rfl : x.note.length = n2 := hn2.out
      have fz1 := (HX.out.below hb HX.out.lt).frozen 1
      have fz2 := (HX.out.below hb HX.out.lt).frozen 2
      have fz3 := (HX.out.below hb HX.out.lt).frozen 3
      obtain ⟨d0, d1, d2, d3, d4, d5, d6, d7, d8, d9⟩ := (HX.out.below hb HX.out.lt).c10
      have HO := Lib.hid (And.intro hO1 hO2)
      clear d0 d4 d5 d6 d7 d8 d9 hrd hb HC hn1 hn2 hO1 hO2
      go_wp2
      go_end0
      have hxok : x.Ok := (ItemM.read_inv (b := b') (by rw [← ItemM.readP_eq]; exact HRD.out)).2.2
      have g1 := grownBy_setCell w1 gx 1 (.int .u64 (x.key : Int))
      have g2 := grownBy_setCell (w1.setCell ⟨gx, 1, none⟩ (.int .u64 (x.key : Int))) gx 2 (.slice A1 x.vec.length c1)
      have g3 := grownBy_setCell ((w1.setCell ⟨gx, 1, none⟩ (.int .u64 (x.key : Int))).setCell ⟨gx, 2, none⟩ (.slice A1 x.vec.length c1)) gx 3 (.slice A2 x.note.length c2)
      have k1 := Own32.keptA (Own32.keptA (Own32.keptA HO.out.1 g1 HX.out.lt) g2 HX.out.lt) g3 HX.out.lt
      have k2 := Own.kept (Own.kept (Own.kept HO.out.2 g1 HX.out.lt) g2 HX.out.lt) g3 HX.out.lt
      have hle : x.vec.length ≤ c1 ∧ c1 ≤ maxLen := by
        rcases own_cap k1 with h | ⟨_, h2, h3⟩
        · exact h
        · rw [h2, h3]; exact ⟨Nat.le_refl _, Nat.zero_le _⟩
      refine ⟨⟨⟨k, x, 0, 0, 0, [], [], 0⟩, A1, c1, A2, c2, none, 0, none, 0⟩, rfl, ?_, (((HX.out.below HB1.out HX.out.lt).set_ 1 (.int .u64 (x.key : Int))).set_ 2 (.slice A1 x.vec.length c1)).set_ 3 (.slice A2 x.note.length c2), ⟨k1.row, k2.row, .inl rfl, .inl rfl, ⟨HK.out, hxok, by simp, by simp, by simp, (fun v hv => by cases hv), (fun v hv => by cases hv), by simp⟩, hle.1, k2.le.1, Nat.le_refl _, Nat.le_refl _, hle.2, k2.le.2, Nat.zero_le _, Nat.zero_le _⟩, ⟨fresh_own k1, fresh_own k2, Fresh.none, Fresh.none⟩, (((Chg.ofB HB1.out).trans (Chg.of2 g1)).trans (Chg.of2 g2)).trans (Chg.of2 g3)⟩
      rw [← ItemM.readP_eq, HRD.out]; rfl
end Go.Proofs.Ytaadfalklddhcaa
