/-
  What bytes are read as, as a reply, by the document's word.
  Conditions: the bytes lie in memory.
-/
import Derived.Test.YtaadfalklddhcaaZStmS6
import Derived.Test.YtaadfalklddhcaaZStmT7
import Derived.Test.YtaadfalklddhcaaZStmT8
import Derived.Test.YtaadfalklddhcaaZStmT9
import Derived.Test.YtaadfalklddhcaaZStmU
namespace Go.Proofs.Ytaadfalklddhcaa
open Go.RowKit Go.Sort Go.Lib
set_option linter.unusedVariables false
set_option linter.unusedSimpArgs false
/-- The reader, the reply, the result, while it is read. -/
structure RgX (w0 : World) (g : Nat) (r : CodeM.Rd) (cs : Array Value) (w : World) : Prop where
  rd : RdIn g 73 w (g + 1) r
  x : Blk w (g + 1 + 1) 34 cs
  res : Blk w g 34 #[.int .i64 0, .int .i64 0, .int .i64 0, .int .i64 0, .int .u64 0, .slice none 0 0, .slice none 0 0, .slice none 0 0, .slice none 0 0]
  bel : Below g w0 w
section
variable {w0 w w' : World} {g : Nat} {r r' : CodeM.Rd} {cs : Array Value}
theorem RgX.size (h : RgX w0 g r cs w) : g ≤ w.heap.size := Nat.le_of_lt h.res.lt
theorem RgX.call (h : RgX w0 g r cs w) (hR : RdIn g 73 w' (g + 1) r') (hg : w.grownBy w' (some (g + 1))) : RgX w0 g r' cs w' :=
  ⟨hR, h.x.grown hg (by simp), h.res.grown hg (by simp), below_grown h.bel hg h.size (by omega)⟩
theorem RgX.set (h : RgX w0 g r cs w) (i : Nat) (v : Value) : RgX w0 g r (cs.setIfInBounds i v) (w.setCell ⟨g + 1 + 1, i, none⟩ v) :=
  ⟨h.rd.above (grownBy_setCell w (g + 1 + 1) i v) (by omega) (by omega), h.x.set_ i v, h.res.far (p := ⟨g + 1 + 1, i, none⟩) (by show g ≠ g + 1 + 1; omega) v, below_grown h.bel (grownBy_setCell w (g + 1 + 1) i v) h.size (by omega)⟩
theorem RgX.below (h : RgX w0 g r cs w) (hb : Below w.heap.size w w') : RgX w0 g r cs w' :=
  ⟨h.rd.below hb, h.x.below hb h.x.lt, h.res.below hb h.res.lt, h.bel.trans (hb.mono h.size)⟩
/-- A block of the call's own changes. -/
theorem RgX.own (h : RgX w0 g r cs w) {b : Nat} (hg : w.grownBy w' (some b)) (hb : g + 1 + 1 < b) : RgX w0 g r cs w' :=
  ⟨h.rd.above hg (by omega) (by omega), h.x.grown hg (by intro q; injection q with q; omega), h.res.grown hg (by intro q; injection q with q; omega), below_grown h.bel hg h.size (by omega)⟩
theorem RgX.row (h : RgX w0 g r cs w) {e : TypeId} {size m : Nat} {v : Value} {xs : List Value} (hO : w.ownsRow (g + 1 + 1 + 1) e size v m xs) (hg : w.grownBy w' v.ownBlock) : RgX w0 g r cs w' := by
  cases q : v.ownBlock with
  | none =>
    rw [q] at hg
    exact h.below ⟨hg.os, hg.tape, hg.output, hg.size, fun i hi => hg.block i hi (by simp)⟩
  | some b =>
    rw [q] at hg
    have := (World.ownsRow.lt hO b q).1
    exact h.own hg (by omega)
end
/-- The reply is read (as y): what may then be said. -/
def RgDone (w : World) (g : Nat) (b : List UInt8) (y : Rpv) (r : CodeM.Rd) (wc : World) : Prop := y.At wc ∧ y.Fr (g + 1) ∧ (∀ x : Rp, x.Ok → RepM.mayR x = true → RepM.formR x = b → r.e = 0 ∧ y.x = x) ∧ RgX w g r y.cells wc
def Q4 (w : World) (g : Nat) (r2 : CodeM.Rd) (k : Nat) (wr : World) (qA : Option Addr) (qc : Nat) (l : List Itv) : Prop := RgX w g (RepM.seqs RepM.oneI k r2).2 #[.int .i64 4, .int .i64 0, .int .i64 0, .int .i64 0, .int .u64 0, .slice none 0 0, .slice none 0 0, .slice qA k qc, .slice none 0 0] wr ∧ OwnV wr (g + 1 + 1 + 1) qA k qc l ∧ (∀ s ∈ l, ItO wr (g + 1 + 1 + 1) s) ∧ l.map (·.x) = (RepM.seqs RepM.oneI k r2).1
def Q5 (w : World) (g : Nat) (r2 : CodeM.Rd) (k : Nat) (wr : World) (qA : Option Addr) (qc : Nat) : Prop := RgX w g (RepM.seqs RepM.oneH k r2).2 #[.int .i64 5, .int .i64 0, .int .i64 0, .int .i64 0, .int .u64 0, .slice none 0 0, .slice none 0 0, .slice none 0 0, .slice qA k qc] wr ∧ OwnH wr (g + 1 + 1 + 1) qA k qc (RepM.seqs RepM.oneH k r2).1
theorem ownsRow_below {e : TypeId} {size : Nat} {w w' : World} {base n c m : Nat} {A : Option Addr} {l : List Value} (h : w.ownsRow base e size (.slice A n c) m l) (hb : Below w.heap.size w w') : w'.ownsRow base e size (.slice A n c) m l := by
  refine ⟨h.1, ?_⟩
  rcases h.2 with hn | ⟨g, cap, cur, e, hb', hg, rest⟩
  · exact .inl hn
  · refine .inr ⟨g, cap, cur, e, hb', ?_, rest⟩
    rw [hb.block g (Array.getElem?_eq_some_iff.1 hg).1]; exact hg
def rt33P (A : Option Addr) (c : Nat) (b : List UInt8) (g : Nat) (y : Rpv) (e : Nat) (P1 P2 P3 : Bool) (fA : Option Addr) (fn fc : Nat) : List (Nat × Nat × Value) := [(0, 125, (.pointer (some ⟨g + 1, 0, none⟩))), (1, 126, (.pointer (some ⟨g + 1, 0, none⟩))), (2, 127, (.pointer (some ⟨g + 1, 1, none⟩))), (3, 128, (.int .i64 (e : Int))), (4, 129, (.bool P1)), (5, 130, (.bool P1)), (6, 131, (bif P1 then undef else (.agg y.cells))), (7, 132, (bif P1 then undef else (.bool (!P2)))), (8, 133, (bif P1 then undef else (.bool P2))), (9, 134, (.bool P2)), (10, 135, (.bool P2)), (11, 136, (bif P2 then undef else (.agg y.cells))), (12, 137, (bif P2 then undef else (.slice fA fn fc))), (13, 138, (bif P2 then undef else (.string (str (RepM.formR y.x))))), (14, 139, (bif P2 then undef else (.slice A b.length c))), (15, 140, (bif P2 then undef else (.string (str b)))), (16, 141, (bif P2 then undef else (.bool P3))), (17, 142, (.bool P3))]
set_option maxRecDepth 100000 in
set_option maxHeartbeats 16000000 in
theorem refreadtell_any (A : Option Addr) (c : Nat) (b : List UInt8) (w : World) (hr : Row w A (bs b)) (hcap : b.length ≤ c) (hmx : c ≤ maxLen) (hlen : b.length ≤ 140737488355328) :
    Calls Try.prog 11 #[.slice A b.length c] w (RpP (RepM.readT b) w) := by
  have HRB := Lib.hid hr
  obtain ⟨RR, hRR⟩ : ∃ r, RepM.readT b = r := ⟨_, rfl⟩
  rw [hRR]
  have HRR := Lib.hid hRR
  clear hRR hr
  have b0 : Below w.heap.size w (((w.alloc (.cells #[.int .i64 0, .int .i64 0, .int .i64 0, .int .i64 0, .int .u64 0, .slice none 0 0, .slice none 0 0, .slice none 0 0, .slice none 0 0] 34)).alloc (.cells #[.slice A b.length c, .int .i64 0] 73)).alloc (.cells #[.int .i64 0, .int .i64 0, .int .i64 0, .int .i64 0, .int .u64 0, .slice none 0 0, .slice none 0 0, .slice none 0 0, .slice none 0 0] 34)) := (((Below.refl _ _).alloc (Nat.le_refl _) _).alloc (by simp) _).alloc (by simp; omega) _
  have U1 := ((Blk.new w 34 #[.int .i64 0, .int .i64 0, .int .i64 0, .int .i64 0, .int .u64 0, .slice none 0 0, .slice none 0 0, .slice none 0 0, .slice none 0 0]).alloc (.cells #[.slice A b.length c, .int .i64 0] 73)).alloc (.cells #[.int .i64 0, .int .i64 0, .int .i64 0, .int .i64 0, .int .u64 0, .slice none 0 0, .slice none 0 0, .slice none 0 0, .slice none 0 0] 34)
  have U2 := (Blk.new (w.alloc (.cells #[.int .i64 0, .int .i64 0, .int .i64 0, .int .i64 0, .int .u64 0, .slice none 0 0, .slice none 0 0, .slice none 0 0, .slice none 0 0] 34)) 73 #[.slice A b.length c, .int .i64 0]).alloc (.cells #[.int .i64 0, .int .i64 0, .int .i64 0, .int .i64 0, .int .u64 0, .slice none 0 0, .slice none 0 0, .slice none 0 0, .slice none 0 0] 34)
  have U3 := Blk.new ((w.alloc (.cells #[.int .i64 0, .int .i64 0, .int .i64 0, .int .i64 0, .int .u64 0, .slice none 0 0, .slice none 0 0, .slice none 0 0, .slice none 0 0] 34)).alloc (.cells #[.slice A b.length c, .int .i64 0] 73)) 34 #[.int .i64 0, .int .i64 0, .int .i64 0, .int .i64 0, .int .u64 0, .slice none 0 0, .slice none 0 0, .slice none 0 0, .slice none 0 0]
  have e1 : (w.alloc (.cells #[.int .i64 0, .int .i64 0, .int .i64 0, .int .i64 0, .int .u64 0, .slice none 0 0, .slice none 0 0, .slice none 0 0, .slice none 0 0] 34)).heap.size = w.heap.size + 1 := by simp
  have e2 : ((w.alloc (.cells #[.int .i64 0, .int .i64 0, .int .i64 0, .int .i64 0, .int .u64 0, .slice none 0 0, .slice none 0 0, .slice none 0 0, .slice none 0 0] 34)).alloc (.cells #[.slice A b.length c, .int .i64 0] 73)).heap.size = w.heap.size + 1 + 1 := by simp
  rw [e1] at U2
  rw [e2] at U3
  clear e1 e2
  have HBD : Hid (b = [] ∨ ∀ a, A = some a → a.block < w.heap.size) := Lib.hid (row_bound HRB.out)
  have HRW := Lib.hid (HRB.out.below b0)
  go_enter Try.func11, Try.ntmps11
  go_upto_region 3 with fail
  have hst : RgX w w.heap.size ⟨b, 0⟩ #[.int .i64 0, .int .i64 0, .int .i64 0, .int .i64 0, .int .u64 0, .slice none 0 0, .slice none 0 0, .slice none 0 0, .slice none 0 0] (((w.alloc (.cells #[.int .i64 0, .int .i64 0, .int .i64 0, .int .i64 0, .int .u64 0, .slice none 0 0, .slice none 0 0, .slice none 0 0, .slice none 0 0] 34)).alloc (.cells #[.slice A b.length c, .int .i64 0] 73)).alloc (.cells #[.int .i64 0, .int .i64 0, .int .i64 0, .int .i64 0, .int .u64 0, .slice none 0 0, .slice none 0 0, .slice none 0 0, .slice none 0 0] 34)) := ⟨⟨A, b.length, c, U2, rfl, ⟨hcap, hlen⟩, hmx, HRW.out, HBD.out⟩, U3, U1, b0⟩
  have HST := Lib.hid hst
  clear hst U1 U2 U3 b0 HRW HBD
  generalize ((w.alloc (.cells #[.int .i64 0, .int .i64 0, .int .i64 0, .int .i64 0, .int .u64 0, .slice none 0 0, .slice none 0 0, .slice none 0 0, .slice none 0 0] 34)).alloc (.cells #[.slice A b.length c, .int .i64 0] 73)).alloc (.cells #[.int .i64 0, .int .i64 0, .int .i64 0, .int .i64 0, .int .u64 0, .slice none 0 0, .slice none 0 0, .slice none 0 0, .slice none 0 0] 34) = w0 at *
  obtain ⟨g, hg⟩ : ∃ g, w.heap.size = g := ⟨_, rfl⟩
  have HG := Lib.hid hg
  rw [hg] at HST
  simp only [hg]
  clear hg
  obtain ⟨p, hp⟩ : ∃ p, CodeM.Rd.fixed 1 ⟨b, 0⟩ = p := ⟨_, rfl⟩
  obtain ⟨kk1, r1⟩ := p
  have hk1 : kk1 < 256 := by have := StmM.fixed_lt1 ⟨b, 0⟩; rw [hp] at this; exact this
  have HC := refnumI_any (g + 1) ⟨b, 0⟩ 1 w0 HST.out.rd (by omega)
  rw [hp] at HC
  have HK1 := Lib.hid hp
  obtain ⟨k, hk⟩ : ∃ k : Int, (kk1 : Int) = k := ⟨_, rfl⟩
  simp only [hk] at HC
  have hwk : IntKind.i64.wrap k = k := by rw [IntKind.wrap_i64]; omega
  have HKR : Hid (-9223372036854775808 ≤ k ∧ k < 9223372036854775808) := Lib.hid (by omega)
  have HKK := Lib.hid hk
  clear hp hk hk1
  go_wp2_with fail
  refine HC.mono ?_
  rintro e u0 ⟨rfl, hR0, hg0⟩
  have hX0 := HST.out.call hR0 hg0
  have fz0 := hX0.x.frozen 0
  have cz0 := hX0.x.cell 0
  simp only [List.getElem?_toArray, List.getElem?_cons_zero, List.getElem?_cons_succ] at cz0
  have hN0 : RgX w g r1 #[.int .i64 k, .int .i64 0, .int .i64 0, .int .i64 0, .int .u64 0, .slice none 0 0, .slice none 0 0, .slice none 0 0, .slice none 0 0] (u0.setCell ⟨g + 1 + 1, 0, none⟩ (.int .i64 k)) := hX0.set 0 (.int .i64 k)
  have H1 := Lib.hid hN0
  clear HC hR0 hg0 hX0 hN0 HST
  go_upto_region 4 with fail
  generalize u0.setCell ⟨g + 1 + 1, 0, none⟩ (.int .i64 k) = w1 at *
  clear fz0 cz0 hwk
  have dk := H1.out.x.c9.1
  go_cut [23] from 22 to 124 (fun v23 wc => v23 = .int .i64 k ∧ wc = w1)
  case first =>
    go_wp2
    go_meet
    case rel => exact ⟨rfl, rfl⟩
  obtain ⟨rfl, hwc⟩ := hcut
  obtain rfl : w1 = wc := hwc.symm
  go_step
  go_cut [] from 24 to 124 (fun wc => ∃ (y : Rpv) (r : CodeM.Rd), RgDone w g b y r wc)
  case first =>
    by_cases k1 : k = 1
    · subst k1
      as_aux_lemma =>
      go_upto_region 6 with fail
      obtain ⟨pp1, hp1⟩ : ∃ p, r1.fixed 1 = p := ⟨_, rfl⟩
      obtain ⟨v1, r2⟩ := pp1
      have HC1 := refnumI_any (g + 1) r1 1 w1 H1.out.rd (by omega)
      rw [hp1] at HC1
      have HP1 := Lib.hid hp1
      have hv1 : v1 < 256 := by have := StmM.fixed_lt1 r1; rw [hp1] at this; exact this
      have HV1 := Lib.hid hv1
      have cw1 := int_u8 hv1
      clear hp1 hv1
      go_wp2_with fail
      refine HC1.mono ?_
      rintro e u1 ⟨rfl, hR1, hg1⟩
      have hX1 := H1.out.call hR1 hg1
      have fz1 := hX1.x.frozen 1
      have cz1 := hX1.x.cell 1
      simp only [List.getElem?_toArray, List.getElem?_cons_zero, List.getElem?_cons_succ] at cz1
      have hN1 : RgX w g r2 #[.int .i64 1, .int .i64 (v1 : Int), .int .i64 0, .int .i64 0, .int .u64 0, .slice none 0 0, .slice none 0 0, .slice none 0 0, .slice none 0 0] (u1.setCell ⟨g + 1 + 1, 1, none⟩ (.int .i64 (v1 : Int))) := hX1.set 1 (.int .i64 (v1 : Int))
      have H2 := Lib.hid hN1
      
      clear HC1 hR1 hg1 hX1 hN1
      go_wp2_with fail
      generalize u1.setCell ⟨g + 1 + 1, 1, none⟩ (.int .i64 (v1 : Int)) = w2 at *
      clear fz1 cz1
      go_meet
      case rel => exact ⟨⟨1, (v1 : Int), 0, 0, ⟨StmM.no, none, 0, none, 0⟩, none, 0, [], none, 0, []⟩, r2, rpv_flat (by decide) (by have := HV1.out; omega) (by decide) (by decide), rpv_flat_fr, fun x hx hm hf => RepM.doc_1 hm hf HK1.out HKK.out rfl HP1.out, H2.out⟩
    by_cases k2 : k = 2
    · subst k2
      as_aux_lemma =>
      go_upto_region 8 with fail
      obtain ⟨pp1, hp1⟩ : ∃ p, r1.fixed 1 = p := ⟨_, rfl⟩
      obtain ⟨v1, r2⟩ := pp1
      have HC1 := refnumI_any (g + 1) r1 1 w1 H1.out.rd (by omega)
      rw [hp1] at HC1
      have HP1 := Lib.hid hp1
      have hv1 : v1 < 256 := by have := StmM.fixed_lt1 r1; rw [hp1] at this; exact this
      have HV1 := Lib.hid hv1
      have cw1 := int_u8 hv1
      clear hp1 hv1
      go_wp2_with fail
      refine HC1.mono ?_
      rintro e u1 ⟨rfl, hR1, hg1⟩
      have hX1 := H1.out.call hR1 hg1
      have fz1 := hX1.x.frozen 2
      have cz1 := hX1.x.cell 2
      simp only [List.getElem?_toArray, List.getElem?_cons_zero, List.getElem?_cons_succ] at cz1
      have hN1 : RgX w g r2 #[.int .i64 2, .int .i64 0, .int .i64 (v1 : Int), .int .i64 0, .int .u64 0, .slice none 0 0, .slice none 0 0, .slice none 0 0, .slice none 0 0] (u1.setCell ⟨g + 1 + 1, 2, none⟩ (.int .i64 (v1 : Int))) := hX1.set 2 (.int .i64 (v1 : Int))
      have H2 := Lib.hid hN1
      
      clear HC1 hR1 hg1 hX1 hN1
      go_upto_region 9 with fail
      generalize u1.setCell ⟨g + 1 + 1, 2, none⟩ (.int .i64 (v1 : Int)) = w2 at *
      clear fz1 cz1
      obtain ⟨pp2, hp2⟩ : ∃ p, r2.fixed 2 = p := ⟨_, rfl⟩
      obtain ⟨v2, r3⟩ := pp2
      have HC2 := refnumI_any (g + 1) r2 2 w2 H2.out.rd (by omega)
      rw [hp2] at HC2
      have HP2 := Lib.hid hp2
      have hv2 : v2 < 65536 := by have := RepM.fixed_lt2 r2; rw [hp2] at this; exact this
      have HV2 := Lib.hid hv2
      have cw2 : IntKind.i64.wrap (v2 : Int) = (v2 : Int) := by rw [IntKind.wrap_i64]; omega
      clear hp2 hv2
      go_wp2_with fail
      refine HC2.mono ?_
      rintro e u2 ⟨rfl, hR2, hg2⟩
      have hX2 := H2.out.call hR2 hg2
      have fz2 := hX2.x.frozen 3
      have cz2 := hX2.x.cell 3
      simp only [List.getElem?_toArray, List.getElem?_cons_zero, List.getElem?_cons_succ] at cz2
      have hN2 : RgX w g r3 #[.int .i64 2, .int .i64 0, .int .i64 (v1 : Int), .int .i64 (v2 : Int), .int .u64 0, .slice none 0 0, .slice none 0 0, .slice none 0 0, .slice none 0 0] (u2.setCell ⟨g + 1 + 1, 3, none⟩ (.int .i64 (v2 : Int))) := hX2.set 3 (.int .i64 (v2 : Int))
      have H3 := Lib.hid hN2
      
      clear HC2 hR2 hg2 hX2 hN2
      go_wp2_with fail
      generalize u2.setCell ⟨g + 1 + 1, 3, none⟩ (.int .i64 (v2 : Int)) = w3 at *
      clear fz2 cz2
      go_meet
      case rel => exact ⟨⟨2, 0, (v1 : Int), (v2 : Int), ⟨StmM.no, none, 0, none, 0⟩, none, 0, [], none, 0, []⟩, r3, rpv_flat (by decide) (by decide) (by have := HV1.out; omega) (by have := HV2.out; omega), rpv_flat_fr, fun x hx hm hf => RepM.doc_2 hm hf HK1.out HKK.out rfl HP1.out HP2.out, H3.out⟩
    by_cases k3 : k = 3
    · subst k3
      as_aux_lemma =>
      go_upto_region 11 with fail
      obtain ⟨A1, n1, c1, hB1, hl1, hcap1, hmx1, hrow1, hbd1⟩ := H1.out.rd
      obtain rfl : r1.l.length = n1 := hl1
      have q0 := hB1.cell 0
      simp only [List.getElem?_toArray, List.getElem?_cons_zero] at q0
      have HC := Lib.hid (refitemread_any A1 c1 r1.l w1 hrow1 hcap1.1 hmx1 hcap1.2)
      clear hB1 hcap1 hmx1 hrow1 hbd1
      go_wp2_with fail
      refine HC.out.mono ?_
      cases hri : ItemM.readR r1.l with
      | none =>
        rintro e u1 ⟨rfl, hb⟩
        have hno : RR = none := HRR.out.symm.trans (RepM.doc_3no HK1.out HKK.out rfl hri)
        subst hno
        have HW := Lib.hid (H1.out.below hb)
        have hb2 : Below u1.heap.size u1 (u1.alloc (.cells #[.int .u64 0, .slice none 0 0, .slice none 0 0] 30)) := (Below.refl _ _).alloc (Nat.le_refl _) _
        have HW2 := Lib.hid (HW.out.below hb2)
        have hres := HW2.out.res
        clear hb hri HC
        go_wp2_with (first | (refine wpList_store_row rfl _ (.tmp 2) (.tmp 52) rfl g #[.int .i64 0, .int .i64 0, .int .i64 0, .int .i64 0, .int .u64 0, .slice none 0 0, .slice none 0 0, .slice none 0 0, .slice none 0 0] (by go_simp) (by go_simp) _ _ hres (by kernel_rfl) rfl (by simp [Value.oneCell']) ?_))
        refine ret_cell rfl g #[.int .i64 0, .int .i64 0, .int .i64 0, .int .i64 0, .int .u64 0, .slice none 0 0, .slice none 0 0, .slice none 0 0, .slice none 0 0] _ rfl (hres.setRow_ _) Try.underlying34 rfl (by kernel_rfl) rfl ?_
        exact ⟨rfl, by rw [HG.out]; exact below_grown HW2.out.bel (grownBy_setRow _ _ _) HW2.out.size (Nat.le_refl _)⟩
      | some it =>
        rintro e u1 ⟨A3, n3, c3, A4, n4, c4, rfl, hn3, hn4, hO3, hO4, hb⟩
        obtain rfl : it.vec.length = n3 := hn3.out
        obtain rfl : it.note.length = n4 := hn4.out
        have hba : Below u1.heap.size u1 (u1.alloc (.cells #[.int .u64 (it.key : Int), .slice A3 it.vec.length c3, .slice A4 it.note.length c4] 30)) := (Below.refl _ _).alloc (Nat.le_refl _) _
        have hbb := hb.trans (hba.mono hb.size)
        have HW := Lib.hid (H1.out.below hbb)
        have HT := Lib.hid (Blk.new u1 30 #[.int .u64 (it.key : Int), .slice A3 it.vec.length c3, .slice A4 it.note.length c4])
        have HIK := (ItemM.read_inv (b := r1.l) hri).2.2
        have HIT := Lib.hid ((ItO.mk (s := ⟨it, A3, c3, A4, c4⟩) hO3 hO4 HIK).below hba)
        have hgu : Hid (g + 1 + 1 < w1.heap.size) := Lib.hid H1.out.x.lt
        have HRI := Lib.hid hri
        clear hn3 hn4 hO3 hO4 hb hba hbb hri HC
        go_upto_region 14 with fail
        generalize hu2 : u1.alloc (.cells #[.int .u64 (it.key : Int), .slice A3 it.vec.length c3, .slice A4 it.note.length c4] 30) = u2 at *
        generalize hgt : u1.heap.size = gt at *
        clear hu2 hgt
        obtain ⟨dd0, dd1, dd2⟩ : u2.cell? ⟨gt, 0, none⟩ = some (.int .u64 (it.key : Int)) ∧ u2.cell? ⟨gt, 1, none⟩ = some (.slice A3 it.vec.length c3) ∧ u2.cell? ⟨gt, 2, none⟩ = some (.slice A4 it.note.length c4) := ⟨HT.out.cell 0, HT.out.cell 1, HT.out.cell 2⟩
        have fz4 := HW.out.x.frozen 4
        have fz5 := HW.out.x.frozen 5
        have fz6 := HW.out.x.frozen 6
        obtain ⟨d0, d1, d2, d3, d4, d5, d6, d7, d8⟩ := HW.out.x.c9
        clear d0 d1 d2 d3 d7 d8
        have hs : RgX w g r1 #[.int .i64 3, .int .i64 0, .int .i64 0, .int .i64 0, .int .u64 (it.key : Int), .slice A3 it.vec.length c3, .slice A4 it.note.length c4, .slice none 0 0, .slice none 0 0] (((u2.setCell ⟨g + 1 + 1, 4, none⟩ (.int .u64 (it.key : Int))).setCell ⟨g + 1 + 1, 5, none⟩ (.slice A3 it.vec.length c3)).setCell ⟨g + 1 + 1, 6, none⟩ (.slice A4 it.note.length c4)) := ((HW.out.set 4 (.int .u64 (it.key : Int))).set 5 (.slice A3 it.vec.length c3)).set 6 (.slice A4 it.note.length c4)
        have gx1 := grownBy_setCell u2 (g + 1 + 1) 4 (.int .u64 (it.key : Int))
        have gx2 := grownBy_setCell (u2.setCell ⟨g + 1 + 1, 4, none⟩ (.int .u64 (it.key : Int))) (g + 1 + 1) 5 (.slice A3 it.vec.length c3)
        have gx3 := grownBy_setCell ((u2.setCell ⟨g + 1 + 1, 4, none⟩ (.int .u64 (it.key : Int))).setCell ⟨g + 1 + 1, 5, none⟩ (.slice A3 it.vec.length c3)) (g + 1 + 1) 6 (.slice A4 it.note.length c4)
        have H2 := Lib.hid hs
        have HI2 := Lib.hid (((HIT.out.kept gx1 hgu.out).kept gx2 hgu.out).kept gx3 hgu.out)
        clear hs gx1 gx2 gx3
        go_wp2_with fail
        generalize ((u2.setCell ⟨g + 1 + 1, 4, none⟩ (.int .u64 (it.key : Int))).setCell ⟨g + 1 + 1, 5, none⟩ (.slice A3 it.vec.length c3)).setCell ⟨g + 1 + 1, 6, none⟩ (.slice A4 it.note.length c4) = u3 at *
        clear fz4 fz5 fz6 d4 d5 d6 dd0 dd1 dd2
        go_meet
        case rel => exact ⟨⟨3, 0, 0, 0, ⟨it, A3, c3, A4, c4⟩, none, 0, [], none, 0, []⟩, r1, ⟨HI2.out.at_, .inl rfl, nofun, .inl rfl, ⟨(by simp [Rpv.x]), (by simp [Rpv.x]), (by simp [Rpv.x]), (by simp [Rpv.x]), HI2.out.ok, nofun, nofun⟩, Nat.le_refl _, Nat.le_refl _, Nat.zero_le _, Nat.zero_le _⟩, ⟨HI2.out.fr.1.mono (by have := hgu.out; omega), HI2.out.fr.2.mono (by have := hgu.out; omega), Fresh.none, nofun, Fresh.none⟩, fun x hx hm hf => (by have hd := RepM.doc_3 hx hm hf HK1.out HKK.out rfl; have e2 := hd.2.1; rw [HRI.out] at e2; injection e2 with e2; subst e2; exact ⟨hd.1, hd.2.2⟩), H2.out⟩
    by_cases k4 : k = 4
    · subst k4
      as_aux_lemma =>
      go_upto_region 16 with fail
      obtain ⟨pu, hpu⟩ : ∃ p, r1.uv = p := ⟨_, rfl⟩
      obtain ⟨nu, r2⟩ := pu
      have HC2 := refuvI_any (g + 1) r1 w1 H1.out.rd
      have hn64 : nu < 18446744073709551616 := by have := uv_lt r1; rw [hpu] at this; exact this
      rw [hpu] at HC2
      have HPU := Lib.hid hpu
      clear hpu
      go_wp2_with fail
      refine HC2.mono ?_
      rintro e u2 ⟨rfl, hR2, hg2⟩
      have H3 := Lib.hid (H1.out.call hR2 hg2)
      have HS3 : Hid (g + 1 + 1 + 1 ≤ u2.heap.size) := Lib.hid H3.out.x.lt
      clear HC2 hR2 hg2
      go_wp2
      go_loopw [9] (fun i wr => ∃ (k : Nat) (qA : Option Addr) (qc : Nat) (l : List Itv), i = .int .u64 (k : Int) ∧ k ≤ nu ∧ k ≤ 51 ∧ Hid (Q4 w g r2 k wr qA qc l)) (fun i _ => nu - (RowKit.intOf i).toNat)
      case atStart => exact ⟨0, none, 0, [], rfl, Nat.zero_le _, Nat.zero_le _, Lib.hid ⟨H3.out, OwnV.nil_ _ _, nofun, rfl⟩⟩
      case round =>
        obtain ⟨k, qA, qc, l, rfl, hk, hk4, HI⟩ := hrel
        have ce := HI.out.1.rd.c1
        clear H3 HS3
        by_cases hlt : k < nu
        · by_cases h4 : k ≤ 50
          · by_cases he : (RepM.seqs RepM.oneI k r2).2.e = 0
            · rw [he] at ce
              obtain ⟨pt, hpt⟩ : ∃ p, (RepM.seqs RepM.oneI k r2).2.text 17500 = p := ⟨_, rfl⟩
              obtain ⟨tx, r'⟩ := pt
              have HT := Lib.hid (reftextI_any (g + 1) (RepM.seqs RepM.oneI k r2).2 17500 wr HI.out.1.rd (by decide) (by decide))
              rw [hpt] at HT
              have HTL : Hid (tx.length ≤ 17500) := Lib.hid (by have := text_len (RepM.seqs RepM.oneI k r2).2 17500; rw [hpt] at this; simp only at this; omega)
              have HPT := Lib.hid hpt
              have HLT := Lib.hid hlt
              clear he hpt
              go_wp2_with fail
              refine HT.out.mono ?_
              rintro e u1 ⟨tA, tn, tc, rfl, hn, hO, hR, hg1⟩
              obtain rfl : tx.length = tn := hn.out
              have hB1 := HI.out.1.call hR hg1
              have HC := Lib.hid (refitemread_any tA tc tx u1 hO.row hO.le.1 hO.le.2 (by have := HTL.out; omega))
              have hg3 : g + 1 < g + 1 + 1 + 1 := by omega
              have HI1 : Hid (RgX w g r' #[.int .i64 4, .int .i64 0, .int .i64 0, .int .i64 0, .int .u64 0, .slice none 0 0, .slice none 0 0, .slice qA k qc, .slice none 0 0] u1 ∧ OwnV u1 (g + 1 + 1 + 1) qA k qc l ∧ (∀ s ∈ l, ItO u1 (g + 1 + 1 + 1) s) ∧ l.map (·.x) = (RepM.seqs RepM.oneI k r2).1) := Lib.hid ⟨hB1, ownsRow_keptA HI.out.2.1 hg1 hg3, fun s hs => (HI.out.2.2.1 s hs).kept hg1 hg3, HI.out.2.2.2⟩
              have HS1 : Hid (g + 1 + 1 + 1 ≤ u1.heap.size) := Lib.hid hB1.x.lt
              clear hn hO hR hg1 hB1 HT HI ce hg3
              go_wp2_with fail
              refine HC.out.mono ?_
              cases hri : ItemM.readR tx with
              | none =>
                rintro e u2 ⟨rfl, hb⟩
                have hno : RR = none := HRR.out.symm.trans (RepM.doc_4no HK1.out HKK.out rfl HPU.out HLT.out (by rw [HPT.out]; exact hri))
                subst hno
                have HW := Lib.hid (HI1.out.1.below hb)
                have hb2 : Below u2.heap.size u2 (u2.alloc (.cells #[.int .u64 0, .slice none 0 0, .slice none 0 0] 30)) := (Below.refl _ _).alloc (Nat.le_refl _) _
                have HW2 := Lib.hid (HW.out.below hb2)
                have hres := HW2.out.res
                clear hb hri HC HI1
                go_wp2_with (first | (refine wpList_store_row rfl _ (.tmp 2) (.tmp 84) rfl g #[.int .i64 0, .int .i64 0, .int .i64 0, .int .i64 0, .int .u64 0, .slice none 0 0, .slice none 0 0, .slice none 0 0, .slice none 0 0] (by go_simp) (by go_simp) _ _ hres (by kernel_rfl) rfl (by simp [Value.oneCell']) ?_))
                refine ret_cell rfl g #[.int .i64 0, .int .i64 0, .int .i64 0, .int .i64 0, .int .u64 0, .slice none 0 0, .slice none 0 0, .slice none 0 0, .slice none 0 0] _ rfl (hres.setRow_ _) Try.underlying34 rfl (by kernel_rfl) rfl ?_
                exact ⟨rfl, by rw [HG.out]; exact below_grown HW2.out.bel (grownBy_setRow _ _ _) HW2.out.size (Nat.le_refl _)⟩
              | some it =>
                rintro e u2 ⟨A3, n3, c3, A4, n4, c4, rfl, hn3, hn4, hO3, hO4, hb⟩
                obtain rfl : it.vec.length = n3 := hn3.out
                obtain rfl : it.note.length = n4 := hn4.out
                obtain ⟨s, hse⟩ : ∃ s : Itv, s = ⟨it, A3, c3, A4, c4⟩ := ⟨_, rfl⟩
                have hit : ItO u2 u1.heap.size s := by rw [hse]; exact ⟨hO3, hO4, (ItemM.read_inv (b := tx) hri).2.2⟩
                have hone : RepM.oneI (RepM.seqs RepM.oneI k r2).2 = (s.x, r') := by show ((ItemM.readR ((RepM.seqs RepM.oneI k r2).2.text 17500).1).getD StmM.no, ((RepM.seqs RepM.oneI k r2).2.text 17500).2) = _; rw [HPT.out]; simp only; rw [hri, hse]; rfl
                have HON := Lib.hid hone
                rw [show (Value.agg #[.int .u64 (it.key : Int), .slice A3 it.vec.length c3, .slice A4 it.note.length c4]) = .agg #[.int .u64 (s.x.key : Int), .slice s.A s.x.vec.length s.c, .slice s.A2 s.x.note.length s.c2] by rw [hse]]
                have hba : Below u2.heap.size u2 (u2.alloc (.cells #[.int .u64 (s.x.key : Int), .slice s.A s.x.vec.length s.c, .slice s.A2 s.x.note.length s.c2] 30)) := (Below.refl _ _).alloc (Nat.le_refl _) _
                have hbb := hb.trans (hba.mono hb.size)
                have HI2 : Hid (RgX w g r' #[.int .i64 4, .int .i64 0, .int .i64 0, .int .i64 0, .int .u64 0, .slice none 0 0, .slice none 0 0, .slice qA k qc, .slice none 0 0] (u2.alloc (.cells #[.int .u64 (s.x.key : Int), .slice s.A s.x.vec.length s.c, .slice s.A2 s.x.note.length s.c2] 30)) ∧ OwnV (u2.alloc (.cells #[.int .u64 (s.x.key : Int), .slice s.A s.x.vec.length s.c, .slice s.A2 s.x.note.length s.c2] 30)) (g + 1 + 1 + 1) qA k qc l ∧ (∀ q ∈ l, ItO (u2.alloc (.cells #[.int .u64 (s.x.key : Int), .slice s.A s.x.vec.length s.c, .slice s.A2 s.x.note.length s.c2] 30)) (g + 1 + 1 + 1) q) ∧ l.map (·.x) = (RepM.seqs RepM.oneI k r2).1) := Lib.hid ⟨HI1.out.1.below hbb, World.ownsRow.alloc (ownsRow_below HI1.out.2.1 hb) _, fun s hs => (HI1.out.2.2.1 s hs).below hbb, HI1.out.2.2.2⟩
                have HIT := Lib.hid ((hit.below hba).base_ HS1.out)
                have HTB := Lib.hid (Blk.new u2 30 #[.int .u64 (s.x.key : Int), .slice s.A s.x.vec.length s.c, .slice s.A2 s.x.note.length s.c2])
                have HS2 : Hid (g + 1 + 1 + 1 ≤ (u2.alloc (.cells #[.int .u64 (s.x.key : Int), .slice s.A s.x.vec.length s.c, .slice s.A2 s.x.note.length s.c2] 30)).heap.size) := Lib.hid (Nat.le_trans HS1.out hbb.size)
                clear hn3 hn4 hO3 hO4 hb hba hbb hri HC hit hone hse HI1
                go_upto_region 23 with fail
                generalize hu3 : u2.alloc (.cells #[.int .u64 (s.x.key : Int), .slice s.A s.x.vec.length s.c, .slice s.A2 s.x.note.length s.c2] 30) = u3 at *
                generalize hgt : u2.heap.size = gt at *
                clear hu3 hgt
                obtain ⟨dd0, dd1, dd2⟩ : u3.cell? ⟨gt, 0, none⟩ = some (.int .u64 (s.x.key : Int)) ∧ u3.cell? ⟨gt, 1, none⟩ = some (.slice s.A s.x.vec.length s.c) ∧ u3.cell? ⟨gt, 2, none⟩ = some (.slice s.A2 s.x.note.length s.c2) := ⟨HTB.out.cell 0, HTB.out.cell 1, HTB.out.cell 2⟩
                have d7 := HI2.out.1.x.c9.2.2.2.2.2.2.2.1
                have hba : Below u3.heap.size u3 (u3.alloc (.cells #[.int .u64 (s.x.key : Int), .slice s.A s.x.vec.length s.c, .slice s.A2 s.x.note.length s.c2] 30)) := (Below.refl _ _).alloc (Nat.le_refl _) _
                have HI3 : Hid (RgX w g r' #[.int .i64 4, .int .i64 0, .int .i64 0, .int .i64 0, .int .u64 0, .slice none 0 0, .slice none 0 0, .slice qA k qc, .slice none 0 0] (u3.alloc (.cells #[.int .u64 (s.x.key : Int), .slice s.A s.x.vec.length s.c, .slice s.A2 s.x.note.length s.c2] 30)) ∧ OwnV (u3.alloc (.cells #[.int .u64 (s.x.key : Int), .slice s.A s.x.vec.length s.c, .slice s.A2 s.x.note.length s.c2] 30)) (g + 1 + 1 + 1) qA k qc l ∧ (∀ q ∈ l, ItO (u3.alloc (.cells #[.int .u64 (s.x.key : Int), .slice s.A s.x.vec.length s.c, .slice s.A2 s.x.note.length s.c2] 30)) (g + 1 + 1 + 1) q) ∧ ItO (u3.alloc (.cells #[.int .u64 (s.x.key : Int), .slice s.A s.x.vec.length s.c, .slice s.A2 s.x.note.length s.c2] 30)) (g + 1 + 1 + 1) s ∧ g + 1 + 1 + 1 ≤ (u3.alloc (.cells #[.int .u64 (s.x.key : Int), .slice s.A s.x.vec.length s.c, .slice s.A2 s.x.note.length s.c2] 30)).heap.size) := Lib.hid ⟨HI2.out.1.below hba, World.ownsRow.alloc HI2.out.2.1 _, fun s hs => (HI2.out.2.2.1 s hs).below hba, HIT.out.below hba, Nat.le_trans HS2.out hba.size⟩
                have HM := Lib.hid HI2.out.2.2.2
                clear hba HI2 HIT HTB
                obtain ⟨i0, hi0, hz0, hz1, hz2⟩ := info_parts info_item
                go_wp2_with (at_builtin; refine wpl_append _ rfl (.tmp 87) (.tmp 89) _ rfl (g + 1 + 1 + 1) 30 i0 _ 3 56 Try.underlying31 hi0 hz0 hz1 hz2 rfl (by omega) (.slice qA k qc) k (l.flatMap Itv.cells) rfl HI3.out.2.1 (some ⟨u3.heap.size, 0, none⟩) 1 1 (Itv.cells s) rfl rfl (row_cs rfl) (by intro u hu; simp [Itv.cells] at hu; rcases hu with rfl | rfl | rfl <;> rfl) (by unfold maxLen; omega) (by omega) HI3.out.2.2.2.2 ?_)
                intro A' c' w4 hO4 hg4 _
                have hx4 := HI3.out.1.row HI3.out.2.1 hg4
                have fz7 := hx4.x.frozen 7
                have cz7 := hx4.x.cell 7
                simp only [List.getElem?_toArray, List.getElem?_cons_zero, List.getElem?_cons_succ] at cz7
                have gs := grownBy_setCell w4 (g + 1 + 1) 7 (.slice A' (k + 1) c')
                have hg23 : g + 1 + 1 < g + 1 + 1 + 1 := by omega
                have HZ : Hid (Q4 w g r2 (k + 1) (w4.setCell ⟨g + 1 + 1, 7, none⟩ (.slice A' (k + 1) c')) A' c' (l ++ [s])) := Lib.hid (by
                  refine ⟨?_, ?_, fun s' hs' => ?_, ?_⟩
                  · have := hx4.set 7 (.slice A' (k + 1) c')
                    rw [show (RepM.seqs RepM.oneI (k + 1) r2).2 = (RepM.oneI (RepM.seqs RepM.oneI k r2).2).2 from rfl, HON.out]
                    exact this
                  · refine ownsRow_keptA ?_ gs hg23
                    show World.ownsRow w4 _ _ _ _ _ ((l ++ [s]).flatMap Itv.cells)
                    rw [List.flatMap_append]
                    simpa using hO4
                  · refine ItO.kept ?_ gs hg23
                    rcases List.mem_append.1 hs' with q | q
                    · exact (HI3.out.2.2.1 s' q).row HI3.out.2.1 (by decide) (by decide) hg4
                    · rw [List.mem_singleton.1 q]; exact HI3.out.2.2.2.1.row HI3.out.2.1 (by decide) (by decide) hg4
                  · show (l ++ [s]).map (·.x) = (RepM.seqs RepM.oneI k r2).1 ++ [(RepM.oneI (RepM.seqs RepM.oneI k r2).2).1]
                    rw [List.map_append, HM.out, HON.out]; rfl)
                clear hO4 hg4 hx4 gs d7 dd0 dd1 dd2 HI3 HM
                go_wp2
                go_roundw
                case rel => exact ⟨k + 1, A', c', l ++ [s], by go_num, by omega, by omega, HZ⟩
                case measure => simp [RowKit.intOf]; omega
            · have HEN : Hid (RepM.Enough k nu (RepM.seqs RepM.oneI k r2).2.e) := Lib.hid ⟨hk, .inr (.inr he)⟩
              have hd : (((RepM.seqs RepM.oneI k r2).2.e : Int) == 0) = false := beq_eq_false_iff_ne.2 (by omega)
              clear he
              go_wp2_with fail
              clear ce
              have hln := HI.out.2.1.get.2
              have HLN := Lib.hid hln
              obtain rfl : l.length = k := hln
              go_meet
              case rel => exact ⟨⟨4, 0, 0, 0, ⟨StmM.no, none, 0, none, 0⟩, qA, qc, l, none, 0, []⟩, (RepM.seqs RepM.oneI l.length r2).2, ⟨nilItv_at _, HI.out.2.1.get.1, fun i hi => (HI.out.2.2.1 i hi).at_, .inl rfl, ⟨(by simp [Rpv.x]), (by simp [Rpv.x]), (by simp [Rpv.x]), (by simp [Rpv.x]), StmM.no_ok, fun i hi => by obtain ⟨s, hs, rfl⟩ := List.mem_map.1 hi; exact (HI.out.2.2.1 s hs).ok, nofun⟩, (own_le HI.out.2.1 rfl).1, Nat.le_refl _, (own_le HI.out.2.1 rfl).2, Nat.zero_le _⟩, ⟨Fresh.none, Fresh.none, (fresh_own HI.out.2.1).mono (by omega), fun i hi => ⟨(HI.out.2.2.1 i hi).fr.1.mono (by omega), (HI.out.2.2.1 i hi).fr.2.mono (by omega)⟩, Fresh.none⟩, fun x hx hm hf => (by have hd := RepM.doc_4 hx hm hf HK1.out HKK.out rfl HPU.out (i := l.length) HEN.out; rw [← HI.out.2.2.2] at hd; exact hd), HI.out.1⟩
          · have HEN : Hid (RepM.Enough k nu (RepM.seqs RepM.oneI k r2).2.e) := Lib.hid ⟨hk, .inr (.inl (by omega))⟩
            go_wp2_with fail
            clear ce
            have hln := HI.out.2.1.get.2
            have HLN := Lib.hid hln
            obtain rfl : l.length = k := hln
            go_meet
            case rel => exact ⟨⟨4, 0, 0, 0, ⟨StmM.no, none, 0, none, 0⟩, qA, qc, l, none, 0, []⟩, (RepM.seqs RepM.oneI l.length r2).2, ⟨nilItv_at _, HI.out.2.1.get.1, fun i hi => (HI.out.2.2.1 i hi).at_, .inl rfl, ⟨(by simp [Rpv.x]), (by simp [Rpv.x]), (by simp [Rpv.x]), (by simp [Rpv.x]), StmM.no_ok, fun i hi => by obtain ⟨s, hs, rfl⟩ := List.mem_map.1 hi; exact (HI.out.2.2.1 s hs).ok, nofun⟩, (own_le HI.out.2.1 rfl).1, Nat.le_refl _, (own_le HI.out.2.1 rfl).2, Nat.zero_le _⟩, ⟨Fresh.none, Fresh.none, (fresh_own HI.out.2.1).mono (by omega), fun i hi => ⟨(HI.out.2.2.1 i hi).fr.1.mono (by omega), (HI.out.2.2.1 i hi).fr.2.mono (by omega)⟩, Fresh.none⟩, fun x hx hm hf => (by have hd := RepM.doc_4 hx hm hf HK1.out HKK.out rfl HPU.out (i := l.length) HEN.out; rw [← HI.out.2.2.2] at hd; exact hd), HI.out.1⟩
        · have HEN : Hid (RepM.Enough k nu (RepM.seqs RepM.oneI k r2).2.e) := Lib.hid ⟨hk, .inl (by omega)⟩
          go_wp2_with fail
          clear ce
          have hln := HI.out.2.1.get.2
          have HLN := Lib.hid hln
          obtain rfl : l.length = k := hln
          go_meet
          case rel => exact ⟨⟨4, 0, 0, 0, ⟨StmM.no, none, 0, none, 0⟩, qA, qc, l, none, 0, []⟩, (RepM.seqs RepM.oneI l.length r2).2, ⟨nilItv_at _, HI.out.2.1.get.1, fun i hi => (HI.out.2.2.1 i hi).at_, .inl rfl, ⟨(by simp [Rpv.x]), (by simp [Rpv.x]), (by simp [Rpv.x]), (by simp [Rpv.x]), StmM.no_ok, fun i hi => by obtain ⟨s, hs, rfl⟩ := List.mem_map.1 hi; exact (HI.out.2.2.1 s hs).ok, nofun⟩, (own_le HI.out.2.1 rfl).1, Nat.le_refl _, (own_le HI.out.2.1 rfl).2, Nat.zero_le _⟩, ⟨Fresh.none, Fresh.none, (fresh_own HI.out.2.1).mono (by omega), fun i hi => ⟨(HI.out.2.2.1 i hi).fr.1.mono (by omega), (HI.out.2.2.1 i hi).fr.2.mono (by omega)⟩, Fresh.none⟩, fun x hx hm hf => (by have hd := RepM.doc_4 hx hm hf HK1.out HKK.out rfl HPU.out (i := l.length) HEN.out; rw [← HI.out.2.2.2] at hd; exact hd), HI.out.1⟩
    by_cases k5 : k = 5
    · subst k5
      as_aux_lemma =>
      go_upto_region 25 with fail
      obtain ⟨pu, hpu⟩ : ∃ p, r1.uv = p := ⟨_, rfl⟩
      obtain ⟨nu, r2⟩ := pu
      have HC2 := refuvI_any (g + 1) r1 w1 H1.out.rd
      have hn64 : nu < 18446744073709551616 := by have := uv_lt r1; rw [hpu] at this; exact this
      rw [hpu] at HC2
      have HPU := Lib.hid hpu
      clear hpu
      go_wp2_with fail
      refine HC2.mono ?_
      rintro e u2 ⟨rfl, hR2, hg2⟩
      have H3 := Lib.hid (H1.out.call hR2 hg2)
      have HS3 : Hid (g + 1 + 1 + 1 ≤ u2.heap.size) := Lib.hid H3.out.x.lt
      clear HC2 hR2 hg2
      go_wp2
      go_loopw [13] (fun i wr => ∃ (k : Nat) (qA : Option Addr) (qc : Nat), i = .int .u64 (k : Int) ∧ k ≤ nu ∧ k ≤ 51 ∧ Hid (Q5 w g r2 k wr qA qc)) (fun i _ => nu - (RowKit.intOf i).toNat)
      case atStart => exact ⟨0, none, 0, rfl, Nat.zero_le _, Nat.zero_le _, Lib.hid ⟨H3.out, OwnH.nil_ _ _⟩⟩
      case round =>
        obtain ⟨k, qA, qc, rfl, hk, hk4, HI⟩ := hrel
        have ce := HI.out.1.rd.c1
        clear H3 HS3
        by_cases hlt : k < nu
        · by_cases h4 : k ≤ 50
          · by_cases he : (RepM.seqs RepM.oneH k r2).2.e = 0
            · rw [he] at ce
              obtain ⟨p1, hp1⟩ : ∃ p, (RepM.seqs RepM.oneH k r2).2.fixed 8 = p := ⟨_, rfl⟩
              obtain ⟨v1, r3⟩ := p1
              obtain ⟨p2, hp2⟩ : ∃ p, r3.fixed 8 = p := ⟨_, rfl⟩
              obtain ⟨v2, r4⟩ := p2
              have hone : RepM.oneH (RepM.seqs RepM.oneH k r2).2 = ((v1, RepM.i64 v2), r4) := by show ((((RepM.seqs RepM.oneH k r2).2.fixed 8).1, RepM.i64 (((RepM.seqs RepM.oneH k r2).2.fixed 8).2.fixed 8).1), (((RepM.seqs RepM.oneH k r2).2.fixed 8).2.fixed 8).2) = _; rw [hp1]; simp only; rw [hp2]
              have HON := Lib.hid hone
              have HP2 := Lib.hid hp2
              have cw2 : IntKind.i64.wrap (v2 : Int) = RepM.i64 v2 := by rw [IntKind.wrap_i64]; unfold RepM.i64; omega
              have hba : Below wr.heap.size wr (wr.alloc (.cells #[.int .u64 0, .int .i64 0] 67)) := (Below.refl _ _).alloc (Nat.le_refl _) _
              have HIa : Hid (RgX w g (RepM.seqs RepM.oneH k r2).2 #[.int .i64 5, .int .i64 0, .int .i64 0, .int .i64 0, .int .u64 0, .slice none 0 0, .slice none 0 0, .slice none 0 0, .slice qA k qc] (wr.alloc (.cells #[.int .u64 0, .int .i64 0] 67)) ∧ OwnH (wr.alloc (.cells #[.int .u64 0, .int .i64 0] 67)) (g + 1 + 1 + 1) qA k qc (RepM.seqs RepM.oneH k r2).1) := Lib.hid ⟨HI.out.1.below hba, World.ownsRow.alloc HI.out.2 _⟩
              have HTB := Lib.hid (Blk.new wr 67 #[.int .u64 0, .int .i64 0])
              have HNB : Hid ((Value.slice qA k qc).ownBlock ≠ some wr.heap.size ∧ g + 1 + 1 < wr.heap.size) := Lib.hid ⟨fun q => by have := (World.ownsRow.lt HI.out.2 _ q).2; omega, HI.out.1.x.lt⟩
              clear he hone hp2 hba HI
              go_upto_region 30 with fail
              generalize wr.alloc (.cells #[.int .u64 0, .int .i64 0] 67) = wa at *
              generalize hgt : wr.heap.size = gt at *
              clear hgt
              have HC := refnumI_any (g + 1) (RepM.seqs RepM.oneH k r2).2 8 wa HIa.out.1.rd (by omega)
              rw [hp1] at HC
              clear hp1 ce
              go_wp2_with fail
              refine HC.mono ?_
              rintro e u1 ⟨rfl, hR1, hg1⟩
              have hx1 := HIa.out.1.call hR1 hg1
              have hO1 := ownsRow_keptA HIa.out.2 hg1 (by omega)
              have ht1 := HTB.out.grown hg1 (by have := HNB.out; intro q; injection q with q; omega)
              have fz0 := ht1.frozen 0
              have cz0 := ht1.cell 0
              simp only [List.getElem?_toArray, List.getElem?_cons_zero] at cz0
              have gs0 := grownBy_setCell u1 gt 0 (.int .u64 (v1 : Int))
              have HX2 := Lib.hid (hx1.own gs0 HNB.out.2)
              have HO2 := Lib.hid (World.ownsRow.kept hO1 gs0 (by
                cases q : (Value.slice qA k qc).ownBlock with
                | none => exact .inl rfl
                | some y => exact .inr (by have := HNB.out.1; rw [q] at this; exact this)))
              have HT2 : Hid (Blk (u1.setCell ⟨gt, 0, none⟩ (.int .u64 (v1 : Int))) gt 67 #[.int .u64 (v1 : Int), .int .i64 0]) := Lib.hid (ht1.set_ 0 (.int .u64 (v1 : Int)))
              clear hR1 hg1 hx1 hO1 ht1 gs0 HIa HTB HC
              go_upto_region 31 with fail
              clear fz0 cz0
              generalize u1.setCell ⟨gt, 0, none⟩ (.int .u64 (v1 : Int)) = wb at *
              have HC := refnumI_any (g + 1) r3 8 wb HX2.out.rd (by omega)
              rw [HP2.out] at HC
              go_wp2_with fail
              refine HC.mono ?_
              rintro e u2 ⟨rfl, hR1, hg1⟩
              have hx1 := HX2.out.call hR1 hg1
              have hO1 := ownsRow_keptA HO2.out hg1 (by omega)
              have ht1 := HT2.out.grown hg1 (by have := HNB.out; intro q; injection q with q; omega)
              have fz1 := ht1.frozen 1
              have cz1 := ht1.cell 1
              simp only [List.getElem?_toArray, List.getElem?_cons_zero, List.getElem?_cons_succ] at cz1
              have gs1 := grownBy_setCell u2 gt 1 (.int .i64 (RepM.i64 v2))
              have HX3 := Lib.hid (hx1.own gs1 HNB.out.2)
              have HO3 := Lib.hid (World.ownsRow.kept hO1 gs1 (by
                cases q : (Value.slice qA k qc).ownBlock with
                | none => exact .inl rfl
                | some y => exact .inr (by have := HNB.out.1; rw [q] at this; exact this)))
              have HT3 : Hid (Blk (u2.setCell ⟨gt, 1, none⟩ (.int .i64 (RepM.i64 v2))) gt 67 #[.int .u64 (v1 : Int), .int .i64 (RepM.i64 v2)]) := Lib.hid (ht1.set_ 1 (.int .i64 (RepM.i64 v2)))
              clear hR1 hg1 hx1 hO1 ht1 gs1 HX2 HO2 HT2 HC
              go_upto_region 32 with fail
              clear fz1 cz1 cw2
              generalize u2.setCell ⟨gt, 1, none⟩ (.int .i64 (RepM.i64 v2)) = u3 at *
              obtain ⟨dd0, dd1⟩ := HT3.out.c2
              have d8 := HX3.out.x.c9.2.2.2.2.2.2.2.2
              have hba : Below u3.heap.size u3 (u3.alloc (.cells #[.int .u64 (v1 : Int), .int .i64 (RepM.i64 v2)] 67)) := (Below.refl _ _).alloc (Nat.le_refl _) _
              have HI3 : Hid (RgX w g r4 #[.int .i64 5, .int .i64 0, .int .i64 0, .int .i64 0, .int .u64 0, .slice none 0 0, .slice none 0 0, .slice none 0 0, .slice qA k qc] (u3.alloc (.cells #[.int .u64 (v1 : Int), .int .i64 (RepM.i64 v2)] 67)) ∧ OwnH (u3.alloc (.cells #[.int .u64 (v1 : Int), .int .i64 (RepM.i64 v2)] 67)) (g + 1 + 1 + 1) qA k qc (RepM.seqs RepM.oneH k r2).1 ∧ g + 1 + 1 + 1 ≤ (u3.alloc (.cells #[.int .u64 (v1 : Int), .int .i64 (RepM.i64 v2)] 67)).heap.size) := Lib.hid ⟨HX3.out.below hba, World.ownsRow.alloc HO3.out _, Nat.le_trans HX3.out.x.lt hba.size⟩
              clear hba HX3 HO3 HT3
              obtain ⟨i0, hi0, hz0, hz1, hz2⟩ := info_parts info_hit
              go_wp2_with (at_builtin; refine wpl_append _ rfl (.tmp 120) (.tmp 122) _ rfl (g + 1 + 1 + 1) 67 i0 _ 2 16 Try.underlying32 hi0 hz0 hz1 hz2 rfl (by omega) (.slice qA k qc) k ((RepM.seqs RepM.oneH k r2).1.flatMap hitC) rfl HI3.out.2.1 (some ⟨u3.heap.size, 0, none⟩) 1 1 (hitC (v1, RepM.i64 v2)) rfl rfl (row_cs rfl) (by intro u hu; simp [hitC] at hu; rcases hu with rfl | rfl <;> rfl) (by unfold maxLen; omega) (by omega) HI3.out.2.2 ?_)
              intro A' c' w4 hO4 hg4 _
              have hx4 := HI3.out.1.row HI3.out.2.1 hg4
              have fz8 := hx4.x.frozen 8
              have cz8 := hx4.x.cell 8
              simp only [List.getElem?_toArray, List.getElem?_cons_zero, List.getElem?_cons_succ] at cz8
              have gs := grownBy_setCell w4 (g + 1 + 1) 8 (.slice A' (k + 1) c')
              have hg23 : g + 1 + 1 < g + 1 + 1 + 1 := by omega
              have HZ : Hid (Q5 w g r2 (k + 1) (w4.setCell ⟨g + 1 + 1, 8, none⟩ (.slice A' (k + 1) c')) A' c') := Lib.hid (by
                refine ⟨?_, ?_⟩
                · have := hx4.set 8 (.slice A' (k + 1) c')
                  rw [show (RepM.seqs RepM.oneH (k + 1) r2).2 = (RepM.oneH (RepM.seqs RepM.oneH k r2).2).2 from rfl, HON.out]
                  exact this
                · refine ownsRow_keptA ?_ gs hg23
                  show World.ownsRow w4 _ _ _ _ _ (((RepM.seqs RepM.oneH k r2).1 ++ [(RepM.oneH (RepM.seqs RepM.oneH k r2).2).1]).flatMap hitC)
                  rw [List.flatMap_append, HON.out]
                  simpa using hO4)
              clear hO4 hg4 hx4 gs d8 dd0 dd1 HI3
              go_wp2
              go_roundw
              case rel => exact ⟨k + 1, A', c', by go_num, by omega, by omega, HZ⟩
              case measure => simp [RowKit.intOf]; omega
            · have HEN : Hid (RepM.Enough k nu (RepM.seqs RepM.oneH k r2).2.e) := Lib.hid ⟨hk, .inr (.inr he)⟩
              have hd : (((RepM.seqs RepM.oneH k r2).2.e : Int) == 0) = false := beq_eq_false_iff_ne.2 (by omega)
              clear he
              go_wp2_with fail
              clear ce
              obtain ⟨LQ, hLQ⟩ : ∃ L, RepM.seqs RepM.oneH k r2 = L := ⟨_, rfl⟩
              have HLQ := Lib.hid hLQ
              unfold Q5 at HI
              rw [hLQ] at HI
              obtain ⟨lx, r3⟩ := LQ
              have hln := HI.out.2.get.2
              obtain rfl : lx.length = k := hln
              have HOK : Hid (∀ h ∈ lx, h.1 < 18446744073709551616 ∧ -9223372036854775808 ≤ h.2 ∧ h.2 < 9223372036854775808) := Lib.hid (by have := RepM.seqs_all RepM.oneH (fun h : Nat × Int => h.1 < 18446744073709551616 ∧ -9223372036854775808 ≤ h.2 ∧ h.2 < 9223372036854775808) RepM.oneH_ok lx.length r2; rw [hLQ] at this; exact this)
              clear hLQ
              go_meet
              case rel => exact ⟨⟨5, 0, 0, 0, ⟨StmM.no, none, 0, none, 0⟩, none, 0, [], qA, qc, lx⟩, r3, ⟨nilItv_at _, .inl rfl, nofun, HI.out.2.get.1, ⟨(by simp [Rpv.x]), (by simp [Rpv.x]), (by simp [Rpv.x]), (by simp [Rpv.x]), StmM.no_ok, nofun, HOK.out⟩, Nat.le_refl _, (own_le HI.out.2 rfl).1, Nat.zero_le _, (own_le HI.out.2 rfl).2⟩, ⟨Fresh.none, Fresh.none, Fresh.none, nofun, (fresh_own HI.out.2).mono (by omega)⟩, fun x hx hm hf => (by have hd := RepM.doc_5 hx hm hf HK1.out HKK.out rfl HPU.out (i := lx.length) HEN.out; rw [HLQ.out] at hd; exact hd), HI.out.1⟩
          · have HEN : Hid (RepM.Enough k nu (RepM.seqs RepM.oneH k r2).2.e) := Lib.hid ⟨hk, .inr (.inl (by omega))⟩
            go_wp2_with fail
            clear ce
            obtain ⟨LQ, hLQ⟩ : ∃ L, RepM.seqs RepM.oneH k r2 = L := ⟨_, rfl⟩
            have HLQ := Lib.hid hLQ
            unfold Q5 at HI
            rw [hLQ] at HI
            obtain ⟨lx, r3⟩ := LQ
            have hln := HI.out.2.get.2
            obtain rfl : lx.length = k := hln
            have HOK : Hid (∀ h ∈ lx, h.1 < 18446744073709551616 ∧ -9223372036854775808 ≤ h.2 ∧ h.2 < 9223372036854775808) := Lib.hid (by have := RepM.seqs_all RepM.oneH (fun h : Nat × Int => h.1 < 18446744073709551616 ∧ -9223372036854775808 ≤ h.2 ∧ h.2 < 9223372036854775808) RepM.oneH_ok lx.length r2; rw [hLQ] at this; exact this)
            clear hLQ
            go_meet
            case rel => exact ⟨⟨5, 0, 0, 0, ⟨StmM.no, none, 0, none, 0⟩, none, 0, [], qA, qc, lx⟩, r3, ⟨nilItv_at _, .inl rfl, nofun, HI.out.2.get.1, ⟨(by simp [Rpv.x]), (by simp [Rpv.x]), (by simp [Rpv.x]), (by simp [Rpv.x]), StmM.no_ok, nofun, HOK.out⟩, Nat.le_refl _, (own_le HI.out.2 rfl).1, Nat.zero_le _, (own_le HI.out.2 rfl).2⟩, ⟨Fresh.none, Fresh.none, Fresh.none, nofun, (fresh_own HI.out.2).mono (by omega)⟩, fun x hx hm hf => (by have hd := RepM.doc_5 hx hm hf HK1.out HKK.out rfl HPU.out (i := lx.length) HEN.out; rw [HLQ.out] at hd; exact hd), HI.out.1⟩
        · have HEN : Hid (RepM.Enough k nu (RepM.seqs RepM.oneH k r2).2.e) := Lib.hid ⟨hk, .inl (by omega)⟩
          go_wp2_with fail
          clear ce
          obtain ⟨LQ, hLQ⟩ : ∃ L, RepM.seqs RepM.oneH k r2 = L := ⟨_, rfl⟩
          have HLQ := Lib.hid hLQ
          unfold Q5 at HI
          rw [hLQ] at HI
          obtain ⟨lx, r3⟩ := LQ
          have hln := HI.out.2.get.2
          obtain rfl : lx.length = k := hln
          have HOK : Hid (∀ h ∈ lx, h.1 < 18446744073709551616 ∧ -9223372036854775808 ≤ h.2 ∧ h.2 < 9223372036854775808) := Lib.hid (by have := RepM.seqs_all RepM.oneH (fun h : Nat × Int => h.1 < 18446744073709551616 ∧ -9223372036854775808 ≤ h.2 ∧ h.2 < 9223372036854775808) RepM.oneH_ok lx.length r2; rw [hLQ] at this; exact this)
          clear hLQ
          go_meet
          case rel => exact ⟨⟨5, 0, 0, 0, ⟨StmM.no, none, 0, none, 0⟩, none, 0, [], qA, qc, lx⟩, r3, ⟨nilItv_at _, .inl rfl, nofun, HI.out.2.get.1, ⟨(by simp [Rpv.x]), (by simp [Rpv.x]), (by simp [Rpv.x]), (by simp [Rpv.x]), StmM.no_ok, nofun, HOK.out⟩, Nat.le_refl _, (own_le HI.out.2 rfl).1, Nat.zero_le _, (own_le HI.out.2 rfl).2⟩, ⟨Fresh.none, Fresh.none, Fresh.none, nofun, (fresh_own HI.out.2).mono (by omega)⟩, fun x hx hm hf => (by have hd := RepM.doc_5 hx hm hf HK1.out HKK.out rfl HPU.out (i := lx.length) HEN.out; rw [HLQ.out] at hd; exact hd), HI.out.1⟩
    have h1 : (k == 1) = false := beq_eq_false_iff_ne.2 k1
    have h2 : (k == 2) = false := beq_eq_false_iff_ne.2 k2
    have h3 : (k == 3) = false := beq_eq_false_iff_ne.2 k3
    have h4 : (k == 4) = false := beq_eq_false_iff_ne.2 k4
    have h5 : (k == 5) = false := beq_eq_false_iff_ne.2 k5
    go_wp2_with fail
    go_meet
    case rel => exact ⟨⟨k, 0, 0, 0, ⟨StmM.no, none, 0, none, 0⟩, none, 0, [], none, 0, []⟩, r1, rpv_flat HKR.out (by decide) (by decide) (by decide), rpv_flat_fr, fun x hx hm hf => RepM.doc_other hm hf HK1.out HKK.out ⟨k1, k2, k3, k4, k5⟩, H1.out⟩
  obtain ⟨y, r9, hat, hfr3, hdd, hzz⟩ := hcut
  have HAT := Lib.hid hat
  have HF3 := Lib.hid hfr3
  have HFR : Hid (y.Fr g) := Lib.hid (HF3.out.mono (by omega))
  have HD := Lib.hid hdd
  have HZ := Lib.hid hzz
  clear hat hfr3 hdd hzz
  go_upto_region 33 with fail
  have hrd := RepM.readT_doc HAT.out.ok HD.out
  have HRD := Lib.hid (HRR.out.symm.trans hrd)
  obtain ⟨P1, h1⟩ : ∃ p : Bool, ((r9.e : Int) != 0) = p := ⟨_, rfl⟩
  obtain ⟨P2, h2, k2⟩ := or_letter2 P1 (!RepM.mayR y.x)
  obtain ⟨P3, h3, k3⟩ := or_letter2 P2 (!decide (RepM.formR y.x = b))
  have Q1 := Lib.hid h1
  have Q2 : Hid ((P1 = true → P2 = true) ∧ (P1 = false → RepM.mayR y.x = !P2)) := Lib.hid ⟨h2.1, fun q => by rw [← h2.2 q, Bool.not_not]⟩
  have Q3 := Lib.hid h3
  have Q4 : Hid (P2 = false → RepM.mayR y.x = true) := Lib.hid (fun q => by have := (k2.1 q).2; simpa using this)
  have Q5 : Hid (P3 = false ↔ ¬ (r9.e ≠ 0 ∨ RepM.mayR y.x = false ∨ RepM.formR y.x ≠ b)) := Lib.hid (by
    rw [k3, k2, ← h1]
    simp [and_assoc])
  clear hrd h1 h2 h3 k2 k3
  refine wp_named fun a0 ha0 => ?_
  have z0 : a0.tmps.getD 0 undef = (.slice A b.length c) := by rw [ha0.out]; rfl
  have z4 : a0.tmps.getD 4 undef = (.pointer (some ⟨g + 1, 0, none⟩)) := by rw [ha0.out]; rfl
  have z5 : a0.tmps.getD 5 undef = (.pointer (some ⟨g + 1 + 1, 0, none⟩)) := by rw [ha0.out]; rfl
  have hsz0 : a0.tmps.size = 145 := by rw [ha0.out]; rfl
  refine wp_region_invB _ (by kernel_rfl) (fun L a wv => ∃ fA fn fc, PIF a0 [125, 126, 127, 128, 129, 130, 131, 132, 133, 134, 135, 136, 137, 138, 139, 140, 141, 142] (rt33P A c b g y r9.e P1 P2 P3 fA fn fc) L a ∧ Below wc.heap.size wc wv ∧ (L 12 = true → P2 = false → Row wv fA (bs (RepM.formR y.x)) ∧ (RepM.formR y.x).length = fn)) (by kernel_rfl) ?_ ?_ ?_
  · exact ⟨none, 0, 0, PIF.start _ _ _, ⟨rfl, rfl, rfl, Nat.le_refl _, fun _ _ => rfl⟩, fun q => by cases q⟩
  rotate_left
  · as_aux_lemma =>
    refine ⟨?_, ?_, ?_, ?_, ?_, ?_, ?_, ?_, ?_, ?_, ?_, ?_, ?_, ?_, ?_, ?_, ?_, ?_, trivial⟩
    · intro L a w1 hI hi hd
      obtain ⟨fA, fn, fc, hp, hw⟩ := hI
      have t4 := hp.at_ 4 _ rfl z4
      have t4' := t4
      rw [Array.getD_eq_getD_getElem?] at t4'
      exact rstep_valW (wanted_none rfl _) (.pointer (some ⟨g + 1, 0, none⟩)) w1 (by go_simp) ⟨fA, fn, fc, (hp.put 0 125 (.pointer (some ⟨g + 1, 0, none⟩)) (by simp [rt33P]) (by simp [rt33P]) rfl (by rw [hsz0]; exact (by decide : 125 < 145))), ⟨hw.1, by rw [upd_ne L (show (12 : Nat) ≠ 0 by decide)]; exact hw.2⟩⟩
    · intro L a w1 hI hi hd
      obtain ⟨fA, fn, fc, hp, hw⟩ := hI
      simp [Region.binds] at hd
      have e0 : a.tmps.getD 125 undef = (.pointer (some ⟨g + 1, 0, none⟩)) := hp.pu (0, 125, (.pointer (some ⟨g + 1, 0, none⟩))) (by simp [rt33P]) (by simp [hd])
      have f0 : a.tmps[125]?.getD undef = (.pointer (some ⟨g + 1, 0, none⟩)) := by rw [← Array.getD_eq_getD_getElem?]; exact e0
      exact rstep_valW (wanted_none rfl _) (.pointer (some ⟨g + 1, 0, none⟩)) w1 (by go_simp) ⟨fA, fn, fc, (hp.put 1 126 (.pointer (some ⟨g + 1, 0, none⟩)) (by simp [rt33P]) (by simp [rt33P]) rfl (by rw [hsz0]; exact (by decide : 126 < 145))), ⟨hw.1, by rw [upd_ne L (show (12 : Nat) ≠ 1 by decide)]; exact hw.2⟩⟩
    · intro L a w1 hI hi hd
      obtain ⟨fA, fn, fc, hp, hw⟩ := hI
      simp [Region.binds] at hd
      have e1 : a.tmps.getD 126 undef = (.pointer (some ⟨g + 1, 0, none⟩)) := hp.pu (1, 126, (.pointer (some ⟨g + 1, 0, none⟩))) (by simp [rt33P]) (by simp [hd])
      have f1 : a.tmps[126]?.getD undef = (.pointer (some ⟨g + 1, 0, none⟩)) := by rw [← Array.getD_eq_getD_getElem?]; exact e1
      exact rstep_valW (wanted_none rfl _) (.pointer (some ⟨g + 1, 1, none⟩)) w1 (by go_simp) ⟨fA, fn, fc, (hp.put 2 127 (.pointer (some ⟨g + 1, 1, none⟩)) (by simp [rt33P]) (by simp [rt33P]) rfl (by rw [hsz0]; exact (by decide : 127 < 145))), ⟨hw.1, by rw [upd_ne L (show (12 : Nat) ≠ 2 by decide)]; exact hw.2⟩⟩
    · intro L a w1 hI hi hd
      obtain ⟨fA, fn, fc, hp, hw⟩ := hI
      simp [Region.binds] at hd
      have e2 : a.tmps.getD 127 undef = (.pointer (some ⟨g + 1, 1, none⟩)) := hp.pu (2, 127, (.pointer (some ⟨g + 1, 1, none⟩))) (by simp [rt33P]) (by simp [hd])
      have f2 : a.tmps[127]?.getD undef = (.pointer (some ⟨g + 1, 1, none⟩)) := by rw [← Array.getD_eq_getD_getElem?]; exact e2
      have c1 := (HZ.out.below hw.1).rd.c1
      exact rstep_valW (wanted_none rfl _) (.int .i64 (r9.e : Int)) w1 (by go_simp) ⟨fA, fn, fc, (hp.put 3 128 (.int .i64 (r9.e : Int)) (by simp [rt33P]) (by simp [rt33P]) rfl (by rw [hsz0]; exact (by decide : 128 < 145))), ⟨hw.1, by rw [upd_ne L (show (12 : Nat) ≠ 3 by decide)]; exact hw.2⟩⟩
    · intro L a w1 hI hi hd
      obtain ⟨fA, fn, fc, hp, hw⟩ := hI
      simp [Region.binds] at hd
      have e3 : a.tmps.getD 128 undef = (.int .i64 (r9.e : Int)) := hp.pu (3, 128, (.int .i64 (r9.e : Int))) (by simp [rt33P]) (by simp [hd])
      have f3 : a.tmps[128]?.getD undef = (.int .i64 (r9.e : Int)) := by rw [← Array.getD_eq_getD_getElem?]; exact e3
      have hq := Q1.out
      exact rstep_valW (wanted_none rfl _) (.bool P1) w1 (by go_simp) ⟨fA, fn, fc, (hp.put 4 129 (.bool P1) (by simp [rt33P]) (by simp [rt33P]) rfl (by rw [hsz0]; exact (by decide : 129 < 145))), ⟨hw.1, by rw [upd_ne L (show (12 : Nat) ≠ 4 by decide)]; exact hw.2⟩⟩
    · intro L a w1 hI hi hd
      obtain ⟨fA, fn, fc, hp, hw⟩ := hI
      simp [Region.binds] at hd
      have e4 : a.tmps.getD 129 undef = (.bool P1) := hp.pu (4, 129, (.bool P1)) (by simp [rt33P]) (by simp [hd])
      have f4 : a.tmps[129]?.getD undef = (.bool P1) := by rw [← Array.getD_eq_getD_getElem?]; exact e4
      exact rstep_valW (wanted_none rfl _) (.bool P1) w1 (by go_simp) ⟨fA, fn, fc, (hp.put 5 130 (.bool P1) (by simp [rt33P]) (by simp [rt33P]) rfl (by rw [hsz0]; exact (by decide : 130 < 145))), ⟨hw.1, by rw [upd_ne L (show (12 : Nat) ≠ 5 by decide)]; exact hw.2⟩⟩
    · intro L a w1 hI hi hd
      obtain ⟨fA, fn, fc, hp, hw⟩ := hI
      simp [Region.binds] at hd
      have e5 : a.tmps.getD 130 undef = (.bool P1) := hp.pu (5, 130, (.bool P1)) (by simp [rt33P]) (by simp [hd])
      have f5 : a.tmps[130]?.getD undef = (.bool P1) := by rw [← Array.getD_eq_getD_getElem?]; exact e5
      have t5 := hp.at_ 5 _ rfl z5
      have t5' := t5
      rw [Array.getD_eq_getD_getElem?] at t5'
      cases P1 with
      | true =>
        try simp only [cond_true, cond_false] at e5 f5
        exact rstep_un (unwanted_of 5 130 false true (by decide) rfl rfl e5) ⟨fA, fn, fc, (hp.put 6 131 undef (by simp [rt33P]) (by simp [rt33P]) rfl (by rw [hsz0]; exact (by decide : 131 < 145))), ⟨hw.1, by rw [upd_ne L (show (12 : Nat) ≠ 6 by decide)]; exact hw.2⟩⟩
      | false =>
        try simp only [cond_true, cond_false] at e5 f5
        exact rstep_valW (wanted_of 5 130 false rfl rfl e5) (.agg y.cells) w1 (exec_load_row _ (.tmp 5) rfl (g + 1 + 1) t5 _ _ _ (HZ.out.below hw.1).x Try.underlying34 rfl (by kernel_rfl)) ⟨fA, fn, fc, (hp.put 6 131 (.agg y.cells) (by simp [rt33P]) (by simp [rt33P]) rfl (by rw [hsz0]; exact (by decide : 131 < 145))), ⟨hw.1, by rw [upd_ne L (show (12 : Nat) ≠ 6 by decide)]; exact hw.2⟩⟩
    · intro L a w1 hI hi hd
      obtain ⟨fA, fn, fc, hp, hw⟩ := hI
      simp [Region.binds] at hd
      have e5 : a.tmps.getD 130 undef = (.bool P1) := hp.pu (5, 130, (.bool P1)) (by simp [rt33P]) (by simp [hd])
      have f5 : a.tmps[130]?.getD undef = (.bool P1) := by rw [← Array.getD_eq_getD_getElem?]; exact e5
      have e6 : a.tmps.getD 131 undef = (bif P1 then undef else (.agg y.cells)) := hp.pu (6, 131, (bif P1 then undef else (.agg y.cells))) (by simp [rt33P]) (by simp [hd])
      have f6 : a.tmps[131]?.getD undef = (bif P1 then undef else (.agg y.cells)) := by rw [← Array.getD_eq_getD_getElem?]; exact e6
      cases P1 with
      | true =>
        try simp only [cond_true, cond_false] at e5 f5 e6 f6
        exact rstep_un (unwanted_of 5 130 false true (by decide) rfl rfl e5) ⟨fA, fn, fc, (hp.put 7 132 undef (by simp [rt33P]) (by simp [rt33P]) rfl (by rw [hsz0]; exact (by decide : 132 < 145))), ⟨hw.1, by rw [upd_ne L (show (12 : Nat) ≠ 7 by decide)]; exact hw.2⟩⟩
      | false =>
        try simp only [cond_true, cond_false] at e5 f5 e6 f6
        have HAW := HAT.out.below hw.1
        refine rstep_callW (wanted_of 5 130 false rfl rfl e5) 26 #[(.agg y.cells)] (by go_simp) ?_
        refine (refmaytell_any y w1 HAW).mono ?_
        rintro e w2 ⟨rfl, hb2⟩
        rw [Q2.out.2 rfl]
        exact ⟨fA, fn, fc, (hp.put 7 132 (.bool (!P2)) (by simp [rt33P]) (by simp [rt33P]) rfl (by rw [hsz0]; exact (by decide : 132 < 145))), ⟨below_join hw.1 hb2, by rw [upd_ne L (show (12 : Nat) ≠ 7 by decide)]; exact fun q p => ⟨(hw.2 q p).1.below hb2, (hw.2 q p).2⟩⟩⟩
    · intro L a w1 hI hi hd
      obtain ⟨fA, fn, fc, hp, hw⟩ := hI
      simp [Region.binds] at hd
      have e5 : a.tmps.getD 130 undef = (.bool P1) := hp.pu (5, 130, (.bool P1)) (by simp [rt33P]) (by simp [hd])
      have f5 : a.tmps[130]?.getD undef = (.bool P1) := by rw [← Array.getD_eq_getD_getElem?]; exact e5
      have e7 : a.tmps.getD 132 undef = (bif P1 then undef else (.bool (!P2))) := hp.pu (7, 132, (bif P1 then undef else (.bool (!P2)))) (by simp [rt33P]) (by simp [hd])
      have f7 : a.tmps[132]?.getD undef = (bif P1 then undef else (.bool (!P2))) := by rw [← Array.getD_eq_getD_getElem?]; exact e7
      cases P1 with
      | true =>
        try simp only [cond_true, cond_false] at e5 f5 e7 f7
        exact rstep_un (unwanted_of 5 130 false true (by decide) rfl rfl e5) ⟨fA, fn, fc, (hp.put 8 133 undef (by simp [rt33P]) (by simp [rt33P]) rfl (by rw [hsz0]; exact (by decide : 133 < 145))), ⟨hw.1, by rw [upd_ne L (show (12 : Nat) ≠ 8 by decide)]; exact hw.2⟩⟩
      | false =>
        try simp only [cond_true, cond_false] at e5 f5 e7 f7
        exact rstep_valW (wanted_of 5 130 false rfl rfl e5) (.bool P2) w1 (by go_simp) ⟨fA, fn, fc, (hp.put 8 133 (.bool P2) (by simp [rt33P]) (by simp [rt33P]) rfl (by rw [hsz0]; exact (by decide : 133 < 145))), ⟨hw.1, by rw [upd_ne L (show (12 : Nat) ≠ 8 by decide)]; exact hw.2⟩⟩
    · intro L a w1 hI hi hd
      obtain ⟨fA, fn, fc, hp, hw⟩ := hI
      simp [Region.binds] at hd
      have e5 : a.tmps.getD 130 undef = (.bool P1) := hp.pu (5, 130, (.bool P1)) (by simp [rt33P]) (by simp [hd])
      have f5 : a.tmps[130]?.getD undef = (.bool P1) := by rw [← Array.getD_eq_getD_getElem?]; exact e5
      have e8 : a.tmps.getD 133 undef = (bif P1 then undef else (.bool P2)) := hp.pu (8, 133, (bif P1 then undef else (.bool P2))) (by simp [rt33P]) (by simp [hd])
      have f8 : a.tmps[133]?.getD undef = (bif P1 then undef else (.bool P2)) := by rw [← Array.getD_eq_getD_getElem?]; exact e8
      cases P1 with
      | true =>
        try simp only [cond_true, cond_false] at e5 f5 e8 f8
        obtain rfl : P2 = true := Q2.out.1 rfl
        exact rstep_valW (wanted_none rfl _) (.bool true) w1 (by go_simp) ⟨fA, fn, fc, (hp.put 9 134 (.bool true) (by simp [rt33P]) (by simp [rt33P]) rfl (by rw [hsz0]; exact (by decide : 134 < 145))), ⟨hw.1, by rw [upd_ne L (show (12 : Nat) ≠ 9 by decide)]; exact hw.2⟩⟩
      | false =>
        try simp only [cond_true, cond_false] at e5 f5 e8 f8
        exact rstep_valW (wanted_none rfl _) (.bool P2) w1 (by go_simp) ⟨fA, fn, fc, (hp.put 9 134 (.bool P2) (by simp [rt33P]) (by simp [rt33P]) rfl (by rw [hsz0]; exact (by decide : 134 < 145))), ⟨hw.1, by rw [upd_ne L (show (12 : Nat) ≠ 9 by decide)]; exact hw.2⟩⟩
    · intro L a w1 hI hi hd
      obtain ⟨fA, fn, fc, hp, hw⟩ := hI
      simp [Region.binds] at hd
      have e9 : a.tmps.getD 134 undef = (.bool P2) := hp.pu (9, 134, (.bool P2)) (by simp [rt33P]) (by simp [hd])
      have f9 : a.tmps[134]?.getD undef = (.bool P2) := by rw [← Array.getD_eq_getD_getElem?]; exact e9
      exact rstep_valW (wanted_none rfl _) (.bool P2) w1 (by go_simp) ⟨fA, fn, fc, (hp.put 10 135 (.bool P2) (by simp [rt33P]) (by simp [rt33P]) rfl (by rw [hsz0]; exact (by decide : 135 < 145))), ⟨hw.1, by rw [upd_ne L (show (12 : Nat) ≠ 10 by decide)]; exact hw.2⟩⟩
    · intro L a w1 hI hi hd
      obtain ⟨fA, fn, fc, hp, hw⟩ := hI
      simp [Region.binds] at hd
      have e10 : a.tmps.getD 135 undef = (.bool P2) := hp.pu (10, 135, (.bool P2)) (by simp [rt33P]) (by simp [hd])
      have f10 : a.tmps[135]?.getD undef = (.bool P2) := by rw [← Array.getD_eq_getD_getElem?]; exact e10
      have t5 := hp.at_ 5 _ rfl z5
      have t5' := t5
      rw [Array.getD_eq_getD_getElem?] at t5'
      cases P2 with
      | true =>
        try simp only [cond_true, cond_false] at e10 f10
        exact rstep_un (unwanted_of 10 135 false true (by decide) rfl rfl e10) ⟨fA, fn, fc, (hp.put 11 136 undef (by simp [rt33P]) (by simp [rt33P]) rfl (by rw [hsz0]; exact (by decide : 136 < 145))), ⟨hw.1, by rw [upd_ne L (show (12 : Nat) ≠ 11 by decide)]; exact hw.2⟩⟩
      | false =>
        try simp only [cond_true, cond_false] at e10 f10
        exact rstep_valW (wanted_of 10 135 false rfl rfl e10) (.agg y.cells) w1 (exec_load_row _ (.tmp 5) rfl (g + 1 + 1) t5 _ _ _ (HZ.out.below hw.1).x Try.underlying34 rfl (by kernel_rfl)) ⟨fA, fn, fc, (hp.put 11 136 (.agg y.cells) (by simp [rt33P]) (by simp [rt33P]) rfl (by rw [hsz0]; exact (by decide : 136 < 145))), ⟨hw.1, by rw [upd_ne L (show (12 : Nat) ≠ 11 by decide)]; exact hw.2⟩⟩
    · intro L a w1 hI hi hd
      obtain ⟨fA, fn, fc, hp, hw⟩ := hI
      simp [Region.binds] at hd
      have e10 : a.tmps.getD 135 undef = (.bool P2) := hp.pu (10, 135, (.bool P2)) (by simp [rt33P]) (by simp [hd])
      have f10 : a.tmps[135]?.getD undef = (.bool P2) := by rw [← Array.getD_eq_getD_getElem?]; exact e10
      have e11 : a.tmps.getD 136 undef = (bif P2 then undef else (.agg y.cells)) := hp.pu (11, 136, (bif P2 then undef else (.agg y.cells))) (by simp [rt33P]) (by simp [hd])
      have f11 : a.tmps[136]?.getD undef = (bif P2 then undef else (.agg y.cells)) := by rw [← Array.getD_eq_getD_getElem?]; exact e11
      cases P2 with
      | true =>
        try simp only [cond_true, cond_false] at e10 f10 e11 f11
        exact rstep_un (unwanted_of 10 135 false true (by decide) rfl rfl e10) ⟨fA, fn, fc, (hp.put 12 137 undef (by simp [rt33P]) (by simp [rt33P]) rfl (by rw [hsz0]; exact (by decide : 137 < 145))), ⟨hw.1, fun _ q => by cases q⟩⟩
      | false =>
        try simp only [cond_true, cond_false] at e10 f10 e11 f11
        have hi12 : L 12 = false := hi
        refine rstep_callW (wanted_of 10 135 false rfl rfl e10) 27 #[(.agg y.cells)] (by go_simp) ?_
        refine (refformtell_any y w1 (HAT.out.below hw.1) (Q4.out rfl)).mono ?_
        rintro e w2 ⟨A9, n9, c9, rfl, hn9, hO9, hb2⟩
        exact ⟨A9, n9, c9, ((PIF.swap (p2 := (rt33P A c b g y r9.e P1 false P3 A9 n9 c9)) hp (by intro q hq hL; simp only [rt33P, List.mem_cons, List.not_mem_nil, or_false] at hq; rcases hq with rfl | rfl | rfl | rfl | rfl | rfl | rfl | rfl | rfl | rfl | rfl | rfl | rfl | rfl | rfl | rfl | rfl | rfl <;> first | (simp [rt33P]; done) | exact absurd hL (by show ¬ L 12 = true; rw [hi12]; simp))).put 12 137 (.slice A9 n9 c9) (by simp [rt33P]) (by simp [rt33P]) rfl (by rw [hsz0]; exact (by decide : 137 < 145))), below_join hw.1 hb2, fun _ _ => ⟨hO9.row, hn9.out⟩⟩
    · intro L a w1 hI hi hd
      obtain ⟨fA, fn, fc, hp, hw⟩ := hI
      simp [Region.binds] at hd
      have e10 : a.tmps.getD 135 undef = (.bool P2) := hp.pu (10, 135, (.bool P2)) (by simp [rt33P]) (by simp [hd])
      have f10 : a.tmps[135]?.getD undef = (.bool P2) := by rw [← Array.getD_eq_getD_getElem?]; exact e10
      have e12 : a.tmps.getD 137 undef = (bif P2 then undef else (.slice fA fn fc)) := hp.pu (12, 137, (bif P2 then undef else (.slice fA fn fc))) (by simp [rt33P]) (by simp [hd])
      have f12 : a.tmps[137]?.getD undef = (bif P2 then undef else (.slice fA fn fc)) := by rw [← Array.getD_eq_getD_getElem?]; exact e12
      cases P2 with
      | true =>
        try simp only [cond_true, cond_false] at e10 f10 e12 f12
        exact rstep_un (unwanted_of 10 135 false true (by decide) rfl rfl e10) ⟨fA, fn, fc, (hp.put 13 138 undef (by simp [rt33P]) (by simp [rt33P]) rfl (by rw [hsz0]; exact (by decide : 138 < 145))), ⟨hw.1, by rw [upd_ne L (show (12 : Nat) ≠ 13 by decide)]; exact hw.2⟩⟩
      | false =>
        try simp only [cond_true, cond_false] at e10 f10 e12 f12
        have hfr := hw.2 (by simp [hd]) rfl
        have hsr : (convert 22 9 (.slice fA fn fc)).run Try.prog w1 = .ok (.string (str (RepM.formR y.x))) w1 := by rw [← hfr.2]; exact run_str w1 fc hfr.1
        exact rstep_valW (wanted_of 10 135 false rfl rfl e10) (.string (str (RepM.formR y.x))) w1 (by go_simp) ⟨fA, fn, fc, (hp.put 13 138 (.string (str (RepM.formR y.x))) (by simp [rt33P]) (by simp [rt33P]) rfl (by rw [hsz0]; exact (by decide : 138 < 145))), ⟨hw.1, by rw [upd_ne L (show (12 : Nat) ≠ 13 by decide)]; exact hw.2⟩⟩
    · intro L a w1 hI hi hd
      obtain ⟨fA, fn, fc, hp, hw⟩ := hI
      simp [Region.binds] at hd
      have e10 : a.tmps.getD 135 undef = (.bool P2) := hp.pu (10, 135, (.bool P2)) (by simp [rt33P]) (by simp [hd])
      have f10 : a.tmps[135]?.getD undef = (.bool P2) := by rw [← Array.getD_eq_getD_getElem?]; exact e10
      have t0 := hp.at_ 0 _ rfl z0
      have t0' := t0
      rw [Array.getD_eq_getD_getElem?] at t0'
      cases P2 with
      | true =>
        try simp only [cond_true, cond_false] at e10 f10
        exact rstep_un (unwanted_of 10 135 false true (by decide) rfl rfl e10) ⟨fA, fn, fc, (hp.put 14 139 undef (by simp [rt33P]) (by simp [rt33P]) rfl (by rw [hsz0]; exact (by decide : 139 < 145))), ⟨hw.1, by rw [upd_ne L (show (12 : Nat) ≠ 14 by decide)]; exact hw.2⟩⟩
      | false =>
        try simp only [cond_true, cond_false] at e10 f10
        exact rstep_valW (wanted_of 10 135 false rfl rfl e10) (.slice A b.length c) w1 (by go_simp) ⟨fA, fn, fc, (hp.put 14 139 (.slice A b.length c) (by simp [rt33P]) (by simp [rt33P]) rfl (by rw [hsz0]; exact (by decide : 139 < 145))), ⟨hw.1, by rw [upd_ne L (show (12 : Nat) ≠ 14 by decide)]; exact hw.2⟩⟩
    · intro L a w1 hI hi hd
      obtain ⟨fA, fn, fc, hp, hw⟩ := hI
      simp [Region.binds] at hd
      have e10 : a.tmps.getD 135 undef = (.bool P2) := hp.pu (10, 135, (.bool P2)) (by simp [rt33P]) (by simp [hd])
      have f10 : a.tmps[135]?.getD undef = (.bool P2) := by rw [← Array.getD_eq_getD_getElem?]; exact e10
      have e14 : a.tmps.getD 139 undef = (bif P2 then undef else (.slice A b.length c)) := hp.pu (14, 139, (bif P2 then undef else (.slice A b.length c))) (by simp [rt33P]) (by simp [hd])
      have f14 : a.tmps[139]?.getD undef = (bif P2 then undef else (.slice A b.length c)) := by rw [← Array.getD_eq_getD_getElem?]; exact e14
      cases P2 with
      | true =>
        try simp only [cond_true, cond_false] at e10 f10 e14 f14
        exact rstep_un (unwanted_of 10 135 false true (by decide) rfl rfl e10) ⟨fA, fn, fc, (hp.put 15 140 undef (by simp [rt33P]) (by simp [rt33P]) rfl (by rw [hsz0]; exact (by decide : 140 < 145))), ⟨hw.1, by rw [upd_ne L (show (12 : Nat) ≠ 15 by decide)]; exact hw.2⟩⟩
      | false =>
        try simp only [cond_true, cond_false] at e10 f10 e14 f14
        have hsr : (convert 22 9 (.slice A b.length c)).run Try.prog w1 = .ok (.string (str b)) w1 := run_str w1 c (HRB.out.below (by rw [HG.out]; exact (HZ.out.below hw.1).bel))
        exact rstep_valW (wanted_of 10 135 false rfl rfl e10) (.string (str b)) w1 (by go_simp) ⟨fA, fn, fc, (hp.put 15 140 (.string (str b)) (by simp [rt33P]) (by simp [rt33P]) rfl (by rw [hsz0]; exact (by decide : 140 < 145))), ⟨hw.1, by rw [upd_ne L (show (12 : Nat) ≠ 15 by decide)]; exact hw.2⟩⟩
    · intro L a w1 hI hi hd
      obtain ⟨fA, fn, fc, hp, hw⟩ := hI
      simp [Region.binds] at hd
      have e10 : a.tmps.getD 135 undef = (.bool P2) := hp.pu (10, 135, (.bool P2)) (by simp [rt33P]) (by simp [hd])
      have f10 : a.tmps[135]?.getD undef = (.bool P2) := by rw [← Array.getD_eq_getD_getElem?]; exact e10
      have e13 : a.tmps.getD 138 undef = (bif P2 then undef else (.string (str (RepM.formR y.x)))) := hp.pu (13, 138, (bif P2 then undef else (.string (str (RepM.formR y.x))))) (by simp [rt33P]) (by simp [hd])
      have f13 : a.tmps[138]?.getD undef = (bif P2 then undef else (.string (str (RepM.formR y.x)))) := by rw [← Array.getD_eq_getD_getElem?]; exact e13
      have e15 : a.tmps.getD 140 undef = (bif P2 then undef else (.string (str b))) := hp.pu (15, 140, (bif P2 then undef else (.string (str b)))) (by simp [rt33P]) (by simp [hd])
      have f15 : a.tmps[140]?.getD undef = (bif P2 then undef else (.string (str b))) := by rw [← Array.getD_eq_getD_getElem?]; exact e15
      cases P2 with
      | true =>
        try simp only [cond_true, cond_false] at e10 f10 e13 f13 e15 f15
        exact rstep_un (unwanted_of 10 135 false true (by decide) rfl rfl e10) ⟨fA, fn, fc, (hp.put 16 141 undef (by simp [rt33P]) (by simp [rt33P]) rfl (by rw [hsz0]; exact (by decide : 141 < 145))), ⟨hw.1, by rw [upd_ne L (show (12 : Nat) ≠ 16 by decide)]; exact hw.2⟩⟩
      | false =>
        try simp only [cond_true, cond_false] at e10 f10 e13 f13 e15 f15
        have hsb := str_beq (RepM.formR y.x) b
        have hq := Q3.out.2 rfl
        exact rstep_valW (wanted_of 10 135 false rfl rfl e10) (.bool P3) w1 (by go_simp) ⟨fA, fn, fc, (hp.put 16 141 (.bool P3) (by simp [rt33P]) (by simp [rt33P]) rfl (by rw [hsz0]; exact (by decide : 141 < 145))), ⟨hw.1, by rw [upd_ne L (show (12 : Nat) ≠ 16 by decide)]; exact hw.2⟩⟩
    · intro L a w1 hI hi hd
      obtain ⟨fA, fn, fc, hp, hw⟩ := hI
      simp [Region.binds] at hd
      have e10 : a.tmps.getD 135 undef = (.bool P2) := hp.pu (10, 135, (.bool P2)) (by simp [rt33P]) (by simp [hd])
      have f10 : a.tmps[135]?.getD undef = (.bool P2) := by rw [← Array.getD_eq_getD_getElem?]; exact e10
      have e16 : a.tmps.getD 141 undef = (bif P2 then undef else (.bool P3)) := hp.pu (16, 141, (bif P2 then undef else (.bool P3))) (by simp [rt33P]) (by simp [hd])
      have f16 : a.tmps[141]?.getD undef = (bif P2 then undef else (.bool P3)) := by rw [← Array.getD_eq_getD_getElem?]; exact e16
      cases P2 with
      | true =>
        try simp only [cond_true, cond_false] at e10 f10 e16 f16
        obtain rfl : P3 = true := Q3.out.1 rfl
        exact rstep_valW (wanted_none rfl _) (.bool true) w1 (by go_simp) ⟨fA, fn, fc, (hp.put 17 142 (.bool true) (by simp [rt33P]) (by simp [rt33P]) rfl (by rw [hsz0]; exact (by decide : 142 < 145))), ⟨hw.1, by rw [upd_ne L (show (12 : Nat) ≠ 17 by decide)]; exact hw.2⟩⟩
      | false =>
        try simp only [cond_true, cond_false] at e10 f10 e16 f16
        exact rstep_valW (wanted_none rfl _) (.bool P3) w1 (by go_simp) ⟨fA, fn, fc, (hp.put 17 142 (.bool P3) (by simp [rt33P]) (by simp [rt33P]) rfl (by rw [hsz0]; exact (by decide : 142 < 145))), ⟨hw.1, by rw [upd_ne L (show (12 : Nat) ≠ 17 by decide)]; exact hw.2⟩⟩
  rintro L a W0 ⟨fA, fn, fc, hp, hw⟩ hL
  have e17 : a.tmps.getD 142 undef = (.bool P3) := hp.pu (17, 142, _) (by simp [rt33P]) (hL 17 (by simp))
  have HW := Lib.hid (HZ.out.below hw.1)
  have HAW := Lib.hid (HAT.out.below hw.1)
  clear hw
  rw [hp.eq]
  refine of_assigns (P := Try.prog) _ _ _ _ ?_
  rw [ha0.out]
  simp only [asgs, List.map, e17]
  generalize a.tmps.getD 125 undef = u125
  generalize a.tmps.getD 126 undef = u126
  generalize a.tmps.getD 127 undef = u127
  generalize a.tmps.getD 128 undef = u128
  generalize a.tmps.getD 129 undef = u129
  generalize a.tmps.getD 130 undef = u130
  generalize a.tmps.getD 131 undef = u131
  generalize a.tmps.getD 132 undef = u132
  generalize a.tmps.getD 133 undef = u133
  generalize a.tmps.getD 134 undef = u134
  generalize a.tmps.getD 135 undef = u135
  generalize a.tmps.getD 136 undef = u136
  generalize a.tmps.getD 137 undef = u137
  generalize a.tmps.getD 138 undef = u138
  generalize a.tmps.getD 139 undef = u139
  generalize a.tmps.getD 140 undef = u140
  generalize a.tmps.getD 141 undef = u141
  clear hp hL hsz0 e17 z0 z4 z5
  clear ha0
  cases P3 with
  | true =>
    have hno : RR = none := HRD.out.trans (if_pos (by
      by_cases q : r9.e ≠ 0 ∨ RepM.mayR y.x = false ∨ RepM.formR y.x ≠ b
      · exact q
      · exact absurd (Q5.out.2 q) (by decide)))
    subst hno
    have hres := HW.out.res
    go_wp2_with (first | (refine wpList_store_row rfl _ (.tmp 2) (.tmp 143) rfl g #[.int .i64 0, .int .i64 0, .int .i64 0, .int .i64 0, .int .u64 0, .slice none 0 0, .slice none 0 0, .slice none 0 0, .slice none 0 0] (by go_simp) (by go_simp) _ _ hres (by kernel_rfl) rfl (by simp [Value.oneCell']) ?_))
    refine ret_cell rfl g #[.int .i64 0, .int .i64 0, .int .i64 0, .int .i64 0, .int .u64 0, .slice none 0 0, .slice none 0 0, .slice none 0 0, .slice none 0 0] _ rfl (hres.setRow_ _) Try.underlying34 rfl (by kernel_rfl) rfl ?_
    exact ⟨rfl, by rw [HG.out]; exact below_grown HW.out.bel (grownBy_setRow _ _ _) HW.out.size (Nat.le_refl _)⟩
  | false =>
    have hyes : RR = some y.x := HRD.out.trans (if_neg (Q5.out.1 rfl))
    subst hyes
    have hres := HW.out.res
    have hx := HW.out.x
    have h1 : y.cells.all (·.oneCell') = true := by simp [Rpv.cells, Value.oneCell']
    go_wp2_with (first | (refine wpl_load_row rfl _ (.tmp 5) rfl (g + 1 + 1) (by go_simp) _ y.cells (0, 0) _ hx Try.underlying34 rfl (by kernel_rfl) ?_) | (refine wpList_store_row rfl _ (.tmp 2) (.tmp 144) rfl g y.cells (by go_simp) (by go_simp) _ _ hres (by kernel_rfl) rfl h1 ?_))
    refine ret_cell rfl g y.cells _ rfl (hres.setRow_ _) Try.underlying34 rfl (by kernel_rfl) rfl ?_
    exact ⟨y, rfl, rfl, rpv_fresh HAW.out HF3.out (grownBy_setRow _ _ _) (Nat.lt_succ_self g), by rw [HG.out]; exact HFR.out.mono (by omega), by rw [HG.out]; exact below_grown HW.out.bel (grownBy_setRow _ _ _) HW.out.size (Nat.le_refl _)⟩
end Go.Proofs.Ytaadfalklddhcaa
