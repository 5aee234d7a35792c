/-
  What bytes are read as, as a request, by the document's word.
  Conditions: the bytes lie in memory.
-/
import Derived.Test.YtaadfalklddhcaaZStmS4
import Derived.Test.YtaadfalklddhcaaZStmS3
import Derived.Test.YtaadfalklddhcaaZStmP
import Derived.Test.YtaadfalklddhcaaZStmQ3
namespace Go.Proofs.Ytaadfalklddhcaa
open Go.RowKit Go.Sort Go.Lib
set_option linter.unusedVariables false
set_option linter.unusedSimpArgs false
/-- The reader, the request, the result, while it is read. -/
structure RfX (w0 : World) (g : Nat) (r : CodeM.Rd) (cs : Array Value) (w : World) : Prop where
  rd : RdIn g 73 w (g + 1) r
  x : Blk w (g + 1 + 1) 42 cs
  res : Blk w g 42 #[.int .i64 0, .int .u64 0, .slice none 0 0, .slice none 0 0, .int .u64 0, .int .u64 0, .int .i64 0, .slice none 0 0, .slice none 0 0, .int .i64 0]
  bel : Below g w0 w
section
variable {w0 w w' : World} {g : Nat} {r r' : CodeM.Rd} {cs : Array Value}
theorem RfX.size (h : RfX w0 g r cs w) : g ≤ w.heap.size := Nat.le_of_lt h.res.lt
theorem RfX.call (h : RfX w0 g r cs w) (hR : RdIn g 73 w' (g + 1) r') (hg : w.grownBy w' (some (g + 1))) : RfX w0 g r' cs w' :=
  ⟨hR, h.x.grown hg (by simp), h.res.grown hg (by simp), below_grown h.bel hg h.size (by omega)⟩
theorem RfX.set (h : RfX w0 g r cs w) (i : Nat) (v : Value) : RfX w0 g r (cs.setIfInBounds i v) (w.setCell ⟨g + 1 + 1, i, none⟩ v) :=
  ⟨h.rd.above (grownBy_setCell w (g + 1 + 1) i v) (by omega) (by omega), h.x.set_ i v, h.res.far (p := ⟨g + 1 + 1, i, none⟩) (by show g ≠ g + 1 + 1; omega) v, below_grown h.bel (grownBy_setCell w (g + 1 + 1) i v) h.size (by omega)⟩
theorem RfX.below (h : RfX w0 g r cs w) (hb : Below w.heap.size w w') : RfX w0 g r cs w' :=
  ⟨h.rd.below hb, h.x.below hb h.x.lt, h.res.below hb h.res.lt, h.bel.trans (hb.mono h.size)⟩
end
/-- The request is read (as y): what may then be said. -/
def RfDone (w : World) (g : Nat) (b : List UInt8) (y : Rqv) (r : CodeM.Rd) (wc : World) : Prop := y.At wc ∧ y.Fr (g + 1) ∧ (∀ x : Rq, x.Ok → StmM.may x = true → StmM.form x = b → r.e = 0 ∧ y.x = x) ∧ RfX w g r y.cells wc
theorem or_letter2 (p q : Bool) : ∃ r : Bool, ((p = true → r = true) ∧ (p = false → q = r)) ∧ (r = false ↔ (p = false ∧ q = false)) := ⟨p || q, by cases p <;> cases q <;> decide⟩
/-- Ahead of round k of the reading of components. -/
def Q6 (v1 : Nat) (w : World) (g : Nat) (r3 : CodeM.Rd) (k : Nat) (wr : World) (qA : Option Addr) (qc : Nat) : Prop := RfX w g (ItemM.vecs k r3).2 #[.int .i64 6, .int .u64 0, .slice none 0 0, .slice none 0 0, .int .u64 0, .int .u64 0, .int .i64 (v1 : Int), .slice qA k qc, .slice none 0 0, .int .i64 0] wr ∧ Own32 wr (g + 1 + 1 + 1) qA k qc (ItemM.vecs k r3).1
theorem own64_base {w : World} {base b n c : Nat} {A : Option Addr} {l : List Nat} (h : Own64 w base A n c l) (hb : b ≤ base) : Own64 w b A n c l := by
  refine ⟨h.1, ?_⟩
  rcases h.2 with hn | ⟨g, cap, cur, e, hb', rest⟩
  · exact .inl hn
  · exact .inr ⟨g, cap, cur, e, Nat.le_trans hb hb', rest⟩
def rr34P (A : Option Addr) (c : Nat) (b : List UInt8) (g : Nat) (y : Rqv) (e : Nat) (P1 P2 P3 : Bool) (fA : Option Addr) (fn fc : Nat) : List (Nat × Nat × Value) := [(0, 119, (.pointer (some ⟨g + 1, 0, none⟩))), (1, 120, (.pointer (some ⟨g + 1, 0, none⟩))), (2, 121, (.pointer (some ⟨g + 1, 1, none⟩))), (3, 122, (.int .i64 (e : Int))), (4, 123, (.bool P1)), (5, 124, (.bool P1)), (6, 125, (bif P1 then undef else (.agg y.cells))), (7, 126, (bif P1 then undef else (.bool (!P2)))), (8, 127, (bif P1 then undef else (.bool P2))), (9, 128, (.bool P2)), (10, 129, (.bool P2)), (11, 130, (bif P2 then undef else (.agg y.cells))), (12, 131, (bif P2 then undef else (.slice fA fn fc))), (13, 132, (bif P2 then undef else (.string (str (StmM.form y.x))))), (14, 133, (bif P2 then undef else (.slice A b.length c))), (15, 134, (bif P2 then undef else (.string (str b)))), (16, 135, (bif P2 then undef else (.bool P3))), (17, 136, (.bool P3))]
set_option maxRecDepth 100000 in
set_option maxHeartbeats 16000000 in
theorem refread22_any (A : Option Addr) (c : Nat) (b : List UInt8) (w : World) (hr : Row w A (bs b)) (hcap : b.length ≤ c) (hmx : c ≤ maxLen) (hlen : b.length ≤ 140737488355328) :
    Calls Try.prog 25 #[.slice A b.length c] w (RqP (StmM.read b) w) := by
  have HRB := Lib.hid hr
  obtain ⟨RR, hRR⟩ : ∃ r, StmM.read b = r := ⟨_, rfl⟩
  rw [hRR]
  have HRR := Lib.hid hRR
  clear hRR hr
  have b0 : Below w.heap.size w (((w.alloc (.cells #[.int .i64 0, .int .u64 0, .slice none 0 0, .slice none 0 0, .int .u64 0, .int .u64 0, .int .i64 0, .slice none 0 0, .slice none 0 0, .int .i64 0] 42)).alloc (.cells #[.slice A b.length c, .int .i64 0] 73)).alloc (.cells #[.int .i64 0, .int .u64 0, .slice none 0 0, .slice none 0 0, .int .u64 0, .int .u64 0, .int .i64 0, .slice none 0 0, .slice none 0 0, .int .i64 0] 42)) := (((Below.refl _ _).alloc (Nat.le_refl _) _).alloc (by simp) _).alloc (by simp; omega) _
  have U1 := ((Blk.new w 42 #[.int .i64 0, .int .u64 0, .slice none 0 0, .slice none 0 0, .int .u64 0, .int .u64 0, .int .i64 0, .slice none 0 0, .slice none 0 0, .int .i64 0]).alloc (.cells #[.slice A b.length c, .int .i64 0] 73)).alloc (.cells #[.int .i64 0, .int .u64 0, .slice none 0 0, .slice none 0 0, .int .u64 0, .int .u64 0, .int .i64 0, .slice none 0 0, .slice none 0 0, .int .i64 0] 42)
  have U2 := (Blk.new (w.alloc (.cells #[.int .i64 0, .int .u64 0, .slice none 0 0, .slice none 0 0, .int .u64 0, .int .u64 0, .int .i64 0, .slice none 0 0, .slice none 0 0, .int .i64 0] 42)) 73 #[.slice A b.length c, .int .i64 0]).alloc (.cells #[.int .i64 0, .int .u64 0, .slice none 0 0, .slice none 0 0, .int .u64 0, .int .u64 0, .int .i64 0, .slice none 0 0, .slice none 0 0, .int .i64 0] 42)
  have U3 := Blk.new ((w.alloc (.cells #[.int .i64 0, .int .u64 0, .slice none 0 0, .slice none 0 0, .int .u64 0, .int .u64 0, .int .i64 0, .slice none 0 0, .slice none 0 0, .int .i64 0] 42)).alloc (.cells #[.slice A b.length c, .int .i64 0] 73)) 42 #[.int .i64 0, .int .u64 0, .slice none 0 0, .slice none 0 0, .int .u64 0, .int .u64 0, .int .i64 0, .slice none 0 0, .slice none 0 0, .int .i64 0]
  have e1 : (w.alloc (.cells #[.int .i64 0, .int .u64 0, .slice none 0 0, .slice none 0 0, .int .u64 0, .int .u64 0, .int .i64 0, .slice none 0 0, .slice none 0 0, .int .i64 0] 42)).heap.size = w.heap.size + 1 := by simp
  have e2 : ((w.alloc (.cells #[.int .i64 0, .int .u64 0, .slice none 0 0, .slice none 0 0, .int .u64 0, .int .u64 0, .int .i64 0, .slice none 0 0, .slice none 0 0, .int .i64 0] 42)).alloc (.cells #[.slice A b.length c, .int .i64 0] 73)).heap.size = w.heap.size + 1 + 1 := by simp
  rw [e1] at U2
  rw [e2] at U3
  clear e1 e2
  have HBD : Hid (b = [] ∨ ∀ a, A = some a → a.block < w.heap.size) := Lib.hid (row_bound HRB.out)
  have HRW := Lib.hid (HRB.out.below b0)
  go_enter Try.func25, Try.ntmps25
  go_upto_region 3 with fail
  have hst : RfX w w.heap.size ⟨b, 0⟩ #[.int .i64 0, .int .u64 0, .slice none 0 0, .slice none 0 0, .int .u64 0, .int .u64 0, .int .i64 0, .slice none 0 0, .slice none 0 0, .int .i64 0] (((w.alloc (.cells #[.int .i64 0, .int .u64 0, .slice none 0 0, .slice none 0 0, .int .u64 0, .int .u64 0, .int .i64 0, .slice none 0 0, .slice none 0 0, .int .i64 0] 42)).alloc (.cells #[.slice A b.length c, .int .i64 0] 73)).alloc (.cells #[.int .i64 0, .int .u64 0, .slice none 0 0, .slice none 0 0, .int .u64 0, .int .u64 0, .int .i64 0, .slice none 0 0, .slice none 0 0, .int .i64 0] 42)) := ⟨⟨A, b.length, c, U2, rfl, ⟨hcap, hlen⟩, hmx, HRW.out, HBD.out⟩, U3, U1, b0⟩
  have HST := Lib.hid hst
  clear hst U1 U2 U3 b0 HRW HBD
  generalize ((w.alloc (.cells #[.int .i64 0, .int .u64 0, .slice none 0 0, .slice none 0 0, .int .u64 0, .int .u64 0, .int .i64 0, .slice none 0 0, .slice none 0 0, .int .i64 0] 42)).alloc (.cells #[.slice A b.length c, .int .i64 0] 73)).alloc (.cells #[.int .i64 0, .int .u64 0, .slice none 0 0, .slice none 0 0, .int .u64 0, .int .u64 0, .int .i64 0, .slice none 0 0, .slice none 0 0, .int .i64 0] 42) = w0 at *
  obtain ⟨g, hg⟩ : ∃ g, w.heap.size = g := ⟨_, rfl⟩
  have HG := Lib.hid hg
  rw [hg] at HST
  simp only [hg]
  clear hg
  obtain ⟨p, hp⟩ : ∃ p, CodeM.Rd.fixed 1 ⟨b, 0⟩ = p := ⟨_, rfl⟩
  obtain ⟨k1, r1⟩ := p
  have hk1 : k1 < 256 := by have := StmM.fixed_lt1 ⟨b, 0⟩; rw [hp] at this; exact this
  have HC := refnumI_any (g + 1) ⟨b, 0⟩ 1 w0 HST.out.rd (by omega)
  rw [hp] at HC
  have HK1 := Lib.hid hp
  obtain ⟨k, hk⟩ : ∃ k : Int, (k1 : Int) = k := ⟨_, rfl⟩
  simp only [hk] at HC
  have hwk : IntKind.i64.wrap k = k := by rw [IntKind.wrap_i64]; omega
  have HKR : Hid (-9223372036854775808 ≤ k ∧ k < 9223372036854775808) := Lib.hid (by omega)
  have HKK := Lib.hid hk
  clear hp hk hk1
  go_wp2_with fail
  refine HC.mono ?_
  rintro e u0 ⟨rfl, hR0, hg0⟩
  have hX0 := HST.out.call hR0 hg0
  have fz0 := hX0.x.frozen 0
  have cz0 := hX0.x.cell 0
  simp only [List.getElem?_toArray, List.getElem?_cons_zero, List.getElem?_cons_succ] at cz0
  have hN0 : RfX w g r1 #[.int .i64 k, .int .u64 0, .slice none 0 0, .slice none 0 0, .int .u64 0, .int .u64 0, .int .i64 0, .slice none 0 0, .slice none 0 0, .int .i64 0] (u0.setCell ⟨g + 1 + 1, 0, none⟩ (.int .i64 k)) := hX0.set 0 (.int .i64 k)
  have H1 := Lib.hid hN0
  clear HC hR0 hg0 hX0 hN0 HST
  go_upto_region 4 with fail
  generalize u0.setCell ⟨g + 1 + 1, 0, none⟩ (.int .i64 k) = w1 at *
  clear fz0 cz0 hwk
  have dk := H1.out.x.c10.1
  go_cut [18] from 17 to 118 (fun v18 wc => v18 = .int .i64 k ∧ wc = w1)
  case first =>
    go_wp2
    go_meet
    case rel => exact ⟨rfl, rfl⟩
  obtain ⟨rfl, hwc⟩ := hcut
  obtain rfl : w1 = wc := hwc.symm
  go_step
  go_cut [] from 19 to 118 (fun wc => ∃ (y : Rqv) (r : CodeM.Rd), RfDone w g b y r wc)
  case first =>
    by_cases k2 : k = 2
    · subst k2
      as_aux_lemma =>
      go_upto_region 6 with fail
      obtain ⟨A1, n1, c1, hB1, hl1, hcap1, hmx1, hrow1, hbd1⟩ := H1.out.rd
      obtain rfl : r1.l.length = n1 := hl1
      have q0 := hB1.cell 0
      simp only [List.getElem?_toArray, List.getElem?_cons_zero] at q0
      have HC := Lib.hid (refitemread_any A1 c1 r1.l w1 hrow1 hcap1.1 hmx1 hcap1.2)
      have HRB1 := Lib.hid hB1
      clear hB1 hcap1 hmx1 hrow1 hbd1
      go_wp2_with fail
      refine HC.out.mono ?_
      cases hri : ItemM.readR r1.l with
      | none =>
        rintro e u1 ⟨rfl, hb⟩
        have hno : RR = none := HRR.out.symm.trans (StmM.doc_2no HK1.out HKK.out rfl hri)
        subst hno
        have HW := Lib.hid (H1.out.below hb)
        have hb2 : Below u1.heap.size u1 (u1.alloc (.cells #[.int .u64 0, .slice none 0 0, .slice none 0 0] 30)) := (Below.refl _ _).alloc (Nat.le_refl _) _
        have HW2 := Lib.hid (HW.out.below hb2)
        have hres := HW2.out.res
        clear hb hri HC
        go_wp2_with (first | (refine wpList_store_row rfl _ (.tmp 2) (.tmp 31) rfl g #[.int .i64 0, .int .u64 0, .slice none 0 0, .slice none 0 0, .int .u64 0, .int .u64 0, .int .i64 0, .slice none 0 0, .slice none 0 0, .int .i64 0] (by go_simp) (by go_simp) _ _ hres (by kernel_rfl) rfl (by simp [Value.oneCell']) ?_))
        refine ret_cell rfl g #[.int .i64 0, .int .u64 0, .slice none 0 0, .slice none 0 0, .int .u64 0, .int .u64 0, .int .i64 0, .slice none 0 0, .slice none 0 0, .int .i64 0] _ rfl (hres.setRow_ _) Try.underlying42 rfl (by kernel_rfl) rfl ?_
        exact ⟨rfl, by rw [HG.out]; exact below_grown HW2.out.bel (grownBy_setRow _ _ _) HW2.out.size (Nat.le_refl _)⟩
      | some it =>
        rintro e u1 ⟨A3, n3, c3, A4, n4, c4, rfl, hn3, hn4, hO3, hO4, hb⟩
        obtain rfl : it.vec.length = n3 := hn3.out
        obtain rfl : it.note.length = n4 := hn4.out
        have hba : Below u1.heap.size u1 (u1.alloc (.cells #[.int .u64 (it.key : Int), .slice A3 it.vec.length c3, .slice A4 it.note.length c4] 30)) := (Below.refl _ _).alloc (Nat.le_refl _) _
        have hbb := hb.trans (hba.mono hb.size)
        have HW := Lib.hid (H1.out.below hbb)
        have HRD1 := Lib.hid (HRB1.out.below hbb HRB1.out.lt)
        have HO : Hid (Own32 (u1.alloc (.cells #[.int .u64 (it.key : Int), .slice A3 it.vec.length c3, .slice A4 it.note.length c4] 30)) w1.heap.size A3 it.vec.length c3 it.vec ∧ Own (u1.alloc (.cells #[.int .u64 (it.key : Int), .slice A3 it.vec.length c3, .slice A4 it.note.length c4] 30)) w1.heap.size A4 c4 it.note) := Lib.hid ⟨hO3.alloc _, hO4.alloc _⟩
        have HT := Lib.hid (Blk.new u1 30 #[.int .u64 (it.key : Int), .slice A3 it.vec.length c3, .slice A4 it.note.length c4])
        have hgu : Hid (g + 1 + 1 < w1.heap.size ∧ w1.heap.size ≤ u1.heap.size) := Lib.hid ⟨H1.out.x.lt, hb.size⟩
        have HRI := Lib.hid hri
        clear hn3 hn4 hO3 hO4 hb hba hbb hri HC
        go_upto_region 9 with fail
        generalize hu2 : u1.alloc (.cells #[.int .u64 (it.key : Int), .slice A3 it.vec.length c3, .slice A4 it.note.length c4] 30) = u2 at *
        generalize hgt : u1.heap.size = gt at *
        clear hu2 hgt
        obtain ⟨dd0, dd1, dd2⟩ : u2.cell? ⟨gt, 0, none⟩ = some (.int .u64 (it.key : Int)) ∧ u2.cell? ⟨gt, 1, none⟩ = some (.slice A3 it.vec.length c3) ∧ u2.cell? ⟨gt, 2, none⟩ = some (.slice A4 it.note.length c4) := ⟨HT.out.cell 0, HT.out.cell 1, HT.out.cell 2⟩
        have fz1 := HW.out.x.frozen 1
        have fz2 := HW.out.x.frozen 2
        have fz3 := HW.out.x.frozen 3
        obtain ⟨d0, d1, d2, d3, d4, d5, d6, d7, d8, d9⟩ := HW.out.x.c10
        clear d0 d4 d5 d6 d7 d8 d9
        have hs : RfX w g r1 #[.int .i64 2, .int .u64 (it.key : Int), .slice A3 it.vec.length c3, .slice A4 it.note.length c4, .int .u64 0, .int .u64 0, .int .i64 0, .slice none 0 0, .slice none 0 0, .int .i64 0] (((u2.setCell ⟨g + 1 + 1, 1, none⟩ (.int .u64 (it.key : Int))).setCell ⟨g + 1 + 1, 2, none⟩ (.slice A3 it.vec.length c3)).setCell ⟨g + 1 + 1, 3, none⟩ (.slice A4 it.note.length c4)) := ((HW.out.set 1 (.int .u64 (it.key : Int))).set 2 (.slice A3 it.vec.length c3)).set 3 (.slice A4 it.note.length c4)
        have gx1 := grownBy_setCell u2 (g + 1 + 1) 1 (.int .u64 (it.key : Int))
        have gx2 := grownBy_setCell (u2.setCell ⟨g + 1 + 1, 1, none⟩ (.int .u64 (it.key : Int))) (g + 1 + 1) 2 (.slice A3 it.vec.length c3)
        have gx3 := grownBy_setCell ((u2.setCell ⟨g + 1 + 1, 1, none⟩ (.int .u64 (it.key : Int))).setCell ⟨g + 1 + 1, 2, none⟩ (.slice A3 it.vec.length c3)) (g + 1 + 1) 3 (.slice A4 it.note.length c4)
        have k1 := Own32.keptA (Own32.keptA (Own32.keptA HO.out.1 gx1 hgu.out.1) gx2 hgu.out.1) gx3 hgu.out.1
        have k2 := Own.kept (Own.kept (Own.kept HO.out.2 gx1 hgu.out.1) gx2 hgu.out.1) gx3 hgu.out.1
        have hB4 := (((HRD1.out.far (p := ⟨g + 1 + 1, 1, none⟩) (by show g + 1 ≠ g + 1 + 1; omega) (.int .u64 (it.key : Int))).far (p := ⟨g + 1 + 1, 2, none⟩) (by show g + 1 ≠ g + 1 + 1; omega) (.slice A3 it.vec.length c3)).far (p := ⟨g + 1 + 1, 3, none⟩) (by show g + 1 ≠ g + 1 + 1; omega) (.slice A4 it.note.length c4))
        have HS := Lib.hid hs
        have HK := Lib.hid (And.intro k1 (And.intro k2 hB4))
        clear hs gx1 gx2 gx3 k1 k2 hB4
        go_upto_region 10 with fail
        generalize ((u2.setCell ⟨g + 1 + 1, 1, none⟩ (.int .u64 (it.key : Int))).setCell ⟨g + 1 + 1, 2, none⟩ (.slice A3 it.vec.length c3)).setCell ⟨g + 1 + 1, 3, none⟩ (.slice A4 it.note.length c4) = u3 at *
        clear fz1 fz2 fz3 d1 d2 d3 dd0 dd1 dd2
        have fr0 := HK.out.2.2.frozen 0
        have cr0 := HK.out.2.2.cell 0
        simp only [List.getElem?_toArray, List.getElem?_cons_zero] at cr0
        have gr0 := grownBy_setCell u3 (g + 1) 0 (.slice none 0 0)
        have hR9 : RdIn g 73 (u3.setCell ⟨g + 1, 0, none⟩ (.slice none 0 0)) (g + 1) ⟨[], r1.e⟩ := ⟨none, 0, 0, HK.out.2.2.set_ 0 (.slice none 0 0), rfl, ⟨Nat.le_refl _, Nat.zero_le _⟩, Nat.zero_le _, .inl rfl, .inl rfl⟩
        have H2 := Lib.hid (HS.out.call hR9 gr0)
        have hz1 := Own32.keptA HK.out.1 gr0 (by have := hgu.out.1; omega)
        have hz2 := Own.kept HK.out.2.1 gr0 (by have := hgu.out.1; omega)
        have HO2 := Lib.hid (And.intro hz1 hz2)
        clear gr0 hR9 hz1 hz2
        go_upto_region 34 with fail
        generalize u3.setCell ⟨g + 1, 0, none⟩ (.slice none 0 0) = w2 at *
        clear fr0 cr0
        have hcap := own_cap HO2.out.1
        have HLE : Hid (it.vec.length ≤ c3 ∧ c3 ≤ maxLen) := Lib.hid (by
          rcases hcap with h | ⟨_, h2, h3⟩
          · exact h
          · rw [h2, h3]; exact ⟨Nat.le_refl _, Nat.zero_le _⟩)
        have HIK := Lib.hid (ItemM.read_inv (b := r1.l) HRI.out).2.2
        obtain ⟨r2, hr2⟩ : ∃ r, (⟨[], r1.e⟩ : CodeM.Rd) = r := ⟨_, rfl⟩
        have HR2 : Hid (r2.e = r1.e) := Lib.hid (by rw [← hr2])
        rw [hr2] at H2
        clear hcap hr2
        go_meet
        case rel => exact ⟨⟨⟨2, it, 0, 0, 0, [], [], 0⟩, A3, c3, A4, c4, none, 0, none, 0⟩, r2, ⟨HO2.out.1.row, HO2.out.2.row, .inl rfl, .inl rfl, ⟨by simp, HIK.out, by simp, by simp, by simp, (fun v hv => by cases hv), (fun v hv => by cases hv), by simp⟩, HLE.out.1, HO2.out.2.le.1, Nat.le_refl _, Nat.le_refl _, HLE.out.2, HO2.out.2.le.2, Nat.zero_le _, Nat.zero_le _⟩, ⟨(fresh_own HO2.out.1).mono (by have := hgu.out.1; omega), (fresh_own HO2.out.2).mono (by have := hgu.out.1; omega), Fresh.none, Fresh.none⟩, fun x hx hm hf => (by have hd := StmM.doc_2 hx hm hf HK1.out HKK.out rfl; have e2 := hd.2.1; rw [HRI.out] at e2; injection e2 with e2; subst e2; exact ⟨HR2.out.trans hd.1, hd.2.2⟩), H2.out⟩
    by_cases k3 : k = 3
    · subst k3
      as_aux_lemma =>
      go_upto_region 13 with fail
      obtain ⟨pp1, hp1⟩ : ∃ p, r1.fixed 8 = p := ⟨_, rfl⟩
      obtain ⟨v1, r2⟩ := pp1
      have HC1 := refnumI_any (g + 1) r1 8 w1 H1.out.rd (by omega)
      rw [hp1] at HC1
      have HP1 := Lib.hid hp1
      have hv1 : v1 < 18446744073709551616 := by have := StmM.fixed_lt8 r1; rw [hp1] at this; exact this
      have HV1 := Lib.hid hv1
      
      clear hp1 hv1
      go_wp2_with fail
      refine HC1.mono ?_
      rintro e u1 ⟨rfl, hR1, hg1⟩
      have hX1 := H1.out.call hR1 hg1
      have fz1 := hX1.x.frozen 4
      have cz1 := hX1.x.cell 4
      simp only [List.getElem?_toArray, List.getElem?_cons_zero, List.getElem?_cons_succ] at cz1
      have hN1 : RfX w g r2 #[.int .i64 3, .int .u64 0, .slice none 0 0, .slice none 0 0, .int .u64 (v1 : Int), .int .u64 0, .int .i64 0, .slice none 0 0, .slice none 0 0, .int .i64 0] (u1.setCell ⟨g + 1 + 1, 4, none⟩ (.int .u64 (v1 : Int))) := hX1.set 4 (.int .u64 (v1 : Int))
      have H2 := Lib.hid hN1
      
      clear HC1 hR1 hg1 hX1 hN1
      go_wp2_with fail
      generalize u1.setCell ⟨g + 1 + 1, 4, none⟩ (.int .u64 (v1 : Int)) = w2 at *
      clear fz1 cz1
      go_meet
      case rel => exact ⟨⟨⟨3, StmM.no, v1, 0, 0, [], [], 0⟩, none, 0, none, 0, none, 0, none, 0⟩, r2, ⟨.inl rfl, .inl rfl, .inl rfl, .inl rfl, ⟨by simp, StmM.no_ok, HV1.out, by simp, by simp, (fun v hv => by cases hv), (fun v hv => by cases hv), by simp⟩, Nat.le_refl _, Nat.le_refl _, Nat.le_refl _, Nat.le_refl _, Nat.zero_le _, Nat.zero_le _, Nat.zero_le _, Nat.zero_le _⟩, ⟨Fresh.none, Fresh.none, Fresh.none, Fresh.none⟩, fun x hx hm hf => StmM.doc_3 hx hm hf HK1.out HKK.out (by decide) HP1.out, H2.out⟩
    by_cases k4 : k = 4
    · subst k4
      as_aux_lemma =>
      go_upto_region 13 with fail
      obtain ⟨pp1, hp1⟩ : ∃ p, r1.fixed 8 = p := ⟨_, rfl⟩
      obtain ⟨v1, r2⟩ := pp1
      have HC1 := refnumI_any (g + 1) r1 8 w1 H1.out.rd (by omega)
      rw [hp1] at HC1
      have HP1 := Lib.hid hp1
      have hv1 : v1 < 18446744073709551616 := by have := StmM.fixed_lt8 r1; rw [hp1] at this; exact this
      have HV1 := Lib.hid hv1
      
      clear hp1 hv1
      go_wp2_with fail
      refine HC1.mono ?_
      rintro e u1 ⟨rfl, hR1, hg1⟩
      have hX1 := H1.out.call hR1 hg1
      have fz1 := hX1.x.frozen 4
      have cz1 := hX1.x.cell 4
      simp only [List.getElem?_toArray, List.getElem?_cons_zero, List.getElem?_cons_succ] at cz1
      have hN1 : RfX w g r2 #[.int .i64 4, .int .u64 0, .slice none 0 0, .slice none 0 0, .int .u64 (v1 : Int), .int .u64 0, .int .i64 0, .slice none 0 0, .slice none 0 0, .int .i64 0] (u1.setCell ⟨g + 1 + 1, 4, none⟩ (.int .u64 (v1 : Int))) := hX1.set 4 (.int .u64 (v1 : Int))
      have H2 := Lib.hid hN1
      
      clear HC1 hR1 hg1 hX1 hN1
      go_wp2_with fail
      generalize u1.setCell ⟨g + 1 + 1, 4, none⟩ (.int .u64 (v1 : Int)) = w2 at *
      clear fz1 cz1
      go_meet
      case rel => exact ⟨⟨⟨4, StmM.no, v1, 0, 0, [], [], 0⟩, none, 0, none, 0, none, 0, none, 0⟩, r2, ⟨.inl rfl, .inl rfl, .inl rfl, .inl rfl, ⟨by simp, StmM.no_ok, HV1.out, by simp, by simp, (fun v hv => by cases hv), (fun v hv => by cases hv), by simp⟩, Nat.le_refl _, Nat.le_refl _, Nat.le_refl _, Nat.le_refl _, Nat.zero_le _, Nat.zero_le _, Nat.zero_le _, Nat.zero_le _⟩, ⟨Fresh.none, Fresh.none, Fresh.none, Fresh.none⟩, fun x hx hm hf => StmM.doc_3 hx hm hf HK1.out HKK.out (by decide) HP1.out, H2.out⟩
    by_cases k5 : k = 5
    · subst k5
      as_aux_lemma =>
      go_upto_region 15 with fail
      obtain ⟨pp1, hp1⟩ : ∃ p, r1.fixed 8 = p := ⟨_, rfl⟩
      obtain ⟨v1, r2⟩ := pp1
      have HC1 := refnumI_any (g + 1) r1 8 w1 H1.out.rd (by omega)
      rw [hp1] at HC1
      have HP1 := Lib.hid hp1
      have hv1 : v1 < 18446744073709551616 := by have := StmM.fixed_lt8 r1; rw [hp1] at this; exact this
      have HV1 := Lib.hid hv1
      
      clear hp1 hv1
      go_wp2_with fail
      refine HC1.mono ?_
      rintro e u1 ⟨rfl, hR1, hg1⟩
      have hX1 := H1.out.call hR1 hg1
      have fz1 := hX1.x.frozen 4
      have cz1 := hX1.x.cell 4
      simp only [List.getElem?_toArray, List.getElem?_cons_zero, List.getElem?_cons_succ] at cz1
      have hN1 : RfX w g r2 #[.int .i64 5, .int .u64 0, .slice none 0 0, .slice none 0 0, .int .u64 (v1 : Int), .int .u64 0, .int .i64 0, .slice none 0 0, .slice none 0 0, .int .i64 0] (u1.setCell ⟨g + 1 + 1, 4, none⟩ (.int .u64 (v1 : Int))) := hX1.set 4 (.int .u64 (v1 : Int))
      have H2 := Lib.hid hN1
      
      clear HC1 hR1 hg1 hX1 hN1
      go_upto_region 16 with fail
      generalize u1.setCell ⟨g + 1 + 1, 4, none⟩ (.int .u64 (v1 : Int)) = w2 at *
      clear fz1 cz1
      obtain ⟨pp2, hp2⟩ : ∃ p, r2.fixed 8 = p := ⟨_, rfl⟩
      obtain ⟨v2, r3⟩ := pp2
      have HC2 := refnumI_any (g + 1) r2 8 w2 H2.out.rd (by omega)
      rw [hp2] at HC2
      have HP2 := Lib.hid hp2
      have hv2 : v2 < 18446744073709551616 := by have := StmM.fixed_lt8 r2; rw [hp2] at this; exact this
      have HV2 := Lib.hid hv2
      
      clear hp2 hv2
      go_wp2_with fail
      refine HC2.mono ?_
      rintro e u2 ⟨rfl, hR2, hg2⟩
      have hX2 := H2.out.call hR2 hg2
      have fz2 := hX2.x.frozen 5
      have cz2 := hX2.x.cell 5
      simp only [List.getElem?_toArray, List.getElem?_cons_zero, List.getElem?_cons_succ] at cz2
      have hN2 : RfX w g r3 #[.int .i64 5, .int .u64 0, .slice none 0 0, .slice none 0 0, .int .u64 (v1 : Int), .int .u64 (v2 : Int), .int .i64 0, .slice none 0 0, .slice none 0 0, .int .i64 0] (u2.setCell ⟨g + 1 + 1, 5, none⟩ (.int .u64 (v2 : Int))) := hX2.set 5 (.int .u64 (v2 : Int))
      have H3 := Lib.hid hN2
      
      clear HC2 hR2 hg2 hX2 hN2
      go_upto_region 17 with fail
      generalize u2.setCell ⟨g + 1 + 1, 5, none⟩ (.int .u64 (v2 : Int)) = w3 at *
      clear fz2 cz2
      obtain ⟨pp3, hp3⟩ : ∃ p, r3.fixed 1 = p := ⟨_, rfl⟩
      obtain ⟨v3, r4⟩ := pp3
      have HC3 := refnumI_any (g + 1) r3 1 w3 H3.out.rd (by omega)
      rw [hp3] at HC3
      have HP3 := Lib.hid hp3
      have hv3 : v3 < 256 := by have := StmM.fixed_lt1 r3; rw [hp3] at this; exact this
      have HV3 := Lib.hid hv3
      have cw3 := int_u8 hv3
      clear hp3 hv3
      go_wp2_with fail
      refine HC3.mono ?_
      rintro e u3 ⟨rfl, hR3, hg3⟩
      have hX3 := H3.out.call hR3 hg3
      have fz3 := hX3.x.frozen 6
      have cz3 := hX3.x.cell 6
      simp only [List.getElem?_toArray, List.getElem?_cons_zero, List.getElem?_cons_succ] at cz3
      have hN3 : RfX w g r4 #[.int .i64 5, .int .u64 0, .slice none 0 0, .slice none 0 0, .int .u64 (v1 : Int), .int .u64 (v2 : Int), .int .i64 (v3 : Int), .slice none 0 0, .slice none 0 0, .int .i64 0] (u3.setCell ⟨g + 1 + 1, 6, none⟩ (.int .i64 (v3 : Int))) := hX3.set 6 (.int .i64 (v3 : Int))
      have H4 := Lib.hid hN3
      
      clear HC3 hR3 hg3 hX3 hN3
      go_wp2_with fail
      generalize u3.setCell ⟨g + 1 + 1, 6, none⟩ (.int .i64 (v3 : Int)) = w4 at *
      clear fz3 cz3
      go_meet
      case rel => exact ⟨⟨⟨5, StmM.no, v1, v2, (v3 : Int), [], [], 0⟩, none, 0, none, 0, none, 0, none, 0⟩, r4, ⟨.inl rfl, .inl rfl, .inl rfl, .inl rfl, ⟨by simp, StmM.no_ok, HV1.out, HV2.out, (by have := HV3.out; constructor <;> dsimp only <;> omega), (fun v hv => by cases hv), (fun v hv => by cases hv), by simp⟩, Nat.le_refl _, Nat.le_refl _, Nat.le_refl _, Nat.le_refl _, Nat.zero_le _, Nat.zero_le _, Nat.zero_le _, Nat.zero_le _⟩, ⟨Fresh.none, Fresh.none, Fresh.none, Fresh.none⟩, fun x hx hm hf => StmM.doc_5 hx hm hf HK1.out HKK.out rfl HP1.out HP2.out HP3.out, H4.out⟩
    by_cases k6 : k = 6
    · subst k6
      as_aux_lemma =>
      go_upto_region 19 with fail
      obtain ⟨pp1, hp1⟩ : ∃ p, r1.fixed 1 = p := ⟨_, rfl⟩
      obtain ⟨v1, r2⟩ := pp1
      have HC1 := refnumI_any (g + 1) r1 1 w1 H1.out.rd (by omega)
      rw [hp1] at HC1
      have HP1 := Lib.hid hp1
      have hv1 : v1 < 256 := by have := StmM.fixed_lt1 r1; rw [hp1] at this; exact this
      have HV1 := Lib.hid hv1
      have cw1 := int_u8 hv1
      clear hp1 hv1
      go_wp2_with fail
      refine HC1.mono ?_
      rintro e u1 ⟨rfl, hR1, hg1⟩
      have hX1 := H1.out.call hR1 hg1
      have fz1 := hX1.x.frozen 6
      have cz1 := hX1.x.cell 6
      simp only [List.getElem?_toArray, List.getElem?_cons_zero, List.getElem?_cons_succ] at cz1
      have hN1 : RfX w g r2 #[.int .i64 6, .int .u64 0, .slice none 0 0, .slice none 0 0, .int .u64 0, .int .u64 0, .int .i64 (v1 : Int), .slice none 0 0, .slice none 0 0, .int .i64 0] (u1.setCell ⟨g + 1 + 1, 6, none⟩ (.int .i64 (v1 : Int))) := hX1.set 6 (.int .i64 (v1 : Int))
      have H2 := Lib.hid hN1
      
      clear HC1 hR1 hg1 hX1 hN1
      go_upto_region 20 with fail
      generalize u1.setCell ⟨g + 1 + 1, 6, none⟩ (.int .i64 (v1 : Int)) = w2 at *
      clear fz1 cz1
      obtain ⟨pu, hpu⟩ : ∃ p, r2.uv = p := ⟨_, rfl⟩
      obtain ⟨nu, r3⟩ := pu
      have HC2 := refuvI_any (g + 1) r2 w2 H2.out.rd
      have hn64 : nu < 18446744073709551616 := by have := uv_lt r2; rw [hpu] at this; exact this
      rw [hpu] at HC2
      have HPU := Lib.hid hpu
      clear hpu
      go_wp2_with fail
      refine HC2.mono ?_
      rintro e u2 ⟨rfl, hR2, hg2⟩
      have H3 := Lib.hid (H2.out.call hR2 hg2)
      clear HC2 hR2 hg2
      go_wp2
      go_loopw [9] (fun i wr => ∃ (k : Nat) (qA : Option Addr) (qc : Nat), i = .int .u64 (k : Int) ∧ k ≤ nu ∧ k ≤ 4097 ∧ Q6 v1 w g r3 k wr qA qc) (fun i _ => nu - (RowKit.intOf i).toNat)
      case atStart => exact ⟨0, none, 0, rfl, Nat.zero_le _, Nat.zero_le _, H3.out, Own32.nil_ _ _⟩
      case round =>
        obtain ⟨k, qA, qc, rfl, hk, hk4, hI⟩ := hrel
        have HI := Lib.hid hI
        have ce := hI.1.rd.c1
        clear hI H3
        by_cases hlt : k < nu
        · by_cases h4 : k ≤ 4096
          · by_cases he : (ItemM.vecs k r3).2.e = 0
            · rw [he] at ce
              obtain ⟨q, hq⟩ : ∃ q, (ItemM.vecs k r3).2.fixed 4 = q := ⟨_, rfl⟩
              obtain ⟨m, r'⟩ := q
              have hm : m < 4294967296 := by have := fixed4_lt (ItemM.vecs k r3).2; rw [hq] at this; exact this
              have HQ := Lib.hid hq
              have HV1' : Hid ((ItemM.vecs (k + 1) r3).1 = (ItemM.vecs k r3).1 ++ [ItemM.i32 m]) := Lib.hid (by show (ItemM.vecs k r3).1 ++ [ItemM.i32 ((ItemM.vecs k r3).2.fixed 4).1] = _; rw [hq])
              have HV2' : Hid ((ItemM.vecs (k + 1) r3).2 = r') := Lib.hid (by show ((ItemM.vecs k r3).2.fixed 4).2 = _; rw [hq])
              have hwm : IntKind.i32.wrap (m : Int) = ItemM.i32 m := by rw [IntKind.wrap_i32]; rfl
              have hwu : IntKind.u32.wrap (m : Int) = (m : Int) := by rw [IntKind.wrap_u32]; omega
              go_upto_region 24 with fail
              obtain ⟨X, hX⟩ : ∃ X, g + 1 + 1 = X := ⟨_, rfl⟩
              have hX2 : g + 1 < X := by omega
              unfold Q6 at HI
              rw [hX] at HI
              have hxb : Blk wr X 42 #[.int .i64 6, .int .u64 0, .slice none 0 0, .slice none 0 0, .int .u64 0, .int .u64 0, .int .i64 (v1 : Int), .slice qA k qc, .slice none 0 0, .int .i64 0] := by rw [← hX]; exact HI.out.1.x
              simp only [hX]
              have HXE := Lib.hid hX
              have hx1 := hxb.cell 7
              have hx1d : wr.drew.cell? ⟨X, 7, none⟩ = some (.slice qA k qc) := by simpa using hx1
              have RDD : Hid (RdIn g 73 wr.drew (g + 1) (ItemM.vecs k r3).2) := Lib.hid HI.out.1.rd
              have OWD : Hid (Own32 wr.drew (X + 1) qA k qc (ItemM.vecs k r3).1) := Lib.hid HI.out.2
              have XD : Hid (Blk wr.drew X 42 #[.int .i64 6, .int .u64 0, .slice none 0 0, .slice none 0 0, .int .u64 0, .int .u64 0, .int .i64 (v1 : Int), .slice qA k qc, .slice none 0 0, .int .i64 0]) := Lib.hid hxb
              have RD : Hid (Blk wr.drew g 42 #[.int .i64 0, .int .u64 0, .slice none 0 0, .slice none 0 0, .int .u64 0, .int .u64 0, .int .i64 0, .slice none 0 0, .slice none 0 0, .int .i64 0]) := Lib.hid HI.out.1.res
              have BD : Hid (Below g w wr.drew) := Lib.hid ⟨HI.out.1.bel.os, HI.out.1.bel.tape, HI.out.1.bel.output, HI.out.1.bel.size, HI.out.1.bel.block⟩
              have SD : Hid (X + 1 ≤ wr.drew.heap.size) := Lib.hid hxb.lt
              clear hq he hx1 hxb hX HI ce
              go_region_law (first
                | (refine step_app32 _ rfl (.tmp 81) (.tmp 86) rfl (X + 1) qA qc (ItemM.vecs k r3).1 k (by first | rfl | simp [Act.eval, Act.put]) (OW6.out.alloc _) (some ⟨w6.heap.size, 0, none⟩) 1 [ItemM.i32 m] 1 (by first | rfl | simp [Act.eval, Act.put]) rfl (row_i1 w6 _) (by omega) (by have := S6.out; simp; omega) ?_
                   intro A7 c7 w7 h7 hg7
                   have B7 : Hid (Below (X + 1) w6 w7) := Lib.hid ((OW6.out.alloc _).grown_below rfl hg7 ((Below.refl _ _).alloc S6.out _) (Nat.le_refl _) (by have := S6.out; simp; omega))
                   have O7 := Lib.hid h7
                   have X7 := Lib.hid (X6.out.below B7.out (by omega))
                   have f7 := X7.out.frozen 7
                   have c7' := X7.out.cell 7
                   simp only [List.getElem?_toArray, List.getElem?_cons_zero, List.getElem?_cons_succ] at c7'
                   have gs7 := grownBy_setCell w7 X 7 (.slice A7 (k + 1) c7)
                   have RN : Hid (Q6 v1 w g r3 (k + 1) (w7.setCell ⟨X, 7, none⟩ (.slice A7 (k + 1) c7)) A7 c7) := Lib.hid ⟨⟨by rw [HV2'.out]; exact (R6.out.belowC B7.out (by omega) (by omega)).above gs7 (by omega) (by omega), by rw [HXE.out]; exact X7.out.set_ 7 (.slice A7 (k + 1) c7), (RR6.out.below B7.out (by omega)).grown gs7 (by intro q; injection q with q; omega), below_set (B6.out.trans (B7.out.mono (by omega))) (by have := S6.out; have := B7.out.size; omega) (by omega) _ _⟩, by rw [HV1'.out, HXE.out]; exact O7.out.kept gs7 (by omega)⟩
                   clear h7 hg7 gs7)
                | (go_simp
                   go_at_call 39
                   refine (refnumI_any (B := g) (g + 1) _ 4 _ RDD.out (by omega)).mono ?_
                   rw [HQ.out]
                   rintro e w6 ⟨rfl, q6, g6⟩
                   dsimp only at *
                   have R6 := Lib.hid q6
                   have OW6 := Lib.hid (OWD.out.kept g6 (by omega))
                   have X6 := Lib.hid (XD.out.grown g6 (by intro q; injection q with q; omega))
                   have RR6 := Lib.hid (RD.out.grown g6 (by intro q; injection q with q; omega))
                   have B6 := Lib.hid (below_grown BD.out g6 (by have := SD.out; omega) (by omega))
                   have S6 : Hid (X + 1 ≤ w6.heap.size) := Lib.hid (Nat.le_trans SD.out g6.size)
                   have hx6 : w6.cell? ⟨X, 7, none⟩ = some (.slice qA k qc) := by
                     have := X6.out.cell 7
                     simpa using this
                   have hx6a : (w6.alloc (.cells #[.int .i32 (ItemM.i32 m)] 21)).cell? ⟨X, 7, none⟩ = some (.slice qA k qc) := by
                     have := (X6.out.alloc (.cells #[.int .i32 (ItemM.i32 m)] 21)).cell 7
                     simpa using this
                   clear q6 g6))
              all_goals go_wp2
              all_goals (have hX := HXE.out; subst hX; go_roundw)
              all_goals first | (simp [RowKit.intOf]; omega) | exact ⟨k + 1, A7, c7, by go_num, by omega, by omega, RN.out⟩
            · have HEN : Hid (Enough k nu (ItemM.vecs k r3).2.e) := Lib.hid ⟨hk, .inr (.inr he)⟩
              have hd : (((ItemM.vecs k r3).2.e : Int) == 0) = false := beq_eq_false_iff_ne.2 (by omega)
              clear he
              go_upto_region 34 with fail
              clear ce
              obtain ⟨LQ, hLQ⟩ : ∃ L, ItemM.vecs k r3 = L := ⟨_, rfl⟩
              have HLQ := Lib.hid hLQ
              have HQL := Lib.hid (ItemM.vecs_length k r3)
              have HQV := Lib.hid (StmM.vecs_lt k r3)
              unfold Q6 at HI
              rw [hLQ] at HI HQL HQV
              obtain ⟨q, r4⟩ := LQ
              obtain rfl : q.length = k := HQL.out
              have hcap := own_cap HI.out.2
              have HLE : Hid (q.length ≤ qc ∧ qc ≤ maxLen) := Lib.hid (by
                rcases hcap with h | ⟨_, h2, h3⟩
                · exact h
                · rw [h2, h3]; exact ⟨Nat.le_refl _, Nat.zero_le _⟩)
              have H4 := Lib.hid HI.out.1
              have HO4 := Lib.hid HI.out.2
              clear hcap hLQ HI
              go_meet
              case rel => exact ⟨⟨⟨6, StmM.no, 0, 0, (v1 : Int), q, [], 0⟩, none, 0, none, 0, qA, qc, none, 0⟩, r4, ⟨.inl rfl, .inl rfl, HO4.out.row, .inl rfl, ⟨by simp, StmM.no_ok, by simp, by simp, (by have := HV1.out; constructor <;> dsimp only <;> omega), HQV.out, (fun v hv => by cases hv), by simp⟩, Nat.le_refl _, Nat.le_refl _, HLE.out.1, Nat.le_refl _, Nat.zero_le _, Nat.zero_le _, HLE.out.2, Nat.zero_le _⟩, ⟨Fresh.none, Fresh.none, (fresh_own HO4.out).mono (by omega), Fresh.none⟩, fun x hx hm hf => (by have hd := StmM.doc_6 hx hm hf HK1.out HKK.out rfl HP1.out HPU.out (i := q.length) (show Enough q.length nu (ItemM.vecs q.length r3).2.e from HEN.out); rw [HLQ.out] at hd; exact hd), H4.out⟩
          · have HEN : Hid (Enough k nu (ItemM.vecs k r3).2.e) := Lib.hid ⟨hk, .inr (.inl (by omega))⟩
            go_upto_region 34 with fail
            clear ce
            obtain ⟨LQ, hLQ⟩ : ∃ L, ItemM.vecs k r3 = L := ⟨_, rfl⟩
            have HLQ := Lib.hid hLQ
            have HQL := Lib.hid (ItemM.vecs_length k r3)
            have HQV := Lib.hid (StmM.vecs_lt k r3)
            unfold Q6 at HI
            rw [hLQ] at HI HQL HQV
            obtain ⟨q, r4⟩ := LQ
            obtain rfl : q.length = k := HQL.out
            have hcap := own_cap HI.out.2
            have HLE : Hid (q.length ≤ qc ∧ qc ≤ maxLen) := Lib.hid (by
              rcases hcap with h | ⟨_, h2, h3⟩
              · exact h
              · rw [h2, h3]; exact ⟨Nat.le_refl _, Nat.zero_le _⟩)
            have H4 := Lib.hid HI.out.1
            have HO4 := Lib.hid HI.out.2
            clear hcap hLQ HI
            go_meet
            case rel => exact ⟨⟨⟨6, StmM.no, 0, 0, (v1 : Int), q, [], 0⟩, none, 0, none, 0, qA, qc, none, 0⟩, r4, ⟨.inl rfl, .inl rfl, HO4.out.row, .inl rfl, ⟨by simp, StmM.no_ok, by simp, by simp, (by have := HV1.out; constructor <;> dsimp only <;> omega), HQV.out, (fun v hv => by cases hv), by simp⟩, Nat.le_refl _, Nat.le_refl _, HLE.out.1, Nat.le_refl _, Nat.zero_le _, Nat.zero_le _, HLE.out.2, Nat.zero_le _⟩, ⟨Fresh.none, Fresh.none, (fresh_own HO4.out).mono (by omega), Fresh.none⟩, fun x hx hm hf => (by have hd := StmM.doc_6 hx hm hf HK1.out HKK.out rfl HP1.out HPU.out (i := q.length) (show Enough q.length nu (ItemM.vecs q.length r3).2.e from HEN.out); rw [HLQ.out] at hd; exact hd), H4.out⟩
        · have HEN : Hid (Enough k nu (ItemM.vecs k r3).2.e) := Lib.hid ⟨hk, .inl (by omega)⟩
          go_upto_region 34 with fail
          clear ce
          obtain ⟨LQ, hLQ⟩ : ∃ L, ItemM.vecs k r3 = L := ⟨_, rfl⟩
          have HLQ := Lib.hid hLQ
          have HQL := Lib.hid (ItemM.vecs_length k r3)
          have HQV := Lib.hid (StmM.vecs_lt k r3)
          unfold Q6 at HI
          rw [hLQ] at HI HQL HQV
          obtain ⟨q, r4⟩ := LQ
          obtain rfl : q.length = k := HQL.out
          have hcap := own_cap HI.out.2
          have HLE : Hid (q.length ≤ qc ∧ qc ≤ maxLen) := Lib.hid (by
            rcases hcap with h | ⟨_, h2, h3⟩
            · exact h
            · rw [h2, h3]; exact ⟨Nat.le_refl _, Nat.zero_le _⟩)
          have H4 := Lib.hid HI.out.1
          have HO4 := Lib.hid HI.out.2
          clear hcap hLQ HI
          go_meet
          case rel => exact ⟨⟨⟨6, StmM.no, 0, 0, (v1 : Int), q, [], 0⟩, none, 0, none, 0, qA, qc, none, 0⟩, r4, ⟨.inl rfl, .inl rfl, HO4.out.row, .inl rfl, ⟨by simp, StmM.no_ok, by simp, by simp, (by have := HV1.out; constructor <;> dsimp only <;> omega), HQV.out, (fun v hv => by cases hv), by simp⟩, Nat.le_refl _, Nat.le_refl _, HLE.out.1, Nat.le_refl _, Nat.zero_le _, Nat.zero_le _, HLE.out.2, Nat.zero_le _⟩, ⟨Fresh.none, Fresh.none, (fresh_own HO4.out).mono (by omega), Fresh.none⟩, fun x hx hm hf => (by have hd := StmM.doc_6 hx hm hf HK1.out HKK.out rfl HP1.out HPU.out (i := q.length) (show Enough q.length nu (ItemM.vecs q.length r3).2.e from HEN.out); rw [HLQ.out] at hd; exact hd), H4.out⟩
      
    by_cases k10 : k = 10
    · subst k10
      as_aux_lemma =>
      go_upto_region 26 with fail
      obtain ⟨pp1, hp1⟩ : ∃ p, r1.fixed 8 = p := ⟨_, rfl⟩
      obtain ⟨v1, r2⟩ := pp1
      have HC1 := refnumI_any (g + 1) r1 8 w1 H1.out.rd (by omega)
      rw [hp1] at HC1
      have HP1 := Lib.hid hp1
      have hv1 : v1 < 18446744073709551616 := by have := StmM.fixed_lt8 r1; rw [hp1] at this; exact this
      have HV1 := Lib.hid hv1
      
      clear hp1 hv1
      go_wp2_with fail
      refine HC1.mono ?_
      rintro e u1 ⟨rfl, hR1, hg1⟩
      have hX1 := H1.out.call hR1 hg1
      have fz1 := hX1.x.frozen 1
      have cz1 := hX1.x.cell 1
      simp only [List.getElem?_toArray, List.getElem?_cons_zero, List.getElem?_cons_succ] at cz1
      have hN1 : RfX w g r2 #[.int .i64 10, .int .u64 (v1 : Int), .slice none 0 0, .slice none 0 0, .int .u64 0, .int .u64 0, .int .i64 0, .slice none 0 0, .slice none 0 0, .int .i64 0] (u1.setCell ⟨g + 1 + 1, 1, none⟩ (.int .u64 (v1 : Int))) := hX1.set 1 (.int .u64 (v1 : Int))
      have H2 := Lib.hid hN1
      
      clear HC1 hR1 hg1 hX1 hN1
      go_upto_region 27 with fail
      generalize u1.setCell ⟨g + 1 + 1, 1, none⟩ (.int .u64 (v1 : Int)) = w2 at *
      clear fz1 cz1
      obtain ⟨pp2, hp2⟩ : ∃ p, r2.fixed 1 = p := ⟨_, rfl⟩
      obtain ⟨v2, r3⟩ := pp2
      have HC2 := refnumI_any (g + 1) r2 1 w2 H2.out.rd (by omega)
      rw [hp2] at HC2
      have HP2 := Lib.hid hp2
      have hv2 : v2 < 256 := by have := StmM.fixed_lt1 r2; rw [hp2] at this; exact this
      have HV2 := Lib.hid hv2
      
      clear hp2 hv2
      go_wp2_with fail
      refine HC2.mono ?_
      rintro e u2 ⟨rfl, hR2, hg2⟩
      have hX2 := H2.out.call hR2 hg2
      have fz2 := hX2.x.frozen 9
      have cz2 := hX2.x.cell 9
      simp only [List.getElem?_toArray, List.getElem?_cons_zero, List.getElem?_cons_succ] at cz2
      have hN2 : RfX w g r3 #[.int .i64 10, .int .u64 (v1 : Int), .slice none 0 0, .slice none 0 0, .int .u64 0, .int .u64 0, .int .i64 0, .slice none 0 0, .slice none 0 0, .int .i64 (StmM.s8 v2)] (u2.setCell ⟨g + 1 + 1, 9, none⟩ (.int .i64 (StmM.s8 v2))) := hX2.set 9 (.int .i64 (StmM.s8 v2))
      have H3 := Lib.hid hN2
      
      clear HC2 hR2 hg2 hX2 hN2
      go_wp2_with fail
      refine (scale_any v2 u2 HV2.out).mono ?_
      rintro e u2' ⟨rfl, rfl⟩
      go_upto_region 28 with fail
      generalize u2.setCell ⟨g + 1 + 1, 9, none⟩ (.int .i64 (StmM.s8 v2)) = w3 at *
      clear fz2 cz2
      obtain ⟨pu, hpu⟩ : ∃ p, r3.uv = p := ⟨_, rfl⟩
      obtain ⟨nu, r4⟩ := pu
      have HC3 := someFloats_any g (g + 1) r3 w3 H3.out.rd H3.out.size
      rw [hpu] at HC3
      have HPU := Lib.hid hpu
      clear hpu
      go_wp2_with fail
      refine HC3.mono ?_
      rintro e u3 ⟨fi, fA4, fc4, rfl, hO3, hR3, hg3, HEN⟩
      have hX3 := H3.out.call hR3 hg3
      have fz3 := hX3.x.frozen 8
      have cz3 := hX3.x.cell 8
      simp only [List.getElem?_toArray, List.getElem?_cons_zero, List.getElem?_cons_succ] at cz3
      have hN3 : RfX w g (StmM.fls fi r4).2 #[.int .i64 10, .int .u64 (v1 : Int), .slice none 0 0, .slice none 0 0, .int .u64 0, .int .u64 0, .int .i64 0, .slice none 0 0, .slice fA4 fi fc4, .int .i64 (StmM.s8 v2)] (u3.setCell ⟨g + 1 + 1, 8, none⟩ (.slice fA4 fi fc4)) := hX3.set 8 (.slice fA4 fi fc4)
      have H4 := Lib.hid hN3
      have hs3 : g + 1 + 1 < w3.heap.size := H3.out.x.lt
      have HO3 : Hid (Own64 (u3.setCell ⟨g + 1 + 1, 8, none⟩ (.slice fA4 fi fc4)) (g + 3) fA4 fi fc4 (StmM.fls fi r4).1) := Lib.hid (own64_base (Own64.keptA hO3 (grownBy_setCell u3 (g + 1 + 1) 8 (.slice fA4 fi fc4)) hs3) hs3)
      have HFL := Lib.hid (StmM.fls_lt fi r4)
      have HFN := Lib.hid (StmM.fls_length fi r4)
      clear HC3 hO3 hR3 hg3 hX3 hN3 hs3
      go_upto_region 29 with fail
      generalize u3.setCell ⟨g + 1 + 1, 8, none⟩ (.slice fA4 fi fc4) = w4 at *
      clear fz3 cz3
      obtain ⟨L4, hL4⟩ : ∃ L, StmM.fls fi r4 = L := ⟨_, rfl⟩
      have HL4 := Lib.hid hL4
      rw [hL4] at H4 HO3 HFL HFN
      obtain ⟨fl, r5⟩ := L4
      obtain rfl : fl.length = fi := HFN.out
      clear hL4
      obtain ⟨pt, hpt⟩ : ∃ p, r5.text 1024 = p := ⟨_, rfl⟩
      obtain ⟨tx, r6⟩ := pt
      have HC5 := reftextI_any (g + 1) r5 1024 w4 H4.out.rd (by decide) (by decide)
      rw [hpt] at HC5
      have HPT := Lib.hid hpt
      clear hpt
      go_wp2_with fail
      refine HC5.mono ?_
      rintro e u5 ⟨tA, tn, tc, rfl, hn5, hO5, hR5, hg5⟩
      try simp only at hn5 hO5 hR5
      have hX5 := H4.out.call hR5 hg5
      have fz5 := hX5.x.frozen 3
      have cz5 := hX5.x.cell 3
      simp only [List.getElem?_toArray, List.getElem?_cons_zero, List.getElem?_cons_succ] at cz5
      have hN5 : RfX w g r6 #[.int .i64 10, .int .u64 (v1 : Int), .slice none 0 0, .slice tA tn tc, .int .u64 0, .int .u64 0, .int .i64 0, .slice none 0 0, .slice fA4 fl.length fc4, .int .i64 (StmM.s8 v2)] (u5.setCell ⟨g + 1 + 1, 3, none⟩ (.slice tA tn tc)) := hX5.set 3 (.slice tA tn tc)
      have H6 := Lib.hid hN5
      have hs4 : g + 1 + 1 < w4.heap.size := H4.out.x.lt
      have gs5 := grownBy_setCell u5 (g + 1 + 1) 3 (.slice tA tn tc)
      have HO6 : Hid (Own64 (u5.setCell ⟨g + 1 + 1, 3, none⟩ (.slice tA tn tc)) (g + 3) fA4 fl.length fc4 fl) := Lib.hid (Own64.keptA (Own64.keptA HO3.out hg5 (by omega)) gs5 (by omega))
      have HT6 : Hid (Own (u5.setCell ⟨g + 1 + 1, 3, none⟩ (.slice tA tn tc)) (g + 3) tA tc tx) := Lib.hid ((Own.kept hO5 gs5 hs4).base_ hs4)
      obtain rfl : tx.length = tn := hn5.out
      clear HC5 hO5 hR5 hg5 hX5 hN5 hs4 gs5 hn5 HO3
      go_wp2_with fail
      generalize u5.setCell ⟨g + 1 + 1, 3, none⟩ (.slice tA tx.length tc) = w6 at *
      clear fz5 cz5
      have hcap := own_cap HO6.out
      have HLE : Hid (fl.length ≤ fc4 ∧ fc4 ≤ maxLen) := Lib.hid (by
        rcases hcap with h | ⟨_, h2, h3⟩
        · exact h
        · rw [h2, h3]; exact ⟨Nat.le_refl _, Nat.zero_le _⟩)
      clear hcap
      go_meet
      case rel => exact ⟨⟨⟨10, ⟨v1, [], tx⟩, 0, 0, 0, [], fl, StmM.s8 v2⟩, none, 0, tA, tc, none, 0, fA4, fc4⟩, r6, ⟨.inl rfl, HT6.out.row, .inl rfl, (Own64.get HO6.out).1, ⟨by simp, ⟨HV1.out, (fun v hv => by cases hv)⟩, by simp, by simp, by simp, (fun v hv => by cases hv), HFL.out, (by have := StmM.s8_range HV2.out; constructor <;> dsimp only <;> omega)⟩, Nat.le_refl _, HT6.out.le.1, Nat.le_refl _, HLE.out.1, Nat.zero_le _, HT6.out.le.2, Nat.zero_le _, HLE.out.2⟩, ⟨Fresh.none, (fresh_own HT6.out).mono (by omega), Fresh.none, (fresh_own HO6.out).mono (by omega)⟩, fun x hx hm hf => (by have hd := StmM.doc_10 hx hm hf HK1.out HKK.out rfl HP1.out HP2.out HPU.out (i := fl.length) HEN.out (show (StmM.fls fl.length r4).2.text 1024 = (tx, r6) from by rw [HL4.out]; exact HPT.out); rw [HL4.out] at hd; exact hd), H6.out⟩
    by_cases k11 : k = 11
    · subst k11
      as_aux_lemma =>
      go_upto_region 31 with fail
      obtain ⟨pp1, hp1⟩ : ∃ p, r1.fixed 1 = p := ⟨_, rfl⟩
      obtain ⟨v1, r2⟩ := pp1
      have HC1 := refnumI_any (g + 1) r1 1 w1 H1.out.rd (by omega)
      rw [hp1] at HC1
      have HP1 := Lib.hid hp1
      have hv1 : v1 < 256 := by have := StmM.fixed_lt1 r1; rw [hp1] at this; exact this
      have HV1 := Lib.hid hv1
      have cw1 := int_u8 hv1
      clear hp1 hv1
      go_wp2_with fail
      refine HC1.mono ?_
      rintro e u1 ⟨rfl, hR1, hg1⟩
      have hX1 := H1.out.call hR1 hg1
      have fz1 := hX1.x.frozen 6
      have cz1 := hX1.x.cell 6
      simp only [List.getElem?_toArray, List.getElem?_cons_zero, List.getElem?_cons_succ] at cz1
      have hN1 : RfX w g r2 #[.int .i64 11, .int .u64 0, .slice none 0 0, .slice none 0 0, .int .u64 0, .int .u64 0, .int .i64 (v1 : Int), .slice none 0 0, .slice none 0 0, .int .i64 0] (u1.setCell ⟨g + 1 + 1, 6, none⟩ (.int .i64 (v1 : Int))) := hX1.set 6 (.int .i64 (v1 : Int))
      have H2 := Lib.hid hN1
      
      clear HC1 hR1 hg1 hX1 hN1
      go_upto_region 32 with fail
      generalize u1.setCell ⟨g + 1 + 1, 6, none⟩ (.int .i64 (v1 : Int)) = w2 at *
      clear fz1 cz1
      obtain ⟨pp2, hp2⟩ : ∃ p, r2.fixed 1 = p := ⟨_, rfl⟩
      obtain ⟨v2, r3⟩ := pp2
      have HC2 := refnumI_any (g + 1) r2 1 w2 H2.out.rd (by omega)
      rw [hp2] at HC2
      have HP2 := Lib.hid hp2
      have hv2 : v2 < 256 := by have := StmM.fixed_lt1 r2; rw [hp2] at this; exact this
      have HV2 := Lib.hid hv2
      
      clear hp2 hv2
      go_wp2_with fail
      refine HC2.mono ?_
      rintro e u2 ⟨rfl, hR2, hg2⟩
      have hX2 := H2.out.call hR2 hg2
      have fz2 := hX2.x.frozen 9
      have cz2 := hX2.x.cell 9
      simp only [List.getElem?_toArray, List.getElem?_cons_zero, List.getElem?_cons_succ] at cz2
      have hN2 : RfX w g r3 #[.int .i64 11, .int .u64 0, .slice none 0 0, .slice none 0 0, .int .u64 0, .int .u64 0, .int .i64 (v1 : Int), .slice none 0 0, .slice none 0 0, .int .i64 (StmM.s8 v2)] (u2.setCell ⟨g + 1 + 1, 9, none⟩ (.int .i64 (StmM.s8 v2))) := hX2.set 9 (.int .i64 (StmM.s8 v2))
      have H3 := Lib.hid hN2
      
      clear HC2 hR2 hg2 hX2 hN2
      go_wp2_with fail
      refine (scale_any v2 u2 HV2.out).mono ?_
      rintro e u2' ⟨rfl, rfl⟩
      go_upto_region 33 with fail
      generalize u2.setCell ⟨g + 1 + 1, 9, none⟩ (.int .i64 (StmM.s8 v2)) = w3 at *
      clear fz2 cz2
      obtain ⟨pu, hpu⟩ : ∃ p, r3.uv = p := ⟨_, rfl⟩
      obtain ⟨nu, r4⟩ := pu
      have HC3 := someFloats_any g (g + 1) r3 w3 H3.out.rd H3.out.size
      rw [hpu] at HC3
      have HPU := Lib.hid hpu
      clear hpu
      go_wp2_with fail
      refine HC3.mono ?_
      rintro e u3 ⟨fi, fA4, fc4, rfl, hO3, hR3, hg3, HEN⟩
      have hX3 := H3.out.call hR3 hg3
      have fz3 := hX3.x.frozen 8
      have cz3 := hX3.x.cell 8
      simp only [List.getElem?_toArray, List.getElem?_cons_zero, List.getElem?_cons_succ] at cz3
      have hN3 : RfX w g (StmM.fls fi r4).2 #[.int .i64 11, .int .u64 0, .slice none 0 0, .slice none 0 0, .int .u64 0, .int .u64 0, .int .i64 (v1 : Int), .slice none 0 0, .slice fA4 fi fc4, .int .i64 (StmM.s8 v2)] (u3.setCell ⟨g + 1 + 1, 8, none⟩ (.slice fA4 fi fc4)) := hX3.set 8 (.slice fA4 fi fc4)
      have H4 := Lib.hid hN3
      have hs3 : g + 1 + 1 < w3.heap.size := H3.out.x.lt
      have HO3 : Hid (Own64 (u3.setCell ⟨g + 1 + 1, 8, none⟩ (.slice fA4 fi fc4)) (g + 3) fA4 fi fc4 (StmM.fls fi r4).1) := Lib.hid (own64_base (Own64.keptA hO3 (grownBy_setCell u3 (g + 1 + 1) 8 (.slice fA4 fi fc4)) hs3) hs3)
      have HFL := Lib.hid (StmM.fls_lt fi r4)
      have HFN := Lib.hid (StmM.fls_length fi r4)
      clear HC3 hO3 hR3 hg3 hX3 hN3 hs3
      go_wp2_with fail
      generalize u3.setCell ⟨g + 1 + 1, 8, none⟩ (.slice fA4 fi fc4) = w4 at *
      clear fz3 cz3
      obtain ⟨L4, hL4⟩ : ∃ L, StmM.fls fi r4 = L := ⟨_, rfl⟩
      have HL4 := Lib.hid hL4
      rw [hL4] at H4 HO3 HFL HFN
      obtain ⟨fl, r5⟩ := L4
      obtain rfl : fl.length = fi := HFN.out
      clear hL4
      have H5 := H4
      obtain ⟨w4, hw4⟩ : ∃ x, w4 = x := ⟨_, rfl⟩
      subst hw4
      have hcap := own_cap HO3.out
      have HLE : Hid (fl.length ≤ fc4 ∧ fc4 ≤ maxLen) := Lib.hid (by
        rcases hcap with h | ⟨_, h2, h3⟩
        · exact h
        · rw [h2, h3]; exact ⟨Nat.le_refl _, Nat.zero_le _⟩)
      clear hcap
      go_meet
      case rel => exact ⟨⟨⟨11, StmM.no, 0, 0, (v1 : Int), [], fl, StmM.s8 v2⟩, none, 0, none, 0, none, 0, fA4, fc4⟩, r5, ⟨.inl rfl, .inl rfl, .inl rfl, (Own64.get HO3.out).1, ⟨by simp, StmM.no_ok, by simp, by simp, (by have := HV1.out; constructor <;> dsimp only <;> omega), (fun v hv => by cases hv), HFL.out, (by have := StmM.s8_range HV2.out; constructor <;> dsimp only <;> omega)⟩, Nat.le_refl _, Nat.le_refl _, Nat.le_refl _, HLE.out.1, Nat.zero_le _, Nat.zero_le _, Nat.zero_le _, HLE.out.2⟩, ⟨Fresh.none, Fresh.none, Fresh.none, (fresh_own HO3.out).mono (by omega)⟩, fun x hx hm hf => (by have hd := StmM.doc_11 hx hm hf HK1.out HKK.out rfl HP1.out HP2.out HPU.out (i := fl.length) HEN.out; rw [HL4.out] at hd; exact hd), H5.out⟩
    have h2 : (k == 2) = false := beq_eq_false_iff_ne.2 k2
    have h3 : (k == 3) = false := beq_eq_false_iff_ne.2 k3
    have h4 : (k == 4) = false := beq_eq_false_iff_ne.2 k4
    have h5 : (k == 5) = false := beq_eq_false_iff_ne.2 k5
    have h6 : (k == 6) = false := beq_eq_false_iff_ne.2 k6
    have h10 : (k == 10) = false := beq_eq_false_iff_ne.2 k10
    have h11 : (k == 11) = false := beq_eq_false_iff_ne.2 k11
    go_wp2_with fail
    go_meet
    case rel => exact ⟨⟨StmM.nil k, none, 0, none, 0, none, 0, none, 0⟩, r1, ⟨.inl rfl, .inl rfl, .inl rfl, .inl rfl, ⟨HKR.out, StmM.no_ok, by simp [StmM.nil], by simp [StmM.nil], by simp [StmM.nil], (fun v hv => by cases hv), (fun v hv => by cases hv), by simp [StmM.nil]⟩, Nat.le_refl _, Nat.le_refl _, Nat.le_refl _, Nat.le_refl _, Nat.zero_le _, Nat.zero_le _, Nat.zero_le _, Nat.zero_le _⟩, ⟨Fresh.none, Fresh.none, Fresh.none, Fresh.none⟩, fun x hx hm hf => StmM.doc_other hm hf HK1.out HKK.out ⟨k2, k3, k4, k5, k6, k10, k11⟩, H1.out⟩
  obtain ⟨y, r9, hat, hfr3, hdd, hzz⟩ := hcut
  have HAT := Lib.hid hat
  have HF3 := Lib.hid hfr3
  have HFR : Hid (y.Fr g) := Lib.hid (HF3.out.mono (by omega))
  have HD := Lib.hid hdd
  have HZ := Lib.hid hzz
  clear hat hfr3 hdd hzz
  go_upto_region 34 with fail
  have hrd := StmM.read_doc HAT.out.ok HD.out
  have HRD := Lib.hid (HRR.out.symm.trans hrd)
  obtain ⟨P1, h1⟩ : ∃ p : Bool, ((r9.e : Int) != 0) = p := ⟨_, rfl⟩
  obtain ⟨P2, h2, k2⟩ := or_letter2 P1 (!StmM.may y.x)
  obtain ⟨P3, h3, k3⟩ := or_letter2 P2 (!decide (StmM.form y.x = b))
  have Q1 := Lib.hid h1
  have Q2 : Hid ((P1 = true → P2 = true) ∧ (P1 = false → StmM.may y.x = !P2)) := Lib.hid ⟨h2.1, fun q => by rw [← h2.2 q, Bool.not_not]⟩
  have Q3 := Lib.hid h3
  have Q4 : Hid (P2 = false → StmM.may y.x = true) := Lib.hid (fun q => by have := (k2.1 q).2; simpa using this)
  have Q5 : Hid (P3 = false ↔ ¬ (r9.e ≠ 0 ∨ StmM.may y.x = false ∨ StmM.form y.x ≠ b)) := Lib.hid (by
    rw [k3, k2, ← h1]
    simp [and_assoc])
  clear hrd h1 h2 h3 k2 k3
  refine wp_named fun a0 ha0 => ?_
  have z0 : a0.tmps.getD 0 undef = (.slice A b.length c) := by rw [ha0.out]; rfl
  have z4 : a0.tmps.getD 4 undef = (.pointer (some ⟨g + 1, 0, none⟩)) := by rw [ha0.out]; rfl
  have z5 : a0.tmps.getD 5 undef = (.pointer (some ⟨g + 1 + 1, 0, none⟩)) := by rw [ha0.out]; rfl
  have hsz0 : a0.tmps.size = 139 := by rw [ha0.out]; rfl
  refine wp_region_invB _ (by kernel_rfl) (fun L a wv => ∃ fA fn fc, PIF a0 [119, 120, 121, 122, 123, 124, 125, 126, 127, 128, 129, 130, 131, 132, 133, 134, 135, 136] (rr34P A c b g y r9.e P1 P2 P3 fA fn fc) L a ∧ Below wc.heap.size wc wv ∧ (L 12 = true → P2 = false → Row wv fA (bs (StmM.form y.x)) ∧ (StmM.form y.x).length = fn)) (by kernel_rfl) ?_ ?_ ?_
  · exact ⟨none, 0, 0, PIF.start _ _ _, ⟨rfl, rfl, rfl, Nat.le_refl _, fun _ _ => rfl⟩, fun q => by cases q⟩
  rotate_left
  · as_aux_lemma =>
    refine ⟨?_, ?_, ?_, ?_, ?_, ?_, ?_, ?_, ?_, ?_, ?_, ?_, ?_, ?_, ?_, ?_, ?_, ?_, trivial⟩
    · intro L a w1 hI hi hd
      obtain ⟨fA, fn, fc, hp, hw⟩ := hI
      have t4 := hp.at_ 4 _ rfl z4
      have t4' := t4
      rw [Array.getD_eq_getD_getElem?] at t4'
      exact rstep_valW (wanted_none rfl _) (.pointer (some ⟨g + 1, 0, none⟩)) w1 (by go_simp) ⟨fA, fn, fc, (hp.put 0 119 (.pointer (some ⟨g + 1, 0, none⟩)) (by simp [rr34P]) (by simp [rr34P]) rfl (by rw [hsz0]; exact (by decide : 119 < 139))), ⟨hw.1, by rw [upd_ne L (show (12 : Nat) ≠ 0 by decide)]; exact hw.2⟩⟩
    · intro L a w1 hI hi hd
      obtain ⟨fA, fn, fc, hp, hw⟩ := hI
      simp [Region.binds] at hd
      have e0 : a.tmps.getD 119 undef = (.pointer (some ⟨g + 1, 0, none⟩)) := hp.pu (0, 119, (.pointer (some ⟨g + 1, 0, none⟩))) (by simp [rr34P]) (by simp [hd])
      have f0 : a.tmps[119]?.getD undef = (.pointer (some ⟨g + 1, 0, none⟩)) := by rw [← Array.getD_eq_getD_getElem?]; exact e0
      exact rstep_valW (wanted_none rfl _) (.pointer (some ⟨g + 1, 0, none⟩)) w1 (by go_simp) ⟨fA, fn, fc, (hp.put 1 120 (.pointer (some ⟨g + 1, 0, none⟩)) (by simp [rr34P]) (by simp [rr34P]) rfl (by rw [hsz0]; exact (by decide : 120 < 139))), ⟨hw.1, by rw [upd_ne L (show (12 : Nat) ≠ 1 by decide)]; exact hw.2⟩⟩
    · intro L a w1 hI hi hd
      obtain ⟨fA, fn, fc, hp, hw⟩ := hI
      simp [Region.binds] at hd
      have e1 : a.tmps.getD 120 undef = (.pointer (some ⟨g + 1, 0, none⟩)) := hp.pu (1, 120, (.pointer (some ⟨g + 1, 0, none⟩))) (by simp [rr34P]) (by simp [hd])
      have f1 : a.tmps[120]?.getD undef = (.pointer (some ⟨g + 1, 0, none⟩)) := by rw [← Array.getD_eq_getD_getElem?]; exact e1
      exact rstep_valW (wanted_none rfl _) (.pointer (some ⟨g + 1, 1, none⟩)) w1 (by go_simp) ⟨fA, fn, fc, (hp.put 2 121 (.pointer (some ⟨g + 1, 1, none⟩)) (by simp [rr34P]) (by simp [rr34P]) rfl (by rw [hsz0]; exact (by decide : 121 < 139))), ⟨hw.1, by rw [upd_ne L (show (12 : Nat) ≠ 2 by decide)]; exact hw.2⟩⟩
    · intro L a w1 hI hi hd
      obtain ⟨fA, fn, fc, hp, hw⟩ := hI
      simp [Region.binds] at hd
      have e2 : a.tmps.getD 121 undef = (.pointer (some ⟨g + 1, 1, none⟩)) := hp.pu (2, 121, (.pointer (some ⟨g + 1, 1, none⟩))) (by simp [rr34P]) (by simp [hd])
      have f2 : a.tmps[121]?.getD undef = (.pointer (some ⟨g + 1, 1, none⟩)) := by rw [← Array.getD_eq_getD_getElem?]; exact e2
      have c1 := (HZ.out.below hw.1).rd.c1
      exact rstep_valW (wanted_none rfl _) (.int .i64 (r9.e : Int)) w1 (by go_simp) ⟨fA, fn, fc, (hp.put 3 122 (.int .i64 (r9.e : Int)) (by simp [rr34P]) (by simp [rr34P]) rfl (by rw [hsz0]; exact (by decide : 122 < 139))), ⟨hw.1, by rw [upd_ne L (show (12 : Nat) ≠ 3 by decide)]; exact hw.2⟩⟩
    · intro L a w1 hI hi hd
      obtain ⟨fA, fn, fc, hp, hw⟩ := hI
      simp [Region.binds] at hd
      have e3 : a.tmps.getD 122 undef = (.int .i64 (r9.e : Int)) := hp.pu (3, 122, (.int .i64 (r9.e : Int))) (by simp [rr34P]) (by simp [hd])
      have f3 : a.tmps[122]?.getD undef = (.int .i64 (r9.e : Int)) := by rw [← Array.getD_eq_getD_getElem?]; exact e3
      have hq := Q1.out
      exact rstep_valW (wanted_none rfl _) (.bool P1) w1 (by go_simp) ⟨fA, fn, fc, (hp.put 4 123 (.bool P1) (by simp [rr34P]) (by simp [rr34P]) rfl (by rw [hsz0]; exact (by decide : 123 < 139))), ⟨hw.1, by rw [upd_ne L (show (12 : Nat) ≠ 4 by decide)]; exact hw.2⟩⟩
    · intro L a w1 hI hi hd
      obtain ⟨fA, fn, fc, hp, hw⟩ := hI
      simp [Region.binds] at hd
      have e4 : a.tmps.getD 123 undef = (.bool P1) := hp.pu (4, 123, (.bool P1)) (by simp [rr34P]) (by simp [hd])
      have f4 : a.tmps[123]?.getD undef = (.bool P1) := by rw [← Array.getD_eq_getD_getElem?]; exact e4
      exact rstep_valW (wanted_none rfl _) (.bool P1) w1 (by go_simp) ⟨fA, fn, fc, (hp.put 5 124 (.bool P1) (by simp [rr34P]) (by simp [rr34P]) rfl (by rw [hsz0]; exact (by decide : 124 < 139))), ⟨hw.1, by rw [upd_ne L (show (12 : Nat) ≠ 5 by decide)]; exact hw.2⟩⟩
    · intro L a w1 hI hi hd
      obtain ⟨fA, fn, fc, hp, hw⟩ := hI
      simp [Region.binds] at hd
      have e5 : a.tmps.getD 124 undef = (.bool P1) := hp.pu (5, 124, (.bool P1)) (by simp [rr34P]) (by simp [hd])
      have f5 : a.tmps[124]?.getD undef = (.bool P1) := by rw [← Array.getD_eq_getD_getElem?]; exact e5
      have t5 := hp.at_ 5 _ rfl z5
      have t5' := t5
      rw [Array.getD_eq_getD_getElem?] at t5'
      cases P1 with
      | true =>
        try simp only [cond_true, cond_false] at e5 f5
        exact rstep_un (unwanted_of 5 124 false true (by decide) rfl rfl e5) ⟨fA, fn, fc, (hp.put 6 125 undef (by simp [rr34P]) (by simp [rr34P]) rfl (by rw [hsz0]; exact (by decide : 125 < 139))), ⟨hw.1, by rw [upd_ne L (show (12 : Nat) ≠ 6 by decide)]; exact hw.2⟩⟩
      | false =>
        try simp only [cond_true, cond_false] at e5 f5
        exact rstep_valW (wanted_of 5 124 false rfl rfl e5) (.agg y.cells) w1 (exec_load_row _ (.tmp 5) rfl (g + 1 + 1) t5 _ _ _ (HZ.out.below hw.1).x Try.underlying42 rfl (by kernel_rfl)) ⟨fA, fn, fc, (hp.put 6 125 (.agg y.cells) (by simp [rr34P]) (by simp [rr34P]) rfl (by rw [hsz0]; exact (by decide : 125 < 139))), ⟨hw.1, by rw [upd_ne L (show (12 : Nat) ≠ 6 by decide)]; exact hw.2⟩⟩
    · intro L a w1 hI hi hd
      obtain ⟨fA, fn, fc, hp, hw⟩ := hI
      simp [Region.binds] at hd
      have e5 : a.tmps.getD 124 undef = (.bool P1) := hp.pu (5, 124, (.bool P1)) (by simp [rr34P]) (by simp [hd])
      have f5 : a.tmps[124]?.getD undef = (.bool P1) := by rw [← Array.getD_eq_getD_getElem?]; exact e5
      have e6 : a.tmps.getD 125 undef = (bif P1 then undef else (.agg y.cells)) := hp.pu (6, 125, (bif P1 then undef else (.agg y.cells))) (by simp [rr34P]) (by simp [hd])
      have f6 : a.tmps[125]?.getD undef = (bif P1 then undef else (.agg y.cells)) := by rw [← Array.getD_eq_getD_getElem?]; exact e6
      cases P1 with
      | true =>
        try simp only [cond_true, cond_false] at e5 f5 e6 f6
        exact rstep_un (unwanted_of 5 124 false true (by decide) rfl rfl e5) ⟨fA, fn, fc, (hp.put 7 126 undef (by simp [rr34P]) (by simp [rr34P]) rfl (by rw [hsz0]; exact (by decide : 126 < 139))), ⟨hw.1, by rw [upd_ne L (show (12 : Nat) ≠ 7 by decide)]; exact hw.2⟩⟩
      | false =>
        try simp only [cond_true, cond_false] at e5 f5 e6 f6
        have HAW := HAT.out.below hw.1
        refine rstep_callW (wanted_of 5 124 false rfl rfl e5) 22 #[(.agg y.cells)] (by go_simp) ?_
        refine (refmay22_any y w1 HAW).mono ?_
        rintro e w2 ⟨rfl, hb2⟩
        rw [Q2.out.2 rfl]
        exact ⟨fA, fn, fc, (hp.put 7 126 (.bool (!P2)) (by simp [rr34P]) (by simp [rr34P]) rfl (by rw [hsz0]; exact (by decide : 126 < 139))), ⟨below_join hw.1 hb2, by rw [upd_ne L (show (12 : Nat) ≠ 7 by decide)]; exact fun q p => ⟨(hw.2 q p).1.below hb2, (hw.2 q p).2⟩⟩⟩
    · intro L a w1 hI hi hd
      obtain ⟨fA, fn, fc, hp, hw⟩ := hI
      simp [Region.binds] at hd
      have e5 : a.tmps.getD 124 undef = (.bool P1) := hp.pu (5, 124, (.bool P1)) (by simp [rr34P]) (by simp [hd])
      have f5 : a.tmps[124]?.getD undef = (.bool P1) := by rw [← Array.getD_eq_getD_getElem?]; exact e5
      have e7 : a.tmps.getD 126 undef = (bif P1 then undef else (.bool (!P2))) := hp.pu (7, 126, (bif P1 then undef else (.bool (!P2)))) (by simp [rr34P]) (by simp [hd])
      have f7 : a.tmps[126]?.getD undef = (bif P1 then undef else (.bool (!P2))) := by rw [← Array.getD_eq_getD_getElem?]; exact e7
      cases P1 with
      | true =>
        try simp only [cond_true, cond_false] at e5 f5 e7 f7
        exact rstep_un (unwanted_of 5 124 false true (by decide) rfl rfl e5) ⟨fA, fn, fc, (hp.put 8 127 undef (by simp [rr34P]) (by simp [rr34P]) rfl (by rw [hsz0]; exact (by decide : 127 < 139))), ⟨hw.1, by rw [upd_ne L (show (12 : Nat) ≠ 8 by decide)]; exact hw.2⟩⟩
      | false =>
        try simp only [cond_true, cond_false] at e5 f5 e7 f7
        exact rstep_valW (wanted_of 5 124 false rfl rfl e5) (.bool P2) w1 (by go_simp) ⟨fA, fn, fc, (hp.put 8 127 (.bool P2) (by simp [rr34P]) (by simp [rr34P]) rfl (by rw [hsz0]; exact (by decide : 127 < 139))), ⟨hw.1, by rw [upd_ne L (show (12 : Nat) ≠ 8 by decide)]; exact hw.2⟩⟩
    · intro L a w1 hI hi hd
      obtain ⟨fA, fn, fc, hp, hw⟩ := hI
      simp [Region.binds] at hd
      have e5 : a.tmps.getD 124 undef = (.bool P1) := hp.pu (5, 124, (.bool P1)) (by simp [rr34P]) (by simp [hd])
      have f5 : a.tmps[124]?.getD undef = (.bool P1) := by rw [← Array.getD_eq_getD_getElem?]; exact e5
      have e8 : a.tmps.getD 127 undef = (bif P1 then undef else (.bool P2)) := hp.pu (8, 127, (bif P1 then undef else (.bool P2))) (by simp [rr34P]) (by simp [hd])
      have f8 : a.tmps[127]?.getD undef = (bif P1 then undef else (.bool P2)) := by rw [← Array.getD_eq_getD_getElem?]; exact e8
      cases P1 with
      | true =>
        try simp only [cond_true, cond_false] at e5 f5 e8 f8
        obtain rfl : P2 = true := Q2.out.1 rfl
        exact rstep_valW (wanted_none rfl _) (.bool true) w1 (by go_simp) ⟨fA, fn, fc, (hp.put 9 128 (.bool true) (by simp [rr34P]) (by simp [rr34P]) rfl (by rw [hsz0]; exact (by decide : 128 < 139))), ⟨hw.1, by rw [upd_ne L (show (12 : Nat) ≠ 9 by decide)]; exact hw.2⟩⟩
      | false =>
        try simp only [cond_true, cond_false] at e5 f5 e8 f8
        exact rstep_valW (wanted_none rfl _) (.bool P2) w1 (by go_simp) ⟨fA, fn, fc, (hp.put 9 128 (.bool P2) (by simp [rr34P]) (by simp [rr34P]) rfl (by rw [hsz0]; exact (by decide : 128 < 139))), ⟨hw.1, by rw [upd_ne L (show (12 : Nat) ≠ 9 by decide)]; exact hw.2⟩⟩
    · intro L a w1 hI hi hd
      obtain ⟨fA, fn, fc, hp, hw⟩ := hI
      simp [Region.binds] at hd
      have e9 : a.tmps.getD 128 undef = (.bool P2) := hp.pu (9, 128, (.bool P2)) (by simp [rr34P]) (by simp [hd])
      have f9 : a.tmps[128]?.getD undef = (.bool P2) := by rw [← Array.getD_eq_getD_getElem?]; exact e9
      exact rstep_valW (wanted_none rfl _) (.bool P2) w1 (by go_simp) ⟨fA, fn, fc, (hp.put 10 129 (.bool P2) (by simp [rr34P]) (by simp [rr34P]) rfl (by rw [hsz0]; exact (by decide : 129 < 139))), ⟨hw.1, by rw [upd_ne L (show (12 : Nat) ≠ 10 by decide)]; exact hw.2⟩⟩
    · intro L a w1 hI hi hd
      obtain ⟨fA, fn, fc, hp, hw⟩ := hI
      simp [Region.binds] at hd
      have e10 : a.tmps.getD 129 undef = (.bool P2) := hp.pu (10, 129, (.bool P2)) (by simp [rr34P]) (by simp [hd])
      have f10 : a.tmps[129]?.getD undef = (.bool P2) := by rw [← Array.getD_eq_getD_getElem?]; exact e10
      have t5 := hp.at_ 5 _ rfl z5
      have t5' := t5
      rw [Array.getD_eq_getD_getElem?] at t5'
      cases P2 with
      | true =>
        try simp only [cond_true, cond_false] at e10 f10
        exact rstep_un (unwanted_of 10 129 false true (by decide) rfl rfl e10) ⟨fA, fn, fc, (hp.put 11 130 undef (by simp [rr34P]) (by simp [rr34P]) rfl (by rw [hsz0]; exact (by decide : 130 < 139))), ⟨hw.1, by rw [upd_ne L (show (12 : Nat) ≠ 11 by decide)]; exact hw.2⟩⟩
      | false =>
        try simp only [cond_true, cond_false] at e10 f10
        exact rstep_valW (wanted_of 10 129 false rfl rfl e10) (.agg y.cells) w1 (exec_load_row _ (.tmp 5) rfl (g + 1 + 1) t5 _ _ _ (HZ.out.below hw.1).x Try.underlying42 rfl (by kernel_rfl)) ⟨fA, fn, fc, (hp.put 11 130 (.agg y.cells) (by simp [rr34P]) (by simp [rr34P]) rfl (by rw [hsz0]; exact (by decide : 130 < 139))), ⟨hw.1, by rw [upd_ne L (show (12 : Nat) ≠ 11 by decide)]; exact hw.2⟩⟩
    · intro L a w1 hI hi hd
      obtain ⟨fA, fn, fc, hp, hw⟩ := hI
      simp [Region.binds] at hd
      have e10 : a.tmps.getD 129 undef = (.bool P2) := hp.pu (10, 129, (.bool P2)) (by simp [rr34P]) (by simp [hd])
      have f10 : a.tmps[129]?.getD undef = (.bool P2) := by rw [← Array.getD_eq_getD_getElem?]; exact e10
      have e11 : a.tmps.getD 130 undef = (bif P2 then undef else (.agg y.cells)) := hp.pu (11, 130, (bif P2 then undef else (.agg y.cells))) (by simp [rr34P]) (by simp [hd])
      have f11 : a.tmps[130]?.getD undef = (bif P2 then undef else (.agg y.cells)) := by rw [← Array.getD_eq_getD_getElem?]; exact e11
      cases P2 with
      | true =>
        try simp only [cond_true, cond_false] at e10 f10 e11 f11
        exact rstep_un (unwanted_of 10 129 false true (by decide) rfl rfl e10) ⟨fA, fn, fc, (hp.put 12 131 undef (by simp [rr34P]) (by simp [rr34P]) rfl (by rw [hsz0]; exact (by decide : 131 < 139))), ⟨hw.1, fun _ q => by cases q⟩⟩
      | false =>
        try simp only [cond_true, cond_false] at e10 f10 e11 f11
        have hi12 : L 12 = false := hi
        refine rstep_callW (wanted_of 10 129 false rfl rfl e10) 24 #[(.agg y.cells)] (by go_simp) ?_
        refine (refform22_any y w1 (HAT.out.below hw.1) (Q4.out rfl)).mono ?_
        rintro e w2 ⟨A9, n9, c9, rfl, hn9, hO9, hb2⟩
        exact ⟨A9, n9, c9, ((PIF.swap (p2 := (rr34P A c b g y r9.e P1 false P3 A9 n9 c9)) hp (by intro q hq hL; simp only [rr34P, List.mem_cons, List.not_mem_nil, or_false] at hq; rcases hq with rfl | rfl | rfl | rfl | rfl | rfl | rfl | rfl | rfl | rfl | rfl | rfl | rfl | rfl | rfl | rfl | rfl | rfl <;> first | (simp [rr34P]; done) | exact absurd hL (by show ¬ L 12 = true; rw [hi12]; simp))).put 12 131 (.slice A9 n9 c9) (by simp [rr34P]) (by simp [rr34P]) rfl (by rw [hsz0]; exact (by decide : 131 < 139))), below_join hw.1 hb2, fun _ _ => ⟨hO9.row, hn9.out⟩⟩
    · intro L a w1 hI hi hd
      obtain ⟨fA, fn, fc, hp, hw⟩ := hI
      simp [Region.binds] at hd
      have e10 : a.tmps.getD 129 undef = (.bool P2) := hp.pu (10, 129, (.bool P2)) (by simp [rr34P]) (by simp [hd])
      have f10 : a.tmps[129]?.getD undef = (.bool P2) := by rw [← Array.getD_eq_getD_getElem?]; exact e10
      have e12 : a.tmps.getD 131 undef = (bif P2 then undef else (.slice fA fn fc)) := hp.pu (12, 131, (bif P2 then undef else (.slice fA fn fc))) (by simp [rr34P]) (by simp [hd])
      have f12 : a.tmps[131]?.getD undef = (bif P2 then undef else (.slice fA fn fc)) := by rw [← Array.getD_eq_getD_getElem?]; exact e12
      cases P2 with
      | true =>
        try simp only [cond_true, cond_false] at e10 f10 e12 f12
        exact rstep_un (unwanted_of 10 129 false true (by decide) rfl rfl e10) ⟨fA, fn, fc, (hp.put 13 132 undef (by simp [rr34P]) (by simp [rr34P]) rfl (by rw [hsz0]; exact (by decide : 132 < 139))), ⟨hw.1, by rw [upd_ne L (show (12 : Nat) ≠ 13 by decide)]; exact hw.2⟩⟩
      | false =>
        try simp only [cond_true, cond_false] at e10 f10 e12 f12
        have hfr := hw.2 (by simp [hd]) rfl
        have hsr : (convert 22 9 (.slice fA fn fc)).run Try.prog w1 = .ok (.string (str (StmM.form y.x))) w1 := by rw [← hfr.2]; exact run_str w1 fc hfr.1
        exact rstep_valW (wanted_of 10 129 false rfl rfl e10) (.string (str (StmM.form y.x))) w1 (by go_simp) ⟨fA, fn, fc, (hp.put 13 132 (.string (str (StmM.form y.x))) (by simp [rr34P]) (by simp [rr34P]) rfl (by rw [hsz0]; exact (by decide : 132 < 139))), ⟨hw.1, by rw [upd_ne L (show (12 : Nat) ≠ 13 by decide)]; exact hw.2⟩⟩
    · intro L a w1 hI hi hd
      obtain ⟨fA, fn, fc, hp, hw⟩ := hI
      simp [Region.binds] at hd
      have e10 : a.tmps.getD 129 undef = (.bool P2) := hp.pu (10, 129, (.bool P2)) (by simp [rr34P]) (by simp [hd])
      have f10 : a.tmps[129]?.getD undef = (.bool P2) := by rw [← Array.getD_eq_getD_getElem?]; exact e10
      have t0 := hp.at_ 0 _ rfl z0
      have t0' := t0
      rw [Array.getD_eq_getD_getElem?] at t0'
      cases P2 with
      | true =>
        try simp only [cond_true, cond_false] at e10 f10
        exact rstep_un (unwanted_of 10 129 false true (by decide) rfl rfl e10) ⟨fA, fn, fc, (hp.put 14 133 undef (by simp [rr34P]) (by simp [rr34P]) rfl (by rw [hsz0]; exact (by decide : 133 < 139))), ⟨hw.1, by rw [upd_ne L (show (12 : Nat) ≠ 14 by decide)]; exact hw.2⟩⟩
      | false =>
        try simp only [cond_true, cond_false] at e10 f10
        exact rstep_valW (wanted_of 10 129 false rfl rfl e10) (.slice A b.length c) w1 (by go_simp) ⟨fA, fn, fc, (hp.put 14 133 (.slice A b.length c) (by simp [rr34P]) (by simp [rr34P]) rfl (by rw [hsz0]; exact (by decide : 133 < 139))), ⟨hw.1, by rw [upd_ne L (show (12 : Nat) ≠ 14 by decide)]; exact hw.2⟩⟩
    · intro L a w1 hI hi hd
      obtain ⟨fA, fn, fc, hp, hw⟩ := hI
      simp [Region.binds] at hd
      have e10 : a.tmps.getD 129 undef = (.bool P2) := hp.pu (10, 129, (.bool P2)) (by simp [rr34P]) (by simp [hd])
      have f10 : a.tmps[129]?.getD undef = (.bool P2) := by rw [← Array.getD_eq_getD_getElem?]; exact e10
      have e14 : a.tmps.getD 133 undef = (bif P2 then undef else (.slice A b.length c)) := hp.pu (14, 133, (bif P2 then undef else (.slice A b.length c))) (by simp [rr34P]) (by simp [hd])
      have f14 : a.tmps[133]?.getD undef = (bif P2 then undef else (.slice A b.length c)) := by rw [← Array.getD_eq_getD_getElem?]; exact e14
      cases P2 with
      | true =>
        try simp only [cond_true, cond_false] at e10 f10 e14 f14
        exact rstep_un (unwanted_of 10 129 false true (by decide) rfl rfl e10) ⟨fA, fn, fc, (hp.put 15 134 undef (by simp [rr34P]) (by simp [rr34P]) rfl (by rw [hsz0]; exact (by decide : 134 < 139))), ⟨hw.1, by rw [upd_ne L (show (12 : Nat) ≠ 15 by decide)]; exact hw.2⟩⟩
      | false =>
        try simp only [cond_true, cond_false] at e10 f10 e14 f14
        have hsr : (convert 22 9 (.slice A b.length c)).run Try.prog w1 = .ok (.string (str b)) w1 := run_str w1 c (HRB.out.below (by rw [HG.out]; exact (HZ.out.below hw.1).bel))
        exact rstep_valW (wanted_of 10 129 false rfl rfl e10) (.string (str b)) w1 (by go_simp) ⟨fA, fn, fc, (hp.put 15 134 (.string (str b)) (by simp [rr34P]) (by simp [rr34P]) rfl (by rw [hsz0]; exact (by decide : 134 < 139))), ⟨hw.1, by rw [upd_ne L (show (12 : Nat) ≠ 15 by decide)]; exact hw.2⟩⟩
    · intro L a w1 hI hi hd
      obtain ⟨fA, fn, fc, hp, hw⟩ := hI
      simp [Region.binds] at hd
      have e10 : a.tmps.getD 129 undef = (.bool P2) := hp.pu (10, 129, (.bool P2)) (by simp [rr34P]) (by simp [hd])
      have f10 : a.tmps[129]?.getD undef = (.bool P2) := by rw [← Array.getD_eq_getD_getElem?]; exact e10
      have e13 : a.tmps.getD 132 undef = (bif P2 then undef else (.string (str (StmM.form y.x)))) := hp.pu (13, 132, (bif P2 then undef else (.string (str (StmM.form y.x))))) (by simp [rr34P]) (by simp [hd])
      have f13 : a.tmps[132]?.getD undef = (bif P2 then undef else (.string (str (StmM.form y.x)))) := by rw [← Array.getD_eq_getD_getElem?]; exact e13
      have e15 : a.tmps.getD 134 undef = (bif P2 then undef else (.string (str b))) := hp.pu (15, 134, (bif P2 then undef else (.string (str b)))) (by simp [rr34P]) (by simp [hd])
      have f15 : a.tmps[134]?.getD undef = (bif P2 then undef else (.string (str b))) := by rw [← Array.getD_eq_getD_getElem?]; exact e15
      cases P2 with
      | true =>
        try simp only [cond_true, cond_false] at e10 f10 e13 f13 e15 f15
        exact rstep_un (unwanted_of 10 129 false true (by decide) rfl rfl e10) ⟨fA, fn, fc, (hp.put 16 135 undef (by simp [rr34P]) (by simp [rr34P]) rfl (by rw [hsz0]; exact (by decide : 135 < 139))), ⟨hw.1, by rw [upd_ne L (show (12 : Nat) ≠ 16 by decide)]; exact hw.2⟩⟩
      | false =>
        try simp only [cond_true, cond_false] at e10 f10 e13 f13 e15 f15
        have hsb := str_beq (StmM.form y.x) b
        have hq := Q3.out.2 rfl
        exact rstep_valW (wanted_of 10 129 false rfl rfl e10) (.bool P3) w1 (by go_simp) ⟨fA, fn, fc, (hp.put 16 135 (.bool P3) (by simp [rr34P]) (by simp [rr34P]) rfl (by rw [hsz0]; exact (by decide : 135 < 139))), ⟨hw.1, by rw [upd_ne L (show (12 : Nat) ≠ 16 by decide)]; exact hw.2⟩⟩
    · intro L a w1 hI hi hd
      obtain ⟨fA, fn, fc, hp, hw⟩ := hI
      simp [Region.binds] at hd
      have e10 : a.tmps.getD 129 undef = (.bool P2) := hp.pu (10, 129, (.bool P2)) (by simp [rr34P]) (by simp [hd])
      have f10 : a.tmps[129]?.getD undef = (.bool P2) := by rw [← Array.getD_eq_getD_getElem?]; exact e10
      have e16 : a.tmps.getD 135 undef = (bif P2 then undef else (.bool P3)) := hp.pu (16, 135, (bif P2 then undef else (.bool P3))) (by simp [rr34P]) (by simp [hd])
      have f16 : a.tmps[135]?.getD undef = (bif P2 then undef else (.bool P3)) := by rw [← Array.getD_eq_getD_getElem?]; exact e16
      cases P2 with
      | true =>
        try simp only [cond_true, cond_false] at e10 f10 e16 f16
        obtain rfl : P3 = true := Q3.out.1 rfl
        exact rstep_valW (wanted_none rfl _) (.bool true) w1 (by go_simp) ⟨fA, fn, fc, (hp.put 17 136 (.bool true) (by simp [rr34P]) (by simp [rr34P]) rfl (by rw [hsz0]; exact (by decide : 136 < 139))), ⟨hw.1, by rw [upd_ne L (show (12 : Nat) ≠ 17 by decide)]; exact hw.2⟩⟩
      | false =>
        try simp only [cond_true, cond_false] at e10 f10 e16 f16
        exact rstep_valW (wanted_none rfl _) (.bool P3) w1 (by go_simp) ⟨fA, fn, fc, (hp.put 17 136 (.bool P3) (by simp [rr34P]) (by simp [rr34P]) rfl (by rw [hsz0]; exact (by decide : 136 < 139))), ⟨hw.1, by rw [upd_ne L (show (12 : Nat) ≠ 17 by decide)]; exact hw.2⟩⟩
  rintro L a W0 ⟨fA, fn, fc, hp, hw⟩ hL
  have e17 : a.tmps.getD 136 undef = (.bool P3) := hp.pu (17, 136, _) (by simp [rr34P]) (hL 17 (by simp))
  have HW := Lib.hid (HZ.out.below hw.1)
  have HAW := Lib.hid (HAT.out.below hw.1)
  clear hw
  rw [hp.eq]
  refine of_assigns (P := Try.prog) _ _ _ _ ?_
  rw [ha0.out]
  simp only [asgs, List.map, e17]
  generalize a.tmps.getD 119 undef = u119
  generalize a.tmps.getD 120 undef = u120
  generalize a.tmps.getD 121 undef = u121
  generalize a.tmps.getD 122 undef = u122
  generalize a.tmps.getD 123 undef = u123
  generalize a.tmps.getD 124 undef = u124
  generalize a.tmps.getD 125 undef = u125
  generalize a.tmps.getD 126 undef = u126
  generalize a.tmps.getD 127 undef = u127
  generalize a.tmps.getD 128 undef = u128
  generalize a.tmps.getD 129 undef = u129
  generalize a.tmps.getD 130 undef = u130
  generalize a.tmps.getD 131 undef = u131
  generalize a.tmps.getD 132 undef = u132
  generalize a.tmps.getD 133 undef = u133
  generalize a.tmps.getD 134 undef = u134
  generalize a.tmps.getD 135 undef = u135
  clear hp hL hsz0 e17 z0 z4 z5
  clear ha0
  cases P3 with
  | true =>
    have hno : RR = none := HRD.out.trans (if_pos (by
      by_cases q : r9.e ≠ 0 ∨ StmM.may y.x = false ∨ StmM.form y.x ≠ b
      · exact q
      · exact absurd (Q5.out.2 q) (by decide)))
    subst hno
    have hres := HW.out.res
    go_wp2_with (first | (refine wpList_store_row rfl _ (.tmp 2) (.tmp 137) rfl g #[.int .i64 0, .int .u64 0, .slice none 0 0, .slice none 0 0, .int .u64 0, .int .u64 0, .int .i64 0, .slice none 0 0, .slice none 0 0, .int .i64 0] (by go_simp) (by go_simp) _ _ hres (by kernel_rfl) rfl (by simp [Value.oneCell']) ?_))
    refine ret_cell rfl g #[.int .i64 0, .int .u64 0, .slice none 0 0, .slice none 0 0, .int .u64 0, .int .u64 0, .int .i64 0, .slice none 0 0, .slice none 0 0, .int .i64 0] _ rfl (hres.setRow_ _) Try.underlying42 rfl (by kernel_rfl) rfl ?_
    exact ⟨rfl, by rw [HG.out]; exact below_grown HW.out.bel (grownBy_setRow _ _ _) HW.out.size (Nat.le_refl _)⟩
  | false =>
    have hyes : RR = some y.x := HRD.out.trans (if_neg (Q5.out.1 rfl))
    subst hyes
    have hres := HW.out.res
    have hx := HW.out.x
    have h1 : y.cells.all (·.oneCell') = true := by simp [Rqv.cells, rqC, Value.oneCell']
    go_wp2_with (first | (refine wpl_load_row rfl _ (.tmp 5) rfl (g + 1 + 1) (by go_simp) _ y.cells (0, 0) _ hx Try.underlying42 rfl (by kernel_rfl) ?_) | (refine wpList_store_row rfl _ (.tmp 2) (.tmp 138) rfl g y.cells (by go_simp) (by go_simp) _ _ hres (by kernel_rfl) rfl h1 ?_))
    refine ret_cell rfl g y.cells _ rfl (hres.setRow_ _) Try.underlying42 rfl (by kernel_rfl) rfl ?_
    exact ⟨y, rfl, rfl, at_fresh HAW.out HF3.out (grownBy_setRow _ _ _) (Nat.lt_succ_self g), by rw [HG.out]; exact HFR.out.mono (by omega), by rw [HG.out]; exact below_grown HW.out.bel (grownBy_setRow _ _ _) HW.out.size (Nat.le_refl _)⟩
end Go.Proofs.Ytaadfalklddhcaa
