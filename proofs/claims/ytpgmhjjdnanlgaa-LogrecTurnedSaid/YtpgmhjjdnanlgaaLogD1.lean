/-
  What the bytes of a record say, by the document's word.
  Conditions: the bytes lie in memory as a list; their number is bounded.
-/
import Derived.Test.YtpgmhjjdnanlgaaLogD0
namespace Go.Proofs.Ytpgmhjjdnanlgaa
open Go.RowKit Go.Sort Go.Lib
set_option linter.unusedVariables false
set_option linter.unusedSimpArgs false
def recD (s : Lrec) (y : Lsl) : Value := .agg #[.int .i64 s.kind, .int .u64 (s.lsn : Int), .int .u32 (s.epoch : Int), .int .u64 (s.txn : Int), .int .u32 (s.page : Int), .int .u16 (s.off : Int), .slice y.oA y.on y.oc, .slice y.nA y.nn y.nc, .slice y.uA y.un y.uc, .int .u64 (s.prev : Int), .int .u64 (s.next : Int), .bool s.clr, .int .u64 (s.stamp : Int), .slice y.pA y.pn y.pc, .slice y.dA y.dn y.dc]
/-- What the document's fields hands back. -/
def FieldsPost (p : Lrec × CodeM.Rd) (w : World) (e : Ending) (w' : World) : Prop := ∃ y : Lsl, e = .returned (.tuple #[recD p.1 y, .bool ((p.2.e : Int) == 0)]) ∧ Lown w' w.heap.size y p.1 ∧ Below w.heap.size w w'
namespace LogM
theorem gK_1 (a b : Nat) (r : CodeM.Rd) : fK (zr ((1 : Nat) : Int) a b) r = fW (zr ((1 : Nat) : Int) a b) r := by unfold fK; exact if_pos rfl
theorem gK_2 (a b : Nat) (r : CodeM.Rd) : fK (zr ((2 : Nat) : Int) a b) r = fE (zr ((2 : Nat) : Int) a b) r := by unfold fK; exact (if_neg (by show ¬ ((2 : Nat) : Int) = 1; decide)).trans (if_pos rfl)
theorem gK_3 (a b : Nat) (r : CodeM.Rd) : fK (zr ((3 : Nat) : Int) a b) r = fC (zr ((3 : Nat) : Int) a b) r := by unfold fK; exact (if_neg (by show ¬ ((3 : Nat) : Int) = 1; decide)).trans ((if_neg (by show ¬ ((3 : Nat) : Int) = 2; decide)).trans (if_pos rfl))
theorem gK_4 (a b : Nat) (r : CodeM.Rd) : fK (zr ((4 : Nat) : Int) a b) r = fD (zr ((4 : Nat) : Int) a b) r := by unfold fK; exact (if_neg (by show ¬ ((4 : Nat) : Int) = 1; decide)).trans ((if_neg (by show ¬ ((4 : Nat) : Int) = 2; decide)).trans ((if_neg (by show ¬ ((4 : Nat) : Int) = 3; decide)).trans (if_pos rfl)))
theorem gK_5 (a b : Nat) (r : CodeM.Rd) : fK (zr ((5 : Nat) : Int) a b) r = fP (zr ((5 : Nat) : Int) a b) r := by unfold fK; exact (if_neg (by show ¬ ((5 : Nat) : Int) = 1; decide)).trans ((if_neg (by show ¬ ((5 : Nat) : Int) = 2; decide)).trans ((if_neg (by show ¬ ((5 : Nat) : Int) = 3; decide)).trans ((if_neg (by show ¬ ((5 : Nat) : Int) = 4; decide)).trans (if_pos rfl))))
theorem gK_0 {k : Nat} (a b : Nat) (r : CodeM.Rd) (h1 : ¬ k = 1) (h2 : ¬ k = 2) (h3 : ¬ k = 3) (h4 : ¬ k = 4) (h5 : ¬ k = 5) : fK (zr (k : Int) a b) r = (zr (k : Int) a b, r) := by
  have h : (zr (k : Int) a b).kind = (k : Int) := rfl
  unfold fK
  rw [h, if_neg (by omega), if_neg (by omega), if_neg (by omega), if_neg (by omega), if_neg (by omega)]
end LogM
def fdsP (s' : Lrec) (r' : CodeM.Rd) (y : Lsl) (gr : Nat) : List (Nat × Nat × Value) := [(0, 105, (.agg #[.int .i64 s'.kind, .int .u64 (s'.lsn : Int), .int .u32 (s'.epoch : Int), .int .u64 (s'.txn : Int), .int .u32 (s'.page : Int), .int .u16 (s'.off : Int), .slice y.oA y.on y.oc, .slice y.nA y.nn y.nc, .slice y.uA y.un y.uc, .int .u64 (s'.prev : Int), .int .u64 (s'.next : Int), .bool s'.clr, .int .u64 (s'.stamp : Int), .slice y.pA y.pn y.pc, .slice y.dA y.dn y.dc])), (1, 106, .pointer (some ⟨gr, 1, none⟩)), (2, 107, .int .i64 (r'.e : Int)), (3, 108, .bool ((r'.e : Int) == 0)), (5, 3, .bool ((r'.e : Int) == 0))]
set_option maxRecDepth 100000 in
set_option maxHeartbeats 40000000 in
theorem fields_any (A : Option Addr) (n c : Nat) (l : List UInt8) (w : World) (hr : Row w A (bs l)) (hn : l.length = n) (hnc : n ≤ c) (hcm : c ≤ maxLen) (hmx : n ≤ 140737488355328) :
    Calls Try.prog 31 #[.slice A n c] w (FieldsPost (LogM.fields (((⟨l, 0⟩ : CodeM.Rd).fixed 4).2.fixed 2).2) w) := by
  obtain ⟨qa, hQa⟩ : ∃ q, (⟨l, 0⟩ : CodeM.Rd).fixed 4 = q := ⟨_, rfl⟩
  obtain ⟨va, ra⟩ := qa
  obtain ⟨qb, hQb⟩ : ∃ q, ra.fixed 2 = q := ⟨_, rfl⟩
  obtain ⟨vb, rb⟩ := qb
  obtain ⟨qc, hQc⟩ : ∃ q, rb.fixed 8 = q := ⟨_, rfl⟩
  obtain ⟨lsn, r1⟩ := qc
  obtain ⟨qd, hQd⟩ : ∃ q, r1.fixed 4 = q := ⟨_, rfl⟩
  obtain ⟨epoch, r2⟩ := qd
  obtain ⟨qe, hQe⟩ : ∃ q, r2.fixed 1 = q := ⟨_, rfl⟩
  obtain ⟨kd, r3⟩ := qe
  have hk8 : kd < 256 := by have := CodeM.fixed_lt 1 r2; rw [hQe] at this; exact this
  have he32 : epoch < 4294967296 := by have := CodeM.fixed_lt 4 r1; rw [hQd] at this; exact this
  obtain ⟨qf, hQf⟩ : ∃ q, LogM.fK (LogM.zr (kd : Int) lsn epoch) r3 = q := ⟨_, rfl⟩
  obtain ⟨s', r'⟩ := qf
  rw [show LogM.fields (((⟨l, 0⟩ : CodeM.Rd).fixed 4).2.fixed 2).2 = (s', r') from by rw [hQa]; dsimp only; rw [hQb]; unfold LogM.fields; simp only [hQc, hQd, hQe]; exact hQf]
  have HFK := Lib.hid hQf
  have HQA := Lib.hid hQa
  have HQB := Lib.hid hQb
  have HQC := Lib.hid hQc
  have HQD := Lib.hid hQd
  have HQE := Lib.hid hQe
  clear hQa hQb hQc hQd hQe hQf
  go_enter Try.func31, Try.ntmps31
  have hz := Blk.new w 31 #[.int .i64 0, .int .u64 0, .int .u32 0, .int .u64 0, .int .u32 0, .int .u16 0, .slice none 0 0, .slice none 0 0, .slice none 0 0, .int .u64 0, .int .u64 0, .bool false, .int .u64 0, .slice none 0 0, .slice none 0 0]
  have hb0 : Below w.heap.size w (w.alloc (.cells #[.int .i64 0, .int .u64 0, .int .u32 0, .int .u64 0, .int .u32 0, .int .u16 0, .slice none 0 0, .slice none 0 0, .slice none 0 0, .int .u64 0, .int .u64 0, .bool false, .int .u64 0, .slice none 0 0, .slice none 0 0] 31)) := (Below.refl w.heap.size w).alloc (Nat.le_refl _) _
  have hr0 := hr.alloc (.cells #[.int .i64 0, .int .u64 0, .int .u32 0, .int .u64 0, .int .u32 0, .int .u16 0, .slice none 0 0, .slice none 0 0, .slice none 0 0, .int .u64 0, .int .u64 0, .bool false, .int .u64 0, .slice none 0 0, .slice none 0 0] 31)
  go_upto_region 1 with fail
  generalize w.alloc (.cells #[.int .i64 0, .int .u64 0, .int .u32 0, .int .u64 0, .int .u32 0, .int .u16 0, .slice none 0 0, .slice none 0 0, .slice none 0 0, .int .u64 0, .int .u64 0, .bool false, .int .u64 0, .slice none 0 0, .slice none 0 0] 31) = Va at *
  obtain ⟨gz, hgz⟩ : ∃ gz, w.heap.size = gz := ⟨_, rfl⟩
  rw [hgz] at hz
  simp only [hgz]
  have HGZ := Lib.hid hgz
  have hs0 := hz.lt
  have hgr := Blk.new Va 78 #[.slice A n c, .int .i64 0]
  have hb1 : Below Va.heap.size Va (Va.alloc (.cells #[.slice A n c, .int .i64 0] 78)) := (Below.refl Va.heap.size Va).alloc (Nat.le_refl _) _
  have hz1 := hz.below hb1 hz.lt
  have hB1 := below_step hb0 hb1 (Nat.le_refl _)
  have hr1 := hr0.below hb1
  go_upto_region 2 with fail
  generalize Va.alloc (.cells #[.slice A n c, .int .i64 0] 78) = Vb at *
  obtain ⟨gr, hgr2⟩ : ∃ gr, Va.heap.size = gr := ⟨_, rfl⟩
  rw [hgr2] at hgr hs0
  have hs1 := hgr.lt
  simp only [hgr2]
  have hgg : gz < gr := by omega
  have hgw : w.heap.size ≤ gz := Nat.le_of_eq hgz
  have hrd1 : RdIn Vb.heap.size 78 Vb gr ⟨l, 0⟩ := RdAt.in_ ⟨A, n, c, hgr, hn, ⟨hnc, hmx⟩, hcm, hr1⟩ (Nat.le_refl _)
  clear hz hb0 hr0 hs0 hgr hb1 hr1 hgr2 hgz hr hcm
  clear Va
  have hq := refnumI_any gr ⟨l, 0⟩ 4 Vb hrd1 (by omega)
  rw [HQA.out] at hq
  try dsimp only at hq
  have HQ := Lib.hid hq
  clear hq
  go_wp2_with fail
  refine HQ.out.mono ?_
  rintro e Vc ⟨rfl, hrd2, hg2⟩
  have hz2 := hz1.grown hg2 (fun q => by injection q with q; omega)
  have hB2 := below_grown hB1 hg2 hB1.size (by omega)
  have hsz2 := hg2.size
  clear HQ hz1 hB1 hrd1 hg2
  have hq := refnumI_any gr ra 2 Vc hrd2 (by omega)
  rw [HQB.out] at hq
  try dsimp only at hq
  have HQ := Lib.hid hq
  clear hq
  go_wp2_with fail
  refine HQ.out.mono ?_
  rintro e Vd ⟨rfl, hrd3, hg3⟩
  have hz3 := hz2.grown hg3 (fun q => by injection q with q; omega)
  have hB3 := below_grown hB2 hg3 hB2.size (by omega)
  have hsz3 := hg3.size
  clear HQ hz2 hB2 hrd2 hg3
  go_upto_region 5 with fail
  have hx4 := Blk.new Vd 31 #[.int .i64 0, .int .u64 0, .int .u32 0, .int .u64 0, .int .u32 0, .int .u16 0, .slice none 0 0, .slice none 0 0, .slice none 0 0, .int .u64 0, .int .u64 0, .bool false, .int .u64 0, .slice none 0 0, .slice none 0 0]
  have hba : Below Vd.heap.size Vd (Vd.alloc (.cells #[.int .i64 0, .int .u64 0, .int .u32 0, .int .u64 0, .int .u32 0, .int .u16 0, .slice none 0 0, .slice none 0 0, .slice none 0 0, .int .u64 0, .int .u64 0, .bool false, .int .u64 0, .slice none 0 0, .slice none 0 0] 31)) := (Below.refl _ _).alloc (Nat.le_refl _) _
  have hz4 := hz3.below hba hz3.lt
  have hrd4 := hrd3.at_.below hba
  have hB4 := below_step hB3 hba (Nat.le_refl _)
  have hszx : Vd.heap.size < (Vd.alloc (.cells #[.int .i64 0, .int .u64 0, .int .u32 0, .int .u64 0, .int .u32 0, .int .u16 0, .slice none 0 0, .slice none 0 0, .slice none 0 0, .int .u64 0, .int .u64 0, .bool false, .int .u64 0, .slice none 0 0, .slice none 0 0] 31)).heap.size := by simp
  generalize Vd.alloc (.cells #[.int .i64 0, .int .u64 0, .int .u32 0, .int .u64 0, .int .u32 0, .int .u16 0, .slice none 0 0, .slice none 0 0, .slice none 0 0, .int .u64 0, .int .u64 0, .bool false, .int .u64 0, .slice none 0 0, .slice none 0 0] 31) = V9 at *
  obtain ⟨gx, hgx⟩ : ∃ gx, Vd.heap.size = gx := ⟨_, rfl⟩
  have hwx := hB3.size
  rw [hgx] at hx4 hsz3 hszx hwx
  simp only [hgx]
  obtain ⟨base, hbase⟩ : ∃ base, V9.heap.size = base := ⟨_, rfl⟩
  rw [hbase] at hszx
  have hst : DSt w.heap.size base w gr gx gz rb (⟨(0 : Int), 0, 0, 0, 0, 0, [], [], [], 0, 0, false, 0, [], []⟩ : Lrec) (⟨none, 0, 0, none, 0, 0, none, 0, 0, none, 0, 0, none, 0, 0⟩ : Lsl) V9 :=
    ⟨hrd4.in_ (Nat.le_of_eq hbase), hx4, hz4, ⟨Own.nil_ _ _, Own.nil_ _ _, Own.nil_ _ _, World.ownsRow_nil _ _ _ _, World.ownsRow_nil _ _ _ _, rfl, rfl, rfl, rfl, rfl⟩, hB4, Nat.le_of_eq hbase.symm, ⟨by omega, by omega, hwx, by omega, hgw, by omega, by omega, by omega, by omega, by omega⟩⟩
  clear hx4 hba hz4 hrd4 hB4 hszx hz3 hB3 hrd3 hgx hbase hsz2 hsz3 hs1 hwx hgg
  clear Vb Vc Vd
  have hq := refnumI_any gr rb 8 V9 hst.rd (by omega)
  rw [HQC.out] at hq
  try dsimp only at hq
  have HQ := Lib.hid hq
  clear hq
  go_wp2_with fail
  refine HQ.out.mono ?_
  rintro e V9x1 ⟨rfl, hrd, hg⟩
  have st1a := hst.step hrd hg
  clear HQ hrd hg hst
  have kx := st1a.x.frozen
  obtain ⟨d0, d1, d2, d3, d4, d5, d6, d7, d8, d9, d10, d11, d12, d13, d14⟩ := st1a.x.c15
  clear d0 d2 d3 d4 d5 d6 d7 d8 d9 d10 d11 d12 d13 d14
  go_upto_region 6 with fail
  have st1 := st1a.fill (s' := (⟨(0 : Int), lsn, 0, 0, 0, 0, [], [], [], 0, 0, false, 0, [], []⟩ : Lrec)) (y' := (⟨none, 0, 0, none, 0, 0, none, 0, 0, none, 0, 0, none, 0, 0⟩ : Lsl)) 1 (.int .u64 (lsn : Int)) rfl ⟨st1a.ow.o, st1a.ow.n, st1a.ow.u, st1a.ow.p, st1a.ow.d, st1a.ow.lo, st1a.ow.ln, st1a.ow.lu, st1a.ow.lp, st1a.ow.ld⟩
  generalize V9x1.setCell ⟨gx, 1, none⟩ (.int .u64 (lsn : Int)) = V9x1s at *
  clear kx d1 st1a
  clear V9x1
  have hq := refnumI_any gr r1 4 V9x1s st1.rd (by omega)
  rw [HQD.out] at hq
  try dsimp only at hq
  have HQ := Lib.hid hq
  clear hq
  go_wp2_with fail
  refine HQ.out.mono ?_
  rintro e V9x2 ⟨rfl, hrd, hg⟩
  have st2a := st1.step hrd hg
  clear HQ hrd hg st1
  have kx := st2a.x.frozen
  obtain ⟨d0, d1, d2, d3, d4, d5, d6, d7, d8, d9, d10, d11, d12, d13, d14⟩ := st2a.x.c15
  clear d0 d1 d3 d4 d5 d6 d7 d8 d9 d10 d11 d12 d13 d14
  have hwr := (show IntKind.u32.wrap (epoch : Int) = (epoch : Int) by rw [IntKind.wrap_u32]; omega)
  go_upto_region 7 with fail
  have st2 := st2a.fill (s' := (⟨(0 : Int), lsn, epoch, 0, 0, 0, [], [], [], 0, 0, false, 0, [], []⟩ : Lrec)) (y' := (⟨none, 0, 0, none, 0, 0, none, 0, 0, none, 0, 0, none, 0, 0⟩ : Lsl)) 2 (.int .u32 (epoch : Int)) rfl ⟨st2a.ow.o, st2a.ow.n, st2a.ow.u, st2a.ow.p, st2a.ow.d, st2a.ow.lo, st2a.ow.ln, st2a.ow.lu, st2a.ow.lp, st2a.ow.ld⟩
  generalize V9x2.setCell ⟨gx, 2, none⟩ (.int .u32 (epoch : Int)) = V9x2s at *
  clear kx d2 st2a hwr
  clear V9x2
  have hq := refnumI_any gr r2 1 V9x2s st2.rd (by omega)
  rw [HQE.out] at hq
  try dsimp only at hq
  have HQ := Lib.hid hq
  clear hq
  go_wp2_with fail
  refine HQ.out.mono ?_
  rintro e V9x3 ⟨rfl, hrd, hg⟩
  have st3a := st2.step hrd hg
  clear HQ hrd hg st2
  have kx := st3a.x.frozen
  obtain ⟨d0, d1, d2, d3, d4, d5, d6, d7, d8, d9, d10, d11, d12, d13, d14⟩ := st3a.x.c15
  clear d1 d2 d3 d4 d5 d6 d7 d8 d9 d10 d11 d12 d13 d14
  have hwr := (show IntKind.i64.wrap (kd : Int) = (kd : Int) by rw [IntKind.wrap_i64]; omega)
  go_upto_block 0 with fail
  have st3 := st3a.fill (s' := (⟨(kd : Int), lsn, epoch, 0, 0, 0, [], [], [], 0, 0, false, 0, [], []⟩ : Lrec)) (y' := (⟨none, 0, 0, none, 0, 0, none, 0, 0, none, 0, 0, none, 0, 0⟩ : Lsl)) 0 (.int .i64 (kd : Int)) rfl ⟨st3a.ow.o, st3a.ow.n, st3a.ow.u, st3a.ow.p, st3a.ow.d, st3a.ow.lo, st3a.ow.ln, st3a.ow.lu, st3a.ow.lp, st3a.ow.ld⟩
  generalize V9x3.setCell ⟨gx, 0, none⟩ (.int .i64 (kd : Int)) = V9x3s at *
  clear kx d0 st3a hwr
  clear V9x3
  have hst := st3
  clear st3 HQA HQB HQC HQD HQE
  go_cut [6, 7, 8, 9, 10] from 23 (fun v6 v7 v8 v9 v10 wc => ∃ y, DSt w.heap.size base w gr gx gz r' s' y wc)
  case first =>
    by_cases k1 : kd = 1
    · as_aux_lemma =>
      subst k1
      obtain ⟨qa, hQa⟩ : ∃ q, r3.fixed 4 = q := ⟨_, rfl⟩
      obtain ⟨pa, ta⟩ := qa
      obtain ⟨qb, hQb⟩ : ∃ q, ta.fixed 2 = q := ⟨_, rfl⟩
      obtain ⟨pb, tb⟩ := qb
      obtain ⟨qc, hQc⟩ : ∃ q, tb.text 500 = q := ⟨_, rfl⟩
      obtain ⟨pc, tc⟩ := qc
      obtain ⟨qd, hQd⟩ : ∃ q, tc.text 500 = q := ⟨_, rfl⟩
      obtain ⟨pd, td⟩ := qd
      have hlta : pa < 4294967296 := by have := CodeM.fixed_lt 4 r3; rw [hQa] at this; exact this
      have hltb : pb < 65536 := by have := CodeM.fixed_lt 2 ta; rw [hQb] at this; exact this
      have HE : Hid ((s', r') = ((⟨1, lsn, epoch, 0, pa, pb, pc, pd, [], 0, 0, false, 0, [], []⟩ : Lrec), td)) := Lib.hid (by rw [← HFK.out, LogM.gK_1]; unfold LogM.fW; simp only [hQa, hQb, hQc, hQd]; rfl)
      have HQa := Lib.hid hQa
      have HQb := Lib.hid hQb
      have HQc := Lib.hid hQc
      have HQd := Lib.hid hQd
      clear hQa hQb hQc hQd
      obtain ⟨d0, d1, d2, d3, d4, d5, d6, d7, d8, d9, d10, d11, d12, d13, d14⟩ := hst.x.c15
      clear d1 d2 d3 d4 d5 d6 d7 d8 d9 d10 d11 d12 d13 d14
      have hq := refnumI_any gr r3 4 V9x3s hst.rd (by omega)
      rw [HQa.out] at hq
      try dsimp only at hq
      have HQ := Lib.hid hq
      clear hq
      go_wp2_with fail
      refine HQ.out.mono ?_
      rintro e V9x1 ⟨rfl, hrd, hg⟩
      have st1a := hst.step hrd hg
      clear HQ hrd hg hst d0
      have kx := st1a.x.frozen
      obtain ⟨d0, d1, d2, d3, d4, d5, d6, d7, d8, d9, d10, d11, d12, d13, d14⟩ := st1a.x.c15
      clear d0 d1 d2 d3 d5 d6 d7 d8 d9 d10 d11 d12 d13 d14
      have hwr := (show IntKind.u32.wrap (pa : Int) = (pa : Int) by rw [IntKind.wrap_u32]; omega)
      go_upto_region 11 with fail
      have st1 := st1a.fill (s' := (⟨((1 : Nat) : Int), lsn, epoch, 0, pa, 0, [], [], [], 0, 0, false, 0, [], []⟩ : Lrec)) (y' := (⟨none, 0, 0, none, 0, 0, none, 0, 0, none, 0, 0, none, 0, 0⟩ : Lsl)) 4 (.int .u32 (pa : Int)) rfl ⟨st1a.ow.o, st1a.ow.n, st1a.ow.u, st1a.ow.p, st1a.ow.d, st1a.ow.lo, st1a.ow.ln, st1a.ow.lu, st1a.ow.lp, st1a.ow.ld⟩
      generalize V9x1.setCell ⟨gx, 4, none⟩ (.int .u32 (pa : Int)) = V9x1s at *
      clear kx d4 st1a hwr
      clear V9x1
      have hq := refnumI_any gr ta 2 V9x1s st1.rd (by omega)
      rw [HQb.out] at hq
      try dsimp only at hq
      have HQ := Lib.hid hq
      clear hq
      go_wp2_with fail
      refine HQ.out.mono ?_
      rintro e V9x2 ⟨rfl, hrd, hg⟩
      have st2a := st1.step hrd hg
      clear HQ hrd hg st1
      have kx := st2a.x.frozen
      obtain ⟨d0, d1, d2, d3, d4, d5, d6, d7, d8, d9, d10, d11, d12, d13, d14⟩ := st2a.x.c15
      clear d0 d1 d2 d3 d4 d6 d7 d8 d9 d10 d11 d12 d13 d14
      have hwr := (show IntKind.u16.wrap (pb : Int) = (pb : Int) by rw [IntKind.wrap_u16]; omega)
      go_upto_region 12 with fail
      have st2 := st2a.fill (s' := (⟨((1 : Nat) : Int), lsn, epoch, 0, pa, pb, [], [], [], 0, 0, false, 0, [], []⟩ : Lrec)) (y' := (⟨none, 0, 0, none, 0, 0, none, 0, 0, none, 0, 0, none, 0, 0⟩ : Lsl)) 5 (.int .u16 (pb : Int)) rfl ⟨st2a.ow.o, st2a.ow.n, st2a.ow.u, st2a.ow.p, st2a.ow.d, st2a.ow.lo, st2a.ow.ln, st2a.ow.lu, st2a.ow.lp, st2a.ow.ld⟩
      generalize V9x2.setCell ⟨gx, 5, none⟩ (.int .u16 (pb : Int)) = V9x2s at *
      clear kx d5 st2a hwr
      clear V9x2
      have hq := reftextI_any gr tb 500 V9x2s st2.rd (by omega) (by omega)
      rw [HQc.out] at hq
      try dsimp only at hq
      have HQ := Lib.hid hq
      clear hq
      go_wp2_with fail
      refine HQ.out.mono ?_
      rintro e V9x3 ⟨T3A, T3n, T3c, rfl, hTn, hTO0, hrd, hg⟩
      have hTO := hTO0.base_ st2.sz
      clear hTO0
      have st3a := st2.step hrd hg
      clear HQ hrd hg st2
      have kx := st3a.x.frozen
      obtain ⟨d0, d1, d2, d3, d4, d5, d6, d7, d8, d9, d10, d11, d12, d13, d14⟩ := st3a.x.c15
      clear d0 d1 d2 d3 d4 d5 d7 d8 d9 d10 d11 d12 d13 d14
      go_upto_region 13 with fail
      have st3 := st3a.fill (s' := (⟨((1 : Nat) : Int), lsn, epoch, 0, pa, pb, pc, [], [], 0, 0, false, 0, [], []⟩ : Lrec)) (y' := (⟨T3A, T3n, T3c, none, 0, 0, none, 0, 0, none, 0, 0, none, 0, 0⟩ : Lsl)) 6 (.slice T3A T3n T3c) rfl ⟨hTO, st3a.ow.n, st3a.ow.u, st3a.ow.p, st3a.ow.d, hTn.out, st3a.ow.ln, st3a.ow.lu, st3a.ow.lp, st3a.ow.ld⟩
      generalize V9x3.setCell ⟨gx, 6, none⟩ (.slice T3A T3n T3c) = V9x3s at *
      clear kx d6 st3a hTn hTO
      clear V9x3
      have hq := reftextI_any gr tc 500 V9x3s st3.rd (by omega) (by omega)
      rw [HQd.out] at hq
      try dsimp only at hq
      have HQ := Lib.hid hq
      clear hq
      go_wp2_with fail
      refine HQ.out.mono ?_
      rintro e V9x4 ⟨T4A, T4n, T4c, rfl, hTn, hTO0, hrd, hg⟩
      have hTO := hTO0.base_ st3.sz
      clear hTO0
      have st4a := st3.step hrd hg
      clear HQ hrd hg st3
      have kx := st4a.x.frozen
      obtain ⟨d0, d1, d2, d3, d4, d5, d6, d7, d8, d9, d10, d11, d12, d13, d14⟩ := st4a.x.c15
      clear d0 d1 d2 d3 d4 d5 d6 d8 d9 d10 d11 d12 d13 d14
      have hfin := Lib.hid (st4a.fill (s' := (⟨((1 : Nat) : Int), lsn, epoch, 0, pa, pb, pc, pd, [], 0, 0, false, 0, [], []⟩ : Lrec)) (y' := (⟨T3A, T3n, T3c, T4A, T4n, T4c, none, 0, 0, none, 0, 0, none, 0, 0⟩ : Lsl)) 7 (.slice T4A T4n T4c) rfl ⟨st4a.ow.o, hTO, st4a.ow.u, st4a.ow.p, st4a.ow.d, st4a.ow.lo, hTn.out, st4a.ow.lu, st4a.ow.lp, st4a.ow.ld⟩)
      clear st4a
      go_wp2
      go_meet
      case rel =>
        have he := HE.out
        injection he with he1 he2
        subst he1 he2
        exact ⟨_, hfin.out⟩
    by_cases k2 : kd = 2
    · as_aux_lemma =>
      subst k2
      obtain ⟨qa, hQa⟩ : ∃ q, r3.fixed 8 = q := ⟨_, rfl⟩
      obtain ⟨pa, ta⟩ := qa
      obtain ⟨qb, hQb⟩ : ∃ q, ta.fixed 8 = q := ⟨_, rfl⟩
      obtain ⟨pb, tb⟩ := qb
      obtain ⟨qc, hQc⟩ : ∃ q, tb.fixed 8 = q := ⟨_, rfl⟩
      obtain ⟨pc, tc⟩ := qc
      obtain ⟨qd, hQd⟩ : ∃ q, tc.fixed 1 = q := ⟨_, rfl⟩
      obtain ⟨pd, td⟩ := qd
      obtain ⟨qu, hQu⟩ : ∃ q, td.text 64 = q := ⟨_, rfl⟩
      obtain ⟨pu, tu⟩ := qu
      have hltd : pd < 256 := by have := CodeM.fixed_lt 1 tc; rw [hQd] at this; exact this
      have HE : Hid ((s', r') = ((⟨2, lsn, epoch, pa, 0, 0, [], [], pu, pb, pc, decide (pd = 1), 0, [], []⟩ : Lrec), tu)) := Lib.hid (by rw [← HFK.out, LogM.gK_2]; unfold LogM.fE; simp only [hQa, hQb, hQc, hQd, hQu]; rfl)
      have HQa := Lib.hid hQa
      have HQb := Lib.hid hQb
      have HQc := Lib.hid hQc
      have HQd := Lib.hid hQd
      have HQu := Lib.hid hQu
      clear hQa hQb hQc hQd hQu
      obtain ⟨d0, d1, d2, d3, d4, d5, d6, d7, d8, d9, d10, d11, d12, d13, d14⟩ := hst.x.c15
      clear d1 d2 d3 d4 d5 d6 d7 d8 d9 d10 d11 d12 d13 d14
      have hq := refnumI_any gr r3 8 V9x3s hst.rd (by omega)
      rw [HQa.out] at hq
      try dsimp only at hq
      have HQ := Lib.hid hq
      clear hq
      go_wp2_with fail
      refine HQ.out.mono ?_
      rintro e V9x1 ⟨rfl, hrd, hg⟩
      have st1a := hst.step hrd hg
      clear HQ hrd hg hst d0
      have kx := st1a.x.frozen
      obtain ⟨d0, d1, d2, d3, d4, d5, d6, d7, d8, d9, d10, d11, d12, d13, d14⟩ := st1a.x.c15
      clear d0 d1 d2 d4 d5 d6 d7 d8 d9 d10 d11 d12 d13 d14
      go_upto_region 16 with fail
      have st1 := st1a.fill (s' := (⟨((2 : Nat) : Int), lsn, epoch, pa, 0, 0, [], [], [], 0, 0, false, 0, [], []⟩ : Lrec)) (y' := (⟨none, 0, 0, none, 0, 0, none, 0, 0, none, 0, 0, none, 0, 0⟩ : Lsl)) 3 (.int .u64 (pa : Int)) rfl ⟨st1a.ow.o, st1a.ow.n, st1a.ow.u, st1a.ow.p, st1a.ow.d, st1a.ow.lo, st1a.ow.ln, st1a.ow.lu, st1a.ow.lp, st1a.ow.ld⟩
      generalize V9x1.setCell ⟨gx, 3, none⟩ (.int .u64 (pa : Int)) = V9x1s at *
      clear kx d3 st1a
      clear V9x1
      have hq := refnumI_any gr ta 8 V9x1s st1.rd (by omega)
      rw [HQb.out] at hq
      try dsimp only at hq
      have HQ := Lib.hid hq
      clear hq
      go_wp2_with fail
      refine HQ.out.mono ?_
      rintro e V9x2 ⟨rfl, hrd, hg⟩
      have st2a := st1.step hrd hg
      clear HQ hrd hg st1
      have kx := st2a.x.frozen
      obtain ⟨d0, d1, d2, d3, d4, d5, d6, d7, d8, d9, d10, d11, d12, d13, d14⟩ := st2a.x.c15
      clear d0 d1 d2 d3 d4 d5 d6 d7 d8 d10 d11 d12 d13 d14
      go_upto_region 17 with fail
      have st2 := st2a.fill (s' := (⟨((2 : Nat) : Int), lsn, epoch, pa, 0, 0, [], [], [], pb, 0, false, 0, [], []⟩ : Lrec)) (y' := (⟨none, 0, 0, none, 0, 0, none, 0, 0, none, 0, 0, none, 0, 0⟩ : Lsl)) 9 (.int .u64 (pb : Int)) rfl ⟨st2a.ow.o, st2a.ow.n, st2a.ow.u, st2a.ow.p, st2a.ow.d, st2a.ow.lo, st2a.ow.ln, st2a.ow.lu, st2a.ow.lp, st2a.ow.ld⟩
      generalize V9x2.setCell ⟨gx, 9, none⟩ (.int .u64 (pb : Int)) = V9x2s at *
      clear kx d9 st2a
      clear V9x2
      have hq := refnumI_any gr tb 8 V9x2s st2.rd (by omega)
      rw [HQc.out] at hq
      try dsimp only at hq
      have HQ := Lib.hid hq
      clear hq
      go_wp2_with fail
      refine HQ.out.mono ?_
      rintro e V9x3 ⟨rfl, hrd, hg⟩
      have st3a := st2.step hrd hg
      clear HQ hrd hg st2
      have kx := st3a.x.frozen
      obtain ⟨d0, d1, d2, d3, d4, d5, d6, d7, d8, d9, d10, d11, d12, d13, d14⟩ := st3a.x.c15
      clear d0 d1 d2 d3 d4 d5 d6 d7 d8 d9 d11 d12 d13 d14
      go_upto_region 18 with fail
      have st3 := st3a.fill (s' := (⟨((2 : Nat) : Int), lsn, epoch, pa, 0, 0, [], [], [], pb, pc, false, 0, [], []⟩ : Lrec)) (y' := (⟨none, 0, 0, none, 0, 0, none, 0, 0, none, 0, 0, none, 0, 0⟩ : Lsl)) 10 (.int .u64 (pc : Int)) rfl ⟨st3a.ow.o, st3a.ow.n, st3a.ow.u, st3a.ow.p, st3a.ow.d, st3a.ow.lo, st3a.ow.ln, st3a.ow.lu, st3a.ow.lp, st3a.ow.ld⟩
      generalize V9x3.setCell ⟨gx, 10, none⟩ (.int .u64 (pc : Int)) = V9x3s at *
      clear kx d10 st3a
      clear V9x3
      by_cases hd1 : pd = 1
      · have hdd : decide (pd = 1) = true := decide_eq_true hd1
        rw [hdd] at HE
        subst hd1
        have hq := refnumI_any gr tc 1 V9x3s st3.rd (by omega)
        rw [HQd.out] at hq
        try dsimp only at hq
        have HQ := Lib.hid hq
        clear hq
        go_wp2_with fail
        refine HQ.out.mono ?_
        rintro e V9x4 ⟨rfl, hrd, hg⟩
        have st4a := st3.step hrd hg
        clear HQ hrd hg st3
        have kx := st4a.x.frozen
        obtain ⟨d0, d1, d2, d3, d4, d5, d6, d7, d8, d9, d10, d11, d12, d13, d14⟩ := st4a.x.c15
        clear d0 d1 d2 d3 d4 d5 d6 d7 d8 d9 d10 d12 d13 d14
        go_upto_region 19 with fail
        have st4 := st4a.fill (s' := (⟨((2 : Nat) : Int), lsn, epoch, pa, 0, 0, [], [], [], pb, pc, true, 0, [], []⟩ : Lrec)) (y' := (⟨none, 0, 0, none, 0, 0, none, 0, 0, none, 0, 0, none, 0, 0⟩ : Lsl)) 11 (.bool true) rfl ⟨st4a.ow.o, st4a.ow.n, st4a.ow.u, st4a.ow.p, st4a.ow.d, st4a.ow.lo, st4a.ow.ln, st4a.ow.lu, st4a.ow.lp, st4a.ow.ld⟩
        generalize V9x4.setCell ⟨gx, 11, none⟩ (.bool true) = V9x4s at *
        clear kx d11 st4a
        clear V9x4
        have hq := reftextI_any gr td 64 V9x4s st4.rd (by omega) (by omega)
        rw [HQu.out] at hq
        try dsimp only at hq
        have HQ := Lib.hid hq
        clear hq
        go_wp2_with fail
        refine HQ.out.mono ?_
        rintro e V9x5 ⟨T5A, T5n, T5c, rfl, hTn, hTO0, hrd, hg⟩
        have hTO := hTO0.base_ st4.sz
        clear hTO0
        have st5a := st4.step hrd hg
        clear HQ hrd hg st4
        have kx := st5a.x.frozen
        obtain ⟨d0, d1, d2, d3, d4, d5, d6, d7, d8, d9, d10, d11, d12, d13, d14⟩ := st5a.x.c15
        clear d0 d1 d2 d3 d4 d5 d6 d7 d9 d10 d11 d12 d13 d14
        have hfin := Lib.hid (st5a.fill (s' := (⟨((2 : Nat) : Int), lsn, epoch, pa, 0, 0, [], [], pu, pb, pc, true, 0, [], []⟩ : Lrec)) (y' := (⟨none, 0, 0, none, 0, 0, T5A, T5n, T5c, none, 0, 0, none, 0, 0⟩ : Lsl)) 8 (.slice T5A T5n T5c) rfl ⟨st5a.ow.o, st5a.ow.n, hTO, st5a.ow.p, st5a.ow.d, st5a.ow.lo, st5a.ow.ln, hTn.out, st5a.ow.lp, st5a.ow.ld⟩)
        clear st5a
        go_wp2
        go_meet
        case rel =>
          have he := HE.out
          injection he with he1 he2
          subst he1 he2
          exact ⟨_, hfin.out⟩
      · have hdd : decide (pd = 1) = ((pd : Int) == 1) := by rw [decide_eq_false hd1]; exact (beq_eq_false_iff_ne.2 (by omega)).symm
        rw [hdd] at HE
        have hq := refnumI_any gr tc 1 V9x3s st3.rd (by omega)
        rw [HQd.out] at hq
        try dsimp only at hq
        have HQ := Lib.hid hq
        clear hq
        go_wp2_with fail
        refine HQ.out.mono ?_
        rintro e V9x4 ⟨rfl, hrd, hg⟩
        have st4a := st3.step hrd hg
        clear HQ hrd hg st3
        have kx := st4a.x.frozen
        obtain ⟨d0, d1, d2, d3, d4, d5, d6, d7, d8, d9, d10, d11, d12, d13, d14⟩ := st4a.x.c15
        clear d0 d1 d2 d3 d4 d5 d6 d7 d8 d9 d10 d12 d13 d14
        go_upto_region 19 with fail
        have st4 := st4a.fill (s' := (⟨((2 : Nat) : Int), lsn, epoch, pa, 0, 0, [], [], [], pb, pc, ((pd : Int) == 1), 0, [], []⟩ : Lrec)) (y' := (⟨none, 0, 0, none, 0, 0, none, 0, 0, none, 0, 0, none, 0, 0⟩ : Lsl)) 11 (.bool ((pd : Int) == 1)) rfl ⟨st4a.ow.o, st4a.ow.n, st4a.ow.u, st4a.ow.p, st4a.ow.d, st4a.ow.lo, st4a.ow.ln, st4a.ow.lu, st4a.ow.lp, st4a.ow.ld⟩
        generalize V9x4.setCell ⟨gx, 11, none⟩ (.bool ((pd : Int) == 1)) = V9x4s at *
        clear kx d11 st4a
        clear V9x4
        have hq := reftextI_any gr td 64 V9x4s st4.rd (by omega) (by omega)
        rw [HQu.out] at hq
        try dsimp only at hq
        have HQ := Lib.hid hq
        clear hq
        go_wp2_with fail
        refine HQ.out.mono ?_
        rintro e V9x5 ⟨T5A, T5n, T5c, rfl, hTn, hTO0, hrd, hg⟩
        have hTO := hTO0.base_ st4.sz
        clear hTO0
        have st5a := st4.step hrd hg
        clear HQ hrd hg st4
        have kx := st5a.x.frozen
        obtain ⟨d0, d1, d2, d3, d4, d5, d6, d7, d8, d9, d10, d11, d12, d13, d14⟩ := st5a.x.c15
        clear d0 d1 d2 d3 d4 d5 d6 d7 d9 d10 d11 d12 d13 d14
        have hfin := Lib.hid (st5a.fill (s' := (⟨((2 : Nat) : Int), lsn, epoch, pa, 0, 0, [], [], pu, pb, pc, ((pd : Int) == 1), 0, [], []⟩ : Lrec)) (y' := (⟨none, 0, 0, none, 0, 0, T5A, T5n, T5c, none, 0, 0, none, 0, 0⟩ : Lsl)) 8 (.slice T5A T5n T5c) rfl ⟨st5a.ow.o, st5a.ow.n, hTO, st5a.ow.p, st5a.ow.d, st5a.ow.lo, st5a.ow.ln, hTn.out, st5a.ow.lp, st5a.ow.ld⟩)
        clear st5a
        go_wp2
        go_meet
        case rel =>
          have he := HE.out
          injection he with he1 he2
          subst he1 he2
          exact ⟨_, hfin.out⟩
    by_cases k3 : kd = 3
    · as_aux_lemma =>
      subst k3
      obtain ⟨qa, hQa⟩ : ∃ q, r3.fixed 8 = q := ⟨_, rfl⟩
      obtain ⟨pa, ta⟩ := qa
      obtain ⟨qb, hQb⟩ : ∃ q, ta.fixed 8 = q := ⟨_, rfl⟩
      obtain ⟨pb, tb⟩ := qb
      have HE : Hid ((s', r') = ((⟨3, lsn, epoch, pa, 0, 0, [], [], [], 0, 0, false, pb, [], []⟩ : Lrec), tb)) := Lib.hid (by rw [← HFK.out, LogM.gK_3]; unfold LogM.fC; simp only [hQa, hQb]; rfl)
      have HQa := Lib.hid hQa
      have HQb := Lib.hid hQb
      clear hQa hQb
      obtain ⟨d0, d1, d2, d3, d4, d5, d6, d7, d8, d9, d10, d11, d12, d13, d14⟩ := hst.x.c15
      clear d1 d2 d3 d4 d5 d6 d7 d8 d9 d10 d11 d12 d13 d14
      have hq := refnumI_any gr r3 8 V9x3s hst.rd (by omega)
      rw [HQa.out] at hq
      try dsimp only at hq
      have HQ := Lib.hid hq
      clear hq
      go_wp2_with fail
      refine HQ.out.mono ?_
      rintro e V9x1 ⟨rfl, hrd, hg⟩
      have st1a := hst.step hrd hg
      clear HQ hrd hg hst d0
      have kx := st1a.x.frozen
      obtain ⟨d0, d1, d2, d3, d4, d5, d6, d7, d8, d9, d10, d11, d12, d13, d14⟩ := st1a.x.c15
      clear d0 d1 d2 d4 d5 d6 d7 d8 d9 d10 d11 d12 d13 d14
      go_upto_region 22 with fail
      have st1 := st1a.fill (s' := (⟨((3 : Nat) : Int), lsn, epoch, pa, 0, 0, [], [], [], 0, 0, false, 0, [], []⟩ : Lrec)) (y' := (⟨none, 0, 0, none, 0, 0, none, 0, 0, none, 0, 0, none, 0, 0⟩ : Lsl)) 3 (.int .u64 (pa : Int)) rfl ⟨st1a.ow.o, st1a.ow.n, st1a.ow.u, st1a.ow.p, st1a.ow.d, st1a.ow.lo, st1a.ow.ln, st1a.ow.lu, st1a.ow.lp, st1a.ow.ld⟩
      generalize V9x1.setCell ⟨gx, 3, none⟩ (.int .u64 (pa : Int)) = V9x1s at *
      clear kx d3 st1a
      clear V9x1
      have hq := refnumI_any gr ta 8 V9x1s st1.rd (by omega)
      rw [HQb.out] at hq
      try dsimp only at hq
      have HQ := Lib.hid hq
      clear hq
      go_wp2_with fail
      refine HQ.out.mono ?_
      rintro e V9x2 ⟨rfl, hrd, hg⟩
      have st2a := st1.step hrd hg
      clear HQ hrd hg st1
      have kx := st2a.x.frozen
      obtain ⟨d0, d1, d2, d3, d4, d5, d6, d7, d8, d9, d10, d11, d12, d13, d14⟩ := st2a.x.c15
      clear d0 d1 d2 d3 d4 d5 d6 d7 d8 d9 d10 d11 d13 d14
      have hfin := Lib.hid (st2a.fill (s' := (⟨((3 : Nat) : Int), lsn, epoch, pa, 0, 0, [], [], [], 0, 0, false, pb, [], []⟩ : Lrec)) (y' := (⟨none, 0, 0, none, 0, 0, none, 0, 0, none, 0, 0, none, 0, 0⟩ : Lsl)) 12 (.int .u64 (pb : Int)) rfl ⟨st2a.ow.o, st2a.ow.n, st2a.ow.u, st2a.ow.p, st2a.ow.d, st2a.ow.lo, st2a.ow.ln, st2a.ow.lu, st2a.ow.lp, st2a.ow.ld⟩)
      clear st2a
      go_wp2
      go_meet
      case rel =>
        have he := HE.out
        injection he with he1 he2
        subst he1 he2
        exact ⟨_, hfin.out⟩
    by_cases k4 : kd = 4
    · as_aux_lemma =>
      subst k4
      obtain ⟨qa, hQa⟩ : ∃ q, r3.fixed 8 = q := ⟨_, rfl⟩
      obtain ⟨pa, ta⟩ := qa
      have HE : Hid ((s', r') = ((⟨4, lsn, epoch, pa, 0, 0, [], [], [], 0, 0, false, 0, [], []⟩ : Lrec), ta)) := Lib.hid (by rw [← HFK.out, LogM.gK_4]; unfold LogM.fD; simp only [hQa]; rfl)
      have HQa := Lib.hid hQa
      clear hQa
      obtain ⟨d0, d1, d2, d3, d4, d5, d6, d7, d8, d9, d10, d11, d12, d13, d14⟩ := hst.x.c15
      clear d1 d2 d3 d4 d5 d6 d7 d8 d9 d10 d11 d12 d13 d14
      have hq := refnumI_any gr r3 8 V9x3s hst.rd (by omega)
      rw [HQa.out] at hq
      try dsimp only at hq
      have HQ := Lib.hid hq
      clear hq
      go_wp2_with fail
      refine HQ.out.mono ?_
      rintro e V9x1 ⟨rfl, hrd, hg⟩
      have st1a := hst.step hrd hg
      clear HQ hrd hg hst d0
      have kx := st1a.x.frozen
      obtain ⟨d0, d1, d2, d3, d4, d5, d6, d7, d8, d9, d10, d11, d12, d13, d14⟩ := st1a.x.c15
      clear d0 d1 d2 d4 d5 d6 d7 d8 d9 d10 d11 d12 d13 d14
      have hfin := Lib.hid (st1a.fill (s' := (⟨((4 : Nat) : Int), lsn, epoch, pa, 0, 0, [], [], [], 0, 0, false, 0, [], []⟩ : Lrec)) (y' := (⟨none, 0, 0, none, 0, 0, none, 0, 0, none, 0, 0, none, 0, 0⟩ : Lsl)) 3 (.int .u64 (pa : Int)) rfl ⟨st1a.ow.o, st1a.ow.n, st1a.ow.u, st1a.ow.p, st1a.ow.d, st1a.ow.lo, st1a.ow.ln, st1a.ow.lu, st1a.ow.lp, st1a.ow.ld⟩)
      clear st1a
      go_wp2
      go_meet
      case rel =>
        have he := HE.out
        injection he with he1 he2
        subst he1 he2
        exact ⟨_, hfin.out⟩
    by_cases k5 : kd = 5
    · as_aux_lemma =>
      subst k5
      obtain ⟨qa, hQa⟩ : ∃ q, r3.uv = q := ⟨_, rfl⟩
      obtain ⟨n1, rn⟩ := qa
      obtain ⟨mm, hmm⟩ : ∃ mm, min n1 17 = mm := ⟨_, rfl⟩
      obtain ⟨qb, hQb⟩ : ∃ q, LogM.many LogM.ch1 mm rn = q := ⟨_, rfl⟩
      obtain ⟨xs, rp⟩ := qb
      obtain ⟨qc, hQc⟩ : ∃ q, rp.uv = q := ⟨_, rfl⟩
      obtain ⟨n2, rm⟩ := qc
      obtain ⟨kk, hkk⟩ : ∃ kk, min n2 65 = kk := ⟨_, rfl⟩
      obtain ⟨qd, hQd⟩ : ∃ q, LogM.many LogM.dt1 kk rm = q := ⟨_, rfl⟩
      obtain ⟨ys, re⟩ := qd
      have HE : Hid ((s', r') = ((⟨5, lsn, epoch, 0, 0, 0, [], [], [], 0, 0, false, 0, xs, ys⟩ : Lrec), re)) := Lib.hid (by rw [← HFK.out, LogM.gK_5]; unfold LogM.fP; simp only [hQa, hmm, hQb, hQc, hkk, hQd]; rfl)
      have HM1 : Hid (mm ≤ 17 ∧ mm ≤ n1 ∧ (mm = 17 ∨ mm = n1)) := Lib.hid (by omega)
      have HM2 : Hid (kk ≤ 65 ∧ kk ≤ n2 ∧ (kk = 65 ∨ kk = n2)) := Lib.hid (by omega)
      have HQb := Lib.hid hQb
      have HQc := Lib.hid hQc
      have HQd := Lib.hid hQd
      have hst0 : DSt w.heap.size base w gr gx gz r3 (⟨5, lsn, epoch, 0, 0, 0, [], [], [], 0, 0, false, 0, [], []⟩ : Lrec) (⟨none, 0, 0, none, 0, 0, none, 0, 0, none, 0, 0, none, 0, 0⟩ : Lsl) V9x3s := hst
      obtain ⟨d0, d1, d2, d3, d4, d5, d6, d7, d8, d9, d10, d11, d12, d13, d14⟩ := hst0.x.c15
      clear d1 d2 d3 d4 d5 d6 d7 d8 d9 d10 d11 d12 d13 d14 hst
      have hq := refuvI_any gr r3 V9x3s hst0.rd
      rw [hQa] at hq
      try dsimp only at hq
      have HQ := Lib.hid hq
      clear hq hQa hmm hQb hQc hkk hQd
      go_wp2_with fail
      refine HQ.out.mono ?_
      rintro e V9a ⟨rfl, hrd, hg⟩
      have hst1 := hst0.step hrd hg
      clear HQ hrd hg hst0 d0
      go_wp2
      go_loopw [7] (fun i wr => ∃ (q pc : Nat) (pA : Option Addr), i = .int .u64 (q : Int) ∧ q ≤ mm ∧ DSt w.heap.size base w gr gx gz (LogM.many LogM.ch1 q rn).2 (⟨5, lsn, epoch, 0, 0, 0, [], [], [], 0, 0, false, 0, (LogM.many LogM.ch1 q rn).1, []⟩ : Lrec) (⟨none, 0, 0, none, 0, 0, none, 0, 0, pA, q, pc, none, 0, 0⟩ : Lsl) wr) (fun i _ => mm - (RowKit.intOf i).toNat)
      case atStart => exact ⟨0, 0, none, rfl, Nat.zero_le _, hst1⟩
      case round =>
        clear hst1
        obtain ⟨q, pc, pA, rfl, hq, hI⟩ := hrel
        by_cases hlt : q < mm
        · as_aux_lemma =>
          obtain ⟨qq, hqq⟩ : ∃ p, LogM.many LogM.ch1 q rn = p := ⟨_, rfl⟩
          obtain ⟨lx, rq⟩ := qq
          obtain ⟨w1_, hU1⟩ : ∃ p, rq.fixed 8 = p := ⟨_, rfl⟩
          obtain ⟨u1, rga⟩ := w1_
          obtain ⟨w2_, hU2⟩ : ∃ p, rga.fixed 8 = p := ⟨_, rfl⟩
          obtain ⟨u2, rgb⟩ := w2_
          obtain ⟨w3_, hU3⟩ : ∃ p, rgb.fixed 8 = p := ⟨_, rfl⟩
          obtain ⟨u3, rgc⟩ := w3_
          have HNX : Hid (LogM.many LogM.ch1 (q + 1) rn = (lx ++ [(u1, u2, u3)], rgc)) := Lib.hid (by unfold LogM.many; rw [hqq]; unfold LogM.ch1; simp only [hU1, hU2, hU3])
          have HLX : Hid (lx.length = q) := Lib.hid (by have := LogM.many_length LogM.ch1 q rn; rw [hqq] at this; exact this)
          rw [hqq] at hI
          dsimp only at hI
          have HU1 := Lib.hid hU1
          have HU2 := Lib.hid hU2
          have HU3 := Lib.hid hU3
          clear hU1 hU2 hU3 hqq
          have hm1 := HM1.out
          have hq17 : q ≤ 16 := by omega
          have hqn : (q : Int) < (n1 : Int) := by omega
          have hq16 : (q : Int) ≤ 16 := by omega
          clear hm1
          go_upto_region 31 with fail
          have he0 := ESt.start (t := 54) (cs := #[.int .u64 0, .int .u64 0, .int .u64 0]) hI.rd hI.ord.2.1 hI.sz (by intro v hv u; simp only [List.mem_cons, List.not_mem_nil, or_false] at hv; rcases hv with rfl | rfl | rfl <;> simp [B])
          generalize wr.alloc (.cells #[.int .u64 0, .int .u64 0, .int .u64 0] 54) = Wa at *
          obtain ⟨gc, hgc⟩ : ∃ gc, wr.heap.size = gc := ⟨_, rfl⟩
          rw [hgc] at he0
          simp only [hgc]
          have HGC := Lib.hid hgc
          clear hgc
          have hq := refnumI_any gr rq 8 Wa he0.rd (by omega)
          rw [HU1.out] at hq
          try dsimp only at hq
          have HQ := Lib.hid hq
          clear hq
          go_wp2_with fail
          refine HQ.out.mono ?_
          rintro e Wb0 ⟨rfl, hrd, hg⟩
          have hea := he0.step hrd hg
          clear HQ hrd hg he0
          have kc := hea.c.frozen
          obtain ⟨c0, c1, c2⟩ := hea.c.c3D
          go_upto_region 32 with fail
          have he1 := hea.put 0 (.int .u64 (u1 : Int)) (by simp [B]) (cs' := #[.int .u64 (u1 : Int), .int .u64 0, .int .u64 0]) rfl
          generalize Wb0.setCell ⟨gc, 0, none⟩ (.int .u64 (u1 : Int)) = Wc0 at *
          clear kc hea c0 c1 c2
          clear Wb0
          have hq := refnumI_any gr rga 8 Wc0 he1.rd (by omega)
          rw [HU2.out] at hq
          try dsimp only at hq
          have HQ := Lib.hid hq
          clear hq
          go_wp2_with fail
          refine HQ.out.mono ?_
          rintro e Wb1 ⟨rfl, hrd, hg⟩
          have hea := he1.step hrd hg
          clear HQ hrd hg he1
          have kc := hea.c.frozen
          obtain ⟨c0, c1, c2⟩ := hea.c.c3D
          go_upto_region 33 with fail
          have he2 := hea.put 1 (.int .u64 (u2 : Int)) (by simp [B]) (cs' := #[.int .u64 (u1 : Int), .int .u64 (u2 : Int), .int .u64 0]) rfl
          generalize Wb1.setCell ⟨gc, 1, none⟩ (.int .u64 (u2 : Int)) = Wc1 at *
          clear kc hea c0 c1 c2
          clear Wb1
          have hq := refnumI_any gr rgb 8 Wc1 he2.rd (by omega)
          rw [HU3.out] at hq
          try dsimp only at hq
          have HQ := Lib.hid hq
          clear hq
          go_wp2_with fail
          refine HQ.out.mono ?_
          rintro e Wb2 ⟨rfl, hrd, hg⟩
          have hea := he2.step hrd hg
          clear HQ hrd hg he2
          have kc := hea.c.frozen
          obtain ⟨c0, c1, c2⟩ := hea.c.c3D
          go_upto_region 34 with fail
          have he3 := hea.put 2 (.int .u64 (u3 : Int)) (by simp [B]) (cs' := #[.int .u64 (u1 : Int), .int .u64 (u2 : Int), .int .u64 (u3 : Int)]) rfl
          generalize Wb2.setCell ⟨gc, 2, none⟩ (.int .u64 (u3 : Int)) = Wc2 at *
          clear kc hea c0 c1 c2
          clear Wb2
          have st3 := hI.step he3.rd he3.gr_
          obtain ⟨c0, c1, c2⟩ := he3.c.c3D
          obtain ⟨d0, d1, d2, d3, d4, d5, d6, d7, d8, d9, d10, d11, d12, d13, d14⟩ := st3.x.c15
          clear d0 d1 d2 d3 d4 d5 d6 d7 d8 d9 d10 d11 d12 d14 he3 hI
          have hl := row_newC Wc2 54 (chC (u1, u2, u3)) #[.int .u64 (u1 : Int), .int .u64 (u2 : Int), .int .u64 (u3 : Int)] rfl
          have hba : Below Wc2.heap.size Wc2 (Wc2.alloc (.cells #[.int .u64 (u1 : Int), .int .u64 (u2 : Int), .int .u64 (u3 : Int)] 54)) := (Below.refl _ _).alloc (Nat.le_refl _) _
          have st4 := st3.far hba
          clear hba st3
          obtain ⟨i0, hi0, iz1, iz2, iz3⟩ := info_parts info_chD
          go_wp2_with (at_builtin; refine wpl_append _ rfl (.tmp 79) (.tmp 81) _ rfl base 54 i0 _ 3 24 Try.underlying28 hi0 iz1 iz2 iz3 rfl (by omega) (.slice pA q pc) q (lx.flatMap chC) rfl st4.ow.p (some ⟨Wc2.heap.size, 0, none⟩) 1 1 (chC (u1, u2, u3)) rfl rfl hl (one_chD _) (by unfold maxLen; omega) (by omega) st4.sz ?_)
          intro Aq cq Wd h1 h2 h3
          clear c0 c1 c2 d13 hl iz1 iz2 iz3 hi0
          have how : Lown Wd base (⟨none, 0, 0, none, 0, 0, none, 0, 0, Aq, q + 1, cq, none, 0, 0⟩ : Lsl) (⟨5, lsn, epoch, 0, 0, 0, [], [], [], 0, 0, false, 0, lx ++ [(u1, u2, u3)], []⟩ : Lrec) := ⟨Own.nil_ _ _, Own.nil_ _ _, Own.nil_ _ _, by rw [List.flatMap_append, List.flatMap_cons, List.flatMap_nil, List.append_nil]; exact h1, World.ownsRow_nil _ _ _ _, rfl, rfl, rfl, by rw [List.length_append, HLX.out]; rfl, rfl⟩
          obtain ⟨hx5, st5⟩ := st4.app h2 (fun k hk => (st4.ow.p.lt k hk).1) 13 (.slice Aq (q + 1) cq) (s' := (⟨5, lsn, epoch, 0, 0, 0, [], [], [], 0, 0, false, 0, lx ++ [(u1, u2, u3)], []⟩ : Lrec)) (y' := (⟨none, 0, 0, none, 0, 0, none, 0, 0, Aq, q + 1, cq, none, 0, 0⟩ : Lsl)) rfl how
          have kx := hx5.frozen
          obtain ⟨d0, d1, d2, d3, d4, d5, d6, d7, d8, d9, d10, d11, d12, d13, d14⟩ := hx5.c15
          clear d0 d1 d2 d3 d4 d5 d6 d7 d8 d9 d10 d11 d12 d14 hx5 how h1 h2 h3 st4
          have HST := Lib.hid st5
          clear st5
          go_wp2
          go_roundw
          case rel => exact ⟨q + 1, cq, Aq, by go_num, by omega, by rw [HNX.out]; exact HST.out⟩
          case measure => simp [RowKit.intOf]; omega
        · obtain rfl : q = mm := by omega
          rw [HQb.out] at hI
          dsimp only at hI
          have hm1 := HM1.out
          have hq := refuvI_any gr rp wr hI.rd
          rw [HQc.out] at hq
          try dsimp only at hq
          have HQ := Lib.hid hq
          have HI := Lib.hid hI
          clear hq hI
          have hcond : (¬ (q : Int) < (n1 : Int)) ∨ ((q : Int) < (n1 : Int) ∧ ¬ (q : Int) ≤ 16) := by omega
          clear hm1
          have HPR : Hid (q ≤ 17) := Lib.hid HM1.out.1
          clear HM1
          rcases hcond with hcond | ⟨hcond, hc16⟩
          · go_wp2_with fail
            refine HQ.out.mono ?_
            rintro e V9b ⟨rfl, hrd, hg⟩
            have hst2 := HI.out.step hrd hg
            clear HQ hrd hg HI
            have hq17 := HPR.out
            clear HPR
            obtain ⟨base2, hbase2⟩ : ∃ base2, V9b.heap.size = base2 := ⟨_, rfl⟩
            have hb2 : base ≤ base2 := by rw [← hbase2]; exact hst2.sz
            have hpB : ∀ k, (Value.slice pA q pc).ownBlock = some k → k < base2 := fun k hk => by rw [← hbase2]; exact (hst2.ow.p.lt k hk).2
            have hs2 : base2 ≤ V9b.heap.size := Nat.le_of_eq hbase2.symm
            have HPB := Lib.hid hpB
            clear hbase2 hpB hcond
            go_wp2
            go_loopw [9] (fun i wr => ∃ (z dc : Nat) (dA : Option Addr), i = .int .u64 (z : Int) ∧ z ≤ kk ∧ (DSt w.heap.size base w gr gx gz (LogM.many LogM.dt1 z rm).2 (⟨5, lsn, epoch, 0, 0, 0, [], [], [], 0, 0, false, 0, xs, (LogM.many LogM.dt1 z rm).1⟩ : Lrec) (⟨none, 0, 0, none, 0, 0, none, 0, 0, pA, q, pc, dA, z, dc⟩ : Lsl) wr ∧ wr.ownsRow base2 56 2 (.slice dA z dc) z ((LogM.many LogM.dt1 z rm).1.flatMap dtC) ∧ base2 ≤ wr.heap.size)) (fun i _ => kk - (RowKit.intOf i).toNat)
            case atStart => exact ⟨0, 0, none, rfl, Nat.zero_le _, hst2, World.ownsRow_nil _ _ _ _, hs2⟩
            case round =>
              clear hst2 hs2
              obtain ⟨z, dc, dA, rfl, hz, hI, hdO, hsz2⟩ := hrel
              by_cases hlt2 : z < kk
              · as_aux_lemma =>
                obtain ⟨qq, hqq⟩ : ∃ p, LogM.many LogM.dt1 z rm = p := ⟨_, rfl⟩
                obtain ⟨lx, rq⟩ := qq
                obtain ⟨w1_, hU1⟩ : ∃ p, rq.fixed 4 = p := ⟨_, rfl⟩
                obtain ⟨u1, rga⟩ := w1_
                obtain ⟨w2_, hU2⟩ : ∃ p, rga.fixed 8 = p := ⟨_, rfl⟩
                obtain ⟨u2, rgb⟩ := w2_
                have hu32 : u1 < 4294967296 := by have := CodeM.fixed_lt 4 rq; rw [hU1] at this; exact this
                have HNX : Hid (LogM.many LogM.dt1 (z + 1) rm = (lx ++ [(u1, u2)], rgb)) := Lib.hid (by unfold LogM.many; rw [hqq]; unfold LogM.dt1; simp only [hU1, hU2])
                have HLX : Hid (lx.length = z) := Lib.hid (by have := LogM.many_length LogM.dt1 z rm; rw [hqq] at this; exact this)
                rw [hqq] at hI hdO
                dsimp only at hI hdO
                have HU1 := Lib.hid hU1
                have HU2 := Lib.hid hU2
                clear hU1 hU2 hqq
                have hm2 := HM2.out
                have hz64 : z ≤ 64 := by omega
                have hqn : (z : Int) < (n2 : Int) := by omega
                have hq16 : (z : Int) ≤ 64 := by omega
                clear hm2
                have ord2 : w.heap.size ≤ gr ∧ gr < base2 ∧ gx < base2 := by
                  obtain ⟨o1, o2, o3, o4, o5, o6, o7, o8, o9, o0⟩ := hI.ord
                  exact ⟨o1, by omega, by omega⟩
                have HLP := Lib.hid hI.ow.lp
                go_upto_region 40 with fail
                have he0 := ESt.start (t := 56) (cs := #[.int .u32 0, .int .u64 0]) hI.rd hI.ord.2.1 hI.sz (by intro v hv u; simp only [List.mem_cons, List.not_mem_nil, or_false] at hv; rcases hv with rfl | rfl <;> simp [B])
                generalize wr.alloc (.cells #[.int .u32 0, .int .u64 0] 56) = Wa at *
                obtain ⟨gc, hgc⟩ : ∃ gc, wr.heap.size = gc := ⟨_, rfl⟩
                rw [hgc] at he0
                simp only [hgc]
                have HGC := Lib.hid hgc
                clear hgc
                have hq := refnumI_any gr rq 4 Wa he0.rd (by omega)
                rw [HU1.out] at hq
                try dsimp only at hq
                have HQ := Lib.hid hq
                clear hq
                go_wp2_with fail
                refine HQ.out.mono ?_
                rintro e Wb0 ⟨rfl, hrd, hg⟩
                have hea := he0.step hrd hg
                clear HQ hrd hg he0
                have kc := hea.c.frozen
                obtain ⟨c0, c1⟩ := hea.c.c2D
                have hwr : IntKind.u32.wrap (u1 : Int) = (u1 : Int) := by rw [IntKind.wrap_u32]; omega
                go_upto_region 41 with fail
                have he1 := hea.put 0 (.int .u32 (u1 : Int)) (by simp [B]) (cs' := #[.int .u32 (u1 : Int), .int .u64 0]) rfl
                generalize Wb0.setCell ⟨gc, 0, none⟩ (.int .u32 (u1 : Int)) = Wc0 at *
                clear kc hea c0 c1 hwr
                clear Wb0
                have hq := refnumI_any gr rga 8 Wc0 he1.rd (by omega)
                rw [HU2.out] at hq
                try dsimp only at hq
                have HQ := Lib.hid hq
                clear hq
                go_wp2_with fail
                refine HQ.out.mono ?_
                rintro e Wb1 ⟨rfl, hrd, hg⟩
                have hea := he1.step hrd hg
                clear HQ hrd hg he1
                have kc := hea.c.frozen
                obtain ⟨c0, c1⟩ := hea.c.c2D
                go_upto_region 42 with fail
                have he2 := hea.put 1 (.int .u64 (u2 : Int)) (by simp [B]) (cs' := #[.int .u32 (u1 : Int), .int .u64 (u2 : Int)]) rfl
                generalize Wb1.setCell ⟨gc, 1, none⟩ (.int .u64 (u2 : Int)) = Wc1 at *
                clear kc hea c0 c1
                clear Wb1
                have st3 := hI.step he2.rd he2.gr_
                have hd3 := owns_kept hdO he2.gr_ ord2.2.1
                have hs3 : base2 ≤ Wc1.heap.size := Nat.le_trans hsz2 he2.gr_.size
                obtain ⟨c0, c1⟩ := he2.c.c2D
                obtain ⟨d0, d1, d2, d3, d4, d5, d6, d7, d8, d9, d10, d11, d12, d13, d14⟩ := st3.x.c15
                clear d0 d1 d2 d3 d4 d5 d6 d7 d8 d9 d10 d11 d12 d13 he2 hI
                have hl := row_newC Wc1 56 (dtC (u1, u2)) #[.int .u32 (u1 : Int), .int .u64 (u2 : Int)] rfl
                have hba : Below Wc1.heap.size Wc1 (Wc1.alloc (.cells #[.int .u32 (u1 : Int), .int .u64 (u2 : Int)] 56)) := (Below.refl _ _).alloc (Nat.le_refl _) _
                have st4 := st3.far hba
                have hd4 := owns_below hd3 hba
                have hs4 := Nat.le_trans hs3 hba.size
                clear hba st3 hd3
                obtain ⟨i0, hi0, iz1, iz2, iz3⟩ := info_parts info_dtD
                go_wp2_with (at_builtin; refine wpl_append _ rfl (.tmp 100) (.tmp 102) _ rfl base2 56 i0 _ 2 16 Try.underlying29 hi0 iz1 iz2 iz3 rfl (by omega) (.slice dA z dc) z (lx.flatMap dtC) rfl hd4 (some ⟨Wc1.heap.size, 0, none⟩) 1 1 (dtC (u1, u2)) rfl rfl hl (one_dtD _) (by unfold maxLen; omega) (by omega) hs4 ?_)
                intro Aq cq Wd h1 h2 h3
                clear c0 c1 d14 hl iz1 iz2 iz3 hi0
                have hd5 : Wd.ownsRow base2 56 2 (.slice Aq (z + 1) cq) (z + 1) ((lx ++ [(u1, u2)]).flatMap dtC) := by rw [List.flatMap_append, List.flatMap_cons, List.flatMap_nil, List.append_nil]; exact h1
                have hkb : ∀ k, (Value.slice dA z dc).ownBlock = some k → base2 ≤ k := fun k hk => (hd4.lt k hk).1
                have how : Lown Wd base (⟨none, 0, 0, none, 0, 0, none, 0, 0, pA, q, pc, Aq, z + 1, cq⟩ : Lsl) (⟨5, lsn, epoch, 0, 0, 0, [], [], [], 0, 0, false, 0, xs, lx ++ [(u1, u2)]⟩ : Lrec) := ⟨Own.nil_ _ _, Own.nil_ _ _, Own.nil_ _ _, owns_apart st4.ow.p h2 hkb HPB.out, owns_base hd5 hb2, rfl, rfl, rfl, HLP.out, by rw [List.length_append, HLX.out]; rfl⟩
                have hs5 := Nat.le_trans hs4 h2.size
                obtain ⟨hx5, st5⟩ := st4.app h2 (fun k hk => Nat.le_trans hb2 (hkb k hk)) 14 (.slice Aq (z + 1) cq) (s' := (⟨5, lsn, epoch, 0, 0, 0, [], [], [], 0, 0, false, 0, xs, lx ++ [(u1, u2)]⟩ : Lrec)) (y' := (⟨none, 0, 0, none, 0, 0, none, 0, 0, pA, q, pc, Aq, z + 1, cq⟩ : Lsl)) rfl how
                have kx := hx5.frozen
                obtain ⟨d0, d1, d2, d3, d4, d5, d6, d7, d8, d9, d10, d11, d12, d13, d14⟩ := hx5.c15
                have hgs := grownBy_setCell Wd gx 14 (.slice Aq (z + 1) cq)
                have hd6 := owns_kept hd5 hgs ord2.2.2
                have HST := Lib.hid (And.intro st5 (And.intro hd6 (Nat.le_trans hs5 hgs.size)))
                clear d0 d1 d2 d3 d4 d5 d6 d7 d8 d9 d10 d11 d12 d13 hx5 how h1 h2 h3 st4 st5 hd5 hd6 hgs hs5 hs4 hd4 hkb hdO hsz2
                go_wp2
                go_roundw
                case rel => exact ⟨z + 1, cq, Aq, by go_num, by omega, by rw [HNX.out]; exact HST.out.1, by rw [HNX.out]; exact HST.out.2.1, HST.out.2.2⟩
                case measure => simp [RowKit.intOf]; omega
              · obtain rfl : z = kk := by omega
                rw [HQd.out] at hI
                dsimp only at hI
                have HI := Lib.hid hI
                clear hI hdO
                have hm2 := HM2.out
                have hcond : (¬ (z : Int) < (n2 : Int)) ∨ ((z : Int) < (n2 : Int) ∧ ¬ (z : Int) ≤ 64) := by omega
                clear hm2 HM2
                rcases hcond with hcond | ⟨hcond, hc64⟩
                · go_wp2
                  go_meet
                  case rel =>
                    have he := HE.out
                    injection he with he1 he2
                    subst he1 he2
                    exact ⟨_, HI.out⟩
                · go_wp2
                  go_meet
                  case rel =>
                    have he := HE.out
                    injection he with he1 he2
                    subst he1 he2
                    exact ⟨_, HI.out⟩
          · go_wp2_with fail
            refine HQ.out.mono ?_
            rintro e V9b ⟨rfl, hrd, hg⟩
            have hst2 := HI.out.step hrd hg
            clear HQ hrd hg HI
            have hq17 := HPR.out
            clear HPR
            obtain ⟨base2, hbase2⟩ : ∃ base2, V9b.heap.size = base2 := ⟨_, rfl⟩
            have hb2 : base ≤ base2 := by rw [← hbase2]; exact hst2.sz
            have hpB : ∀ k, (Value.slice pA q pc).ownBlock = some k → k < base2 := fun k hk => by rw [← hbase2]; exact (hst2.ow.p.lt k hk).2
            have hs2 : base2 ≤ V9b.heap.size := Nat.le_of_eq hbase2.symm
            have HPB := Lib.hid hpB
            clear hbase2 hpB hcond hc16
            go_wp2
            go_loopw [9] (fun i wr => ∃ (z dc : Nat) (dA : Option Addr), i = .int .u64 (z : Int) ∧ z ≤ kk ∧ (DSt w.heap.size base w gr gx gz (LogM.many LogM.dt1 z rm).2 (⟨5, lsn, epoch, 0, 0, 0, [], [], [], 0, 0, false, 0, xs, (LogM.many LogM.dt1 z rm).1⟩ : Lrec) (⟨none, 0, 0, none, 0, 0, none, 0, 0, pA, q, pc, dA, z, dc⟩ : Lsl) wr ∧ wr.ownsRow base2 56 2 (.slice dA z dc) z ((LogM.many LogM.dt1 z rm).1.flatMap dtC) ∧ base2 ≤ wr.heap.size)) (fun i _ => kk - (RowKit.intOf i).toNat)
            case atStart => exact ⟨0, 0, none, rfl, Nat.zero_le _, hst2, World.ownsRow_nil _ _ _ _, hs2⟩
            case round =>
              clear hst2 hs2
              obtain ⟨z, dc, dA, rfl, hz, hI, hdO, hsz2⟩ := hrel
              by_cases hlt2 : z < kk
              · as_aux_lemma =>
                obtain ⟨qq, hqq⟩ : ∃ p, LogM.many LogM.dt1 z rm = p := ⟨_, rfl⟩
                obtain ⟨lx, rq⟩ := qq
                obtain ⟨w1_, hU1⟩ : ∃ p, rq.fixed 4 = p := ⟨_, rfl⟩
                obtain ⟨u1, rga⟩ := w1_
                obtain ⟨w2_, hU2⟩ : ∃ p, rga.fixed 8 = p := ⟨_, rfl⟩
                obtain ⟨u2, rgb⟩ := w2_
                have hu32 : u1 < 4294967296 := by have := CodeM.fixed_lt 4 rq; rw [hU1] at this; exact this
                have HNX : Hid (LogM.many LogM.dt1 (z + 1) rm = (lx ++ [(u1, u2)], rgb)) := Lib.hid (by unfold LogM.many; rw [hqq]; unfold LogM.dt1; simp only [hU1, hU2])
                have HLX : Hid (lx.length = z) := Lib.hid (by have := LogM.many_length LogM.dt1 z rm; rw [hqq] at this; exact this)
                rw [hqq] at hI hdO
                dsimp only at hI hdO
                have HU1 := Lib.hid hU1
                have HU2 := Lib.hid hU2
                clear hU1 hU2 hqq
                have hm2 := HM2.out
                have hz64 : z ≤ 64 := by omega
                have hqn : (z : Int) < (n2 : Int) := by omega
                have hq16 : (z : Int) ≤ 64 := by omega
                clear hm2
                have ord2 : w.heap.size ≤ gr ∧ gr < base2 ∧ gx < base2 := by
                  obtain ⟨o1, o2, o3, o4, o5, o6, o7, o8, o9, o0⟩ := hI.ord
                  exact ⟨o1, by omega, by omega⟩
                have HLP := Lib.hid hI.ow.lp
                go_upto_region 40 with fail
                have he0 := ESt.start (t := 56) (cs := #[.int .u32 0, .int .u64 0]) hI.rd hI.ord.2.1 hI.sz (by intro v hv u; simp only [List.mem_cons, List.not_mem_nil, or_false] at hv; rcases hv with rfl | rfl <;> simp [B])
                generalize wr.alloc (.cells #[.int .u32 0, .int .u64 0] 56) = Wa at *
                obtain ⟨gc, hgc⟩ : ∃ gc, wr.heap.size = gc := ⟨_, rfl⟩
                rw [hgc] at he0
                simp only [hgc]
                have HGC := Lib.hid hgc
                clear hgc
                have hq := refnumI_any gr rq 4 Wa he0.rd (by omega)
                rw [HU1.out] at hq
                try dsimp only at hq
                have HQ := Lib.hid hq
                clear hq
                go_wp2_with fail
                refine HQ.out.mono ?_
                rintro e Wb0 ⟨rfl, hrd, hg⟩
                have hea := he0.step hrd hg
                clear HQ hrd hg he0
                have kc := hea.c.frozen
                obtain ⟨c0, c1⟩ := hea.c.c2D
                have hwr : IntKind.u32.wrap (u1 : Int) = (u1 : Int) := by rw [IntKind.wrap_u32]; omega
                go_upto_region 41 with fail
                have he1 := hea.put 0 (.int .u32 (u1 : Int)) (by simp [B]) (cs' := #[.int .u32 (u1 : Int), .int .u64 0]) rfl
                generalize Wb0.setCell ⟨gc, 0, none⟩ (.int .u32 (u1 : Int)) = Wc0 at *
                clear kc hea c0 c1 hwr
                clear Wb0
                have hq := refnumI_any gr rga 8 Wc0 he1.rd (by omega)
                rw [HU2.out] at hq
                try dsimp only at hq
                have HQ := Lib.hid hq
                clear hq
                go_wp2_with fail
                refine HQ.out.mono ?_
                rintro e Wb1 ⟨rfl, hrd, hg⟩
                have hea := he1.step hrd hg
                clear HQ hrd hg he1
                have kc := hea.c.frozen
                obtain ⟨c0, c1⟩ := hea.c.c2D
                go_upto_region 42 with fail
                have he2 := hea.put 1 (.int .u64 (u2 : Int)) (by simp [B]) (cs' := #[.int .u32 (u1 : Int), .int .u64 (u2 : Int)]) rfl
                generalize Wb1.setCell ⟨gc, 1, none⟩ (.int .u64 (u2 : Int)) = Wc1 at *
                clear kc hea c0 c1
                clear Wb1
                have st3 := hI.step he2.rd he2.gr_
                have hd3 := owns_kept hdO he2.gr_ ord2.2.1
                have hs3 : base2 ≤ Wc1.heap.size := Nat.le_trans hsz2 he2.gr_.size
                obtain ⟨c0, c1⟩ := he2.c.c2D
                obtain ⟨d0, d1, d2, d3, d4, d5, d6, d7, d8, d9, d10, d11, d12, d13, d14⟩ := st3.x.c15
                clear d0 d1 d2 d3 d4 d5 d6 d7 d8 d9 d10 d11 d12 d13 he2 hI
                have hl := row_newC Wc1 56 (dtC (u1, u2)) #[.int .u32 (u1 : Int), .int .u64 (u2 : Int)] rfl
                have hba : Below Wc1.heap.size Wc1 (Wc1.alloc (.cells #[.int .u32 (u1 : Int), .int .u64 (u2 : Int)] 56)) := (Below.refl _ _).alloc (Nat.le_refl _) _
                have st4 := st3.far hba
                have hd4 := owns_below hd3 hba
                have hs4 := Nat.le_trans hs3 hba.size
                clear hba st3 hd3
                obtain ⟨i0, hi0, iz1, iz2, iz3⟩ := info_parts info_dtD
                go_wp2_with (at_builtin; refine wpl_append _ rfl (.tmp 100) (.tmp 102) _ rfl base2 56 i0 _ 2 16 Try.underlying29 hi0 iz1 iz2 iz3 rfl (by omega) (.slice dA z dc) z (lx.flatMap dtC) rfl hd4 (some ⟨Wc1.heap.size, 0, none⟩) 1 1 (dtC (u1, u2)) rfl rfl hl (one_dtD _) (by unfold maxLen; omega) (by omega) hs4 ?_)
                intro Aq cq Wd h1 h2 h3
                clear c0 c1 d14 hl iz1 iz2 iz3 hi0
                have hd5 : Wd.ownsRow base2 56 2 (.slice Aq (z + 1) cq) (z + 1) ((lx ++ [(u1, u2)]).flatMap dtC) := by rw [List.flatMap_append, List.flatMap_cons, List.flatMap_nil, List.append_nil]; exact h1
                have hkb : ∀ k, (Value.slice dA z dc).ownBlock = some k → base2 ≤ k := fun k hk => (hd4.lt k hk).1
                have how : Lown Wd base (⟨none, 0, 0, none, 0, 0, none, 0, 0, pA, q, pc, Aq, z + 1, cq⟩ : Lsl) (⟨5, lsn, epoch, 0, 0, 0, [], [], [], 0, 0, false, 0, xs, lx ++ [(u1, u2)]⟩ : Lrec) := ⟨Own.nil_ _ _, Own.nil_ _ _, Own.nil_ _ _, owns_apart st4.ow.p h2 hkb HPB.out, owns_base hd5 hb2, rfl, rfl, rfl, HLP.out, by rw [List.length_append, HLX.out]; rfl⟩
                have hs5 := Nat.le_trans hs4 h2.size
                obtain ⟨hx5, st5⟩ := st4.app h2 (fun k hk => Nat.le_trans hb2 (hkb k hk)) 14 (.slice Aq (z + 1) cq) (s' := (⟨5, lsn, epoch, 0, 0, 0, [], [], [], 0, 0, false, 0, xs, lx ++ [(u1, u2)]⟩ : Lrec)) (y' := (⟨none, 0, 0, none, 0, 0, none, 0, 0, pA, q, pc, Aq, z + 1, cq⟩ : Lsl)) rfl how
                have kx := hx5.frozen
                obtain ⟨d0, d1, d2, d3, d4, d5, d6, d7, d8, d9, d10, d11, d12, d13, d14⟩ := hx5.c15
                have hgs := grownBy_setCell Wd gx 14 (.slice Aq (z + 1) cq)
                have hd6 := owns_kept hd5 hgs ord2.2.2
                have HST := Lib.hid (And.intro st5 (And.intro hd6 (Nat.le_trans hs5 hgs.size)))
                clear d0 d1 d2 d3 d4 d5 d6 d7 d8 d9 d10 d11 d12 d13 hx5 how h1 h2 h3 st4 st5 hd5 hd6 hgs hs5 hs4 hd4 hkb hdO hsz2
                go_wp2
                go_roundw
                case rel => exact ⟨z + 1, cq, Aq, by go_num, by omega, by rw [HNX.out]; exact HST.out.1, by rw [HNX.out]; exact HST.out.2.1, HST.out.2.2⟩
                case measure => simp [RowKit.intOf]; omega
              · obtain rfl : z = kk := by omega
                rw [HQd.out] at hI
                dsimp only at hI
                have HI := Lib.hid hI
                clear hI hdO
                have hm2 := HM2.out
                have hcond : (¬ (z : Int) < (n2 : Int)) ∨ ((z : Int) < (n2 : Int) ∧ ¬ (z : Int) ≤ 64) := by omega
                clear hm2 HM2
                rcases hcond with hcond | ⟨hcond, hc64⟩
                · go_wp2
                  go_meet
                  case rel =>
                    have he := HE.out
                    injection he with he1 he2
                    subst he1 he2
                    exact ⟨_, HI.out⟩
                · go_wp2
                  go_meet
                  case rel =>
                    have he := HE.out
                    injection he with he1 he2
                    subst he1 he2
                    exact ⟨_, HI.out⟩
    have HE : Hid ((s', r') = (LogM.zr (kd : Int) lsn epoch, r3)) := Lib.hid (by rw [← HFK.out, LogM.gK_0 _ _ _ k1 k2 k3 k4 k5])
    obtain ⟨d0, d1, d2, d3, d4, d5, d6, d7, d8, d9, d10, d11, d12, d13, d14⟩ := hst.x.c15
    clear d1 d2 d3 d4 d5 d6 d7 d8 d9 d10 d11 d12 d13 d14
    go_wp2
    go_meet
    case rel =>
      have he := HE.out
      injection he with he1 he2
      subst he1 he2
      exact ⟨_, hst⟩
  case rest =>
    obtain ⟨y, hst⟩ := hcut
    go_upto_region 43 with fail
    refine wp_named fun a0 ha0 => ?_
    have z4 : a0.tmps.getD 4 undef = (.pointer (some ⟨gr, 0, none⟩)) := by rw [ha0.out]; rfl
    have z5 : a0.tmps.getD 5 undef = (.pointer (some ⟨gx, 0, none⟩)) := by rw [ha0.out]; rfl
    have z2 : a0.tmps.getD 2 undef = (.pointer (some ⟨gz, 0, none⟩)) := by rw [ha0.out]; rfl
    have hsz0 : a0.tmps.size = 109 := by rw [ha0.out]; rfl
    have HST := Lib.hid hst
    have HX : Hid (∀ (L : Nat → Bool) w1, w1 = (if L 4 = true then wc.drew.setRow gz #[.int .i64 s'.kind, .int .u64 (s'.lsn : Int), .int .u32 (s'.epoch : Int), .int .u64 (s'.txn : Int), .int .u32 (s'.page : Int), .int .u16 (s'.off : Int), .slice y.oA y.on y.oc, .slice y.nA y.nn y.nc, .slice y.uA y.un y.uc, .int .u64 (s'.prev : Int), .int .u64 (s'.next : Int), .bool s'.clr, .int .u64 (s'.stamp : Int), .slice y.pA y.pn y.pc, .slice y.dA y.dn y.dc] else wc.drew) → Blk w1 gx 31 #[.int .i64 s'.kind, .int .u64 (s'.lsn : Int), .int .u32 (s'.epoch : Int), .int .u64 (s'.txn : Int), .int .u32 (s'.page : Int), .int .u16 (s'.off : Int), .slice y.oA y.on y.oc, .slice y.nA y.nn y.nc, .slice y.uA y.un y.uc, .int .u64 (s'.prev : Int), .int .u64 (s'.next : Int), .bool s'.clr, .int .u64 (s'.stamp : Int), .slice y.pA y.pn y.pc, .slice y.dA y.dn y.dc]) := Lib.hid fun L w1 h => by
      obtain ⟨o1, o2, o3, o4, o5, o6, o7, o8, o9, o0⟩ := HST.out.ord
      rw [h]
      split
      · exact HST.out.x.drew.grown (grownBy_setRow _ _ _) (fun q => o9 (Option.some.inj q))
      · exact HST.out.x.drew
    have HC : Hid (∀ (L : Nat → Bool) w1, w1 = (if L 4 = true then wc.drew.setRow gz #[.int .i64 s'.kind, .int .u64 (s'.lsn : Int), .int .u32 (s'.epoch : Int), .int .u64 (s'.txn : Int), .int .u32 (s'.page : Int), .int .u16 (s'.off : Int), .slice y.oA y.on y.oc, .slice y.nA y.nn y.nc, .slice y.uA y.un y.uc, .int .u64 (s'.prev : Int), .int .u64 (s'.next : Int), .bool s'.clr, .int .u64 (s'.stamp : Int), .slice y.pA y.pn y.pc, .slice y.dA y.dn y.dc] else wc.drew) → w1.cell? ⟨gr, 1, none⟩ = some (.int .i64 (r'.e : Int))) := Lib.hid fun L w1 h => by
      obtain ⟨o1, o2, o3, o4, o5, o6, o7, o8, o9, o0⟩ := HST.out.ord
      obtain ⟨A1, n1, c1, hB, _⟩ := HST.out.rd
      rw [h]
      split
      · exact (hB.drew.grown (grownBy_setRow wc.drew gz #[.int .i64 s'.kind, .int .u64 (s'.lsn : Int), .int .u32 (s'.epoch : Int), .int .u64 (s'.txn : Int), .int .u32 (s'.page : Int), .int .u16 (s'.off : Int), .slice y.oA y.on y.oc, .slice y.nA y.nn y.nc, .slice y.uA y.un y.uc, .int .u64 (s'.prev : Int), .int .u64 (s'.next : Int), .bool s'.clr, .int .u64 (s'.stamp : Int), .slice y.pA y.pn y.pc, .slice y.dA y.dn y.dc]) (fun q => o8 (Option.some.inj q))).cell 1
      · exact hB.cell 1
    have HZ := Lib.hid (HST.out.z.drew)
    clear hst
    refine wp_region_invB _ (by kernel_rfl) (fun L a wv => PIF a0 [105, 106, 107, 108, 3] (fdsP s' r' y gr) L a ∧ wv = (if L 4 = true then wc.drew.setRow gz #[.int .i64 s'.kind, .int .u64 (s'.lsn : Int), .int .u32 (s'.epoch : Int), .int .u64 (s'.txn : Int), .int .u32 (s'.page : Int), .int .u16 (s'.off : Int), .slice y.oA y.on y.oc, .slice y.nA y.nn y.nc, .slice y.uA y.un y.uc, .int .u64 (s'.prev : Int), .int .u64 (s'.next : Int), .bool s'.clr, .int .u64 (s'.stamp : Int), .slice y.pA y.pn y.pc, .slice y.dA y.dn y.dc] else wc.drew)) (by kernel_rfl) ?_ ?_ ?_
    · exact ⟨PIF.start _ _ _, rfl⟩
    rotate_left
    · refine ⟨?_, ?_, ?_, ?_, ?_, ?_, trivial⟩
      · intro L a w1 hI hi hd
        have hp := hI.1
        have HW := Lib.hid hI.2
        clear hI
        have t5 := hp.at_ 5 _ rfl z5
        exact rstep_valW (wanted_none rfl _) (.agg #[.int .i64 s'.kind, .int .u64 (s'.lsn : Int), .int .u32 (s'.epoch : Int), .int .u64 (s'.txn : Int), .int .u32 (s'.page : Int), .int .u16 (s'.off : Int), .slice y.oA y.on y.oc, .slice y.nA y.nn y.nc, .slice y.uA y.un y.uc, .int .u64 (s'.prev : Int), .int .u64 (s'.next : Int), .bool s'.clr, .int .u64 (s'.stamp : Int), .slice y.pA y.pn y.pc, .slice y.dA y.dn y.dc]) w1 (exec_load_row _ (.tmp 5) rfl gx t5 _ _ _ (HX.out L w1 HW.out) Try.underlying31 rfl (by kernel_rfl)) ⟨hp.put 0 105 (.agg #[.int .i64 s'.kind, .int .u64 (s'.lsn : Int), .int .u32 (s'.epoch : Int), .int .u64 (s'.txn : Int), .int .u32 (s'.page : Int), .int .u16 (s'.off : Int), .slice y.oA y.on y.oc, .slice y.nA y.nn y.nc, .slice y.uA y.un y.uc, .int .u64 (s'.prev : Int), .int .u64 (s'.next : Int), .bool s'.clr, .int .u64 (s'.stamp : Int), .slice y.pA y.pn y.pc, .slice y.dA y.dn y.dc]) (by simp [fdsP]) (by simp [fdsP]) rfl (by rw [hsz0]; exact (by decide : 105 < 109)), by rw [upd_ne L (show (4 : Nat) ≠ 0 by decide)]; exact HW.out⟩
      · intro L a w1 hI hi hd
        have hp := hI.1
        have HW := Lib.hid hI.2
        clear hI
        have t4 := hp.at_ 4 _ rfl z4
        have t4' := t4
        rw [Array.getD_eq_getD_getElem?] at t4'
        exact rstep_valW (wanted_none rfl _) (.pointer (some ⟨gr, 1, none⟩)) w1 (by go_simp) ⟨hp.put 1 106 (.pointer (some ⟨gr, 1, none⟩)) (by simp [fdsP]) (by simp [fdsP]) rfl (by rw [hsz0]; exact (by decide : 106 < 109)), by rw [upd_ne L (show (4 : Nat) ≠ 1 by decide)]; exact HW.out⟩
      · intro L a w1 hI hi hd
        have hp := hI.1
        have HW := Lib.hid hI.2
        clear hI
        simp [Region.binds] at hd
        have e1 : a.tmps.getD 106 undef = (.pointer (some ⟨gr, 1, none⟩)) := hp.pu (1, 106, _) (by simp [fdsP]) (by simp [hd])
        have f1 := e1
        rw [Array.getD_eq_getD_getElem?] at f1
        have c1 := HC.out L w1 HW.out
        exact rstep_valW (wanted_none rfl _) (.int .i64 (r'.e : Int)) w1 (by go_simp) ⟨hp.put 2 107 (.int .i64 (r'.e : Int)) (by simp [fdsP]) (by simp [fdsP]) rfl (by rw [hsz0]; exact (by decide : 107 < 109)), by rw [upd_ne L (show (4 : Nat) ≠ 2 by decide)]; exact HW.out⟩
      · intro L a w1 hI hi hd
        have hp := hI.1
        have HW := Lib.hid hI.2
        clear hI
        simp [Region.binds] at hd
        have e1 : a.tmps.getD 107 undef = (.int .i64 (r'.e : Int)) := hp.pu (2, 107, _) (by simp [fdsP]) (by simp [hd])
        have f1 := e1
        rw [Array.getD_eq_getD_getElem?] at f1
        exact rstep_valW (wanted_none rfl _) (.bool ((r'.e : Int) == 0)) w1 (by go_simp) ⟨hp.put 3 108 (.bool ((r'.e : Int) == 0)) (by simp [fdsP]) (by simp [fdsP]) rfl (by rw [hsz0]; exact (by decide : 108 < 109)), by rw [upd_ne L (show (4 : Nat) ≠ 3 by decide)]; exact HW.out⟩
      · intro L a w1 hI hi hd
        have hp := hI.1
        have HW := Lib.hid hI.2
        clear hI
        have hi : L 4 = false := hi
        simp [Region.binds] at hd
        have e1 : a.tmps.getD 105 undef = (.agg #[.int .i64 s'.kind, .int .u64 (s'.lsn : Int), .int .u32 (s'.epoch : Int), .int .u64 (s'.txn : Int), .int .u32 (s'.page : Int), .int .u16 (s'.off : Int), .slice y.oA y.on y.oc, .slice y.nA y.nn y.nc, .slice y.uA y.un y.uc, .int .u64 (s'.prev : Int), .int .u64 (s'.next : Int), .bool s'.clr, .int .u64 (s'.stamp : Int), .slice y.pA y.pn y.pc, .slice y.dA y.dn y.dc]) := hp.pu (0, 105, _) (by simp [fdsP]) (by simp [hd])
        have t2 := hp.at_ 2 _ rfl z2
        have hw0 := HW.out
        rw [hi] at hw0
        have hw : w1 = wc.drew := hw0
        exact rstep_skip rfl (w1.setRow gz #[.int .i64 s'.kind, .int .u64 (s'.lsn : Int), .int .u32 (s'.epoch : Int), .int .u64 (s'.txn : Int), .int .u32 (s'.page : Int), .int .u16 (s'.off : Int), .slice y.oA y.on y.oc, .slice y.nA y.nn y.nc, .slice y.uA y.un y.uc, .int .u64 (s'.prev : Int), .int .u64 (s'.next : Int), .bool s'.clr, .int .u64 (s'.stamp : Int), .slice y.pA y.pn y.pc, .slice y.dA y.dn y.dc]) (exec_store_row _ (.tmp 2) (.tmp 105) rfl gz #[.int .i64 s'.kind, .int .u64 (s'.lsn : Int), .int .u32 (s'.epoch : Int), .int .u64 (s'.txn : Int), .int .u32 (s'.page : Int), .int .u16 (s'.off : Int), .slice y.oA y.on y.oc, .slice y.nA y.nn y.nc, .slice y.uA y.un y.uc, .int .u64 (s'.prev : Int), .int .u64 (s'.next : Int), .bool s'.clr, .int .u64 (s'.stamp : Int), .slice y.pA y.pn y.pc, .slice y.dA y.dn y.dc] t2 e1 31 #[.int .i64 0, .int .u64 0, .int .u32 0, .int .u64 0, .int .u32 0, .int .u16 0, .slice none 0 0, .slice none 0 0, .slice none 0 0, .int .u64 0, .int .u64 0, .bool false, .int .u64 0, .slice none 0 0, .slice none 0 0] (show Blk w1 gz 31 #[.int .i64 0, .int .u64 0, .int .u32 0, .int .u64 0, .int .u32 0, .int .u16 0, .slice none 0 0, .slice none 0 0, .slice none 0 0, .int .u64 0, .int .u64 0, .bool false, .int .u64 0, .slice none 0 0, .slice none 0 0] by rw [hw]; exact HZ.out) (by kernel_rfl) rfl (by simp [Value.oneCell'])) ⟨hp.skip 4 undef (by simp [fdsP]), by rw [upd_eq, hw]; rfl⟩
      · intro L a w1 hI hi hd
        have hp := hI.1
        have HW := Lib.hid hI.2
        clear hI
        simp [Region.binds] at hd
        have e1 : a.tmps.getD 108 undef = (.bool ((r'.e : Int) == 0)) := hp.pu (3, 108, _) (by simp [fdsP]) (by simp [hd])
        have f1 := e1
        rw [Array.getD_eq_getD_getElem?] at f1
        exact rstep_valW (wanted_none rfl _) (.bool ((r'.e : Int) == 0)) w1 (by go_simp) ⟨hp.put 5 3 (.bool ((r'.e : Int) == 0)) (by simp [fdsP]) (by simp [fdsP]) rfl (by rw [hsz0]; exact (by decide : 3 < 109)), by rw [upd_ne L (show (4 : Nat) ≠ 5 by decide)]; exact HW.out⟩
    rintro L a W ⟨hp, hw⟩ hL
    have e5 : a.tmps.getD 3 undef = (.bool ((r'.e : Int) == 0)) := hp.pu (5, 3, _) (by simp [fdsP]) (hL 5 (by simp))
    rw [hL 4 (by simp)] at hw
    have hW : W = wc.drew.setRow gz #[.int .i64 s'.kind, .int .u64 (s'.lsn : Int), .int .u32 (s'.epoch : Int), .int .u64 (s'.txn : Int), .int .u32 (s'.page : Int), .int .u16 (s'.off : Int), .slice y.oA y.on y.oc, .slice y.nA y.nn y.nc, .slice y.uA y.un y.uc, .int .u64 (s'.prev : Int), .int .u64 (s'.next : Int), .bool s'.clr, .int .u64 (s'.stamp : Int), .slice y.pA y.pn y.pc, .slice y.dA y.dn y.dc] := hw
    clear hw
    have hdr : Below w.heap.size w wc.drew := (⟨HST.out.bel.os, HST.out.bel.tape, HST.out.bel.output, HST.out.bel.size, HST.out.bel.block⟩ : Below w.heap.size w wc.drew)
    have HFIN : Hid (Blk W gz 31 #[.int .i64 s'.kind, .int .u64 (s'.lsn : Int), .int .u32 (s'.epoch : Int), .int .u64 (s'.txn : Int), .int .u32 (s'.page : Int), .int .u16 (s'.off : Int), .slice y.oA y.on y.oc, .slice y.nA y.nn y.nc, .slice y.uA y.un y.uc, .int .u64 (s'.prev : Int), .int .u64 (s'.next : Int), .bool s'.clr, .int .u64 (s'.stamp : Int), .slice y.pA y.pn y.pc, .slice y.dA y.dn y.dc] ∧ Lown W base y s' ∧ Below w.heap.size w W) := Lib.hid (by
      obtain ⟨o1, o2, o3, o4, o5, o6, o7, o8, o9, o0⟩ := HST.out.ord
      rw [hW]
      have hg := grownBy_setRow wc.drew gz #[.int .i64 s'.kind, .int .u64 (s'.lsn : Int), .int .u32 (s'.epoch : Int), .int .u64 (s'.txn : Int), .int .u32 (s'.page : Int), .int .u16 (s'.off : Int), .slice y.oA y.on y.oc, .slice y.nA y.nn y.nc, .slice y.uA y.un y.uc, .int .u64 (s'.prev : Int), .int .u64 (s'.next : Int), .bool s'.clr, .int .u64 (s'.stamp : Int), .slice y.pA y.pn y.pc, .slice y.dA y.dn y.dc]
      exact ⟨HZ.out.setRow_ _, (⟨HST.out.ow.o, HST.out.ow.n, HST.out.ow.u, HST.out.ow.p, HST.out.ow.d, HST.out.ow.lo, HST.out.ow.ln, HST.out.ow.lu, HST.out.ow.lp, HST.out.ow.ld⟩ : Lown wc.drew base y s').kept hg o6, below_grown hdr hg hdr.size o5⟩)
    have HB0 := Lib.hid HST.out.ord.2.2.2.2.2.2.2.2.2
    clear hW HX HC HZ HST hdr
    rw [hp.eq]
    refine of_assigns (P := Try.prog) _ _ _ _ ?_
    rw [ha0.out]
    simp only [asgs, List.map, e5]
    generalize a.tmps.getD 105 undef = u105
    generalize a.tmps.getD 106 undef = u106
    generalize a.tmps.getD 107 undef = u107
    generalize a.tmps.getD 108 undef = u108
    clear hp hL e5 ha0 z4 z5 z2 hsz0
    clear a0 a L
    go_wp2
    exact ret_cellD rfl gz #[.int .i64 s'.kind, .int .u64 (s'.lsn : Int), .int .u32 (s'.epoch : Int), .int .u64 (s'.txn : Int), .int .u32 (s'.page : Int), .int .u16 (s'.off : Int), .slice y.oA y.on y.oc, .slice y.nA y.nn y.nc, .slice y.uA y.un y.uc, .int .u64 (s'.prev : Int), .int .u64 (s'.next : Int), .bool s'.clr, .int .u64 (s'.stamp : Int), .slice y.pA y.pn y.pc, .slice y.dA y.dn y.dc] _ rfl HFIN.out.1 Try.underlying31 rfl (by kernel_rfl) rfl ⟨y, rfl, HFIN.out.2.1.base_ HB0.out, HFIN.out.2.2⟩
end Go.Proofs.Ytpgmhjjdnanlgaa
