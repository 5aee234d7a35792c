/-
  Whether two records are alike, by the program's word; lists longer than is looked at.
  Conditions: the lists lie in memory.
-/
import Derived.Test.YtpgmhjjdnanlgaaLogW3
namespace Go.Proofs.Ytpgmhjjdnanlgaa
open Go.RowKit Go.Sort Go.Lib
set_option linter.unusedVariables false
set_option linter.unusedSimpArgs false
set_option maxRecDepth 100000 in
set_option maxHeartbeats 4000000 in
theorem same_any (s t : Lrec) (y z : Lsl) (w : World) (hs : LogAt w y s) (ht : LogAt w z t) :
    Calls Try.prog 19 #[.agg #[.int .i64 s.kind, .int .u64 (s.lsn : Int), .int .u32 (s.epoch : Int), .int .u64 (s.txn : Int), .int .u32 (s.page : Int), .int .u16 (s.off : Int), .slice y.oA y.on y.oc, .slice y.nA y.nn y.nc, .slice y.uA y.un y.uc, .int .u64 (s.prev : Int), .int .u64 (s.next : Int), .bool s.clr, .int .u64 (s.stamp : Int), .slice y.pA y.pn y.pc, .slice y.dA y.dn y.dc], .agg #[.int .i64 t.kind, .int .u64 (t.lsn : Int), .int .u32 (t.epoch : Int), .int .u64 (t.txn : Int), .int .u32 (t.page : Int), .int .u16 (t.off : Int), .slice z.oA z.on z.oc, .slice z.nA z.nn z.nc, .slice z.uA z.un z.uc, .int .u64 (t.prev : Int), .int .u64 (t.next : Int), .bool t.clr, .int .u64 (t.stamp : Int), .slice z.pA z.pn z.pc, .slice z.dA z.dn z.dc]] w (BoolPost (s = t) w) := by
  have HS := Lib.hid hs
  have HT := Lib.hid ht
  clear hs ht
  obtain ⟨kind, lsn, epoch, txn, page, off, old, new, undo, prev, next, clr, stamp, opn, dirty⟩ := s
  obtain ⟨oA, on, oc, nA, nn, nc, uA, un, uc, pA, pn, pc, dA, dn, dc⟩ := y
  obtain ⟨kind2, lsn2, epoch2, txn2, page2, off2, old2, new2, undo2, prev2, next2, clr2, stamp2, opn2, dirty2⟩ := t
  obtain ⟨oA2, on2, oc2, nA2, nn2, nc2, uA2, un2, uc2, pA2, pn2, pc2, dA2, dn2, dc2⟩ := z
  have HP : Hid (pn ≤ 9223372036854775807 ∧ dn ≤ 9223372036854775807) := Lib.hid ⟨by have := HS.out.cp; unfold maxLen at this; simp only at this; omega, by have := HS.out.cd; unfold maxLen at this; simp only at this; omega⟩
  go_enter Try.func19, Try.ntmps19
  have hx0 := (Blk.new w 31 #[.int .i64 kind, .int .u64 (lsn : Int), .int .u32 (epoch : Int), .int .u64 (txn : Int), .int .u32 (page : Int), .int .u16 (off : Int), .slice oA on oc, .slice nA nn nc, .slice uA un uc, .int .u64 (prev : Int), .int .u64 (next : Int), .bool clr, .int .u64 (stamp : Int), .slice pA pn pc, .slice dA dn dc]).alloc (.cells #[.int .i64 kind2, .int .u64 (lsn2 : Int), .int .u32 (epoch2 : Int), .int .u64 (txn2 : Int), .int .u32 (page2 : Int), .int .u16 (off2 : Int), .slice oA2 on2 oc2, .slice nA2 nn2 nc2, .slice uA2 un2 uc2, .int .u64 (prev2 : Int), .int .u64 (next2 : Int), .bool clr2, .int .u64 (stamp2 : Int), .slice pA2 pn2 pc2, .slice dA2 dn2 dc2] 31)
  have hy0 : Blk ((w.alloc (.cells #[.int .i64 kind, .int .u64 (lsn : Int), .int .u32 (epoch : Int), .int .u64 (txn : Int), .int .u32 (page : Int), .int .u16 (off : Int), .slice oA on oc, .slice nA nn nc, .slice uA un uc, .int .u64 (prev : Int), .int .u64 (next : Int), .bool clr, .int .u64 (stamp : Int), .slice pA pn pc, .slice dA dn dc] 31)).alloc (.cells #[.int .i64 kind2, .int .u64 (lsn2 : Int), .int .u32 (epoch2 : Int), .int .u64 (txn2 : Int), .int .u32 (page2 : Int), .int .u16 (off2 : Int), .slice oA2 on2 oc2, .slice nA2 nn2 nc2, .slice uA2 un2 uc2, .int .u64 (prev2 : Int), .int .u64 (next2 : Int), .bool clr2, .int .u64 (stamp2 : Int), .slice pA2 pn2 pc2, .slice dA2 dn2 dc2] 31)) (w.heap.size + 1) 31 #[.int .i64 kind2, .int .u64 (lsn2 : Int), .int .u32 (epoch2 : Int), .int .u64 (txn2 : Int), .int .u32 (page2 : Int), .int .u16 (off2 : Int), .slice oA2 on2 oc2, .slice nA2 nn2 nc2, .slice uA2 un2 uc2, .int .u64 (prev2 : Int), .int .u64 (next2 : Int), .bool clr2, .int .u64 (stamp2 : Int), .slice pA2 pn2 pc2, .slice dA2 dn2 dc2] := by
    have := Blk.new (w.alloc (.cells #[.int .i64 kind, .int .u64 (lsn : Int), .int .u32 (epoch : Int), .int .u64 (txn : Int), .int .u32 (page : Int), .int .u16 (off : Int), .slice oA on oc, .slice nA nn nc, .slice uA un uc, .int .u64 (prev : Int), .int .u64 (next : Int), .bool clr, .int .u64 (stamp : Int), .slice pA pn pc, .slice dA dn dc] 31)) 31 #[.int .i64 kind2, .int .u64 (lsn2 : Int), .int .u32 (epoch2 : Int), .int .u64 (txn2 : Int), .int .u32 (page2 : Int), .int .u16 (off2 : Int), .slice oA2 on2 oc2, .slice nA2 nn2 nc2, .slice uA2 un2 uc2, .int .u64 (prev2 : Int), .int .u64 (next2 : Int), .bool clr2, .int .u64 (stamp2 : Int), .slice pA2 pn2 pc2, .slice dA2 dn2 dc2]
    simpa using this
  have hB0 : Below w.heap.size w ((w.alloc (.cells #[.int .i64 kind, .int .u64 (lsn : Int), .int .u32 (epoch : Int), .int .u64 (txn : Int), .int .u32 (page : Int), .int .u16 (off : Int), .slice oA on oc, .slice nA nn nc, .slice uA un uc, .int .u64 (prev : Int), .int .u64 (next : Int), .bool clr, .int .u64 (stamp : Int), .slice pA pn pc, .slice dA dn dc] 31)).alloc (.cells #[.int .i64 kind2, .int .u64 (lsn2 : Int), .int .u32 (epoch2 : Int), .int .u64 (txn2 : Int), .int .u32 (page2 : Int), .int .u16 (off2 : Int), .slice oA2 on2 oc2, .slice nA2 nn2 nc2, .slice uA2 un2 uc2, .int .u64 (prev2 : Int), .int .u64 (next2 : Int), .bool clr2, .int .u64 (stamp2 : Int), .slice pA2 pn2 pc2, .slice dA2 dn2 dc2] 31)) := ((Below.refl w.heap.size w).alloc (Nat.le_refl _) _).alloc (by simp) _
  go_upto_region 1 with fail
  generalize (w.alloc (.cells #[.int .i64 kind, .int .u64 (lsn : Int), .int .u32 (epoch : Int), .int .u64 (txn : Int), .int .u32 (page : Int), .int .u16 (off : Int), .slice oA on oc, .slice nA nn nc, .slice uA un uc, .int .u64 (prev : Int), .int .u64 (next : Int), .bool clr, .int .u64 (stamp : Int), .slice pA pn pc, .slice dA dn dc] 31)).alloc (.cells #[.int .i64 kind2, .int .u64 (lsn2 : Int), .int .u32 (epoch2 : Int), .int .u64 (txn2 : Int), .int .u32 (page2 : Int), .int .u16 (off2 : Int), .slice oA2 on2 oc2, .slice nA2 nn2 nc2, .slice uA2 un2 uc2, .int .u64 (prev2 : Int), .int .u64 (next2 : Int), .bool clr2, .int .u64 (stamp2 : Int), .slice pA2 pn2 pc2, .slice dA2 dn2 dc2] 31) = V0 at *
  obtain ⟨g, hg⟩ : ∃ g, w.heap.size = g := ⟨_, rfl⟩
  obtain ⟨k, hk⟩ : ∃ k, w.heap.size + 1 = k := ⟨_, rfl⟩
  rw [hg] at hx0
  rw [hk] at hy0
  simp only [hg, hk]
  rw [hg] at hk
  clear hg
  obtain ⟨d0, d1, d2, d3, d4, d5, d6, d7, d8, d9, d10, d11, d12, d13, d14⟩ := hx0.c15
  obtain ⟨e0, e1, e2, e3, e4, e5, e6, e7, e8, e9, e10, e11, e12, e13, e14⟩ := hy0.c15
  have hq := equal8_any oA oA2 on on2 oc oc2 old old2 V0 (HS.out.below hB0).ro HS.out.lo (HT.out.below hB0).ro HT.out.lo
  by_cases q0 : old = old2
  rotate_left
  · rw [decide_eq_false q0] at hq
    have HQ := Lib.hid hq
    clear hq
    go_wp2_with fail
    refine HQ.out.mono ?_
    rintro e V1 ⟨rfl, rfl⟩
    go_wp2
    go_ret
    exact BoolPost.no (fun q => q0 (congrArg Lrec.old q)) hB0
  rw [decide_eq_true q0] at hq
  have HQ0 := Lib.hid q0
  have HQ := Lib.hid hq
  clear hq q0
  go_wp2_with fail
  refine HQ.out.mono ?_
  rintro e V1 ⟨rfl, rfl⟩
  clear HQ
  have hq := equal8_any nA nA2 nn nn2 nc nc2 new new2 V0 (HS.out.below hB0).rn HS.out.ln (HT.out.below hB0).rn HT.out.ln
  by_cases q1 : new = new2
  rotate_left
  · rw [decide_eq_false q1] at hq
    have HQ := Lib.hid hq
    clear hq
    go_wp2_with fail
    refine HQ.out.mono ?_
    rintro e V1 ⟨rfl, rfl⟩
    go_wp2
    go_ret
    exact BoolPost.no (fun q => q1 (congrArg Lrec.new q)) hB0
  rw [decide_eq_true q1] at hq
  have HQ1 := Lib.hid q1
  have HQ := Lib.hid hq
  clear hq q1
  go_wp2_with fail
  refine HQ.out.mono ?_
  rintro e V1 ⟨rfl, rfl⟩
  clear HQ
  have hq := equal8_any uA uA2 un un2 uc uc2 undo undo2 V0 (HS.out.below hB0).ru HS.out.lu (HT.out.below hB0).ru HT.out.lu
  by_cases q2 : undo = undo2
  rotate_left
  · rw [decide_eq_false q2] at hq
    have HQ := Lib.hid hq
    clear hq
    go_wp2_with fail
    refine HQ.out.mono ?_
    rintro e V1 ⟨rfl, rfl⟩
    go_wp2
    go_ret
    exact BoolPost.no (fun q => q2 (congrArg Lrec.undo q)) hB0
  rw [decide_eq_true q2] at hq
  have HQ2 := Lib.hid q2
  have HQ := Lib.hid hq
  clear hq q2
  go_wp2_with fail
  refine HQ.out.mono ?_
  rintro e V1 ⟨rfl, rfl⟩
  clear HQ
  have hq := equalC_any pA pA2 pn pn2 pc pc2 opn opn2 V0 (HS.out.below hB0).rp HS.out.lp (HT.out.below hB0).rp HT.out.lp HP.out.1
  have HQ := Lib.hid hq
  have HB0 := Lib.hid hB0
  clear hq hB0
  go_wp2_with fail
  refine HQ.out.mono ?_
  rintro e V1 ⟨r, rfl, HR, hb⟩
  clear HQ d0 d1 d2 d3 d4 d5 d6 d7 d8 d9 d10 d11 d12 d13 d14 e0 e1 e2 e3 e4 e5 e6 e7 e8 e9 e10 e11 e12 e13 e14
  have hx1 := hx0.below hb hx0.lt
  have hy1 := hy0.below hb hy0.lt
  have hB1 := below_step HB0.out hb (Nat.le_refl _)
  clear hb hx0 hy0 HB0
  cases r with
  | false =>
    go_wp2
    go_ret
    exact BoolPost.no (fun q => by have := HR.out.2 (congrArg Lrec.opn q); cases this) hB1
  | true =>
  have HQ3 := Lib.hid (HR.out.1 (by trivial))
  clear HR
  obtain ⟨d0, d1, d2, d3, d4, d5, d6, d7, d8, d9, d10, d11, d12, d13, d14⟩ := hx1.c15
  obtain ⟨e0, e1, e2, e3, e4, e5, e6, e7, e8, e9, e10, e11, e12, e13, e14⟩ := hy1.c15
  have hq := equalD_any dA dA2 dn dn2 dc dc2 dirty dirty2 V1 (HS.out.below hB1).rd HS.out.ld (HT.out.below hB1).rd HT.out.ld HP.out.2
  have HQ := Lib.hid hq
  have HB1 := Lib.hid hB1
  clear hq hB1
  go_wp2_with fail
  refine HQ.out.mono ?_
  rintro e V2 ⟨r, rfl, HR, hb⟩
  clear HQ d0 d1 d2 d3 d4 d5 d6 d7 d8 d9 d10 d11 d12 d13 d14 e0 e1 e2 e3 e4 e5 e6 e7 e8 e9 e10 e11 e12 e13 e14
  have hx2 := hx1.below hb hx1.lt
  have hy2 := hy1.below hb hy1.lt
  have hB2 := below_step HB1.out hb (Nat.le_refl _)
  clear hb hx1 hy1 HB1
  cases r with
  | false =>
    go_wp2
    go_ret
    exact BoolPost.no (fun q => by have := HR.out.2 (congrArg Lrec.dirty q); cases this) hB2
  | true =>
  have HQ4 := Lib.hid (HR.out.1 (by trivial))
  clear HR
  obtain ⟨d0, d1, d2, d3, d4, d5, d6, d7, d8, d9, d10, d11, d12, d13, d14⟩ := hx2.c15
  obtain ⟨e0, e1, e2, e3, e4, e5, e6, e7, e8, e9, e10, e11, e12, e13, e14⟩ := hy2.c15
  have h0 := HQ0.out
  have h1 := HQ1.out
  have h2 := HQ2.out
  have h3 := HQ3.out
  have h4 := HQ4.out
  subst h0 h1 h2 h3 h4
  clear HQ0 HQ1 HQ2 HQ3 HQ4
  go_wp2
  all_goals go_ret
  all_goals clear d0 d1 d2 d3 d4 d5 d6 d7 d8 d9 d10 d11 d12 d13 d14 e0 e1 e2 e3 e4 e5 e6 e7 e8 e9 e10 e11 e12 e13 e14 hx2 hy2 HS HT HP
  all_goals first
    | exact BoolPost.no (fun q => by simp only [Lrec.mk.injEq] at q; simp_all) hB2
    | exact ⟨_, rfl, Lib.hid (by simp only [Lrec.mk.injEq, decide_eq_true_iff, beq_iff_eq]; exact ⟨fun q => ⟨by omega, by omega, by omega, by omega, by omega, by omega, by trivial, by trivial, by trivial, by omega, by omega, by assumption, by omega, by trivial, by trivial⟩, fun q => by obtain ⟨_, _, _, _, _, _, _, _, _, _, _, _, h, _⟩ := q; omega⟩), hB2⟩
def Large (y : Lsl) : Prop := 2000 < y.on ∨ 2000 < y.nn ∨ 2000 < y.un ∨ 2000 < y.pn ∨ 2000 < y.dn
set_option maxRecDepth 100000 in
set_option maxHeartbeats 4000000 in
theorem large_any (s : Lrec) (y : Lsl) (w : World) (hs : LogAt w y s) :
    Calls Try.prog 12 #[.agg #[.int .i64 s.kind, .int .u64 (s.lsn : Int), .int .u32 (s.epoch : Int), .int .u64 (s.txn : Int), .int .u32 (s.page : Int), .int .u16 (s.off : Int), .slice y.oA y.on y.oc, .slice y.nA y.nn y.nc, .slice y.uA y.un y.uc, .int .u64 (s.prev : Int), .int .u64 (s.next : Int), .bool s.clr, .int .u64 (s.stamp : Int), .slice y.pA y.pn y.pc, .slice y.dA y.dn y.dc]] w (BoolPost (Large y) w) := by
  clear hs
  obtain ⟨kind, lsn, epoch, txn, page, off, old, new, undo, prev, next, clr, stamp, opn, dirty⟩ := s
  obtain ⟨oA, on, oc, nA, nn, nc, uA, un, uc, pA, pn, pc, dA, dn, dc⟩ := y
  go_enter Try.func12, Try.ntmps12
  have hx0 := Blk.new w 31 #[.int .i64 kind, .int .u64 (lsn : Int), .int .u32 (epoch : Int), .int .u64 (txn : Int), .int .u32 (page : Int), .int .u16 (off : Int), .slice oA on oc, .slice nA nn nc, .slice uA un uc, .int .u64 (prev : Int), .int .u64 (next : Int), .bool clr, .int .u64 (stamp : Int), .slice pA pn pc, .slice dA dn dc]
  have hB0 : Below w.heap.size w (w.alloc (.cells #[.int .i64 kind, .int .u64 (lsn : Int), .int .u32 (epoch : Int), .int .u64 (txn : Int), .int .u32 (page : Int), .int .u16 (off : Int), .slice oA on oc, .slice nA nn nc, .slice uA un uc, .int .u64 (prev : Int), .int .u64 (next : Int), .bool clr, .int .u64 (stamp : Int), .slice pA pn pc, .slice dA dn dc] 31)) := (Below.refl w.heap.size w).alloc (Nat.le_refl _) _
  go_upto_region 1 with fail
  generalize w.alloc (.cells #[.int .i64 kind, .int .u64 (lsn : Int), .int .u32 (epoch : Int), .int .u64 (txn : Int), .int .u32 (page : Int), .int .u16 (off : Int), .slice oA on oc, .slice nA nn nc, .slice uA un uc, .int .u64 (prev : Int), .int .u64 (next : Int), .bool clr, .int .u64 (stamp : Int), .slice pA pn pc, .slice dA dn dc] 31) = V0 at *
  obtain ⟨g, hg⟩ : ∃ g, w.heap.size = g := ⟨_, rfl⟩
  rw [hg] at hx0
  simp only [hg]
  clear hg
  obtain ⟨d0, d1, d2, d3, d4, d5, d6, d7, d8, d9, d10, d11, d12, d13, d14⟩ := hx0.c15
  by_cases c0 : 2000 < on
  · go_wp2
    go_ret
    exact BoolPost.yes' (p := Large ⟨oA, on, oc, nA, nn, nc, uA, un, uc, pA, pn, pc, dA, dn, dc⟩) (.inl c0) hB0 (by simp; try omega)
  by_cases c1 : 2000 < nn
  · go_wp2
    go_ret
    exact BoolPost.yes' (p := Large ⟨oA, on, oc, nA, nn, nc, uA, un, uc, pA, pn, pc, dA, dn, dc⟩) (.inr (.inl c1)) hB0 (by simp; try omega)
  by_cases c2 : 2000 < un
  · go_wp2
    go_ret
    exact BoolPost.yes' (p := Large ⟨oA, on, oc, nA, nn, nc, uA, un, uc, pA, pn, pc, dA, dn, dc⟩) (.inr (.inr (.inl c2))) hB0 (by simp; try omega)
  by_cases c3 : 2000 < pn
  · go_wp2
    go_ret
    exact BoolPost.yes' (p := Large ⟨oA, on, oc, nA, nn, nc, uA, un, uc, pA, pn, pc, dA, dn, dc⟩) (.inr (.inr (.inr (.inl c3)))) hB0 (by simp; try omega)
  by_cases c4 : 2000 < dn
  · go_wp2
    go_ret
    exact BoolPost.yes' (p := Large ⟨oA, on, oc, nA, nn, nc, uA, un, uc, pA, pn, pc, dA, dn, dc⟩) (.inr (.inr (.inr (.inr (c4))))) hB0 (by simp; try omega)
  go_wp2
  go_ret
  exact BoolPost.no' (p := Large ⟨oA, on, oc, nA, nn, nc, uA, un, uc, pA, pn, pc, dA, dn, dc⟩) (fun q => by rcases q with q | q | q | q | q <;> simp only at q <;> omega) hB0 (by simp; try omega)
end Go.Proofs.Ytpgmhjjdnanlgaa
