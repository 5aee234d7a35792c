/-
  Whether two records are alike, by the document's word.
  Conditions: the lists lie in memory.
-/
import Derived.Test.YtpgmhjjdnanlgaaLogW3
namespace Go.Proofs.Ytpgmhjjdnanlgaa
open Go.RowKit Go.Sort Go.Lib
set_option linter.unusedVariables false
set_option linter.unusedSimpArgs false
theorem bne_nat {a b : Nat} (h : ((a : Int) != (b : Int)) = false) : a = b := by
  have : (a : Int) = (b : Int) := by simpa using h
  omega
set_option maxRecDepth 100000 in
set_option maxHeartbeats 16000000 in
theorem rsame_no (s t : Lrec) (y z : Lsl) (w : World) (hs : LogAt w y s) (ht : LogAt w z t)
    (hE : ¬ (s.kind = t.kind ∧ s.lsn = t.lsn ∧ s.epoch = t.epoch ∧ s.txn = t.txn ∧ s.page = t.page ∧ s.off = t.off ∧ s.prev = t.prev ∧ s.next = t.next ∧ s.clr = t.clr ∧ s.stamp = t.stamp ∧ s.old = t.old ∧ s.new = t.new ∧ s.undo = t.undo ∧ y.pn = z.pn ∧ y.dn = z.dn)) :
    Calls Try.prog 11 #[.agg #[.int .i64 s.kind, .int .u64 (s.lsn : Int), .int .u32 (s.epoch : Int), .int .u64 (s.txn : Int), .int .u32 (s.page : Int), .int .u16 (s.off : Int), .slice y.oA y.on y.oc, .slice y.nA y.nn y.nc, .slice y.uA y.un y.uc, .int .u64 (s.prev : Int), .int .u64 (s.next : Int), .bool s.clr, .int .u64 (s.stamp : Int), .slice y.pA y.pn y.pc, .slice y.dA y.dn y.dc], .agg #[.int .i64 t.kind, .int .u64 (t.lsn : Int), .int .u32 (t.epoch : Int), .int .u64 (t.txn : Int), .int .u32 (t.page : Int), .int .u16 (t.off : Int), .slice z.oA z.on z.oc, .slice z.nA z.nn z.nc, .slice z.uA z.un z.uc, .int .u64 (t.prev : Int), .int .u64 (t.next : Int), .bool t.clr, .int .u64 (t.stamp : Int), .slice z.pA z.pn z.pc, .slice z.dA z.dn z.dc]] w (BoolPost (s = t) w) := by
  have HS := Lib.hid hs
  have HT := Lib.hid ht
  have HNE : Hid (¬ s = t) := Lib.hid fun q => hE (by
    refine ⟨congrArg Lrec.kind q, congrArg Lrec.lsn q, congrArg Lrec.epoch q, congrArg Lrec.txn q, congrArg Lrec.page q, congrArg Lrec.off q, congrArg Lrec.prev q, congrArg Lrec.next q, congrArg Lrec.clr q, congrArg Lrec.stamp q, congrArg Lrec.old q, congrArg Lrec.new q, congrArg Lrec.undo q, ?_, ?_⟩
    · rw [← hs.lp, ← ht.lp, q]
    · rw [← hs.ld, ← ht.ld, q])
  have HE := Lib.hid hE
  clear hs ht hE
  obtain ⟨kind, lsn, epoch, txn, page, off, old, new, undo, prev, next, clr, stamp, opn, dirty⟩ := s
  obtain ⟨oA, on, oc, nA, nn, nc, uA, un, uc, pA, pn, pc, dA, dn, dc⟩ := y
  obtain ⟨kind2, lsn2, epoch2, txn2, page2, off2, old2, new2, undo2, prev2, next2, clr2, stamp2, opn2, dirty2⟩ := t
  obtain ⟨oA2, on2, oc2, nA2, nn2, nc2, uA2, un2, uc2, pA2, pn2, pc2, dA2, dn2, dc2⟩ := z
  dsimp only at HE
  go_enter Try.func11, Try.ntmps11
  have hx0 := (Blk.new w 31 #[.int .i64 kind, .int .u64 (lsn : Int), .int .u32 (epoch : Int), .int .u64 (txn : Int), .int .u32 (page : Int), .int .u16 (off : Int), .slice oA on oc, .slice nA nn nc, .slice uA un uc, .int .u64 (prev : Int), .int .u64 (next : Int), .bool clr, .int .u64 (stamp : Int), .slice pA pn pc, .slice dA dn dc]).alloc (.cells #[.int .i64 kind2, .int .u64 (lsn2 : Int), .int .u32 (epoch2 : Int), .int .u64 (txn2 : Int), .int .u32 (page2 : Int), .int .u16 (off2 : Int), .slice oA2 on2 oc2, .slice nA2 nn2 nc2, .slice uA2 un2 uc2, .int .u64 (prev2 : Int), .int .u64 (next2 : Int), .bool clr2, .int .u64 (stamp2 : Int), .slice pA2 pn2 pc2, .slice dA2 dn2 dc2] 31)
  have hy0 : Blk ((w.alloc (.cells #[.int .i64 kind, .int .u64 (lsn : Int), .int .u32 (epoch : Int), .int .u64 (txn : Int), .int .u32 (page : Int), .int .u16 (off : Int), .slice oA on oc, .slice nA nn nc, .slice uA un uc, .int .u64 (prev : Int), .int .u64 (next : Int), .bool clr, .int .u64 (stamp : Int), .slice pA pn pc, .slice dA dn dc] 31)).alloc (.cells #[.int .i64 kind2, .int .u64 (lsn2 : Int), .int .u32 (epoch2 : Int), .int .u64 (txn2 : Int), .int .u32 (page2 : Int), .int .u16 (off2 : Int), .slice oA2 on2 oc2, .slice nA2 nn2 nc2, .slice uA2 un2 uc2, .int .u64 (prev2 : Int), .int .u64 (next2 : Int), .bool clr2, .int .u64 (stamp2 : Int), .slice pA2 pn2 pc2, .slice dA2 dn2 dc2] 31)) (w.heap.size + 1) 31 #[.int .i64 kind2, .int .u64 (lsn2 : Int), .int .u32 (epoch2 : Int), .int .u64 (txn2 : Int), .int .u32 (page2 : Int), .int .u16 (off2 : Int), .slice oA2 on2 oc2, .slice nA2 nn2 nc2, .slice uA2 un2 uc2, .int .u64 (prev2 : Int), .int .u64 (next2 : Int), .bool clr2, .int .u64 (stamp2 : Int), .slice pA2 pn2 pc2, .slice dA2 dn2 dc2] := by
    have := Blk.new (w.alloc (.cells #[.int .i64 kind, .int .u64 (lsn : Int), .int .u32 (epoch : Int), .int .u64 (txn : Int), .int .u32 (page : Int), .int .u16 (off : Int), .slice oA on oc, .slice nA nn nc, .slice uA un uc, .int .u64 (prev : Int), .int .u64 (next : Int), .bool clr, .int .u64 (stamp : Int), .slice pA pn pc, .slice dA dn dc] 31)) 31 #[.int .i64 kind2, .int .u64 (lsn2 : Int), .int .u32 (epoch2 : Int), .int .u64 (txn2 : Int), .int .u32 (page2 : Int), .int .u16 (off2 : Int), .slice oA2 on2 oc2, .slice nA2 nn2 nc2, .slice uA2 un2 uc2, .int .u64 (prev2 : Int), .int .u64 (next2 : Int), .bool clr2, .int .u64 (stamp2 : Int), .slice pA2 pn2 pc2, .slice dA2 dn2 dc2]
    simpa using this
  have hB0 : Below w.heap.size w ((w.alloc (.cells #[.int .i64 kind, .int .u64 (lsn : Int), .int .u32 (epoch : Int), .int .u64 (txn : Int), .int .u32 (page : Int), .int .u16 (off : Int), .slice oA on oc, .slice nA nn nc, .slice uA un uc, .int .u64 (prev : Int), .int .u64 (next : Int), .bool clr, .int .u64 (stamp : Int), .slice pA pn pc, .slice dA dn dc] 31)).alloc (.cells #[.int .i64 kind2, .int .u64 (lsn2 : Int), .int .u32 (epoch2 : Int), .int .u64 (txn2 : Int), .int .u32 (page2 : Int), .int .u16 (off2 : Int), .slice oA2 on2 oc2, .slice nA2 nn2 nc2, .slice uA2 un2 uc2, .int .u64 (prev2 : Int), .int .u64 (next2 : Int), .bool clr2, .int .u64 (stamp2 : Int), .slice pA2 pn2 pc2, .slice dA2 dn2 dc2] 31)) := ((Below.refl w.heap.size w).alloc (Nat.le_refl _) _).alloc (by simp) _
  go_upto_region 1 with fail
  generalize (w.alloc (.cells #[.int .i64 kind, .int .u64 (lsn : Int), .int .u32 (epoch : Int), .int .u64 (txn : Int), .int .u32 (page : Int), .int .u16 (off : Int), .slice oA on oc, .slice nA nn nc, .slice uA un uc, .int .u64 (prev : Int), .int .u64 (next : Int), .bool clr, .int .u64 (stamp : Int), .slice pA pn pc, .slice dA dn dc] 31)).alloc (.cells #[.int .i64 kind2, .int .u64 (lsn2 : Int), .int .u32 (epoch2 : Int), .int .u64 (txn2 : Int), .int .u32 (page2 : Int), .int .u16 (off2 : Int), .slice oA2 on2 oc2, .slice nA2 nn2 nc2, .slice uA2 un2 uc2, .int .u64 (prev2 : Int), .int .u64 (next2 : Int), .bool clr2, .int .u64 (stamp2 : Int), .slice pA2 pn2 pc2, .slice dA2 dn2 dc2] 31) = V0 at *
  obtain ⟨g, hg⟩ : ∃ g, w.heap.size = g := ⟨_, rfl⟩
  obtain ⟨k, hk⟩ : ∃ k, w.heap.size + 1 = k := ⟨_, rfl⟩
  rw [hg] at hx0
  rw [hk] at hy0
  simp only [hg, hk]
  rw [hg] at hk
  clear hg
  have hS0 := HS.out.below hB0
  have hT0 := HT.out.below hB0
  have hdd := hx0.c15
  have hee := hy0.c15
  obtain ⟨d0, d1, d2, d3, d4, d5, d6, d7, d8, d9, d10, d11, d12, d13, d14⟩ := hdd
  obtain ⟨e0, e1, e2, e3, e4, e5, e6, e7, e8, e9, e10, e11, e12, e13, e14⟩ := hee
  have s1 := str_len _ oA on oc old hS0.lo hS0.ro
  have s2 := str_len _ oA2 on2 oc2 old2 hT0.lo hT0.ro
  have s3 := str_len _ nA nn nc new hS0.ln hS0.rn
  have s4 := str_len _ nA2 nn2 nc2 new2 hT0.ln hT0.rn
  have s5 := str_len _ uA un uc undo hS0.lu hS0.ru
  have s6 := str_len _ uA2 un2 uc2 undo2 hT0.lu hT0.ru
  have b1 := str_beq old old2
  have b2 := str_beq new new2
  have b3 := str_beq undo undo2
  clear hx0 hy0 hS0 hT0
  go_upto_region 5 with fail
  all_goals first
    | (go_ret
       exact BoolPost.no HNE.out hB0)
    | (exfalso
       exact HE.out ⟨by omega, by omega, by omega, by omega, by omega, by omega, by omega, by omega, by assumption, by first | omega | exact bne_nat (by assumption), by assumption, by assumption, by assumption, by omega, by first | omega | exact bne_nat (by assumption)⟩)
    | (go_wp2
       go_ret
       exact BoolPost.no HNE.out hB0)
end Go.Proofs.Ytpgmhjjdnanlgaa
