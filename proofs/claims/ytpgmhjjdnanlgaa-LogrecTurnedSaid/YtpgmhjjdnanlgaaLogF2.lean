/-
  The program's bytes of a record, and how many they are.
  Conditions: its lists lie in memory.
-/
import Derived.Test.YtpgmhjjdnanlgaaLogF1
namespace Go.Proofs.Ytpgmhjjdnanlgaa
open Go.RowKit Go.Sort Go.Lib
set_option linter.unusedVariables false
set_option linter.unusedSimpArgs false
/-- What the program's Bytes hands back: the form, or that it may not be. -/
def BytesPost (s : Lrec) (w : World) (e : Ending) (w' : World) : Prop := (LogM.May s ∧ ∃ A n c, e = .returned (.tuple #[.slice A n c, .int .i64 0]) ∧ Hid ((LogM.form s).length = n) ∧ Own w' w.heap.size A c (LogM.form s) ∧ Below w.heap.size w w') ∨
  (¬ LogM.May s ∧ e = .returned (.tuple #[.slice none 0 0, .int .i64 2]) ∧ Below w.heap.size w w')
set_option maxRecDepth 100000 in
set_option maxHeartbeats 4000000 in
theorem bytes_any (s : Lrec) (y : Lsl) (w : World) (hs : LogAt w y s) :
    Calls Try.prog 14 #[.agg #[.int .i64 s.kind, .int .u64 (s.lsn : Int), .int .u32 (s.epoch : Int), .int .u64 (s.txn : Int), .int .u32 (s.page : Int), .int .u16 (s.off : Int), .slice y.oA y.on y.oc, .slice y.nA y.nn y.nc, .slice y.uA y.un y.uc, .int .u64 (s.prev : Int), .int .u64 (s.next : Int), .bool s.clr, .int .u64 (s.stamp : Int), .slice y.pA y.pn y.pc, .slice y.dA y.dn y.dc]] w (BytesPost s w) := by
  have HS0 := Lib.hid hs
  clear hs
  obtain ⟨kind, lsn, epoch, txn, page, off, old, new, undo, prev, next, clr, stamp, opn, dirty⟩ := s
  obtain ⟨oA, on, oc, nA, nn, nc, uA, un, uc, pA, pn, pc, dA, dn, dc⟩ := y
  go_enter Try.func14, Try.ntmps14
  have hx := Blk.new w 31 #[.int .i64 kind, .int .u64 (lsn : Int), .int .u32 (epoch : Int), .int .u64 (txn : Int), .int .u32 (page : Int), .int .u16 (off : Int), .slice oA on oc, .slice nA nn nc, .slice uA un uc, .int .u64 (prev : Int), .int .u64 (next : Int), .bool clr, .int .u64 (stamp : Int), .slice pA pn pc, .slice dA dn dc]
  have hb0 : Below w.heap.size w (w.alloc (.cells #[.int .i64 kind, .int .u64 (lsn : Int), .int .u32 (epoch : Int), .int .u64 (txn : Int), .int .u32 (page : Int), .int .u16 (off : Int), .slice oA on oc, .slice nA nn nc, .slice uA un uc, .int .u64 (prev : Int), .int .u64 (next : Int), .bool clr, .int .u64 (stamp : Int), .slice pA pn pc, .slice dA dn dc] 31)) := (Below.refl w.heap.size w).alloc (Nat.le_refl _) _
  go_upto_region 1 with fail
  generalize w.alloc (.cells #[.int .i64 kind, .int .u64 (lsn : Int), .int .u32 (epoch : Int), .int .u64 (txn : Int), .int .u32 (page : Int), .int .u16 (off : Int), .slice oA on oc, .slice nA nn nc, .slice uA un uc, .int .u64 (prev : Int), .int .u64 (next : Int), .bool clr, .int .u64 (stamp : Int), .slice pA pn pc, .slice dA dn dc] 31) = V0 at *
  have HS := Lib.hid (HS0.out.below hb0)
  obtain ⟨g, hg⟩ : ∃ g, w.heap.size = g := ⟨_, rfl⟩
  have HG := Lib.hid hg
  have HB0 := Lib.hid hb0
  rw [hg] at hx
  simp only [hg]
  clear hg hb0 HS0
  obtain ⟨d0, d1, d2, d3, d4, d5, d6, d7, d8, d9, d10, d11, d12, d13, d14⟩ := hx.c15
  go_wp2_with fail
  refine (may_any ⟨kind, lsn, epoch, txn, page, off, old, new, undo, prev, next, clr, stamp, opn, dirty⟩ ⟨oA, on, oc, nA, nn, nc, uA, un, uc, pA, pn, pc, dA, dn, dc⟩ V0 HS.out).mono ?_
  rintro e V1 ⟨r, rfl, HR, hb1⟩
  clear d0 d1 d2 d3 d4 d5 d6 d7 d8 d9 d10 d11 d12 d13 d14
  have hB1 := below_step HB0.out hb1 (Nat.le_refl _)
  cases r with
  | false =>
    have HM : Hid (¬ LogM.May ⟨kind, lsn, epoch, txn, page, off, old, new, undo, prev, next, clr, stamp, opn, dirty⟩) := Lib.hid fun q => by have := HR.out.2 q; cases this
    go_wp2
    go_ret2
    exact .inr ⟨HM.out, rfl, hB1⟩
  | true =>
    have HM := Lib.hid (HR.out.1 (by trivial))
    have hS1 := HS.out.below hb1
    obtain ⟨d0, d1, d2, d3, d4, d5, d6, d7, d8, d9, d10, d11, d12, d13, d14⟩ := (hx.below hb1 hx.lt).c15
    go_wp2_with fail
    refine (form_any ⟨kind, lsn, epoch, txn, page, off, old, new, undo, prev, next, clr, stamp, opn, dirty⟩ ⟨oA, on, oc, nA, nn, nc, uA, un, uc, pA, pn, pc, dA, dn, dc⟩ V1 hS1 HM.out).mono ?_
    rintro e V2 ⟨A, n, c, rfl, hn, hO, hb2⟩
    clear d0 d1 d2 d3 d4 d5 d6 d7 d8 d9 d10 d11 d12 d13 d14
    have hB2 := below_step hB1 hb2 (Nat.le_refl _)
    have hs1 := hB1.size
    go_wp2
    go_ret2
    exact .inl ⟨HM.out, A, n, c, rfl, hn, hO.base_ hs1, hB2⟩
set_option maxRecDepth 100000 in
set_option maxHeartbeats 4000000 in
theorem size_any (s : Lrec) (y : Lsl) (w : World) (hs : LogAt w y s) :
    Calls Try.prog 15 #[.agg #[.int .i64 s.kind, .int .u64 (s.lsn : Int), .int .u32 (s.epoch : Int), .int .u64 (s.txn : Int), .int .u32 (s.page : Int), .int .u16 (s.off : Int), .slice y.oA y.on y.oc, .slice y.nA y.nn y.nc, .slice y.uA y.un y.uc, .int .u64 (s.prev : Int), .int .u64 (s.next : Int), .bool s.clr, .int .u64 (s.stamp : Int), .slice y.pA y.pn y.pc, .slice y.dA y.dn y.dc]] w fun e w' => (e = .returned (.int .i64 (((if LogM.May s then (LogM.form s).length else 0 : Nat)) : Int))) ∧ Below w.heap.size w w' := by
  have HS0 := Lib.hid hs
  clear hs
  obtain ⟨kind, lsn, epoch, txn, page, off, old, new, undo, prev, next, clr, stamp, opn, dirty⟩ := s
  obtain ⟨oA, on, oc, nA, nn, nc, uA, un, uc, pA, pn, pc, dA, dn, dc⟩ := y
  go_enter Try.func15, Try.ntmps15
  have hx := Blk.new w 31 #[.int .i64 kind, .int .u64 (lsn : Int), .int .u32 (epoch : Int), .int .u64 (txn : Int), .int .u32 (page : Int), .int .u16 (off : Int), .slice oA on oc, .slice nA nn nc, .slice uA un uc, .int .u64 (prev : Int), .int .u64 (next : Int), .bool clr, .int .u64 (stamp : Int), .slice pA pn pc, .slice dA dn dc]
  have hb0 : Below w.heap.size w (w.alloc (.cells #[.int .i64 kind, .int .u64 (lsn : Int), .int .u32 (epoch : Int), .int .u64 (txn : Int), .int .u32 (page : Int), .int .u16 (off : Int), .slice oA on oc, .slice nA nn nc, .slice uA un uc, .int .u64 (prev : Int), .int .u64 (next : Int), .bool clr, .int .u64 (stamp : Int), .slice pA pn pc, .slice dA dn dc] 31)) := (Below.refl w.heap.size w).alloc (Nat.le_refl _) _
  go_upto_region 1 with fail
  generalize w.alloc (.cells #[.int .i64 kind, .int .u64 (lsn : Int), .int .u32 (epoch : Int), .int .u64 (txn : Int), .int .u32 (page : Int), .int .u16 (off : Int), .slice oA on oc, .slice nA nn nc, .slice uA un uc, .int .u64 (prev : Int), .int .u64 (next : Int), .bool clr, .int .u64 (stamp : Int), .slice pA pn pc, .slice dA dn dc] 31) = V0 at *
  have HS := Lib.hid (HS0.out.below hb0)
  obtain ⟨g, hg⟩ : ∃ g, w.heap.size = g := ⟨_, rfl⟩
  have HG := Lib.hid hg
  have HB0 := Lib.hid hb0
  rw [hg] at hx
  simp only [hg]
  clear hg hb0 HS0
  obtain ⟨d0, d1, d2, d3, d4, d5, d6, d7, d8, d9, d10, d11, d12, d13, d14⟩ := hx.c15
  go_wp2_with fail
  refine (bytes_any ⟨kind, lsn, epoch, txn, page, off, old, new, undo, prev, next, clr, stamp, opn, dirty⟩ ⟨oA, on, oc, nA, nn, nc, uA, un, uc, pA, pn, pc, dA, dn, dc⟩ V0 HS.out).mono ?_
  rintro e V1 (⟨hm, A, n, c, rfl, hn, hO, hb1⟩ | ⟨hm, rfl, hb1⟩)
  · clear d0 d1 d2 d3 d4 d5 d6 d7 d8 d9 d10 d11 d12 d13 d14
    have hB1 := below_step HB0.out hb1 (Nat.le_refl _)
    have HM := Lib.hid hm
    clear hm
    go_wp2
    go_ret
    exact ⟨by first | rw [if_pos HM.out, hn.out] | (rw [hn.out]; rfl) | rw [hn.out], hB1⟩
  · clear d0 d1 d2 d3 d4 d5 d6 d7 d8 d9 d10 d11 d12 d13 d14
    have hB1 := below_step HB0.out hb1 (Nat.le_refl _)
    have HM := Lib.hid hm
    clear hm
    go_wp2
    go_ret
    exact ⟨by first | rfl | (rw [if_neg HM.out]; rfl), hB1⟩
end Go.Proofs.Ytpgmhjjdnanlgaa
