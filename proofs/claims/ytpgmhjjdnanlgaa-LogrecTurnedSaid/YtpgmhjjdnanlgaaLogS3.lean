/-
  Whether two records are alike, by the document's word.
  Conditions: the lists lie in memory.
-/
import Derived.Test.YtpgmhjjdnanlgaaLogS1
import Derived.Test.YtpgmhjjdnanlgaaLogS2
namespace Go.Proofs.Ytpgmhjjdnanlgaa
open Go.RowKit Go.Sort Go.Lib
theorem rsame_any (s t : Lrec) (y z : Lsl) (w : World) (hs : LogAt w y s) (ht : LogAt w z t) :
    Calls Try.prog 11 #[.agg #[.int .i64 s.kind, .int .u64 (s.lsn : Int), .int .u32 (s.epoch : Int), .int .u64 (s.txn : Int), .int .u32 (s.page : Int), .int .u16 (s.off : Int), .slice y.oA y.on y.oc, .slice y.nA y.nn y.nc, .slice y.uA y.un y.uc, .int .u64 (s.prev : Int), .int .u64 (s.next : Int), .bool s.clr, .int .u64 (s.stamp : Int), .slice y.pA y.pn y.pc, .slice y.dA y.dn y.dc], .agg #[.int .i64 t.kind, .int .u64 (t.lsn : Int), .int .u32 (t.epoch : Int), .int .u64 (t.txn : Int), .int .u32 (t.page : Int), .int .u16 (t.off : Int), .slice z.oA z.on z.oc, .slice z.nA z.nn z.nc, .slice z.uA z.un z.uc, .int .u64 (t.prev : Int), .int .u64 (t.next : Int), .bool t.clr, .int .u64 (t.stamp : Int), .slice z.pA z.pn z.pc, .slice z.dA z.dn z.dc]] w (BoolPost (s = t) w) := by
  by_cases hE : (s.kind = t.kind ∧ s.lsn = t.lsn ∧ s.epoch = t.epoch ∧ s.txn = t.txn ∧ s.page = t.page ∧ s.off = t.off ∧ s.prev = t.prev ∧ s.next = t.next ∧ s.clr = t.clr ∧ s.stamp = t.stamp ∧ s.old = t.old ∧ s.new = t.new ∧ s.undo = t.undo ∧ y.pn = z.pn ∧ y.dn = z.dn)
  · exact rsame_yes s t y z w hs ht hE
  · exact rsame_no s t y z w hs ht hE
end Go.Proofs.Ytpgmhjjdnanlgaa
