/-
  Which records may be, by the document's word.
  Conditions: its lists lie in memory.
-/
import Derived.Test.YtpgmhjjdnanlgaaLogB1
namespace Go.Proofs.Ytpgmhjjdnanlgaa
open Go.RowKit Go.Sort Go.Lib
set_option linter.unusedVariables false
set_option linter.unusedSimpArgs false
def rmAP (s : Lrec) (y : Lsl) (g : Nat) : List (Nat × Nat × Value) := [(0, 4, (.pointer (some ⟨g, 0, none⟩))), (1, 5, (.int .i64 s.kind)), (2, 6, (.bool true)), (3, 7, (.bool true)), (4, 8, undef), (5, 9, undef), (6, 10, undef), (7, 11, (.bool true)), (8, 12, (.bool true)), (9, 13, undef), (10, 14, undef), (11, 15, undef), (12, 16, undef), (13, 17, undef), (14, 18, (.bool true))]
def rmAM (s : Lrec) (y : Lsl) (g : Nat) : List Mk := []
def rmAC : List Cp := []
def rmCP (s : Lrec) (y : Lsl) (g : Nat) : List (Nat × Nat × Value) := [(0, 4, (.pointer (some ⟨g, 0, none⟩))), (1, 5, (.int .i64 s.kind)), (2, 6, (.bool false)), (3, 7, (.bool false)), (4, 8, (.pointer (some ⟨g, 0, none⟩))), (5, 9, (.int .i64 s.kind)), (6, 10, (.bool true)), (7, 11, (.bool true)), (8, 12, (.bool true)), (9, 13, undef), (10, 14, undef), (11, 15, undef), (12, 16, undef), (13, 17, undef), (14, 18, (.bool true))]
def rmCM (s : Lrec) (y : Lsl) (g : Nat) : List Mk := []
def rmCC : List Cp := []
def rmNP (s : Lrec) (y : Lsl) (g : Nat) : List (Nat × Nat × Value) := [(0, 4, (.pointer (some ⟨g, 0, none⟩))), (1, 5, (.int .i64 s.kind)), (2, 6, (.bool false)), (3, 7, (.bool false)), (4, 8, (.pointer (some ⟨g, 0, none⟩))), (5, 9, (.int .i64 s.kind)), (6, 10, (.bool false)), (7, 11, (.bool false)), (8, 12, (.bool false)), (9, 13, (.agg #[.int .i64 s.kind, .int .u64 (s.lsn : Int), .int .u32 (s.epoch : Int), .int .u64 (s.txn : Int), .int .u32 (s.page : Int), .int .u16 (s.off : Int), .slice y.oA y.on y.oc, .slice y.nA y.nn y.nc, .slice y.uA y.un y.uc, .int .u64 (s.prev : Int), .int .u64 (s.next : Int), .bool s.clr, .int .u64 (s.stamp : Int), .slice y.pA y.pn y.pc, .slice y.dA y.dn y.dc])), (10, 14, (.agg #[.int .i64 s.kind, .int .u64 (s.lsn : Int), .int .u32 (s.epoch : Int), .int .u64 (s.txn : Int), .int .u32 (s.page : Int), .int .u16 (s.off : Int), .slice y.oA y.on y.oc, .slice y.nA y.nn y.nc, .slice y.uA y.un y.uc, .int .u64 (s.prev : Int), .int .u64 (s.next : Int), .bool s.clr, .int .u64 (s.stamp : Int), .slice y.pA y.pn y.pc, .slice y.dA y.dn y.dc])), (11, 15, (.agg #[.int .i64 (LogM.bare s).kind, .int .u64 ((LogM.bare s).lsn : Int), .int .u32 ((LogM.bare s).epoch : Int), .int .u64 ((LogM.bare s).txn : Int), .int .u32 ((LogM.bare s).page : Int), .int .u16 ((LogM.bare s).off : Int), .slice (bareL s.kind y).oA (bareL s.kind y).on (bareL s.kind y).oc, .slice (bareL s.kind y).nA (bareL s.kind y).nn (bareL s.kind y).nc, .slice (bareL s.kind y).uA (bareL s.kind y).un (bareL s.kind y).uc, .int .u64 ((LogM.bare s).prev : Int), .int .u64 ((LogM.bare s).next : Int), .bool (LogM.bare s).clr, .int .u64 ((LogM.bare s).stamp : Int), .slice (bareL s.kind y).pA (bareL s.kind y).pn (bareL s.kind y).pc, .slice (bareL s.kind y).dA (bareL s.kind y).dn (bareL s.kind y).dc])), (12, 16, (.bool false)), (13, 17, (.bool true)), (14, 18, (.bool true))]
def rmNM (s : Lrec) (y : Lsl) (g : Nat) : List Mk := []
def rmNC : List Cp := []
def rmYP (s : Lrec) (y : Lsl) (g : Nat) : List (Nat × Nat × Value) := [(0, 4, (.pointer (some ⟨g, 0, none⟩))), (1, 5, (.int .i64 s.kind)), (2, 6, (.bool false)), (3, 7, (.bool false)), (4, 8, (.pointer (some ⟨g, 0, none⟩))), (5, 9, (.int .i64 s.kind)), (6, 10, (.bool false)), (7, 11, (.bool false)), (8, 12, (.bool false)), (9, 13, (.agg #[.int .i64 s.kind, .int .u64 (s.lsn : Int), .int .u32 (s.epoch : Int), .int .u64 (s.txn : Int), .int .u32 (s.page : Int), .int .u16 (s.off : Int), .slice y.oA y.on y.oc, .slice y.nA y.nn y.nc, .slice y.uA y.un y.uc, .int .u64 (s.prev : Int), .int .u64 (s.next : Int), .bool s.clr, .int .u64 (s.stamp : Int), .slice y.pA y.pn y.pc, .slice y.dA y.dn y.dc])), (10, 14, (.agg #[.int .i64 s.kind, .int .u64 (s.lsn : Int), .int .u32 (s.epoch : Int), .int .u64 (s.txn : Int), .int .u32 (s.page : Int), .int .u16 (s.off : Int), .slice y.oA y.on y.oc, .slice y.nA y.nn y.nc, .slice y.uA y.un y.uc, .int .u64 (s.prev : Int), .int .u64 (s.next : Int), .bool s.clr, .int .u64 (s.stamp : Int), .slice y.pA y.pn y.pc, .slice y.dA y.dn y.dc])), (11, 15, (.agg #[.int .i64 (LogM.bare s).kind, .int .u64 ((LogM.bare s).lsn : Int), .int .u32 ((LogM.bare s).epoch : Int), .int .u64 ((LogM.bare s).txn : Int), .int .u32 ((LogM.bare s).page : Int), .int .u16 ((LogM.bare s).off : Int), .slice (bareL s.kind y).oA (bareL s.kind y).on (bareL s.kind y).oc, .slice (bareL s.kind y).nA (bareL s.kind y).nn (bareL s.kind y).nc, .slice (bareL s.kind y).uA (bareL s.kind y).un (bareL s.kind y).uc, .int .u64 ((LogM.bare s).prev : Int), .int .u64 ((LogM.bare s).next : Int), .bool (LogM.bare s).clr, .int .u64 ((LogM.bare s).stamp : Int), .slice (bareL s.kind y).pA (bareL s.kind y).pn (bareL s.kind y).pc, .slice (bareL s.kind y).dA (bareL s.kind y).dn (bareL s.kind y).dc])), (12, 16, (.bool true)), (13, 17, (.bool false)), (14, 18, (.bool false))]
def rmYM (s : Lrec) (y : Lsl) (g : Nat) : List Mk := []
def rmYC : List Cp := []
set_option maxRecDepth 100000 in
set_option maxHeartbeats 16000000 in
theorem rmay_aux (s : Lrec) (y : Lsl) (w : World) (hs : LogAt w y s) (P : Prop) (hP : Hid (P ↔ LogM.mayR s)) :
    Calls Try.prog 17 #[.agg #[.int .i64 s.kind, .int .u64 (s.lsn : Int), .int .u32 (s.epoch : Int), .int .u64 (s.txn : Int), .int .u32 (s.page : Int), .int .u16 (s.off : Int), .slice y.oA y.on y.oc, .slice y.nA y.nn y.nc, .slice y.uA y.un y.uc, .int .u64 (s.prev : Int), .int .u64 (s.next : Int), .bool s.clr, .int .u64 (s.stamp : Int), .slice y.pA y.pn y.pc, .slice y.dA y.dn y.dc]] w (BoolPost P w) := by
  have HS0 := Lib.hid hs
  clear hs
  go_enter Try.func17, Try.ntmps17
  have hx := Blk.new w 31 #[.int .i64 s.kind, .int .u64 (s.lsn : Int), .int .u32 (s.epoch : Int), .int .u64 (s.txn : Int), .int .u32 (s.page : Int), .int .u16 (s.off : Int), .slice y.oA y.on y.oc, .slice y.nA y.nn y.nc, .slice y.uA y.un y.uc, .int .u64 (s.prev : Int), .int .u64 (s.next : Int), .bool s.clr, .int .u64 (s.stamp : Int), .slice y.pA y.pn y.pc, .slice y.dA y.dn y.dc]
  have hb : Below w.heap.size w (w.alloc (.cells #[.int .i64 s.kind, .int .u64 (s.lsn : Int), .int .u32 (s.epoch : Int), .int .u64 (s.txn : Int), .int .u32 (s.page : Int), .int .u16 (s.off : Int), .slice y.oA y.on y.oc, .slice y.nA y.nn y.nc, .slice y.uA y.un y.uc, .int .u64 (s.prev : Int), .int .u64 (s.next : Int), .bool s.clr, .int .u64 (s.stamp : Int), .slice y.pA y.pn y.pc, .slice y.dA y.dn y.dc] 31)) := (Below.refl w.heap.size w).alloc (Nat.le_refl _) _
  go_upto_region 1 with fail
  generalize w.alloc (.cells #[.int .i64 s.kind, .int .u64 (s.lsn : Int), .int .u32 (s.epoch : Int), .int .u64 (s.txn : Int), .int .u32 (s.page : Int), .int .u16 (s.off : Int), .slice y.oA y.on y.oc, .slice y.nA y.nn y.nc, .slice y.uA y.un y.uc, .int .u64 (s.prev : Int), .int .u64 (s.next : Int), .bool s.clr, .int .u64 (s.stamp : Int), .slice y.pA y.pn y.pc, .slice y.dA y.dn y.dc] 31) = V0 at *
  have HS := Lib.hid (HS0.out.below hb)
  obtain ⟨g, hg⟩ : ∃ g, w.heap.size = g := ⟨_, rfl⟩
  have HG := Lib.hid hg
  rw [hg] at hx
  rw [show ∀ x : Nat, (⟨w.heap.size, x, none⟩ : Addr) = ⟨g, x, none⟩ from fun x => by rw [hg]]
  clear hg HS0
  by_cases k1 : s.kind < 1
  · as_aux_lemma =>
    skip
    skip
    have hB0 : Below V0.heap.size V0 V0 := Below.refl _ _
    have hbV : V0.heap.size ≤ V0.heap.size := Nat.le_refl _
    have hOb : Own V0 V0.heap.size (⟨none, 0, 0⟩ : Rs).A (⟨none, 0, 0⟩ : Rs).c [] := Own.nil_ _ _
    refine wp_named fun a0 ha0 => ?_
    have z1 : a0.tmps.getD 1 undef = (.pointer (some ⟨g, 0, none⟩)) := by rw [ha0.out]; rfl
    have hsz0 : a0.tmps.size = 88 := by rw [ha0.out]; rfl
    refine wp_region_invB _ (by kernel_rfl) (fun L a wv => ∃ R, Ch a0 [4, 5, 6, 7, 8, 9, 10, 11, 12, 13, 14, 15, 16, 17, 18] (rmAP s y g) (rmAM s y g) rmAC V0.heap.size V0 V0.heap.size (⟨none, 0, 0⟩ : Rs) ([]) 99 [] 0 999 R L a wv) (by kernel_rfl) ?_ ?_ ?_
    · exact ⟨fun _ => ⟨none, 0, 0⟩, Ch.start hbV ⟨rfl, rfl, rfl, Nat.le_refl _, fun _ _ => rfl⟩ hOb⟩
    rotate_left
    · as_aux_lemma =>
      refine ⟨?_, ?_, ?_, ?_, ?_, ?_, ?_, ?_, ?_, ?_, ?_, ?_, ?_, ?_, ?_, trivial⟩
      · intro L a w1 hI hi hd
        obtain ⟨R, hC⟩ := hI
        have hi : L 0 = false := hi
        have hp := hC.pif
        have t1 := hp.at_ 1 _ rfl z1
        have t1' := t1
        rw [Array.getD_eq_getD_getElem?] at t1'
        exact rstep_valW (wanted_none rfl _) (.pointer (some ⟨g, 0, none⟩)) w1 (by go_simp) ⟨R, hC.pure 0 4 (.pointer (some ⟨g, 0, none⟩)) (by simp [rows, rmAP, rmAM, rmAC, setR]) (by simp [rows, rmAP, rmAM, rmAC, setR]) (by simp [rmAM]) (by simp [rmAC]) rfl (by rw [hsz0]; exact (by decide : 4 < 88)) (by decide) (by simp) (by simp)⟩
      · intro L a w1 hI hi hd
        obtain ⟨R, hC⟩ := hI
        have hi : L 1 = false := hi
        have hp := hC.pif
        simp [Region.binds] at hd
        have e0 : a.tmps.getD 4 undef = (.pointer (some ⟨g, 0, none⟩)) := hp.pu (0, 4, (.pointer (some ⟨g, 0, none⟩))) (by simp [rows, rmAP, rmAM, rmAC, setR]) (by simp [hd])
        have f0 : a.tmps[4]?.getD undef = (.pointer (some ⟨g, 0, none⟩)) := by rw [← Array.getD_eq_getD_getElem?]; exact e0
        have d0 := (hx.below (hB0.trans hC.bel) hx.lt).c15.1
        exact rstep_valW (wanted_none rfl _) (.int .i64 s.kind) w1 (by go_simp) ⟨R, hC.pure 1 5 (.int .i64 s.kind) (by simp [rows, rmAP, rmAM, rmAC, setR]) (by simp [rows, rmAP, rmAM, rmAC, setR]) (by simp [rmAM]) (by simp [rmAC]) rfl (by rw [hsz0]; exact (by decide : 5 < 88)) (by decide) (by simp) (by simp)⟩
      · intro L a w1 hI hi hd
        obtain ⟨R, hC⟩ := hI
        have hi : L 2 = false := hi
        have hp := hC.pif
        simp [Region.binds] at hd
        have e1 : a.tmps.getD 5 undef = (.int .i64 s.kind) := hp.pu (1, 5, (.int .i64 s.kind)) (by simp [rows, rmAP, rmAM, rmAC, setR]) (by simp [hd])
        have f1 : a.tmps[5]?.getD undef = (.int .i64 s.kind) := by rw [← Array.getD_eq_getD_getElem?]; exact e1
        exact rstep_valW (wanted_none rfl _) (.bool true) w1 (by go_simp) ⟨R, hC.pure 2 6 (.bool true) (by simp [rows, rmAP, rmAM, rmAC, setR]) (by simp [rows, rmAP, rmAM, rmAC, setR]) (by simp [rmAM]) (by simp [rmAC]) rfl (by rw [hsz0]; exact (by decide : 6 < 88)) (by decide) (by simp) (by simp)⟩
      · intro L a w1 hI hi hd
        obtain ⟨R, hC⟩ := hI
        have hi : L 3 = false := hi
        have hp := hC.pif
        simp [Region.binds] at hd
        have e2 : a.tmps.getD 6 undef = (.bool true) := hp.pu (2, 6, (.bool true)) (by simp [rows, rmAP, rmAM, rmAC, setR]) (by simp [hd])
        have f2 : a.tmps[6]?.getD undef = (.bool true) := by rw [← Array.getD_eq_getD_getElem?]; exact e2
        exact rstep_valW (wanted_none rfl _) (.bool true) w1 (by go_simp) ⟨R, hC.pure 3 7 (.bool true) (by simp [rows, rmAP, rmAM, rmAC, setR]) (by simp [rows, rmAP, rmAM, rmAC, setR]) (by simp [rmAM]) (by simp [rmAC]) rfl (by rw [hsz0]; exact (by decide : 7 < 88)) (by decide) (by simp) (by simp)⟩
      · intro L a w1 hI hi hd
        obtain ⟨R, hC⟩ := hI
        have hi : L 4 = false := hi
        have hp := hC.pif
        simp [Region.binds] at hd
        have e3 : a.tmps.getD 7 undef = (.bool true) := hp.pu (3, 7, (.bool true)) (by simp [rows, rmAP, rmAM, rmAC, setR]) (by simp [hd])
        have f3 : a.tmps[7]?.getD undef = (.bool true) := by rw [← Array.getD_eq_getD_getElem?]; exact e3
        exact rstep_un (unwanted_of 3 7 false true (by decide) rfl rfl e3) ⟨R, hC.pure 4 8 undef (by simp [rows, rmAP, rmAM, rmAC, setR]) (by simp [rows, rmAP, rmAM, rmAC, setR]) (by simp [rmAM]) (by simp [rmAC]) rfl (by rw [hsz0]; exact (by decide : 8 < 88)) (by decide) (by simp) (by simp)⟩
      · intro L a w1 hI hi hd
        obtain ⟨R, hC⟩ := hI
        have hi : L 5 = false := hi
        have hp := hC.pif
        simp [Region.binds] at hd
        have e3 : a.tmps.getD 7 undef = (.bool true) := hp.pu (3, 7, (.bool true)) (by simp [rows, rmAP, rmAM, rmAC, setR]) (by simp [hd])
        have f3 : a.tmps[7]?.getD undef = (.bool true) := by rw [← Array.getD_eq_getD_getElem?]; exact e3
        exact rstep_un (unwanted_of 3 7 false true (by decide) rfl rfl e3) ⟨R, hC.pure 5 9 undef (by simp [rows, rmAP, rmAM, rmAC, setR]) (by simp [rows, rmAP, rmAM, rmAC, setR]) (by simp [rmAM]) (by simp [rmAC]) rfl (by rw [hsz0]; exact (by decide : 9 < 88)) (by decide) (by simp) (by simp)⟩
      · intro L a w1 hI hi hd
        obtain ⟨R, hC⟩ := hI
        have hi : L 6 = false := hi
        have hp := hC.pif
        simp [Region.binds] at hd
        have e3 : a.tmps.getD 7 undef = (.bool true) := hp.pu (3, 7, (.bool true)) (by simp [rows, rmAP, rmAM, rmAC, setR]) (by simp [hd])
        have f3 : a.tmps[7]?.getD undef = (.bool true) := by rw [← Array.getD_eq_getD_getElem?]; exact e3
        exact rstep_un (unwanted_of 3 7 false true (by decide) rfl rfl e3) ⟨R, hC.pure 6 10 undef (by simp [rows, rmAP, rmAM, rmAC, setR]) (by simp [rows, rmAP, rmAM, rmAC, setR]) (by simp [rmAM]) (by simp [rmAC]) rfl (by rw [hsz0]; exact (by decide : 10 < 88)) (by decide) (by simp) (by simp)⟩
      · intro L a w1 hI hi hd
        obtain ⟨R, hC⟩ := hI
        have hi : L 7 = false := hi
        have hp := hC.pif
        simp [Region.binds] at hd
        have e3 : a.tmps.getD 7 undef = (.bool true) := hp.pu (3, 7, (.bool true)) (by simp [rows, rmAP, rmAM, rmAC, setR]) (by simp [hd])
        have f3 : a.tmps[7]?.getD undef = (.bool true) := by rw [← Array.getD_eq_getD_getElem?]; exact e3
        exact rstep_valW (wanted_none rfl _) (.bool true) w1 (by go_simp) ⟨R, hC.pure 7 11 (.bool true) (by simp [rows, rmAP, rmAM, rmAC, setR]) (by simp [rows, rmAP, rmAM, rmAC, setR]) (by simp [rmAM]) (by simp [rmAC]) rfl (by rw [hsz0]; exact (by decide : 11 < 88)) (by decide) (by simp) (by simp)⟩
      · intro L a w1 hI hi hd
        obtain ⟨R, hC⟩ := hI
        have hi : L 8 = false := hi
        have hp := hC.pif
        simp [Region.binds] at hd
        have e7 : a.tmps.getD 11 undef = (.bool true) := hp.pu (7, 11, (.bool true)) (by simp [rows, rmAP, rmAM, rmAC, setR]) (by simp [hd])
        have f7 : a.tmps[11]?.getD undef = (.bool true) := by rw [← Array.getD_eq_getD_getElem?]; exact e7
        exact rstep_valW (wanted_none rfl _) (.bool true) w1 (by go_simp) ⟨R, hC.pure 8 12 (.bool true) (by simp [rows, rmAP, rmAM, rmAC, setR]) (by simp [rows, rmAP, rmAM, rmAC, setR]) (by simp [rmAM]) (by simp [rmAC]) rfl (by rw [hsz0]; exact (by decide : 12 < 88)) (by decide) (by simp) (by simp)⟩
      · intro L a w1 hI hi hd
        obtain ⟨R, hC⟩ := hI
        have hi : L 9 = false := hi
        have hp := hC.pif
        simp [Region.binds] at hd
        have e8 : a.tmps.getD 12 undef = (.bool true) := hp.pu (8, 12, (.bool true)) (by simp [rows, rmAP, rmAM, rmAC, setR]) (by simp [hd])
        have f8 : a.tmps[12]?.getD undef = (.bool true) := by rw [← Array.getD_eq_getD_getElem?]; exact e8
        exact rstep_un (unwanted_of 8 12 false true (by decide) rfl rfl e8) ⟨R, hC.pure 9 13 undef (by simp [rows, rmAP, rmAM, rmAC, setR]) (by simp [rows, rmAP, rmAM, rmAC, setR]) (by simp [rmAM]) (by simp [rmAC]) rfl (by rw [hsz0]; exact (by decide : 13 < 88)) (by decide) (by simp) (by simp)⟩
      · intro L a w1 hI hi hd
        obtain ⟨R, hC⟩ := hI
        have hi : L 10 = false := hi
        have hp := hC.pif
        simp [Region.binds] at hd
        have e8 : a.tmps.getD 12 undef = (.bool true) := hp.pu (8, 12, (.bool true)) (by simp [rows, rmAP, rmAM, rmAC, setR]) (by simp [hd])
        have f8 : a.tmps[12]?.getD undef = (.bool true) := by rw [← Array.getD_eq_getD_getElem?]; exact e8
        exact rstep_un (unwanted_of 8 12 false true (by decide) rfl rfl e8) ⟨R, hC.pure 10 14 undef (by simp [rows, rmAP, rmAM, rmAC, setR]) (by simp [rows, rmAP, rmAM, rmAC, setR]) (by simp [rmAM]) (by simp [rmAC]) rfl (by rw [hsz0]; exact (by decide : 14 < 88)) (by decide) (by simp) (by simp)⟩
      · intro L a w1 hI hi hd
        obtain ⟨R, hC⟩ := hI
        have hi : L 11 = false := hi
        have hp := hC.pif
        simp [Region.binds] at hd
        have e8 : a.tmps.getD 12 undef = (.bool true) := hp.pu (8, 12, (.bool true)) (by simp [rows, rmAP, rmAM, rmAC, setR]) (by simp [hd])
        have f8 : a.tmps[12]?.getD undef = (.bool true) := by rw [← Array.getD_eq_getD_getElem?]; exact e8
        exact rstep_un (unwanted_of 8 12 false true (by decide) rfl rfl e8) ⟨R, hC.pure 11 15 undef (by simp [rows, rmAP, rmAM, rmAC, setR]) (by simp [rows, rmAP, rmAM, rmAC, setR]) (by simp [rmAM]) (by simp [rmAC]) rfl (by rw [hsz0]; exact (by decide : 15 < 88)) (by decide) (by simp) (by simp)⟩
      · intro L a w1 hI hi hd
        obtain ⟨R, hC⟩ := hI
        have hi : L 12 = false := hi
        have hp := hC.pif
        simp [Region.binds] at hd
        have e8 : a.tmps.getD 12 undef = (.bool true) := hp.pu (8, 12, (.bool true)) (by simp [rows, rmAP, rmAM, rmAC, setR]) (by simp [hd])
        have f8 : a.tmps[12]?.getD undef = (.bool true) := by rw [← Array.getD_eq_getD_getElem?]; exact e8
        exact rstep_un (unwanted_of 8 12 false true (by decide) rfl rfl e8) ⟨R, hC.pure 12 16 undef (by simp [rows, rmAP, rmAM, rmAC, setR]) (by simp [rows, rmAP, rmAM, rmAC, setR]) (by simp [rmAM]) (by simp [rmAC]) rfl (by rw [hsz0]; exact (by decide : 16 < 88)) (by decide) (by simp) (by simp)⟩
      · intro L a w1 hI hi hd
        obtain ⟨R, hC⟩ := hI
        have hi : L 13 = false := hi
        have hp := hC.pif
        simp [Region.binds] at hd
        have e8 : a.tmps.getD 12 undef = (.bool true) := hp.pu (8, 12, (.bool true)) (by simp [rows, rmAP, rmAM, rmAC, setR]) (by simp [hd])
        have f8 : a.tmps[12]?.getD undef = (.bool true) := by rw [← Array.getD_eq_getD_getElem?]; exact e8
        exact rstep_un (unwanted_of 8 12 false true (by decide) rfl rfl e8) ⟨R, hC.pure 13 17 undef (by simp [rows, rmAP, rmAM, rmAC, setR]) (by simp [rows, rmAP, rmAM, rmAC, setR]) (by simp [rmAM]) (by simp [rmAC]) rfl (by rw [hsz0]; exact (by decide : 17 < 88)) (by decide) (by simp) (by simp)⟩
      · intro L a w1 hI hi hd
        obtain ⟨R, hC⟩ := hI
        have hi : L 14 = false := hi
        have hp := hC.pif
        simp [Region.binds] at hd
        have e8 : a.tmps.getD 12 undef = (.bool true) := hp.pu (8, 12, (.bool true)) (by simp [rows, rmAP, rmAM, rmAC, setR]) (by simp [hd])
        have f8 : a.tmps[12]?.getD undef = (.bool true) := by rw [← Array.getD_eq_getD_getElem?]; exact e8
        exact rstep_valW (wanted_none rfl _) (.bool true) w1 (by go_simp) ⟨R, hC.pure 14 18 (.bool true) (by simp [rows, rmAP, rmAM, rmAC, setR]) (by simp [rows, rmAP, rmAM, rmAC, setR]) (by simp [rmAM]) (by simp [rmAC]) rfl (by rw [hsz0]; exact (by decide : 18 < 88)) (by decide) (by simp) (by simp)⟩
    rintro L a W ⟨R, hC⟩ hL
    have hp := hC.pif
    have e14 : a.tmps.getD 18 undef = (.bool true) := hp.pu (14, 18, (.bool true)) (by simp [rows, rmAP, rmAM, rmAC, setR]) (hL 14 (by simp))
    have hBW := hC.bel
    rw [hp.eq]
    refine of_assigns (P := Try.prog) _ _ _ _ ?_
    rw [ha0.out]
    simp only [asgs, List.map, e14]
    generalize a.tmps.getD 4 undef = u4
    generalize a.tmps.getD 5 undef = u5
    generalize a.tmps.getD 6 undef = u6
    generalize a.tmps.getD 7 undef = u7
    generalize a.tmps.getD 8 undef = u8
    generalize a.tmps.getD 9 undef = u9
    generalize a.tmps.getD 10 undef = u10
    generalize a.tmps.getD 11 undef = u11
    generalize a.tmps.getD 12 undef = u12
    generalize a.tmps.getD 13 undef = u13
    generalize a.tmps.getD 14 undef = u14
    generalize a.tmps.getD 15 undef = u15
    generalize a.tmps.getD 16 undef = u16
    generalize a.tmps.getD 17 undef = u17
    clear hp hL e14 ha0 z1 hsz0 hC
    clear a0 a L R
    have HBB := Lib.hid (below_step hb hBW (Nat.le_refl _))
    have HNM : Hid (¬ P) := Lib.hid fun q => by have := (hP.out.1 q).1; omega
    clear hBW hOb hbV hB0 hx hb
    go_wp2
    go_ret
    exact BoolPost.no HNM.out HBB.out
  by_cases k5 : 5 < s.kind
  · as_aux_lemma =>
    skip
    skip
    have hB0 : Below V0.heap.size V0 V0 := Below.refl _ _
    have hbV : V0.heap.size ≤ V0.heap.size := Nat.le_refl _
    have hOb : Own V0 V0.heap.size (⟨none, 0, 0⟩ : Rs).A (⟨none, 0, 0⟩ : Rs).c [] := Own.nil_ _ _
    refine wp_named fun a0 ha0 => ?_
    have z1 : a0.tmps.getD 1 undef = (.pointer (some ⟨g, 0, none⟩)) := by rw [ha0.out]; rfl
    have hsz0 : a0.tmps.size = 88 := by rw [ha0.out]; rfl
    refine wp_region_invB _ (by kernel_rfl) (fun L a wv => ∃ R, Ch a0 [4, 5, 6, 7, 8, 9, 10, 11, 12, 13, 14, 15, 16, 17, 18] (rmCP s y g) (rmCM s y g) rmCC V0.heap.size V0 V0.heap.size (⟨none, 0, 0⟩ : Rs) ([]) 99 [] 0 999 R L a wv) (by kernel_rfl) ?_ ?_ ?_
    · exact ⟨fun _ => ⟨none, 0, 0⟩, Ch.start hbV ⟨rfl, rfl, rfl, Nat.le_refl _, fun _ _ => rfl⟩ hOb⟩
    rotate_left
    · as_aux_lemma =>
      refine ⟨?_, ?_, ?_, ?_, ?_, ?_, ?_, ?_, ?_, ?_, ?_, ?_, ?_, ?_, ?_, trivial⟩
      · intro L a w1 hI hi hd
        obtain ⟨R, hC⟩ := hI
        have hi : L 0 = false := hi
        have hp := hC.pif
        have t1 := hp.at_ 1 _ rfl z1
        have t1' := t1
        rw [Array.getD_eq_getD_getElem?] at t1'
        exact rstep_valW (wanted_none rfl _) (.pointer (some ⟨g, 0, none⟩)) w1 (by go_simp) ⟨R, hC.pure 0 4 (.pointer (some ⟨g, 0, none⟩)) (by simp [rows, rmCP, rmCM, rmCC, setR]) (by simp [rows, rmCP, rmCM, rmCC, setR]) (by simp [rmCM]) (by simp [rmCC]) rfl (by rw [hsz0]; exact (by decide : 4 < 88)) (by decide) (by simp) (by simp)⟩
      · intro L a w1 hI hi hd
        obtain ⟨R, hC⟩ := hI
        have hi : L 1 = false := hi
        have hp := hC.pif
        simp [Region.binds] at hd
        have e0 : a.tmps.getD 4 undef = (.pointer (some ⟨g, 0, none⟩)) := hp.pu (0, 4, (.pointer (some ⟨g, 0, none⟩))) (by simp [rows, rmCP, rmCM, rmCC, setR]) (by simp [hd])
        have f0 : a.tmps[4]?.getD undef = (.pointer (some ⟨g, 0, none⟩)) := by rw [← Array.getD_eq_getD_getElem?]; exact e0
        have d0 := (hx.below (hB0.trans hC.bel) hx.lt).c15.1
        exact rstep_valW (wanted_none rfl _) (.int .i64 s.kind) w1 (by go_simp) ⟨R, hC.pure 1 5 (.int .i64 s.kind) (by simp [rows, rmCP, rmCM, rmCC, setR]) (by simp [rows, rmCP, rmCM, rmCC, setR]) (by simp [rmCM]) (by simp [rmCC]) rfl (by rw [hsz0]; exact (by decide : 5 < 88)) (by decide) (by simp) (by simp)⟩
      · intro L a w1 hI hi hd
        obtain ⟨R, hC⟩ := hI
        have hi : L 2 = false := hi
        have hp := hC.pif
        simp [Region.binds] at hd
        have e1 : a.tmps.getD 5 undef = (.int .i64 s.kind) := hp.pu (1, 5, (.int .i64 s.kind)) (by simp [rows, rmCP, rmCM, rmCC, setR]) (by simp [hd])
        have f1 : a.tmps[5]?.getD undef = (.int .i64 s.kind) := by rw [← Array.getD_eq_getD_getElem?]; exact e1
        exact rstep_valW (wanted_none rfl _) (.bool false) w1 (by go_simp) ⟨R, hC.pure 2 6 (.bool false) (by simp [rows, rmCP, rmCM, rmCC, setR]) (by simp [rows, rmCP, rmCM, rmCC, setR]) (by simp [rmCM]) (by simp [rmCC]) rfl (by rw [hsz0]; exact (by decide : 6 < 88)) (by decide) (by simp) (by simp)⟩
      · intro L a w1 hI hi hd
        obtain ⟨R, hC⟩ := hI
        have hi : L 3 = false := hi
        have hp := hC.pif
        simp [Region.binds] at hd
        have e2 : a.tmps.getD 6 undef = (.bool false) := hp.pu (2, 6, (.bool false)) (by simp [rows, rmCP, rmCM, rmCC, setR]) (by simp [hd])
        have f2 : a.tmps[6]?.getD undef = (.bool false) := by rw [← Array.getD_eq_getD_getElem?]; exact e2
        exact rstep_valW (wanted_none rfl _) (.bool false) w1 (by go_simp) ⟨R, hC.pure 3 7 (.bool false) (by simp [rows, rmCP, rmCM, rmCC, setR]) (by simp [rows, rmCP, rmCM, rmCC, setR]) (by simp [rmCM]) (by simp [rmCC]) rfl (by rw [hsz0]; exact (by decide : 7 < 88)) (by decide) (by simp) (by simp)⟩
      · intro L a w1 hI hi hd
        obtain ⟨R, hC⟩ := hI
        have hi : L 4 = false := hi
        have hp := hC.pif
        simp [Region.binds] at hd
        have e3 : a.tmps.getD 7 undef = (.bool false) := hp.pu (3, 7, (.bool false)) (by simp [rows, rmCP, rmCM, rmCC, setR]) (by simp [hd])
        have f3 : a.tmps[7]?.getD undef = (.bool false) := by rw [← Array.getD_eq_getD_getElem?]; exact e3
        have t1 := hp.at_ 1 _ rfl z1
        have t1' := t1
        rw [Array.getD_eq_getD_getElem?] at t1'
        exact rstep_valW (wanted_of 3 7 false rfl rfl e3) (.pointer (some ⟨g, 0, none⟩)) w1 (by go_simp) ⟨R, hC.pure 4 8 (.pointer (some ⟨g, 0, none⟩)) (by simp [rows, rmCP, rmCM, rmCC, setR]) (by simp [rows, rmCP, rmCM, rmCC, setR]) (by simp [rmCM]) (by simp [rmCC]) rfl (by rw [hsz0]; exact (by decide : 8 < 88)) (by decide) (by simp) (by simp)⟩
      · intro L a w1 hI hi hd
        obtain ⟨R, hC⟩ := hI
        have hi : L 5 = false := hi
        have hp := hC.pif
        simp [Region.binds] at hd
        have e3 : a.tmps.getD 7 undef = (.bool false) := hp.pu (3, 7, (.bool false)) (by simp [rows, rmCP, rmCM, rmCC, setR]) (by simp [hd])
        have f3 : a.tmps[7]?.getD undef = (.bool false) := by rw [← Array.getD_eq_getD_getElem?]; exact e3
        have e4 : a.tmps.getD 8 undef = (.pointer (some ⟨g, 0, none⟩)) := hp.pu (4, 8, (.pointer (some ⟨g, 0, none⟩))) (by simp [rows, rmCP, rmCM, rmCC, setR]) (by simp [hd])
        have f4 : a.tmps[8]?.getD undef = (.pointer (some ⟨g, 0, none⟩)) := by rw [← Array.getD_eq_getD_getElem?]; exact e4
        have d0 := (hx.below (hB0.trans hC.bel) hx.lt).c15.1
        exact rstep_valW (wanted_of 3 7 false rfl rfl e3) (.int .i64 s.kind) w1 (by go_simp) ⟨R, hC.pure 5 9 (.int .i64 s.kind) (by simp [rows, rmCP, rmCM, rmCC, setR]) (by simp [rows, rmCP, rmCM, rmCC, setR]) (by simp [rmCM]) (by simp [rmCC]) rfl (by rw [hsz0]; exact (by decide : 9 < 88)) (by decide) (by simp) (by simp)⟩
      · intro L a w1 hI hi hd
        obtain ⟨R, hC⟩ := hI
        have hi : L 6 = false := hi
        have hp := hC.pif
        simp [Region.binds] at hd
        have e3 : a.tmps.getD 7 undef = (.bool false) := hp.pu (3, 7, (.bool false)) (by simp [rows, rmCP, rmCM, rmCC, setR]) (by simp [hd])
        have f3 : a.tmps[7]?.getD undef = (.bool false) := by rw [← Array.getD_eq_getD_getElem?]; exact e3
        have e5 : a.tmps.getD 9 undef = (.int .i64 s.kind) := hp.pu (5, 9, (.int .i64 s.kind)) (by simp [rows, rmCP, rmCM, rmCC, setR]) (by simp [hd])
        have f5 : a.tmps[9]?.getD undef = (.int .i64 s.kind) := by rw [← Array.getD_eq_getD_getElem?]; exact e5
        exact rstep_valW (wanted_of 3 7 false rfl rfl e3) (.bool true) w1 (by go_simp) ⟨R, hC.pure 6 10 (.bool true) (by simp [rows, rmCP, rmCM, rmCC, setR]) (by simp [rows, rmCP, rmCM, rmCC, setR]) (by simp [rmCM]) (by simp [rmCC]) rfl (by rw [hsz0]; exact (by decide : 10 < 88)) (by decide) (by simp) (by simp)⟩
      · intro L a w1 hI hi hd
        obtain ⟨R, hC⟩ := hI
        have hi : L 7 = false := hi
        have hp := hC.pif
        simp [Region.binds] at hd
        have e3 : a.tmps.getD 7 undef = (.bool false) := hp.pu (3, 7, (.bool false)) (by simp [rows, rmCP, rmCM, rmCC, setR]) (by simp [hd])
        have f3 : a.tmps[7]?.getD undef = (.bool false) := by rw [← Array.getD_eq_getD_getElem?]; exact e3
        have e6 : a.tmps.getD 10 undef = (.bool true) := hp.pu (6, 10, (.bool true)) (by simp [rows, rmCP, rmCM, rmCC, setR]) (by simp [hd])
        have f6 : a.tmps[10]?.getD undef = (.bool true) := by rw [← Array.getD_eq_getD_getElem?]; exact e6
        exact rstep_valW (wanted_none rfl _) (.bool true) w1 (by go_simp) ⟨R, hC.pure 7 11 (.bool true) (by simp [rows, rmCP, rmCM, rmCC, setR]) (by simp [rows, rmCP, rmCM, rmCC, setR]) (by simp [rmCM]) (by simp [rmCC]) rfl (by rw [hsz0]; exact (by decide : 11 < 88)) (by decide) (by simp) (by simp)⟩
      · intro L a w1 hI hi hd
        obtain ⟨R, hC⟩ := hI
        have hi : L 8 = false := hi
        have hp := hC.pif
        simp [Region.binds] at hd
        have e7 : a.tmps.getD 11 undef = (.bool true) := hp.pu (7, 11, (.bool true)) (by simp [rows, rmCP, rmCM, rmCC, setR]) (by simp [hd])
        have f7 : a.tmps[11]?.getD undef = (.bool true) := by rw [← Array.getD_eq_getD_getElem?]; exact e7
        exact rstep_valW (wanted_none rfl _) (.bool true) w1 (by go_simp) ⟨R, hC.pure 8 12 (.bool true) (by simp [rows, rmCP, rmCM, rmCC, setR]) (by simp [rows, rmCP, rmCM, rmCC, setR]) (by simp [rmCM]) (by simp [rmCC]) rfl (by rw [hsz0]; exact (by decide : 12 < 88)) (by decide) (by simp) (by simp)⟩
      · intro L a w1 hI hi hd
        obtain ⟨R, hC⟩ := hI
        have hi : L 9 = false := hi
        have hp := hC.pif
        simp [Region.binds] at hd
        have e8 : a.tmps.getD 12 undef = (.bool true) := hp.pu (8, 12, (.bool true)) (by simp [rows, rmCP, rmCM, rmCC, setR]) (by simp [hd])
        have f8 : a.tmps[12]?.getD undef = (.bool true) := by rw [← Array.getD_eq_getD_getElem?]; exact e8
        exact rstep_un (unwanted_of 8 12 false true (by decide) rfl rfl e8) ⟨R, hC.pure 9 13 undef (by simp [rows, rmCP, rmCM, rmCC, setR]) (by simp [rows, rmCP, rmCM, rmCC, setR]) (by simp [rmCM]) (by simp [rmCC]) rfl (by rw [hsz0]; exact (by decide : 13 < 88)) (by decide) (by simp) (by simp)⟩
      · intro L a w1 hI hi hd
        obtain ⟨R, hC⟩ := hI
        have hi : L 10 = false := hi
        have hp := hC.pif
        simp [Region.binds] at hd
        have e8 : a.tmps.getD 12 undef = (.bool true) := hp.pu (8, 12, (.bool true)) (by simp [rows, rmCP, rmCM, rmCC, setR]) (by simp [hd])
        have f8 : a.tmps[12]?.getD undef = (.bool true) := by rw [← Array.getD_eq_getD_getElem?]; exact e8
        exact rstep_un (unwanted_of 8 12 false true (by decide) rfl rfl e8) ⟨R, hC.pure 10 14 undef (by simp [rows, rmCP, rmCM, rmCC, setR]) (by simp [rows, rmCP, rmCM, rmCC, setR]) (by simp [rmCM]) (by simp [rmCC]) rfl (by rw [hsz0]; exact (by decide : 14 < 88)) (by decide) (by simp) (by simp)⟩
      · intro L a w1 hI hi hd
        obtain ⟨R, hC⟩ := hI
        have hi : L 11 = false := hi
        have hp := hC.pif
        simp [Region.binds] at hd
        have e8 : a.tmps.getD 12 undef = (.bool true) := hp.pu (8, 12, (.bool true)) (by simp [rows, rmCP, rmCM, rmCC, setR]) (by simp [hd])
        have f8 : a.tmps[12]?.getD undef = (.bool true) := by rw [← Array.getD_eq_getD_getElem?]; exact e8
        exact rstep_un (unwanted_of 8 12 false true (by decide) rfl rfl e8) ⟨R, hC.pure 11 15 undef (by simp [rows, rmCP, rmCM, rmCC, setR]) (by simp [rows, rmCP, rmCM, rmCC, setR]) (by simp [rmCM]) (by simp [rmCC]) rfl (by rw [hsz0]; exact (by decide : 15 < 88)) (by decide) (by simp) (by simp)⟩
      · intro L a w1 hI hi hd
        obtain ⟨R, hC⟩ := hI
        have hi : L 12 = false := hi
        have hp := hC.pif
        simp [Region.binds] at hd
        have e8 : a.tmps.getD 12 undef = (.bool true) := hp.pu (8, 12, (.bool true)) (by simp [rows, rmCP, rmCM, rmCC, setR]) (by simp [hd])
        have f8 : a.tmps[12]?.getD undef = (.bool true) := by rw [← Array.getD_eq_getD_getElem?]; exact e8
        exact rstep_un (unwanted_of 8 12 false true (by decide) rfl rfl e8) ⟨R, hC.pure 12 16 undef (by simp [rows, rmCP, rmCM, rmCC, setR]) (by simp [rows, rmCP, rmCM, rmCC, setR]) (by simp [rmCM]) (by simp [rmCC]) rfl (by rw [hsz0]; exact (by decide : 16 < 88)) (by decide) (by simp) (by simp)⟩
      · intro L a w1 hI hi hd
        obtain ⟨R, hC⟩ := hI
        have hi : L 13 = false := hi
        have hp := hC.pif
        simp [Region.binds] at hd
        have e8 : a.tmps.getD 12 undef = (.bool true) := hp.pu (8, 12, (.bool true)) (by simp [rows, rmCP, rmCM, rmCC, setR]) (by simp [hd])
        have f8 : a.tmps[12]?.getD undef = (.bool true) := by rw [← Array.getD_eq_getD_getElem?]; exact e8
        exact rstep_un (unwanted_of 8 12 false true (by decide) rfl rfl e8) ⟨R, hC.pure 13 17 undef (by simp [rows, rmCP, rmCM, rmCC, setR]) (by simp [rows, rmCP, rmCM, rmCC, setR]) (by simp [rmCM]) (by simp [rmCC]) rfl (by rw [hsz0]; exact (by decide : 17 < 88)) (by decide) (by simp) (by simp)⟩
      · intro L a w1 hI hi hd
        obtain ⟨R, hC⟩ := hI
        have hi : L 14 = false := hi
        have hp := hC.pif
        simp [Region.binds] at hd
        have e8 : a.tmps.getD 12 undef = (.bool true) := hp.pu (8, 12, (.bool true)) (by simp [rows, rmCP, rmCM, rmCC, setR]) (by simp [hd])
        have f8 : a.tmps[12]?.getD undef = (.bool true) := by rw [← Array.getD_eq_getD_getElem?]; exact e8
        exact rstep_valW (wanted_none rfl _) (.bool true) w1 (by go_simp) ⟨R, hC.pure 14 18 (.bool true) (by simp [rows, rmCP, rmCM, rmCC, setR]) (by simp [rows, rmCP, rmCM, rmCC, setR]) (by simp [rmCM]) (by simp [rmCC]) rfl (by rw [hsz0]; exact (by decide : 18 < 88)) (by decide) (by simp) (by simp)⟩
    rintro L a W ⟨R, hC⟩ hL
    have hp := hC.pif
    have e14 : a.tmps.getD 18 undef = (.bool true) := hp.pu (14, 18, (.bool true)) (by simp [rows, rmCP, rmCM, rmCC, setR]) (hL 14 (by simp))
    have hBW := hC.bel
    rw [hp.eq]
    refine of_assigns (P := Try.prog) _ _ _ _ ?_
    rw [ha0.out]
    simp only [asgs, List.map, e14]
    generalize a.tmps.getD 4 undef = u4
    generalize a.tmps.getD 5 undef = u5
    generalize a.tmps.getD 6 undef = u6
    generalize a.tmps.getD 7 undef = u7
    generalize a.tmps.getD 8 undef = u8
    generalize a.tmps.getD 9 undef = u9
    generalize a.tmps.getD 10 undef = u10
    generalize a.tmps.getD 11 undef = u11
    generalize a.tmps.getD 12 undef = u12
    generalize a.tmps.getD 13 undef = u13
    generalize a.tmps.getD 14 undef = u14
    generalize a.tmps.getD 15 undef = u15
    generalize a.tmps.getD 16 undef = u16
    generalize a.tmps.getD 17 undef = u17
    clear hp hL e14 ha0 z1 hsz0 hC
    clear a0 a L R
    have HBB := Lib.hid (below_step hb hBW (Nat.le_refl _))
    have HNM : Hid (¬ P) := Lib.hid fun q => by have := (hP.out.1 q).1; omega
    clear hBW hOb hbV hB0 hx hb
    go_wp2
    go_ret
    exact BoolPost.no HNM.out HBB.out
  by_cases hsb : s = LogM.bare s
  rotate_left
  · as_aux_lemma =>
    skip
    skip
    have hB0 : Below V0.heap.size V0 V0 := Below.refl _ _
    have hbV : V0.heap.size ≤ V0.heap.size := Nat.le_refl _
    have hOb : Own V0 V0.heap.size (⟨none, 0, 0⟩ : Rs).A (⟨none, 0, 0⟩ : Rs).c [] := Own.nil_ _ _
    refine wp_named fun a0 ha0 => ?_
    have z1 : a0.tmps.getD 1 undef = (.pointer (some ⟨g, 0, none⟩)) := by rw [ha0.out]; rfl
    have hsz0 : a0.tmps.size = 88 := by rw [ha0.out]; rfl
    refine wp_region_invB _ (by kernel_rfl) (fun L a wv => ∃ R, Ch a0 [4, 5, 6, 7, 8, 9, 10, 11, 12, 13, 14, 15, 16, 17, 18] (rmNP s y g) (rmNM s y g) rmNC V0.heap.size V0 V0.heap.size (⟨none, 0, 0⟩ : Rs) ([]) 99 [] 0 999 R L a wv) (by kernel_rfl) ?_ ?_ ?_
    · exact ⟨fun _ => ⟨none, 0, 0⟩, Ch.start hbV ⟨rfl, rfl, rfl, Nat.le_refl _, fun _ _ => rfl⟩ hOb⟩
    rotate_left
    · as_aux_lemma =>
      refine ⟨?_, ?_, ?_, ?_, ?_, ?_, ?_, ?_, ?_, ?_, ?_, ?_, ?_, ?_, ?_, trivial⟩
      · intro L a w1 hI hi hd
        obtain ⟨R, hC⟩ := hI
        have hi : L 0 = false := hi
        have hp := hC.pif
        have t1 := hp.at_ 1 _ rfl z1
        have t1' := t1
        rw [Array.getD_eq_getD_getElem?] at t1'
        exact rstep_valW (wanted_none rfl _) (.pointer (some ⟨g, 0, none⟩)) w1 (by go_simp) ⟨R, hC.pure 0 4 (.pointer (some ⟨g, 0, none⟩)) (by simp [rows, rmNP, rmNM, rmNC, setR]) (by simp [rows, rmNP, rmNM, rmNC, setR]) (by simp [rmNM]) (by simp [rmNC]) rfl (by rw [hsz0]; exact (by decide : 4 < 88)) (by decide) (by simp) (by simp)⟩
      · intro L a w1 hI hi hd
        obtain ⟨R, hC⟩ := hI
        have hi : L 1 = false := hi
        have hp := hC.pif
        simp [Region.binds] at hd
        have e0 : a.tmps.getD 4 undef = (.pointer (some ⟨g, 0, none⟩)) := hp.pu (0, 4, (.pointer (some ⟨g, 0, none⟩))) (by simp [rows, rmNP, rmNM, rmNC, setR]) (by simp [hd])
        have f0 : a.tmps[4]?.getD undef = (.pointer (some ⟨g, 0, none⟩)) := by rw [← Array.getD_eq_getD_getElem?]; exact e0
        have d0 := (hx.below (hB0.trans hC.bel) hx.lt).c15.1
        exact rstep_valW (wanted_none rfl _) (.int .i64 s.kind) w1 (by go_simp) ⟨R, hC.pure 1 5 (.int .i64 s.kind) (by simp [rows, rmNP, rmNM, rmNC, setR]) (by simp [rows, rmNP, rmNM, rmNC, setR]) (by simp [rmNM]) (by simp [rmNC]) rfl (by rw [hsz0]; exact (by decide : 5 < 88)) (by decide) (by simp) (by simp)⟩
      · intro L a w1 hI hi hd
        obtain ⟨R, hC⟩ := hI
        have hi : L 2 = false := hi
        have hp := hC.pif
        simp [Region.binds] at hd
        have e1 : a.tmps.getD 5 undef = (.int .i64 s.kind) := hp.pu (1, 5, (.int .i64 s.kind)) (by simp [rows, rmNP, rmNM, rmNC, setR]) (by simp [hd])
        have f1 : a.tmps[5]?.getD undef = (.int .i64 s.kind) := by rw [← Array.getD_eq_getD_getElem?]; exact e1
        exact rstep_valW (wanted_none rfl _) (.bool false) w1 (by go_simp) ⟨R, hC.pure 2 6 (.bool false) (by simp [rows, rmNP, rmNM, rmNC, setR]) (by simp [rows, rmNP, rmNM, rmNC, setR]) (by simp [rmNM]) (by simp [rmNC]) rfl (by rw [hsz0]; exact (by decide : 6 < 88)) (by decide) (by simp) (by simp)⟩
      · intro L a w1 hI hi hd
        obtain ⟨R, hC⟩ := hI
        have hi : L 3 = false := hi
        have hp := hC.pif
        simp [Region.binds] at hd
        have e2 : a.tmps.getD 6 undef = (.bool false) := hp.pu (2, 6, (.bool false)) (by simp [rows, rmNP, rmNM, rmNC, setR]) (by simp [hd])
        have f2 : a.tmps[6]?.getD undef = (.bool false) := by rw [← Array.getD_eq_getD_getElem?]; exact e2
        exact rstep_valW (wanted_none rfl _) (.bool false) w1 (by go_simp) ⟨R, hC.pure 3 7 (.bool false) (by simp [rows, rmNP, rmNM, rmNC, setR]) (by simp [rows, rmNP, rmNM, rmNC, setR]) (by simp [rmNM]) (by simp [rmNC]) rfl (by rw [hsz0]; exact (by decide : 7 < 88)) (by decide) (by simp) (by simp)⟩
      · intro L a w1 hI hi hd
        obtain ⟨R, hC⟩ := hI
        have hi : L 4 = false := hi
        have hp := hC.pif
        simp [Region.binds] at hd
        have e3 : a.tmps.getD 7 undef = (.bool false) := hp.pu (3, 7, (.bool false)) (by simp [rows, rmNP, rmNM, rmNC, setR]) (by simp [hd])
        have f3 : a.tmps[7]?.getD undef = (.bool false) := by rw [← Array.getD_eq_getD_getElem?]; exact e3
        have t1 := hp.at_ 1 _ rfl z1
        have t1' := t1
        rw [Array.getD_eq_getD_getElem?] at t1'
        exact rstep_valW (wanted_of 3 7 false rfl rfl e3) (.pointer (some ⟨g, 0, none⟩)) w1 (by go_simp) ⟨R, hC.pure 4 8 (.pointer (some ⟨g, 0, none⟩)) (by simp [rows, rmNP, rmNM, rmNC, setR]) (by simp [rows, rmNP, rmNM, rmNC, setR]) (by simp [rmNM]) (by simp [rmNC]) rfl (by rw [hsz0]; exact (by decide : 8 < 88)) (by decide) (by simp) (by simp)⟩
      · intro L a w1 hI hi hd
        obtain ⟨R, hC⟩ := hI
        have hi : L 5 = false := hi
        have hp := hC.pif
        simp [Region.binds] at hd
        have e3 : a.tmps.getD 7 undef = (.bool false) := hp.pu (3, 7, (.bool false)) (by simp [rows, rmNP, rmNM, rmNC, setR]) (by simp [hd])
        have f3 : a.tmps[7]?.getD undef = (.bool false) := by rw [← Array.getD_eq_getD_getElem?]; exact e3
        have e4 : a.tmps.getD 8 undef = (.pointer (some ⟨g, 0, none⟩)) := hp.pu (4, 8, (.pointer (some ⟨g, 0, none⟩))) (by simp [rows, rmNP, rmNM, rmNC, setR]) (by simp [hd])
        have f4 : a.tmps[8]?.getD undef = (.pointer (some ⟨g, 0, none⟩)) := by rw [← Array.getD_eq_getD_getElem?]; exact e4
        have d0 := (hx.below (hB0.trans hC.bel) hx.lt).c15.1
        exact rstep_valW (wanted_of 3 7 false rfl rfl e3) (.int .i64 s.kind) w1 (by go_simp) ⟨R, hC.pure 5 9 (.int .i64 s.kind) (by simp [rows, rmNP, rmNM, rmNC, setR]) (by simp [rows, rmNP, rmNM, rmNC, setR]) (by simp [rmNM]) (by simp [rmNC]) rfl (by rw [hsz0]; exact (by decide : 9 < 88)) (by decide) (by simp) (by simp)⟩
      · intro L a w1 hI hi hd
        obtain ⟨R, hC⟩ := hI
        have hi : L 6 = false := hi
        have hp := hC.pif
        simp [Region.binds] at hd
        have e3 : a.tmps.getD 7 undef = (.bool false) := hp.pu (3, 7, (.bool false)) (by simp [rows, rmNP, rmNM, rmNC, setR]) (by simp [hd])
        have f3 : a.tmps[7]?.getD undef = (.bool false) := by rw [← Array.getD_eq_getD_getElem?]; exact e3
        have e5 : a.tmps.getD 9 undef = (.int .i64 s.kind) := hp.pu (5, 9, (.int .i64 s.kind)) (by simp [rows, rmNP, rmNM, rmNC, setR]) (by simp [hd])
        have f5 : a.tmps[9]?.getD undef = (.int .i64 s.kind) := by rw [← Array.getD_eq_getD_getElem?]; exact e5
        exact rstep_valW (wanted_of 3 7 false rfl rfl e3) (.bool false) w1 (by go_simp) ⟨R, hC.pure 6 10 (.bool false) (by simp [rows, rmNP, rmNM, rmNC, setR]) (by simp [rows, rmNP, rmNM, rmNC, setR]) (by simp [rmNM]) (by simp [rmNC]) rfl (by rw [hsz0]; exact (by decide : 10 < 88)) (by decide) (by simp) (by simp)⟩
      · intro L a w1 hI hi hd
        obtain ⟨R, hC⟩ := hI
        have hi : L 7 = false := hi
        have hp := hC.pif
        simp [Region.binds] at hd
        have e3 : a.tmps.getD 7 undef = (.bool false) := hp.pu (3, 7, (.bool false)) (by simp [rows, rmNP, rmNM, rmNC, setR]) (by simp [hd])
        have f3 : a.tmps[7]?.getD undef = (.bool false) := by rw [← Array.getD_eq_getD_getElem?]; exact e3
        have e6 : a.tmps.getD 10 undef = (.bool false) := hp.pu (6, 10, (.bool false)) (by simp [rows, rmNP, rmNM, rmNC, setR]) (by simp [hd])
        have f6 : a.tmps[10]?.getD undef = (.bool false) := by rw [← Array.getD_eq_getD_getElem?]; exact e6
        exact rstep_valW (wanted_none rfl _) (.bool false) w1 (by go_simp) ⟨R, hC.pure 7 11 (.bool false) (by simp [rows, rmNP, rmNM, rmNC, setR]) (by simp [rows, rmNP, rmNM, rmNC, setR]) (by simp [rmNM]) (by simp [rmNC]) rfl (by rw [hsz0]; exact (by decide : 11 < 88)) (by decide) (by simp) (by simp)⟩
      · intro L a w1 hI hi hd
        obtain ⟨R, hC⟩ := hI
        have hi : L 8 = false := hi
        have hp := hC.pif
        simp [Region.binds] at hd
        have e7 : a.tmps.getD 11 undef = (.bool false) := hp.pu (7, 11, (.bool false)) (by simp [rows, rmNP, rmNM, rmNC, setR]) (by simp [hd])
        have f7 : a.tmps[11]?.getD undef = (.bool false) := by rw [← Array.getD_eq_getD_getElem?]; exact e7
        exact rstep_valW (wanted_none rfl _) (.bool false) w1 (by go_simp) ⟨R, hC.pure 8 12 (.bool false) (by simp [rows, rmNP, rmNM, rmNC, setR]) (by simp [rows, rmNP, rmNM, rmNC, setR]) (by simp [rmNM]) (by simp [rmNC]) rfl (by rw [hsz0]; exact (by decide : 12 < 88)) (by decide) (by simp) (by simp)⟩
      · intro L a w1 hI hi hd
        obtain ⟨R, hC⟩ := hI
        have hi : L 9 = false := hi
        have hp := hC.pif
        simp [Region.binds] at hd
        have e8 : a.tmps.getD 12 undef = (.bool false) := hp.pu (8, 12, (.bool false)) (by simp [rows, rmNP, rmNM, rmNC, setR]) (by simp [hd])
        have f8 : a.tmps[12]?.getD undef = (.bool false) := by rw [← Array.getD_eq_getD_getElem?]; exact e8
        have t1 := hp.at_ 1 _ rfl z1
        have t1' := t1
        rw [Array.getD_eq_getD_getElem?] at t1'
        exact rstep_valW (wanted_of 8 12 false rfl rfl e8) (.agg #[.int .i64 s.kind, .int .u64 (s.lsn : Int), .int .u32 (s.epoch : Int), .int .u64 (s.txn : Int), .int .u32 (s.page : Int), .int .u16 (s.off : Int), .slice y.oA y.on y.oc, .slice y.nA y.nn y.nc, .slice y.uA y.un y.uc, .int .u64 (s.prev : Int), .int .u64 (s.next : Int), .bool s.clr, .int .u64 (s.stamp : Int), .slice y.pA y.pn y.pc, .slice y.dA y.dn y.dc]) w1 (exec_load_row _ (.tmp 1) rfl g t1 _ _ _ (hx.below (hB0.trans hC.bel) hx.lt) Try.underlying31 rfl (by kernel_rfl)) ⟨R, hC.pure 9 13 (.agg #[.int .i64 s.kind, .int .u64 (s.lsn : Int), .int .u32 (s.epoch : Int), .int .u64 (s.txn : Int), .int .u32 (s.page : Int), .int .u16 (s.off : Int), .slice y.oA y.on y.oc, .slice y.nA y.nn y.nc, .slice y.uA y.un y.uc, .int .u64 (s.prev : Int), .int .u64 (s.next : Int), .bool s.clr, .int .u64 (s.stamp : Int), .slice y.pA y.pn y.pc, .slice y.dA y.dn y.dc]) (by simp [rows, rmNP, rmNM, rmNC, setR]) (by simp [rows, rmNP, rmNM, rmNC, setR]) (by simp [rmNM]) (by simp [rmNC]) rfl (by rw [hsz0]; exact (by decide : 13 < 88)) (by decide) (by simp) (by simp)⟩
      · intro L a w1 hI hi hd
        obtain ⟨R, hC⟩ := hI
        have hi : L 10 = false := hi
        have hp := hC.pif
        simp [Region.binds] at hd
        have e8 : a.tmps.getD 12 undef = (.bool false) := hp.pu (8, 12, (.bool false)) (by simp [rows, rmNP, rmNM, rmNC, setR]) (by simp [hd])
        have f8 : a.tmps[12]?.getD undef = (.bool false) := by rw [← Array.getD_eq_getD_getElem?]; exact e8
        have t1 := hp.at_ 1 _ rfl z1
        have t1' := t1
        rw [Array.getD_eq_getD_getElem?] at t1'
        exact rstep_valW (wanted_of 8 12 false rfl rfl e8) (.agg #[.int .i64 s.kind, .int .u64 (s.lsn : Int), .int .u32 (s.epoch : Int), .int .u64 (s.txn : Int), .int .u32 (s.page : Int), .int .u16 (s.off : Int), .slice y.oA y.on y.oc, .slice y.nA y.nn y.nc, .slice y.uA y.un y.uc, .int .u64 (s.prev : Int), .int .u64 (s.next : Int), .bool s.clr, .int .u64 (s.stamp : Int), .slice y.pA y.pn y.pc, .slice y.dA y.dn y.dc]) w1 (exec_load_row _ (.tmp 1) rfl g t1 _ _ _ (hx.below (hB0.trans hC.bel) hx.lt) Try.underlying31 rfl (by kernel_rfl)) ⟨R, hC.pure 10 14 (.agg #[.int .i64 s.kind, .int .u64 (s.lsn : Int), .int .u32 (s.epoch : Int), .int .u64 (s.txn : Int), .int .u32 (s.page : Int), .int .u16 (s.off : Int), .slice y.oA y.on y.oc, .slice y.nA y.nn y.nc, .slice y.uA y.un y.uc, .int .u64 (s.prev : Int), .int .u64 (s.next : Int), .bool s.clr, .int .u64 (s.stamp : Int), .slice y.pA y.pn y.pc, .slice y.dA y.dn y.dc]) (by simp [rows, rmNP, rmNM, rmNC, setR]) (by simp [rows, rmNP, rmNM, rmNC, setR]) (by simp [rmNM]) (by simp [rmNC]) rfl (by rw [hsz0]; exact (by decide : 14 < 88)) (by decide) (by simp) (by simp)⟩
      · intro L a w1 hI hi hd
        obtain ⟨R, hC⟩ := hI
        have hi : L 11 = false := hi
        have hp := hC.pif
        simp [Region.binds] at hd
        have e8 : a.tmps.getD 12 undef = (.bool false) := hp.pu (8, 12, (.bool false)) (by simp [rows, rmNP, rmNM, rmNC, setR]) (by simp [hd])
        have f8 : a.tmps[12]?.getD undef = (.bool false) := by rw [← Array.getD_eq_getD_getElem?]; exact e8
        have e10 : a.tmps.getD 14 undef = (.agg #[.int .i64 s.kind, .int .u64 (s.lsn : Int), .int .u32 (s.epoch : Int), .int .u64 (s.txn : Int), .int .u32 (s.page : Int), .int .u16 (s.off : Int), .slice y.oA y.on y.oc, .slice y.nA y.nn y.nc, .slice y.uA y.un y.uc, .int .u64 (s.prev : Int), .int .u64 (s.next : Int), .bool s.clr, .int .u64 (s.stamp : Int), .slice y.pA y.pn y.pc, .slice y.dA y.dn y.dc]) := hp.pu (10, 14, (.agg #[.int .i64 s.kind, .int .u64 (s.lsn : Int), .int .u32 (s.epoch : Int), .int .u64 (s.txn : Int), .int .u32 (s.page : Int), .int .u16 (s.off : Int), .slice y.oA y.on y.oc, .slice y.nA y.nn y.nc, .slice y.uA y.un y.uc, .int .u64 (s.prev : Int), .int .u64 (s.next : Int), .bool s.clr, .int .u64 (s.stamp : Int), .slice y.pA y.pn y.pc, .slice y.dA y.dn y.dc])) (by simp [rows, rmNP, rmNM, rmNC, setR]) (by simp [hd])
        have f10 : a.tmps[14]?.getD undef = (.agg #[.int .i64 s.kind, .int .u64 (s.lsn : Int), .int .u32 (s.epoch : Int), .int .u64 (s.txn : Int), .int .u32 (s.page : Int), .int .u16 (s.off : Int), .slice y.oA y.on y.oc, .slice y.nA y.nn y.nc, .slice y.uA y.un y.uc, .int .u64 (s.prev : Int), .int .u64 (s.next : Int), .bool s.clr, .int .u64 (s.stamp : Int), .slice y.pA y.pn y.pc, .slice y.dA y.dn y.dc]) := by rw [← Array.getD_eq_getD_getElem?]; exact e10
        refine rstep_callW (wanted_of 8 12 false rfl rfl e8) 33 #[.agg #[.int .i64 s.kind, .int .u64 (s.lsn : Int), .int .u32 (s.epoch : Int), .int .u64 (s.txn : Int), .int .u32 (s.page : Int), .int .u16 (s.off : Int), .slice y.oA y.on y.oc, .slice y.nA y.nn y.nc, .slice y.uA y.un y.uc, .int .u64 (s.prev : Int), .int .u64 (s.next : Int), .bool s.clr, .int .u64 (s.stamp : Int), .slice y.pA y.pn y.pc, .slice y.dA y.dn y.dc]] (by go_simp) ?_
        refine (bare_any s y w1).mono ?_
        rintro e w2 ⟨rfl, hb⟩
        exact ⟨R, hC.pureW hb 11 15 (.agg #[.int .i64 (LogM.bare s).kind, .int .u64 ((LogM.bare s).lsn : Int), .int .u32 ((LogM.bare s).epoch : Int), .int .u64 ((LogM.bare s).txn : Int), .int .u32 ((LogM.bare s).page : Int), .int .u16 ((LogM.bare s).off : Int), .slice (bareL s.kind y).oA (bareL s.kind y).on (bareL s.kind y).oc, .slice (bareL s.kind y).nA (bareL s.kind y).nn (bareL s.kind y).nc, .slice (bareL s.kind y).uA (bareL s.kind y).un (bareL s.kind y).uc, .int .u64 ((LogM.bare s).prev : Int), .int .u64 ((LogM.bare s).next : Int), .bool (LogM.bare s).clr, .int .u64 ((LogM.bare s).stamp : Int), .slice (bareL s.kind y).pA (bareL s.kind y).pn (bareL s.kind y).pc, .slice (bareL s.kind y).dA (bareL s.kind y).dn (bareL s.kind y).dc]) (by simp [rows, rmNP, rmNM, rmNC, setR]) (by simp [rows, rmNP, rmNM, rmNC, setR]) (by simp [rmNM]) (by simp [rmNC]) rfl (by rw [hsz0]; exact (by decide : 15 < 88)) (by decide) (by simp) (by simp)⟩
      · intro L a w1 hI hi hd
        obtain ⟨R, hC⟩ := hI
        have hi : L 12 = false := hi
        have hp := hC.pif
        simp [Region.binds] at hd
        have e8 : a.tmps.getD 12 undef = (.bool false) := hp.pu (8, 12, (.bool false)) (by simp [rows, rmNP, rmNM, rmNC, setR]) (by simp [hd])
        have f8 : a.tmps[12]?.getD undef = (.bool false) := by rw [← Array.getD_eq_getD_getElem?]; exact e8
        have e9 : a.tmps.getD 13 undef = (.agg #[.int .i64 s.kind, .int .u64 (s.lsn : Int), .int .u32 (s.epoch : Int), .int .u64 (s.txn : Int), .int .u32 (s.page : Int), .int .u16 (s.off : Int), .slice y.oA y.on y.oc, .slice y.nA y.nn y.nc, .slice y.uA y.un y.uc, .int .u64 (s.prev : Int), .int .u64 (s.next : Int), .bool s.clr, .int .u64 (s.stamp : Int), .slice y.pA y.pn y.pc, .slice y.dA y.dn y.dc]) := hp.pu (9, 13, (.agg #[.int .i64 s.kind, .int .u64 (s.lsn : Int), .int .u32 (s.epoch : Int), .int .u64 (s.txn : Int), .int .u32 (s.page : Int), .int .u16 (s.off : Int), .slice y.oA y.on y.oc, .slice y.nA y.nn y.nc, .slice y.uA y.un y.uc, .int .u64 (s.prev : Int), .int .u64 (s.next : Int), .bool s.clr, .int .u64 (s.stamp : Int), .slice y.pA y.pn y.pc, .slice y.dA y.dn y.dc])) (by simp [rows, rmNP, rmNM, rmNC, setR]) (by simp [hd])
        have f9 : a.tmps[13]?.getD undef = (.agg #[.int .i64 s.kind, .int .u64 (s.lsn : Int), .int .u32 (s.epoch : Int), .int .u64 (s.txn : Int), .int .u32 (s.page : Int), .int .u16 (s.off : Int), .slice y.oA y.on y.oc, .slice y.nA y.nn y.nc, .slice y.uA y.un y.uc, .int .u64 (s.prev : Int), .int .u64 (s.next : Int), .bool s.clr, .int .u64 (s.stamp : Int), .slice y.pA y.pn y.pc, .slice y.dA y.dn y.dc]) := by rw [← Array.getD_eq_getD_getElem?]; exact e9
        have e11 : a.tmps.getD 15 undef = (.agg #[.int .i64 (LogM.bare s).kind, .int .u64 ((LogM.bare s).lsn : Int), .int .u32 ((LogM.bare s).epoch : Int), .int .u64 ((LogM.bare s).txn : Int), .int .u32 ((LogM.bare s).page : Int), .int .u16 ((LogM.bare s).off : Int), .slice (bareL s.kind y).oA (bareL s.kind y).on (bareL s.kind y).oc, .slice (bareL s.kind y).nA (bareL s.kind y).nn (bareL s.kind y).nc, .slice (bareL s.kind y).uA (bareL s.kind y).un (bareL s.kind y).uc, .int .u64 ((LogM.bare s).prev : Int), .int .u64 ((LogM.bare s).next : Int), .bool (LogM.bare s).clr, .int .u64 ((LogM.bare s).stamp : Int), .slice (bareL s.kind y).pA (bareL s.kind y).pn (bareL s.kind y).pc, .slice (bareL s.kind y).dA (bareL s.kind y).dn (bareL s.kind y).dc]) := hp.pu (11, 15, (.agg #[.int .i64 (LogM.bare s).kind, .int .u64 ((LogM.bare s).lsn : Int), .int .u32 ((LogM.bare s).epoch : Int), .int .u64 ((LogM.bare s).txn : Int), .int .u32 ((LogM.bare s).page : Int), .int .u16 ((LogM.bare s).off : Int), .slice (bareL s.kind y).oA (bareL s.kind y).on (bareL s.kind y).oc, .slice (bareL s.kind y).nA (bareL s.kind y).nn (bareL s.kind y).nc, .slice (bareL s.kind y).uA (bareL s.kind y).un (bareL s.kind y).uc, .int .u64 ((LogM.bare s).prev : Int), .int .u64 ((LogM.bare s).next : Int), .bool (LogM.bare s).clr, .int .u64 ((LogM.bare s).stamp : Int), .slice (bareL s.kind y).pA (bareL s.kind y).pn (bareL s.kind y).pc, .slice (bareL s.kind y).dA (bareL s.kind y).dn (bareL s.kind y).dc])) (by simp [rows, rmNP, rmNM, rmNC, setR]) (by simp [hd])
        have f11 : a.tmps[15]?.getD undef = (.agg #[.int .i64 (LogM.bare s).kind, .int .u64 ((LogM.bare s).lsn : Int), .int .u32 ((LogM.bare s).epoch : Int), .int .u64 ((LogM.bare s).txn : Int), .int .u32 ((LogM.bare s).page : Int), .int .u16 ((LogM.bare s).off : Int), .slice (bareL s.kind y).oA (bareL s.kind y).on (bareL s.kind y).oc, .slice (bareL s.kind y).nA (bareL s.kind y).nn (bareL s.kind y).nc, .slice (bareL s.kind y).uA (bareL s.kind y).un (bareL s.kind y).uc, .int .u64 ((LogM.bare s).prev : Int), .int .u64 ((LogM.bare s).next : Int), .bool (LogM.bare s).clr, .int .u64 ((LogM.bare s).stamp : Int), .slice (bareL s.kind y).pA (bareL s.kind y).pn (bareL s.kind y).pc, .slice (bareL s.kind y).dA (bareL s.kind y).dn (bareL s.kind y).dc]) := by rw [← Array.getD_eq_getD_getElem?]; exact e11
        have hq := HS.out.below hC.bel
        refine rstep_callW (wanted_of 8 12 false rfl rfl e8) 11 #[.agg #[.int .i64 s.kind, .int .u64 (s.lsn : Int), .int .u32 (s.epoch : Int), .int .u64 (s.txn : Int), .int .u32 (s.page : Int), .int .u16 (s.off : Int), .slice y.oA y.on y.oc, .slice y.nA y.nn y.nc, .slice y.uA y.un y.uc, .int .u64 (s.prev : Int), .int .u64 (s.next : Int), .bool s.clr, .int .u64 (s.stamp : Int), .slice y.pA y.pn y.pc, .slice y.dA y.dn y.dc], .agg #[.int .i64 (LogM.bare s).kind, .int .u64 ((LogM.bare s).lsn : Int), .int .u32 ((LogM.bare s).epoch : Int), .int .u64 ((LogM.bare s).txn : Int), .int .u32 ((LogM.bare s).page : Int), .int .u16 ((LogM.bare s).off : Int), .slice (bareL s.kind y).oA (bareL s.kind y).on (bareL s.kind y).oc, .slice (bareL s.kind y).nA (bareL s.kind y).nn (bareL s.kind y).nc, .slice (bareL s.kind y).uA (bareL s.kind y).un (bareL s.kind y).uc, .int .u64 ((LogM.bare s).prev : Int), .int .u64 ((LogM.bare s).next : Int), .bool (LogM.bare s).clr, .int .u64 ((LogM.bare s).stamp : Int), .slice (bareL s.kind y).pA (bareL s.kind y).pn (bareL s.kind y).pc, .slice (bareL s.kind y).dA (bareL s.kind y).dn (bareL s.kind y).dc]] (by go_simp) ?_
        refine (rsame_any s (LogM.bare s) y (bareL s.kind y) w1 hq hq.bare).mono ?_
        rintro e w2 ⟨r, rfl, HR1, hb⟩
        obtain rfl : r = false := by cases r with | false => rfl | true => exact absurd (HR1.out.1 rfl) hsb
        exact ⟨R, hC.pureW hb 12 16 (.bool false) (by simp [rows, rmNP, rmNM, rmNC, setR]) (by simp [rows, rmNP, rmNM, rmNC, setR]) (by simp [rmNM]) (by simp [rmNC]) rfl (by rw [hsz0]; exact (by decide : 16 < 88)) (by decide) (by simp) (by simp)⟩
      · intro L a w1 hI hi hd
        obtain ⟨R, hC⟩ := hI
        have hi : L 13 = false := hi
        have hp := hC.pif
        simp [Region.binds] at hd
        have e8 : a.tmps.getD 12 undef = (.bool false) := hp.pu (8, 12, (.bool false)) (by simp [rows, rmNP, rmNM, rmNC, setR]) (by simp [hd])
        have f8 : a.tmps[12]?.getD undef = (.bool false) := by rw [← Array.getD_eq_getD_getElem?]; exact e8
        have e12 : a.tmps.getD 16 undef = (.bool false) := hp.pu (12, 16, (.bool false)) (by simp [rows, rmNP, rmNM, rmNC, setR]) (by simp [hd])
        have f12 : a.tmps[16]?.getD undef = (.bool false) := by rw [← Array.getD_eq_getD_getElem?]; exact e12
        exact rstep_valW (wanted_of 8 12 false rfl rfl e8) (.bool true) w1 (by go_simp) ⟨R, hC.pure 13 17 (.bool true) (by simp [rows, rmNP, rmNM, rmNC, setR]) (by simp [rows, rmNP, rmNM, rmNC, setR]) (by simp [rmNM]) (by simp [rmNC]) rfl (by rw [hsz0]; exact (by decide : 17 < 88)) (by decide) (by simp) (by simp)⟩
      · intro L a w1 hI hi hd
        obtain ⟨R, hC⟩ := hI
        have hi : L 14 = false := hi
        have hp := hC.pif
        simp [Region.binds] at hd
        have e8 : a.tmps.getD 12 undef = (.bool false) := hp.pu (8, 12, (.bool false)) (by simp [rows, rmNP, rmNM, rmNC, setR]) (by simp [hd])
        have f8 : a.tmps[12]?.getD undef = (.bool false) := by rw [← Array.getD_eq_getD_getElem?]; exact e8
        have e13 : a.tmps.getD 17 undef = (.bool true) := hp.pu (13, 17, (.bool true)) (by simp [rows, rmNP, rmNM, rmNC, setR]) (by simp [hd])
        have f13 : a.tmps[17]?.getD undef = (.bool true) := by rw [← Array.getD_eq_getD_getElem?]; exact e13
        exact rstep_valW (wanted_none rfl _) (.bool true) w1 (by go_simp) ⟨R, hC.pure 14 18 (.bool true) (by simp [rows, rmNP, rmNM, rmNC, setR]) (by simp [rows, rmNP, rmNM, rmNC, setR]) (by simp [rmNM]) (by simp [rmNC]) rfl (by rw [hsz0]; exact (by decide : 18 < 88)) (by decide) (by simp) (by simp)⟩
    rintro L a W ⟨R, hC⟩ hL
    have hp := hC.pif
    have e14 : a.tmps.getD 18 undef = (.bool true) := hp.pu (14, 18, (.bool true)) (by simp [rows, rmNP, rmNM, rmNC, setR]) (hL 14 (by simp))
    have hBW := hC.bel
    rw [hp.eq]
    refine of_assigns (P := Try.prog) _ _ _ _ ?_
    rw [ha0.out]
    simp only [asgs, List.map, e14]
    generalize a.tmps.getD 4 undef = u4
    generalize a.tmps.getD 5 undef = u5
    generalize a.tmps.getD 6 undef = u6
    generalize a.tmps.getD 7 undef = u7
    generalize a.tmps.getD 8 undef = u8
    generalize a.tmps.getD 9 undef = u9
    generalize a.tmps.getD 10 undef = u10
    generalize a.tmps.getD 11 undef = u11
    generalize a.tmps.getD 12 undef = u12
    generalize a.tmps.getD 13 undef = u13
    generalize a.tmps.getD 14 undef = u14
    generalize a.tmps.getD 15 undef = u15
    generalize a.tmps.getD 16 undef = u16
    generalize a.tmps.getD 17 undef = u17
    clear hp hL e14 ha0 z1 hsz0 hC
    clear a0 a L R
    have HBB := Lib.hid (below_step hb hBW (Nat.le_refl _))
    have HNM : Hid (¬ P) := Lib.hid fun q => hsb (hP.out.1 q).2.1
    clear hBW hOb hbV hB0 hx hb
    go_wp2
    go_ret
    exact BoolPost.no HNM.out HBB.out
  skip
  have hB0 : Below V0.heap.size V0 V0 := Below.refl _ _
  have hbV : V0.heap.size ≤ V0.heap.size := Nat.le_refl _
  have hOb : Own V0 V0.heap.size (⟨none, 0, 0⟩ : Rs).A (⟨none, 0, 0⟩ : Rs).c [] := Own.nil_ _ _
  have HSB := Lib.hid hsb
  clear hsb
  refine wp_named fun a0 ha0 => ?_
  have z1 : a0.tmps.getD 1 undef = (.pointer (some ⟨g, 0, none⟩)) := by rw [ha0.out]; rfl
  have hsz0 : a0.tmps.size = 88 := by rw [ha0.out]; rfl
  refine wp_region_invB _ (by kernel_rfl) (fun L a wv => ∃ R, Ch a0 [4, 5, 6, 7, 8, 9, 10, 11, 12, 13, 14, 15, 16, 17, 18] (rmYP s y g) (rmYM s y g) rmYC V0.heap.size V0 V0.heap.size (⟨none, 0, 0⟩ : Rs) ([]) 99 [] 0 999 R L a wv) (by kernel_rfl) ?_ ?_ ?_
  · exact ⟨fun _ => ⟨none, 0, 0⟩, Ch.start hbV ⟨rfl, rfl, rfl, Nat.le_refl _, fun _ _ => rfl⟩ hOb⟩
  rotate_left
  · as_aux_lemma =>
    refine ⟨?_, ?_, ?_, ?_, ?_, ?_, ?_, ?_, ?_, ?_, ?_, ?_, ?_, ?_, ?_, trivial⟩
    · intro L a w1 hI hi hd
      obtain ⟨R, hC⟩ := hI
      have hi : L 0 = false := hi
      have hp := hC.pif
      have t1 := hp.at_ 1 _ rfl z1
      have t1' := t1
      rw [Array.getD_eq_getD_getElem?] at t1'
      exact rstep_valW (wanted_none rfl _) (.pointer (some ⟨g, 0, none⟩)) w1 (by go_simp) ⟨R, hC.pure 0 4 (.pointer (some ⟨g, 0, none⟩)) (by simp [rows, rmYP, rmYM, rmYC, setR]) (by simp [rows, rmYP, rmYM, rmYC, setR]) (by simp [rmYM]) (by simp [rmYC]) rfl (by rw [hsz0]; exact (by decide : 4 < 88)) (by decide) (by simp) (by simp)⟩
    · intro L a w1 hI hi hd
      obtain ⟨R, hC⟩ := hI
      have hi : L 1 = false := hi
      have hp := hC.pif
      simp [Region.binds] at hd
      have e0 : a.tmps.getD 4 undef = (.pointer (some ⟨g, 0, none⟩)) := hp.pu (0, 4, (.pointer (some ⟨g, 0, none⟩))) (by simp [rows, rmYP, rmYM, rmYC, setR]) (by simp [hd])
      have f0 : a.tmps[4]?.getD undef = (.pointer (some ⟨g, 0, none⟩)) := by rw [← Array.getD_eq_getD_getElem?]; exact e0
      have d0 := (hx.below (hB0.trans hC.bel) hx.lt).c15.1
      exact rstep_valW (wanted_none rfl _) (.int .i64 s.kind) w1 (by go_simp) ⟨R, hC.pure 1 5 (.int .i64 s.kind) (by simp [rows, rmYP, rmYM, rmYC, setR]) (by simp [rows, rmYP, rmYM, rmYC, setR]) (by simp [rmYM]) (by simp [rmYC]) rfl (by rw [hsz0]; exact (by decide : 5 < 88)) (by decide) (by simp) (by simp)⟩
    · intro L a w1 hI hi hd
      obtain ⟨R, hC⟩ := hI
      have hi : L 2 = false := hi
      have hp := hC.pif
      simp [Region.binds] at hd
      have e1 : a.tmps.getD 5 undef = (.int .i64 s.kind) := hp.pu (1, 5, (.int .i64 s.kind)) (by simp [rows, rmYP, rmYM, rmYC, setR]) (by simp [hd])
      have f1 : a.tmps[5]?.getD undef = (.int .i64 s.kind) := by rw [← Array.getD_eq_getD_getElem?]; exact e1
      exact rstep_valW (wanted_none rfl _) (.bool false) w1 (by go_simp) ⟨R, hC.pure 2 6 (.bool false) (by simp [rows, rmYP, rmYM, rmYC, setR]) (by simp [rows, rmYP, rmYM, rmYC, setR]) (by simp [rmYM]) (by simp [rmYC]) rfl (by rw [hsz0]; exact (by decide : 6 < 88)) (by decide) (by simp) (by simp)⟩
    · intro L a w1 hI hi hd
      obtain ⟨R, hC⟩ := hI
      have hi : L 3 = false := hi
      have hp := hC.pif
      simp [Region.binds] at hd
      have e2 : a.tmps.getD 6 undef = (.bool false) := hp.pu (2, 6, (.bool false)) (by simp [rows, rmYP, rmYM, rmYC, setR]) (by simp [hd])
      have f2 : a.tmps[6]?.getD undef = (.bool false) := by rw [← Array.getD_eq_getD_getElem?]; exact e2
      exact rstep_valW (wanted_none rfl _) (.bool false) w1 (by go_simp) ⟨R, hC.pure 3 7 (.bool false) (by simp [rows, rmYP, rmYM, rmYC, setR]) (by simp [rows, rmYP, rmYM, rmYC, setR]) (by simp [rmYM]) (by simp [rmYC]) rfl (by rw [hsz0]; exact (by decide : 7 < 88)) (by decide) (by simp) (by simp)⟩
    · intro L a w1 hI hi hd
      obtain ⟨R, hC⟩ := hI
      have hi : L 4 = false := hi
      have hp := hC.pif
      simp [Region.binds] at hd
      have e3 : a.tmps.getD 7 undef = (.bool false) := hp.pu (3, 7, (.bool false)) (by simp [rows, rmYP, rmYM, rmYC, setR]) (by simp [hd])
      have f3 : a.tmps[7]?.getD undef = (.bool false) := by rw [← Array.getD_eq_getD_getElem?]; exact e3
      have t1 := hp.at_ 1 _ rfl z1
      have t1' := t1
      rw [Array.getD_eq_getD_getElem?] at t1'
      exact rstep_valW (wanted_of 3 7 false rfl rfl e3) (.pointer (some ⟨g, 0, none⟩)) w1 (by go_simp) ⟨R, hC.pure 4 8 (.pointer (some ⟨g, 0, none⟩)) (by simp [rows, rmYP, rmYM, rmYC, setR]) (by simp [rows, rmYP, rmYM, rmYC, setR]) (by simp [rmYM]) (by simp [rmYC]) rfl (by rw [hsz0]; exact (by decide : 8 < 88)) (by decide) (by simp) (by simp)⟩
    · intro L a w1 hI hi hd
      obtain ⟨R, hC⟩ := hI
      have hi : L 5 = false := hi
      have hp := hC.pif
      simp [Region.binds] at hd
      have e3 : a.tmps.getD 7 undef = (.bool false) := hp.pu (3, 7, (.bool false)) (by simp [rows, rmYP, rmYM, rmYC, setR]) (by simp [hd])
      have f3 : a.tmps[7]?.getD undef = (.bool false) := by rw [← Array.getD_eq_getD_getElem?]; exact e3
      have e4 : a.tmps.getD 8 undef = (.pointer (some ⟨g, 0, none⟩)) := hp.pu (4, 8, (.pointer (some ⟨g, 0, none⟩))) (by simp [rows, rmYP, rmYM, rmYC, setR]) (by simp [hd])
      have f4 : a.tmps[8]?.getD undef = (.pointer (some ⟨g, 0, none⟩)) := by rw [← Array.getD_eq_getD_getElem?]; exact e4
      have d0 := (hx.below (hB0.trans hC.bel) hx.lt).c15.1
      exact rstep_valW (wanted_of 3 7 false rfl rfl e3) (.int .i64 s.kind) w1 (by go_simp) ⟨R, hC.pure 5 9 (.int .i64 s.kind) (by simp [rows, rmYP, rmYM, rmYC, setR]) (by simp [rows, rmYP, rmYM, rmYC, setR]) (by simp [rmYM]) (by simp [rmYC]) rfl (by rw [hsz0]; exact (by decide : 9 < 88)) (by decide) (by simp) (by simp)⟩
    · intro L a w1 hI hi hd
      obtain ⟨R, hC⟩ := hI
      have hi : L 6 = false := hi
      have hp := hC.pif
      simp [Region.binds] at hd
      have e3 : a.tmps.getD 7 undef = (.bool false) := hp.pu (3, 7, (.bool false)) (by simp [rows, rmYP, rmYM, rmYC, setR]) (by simp [hd])
      have f3 : a.tmps[7]?.getD undef = (.bool false) := by rw [← Array.getD_eq_getD_getElem?]; exact e3
      have e5 : a.tmps.getD 9 undef = (.int .i64 s.kind) := hp.pu (5, 9, (.int .i64 s.kind)) (by simp [rows, rmYP, rmYM, rmYC, setR]) (by simp [hd])
      have f5 : a.tmps[9]?.getD undef = (.int .i64 s.kind) := by rw [← Array.getD_eq_getD_getElem?]; exact e5
      exact rstep_valW (wanted_of 3 7 false rfl rfl e3) (.bool false) w1 (by go_simp) ⟨R, hC.pure 6 10 (.bool false) (by simp [rows, rmYP, rmYM, rmYC, setR]) (by simp [rows, rmYP, rmYM, rmYC, setR]) (by simp [rmYM]) (by simp [rmYC]) rfl (by rw [hsz0]; exact (by decide : 10 < 88)) (by decide) (by simp) (by simp)⟩
    · intro L a w1 hI hi hd
      obtain ⟨R, hC⟩ := hI
      have hi : L 7 = false := hi
      have hp := hC.pif
      simp [Region.binds] at hd
      have e3 : a.tmps.getD 7 undef = (.bool false) := hp.pu (3, 7, (.bool false)) (by simp [rows, rmYP, rmYM, rmYC, setR]) (by simp [hd])
      have f3 : a.tmps[7]?.getD undef = (.bool false) := by rw [← Array.getD_eq_getD_getElem?]; exact e3
      have e6 : a.tmps.getD 10 undef = (.bool false) := hp.pu (6, 10, (.bool false)) (by simp [rows, rmYP, rmYM, rmYC, setR]) (by simp [hd])
      have f6 : a.tmps[10]?.getD undef = (.bool false) := by rw [← Array.getD_eq_getD_getElem?]; exact e6
      exact rstep_valW (wanted_none rfl _) (.bool false) w1 (by go_simp) ⟨R, hC.pure 7 11 (.bool false) (by simp [rows, rmYP, rmYM, rmYC, setR]) (by simp [rows, rmYP, rmYM, rmYC, setR]) (by simp [rmYM]) (by simp [rmYC]) rfl (by rw [hsz0]; exact (by decide : 11 < 88)) (by decide) (by simp) (by simp)⟩
    · intro L a w1 hI hi hd
      obtain ⟨R, hC⟩ := hI
      have hi : L 8 = false := hi
      have hp := hC.pif
      simp [Region.binds] at hd
      have e7 : a.tmps.getD 11 undef = (.bool false) := hp.pu (7, 11, (.bool false)) (by simp [rows, rmYP, rmYM, rmYC, setR]) (by simp [hd])
      have f7 : a.tmps[11]?.getD undef = (.bool false) := by rw [← Array.getD_eq_getD_getElem?]; exact e7
      exact rstep_valW (wanted_none rfl _) (.bool false) w1 (by go_simp) ⟨R, hC.pure 8 12 (.bool false) (by simp [rows, rmYP, rmYM, rmYC, setR]) (by simp [rows, rmYP, rmYM, rmYC, setR]) (by simp [rmYM]) (by simp [rmYC]) rfl (by rw [hsz0]; exact (by decide : 12 < 88)) (by decide) (by simp) (by simp)⟩
    · intro L a w1 hI hi hd
      obtain ⟨R, hC⟩ := hI
      have hi : L 9 = false := hi
      have hp := hC.pif
      simp [Region.binds] at hd
      have e8 : a.tmps.getD 12 undef = (.bool false) := hp.pu (8, 12, (.bool false)) (by simp [rows, rmYP, rmYM, rmYC, setR]) (by simp [hd])
      have f8 : a.tmps[12]?.getD undef = (.bool false) := by rw [← Array.getD_eq_getD_getElem?]; exact e8
      have t1 := hp.at_ 1 _ rfl z1
      have t1' := t1
      rw [Array.getD_eq_getD_getElem?] at t1'
      exact rstep_valW (wanted_of 8 12 false rfl rfl e8) (.agg #[.int .i64 s.kind, .int .u64 (s.lsn : Int), .int .u32 (s.epoch : Int), .int .u64 (s.txn : Int), .int .u32 (s.page : Int), .int .u16 (s.off : Int), .slice y.oA y.on y.oc, .slice y.nA y.nn y.nc, .slice y.uA y.un y.uc, .int .u64 (s.prev : Int), .int .u64 (s.next : Int), .bool s.clr, .int .u64 (s.stamp : Int), .slice y.pA y.pn y.pc, .slice y.dA y.dn y.dc]) w1 (exec_load_row _ (.tmp 1) rfl g t1 _ _ _ (hx.below (hB0.trans hC.bel) hx.lt) Try.underlying31 rfl (by kernel_rfl)) ⟨R, hC.pure 9 13 (.agg #[.int .i64 s.kind, .int .u64 (s.lsn : Int), .int .u32 (s.epoch : Int), .int .u64 (s.txn : Int), .int .u32 (s.page : Int), .int .u16 (s.off : Int), .slice y.oA y.on y.oc, .slice y.nA y.nn y.nc, .slice y.uA y.un y.uc, .int .u64 (s.prev : Int), .int .u64 (s.next : Int), .bool s.clr, .int .u64 (s.stamp : Int), .slice y.pA y.pn y.pc, .slice y.dA y.dn y.dc]) (by simp [rows, rmYP, rmYM, rmYC, setR]) (by simp [rows, rmYP, rmYM, rmYC, setR]) (by simp [rmYM]) (by simp [rmYC]) rfl (by rw [hsz0]; exact (by decide : 13 < 88)) (by decide) (by simp) (by simp)⟩
    · intro L a w1 hI hi hd
      obtain ⟨R, hC⟩ := hI
      have hi : L 10 = false := hi
      have hp := hC.pif
      simp [Region.binds] at hd
      have e8 : a.tmps.getD 12 undef = (.bool false) := hp.pu (8, 12, (.bool false)) (by simp [rows, rmYP, rmYM, rmYC, setR]) (by simp [hd])
      have f8 : a.tmps[12]?.getD undef = (.bool false) := by rw [← Array.getD_eq_getD_getElem?]; exact e8
      have t1 := hp.at_ 1 _ rfl z1
      have t1' := t1
      rw [Array.getD_eq_getD_getElem?] at t1'
      exact rstep_valW (wanted_of 8 12 false rfl rfl e8) (.agg #[.int .i64 s.kind, .int .u64 (s.lsn : Int), .int .u32 (s.epoch : Int), .int .u64 (s.txn : Int), .int .u32 (s.page : Int), .int .u16 (s.off : Int), .slice y.oA y.on y.oc, .slice y.nA y.nn y.nc, .slice y.uA y.un y.uc, .int .u64 (s.prev : Int), .int .u64 (s.next : Int), .bool s.clr, .int .u64 (s.stamp : Int), .slice y.pA y.pn y.pc, .slice y.dA y.dn y.dc]) w1 (exec_load_row _ (.tmp 1) rfl g t1 _ _ _ (hx.below (hB0.trans hC.bel) hx.lt) Try.underlying31 rfl (by kernel_rfl)) ⟨R, hC.pure 10 14 (.agg #[.int .i64 s.kind, .int .u64 (s.lsn : Int), .int .u32 (s.epoch : Int), .int .u64 (s.txn : Int), .int .u32 (s.page : Int), .int .u16 (s.off : Int), .slice y.oA y.on y.oc, .slice y.nA y.nn y.nc, .slice y.uA y.un y.uc, .int .u64 (s.prev : Int), .int .u64 (s.next : Int), .bool s.clr, .int .u64 (s.stamp : Int), .slice y.pA y.pn y.pc, .slice y.dA y.dn y.dc]) (by simp [rows, rmYP, rmYM, rmYC, setR]) (by simp [rows, rmYP, rmYM, rmYC, setR]) (by simp [rmYM]) (by simp [rmYC]) rfl (by rw [hsz0]; exact (by decide : 14 < 88)) (by decide) (by simp) (by simp)⟩
    · intro L a w1 hI hi hd
      obtain ⟨R, hC⟩ := hI
      have hi : L 11 = false := hi
      have hp := hC.pif
      simp [Region.binds] at hd
      have e8 : a.tmps.getD 12 undef = (.bool false) := hp.pu (8, 12, (.bool false)) (by simp [rows, rmYP, rmYM, rmYC, setR]) (by simp [hd])
      have f8 : a.tmps[12]?.getD undef = (.bool false) := by rw [← Array.getD_eq_getD_getElem?]; exact e8
      have e10 : a.tmps.getD 14 undef = (.agg #[.int .i64 s.kind, .int .u64 (s.lsn : Int), .int .u32 (s.epoch : Int), .int .u64 (s.txn : Int), .int .u32 (s.page : Int), .int .u16 (s.off : Int), .slice y.oA y.on y.oc, .slice y.nA y.nn y.nc, .slice y.uA y.un y.uc, .int .u64 (s.prev : Int), .int .u64 (s.next : Int), .bool s.clr, .int .u64 (s.stamp : Int), .slice y.pA y.pn y.pc, .slice y.dA y.dn y.dc]) := hp.pu (10, 14, (.agg #[.int .i64 s.kind, .int .u64 (s.lsn : Int), .int .u32 (s.epoch : Int), .int .u64 (s.txn : Int), .int .u32 (s.page : Int), .int .u16 (s.off : Int), .slice y.oA y.on y.oc, .slice y.nA y.nn y.nc, .slice y.uA y.un y.uc, .int .u64 (s.prev : Int), .int .u64 (s.next : Int), .bool s.clr, .int .u64 (s.stamp : Int), .slice y.pA y.pn y.pc, .slice y.dA y.dn y.dc])) (by simp [rows, rmYP, rmYM, rmYC, setR]) (by simp [hd])
      have f10 : a.tmps[14]?.getD undef = (.agg #[.int .i64 s.kind, .int .u64 (s.lsn : Int), .int .u32 (s.epoch : Int), .int .u64 (s.txn : Int), .int .u32 (s.page : Int), .int .u16 (s.off : Int), .slice y.oA y.on y.oc, .slice y.nA y.nn y.nc, .slice y.uA y.un y.uc, .int .u64 (s.prev : Int), .int .u64 (s.next : Int), .bool s.clr, .int .u64 (s.stamp : Int), .slice y.pA y.pn y.pc, .slice y.dA y.dn y.dc]) := by rw [← Array.getD_eq_getD_getElem?]; exact e10
      refine rstep_callW (wanted_of 8 12 false rfl rfl e8) 33 #[.agg #[.int .i64 s.kind, .int .u64 (s.lsn : Int), .int .u32 (s.epoch : Int), .int .u64 (s.txn : Int), .int .u32 (s.page : Int), .int .u16 (s.off : Int), .slice y.oA y.on y.oc, .slice y.nA y.nn y.nc, .slice y.uA y.un y.uc, .int .u64 (s.prev : Int), .int .u64 (s.next : Int), .bool s.clr, .int .u64 (s.stamp : Int), .slice y.pA y.pn y.pc, .slice y.dA y.dn y.dc]] (by go_simp) ?_
      refine (bare_any s y w1).mono ?_
      rintro e w2 ⟨rfl, hb⟩
      exact ⟨R, hC.pureW hb 11 15 (.agg #[.int .i64 (LogM.bare s).kind, .int .u64 ((LogM.bare s).lsn : Int), .int .u32 ((LogM.bare s).epoch : Int), .int .u64 ((LogM.bare s).txn : Int), .int .u32 ((LogM.bare s).page : Int), .int .u16 ((LogM.bare s).off : Int), .slice (bareL s.kind y).oA (bareL s.kind y).on (bareL s.kind y).oc, .slice (bareL s.kind y).nA (bareL s.kind y).nn (bareL s.kind y).nc, .slice (bareL s.kind y).uA (bareL s.kind y).un (bareL s.kind y).uc, .int .u64 ((LogM.bare s).prev : Int), .int .u64 ((LogM.bare s).next : Int), .bool (LogM.bare s).clr, .int .u64 ((LogM.bare s).stamp : Int), .slice (bareL s.kind y).pA (bareL s.kind y).pn (bareL s.kind y).pc, .slice (bareL s.kind y).dA (bareL s.kind y).dn (bareL s.kind y).dc]) (by simp [rows, rmYP, rmYM, rmYC, setR]) (by simp [rows, rmYP, rmYM, rmYC, setR]) (by simp [rmYM]) (by simp [rmYC]) rfl (by rw [hsz0]; exact (by decide : 15 < 88)) (by decide) (by simp) (by simp)⟩
    · intro L a w1 hI hi hd
      obtain ⟨R, hC⟩ := hI
      have hi : L 12 = false := hi
      have hp := hC.pif
      simp [Region.binds] at hd
      have e8 : a.tmps.getD 12 undef = (.bool false) := hp.pu (8, 12, (.bool false)) (by simp [rows, rmYP, rmYM, rmYC, setR]) (by simp [hd])
      have f8 : a.tmps[12]?.getD undef = (.bool false) := by rw [← Array.getD_eq_getD_getElem?]; exact e8
      have e9 : a.tmps.getD 13 undef = (.agg #[.int .i64 s.kind, .int .u64 (s.lsn : Int), .int .u32 (s.epoch : Int), .int .u64 (s.txn : Int), .int .u32 (s.page : Int), .int .u16 (s.off : Int), .slice y.oA y.on y.oc, .slice y.nA y.nn y.nc, .slice y.uA y.un y.uc, .int .u64 (s.prev : Int), .int .u64 (s.next : Int), .bool s.clr, .int .u64 (s.stamp : Int), .slice y.pA y.pn y.pc, .slice y.dA y.dn y.dc]) := hp.pu (9, 13, (.agg #[.int .i64 s.kind, .int .u64 (s.lsn : Int), .int .u32 (s.epoch : Int), .int .u64 (s.txn : Int), .int .u32 (s.page : Int), .int .u16 (s.off : Int), .slice y.oA y.on y.oc, .slice y.nA y.nn y.nc, .slice y.uA y.un y.uc, .int .u64 (s.prev : Int), .int .u64 (s.next : Int), .bool s.clr, .int .u64 (s.stamp : Int), .slice y.pA y.pn y.pc, .slice y.dA y.dn y.dc])) (by simp [rows, rmYP, rmYM, rmYC, setR]) (by simp [hd])
      have f9 : a.tmps[13]?.getD undef = (.agg #[.int .i64 s.kind, .int .u64 (s.lsn : Int), .int .u32 (s.epoch : Int), .int .u64 (s.txn : Int), .int .u32 (s.page : Int), .int .u16 (s.off : Int), .slice y.oA y.on y.oc, .slice y.nA y.nn y.nc, .slice y.uA y.un y.uc, .int .u64 (s.prev : Int), .int .u64 (s.next : Int), .bool s.clr, .int .u64 (s.stamp : Int), .slice y.pA y.pn y.pc, .slice y.dA y.dn y.dc]) := by rw [← Array.getD_eq_getD_getElem?]; exact e9
      have e11 : a.tmps.getD 15 undef = (.agg #[.int .i64 (LogM.bare s).kind, .int .u64 ((LogM.bare s).lsn : Int), .int .u32 ((LogM.bare s).epoch : Int), .int .u64 ((LogM.bare s).txn : Int), .int .u32 ((LogM.bare s).page : Int), .int .u16 ((LogM.bare s).off : Int), .slice (bareL s.kind y).oA (bareL s.kind y).on (bareL s.kind y).oc, .slice (bareL s.kind y).nA (bareL s.kind y).nn (bareL s.kind y).nc, .slice (bareL s.kind y).uA (bareL s.kind y).un (bareL s.kind y).uc, .int .u64 ((LogM.bare s).prev : Int), .int .u64 ((LogM.bare s).next : Int), .bool (LogM.bare s).clr, .int .u64 ((LogM.bare s).stamp : Int), .slice (bareL s.kind y).pA (bareL s.kind y).pn (bareL s.kind y).pc, .slice (bareL s.kind y).dA (bareL s.kind y).dn (bareL s.kind y).dc]) := hp.pu (11, 15, (.agg #[.int .i64 (LogM.bare s).kind, .int .u64 ((LogM.bare s).lsn : Int), .int .u32 ((LogM.bare s).epoch : Int), .int .u64 ((LogM.bare s).txn : Int), .int .u32 ((LogM.bare s).page : Int), .int .u16 ((LogM.bare s).off : Int), .slice (bareL s.kind y).oA (bareL s.kind y).on (bareL s.kind y).oc, .slice (bareL s.kind y).nA (bareL s.kind y).nn (bareL s.kind y).nc, .slice (bareL s.kind y).uA (bareL s.kind y).un (bareL s.kind y).uc, .int .u64 ((LogM.bare s).prev : Int), .int .u64 ((LogM.bare s).next : Int), .bool (LogM.bare s).clr, .int .u64 ((LogM.bare s).stamp : Int), .slice (bareL s.kind y).pA (bareL s.kind y).pn (bareL s.kind y).pc, .slice (bareL s.kind y).dA (bareL s.kind y).dn (bareL s.kind y).dc])) (by simp [rows, rmYP, rmYM, rmYC, setR]) (by simp [hd])
      have f11 : a.tmps[15]?.getD undef = (.agg #[.int .i64 (LogM.bare s).kind, .int .u64 ((LogM.bare s).lsn : Int), .int .u32 ((LogM.bare s).epoch : Int), .int .u64 ((LogM.bare s).txn : Int), .int .u32 ((LogM.bare s).page : Int), .int .u16 ((LogM.bare s).off : Int), .slice (bareL s.kind y).oA (bareL s.kind y).on (bareL s.kind y).oc, .slice (bareL s.kind y).nA (bareL s.kind y).nn (bareL s.kind y).nc, .slice (bareL s.kind y).uA (bareL s.kind y).un (bareL s.kind y).uc, .int .u64 ((LogM.bare s).prev : Int), .int .u64 ((LogM.bare s).next : Int), .bool (LogM.bare s).clr, .int .u64 ((LogM.bare s).stamp : Int), .slice (bareL s.kind y).pA (bareL s.kind y).pn (bareL s.kind y).pc, .slice (bareL s.kind y).dA (bareL s.kind y).dn (bareL s.kind y).dc]) := by rw [← Array.getD_eq_getD_getElem?]; exact e11
      have hq := HS.out.below hC.bel
      refine rstep_callW (wanted_of 8 12 false rfl rfl e8) 11 #[.agg #[.int .i64 s.kind, .int .u64 (s.lsn : Int), .int .u32 (s.epoch : Int), .int .u64 (s.txn : Int), .int .u32 (s.page : Int), .int .u16 (s.off : Int), .slice y.oA y.on y.oc, .slice y.nA y.nn y.nc, .slice y.uA y.un y.uc, .int .u64 (s.prev : Int), .int .u64 (s.next : Int), .bool s.clr, .int .u64 (s.stamp : Int), .slice y.pA y.pn y.pc, .slice y.dA y.dn y.dc], .agg #[.int .i64 (LogM.bare s).kind, .int .u64 ((LogM.bare s).lsn : Int), .int .u32 ((LogM.bare s).epoch : Int), .int .u64 ((LogM.bare s).txn : Int), .int .u32 ((LogM.bare s).page : Int), .int .u16 ((LogM.bare s).off : Int), .slice (bareL s.kind y).oA (bareL s.kind y).on (bareL s.kind y).oc, .slice (bareL s.kind y).nA (bareL s.kind y).nn (bareL s.kind y).nc, .slice (bareL s.kind y).uA (bareL s.kind y).un (bareL s.kind y).uc, .int .u64 ((LogM.bare s).prev : Int), .int .u64 ((LogM.bare s).next : Int), .bool (LogM.bare s).clr, .int .u64 ((LogM.bare s).stamp : Int), .slice (bareL s.kind y).pA (bareL s.kind y).pn (bareL s.kind y).pc, .slice (bareL s.kind y).dA (bareL s.kind y).dn (bareL s.kind y).dc]] (by go_simp) ?_
      refine (rsame_any s (LogM.bare s) y (bareL s.kind y) w1 hq hq.bare).mono ?_
      rintro e w2 ⟨r, rfl, HR1, hb⟩
      obtain rfl : r = true := HR1.out.2 HSB.out
      exact ⟨R, hC.pureW hb 12 16 (.bool true) (by simp [rows, rmYP, rmYM, rmYC, setR]) (by simp [rows, rmYP, rmYM, rmYC, setR]) (by simp [rmYM]) (by simp [rmYC]) rfl (by rw [hsz0]; exact (by decide : 16 < 88)) (by decide) (by simp) (by simp)⟩
    · intro L a w1 hI hi hd
      obtain ⟨R, hC⟩ := hI
      have hi : L 13 = false := hi
      have hp := hC.pif
      simp [Region.binds] at hd
      have e8 : a.tmps.getD 12 undef = (.bool false) := hp.pu (8, 12, (.bool false)) (by simp [rows, rmYP, rmYM, rmYC, setR]) (by simp [hd])
      have f8 : a.tmps[12]?.getD undef = (.bool false) := by rw [← Array.getD_eq_getD_getElem?]; exact e8
      have e12 : a.tmps.getD 16 undef = (.bool true) := hp.pu (12, 16, (.bool true)) (by simp [rows, rmYP, rmYM, rmYC, setR]) (by simp [hd])
      have f12 : a.tmps[16]?.getD undef = (.bool true) := by rw [← Array.getD_eq_getD_getElem?]; exact e12
      exact rstep_valW (wanted_of 8 12 false rfl rfl e8) (.bool false) w1 (by go_simp) ⟨R, hC.pure 13 17 (.bool false) (by simp [rows, rmYP, rmYM, rmYC, setR]) (by simp [rows, rmYP, rmYM, rmYC, setR]) (by simp [rmYM]) (by simp [rmYC]) rfl (by rw [hsz0]; exact (by decide : 17 < 88)) (by decide) (by simp) (by simp)⟩
    · intro L a w1 hI hi hd
      obtain ⟨R, hC⟩ := hI
      have hi : L 14 = false := hi
      have hp := hC.pif
      simp [Region.binds] at hd
      have e8 : a.tmps.getD 12 undef = (.bool false) := hp.pu (8, 12, (.bool false)) (by simp [rows, rmYP, rmYM, rmYC, setR]) (by simp [hd])
      have f8 : a.tmps[12]?.getD undef = (.bool false) := by rw [← Array.getD_eq_getD_getElem?]; exact e8
      have e13 : a.tmps.getD 17 undef = (.bool false) := hp.pu (13, 17, (.bool false)) (by simp [rows, rmYP, rmYM, rmYC, setR]) (by simp [hd])
      have f13 : a.tmps[17]?.getD undef = (.bool false) := by rw [← Array.getD_eq_getD_getElem?]; exact e13
      exact rstep_valW (wanted_none rfl _) (.bool false) w1 (by go_simp) ⟨R, hC.pure 14 18 (.bool false) (by simp [rows, rmYP, rmYM, rmYC, setR]) (by simp [rows, rmYP, rmYM, rmYC, setR]) (by simp [rmYM]) (by simp [rmYC]) rfl (by rw [hsz0]; exact (by decide : 18 < 88)) (by decide) (by simp) (by simp)⟩
  rintro L a W ⟨R, hC⟩ hL
  have hp := hC.pif
  have e14 : a.tmps.getD 18 undef = (.bool false) := hp.pu (14, 18, (.bool false)) (by simp [rows, rmYP, rmYM, rmYC, setR]) (hL 14 (by simp))
  have hBW := hC.bel
  rw [hp.eq]
  refine of_assigns (P := Try.prog) _ _ _ _ ?_
  rw [ha0.out]
  simp only [asgs, List.map, e14]
  generalize a.tmps.getD 4 undef = u4
  generalize a.tmps.getD 5 undef = u5
  generalize a.tmps.getD 6 undef = u6
  generalize a.tmps.getD 7 undef = u7
  generalize a.tmps.getD 8 undef = u8
  generalize a.tmps.getD 9 undef = u9
  generalize a.tmps.getD 10 undef = u10
  generalize a.tmps.getD 11 undef = u11
  generalize a.tmps.getD 12 undef = u12
  generalize a.tmps.getD 13 undef = u13
  generalize a.tmps.getD 14 undef = u14
  generalize a.tmps.getD 15 undef = u15
  generalize a.tmps.getD 16 undef = u16
  generalize a.tmps.getD 17 undef = u17
  clear hp hL e14 ha0 z1 hsz0 hC
  clear a0 a L R
  have HBB := Lib.hid (below_step hb hBW (Nat.le_refl _))
  have hxW := hx.below hBW hx.lt
  have HLo := Lib.hid HS.out.lo
  have HLn := Lib.hid HS.out.ln
  have HLu := Lib.hid HS.out.lu
  have HLp := Lib.hid HS.out.lp
  have HLd := Lib.hid HS.out.ld
  have HOC := Lib.hid (And.intro HS.out.co HS.out.fit.off)
  clear hBW hOb hbV hB0 hx hb HS
  obtain ⟨kind, lsn, epoch, txn, page, off, old, new, undo, prev, next, clr, stamp, opn, dirty⟩ := s
  obtain ⟨oA, on, oc, nA, nn, nc, uA, un, uc, pA, pn, pc, dA, dn, dc⟩ := y
  dsimp only at k1 k5
  have hxV : Blk W g 31 #[.int .i64 kind, .int .u64 (lsn : Int), .int .u32 (epoch : Int), .int .u64 (txn : Int), .int .u32 (page : Int), .int .u16 (off : Int), .slice oA on oc, .slice nA nn nc, .slice uA un uc, .int .u64 (prev : Int), .int .u64 (next : Int), .bool clr, .int .u64 (stamp : Int), .slice pA pn pc, .slice dA dn dc] := hxW
  obtain ⟨d0, d1, d2, d3, d4, d5, d6, d7, d8, d9, d10, d11, d12, d13, d14⟩ := hxV.c15
  clear hxW hxV
  have HM : Hid (P ↔ (if kind = 1 then on = nn ∧ 0 < on ∧ on ≤ 500 ∧ off + on ≤ 500 else if kind = 2 then un ≤ 64 ∧ (clr = true ∨ next = 0) ∧ (clr = false ∨ un = 0) else if kind = 5 then pn ≤ 16 ∧ dn ≤ 64 else txn ≠ 0)) := Lib.hid (by
    rw [hP.out]
    unfold LogM.mayR
    have h1 := HLo.out; have h2 := HLn.out; have h3 := HLu.out; have h4 := HLp.out; have h5 := HLd.out
    dsimp only at h1 h2 h3 h4 h5 ⊢
    rw [h1, h2, h3, h4, h5, ← List.length_eq_zero_iff, h3]
    exact ⟨fun q => q.2.2, fun q => ⟨⟨by omega, by omega⟩, HSB.out, q⟩⟩)
  have hoc := HOC.out
  dsimp only at hoc
  obtain ⟨hoc1, hoff⟩ := hoc
  have hoc2 := hoc1.2
  unfold maxLen at hoc2
  clear HLo HLn HLu HLp HLd HOC HSB hP
  by_cases q1 : kind = 1
  · as_aux_lemma =>
    subst q1
    have hsub : IntKind.i64.wrap (500 - (on : Int)) = 500 - (on : Int) := by rw [IntKind.wrap_i64]; omega
    have hcv : IntKind.i64.wrap (off : Int) = (off : Int) := by rw [IntKind.wrap_i64]; omega
    go_wp2
    all_goals (go_ret; refine BoolPost.mk_ ?_ HBB.out; rw [HM.out]; first | (simp; done) | (simp; omega) | omega | (simp_all; done) | (simp_all; omega))
  by_cases q2 : kind = 2
  · as_aux_lemma =>
    subst q2
    cases clr with
    | true =>
      go_wp2
      all_goals (go_ret; refine BoolPost.mk_ ?_ HBB.out; rw [HM.out]; first | (simp; done) | (simp; omega) | omega | (simp_all; done) | (simp_all; omega))
    | false =>
      go_wp2
      all_goals (go_ret; refine BoolPost.mk_ ?_ HBB.out; rw [HM.out]; first | (simp; done) | (simp; omega) | omega | (simp_all; done) | (simp_all; omega))
  by_cases q5 : kind = 5
  · as_aux_lemma =>
    subst q5
    go_wp2
    all_goals (go_ret; refine BoolPost.mk_ ?_ HBB.out; rw [HM.out]; first | (simp; done) | (simp; omega) | omega | (simp_all; done) | (simp_all; omega))
  · as_aux_lemma =>
    have HM2 := Lib.hid (And.intro q1 (And.intro q2 q5))
    go_wp2
    all_goals (go_ret; refine BoolPost.mk_ ?_ HBB.out; rw [HM.out]; first | (simp; done) | (simp; omega) | omega | (simp_all; done) | (simp_all; omega))
theorem rmay_any (s : Lrec) (y : Lsl) (w : World) (hs : LogAt w y s) :
    Calls Try.prog 17 #[.agg #[.int .i64 s.kind, .int .u64 (s.lsn : Int), .int .u32 (s.epoch : Int), .int .u64 (s.txn : Int), .int .u32 (s.page : Int), .int .u16 (s.off : Int), .slice y.oA y.on y.oc, .slice y.nA y.nn y.nc, .slice y.uA y.un y.uc, .int .u64 (s.prev : Int), .int .u64 (s.next : Int), .bool s.clr, .int .u64 (s.stamp : Int), .slice y.pA y.pn y.pc, .slice y.dA y.dn y.dc]] w (BoolPost (LogM.May s) w) := rmay_aux s y w hs _ (Lib.hid (LogM.mayR_iff s).symm)
end Go.Proofs.Ytpgmhjjdnanlgaa
