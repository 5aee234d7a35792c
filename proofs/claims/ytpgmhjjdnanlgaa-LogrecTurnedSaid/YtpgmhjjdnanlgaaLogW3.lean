/-
  Which records may be, by the program's word.
  Conditions: the lists lie in memory.
-/
import Derived.Test.YtpgmhjjdnanlgaaLogW2
namespace Go.Proofs.Ytpgmhjjdnanlgaa
open Go.RowKit Go.Sort Go.Lib
set_option linter.unusedVariables false
set_option linter.unusedSimpArgs false
theorem row_ints (w : World) (t : TypeId) (l : List Int) (cs : Array Value) (h : cs = (l.map fun i => Value.int .i64 i).toArray) : Row (w.alloc (.cells cs t)) (some ⟨w.heap.size, 0, none⟩) (l.map fun i => .int .i64 i) := by
  subst h
  refine .inr ⟨_, 0, rfl, fun j u hu => ?_⟩
  have hB := (Blk.new w t (l.map fun i => Value.int .i64 i).toArray).cell (0 + j)
  rw [hB, Nat.zero_add, List.getElem?_toArray]
  exact hu
namespace LogM
theorem noneX1 (x : Lrec) : noneX [1] x ↔ (x.kind = 1 ∨ noneW x) := by simp [noneX]
theorem noneX2 (x : Lrec) : noneX [2] x ↔ (x.kind = 2 ∨ noneE x) := by simp [noneX]
theorem noneX3 (x : Lrec) : noneX [2, 3, 4] x ↔ ((x.kind = 2 ∨ x.kind = 3 ∨ x.kind = 4) ∨ x.txn = 0) := by simp [noneX]
theorem noneX4 (x : Lrec) : noneX [3] x ↔ (x.kind = 3 ∨ x.stamp = 0) := by simp [noneX]
theorem noneX5 (x : Lrec) : noneX [5] x ↔ (x.kind = 5 ∨ noneP x) := by simp [noneX]
end LogM
set_option maxRecDepth 100000 in
set_option maxHeartbeats 4000000 in
theorem may_any (s : Lrec) (y : Lsl) (w : World) (hs : LogAt w y s) :
    Calls Try.prog 16 #[.agg #[.int .i64 s.kind, .int .u64 (s.lsn : Int), .int .u32 (s.epoch : Int), .int .u64 (s.txn : Int), .int .u32 (s.page : Int), .int .u16 (s.off : Int), .slice y.oA y.on y.oc, .slice y.nA y.nn y.nc, .slice y.uA y.un y.uc, .int .u64 (s.prev : Int), .int .u64 (s.next : Int), .bool s.clr, .int .u64 (s.stamp : Int), .slice y.pA y.pn y.pc, .slice y.dA y.dn y.dc]] w (BoolPost (LogM.May s) w) := by
  have HS := Lib.hid hs
  clear hs
  have HN1 := Lib.hid (LogM.noneX1 s)
  have HN2 := Lib.hid (LogM.noneX2 s)
  have HN3 := Lib.hid (LogM.noneX3 s)
  have HN4 := Lib.hid (LogM.noneX4 s)
  have HN5 := Lib.hid (LogM.noneX5 s)
  obtain ⟨kind, lsn, epoch, txn, page, off, old, new, undo, prev, next, clr, stamp, opn, dirty⟩ := s
  obtain ⟨oA, on, oc, nA, nn, nc, uA, un, uc, pA, pn, pc, dA, dn, dc⟩ := y
  have HMD : Hid (LogM.May ⟨kind, lsn, epoch, txn, page, off, old, new, undo, prev, next, clr, stamp, opn, dirty⟩ ↔ LogM.mayN ⟨kind, lsn, epoch, txn, page, off, old, new, undo, prev, next, clr, stamp, opn, dirty⟩ ∧ LogM.mayK ⟨kind, lsn, epoch, txn, page, off, old, new, undo, prev, next, clr, stamp, opn, dirty⟩) := Lib.hid Iff.rfl
  go_enter Try.func16, Try.ntmps16
  have hx0 := Blk.new w 31 #[.int .i64 kind, .int .u64 (lsn : Int), .int .u32 (epoch : Int), .int .u64 (txn : Int), .int .u32 (page : Int), .int .u16 (off : Int), .slice oA on oc, .slice nA nn nc, .slice uA un uc, .int .u64 (prev : Int), .int .u64 (next : Int), .bool clr, .int .u64 (stamp : Int), .slice pA pn pc, .slice dA dn dc]
  have hB0 : Below w.heap.size w (w.alloc (.cells #[.int .i64 kind, .int .u64 (lsn : Int), .int .u32 (epoch : Int), .int .u64 (txn : Int), .int .u32 (page : Int), .int .u16 (off : Int), .slice oA on oc, .slice nA nn nc, .slice uA un uc, .int .u64 (prev : Int), .int .u64 (next : Int), .bool clr, .int .u64 (stamp : Int), .slice pA pn pc, .slice dA dn dc] 31)) := (Below.refl w.heap.size w).alloc (Nat.le_refl _) _
  go_upto_region 1 with fail
  generalize w.alloc (.cells #[.int .i64 kind, .int .u64 (lsn : Int), .int .u32 (epoch : Int), .int .u64 (txn : Int), .int .u32 (page : Int), .int .u16 (off : Int), .slice oA on oc, .slice nA nn nc, .slice uA un uc, .int .u64 (prev : Int), .int .u64 (next : Int), .bool clr, .int .u64 (stamp : Int), .slice pA pn pc, .slice dA dn dc] 31) = V0 at *
  obtain ⟨g, hg⟩ : ∃ g, w.heap.size = g := ⟨_, rfl⟩
  rw [hg] at hx0
  have HG := Lib.hid hg
  rw [show ∀ x : Nat, (⟨w.heap.size, x, none⟩ : Addr) = ⟨g, x, none⟩ from fun x => by rw [hg]]
  clear hg
  obtain ⟨d0, d1, d2, d3, d4, d5, d6, d7, d8, d9, d10, d11, d12, d13, d14⟩ := hx0.c15
  have r0 : Below V0.heap.size V0 (V0.alloc (.cells #[.int .i64 1] 24)) := (Below.refl V0.heap.size V0).alloc (Nat.le_refl _) _
  have R0 := Lib.hid (none_any ⟨kind, lsn, epoch, txn, page, off, old, new, undo, prev, next, clr, stamp, opn, dirty⟩ ⟨oA, on, oc, nA, nn, nc, uA, un, uc, pA, pn, pc, dA, dn, dc⟩ (some ⟨V0.heap.size, 0, none⟩) 1 1 1 [] _ ((HS.out.below hB0).below r0) (row_ints V0 24 [1] #[.int .i64 1] rfl) rfl (by decide))
  have Hr0 := Lib.hid r0
  have HB0 := Lib.hid hB0
  clear r0 hB0
  dsimp only at R0
  go_wp2_with fail
  refine R0.out.mono ?_
  rintro e V1 ⟨r, rfl, HR, hb⟩
  have hB1 := below_step (below_step HB0.out Hr0.out (Nat.le_refl _)) hb (Nat.le_refl _)
  clear d0 d1 d2 d3 d4 d5 d6 d7 d8 d9 d10 d11 d12 d13 d14 R0
  have hx1 := (hx0.below Hr0.out hx0.lt).below hb (hx0.below Hr0.out hx0.lt).lt
  clear hb hx0
  cases r with
  | false =>
    go_wp2
    go_ret
    exact BoolPost.no (fun q => by have := HR.out.2 (HN1.out.2 (HMD.out.1 q).1.1); cases this) hB1
  | true =>
  have HX1 := Lib.hid (HN1.out.1 (HR.out.1 (by trivial)))
  clear HR Hr0 HB0
  obtain ⟨d0, d1, d2, d3, d4, d5, d6, d7, d8, d9, d10, d11, d12, d13, d14⟩ := hx1.c15
  have r1 : Below V1.heap.size V1 (V1.alloc (.cells #[.int .i64 2] 24)) := (Below.refl V1.heap.size V1).alloc (Nat.le_refl _) _
  have R1 := Lib.hid (none_any ⟨kind, lsn, epoch, txn, page, off, old, new, undo, prev, next, clr, stamp, opn, dirty⟩ ⟨oA, on, oc, nA, nn, nc, uA, un, uc, pA, pn, pc, dA, dn, dc⟩ (some ⟨V1.heap.size, 0, none⟩) 1 1 2 [] _ ((HS.out.below hB1).below r1) (row_ints V1 24 [2] #[.int .i64 2] rfl) rfl (by decide))
  have Hr1 := Lib.hid r1
  have HB1 := Lib.hid hB1
  clear r1 hB1
  dsimp only at R1
  go_wp2_with fail
  refine R1.out.mono ?_
  rintro e V2 ⟨r, rfl, HR, hb⟩
  have hB2 := below_step (below_step HB1.out Hr1.out (Nat.le_refl _)) hb (Nat.le_refl _)
  clear d0 d1 d2 d3 d4 d5 d6 d7 d8 d9 d10 d11 d12 d13 d14 R1
  have hx2 := (hx1.below Hr1.out hx1.lt).below hb (hx1.below Hr1.out hx1.lt).lt
  clear hb hx1
  cases r with
  | false =>
    go_wp2
    go_ret
    exact BoolPost.no (fun q => by have := HR.out.2 (HN2.out.2 (HMD.out.1 q).1.2.1); cases this) hB2
  | true =>
  have HX2 := Lib.hid (HN2.out.1 (HR.out.1 (by trivial)))
  clear HR Hr1 HB1
  obtain ⟨d0, d1, d2, d3, d4, d5, d6, d7, d8, d9, d10, d11, d12, d13, d14⟩ := hx2.c15
  have r2 : Below V2.heap.size V2 (V2.alloc (.cells #[.int .i64 2, .int .i64 3, .int .i64 4] 24)) := (Below.refl V2.heap.size V2).alloc (Nat.le_refl _) _
  have R2 := Lib.hid (none_any ⟨kind, lsn, epoch, txn, page, off, old, new, undo, prev, next, clr, stamp, opn, dirty⟩ ⟨oA, on, oc, nA, nn, nc, uA, un, uc, pA, pn, pc, dA, dn, dc⟩ (some ⟨V2.heap.size, 0, none⟩) 3 3 2 [3, 4] _ ((HS.out.below hB2).below r2) (row_ints V2 24 [2, 3, 4] #[.int .i64 2, .int .i64 3, .int .i64 4] rfl) rfl (by decide))
  have Hr2 := Lib.hid r2
  have HB2 := Lib.hid hB2
  clear r2 hB2
  dsimp only at R2
  go_wp2_with fail
  refine R2.out.mono ?_
  rintro e V3 ⟨r, rfl, HR, hb⟩
  have hB3 := below_step (below_step HB2.out Hr2.out (Nat.le_refl _)) hb (Nat.le_refl _)
  clear d0 d1 d2 d3 d4 d5 d6 d7 d8 d9 d10 d11 d12 d13 d14 R2
  have hx3 := (hx2.below Hr2.out hx2.lt).below hb (hx2.below Hr2.out hx2.lt).lt
  clear hb hx2
  cases r with
  | false =>
    go_wp2
    go_ret
    exact BoolPost.no (fun q => by have := HR.out.2 (HN3.out.2 (HMD.out.1 q).1.2.2.1); cases this) hB3
  | true =>
  have HX3 := Lib.hid (HN3.out.1 (HR.out.1 (by trivial)))
  clear HR Hr2 HB2
  obtain ⟨d0, d1, d2, d3, d4, d5, d6, d7, d8, d9, d10, d11, d12, d13, d14⟩ := hx3.c15
  have r3 : Below V3.heap.size V3 (V3.alloc (.cells #[.int .i64 3] 24)) := (Below.refl V3.heap.size V3).alloc (Nat.le_refl _) _
  have R3 := Lib.hid (none_any ⟨kind, lsn, epoch, txn, page, off, old, new, undo, prev, next, clr, stamp, opn, dirty⟩ ⟨oA, on, oc, nA, nn, nc, uA, un, uc, pA, pn, pc, dA, dn, dc⟩ (some ⟨V3.heap.size, 0, none⟩) 1 1 3 [] _ ((HS.out.below hB3).below r3) (row_ints V3 24 [3] #[.int .i64 3] rfl) rfl (by decide))
  have Hr3 := Lib.hid r3
  have HB3 := Lib.hid hB3
  clear r3 hB3
  dsimp only at R3
  go_wp2_with fail
  refine R3.out.mono ?_
  rintro e V4 ⟨r, rfl, HR, hb⟩
  have hB4 := below_step (below_step HB3.out Hr3.out (Nat.le_refl _)) hb (Nat.le_refl _)
  clear d0 d1 d2 d3 d4 d5 d6 d7 d8 d9 d10 d11 d12 d13 d14 R3
  have hx4 := (hx3.below Hr3.out hx3.lt).below hb (hx3.below Hr3.out hx3.lt).lt
  clear hb hx3
  cases r with
  | false =>
    go_wp2
    go_ret
    exact BoolPost.no (fun q => by have := HR.out.2 (HN4.out.2 (HMD.out.1 q).1.2.2.2.1); cases this) hB4
  | true =>
  have HX4 := Lib.hid (HN4.out.1 (HR.out.1 (by trivial)))
  clear HR Hr3 HB3
  obtain ⟨d0, d1, d2, d3, d4, d5, d6, d7, d8, d9, d10, d11, d12, d13, d14⟩ := hx4.c15
  have r4 : Below V4.heap.size V4 (V4.alloc (.cells #[.int .i64 5] 24)) := (Below.refl V4.heap.size V4).alloc (Nat.le_refl _) _
  have R4 := Lib.hid (none_any ⟨kind, lsn, epoch, txn, page, off, old, new, undo, prev, next, clr, stamp, opn, dirty⟩ ⟨oA, on, oc, nA, nn, nc, uA, un, uc, pA, pn, pc, dA, dn, dc⟩ (some ⟨V4.heap.size, 0, none⟩) 1 1 5 [] _ ((HS.out.below hB4).below r4) (row_ints V4 24 [5] #[.int .i64 5] rfl) rfl (by decide))
  have Hr4 := Lib.hid r4
  have HB4 := Lib.hid hB4
  clear r4 hB4
  dsimp only at R4
  go_wp2_with fail
  refine R4.out.mono ?_
  rintro e V5 ⟨r, rfl, HR, hb⟩
  have hB5 := below_step (below_step HB4.out Hr4.out (Nat.le_refl _)) hb (Nat.le_refl _)
  clear d0 d1 d2 d3 d4 d5 d6 d7 d8 d9 d10 d11 d12 d13 d14 R4
  have hx5 := (hx4.below Hr4.out hx4.lt).below hb (hx4.below Hr4.out hx4.lt).lt
  clear hb hx4
  cases r with
  | false =>
    go_wp2
    go_ret
    exact BoolPost.no (fun q => by have := HR.out.2 (HN5.out.2 (HMD.out.1 q).1.2.2.2.2); cases this) hB5
  | true =>
  have HX5 := Lib.hid (HN5.out.1 (HR.out.1 (by trivial)))
  clear HR Hr4 HB4
  obtain ⟨d0, d1, d2, d3, d4, d5, d6, d7, d8, d9, d10, d11, d12, d13, d14⟩ := hx5.c15
  have HMN : Hid (LogM.May ⟨kind, lsn, epoch, txn, page, off, old, new, undo, prev, next, clr, stamp, opn, dirty⟩ ↔ LogM.mayK ⟨kind, lsn, epoch, txn, page, off, old, new, undo, prev, next, clr, stamp, opn, dirty⟩) := Lib.hid ⟨fun q => (HMD.out.1 q).2, fun q => HMD.out.2 ⟨⟨HX1.out, HX2.out, HX3.out, HX4.out, HX5.out⟩, q⟩⟩
  clear HX1 HX2 HX3 HX4 HX5 HMD hx5 HN1 HN2 HN3 HN4 HN5
  by_cases k1 : kind = 1
  · subst k1
    have HK : Hid (LogM.mayK ⟨1, lsn, epoch, txn, page, off, old, new, undo, prev, next, clr, stamp, opn, dirty⟩ ↔ (on = nn ∧ 0 < on ∧ on ≤ 500 ∧ off + on ≤ 500)) := Lib.hid (by unfold LogM.mayK; rw [if_pos rfl]; simp only [HS.out.lo, HS.out.ln])
    have ho := HS.out.fit.off
    have hoo := HS.out.co
    unfold maxLen at hoo
    dsimp only at ho hoo
    by_cases c1 : on = nn
    · subst c1
      by_cases c2 : 0 < on
      · by_cases c3 : on ≤ 500
        · by_cases c4 : off + on ≤ 500
          · go_wp2
            go_ret
            exact BoolPost.yes' (HMN.out.2 (HK.out.2 ⟨by trivial, c2, c3, c4⟩)) hB5 (by go_num)
          · go_wp2
            go_ret
            exact BoolPost.no' (fun q => c4 (HK.out.1 (HMN.out.1 q)).2.2.2) hB5 (by go_num)
        · go_wp2
          go_ret
          exact BoolPost.no (fun q => c3 (HK.out.1 (HMN.out.1 q)).2.2.1) hB5
      · go_wp2
        go_ret
        exact BoolPost.no (fun q => c2 (HK.out.1 (HMN.out.1 q)).2.1) hB5
    · go_wp2
      go_ret
      exact BoolPost.no (fun q => c1 (HK.out.1 (HMN.out.1 q)).1) hB5
  by_cases k2 : kind = 2
  · subst k2
    have HK : Hid (LogM.mayK ⟨2, lsn, epoch, txn, page, off, old, new, undo, prev, next, clr, stamp, opn, dirty⟩ ↔ (if clr = true then un = 0 else next = 0 ∧ un ≤ 64)) := Lib.hid (by unfold LogM.mayK; dsimp only; rw [if_neg (by decide), if_pos rfl]; simp only [HS.out.lu, nil_iff HS.out.lu])
    cases clr with
    | true =>
      by_cases c1 : un = 0
      · subst c1
        go_wp2
        go_ret
        exact BoolPost.yes' (HMN.out.2 (HK.out.2 (by simp))) hB5 (by simp)
      · go_wp2
        go_ret
        exact BoolPost.no' (fun q => c1 (by simpa using HK.out.1 (HMN.out.1 q))) hB5 (by simp; omega)
    | false =>
      by_cases c1 : next = 0
      · subst c1
        by_cases c2 : un ≤ 64
        · go_wp2
          go_ret
          exact BoolPost.yes' (HMN.out.2 (HK.out.2 (by simp; omega))) hB5 (by simp; omega)
        · go_wp2
          go_ret
          exact BoolPost.no' (fun q => c2 (by simpa using HK.out.1 (HMN.out.1 q))) hB5 (by simp; omega)
      · go_wp2
        go_ret
        exact BoolPost.no (fun q => c1 (by have := HK.out.1 (HMN.out.1 q); simp at this; exact this.1)) hB5
  by_cases k34 : kind = 3 ∨ kind = 4
  · have HK : Hid (LogM.mayK ⟨kind, lsn, epoch, txn, page, off, old, new, undo, prev, next, clr, stamp, opn, dirty⟩ ↔ txn ≠ 0) := Lib.hid (by unfold LogM.mayK; rw [if_neg k1, if_neg k2, if_pos k34])
    have hfin : ∀ r : Bool, r = (decide ((txn : Int) = 0)) → True := fun _ _ => trivial
    clear hfin
    rcases k34 with k3 | k4
    · subst k3
      by_cases c1 : txn = 0
      · subst c1
        go_wp2
        go_ret
        exact BoolPost.no' (fun q => HK.out.1 (HMN.out.1 q) rfl) hB5 (by simp)
      · go_wp2
        go_ret
        exact BoolPost.yes' (HMN.out.2 (HK.out.2 c1)) hB5 (by simp; omega)
    · subst k4
      by_cases c1 : txn = 0
      · subst c1
        go_wp2
        go_ret
        exact BoolPost.no' (fun q => HK.out.1 (HMN.out.1 q) rfl) hB5 (by simp)
      · go_wp2
        go_ret
        exact BoolPost.yes' (HMN.out.2 (HK.out.2 c1)) hB5 (by simp; omega)
  have k3 : ¬ kind = 3 := fun q => k34 (.inl q)
  have k4 : ¬ kind = 4 := fun q => k34 (.inr q)
  by_cases k5 : kind = 5
  · subst k5
    have HK : Hid (LogM.mayK ⟨5, lsn, epoch, txn, page, off, old, new, undo, prev, next, clr, stamp, opn, dirty⟩ ↔ (pn ≤ 16 ∧ dn ≤ 64)) := Lib.hid (by unfold LogM.mayK; dsimp only; rw [if_neg (by decide), if_neg (by decide), if_neg (by decide), if_pos rfl]; simp only [HS.out.lp, HS.out.ld])
    clear k34 k1 k2 k3 k4
    by_cases c1 : pn ≤ 16
    · by_cases c2 : dn ≤ 64
      · go_wp2
        go_ret
        exact BoolPost.yes' (HMN.out.2 (HK.out.2 ⟨c1, c2⟩)) hB5 (by simp; omega)
      · go_wp2
        go_ret
        exact BoolPost.no' (fun q => c2 (HK.out.1 (HMN.out.1 q)).2) hB5 (by simp; omega)
    · go_wp2
      go_ret
      exact BoolPost.no (fun q => c1 (HK.out.1 (HMN.out.1 q)).1) hB5
  · have HK : Hid (¬ LogM.mayK ⟨kind, lsn, epoch, txn, page, off, old, new, undo, prev, next, clr, stamp, opn, dirty⟩) := Lib.hid (by unfold LogM.mayK; rw [if_neg k1, if_neg k2, if_neg k34, if_neg k5]; exact id)
    clear k34
    go_wp2
    go_ret
    exact BoolPost.no (fun q => HK.out (HMN.out.1 q)) hB5
end Go.Proofs.Ytpgmhjjdnanlgaa
