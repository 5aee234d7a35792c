/-
  Whether two records are alike, by the document's word.
  Conditions: the lists lie in memory.
-/
import Derived.Test.YtpgmhjjdnanlgaaLogW3
namespace Go.Proofs.Ytpgmhjjdnanlgaa
open Go.RowKit Go.Sort Go.Lib
set_option linter.unusedVariables false
set_option linter.unusedSimpArgs false
set_option maxRecDepth 100000 in
set_option maxHeartbeats 16000000 in
theorem rsame_yes (s t : Lrec) (y z : Lsl) (w : World) (hs : LogAt w y s) (ht : LogAt w z t)
    (hE : s.kind = t.kind ∧ s.lsn = t.lsn ∧ s.epoch = t.epoch ∧ s.txn = t.txn ∧ s.page = t.page ∧ s.off = t.off ∧ s.prev = t.prev ∧ s.next = t.next ∧ s.clr = t.clr ∧ s.stamp = t.stamp ∧ s.old = t.old ∧ s.new = t.new ∧ s.undo = t.undo ∧ y.pn = z.pn ∧ y.dn = z.dn) :
    Calls Try.prog 11 #[.agg #[.int .i64 s.kind, .int .u64 (s.lsn : Int), .int .u32 (s.epoch : Int), .int .u64 (s.txn : Int), .int .u32 (s.page : Int), .int .u16 (s.off : Int), .slice y.oA y.on y.oc, .slice y.nA y.nn y.nc, .slice y.uA y.un y.uc, .int .u64 (s.prev : Int), .int .u64 (s.next : Int), .bool s.clr, .int .u64 (s.stamp : Int), .slice y.pA y.pn y.pc, .slice y.dA y.dn y.dc], .agg #[.int .i64 t.kind, .int .u64 (t.lsn : Int), .int .u32 (t.epoch : Int), .int .u64 (t.txn : Int), .int .u32 (t.page : Int), .int .u16 (t.off : Int), .slice z.oA z.on z.oc, .slice z.nA z.nn z.nc, .slice z.uA z.un z.uc, .int .u64 (t.prev : Int), .int .u64 (t.next : Int), .bool t.clr, .int .u64 (t.stamp : Int), .slice z.pA z.pn z.pc, .slice z.dA z.dn z.dc]] w (BoolPost (s = t) w) := by
  have HS := Lib.hid hs
  have HT := Lib.hid ht
  clear hs ht
  obtain ⟨kind, lsn, epoch, txn, page, off, old, new, undo, prev, next, clr, stamp, opn, dirty⟩ := s
  obtain ⟨oA, on, oc, nA, nn, nc, uA, un, uc, pA, pn, pc, dA, dn, dc⟩ := y
  obtain ⟨kind2, lsn2, epoch2, txn2, page2, off2, old2, new2, undo2, prev2, next2, clr2, stamp2, opn2, dirty2⟩ := t
  obtain ⟨oA2, on2, oc2, nA2, nn2, nc2, uA2, un2, uc2, pA2, pn2, pc2, dA2, dn2, dc2⟩ := z
  dsimp only at hE
  obtain ⟨rfl, rfl, rfl, rfl, rfl, rfl, rfl, rfl, rfl, rfl, rfl, rfl, rfl, rfl, rfl⟩ := hE
  have hoo : on = on2 := HS.out.lo.symm.trans HT.out.lo
  have hnn : nn = nn2 := HS.out.ln.symm.trans HT.out.ln
  have huu : un = un2 := HS.out.lu.symm.trans HT.out.lu
  subst hoo hnn huu
  have HP : Hid (pn ≤ 9223372036854775807 ∧ dn ≤ 9223372036854775807) := Lib.hid ⟨by have := HS.out.cp; unfold maxLen at this; simp only at this; omega, by have := HS.out.cd; unfold maxLen at this; simp only at this; omega⟩
  go_enter Try.func11, Try.ntmps11
  have hx0 := (Blk.new w 31 #[.int .i64 kind, .int .u64 (lsn : Int), .int .u32 (epoch : Int), .int .u64 (txn : Int), .int .u32 (page : Int), .int .u16 (off : Int), .slice oA on oc, .slice nA nn nc, .slice uA un uc, .int .u64 (prev : Int), .int .u64 (next : Int), .bool clr, .int .u64 (stamp : Int), .slice pA pn pc, .slice dA dn dc]).alloc (.cells #[.int .i64 kind, .int .u64 (lsn : Int), .int .u32 (epoch : Int), .int .u64 (txn : Int), .int .u32 (page : Int), .int .u16 (off : Int), .slice oA2 on oc2, .slice nA2 nn nc2, .slice uA2 un uc2, .int .u64 (prev : Int), .int .u64 (next : Int), .bool clr, .int .u64 (stamp : Int), .slice pA2 pn pc2, .slice dA2 dn dc2] 31)
  have hy0 : Blk ((w.alloc (.cells #[.int .i64 kind, .int .u64 (lsn : Int), .int .u32 (epoch : Int), .int .u64 (txn : Int), .int .u32 (page : Int), .int .u16 (off : Int), .slice oA on oc, .slice nA nn nc, .slice uA un uc, .int .u64 (prev : Int), .int .u64 (next : Int), .bool clr, .int .u64 (stamp : Int), .slice pA pn pc, .slice dA dn dc] 31)).alloc (.cells #[.int .i64 kind, .int .u64 (lsn : Int), .int .u32 (epoch : Int), .int .u64 (txn : Int), .int .u32 (page : Int), .int .u16 (off : Int), .slice oA2 on oc2, .slice nA2 nn nc2, .slice uA2 un uc2, .int .u64 (prev : Int), .int .u64 (next : Int), .bool clr, .int .u64 (stamp : Int), .slice pA2 pn pc2, .slice dA2 dn dc2] 31)) (w.heap.size + 1) 31 #[.int .i64 kind, .int .u64 (lsn : Int), .int .u32 (epoch : Int), .int .u64 (txn : Int), .int .u32 (page : Int), .int .u16 (off : Int), .slice oA2 on oc2, .slice nA2 nn nc2, .slice uA2 un uc2, .int .u64 (prev : Int), .int .u64 (next : Int), .bool clr, .int .u64 (stamp : Int), .slice pA2 pn pc2, .slice dA2 dn dc2] := by
    have := Blk.new (w.alloc (.cells #[.int .i64 kind, .int .u64 (lsn : Int), .int .u32 (epoch : Int), .int .u64 (txn : Int), .int .u32 (page : Int), .int .u16 (off : Int), .slice oA on oc, .slice nA nn nc, .slice uA un uc, .int .u64 (prev : Int), .int .u64 (next : Int), .bool clr, .int .u64 (stamp : Int), .slice pA pn pc, .slice dA dn dc] 31)) 31 #[.int .i64 kind, .int .u64 (lsn : Int), .int .u32 (epoch : Int), .int .u64 (txn : Int), .int .u32 (page : Int), .int .u16 (off : Int), .slice oA2 on oc2, .slice nA2 nn nc2, .slice uA2 un uc2, .int .u64 (prev : Int), .int .u64 (next : Int), .bool clr, .int .u64 (stamp : Int), .slice pA2 pn pc2, .slice dA2 dn dc2]
    simpa using this
  have hB0 : Below w.heap.size w ((w.alloc (.cells #[.int .i64 kind, .int .u64 (lsn : Int), .int .u32 (epoch : Int), .int .u64 (txn : Int), .int .u32 (page : Int), .int .u16 (off : Int), .slice oA on oc, .slice nA nn nc, .slice uA un uc, .int .u64 (prev : Int), .int .u64 (next : Int), .bool clr, .int .u64 (stamp : Int), .slice pA pn pc, .slice dA dn dc] 31)).alloc (.cells #[.int .i64 kind, .int .u64 (lsn : Int), .int .u32 (epoch : Int), .int .u64 (txn : Int), .int .u32 (page : Int), .int .u16 (off : Int), .slice oA2 on oc2, .slice nA2 nn nc2, .slice uA2 un uc2, .int .u64 (prev : Int), .int .u64 (next : Int), .bool clr, .int .u64 (stamp : Int), .slice pA2 pn pc2, .slice dA2 dn dc2] 31)) := ((Below.refl w.heap.size w).alloc (Nat.le_refl _) _).alloc (by simp) _
  go_upto_region 1 with fail
  generalize (w.alloc (.cells #[.int .i64 kind, .int .u64 (lsn : Int), .int .u32 (epoch : Int), .int .u64 (txn : Int), .int .u32 (page : Int), .int .u16 (off : Int), .slice oA on oc, .slice nA nn nc, .slice uA un uc, .int .u64 (prev : Int), .int .u64 (next : Int), .bool clr, .int .u64 (stamp : Int), .slice pA pn pc, .slice dA dn dc] 31)).alloc (.cells #[.int .i64 kind, .int .u64 (lsn : Int), .int .u32 (epoch : Int), .int .u64 (txn : Int), .int .u32 (page : Int), .int .u16 (off : Int), .slice oA2 on oc2, .slice nA2 nn nc2, .slice uA2 un uc2, .int .u64 (prev : Int), .int .u64 (next : Int), .bool clr, .int .u64 (stamp : Int), .slice pA2 pn pc2, .slice dA2 dn dc2] 31) = V0 at *
  obtain ⟨g, hg⟩ : ∃ g, w.heap.size = g := ⟨_, rfl⟩
  obtain ⟨k, hk⟩ : ∃ k, w.heap.size + 1 = k := ⟨_, rfl⟩
  rw [hg] at hx0
  rw [hk] at hy0
  simp only [hg, hk]
  rw [hg] at hk
  clear hg
  have hS0 := HS.out.below hB0
  have hT0 := HT.out.below hB0
  obtain ⟨d0, d1, d2, d3, d4, d5, d6, d7, d8, d9, d10, d11, d12, d13, d14⟩ := hx0.c15
  obtain ⟨e0, e1, e2, e3, e4, e5, e6, e7, e8, e9, e10, e11, e12, e13, e14⟩ := hy0.c15
  have s1 := str_len _ oA on oc old hS0.lo hS0.ro
  have s2 := str_len _ oA2 on oc2 old hT0.lo hT0.ro
  have s3 := str_len _ nA nn nc new hS0.ln hS0.rn
  have s4 := str_len _ nA2 nn nc2 new hT0.ln hT0.rn
  have s5 := str_len _ uA un uc undo hS0.lu hS0.ru
  have s6 := str_len _ uA2 un uc2 undo hT0.lu hT0.ru
  clear hS0 hT0
  have HX := Lib.hid hx0
  have HY := Lib.hid hy0
  have HB := Lib.hid hB0
  have hpl := HP.out.1
  have hdl := HP.out.2
  clear hx0 hy0 hB0
  cases clr <;>
  (go_upto_region 5 with fail
   clear s1 s2 s3 s4 s5 s6 d0 d1 d2 d3 d4 d5 d6 d7 d8 d9 d10 d11 d12 d13 d14 e0 e1 e2 e3 e4 e5 e6 e7 e8 e9 e10 e11 e12 e13 e14
   go_wp2
   go_loopw [5] (fun i wr => ∃ q : Nat, i = .int .i64 (q : Int) ∧ q ≤ pn ∧ Hid (∀ j, j < q → opn[j]? = opn2[j]?) ∧ Below V0.heap.size V0 wr) (fun i _ => pn - (intOf i).toNat)
   case atStart => exact ⟨0, rfl, Nat.zero_le _, Lib.hid fun j hj => by omega, Below.refl _ _⟩
   case round =>
     obtain ⟨q, rfl, hq, HA, hbel⟩ := hrel
     have hdn : ∀ n, Below wr.heap.size wr (wr.drewN n) := fun n => ⟨rfl, rfl, rfl, Nat.le_refl _, fun _ _ => rfl⟩
     have HDN := Lib.hid hdn
     clear hdn
     obtain ⟨_, _, _, _, _, _, _, _, _, _, _, _, _, d13, d14⟩ := (HX.out.below hbel HX.out.lt).c15
     obtain ⟨_, _, _, _, _, _, _, _, _, _, _, _, _, e13, e14⟩ := (HY.out.below hbel HY.out.lt).c15
     have HS1 := Lib.hid (HS.out.below (HB.out.trans (hbel.mono HB.out.size)))
     have HT1 := Lib.hid (HT.out.below (HB.out.trans (hbel.mono HB.out.size)))
     by_cases hlt : q < pn
     · obtain ⟨a, ha⟩ : ∃ a, opn[q]? = some a := ⟨_, List.getElem?_eq_getElem (by have := HS.out.lp; simp only at this; omega)⟩
       obtain ⟨c, hc⟩ : ∃ c, opn2[q]? = some c := ⟨_, List.getElem?_eq_getElem (by have := HT.out.lp; simp only at this; omega)⟩
       obtain ⟨b, o, hpA, f1, f2, f3⟩ := row_ch HS1.out.rp ha
       obtain ⟨b2, o2, hpA2, g1, g2, g3⟩ := row_ch HT1.out.rp hc
       obtain rfl : pA = some ⟨b, o, none⟩ := hpA
       obtain rfl : pA2 = some ⟨b2, o2, none⟩ := hpA2
       have HAA := Lib.hid ha
       have HCC := Lib.hid hc
       clear ha hc
       by_cases hac : a = c
       · have HQ : Hid (∀ j, j < q + 1 → opn[j]? = opn2[j]?) := Lib.hid (fun j hj => by
           by_cases e : j = q
           · subst e; rw [HAA.out, HCC.out, hac]
           · exact HA.out j (by omega))
         go_wp2
         go_quiet (fail)
         have HB2 := Lib.hid (below_step hbel (HDN.out nq) (Nat.le_refl _))
         go_wp2
         go_roundw
         case rel => first | exact ⟨q + 1, by go_num, by omega, HQ, HB2.out⟩ | ((repeat apply Exists.intro (α := Value)); refine ⟨⟨q + 1, ?_, by omega, HQ, HB2.out⟩, rfl⟩; go_num)
         case measure => simp [intOf]; omega
       · have HN : Hid (¬ opn = opn2) := Lib.hid fun h => hac (by have h1 := HAA.out; rw [h, HCC.out] at h1; injection h1 with h1; exact h1.symm)
         go_wp2
         go_quiet (fail)
         have HB2 := Lib.hid (HB.out.trans ((below_step hbel (HDN.out nq) (Nat.le_refl _)).mono HB.out.size))
         go_wp2
         go_ret
         exact BoolPost.no (fun h => HN.out (congrArg Lrec.opn h)) HB2.out
     · obtain rfl : q = pn := by omega
       have HO : Hid (opn = opn2) := Lib.hid (list_eq HS.out.lp HT.out.lp HA.out)
       go_wp2
       clear d13 d14 e13 e14 HS1 HT1
       go_loopw [6] (fun i wr => ∃ q : Nat, i = .int .i64 (q : Int) ∧ q ≤ dn ∧ Hid (∀ j, j < q → dirty[j]? = dirty2[j]?) ∧ Below V0.heap.size V0 wr) (fun i _ => dn - (intOf i).toNat)
       case atStart => exact ⟨0, rfl, Nat.zero_le _, Lib.hid fun j hj => by omega, hbel⟩
       case round =>
         clear hbel
         obtain ⟨z, rfl, hz, HA2, hbel⟩ := hrel
         have hdn : ∀ n, Below wr.heap.size wr (wr.drewN n) := fun n => ⟨rfl, rfl, rfl, Nat.le_refl _, fun _ _ => rfl⟩
         have HDN2 := Lib.hid hdn
         clear hdn
         obtain ⟨_, _, _, _, _, _, _, _, _, _, _, _, _, d13, d14⟩ := (HX.out.below hbel HX.out.lt).c15
         obtain ⟨_, _, _, _, _, _, _, _, _, _, _, _, _, e13, e14⟩ := (HY.out.below hbel HY.out.lt).c15
         have HS1 := Lib.hid (HS.out.below (HB.out.trans (hbel.mono HB.out.size)))
         have HT1 := Lib.hid (HT.out.below (HB.out.trans (hbel.mono HB.out.size)))
         by_cases hlt2 : z < dn
         · obtain ⟨a, ha⟩ : ∃ a, dirty[z]? = some a := ⟨_, List.getElem?_eq_getElem (by have := HS.out.ld; simp only at this; omega)⟩
           obtain ⟨c, hc⟩ : ∃ c, dirty2[z]? = some c := ⟨_, List.getElem?_eq_getElem (by have := HT.out.ld; simp only at this; omega)⟩
           obtain ⟨b, o, hpA, f1, f2⟩ := row_dt HS1.out.rd ha
           obtain ⟨b2, o2, hpA2, g1, g2⟩ := row_dt HT1.out.rd hc
           obtain rfl : dA = some ⟨b, o, none⟩ := hpA
           obtain rfl : dA2 = some ⟨b2, o2, none⟩ := hpA2
           have HAA := Lib.hid ha
           have HCC := Lib.hid hc
           clear ha hc
           by_cases hac : a = c
           · have HQ : Hid (∀ j, j < z + 1 → dirty[j]? = dirty2[j]?) := Lib.hid (fun j hj => by
               by_cases e : j = z
               · subst e; rw [HAA.out, HCC.out, hac]
               · exact HA2.out j (by omega))
             go_wp2
             go_quiet (fail)
             have HB2 := Lib.hid (below_step hbel (HDN2.out nq) (Nat.le_refl _))
             go_wp2
             go_roundw
             case rel => first | exact ⟨z + 1, by go_num, by omega, HQ, HB2.out⟩ | ((repeat apply Exists.intro (α := Value)); refine ⟨⟨z + 1, ?_, by omega, HQ, HB2.out⟩, rfl⟩; go_num)
             case measure => simp [intOf]; omega
           · have HN : Hid (¬ dirty = dirty2) := Lib.hid fun h => hac (by have h1 := HAA.out; rw [h, HCC.out] at h1; injection h1 with h1; exact h1.symm)
             go_wp2
             go_quiet (fail)
             have HB2 := Lib.hid (HB.out.trans ((below_step hbel (HDN2.out nq) (Nat.le_refl _)).mono HB.out.size))
             go_wp2
             go_ret
             exact BoolPost.no (fun h => HN.out (congrArg Lrec.dirty h)) HB2.out
         · obtain rfl : z = dn := by omega
           have HO2 : Hid (dirty = dirty2) := Lib.hid (list_eq HS.out.ld HT.out.ld HA2.out)
           go_wp2
           go_ret
           exact BoolPost.yes (by rw [HO.out, HO2.out]) (HB.out.trans (hbel.mono HB.out.size)))
end Go.Proofs.Ytpgmhjjdnanlgaa
