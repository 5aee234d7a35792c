/-
  A record with the fields alone that its kind has, by the document's word.
  Conditions: its lists lie in memory.
-/
import Derived.Test.YtpgmhjjdnanlgaaLogC1
import Derived.Test.YtpgmhjjdnanlgaaRow
import Derived.Test.YtpgmhjjdnanlgaaLogS3
namespace Go.Proofs.Ytpgmhjjdnanlgaa
open Go.RowKit Go.Sort Go.Lib
set_option linter.unusedVariables false
set_option linter.unusedSimpArgs false
/-- The slices of a bare record. -/
def bareL (k : Int) (y : Lsl) : Lsl :=
  if k = 1 then ⟨y.oA, y.on, y.oc, y.nA, y.nn, y.nc, none, 0, 0, none, 0, 0, none, 0, 0⟩
  else if k = 2 then ⟨none, 0, 0, none, 0, 0, y.uA, y.un, y.uc, none, 0, 0, none, 0, 0⟩
  else if k = 5 then ⟨none, 0, 0, none, 0, 0, none, 0, 0, y.pA, y.pn, y.pc, y.dA, y.dn, y.dc⟩
  else Lsl.z
def recV (s : Lrec) (y : Lsl) : Value := .agg #[.int .i64 s.kind, .int .u64 (s.lsn : Int), .int .u32 (s.epoch : Int), .int .u64 (s.txn : Int), .int .u32 (s.page : Int), .int .u16 (s.off : Int), .slice y.oA y.on y.oc, .slice y.nA y.nn y.nc, .slice y.uA y.un y.uc, .int .u64 (s.prev : Int), .int .u64 (s.next : Int), .bool s.clr, .int .u64 (s.stamp : Int), .slice y.pA y.pn y.pc, .slice y.dA y.dn y.dc]
theorem nil_le : (0 : Nat) ≤ 0 ∧ 0 ≤ maxLen := ⟨Nat.le_refl _, Nat.zero_le _⟩
theorem LogAt.bare {w : World} {y : Lsl} {s : Lrec} (h : LogAt w y s) : LogAt w (bareL s.kind y) (LogM.bare s) := by
  have f := h.fit
  unfold bareL LogM.bare
  by_cases h1 : s.kind = 1
  · simp only [h1, if_true]
    exact ⟨h.ro, h.rn, Row.nil _ _, Row.nil _ _, Row.nil _ _, h.lo, h.ln, rfl, rfl, rfl, h.co, h.cn, nil_le, nil_le, nil_le, ⟨f.lsn, f.epoch, by show 0 < _; omega, f.page, f.off, by show 0 < _; omega, by show 0 < _; omega, by show 0 < _; omega, nofun, nofun⟩⟩
  by_cases h2 : s.kind = 2
  · simp only [h2, if_true]
    exact ⟨Row.nil _ _, Row.nil _ _, h.ru, Row.nil _ _, Row.nil _ _, rfl, rfl, h.lu, rfl, rfl, nil_le, nil_le, h.cu, nil_le, nil_le, ⟨f.lsn, f.epoch, f.txn, by show 0 < _; omega, by show 0 < _; omega, f.prev, f.next, by show 0 < _; omega, nofun, nofun⟩⟩
  by_cases h3 : s.kind = 3
  · simp only [h3, if_true]
    exact ⟨Row.nil _ _, Row.nil _ _, Row.nil _ _, Row.nil _ _, Row.nil _ _, rfl, rfl, rfl, rfl, rfl, nil_le, nil_le, nil_le, nil_le, nil_le, ⟨f.lsn, f.epoch, f.txn, by show 0 < _; omega, by show 0 < _; omega, by show 0 < _; omega, by show 0 < _; omega, f.stamp, nofun, nofun⟩⟩
  by_cases h4 : s.kind = 4
  · simp only [h4, if_true]
    exact ⟨Row.nil _ _, Row.nil _ _, Row.nil _ _, Row.nil _ _, Row.nil _ _, rfl, rfl, rfl, rfl, rfl, nil_le, nil_le, nil_le, nil_le, nil_le, ⟨f.lsn, f.epoch, f.txn, by show 0 < _; omega, by show 0 < _; omega, by show 0 < _; omega, by show 0 < _; omega, by show 0 < _; omega, nofun, nofun⟩⟩
  by_cases h5 : s.kind = 5
  · simp only [h5, if_true]
    exact ⟨Row.nil _ _, Row.nil _ _, Row.nil _ _, h.rp, h.rd, rfl, rfl, rfl, h.lp, h.ld, nil_le, nil_le, nil_le, h.cp, h.cd, ⟨f.lsn, f.epoch, by show 0 < _; omega, by show 0 < _; omega, by show 0 < _; omega, by show 0 < _; omega, by show 0 < _; omega, by show 0 < _; omega, f.opn, f.dirty⟩⟩
  · simp only [h1, h2, h3, h4, h5, if_false]
    exact ⟨Row.nil _ _, Row.nil _ _, Row.nil _ _, Row.nil _ _, Row.nil _ _, rfl, rfl, rfl, rfl, rfl, nil_le, nil_le, nil_le, nil_le, nil_le, ⟨f.lsn, f.epoch, by show 0 < _; omega, by show 0 < _; omega, by show 0 < _; omega, by show 0 < _; omega, by show 0 < _; omega, by show 0 < _; omega, nofun, nofun⟩⟩
def BarePost (s : Lrec) (y : Lsl) (w : World) (e : Ending) (w' : World) : Prop := e = .returned (recV (LogM.bare s) (bareL s.kind y)) ∧ Below w.heap.size w w'
set_option maxRecDepth 100000 in
set_option maxHeartbeats 8000000 in
theorem bare_any (s : Lrec) (y : Lsl) (w : World) :
    Calls Try.prog 33 #[.agg #[.int .i64 s.kind, .int .u64 (s.lsn : Int), .int .u32 (s.epoch : Int), .int .u64 (s.txn : Int), .int .u32 (s.page : Int), .int .u16 (s.off : Int), .slice y.oA y.on y.oc, .slice y.nA y.nn y.nc, .slice y.uA y.un y.uc, .int .u64 (s.prev : Int), .int .u64 (s.next : Int), .bool s.clr, .int .u64 (s.stamp : Int), .slice y.pA y.pn y.pc, .slice y.dA y.dn y.dc]] w (BarePost s y w) := by
  obtain ⟨kind, lsn, epoch, txn, page, off, old, new, undo, prev, next, clr, stamp, opn, dirty⟩ := s
  obtain ⟨oA, on, oc, nA, nn, nc, uA, un, uc, pA, pn, pc, dA, dn, dc⟩ := y
  go_enter Try.func33, Try.ntmps33
  have hx := Blk.new w 31 #[.int .i64 kind, .int .u64 (lsn : Int), .int .u32 (epoch : Int), .int .u64 (txn : Int), .int .u32 (page : Int), .int .u16 (off : Int), .slice oA on oc, .slice nA nn nc, .slice uA un uc, .int .u64 (prev : Int), .int .u64 (next : Int), .bool clr, .int .u64 (stamp : Int), .slice pA pn pc, .slice dA dn dc]
  have hz := Blk.new (w.alloc (.cells #[.int .i64 kind, .int .u64 (lsn : Int), .int .u32 (epoch : Int), .int .u64 (txn : Int), .int .u32 (page : Int), .int .u16 (off : Int), .slice oA on oc, .slice nA nn nc, .slice uA un uc, .int .u64 (prev : Int), .int .u64 (next : Int), .bool clr, .int .u64 (stamp : Int), .slice pA pn pc, .slice dA dn dc] 31)) 31 #[.int .i64 0, .int .u64 0, .int .u32 0, .int .u64 0, .int .u32 0, .int .u16 0, .slice none 0 0, .slice none 0 0, .slice none 0 0, .int .u64 0, .int .u64 0, .bool false, .int .u64 0, .slice none 0 0, .slice none 0 0]
  have hb : Below w.heap.size w ((w.alloc (.cells #[.int .i64 kind, .int .u64 (lsn : Int), .int .u32 (epoch : Int), .int .u64 (txn : Int), .int .u32 (page : Int), .int .u16 (off : Int), .slice oA on oc, .slice nA nn nc, .slice uA un uc, .int .u64 (prev : Int), .int .u64 (next : Int), .bool clr, .int .u64 (stamp : Int), .slice pA pn pc, .slice dA dn dc] 31)).alloc (.cells #[.int .i64 0, .int .u64 0, .int .u32 0, .int .u64 0, .int .u32 0, .int .u16 0, .slice none 0 0, .slice none 0 0, .slice none 0 0, .int .u64 0, .int .u64 0, .bool false, .int .u64 0, .slice none 0 0, .slice none 0 0] 31)) := ((Below.refl w.heap.size w).alloc (Nat.le_refl _) _).alloc (by simp) _
  have hx' := hx.alloc (.cells #[.int .i64 0, .int .u64 0, .int .u32 0, .int .u64 0, .int .u32 0, .int .u16 0, .slice none 0 0, .slice none 0 0, .slice none 0 0, .int .u64 0, .int .u64 0, .bool false, .int .u64 0, .slice none 0 0, .slice none 0 0] 31)
  clear hx
  have hx := hx'
  clear hx'
  have e1 : (w.alloc (.cells #[.int .i64 kind, .int .u64 (lsn : Int), .int .u32 (epoch : Int), .int .u64 (txn : Int), .int .u32 (page : Int), .int .u16 (off : Int), .slice oA on oc, .slice nA nn nc, .slice uA un uc, .int .u64 (prev : Int), .int .u64 (next : Int), .bool clr, .int .u64 (stamp : Int), .slice pA pn pc, .slice dA dn dc] 31)).heap.size = w.heap.size + 1 := by simp
  rw [e1] at hz
  go_upto_region 1 with fail
  generalize (w.alloc (.cells #[.int .i64 kind, .int .u64 (lsn : Int), .int .u32 (epoch : Int), .int .u64 (txn : Int), .int .u32 (page : Int), .int .u16 (off : Int), .slice oA on oc, .slice nA nn nc, .slice uA un uc, .int .u64 (prev : Int), .int .u64 (next : Int), .bool clr, .int .u64 (stamp : Int), .slice pA pn pc, .slice dA dn dc] 31)).alloc (.cells #[.int .i64 0, .int .u64 0, .int .u32 0, .int .u64 0, .int .u32 0, .int .u16 0, .slice none 0 0, .slice none 0 0, .slice none 0 0, .int .u64 0, .int .u64 0, .bool false, .int .u64 0, .slice none 0 0, .slice none 0 0] 31) = Va at *
  obtain ⟨g, hg⟩ : ∃ g, w.heap.size = g := ⟨_, rfl⟩
  obtain ⟨gz, hgz⟩ : ∃ gz, w.heap.size + 1 = gz := ⟨_, rfl⟩
  rw [hg] at hx
  rw [hgz] at hz
  simp only [hgz]
  simp only [hg]
  have HG := Lib.hid (And.intro hg hgz)
  clear hg hgz e1
  obtain ⟨d0, d1, d2, d3, d4, d5, d6, d7, d8, d9, d10, d11, d12, d13, d14⟩ := hx.c15
  go_upto_region 2 with fail
  clear d0 d1 d2 d3 d4 d5 d6 d7 d8 d9 d10 d11 d12 d13 d14
  have hc := Blk.new Va 31 #[.int .i64 kind, .int .u64 (lsn : Int), .int .u32 (epoch : Int), .int .u64 0, .int .u32 0, .int .u16 0, .slice none 0 0, .slice none 0 0, .slice none 0 0, .int .u64 0, .int .u64 0, .bool false, .int .u64 0, .slice none 0 0, .slice none 0 0]
  have hba : Below Va.heap.size Va (Va.alloc (.cells #[.int .i64 kind, .int .u64 (lsn : Int), .int .u32 (epoch : Int), .int .u64 0, .int .u32 0, .int .u16 0, .slice none 0 0, .slice none 0 0, .slice none 0 0, .int .u64 0, .int .u64 0, .bool false, .int .u64 0, .slice none 0 0, .slice none 0 0] 31)) := (Below.refl _ _).alloc (Nat.le_refl _) _
  have hx0 := hx.below hba hx.lt
  have hz0 := hz.below hba hz.lt
  have hB0 := below_step hb hba (Nat.le_refl _)
  have hgz2 := hz.lt
  have hgx2 := hx.lt
  generalize Va.alloc (.cells #[.int .i64 kind, .int .u64 (lsn : Int), .int .u32 (epoch : Int), .int .u64 0, .int .u32 0, .int .u16 0, .slice none 0 0, .slice none 0 0, .slice none 0 0, .int .u64 0, .int .u64 0, .bool false, .int .u64 0, .slice none 0 0, .slice none 0 0] 31) = V0 at *
  obtain ⟨gc, hgc2⟩ : ∃ gc, Va.heap.size = gc := ⟨_, rfl⟩
  rw [hgc2] at hc hgz2 hgx2
  simp only [hgc2]
  clear hx hz hb hba hgc2
  clear Va
  have hne : gz ≠ gc := by omega
  have hne2 : gc ≠ gz := by omega
  have hne3 : g ≠ gc := by omega
  have hne4 : gc ≠ g := by omega
  have HGE : Hid (w.heap.size ≤ gz ∧ w.heap.size ≤ gc) := Lib.hid (by have h1 := HG.out.1; have h2 := HG.out.2; omega)
  have hbs := hB0.size
  by_cases k1 : kind = 1
  · as_aux_lemma =>
    subst k1
    have HV : Hid ((Ending.returned (.agg #[.int .i64 1, .int .u64 (lsn : Int), .int .u32 (epoch : Int), .int .u64 0, .int .u32 (page : Int), .int .u16 (off : Int), .slice oA on oc, .slice nA nn nc, .slice none 0 0, .int .u64 0, .int .u64 0, .bool false, .int .u64 0, .slice none 0 0, .slice none 0 0]) : Ending) = .returned (recV (LogM.bare ⟨1, lsn, epoch, txn, page, off, old, new, undo, prev, next, clr, stamp, opn, dirty⟩) (bareL 1 ⟨oA, on, oc, nA, nn, nc, uA, un, uc, pA, pn, pc, dA, dn, dc⟩))) := Lib.hid rfl
    have kc := hc.frozen
    obtain ⟨d0, d1, d2, d3, d4, d5, d6, d7, d8, d9, d10, d11, d12, d13, d14⟩ := hx0.c15
    obtain ⟨c0, c1, c2, c3, c4, c5, c6, c7, c8, c9, c10, c11, c12, c13, c14⟩ := hc.c15
    clear c0 c1 c2 c3 c8 c9 c10 c11 c12 c13 c14 d1 d2 d3 d8 d9 d10 d11 d12 d13 d14
    go_upto_region 22 with fail
    have hc1 := ((((hc.set_ 4 (.int .u32 (page : Int))).set_ 5 (.int .u16 (off : Int))).set_ 6 (.slice oA on oc)).set_ 7 (.slice nA nn nc))
    simp only [List.setIfInBounds_toArray, List.set_cons_succ, List.set_cons_zero] at hc1
    have hz1 := ((((hz0.far (p := ⟨gc, 4, none⟩) hne (.int .u32 (page : Int))).far (p := ⟨gc, 5, none⟩) hne (.int .u16 (off : Int))).far (p := ⟨gc, 6, none⟩) hne (.slice oA on oc)).far (p := ⟨gc, 7, none⟩) hne (.slice nA nn nc))
    have hB1 := below_grown hB0 (grownBy_setB (grownBy_setB (grownBy_setB (grownBy_setB (World.grownBy.refl _ (some gc)) 4 (.int .u32 (page : Int))) 5 (.int .u16 (off : Int))) 6 (.slice oA on oc)) 7 (.slice nA nn nc)) hbs HGE.out.2
    generalize ((((V0.setCell ⟨gc, 4, none⟩ (.int .u32 (page : Int))).setCell ⟨gc, 5, none⟩ (.int .u16 (off : Int))).setCell ⟨gc, 6, none⟩ (.slice oA on oc)).setCell ⟨gc, 7, none⟩ (.slice nA nn nc)) = V1 at *
    clear c4 c5 c6 c7 d0 d4 d5 d6 d7 kc hc hz0 hB0 hx0 hbs
    clear hne hne2 hne3 hne4 hgx2 hgz2
    go_step
    refine wpList_load_row rfl _ (.tmp 3) rfl gc rfl _ #[.int .i64 1, .int .u64 (lsn : Int), .int .u32 (epoch : Int), .int .u64 0, .int .u32 (page : Int), .int .u16 (off : Int), .slice oA on oc, .slice nA nn nc, .slice none 0 0, .int .u64 0, .int .u64 0, .bool false, .int .u64 0, .slice none 0 0, .slice none 0 0] (0, 0) _ hc1 Try.underlying31 rfl (by kernel_rfl) ?_
    refine wpList_store_row rfl _ (.tmp 2) (.tmp 65) rfl gz #[.int .i64 1, .int .u64 (lsn : Int), .int .u32 (epoch : Int), .int .u64 0, .int .u32 (page : Int), .int .u16 (off : Int), .slice oA on oc, .slice nA nn nc, .slice none 0 0, .int .u64 0, .int .u64 0, .bool false, .int .u64 0, .slice none 0 0, .slice none 0 0] rfl rfl _ _ hz1 (by kernel_rfl) rfl (by simp [Value.oneCell']) ?_
    have hz2 := hz1.setRow_ #[.int .i64 1, .int .u64 (lsn : Int), .int .u32 (epoch : Int), .int .u64 0, .int .u32 (page : Int), .int .u16 (off : Int), .slice oA on oc, .slice nA nn nc, .slice none 0 0, .int .u64 0, .int .u64 0, .bool false, .int .u64 0, .slice none 0 0, .slice none 0 0]
    have hB2 := below_grown hB1 (grownBy_setRow V1 gz #[.int .i64 1, .int .u64 (lsn : Int), .int .u32 (epoch : Int), .int .u64 0, .int .u32 (page : Int), .int .u16 (off : Int), .slice oA on oc, .slice nA nn nc, .slice none 0 0, .int .u64 0, .int .u64 0, .bool false, .int .u64 0, .slice none 0 0, .slice none 0 0]) hB1.size HGE.out.1
    generalize V1.setRow gz #[.int .i64 1, .int .u64 (lsn : Int), .int .u32 (epoch : Int), .int .u64 0, .int .u32 (page : Int), .int .u16 (off : Int), .slice oA on oc, .slice nA nn nc, .slice none 0 0, .int .u64 0, .int .u64 0, .bool false, .int .u64 0, .slice none 0 0, .slice none 0 0] = V2 at *
    clear hz1 hB1 hc1
    clear V1
    have HZ := Lib.hid (And.intro hz2 hB2)
    clear hz2 hB2
    go_wp2
    exact ret_cell1 rfl gz #[.int .i64 1, .int .u64 (lsn : Int), .int .u32 (epoch : Int), .int .u64 0, .int .u32 (page : Int), .int .u16 (off : Int), .slice oA on oc, .slice nA nn nc, .slice none 0 0, .int .u64 0, .int .u64 0, .bool false, .int .u64 0, .slice none 0 0, .slice none 0 0] _ rfl HZ.out.1 Try.underlying31 rfl (by kernel_rfl) rfl ⟨HV.out, HZ.out.2⟩
  by_cases k2 : kind = 2
  · as_aux_lemma =>
    subst k2
    have HV : Hid ((Ending.returned (.agg #[.int .i64 2, .int .u64 (lsn : Int), .int .u32 (epoch : Int), .int .u64 (txn : Int), .int .u32 0, .int .u16 0, .slice none 0 0, .slice none 0 0, .slice uA un uc, .int .u64 (prev : Int), .int .u64 (next : Int), .bool clr, .int .u64 0, .slice none 0 0, .slice none 0 0]) : Ending) = .returned (recV (LogM.bare ⟨2, lsn, epoch, txn, page, off, old, new, undo, prev, next, clr, stamp, opn, dirty⟩) (bareL 2 ⟨oA, on, oc, nA, nn, nc, uA, un, uc, pA, pn, pc, dA, dn, dc⟩))) := Lib.hid rfl
    have kc := hc.frozen
    obtain ⟨d0, d1, d2, d3, d4, d5, d6, d7, d8, d9, d10, d11, d12, d13, d14⟩ := hx0.c15
    obtain ⟨c0, c1, c2, c3, c4, c5, c6, c7, c8, c9, c10, c11, c12, c13, c14⟩ := hc.c15
    clear c0 c1 c2 c4 c5 c6 c7 c12 c13 c14 d1 d2 d4 d5 d6 d7 d12 d13 d14
    go_upto_region 22 with fail
    have hc1 := (((((hc.set_ 3 (.int .u64 (txn : Int))).set_ 8 (.slice uA un uc)).set_ 9 (.int .u64 (prev : Int))).set_ 10 (.int .u64 (next : Int))).set_ 11 (.bool clr))
    simp only [List.setIfInBounds_toArray, List.set_cons_succ, List.set_cons_zero] at hc1
    have hz1 := (((((hz0.far (p := ⟨gc, 3, none⟩) hne (.int .u64 (txn : Int))).far (p := ⟨gc, 8, none⟩) hne (.slice uA un uc)).far (p := ⟨gc, 9, none⟩) hne (.int .u64 (prev : Int))).far (p := ⟨gc, 10, none⟩) hne (.int .u64 (next : Int))).far (p := ⟨gc, 11, none⟩) hne (.bool clr))
    have hB1 := below_grown hB0 (grownBy_setB (grownBy_setB (grownBy_setB (grownBy_setB (grownBy_setB (World.grownBy.refl _ (some gc)) 3 (.int .u64 (txn : Int))) 8 (.slice uA un uc)) 9 (.int .u64 (prev : Int))) 10 (.int .u64 (next : Int))) 11 (.bool clr)) hbs HGE.out.2
    generalize (((((V0.setCell ⟨gc, 3, none⟩ (.int .u64 (txn : Int))).setCell ⟨gc, 8, none⟩ (.slice uA un uc)).setCell ⟨gc, 9, none⟩ (.int .u64 (prev : Int))).setCell ⟨gc, 10, none⟩ (.int .u64 (next : Int))).setCell ⟨gc, 11, none⟩ (.bool clr)) = V1 at *
    clear c3 c8 c9 c10 c11 d0 d3 d8 d9 d10 d11 kc hc hz0 hB0 hx0 hbs
    clear hne hne2 hne3 hne4 hgx2 hgz2
    go_step
    refine wpList_load_row rfl _ (.tmp 3) rfl gc rfl _ #[.int .i64 2, .int .u64 (lsn : Int), .int .u32 (epoch : Int), .int .u64 (txn : Int), .int .u32 0, .int .u16 0, .slice none 0 0, .slice none 0 0, .slice uA un uc, .int .u64 (prev : Int), .int .u64 (next : Int), .bool clr, .int .u64 0, .slice none 0 0, .slice none 0 0] (0, 0) _ hc1 Try.underlying31 rfl (by kernel_rfl) ?_
    refine wpList_store_row rfl _ (.tmp 2) (.tmp 65) rfl gz #[.int .i64 2, .int .u64 (lsn : Int), .int .u32 (epoch : Int), .int .u64 (txn : Int), .int .u32 0, .int .u16 0, .slice none 0 0, .slice none 0 0, .slice uA un uc, .int .u64 (prev : Int), .int .u64 (next : Int), .bool clr, .int .u64 0, .slice none 0 0, .slice none 0 0] rfl rfl _ _ hz1 (by kernel_rfl) rfl (by simp [Value.oneCell']) ?_
    have hz2 := hz1.setRow_ #[.int .i64 2, .int .u64 (lsn : Int), .int .u32 (epoch : Int), .int .u64 (txn : Int), .int .u32 0, .int .u16 0, .slice none 0 0, .slice none 0 0, .slice uA un uc, .int .u64 (prev : Int), .int .u64 (next : Int), .bool clr, .int .u64 0, .slice none 0 0, .slice none 0 0]
    have hB2 := below_grown hB1 (grownBy_setRow V1 gz #[.int .i64 2, .int .u64 (lsn : Int), .int .u32 (epoch : Int), .int .u64 (txn : Int), .int .u32 0, .int .u16 0, .slice none 0 0, .slice none 0 0, .slice uA un uc, .int .u64 (prev : Int), .int .u64 (next : Int), .bool clr, .int .u64 0, .slice none 0 0, .slice none 0 0]) hB1.size HGE.out.1
    generalize V1.setRow gz #[.int .i64 2, .int .u64 (lsn : Int), .int .u32 (epoch : Int), .int .u64 (txn : Int), .int .u32 0, .int .u16 0, .slice none 0 0, .slice none 0 0, .slice uA un uc, .int .u64 (prev : Int), .int .u64 (next : Int), .bool clr, .int .u64 0, .slice none 0 0, .slice none 0 0] = V2 at *
    clear hz1 hB1 hc1
    clear V1
    have HZ := Lib.hid (And.intro hz2 hB2)
    clear hz2 hB2
    go_wp2
    exact ret_cell1 rfl gz #[.int .i64 2, .int .u64 (lsn : Int), .int .u32 (epoch : Int), .int .u64 (txn : Int), .int .u32 0, .int .u16 0, .slice none 0 0, .slice none 0 0, .slice uA un uc, .int .u64 (prev : Int), .int .u64 (next : Int), .bool clr, .int .u64 0, .slice none 0 0, .slice none 0 0] _ rfl HZ.out.1 Try.underlying31 rfl (by kernel_rfl) rfl ⟨HV.out, HZ.out.2⟩
  by_cases k3 : kind = 3
  · as_aux_lemma =>
    subst k3
    have HV : Hid ((Ending.returned (.agg #[.int .i64 3, .int .u64 (lsn : Int), .int .u32 (epoch : Int), .int .u64 (txn : Int), .int .u32 0, .int .u16 0, .slice none 0 0, .slice none 0 0, .slice none 0 0, .int .u64 0, .int .u64 0, .bool false, .int .u64 (stamp : Int), .slice none 0 0, .slice none 0 0]) : Ending) = .returned (recV (LogM.bare ⟨3, lsn, epoch, txn, page, off, old, new, undo, prev, next, clr, stamp, opn, dirty⟩) (bareL 3 ⟨oA, on, oc, nA, nn, nc, uA, un, uc, pA, pn, pc, dA, dn, dc⟩))) := Lib.hid rfl
    have kc := hc.frozen
    obtain ⟨d0, d1, d2, d3, d4, d5, d6, d7, d8, d9, d10, d11, d12, d13, d14⟩ := hx0.c15
    obtain ⟨c0, c1, c2, c3, c4, c5, c6, c7, c8, c9, c10, c11, c12, c13, c14⟩ := hc.c15
    clear c0 c1 c2 c4 c5 c6 c7 c8 c9 c10 c11 c13 c14 d1 d2 d4 d5 d6 d7 d8 d9 d10 d11 d13 d14
    go_upto_region 22 with fail
    have hc1 := ((hc.set_ 3 (.int .u64 (txn : Int))).set_ 12 (.int .u64 (stamp : Int)))
    simp only [List.setIfInBounds_toArray, List.set_cons_succ, List.set_cons_zero] at hc1
    have hz1 := ((hz0.far (p := ⟨gc, 3, none⟩) hne (.int .u64 (txn : Int))).far (p := ⟨gc, 12, none⟩) hne (.int .u64 (stamp : Int)))
    have hB1 := below_grown hB0 (grownBy_setB (grownBy_setB (World.grownBy.refl _ (some gc)) 3 (.int .u64 (txn : Int))) 12 (.int .u64 (stamp : Int))) hbs HGE.out.2
    generalize ((V0.setCell ⟨gc, 3, none⟩ (.int .u64 (txn : Int))).setCell ⟨gc, 12, none⟩ (.int .u64 (stamp : Int))) = V1 at *
    clear c3 c12 d0 d3 d12 kc hc hz0 hB0 hx0 hbs
    clear hne hne2 hne3 hne4 hgx2 hgz2
    go_step
    refine wpList_load_row rfl _ (.tmp 3) rfl gc rfl _ #[.int .i64 3, .int .u64 (lsn : Int), .int .u32 (epoch : Int), .int .u64 (txn : Int), .int .u32 0, .int .u16 0, .slice none 0 0, .slice none 0 0, .slice none 0 0, .int .u64 0, .int .u64 0, .bool false, .int .u64 (stamp : Int), .slice none 0 0, .slice none 0 0] (0, 0) _ hc1 Try.underlying31 rfl (by kernel_rfl) ?_
    refine wpList_store_row rfl _ (.tmp 2) (.tmp 65) rfl gz #[.int .i64 3, .int .u64 (lsn : Int), .int .u32 (epoch : Int), .int .u64 (txn : Int), .int .u32 0, .int .u16 0, .slice none 0 0, .slice none 0 0, .slice none 0 0, .int .u64 0, .int .u64 0, .bool false, .int .u64 (stamp : Int), .slice none 0 0, .slice none 0 0] rfl rfl _ _ hz1 (by kernel_rfl) rfl (by simp [Value.oneCell']) ?_
    have hz2 := hz1.setRow_ #[.int .i64 3, .int .u64 (lsn : Int), .int .u32 (epoch : Int), .int .u64 (txn : Int), .int .u32 0, .int .u16 0, .slice none 0 0, .slice none 0 0, .slice none 0 0, .int .u64 0, .int .u64 0, .bool false, .int .u64 (stamp : Int), .slice none 0 0, .slice none 0 0]
    have hB2 := below_grown hB1 (grownBy_setRow V1 gz #[.int .i64 3, .int .u64 (lsn : Int), .int .u32 (epoch : Int), .int .u64 (txn : Int), .int .u32 0, .int .u16 0, .slice none 0 0, .slice none 0 0, .slice none 0 0, .int .u64 0, .int .u64 0, .bool false, .int .u64 (stamp : Int), .slice none 0 0, .slice none 0 0]) hB1.size HGE.out.1
    generalize V1.setRow gz #[.int .i64 3, .int .u64 (lsn : Int), .int .u32 (epoch : Int), .int .u64 (txn : Int), .int .u32 0, .int .u16 0, .slice none 0 0, .slice none 0 0, .slice none 0 0, .int .u64 0, .int .u64 0, .bool false, .int .u64 (stamp : Int), .slice none 0 0, .slice none 0 0] = V2 at *
    clear hz1 hB1 hc1
    clear V1
    have HZ := Lib.hid (And.intro hz2 hB2)
    clear hz2 hB2
    go_wp2
    exact ret_cell1 rfl gz #[.int .i64 3, .int .u64 (lsn : Int), .int .u32 (epoch : Int), .int .u64 (txn : Int), .int .u32 0, .int .u16 0, .slice none 0 0, .slice none 0 0, .slice none 0 0, .int .u64 0, .int .u64 0, .bool false, .int .u64 (stamp : Int), .slice none 0 0, .slice none 0 0] _ rfl HZ.out.1 Try.underlying31 rfl (by kernel_rfl) rfl ⟨HV.out, HZ.out.2⟩
  by_cases k4 : kind = 4
  · as_aux_lemma =>
    subst k4
    have HV : Hid ((Ending.returned (.agg #[.int .i64 4, .int .u64 (lsn : Int), .int .u32 (epoch : Int), .int .u64 (txn : Int), .int .u32 0, .int .u16 0, .slice none 0 0, .slice none 0 0, .slice none 0 0, .int .u64 0, .int .u64 0, .bool false, .int .u64 0, .slice none 0 0, .slice none 0 0]) : Ending) = .returned (recV (LogM.bare ⟨4, lsn, epoch, txn, page, off, old, new, undo, prev, next, clr, stamp, opn, dirty⟩) (bareL 4 ⟨oA, on, oc, nA, nn, nc, uA, un, uc, pA, pn, pc, dA, dn, dc⟩))) := Lib.hid rfl
    have kc := hc.frozen
    obtain ⟨d0, d1, d2, d3, d4, d5, d6, d7, d8, d9, d10, d11, d12, d13, d14⟩ := hx0.c15
    obtain ⟨c0, c1, c2, c3, c4, c5, c6, c7, c8, c9, c10, c11, c12, c13, c14⟩ := hc.c15
    clear c0 c1 c2 c4 c5 c6 c7 c8 c9 c10 c11 c12 c13 c14 d1 d2 d4 d5 d6 d7 d8 d9 d10 d11 d12 d13 d14
    go_upto_region 22 with fail
    have hc1 := (hc.set_ 3 (.int .u64 (txn : Int)))
    simp only [List.setIfInBounds_toArray, List.set_cons_succ, List.set_cons_zero] at hc1
    have hz1 := (hz0.far (p := ⟨gc, 3, none⟩) hne (.int .u64 (txn : Int)))
    have hB1 := below_grown hB0 (grownBy_setB (World.grownBy.refl _ (some gc)) 3 (.int .u64 (txn : Int))) hbs HGE.out.2
    generalize (V0.setCell ⟨gc, 3, none⟩ (.int .u64 (txn : Int))) = V1 at *
    clear c3 d0 d3 kc hc hz0 hB0 hx0 hbs
    clear hne hne2 hne3 hne4 hgx2 hgz2
    go_step
    refine wpList_load_row rfl _ (.tmp 3) rfl gc rfl _ #[.int .i64 4, .int .u64 (lsn : Int), .int .u32 (epoch : Int), .int .u64 (txn : Int), .int .u32 0, .int .u16 0, .slice none 0 0, .slice none 0 0, .slice none 0 0, .int .u64 0, .int .u64 0, .bool false, .int .u64 0, .slice none 0 0, .slice none 0 0] (0, 0) _ hc1 Try.underlying31 rfl (by kernel_rfl) ?_
    refine wpList_store_row rfl _ (.tmp 2) (.tmp 65) rfl gz #[.int .i64 4, .int .u64 (lsn : Int), .int .u32 (epoch : Int), .int .u64 (txn : Int), .int .u32 0, .int .u16 0, .slice none 0 0, .slice none 0 0, .slice none 0 0, .int .u64 0, .int .u64 0, .bool false, .int .u64 0, .slice none 0 0, .slice none 0 0] rfl rfl _ _ hz1 (by kernel_rfl) rfl (by simp [Value.oneCell']) ?_
    have hz2 := hz1.setRow_ #[.int .i64 4, .int .u64 (lsn : Int), .int .u32 (epoch : Int), .int .u64 (txn : Int), .int .u32 0, .int .u16 0, .slice none 0 0, .slice none 0 0, .slice none 0 0, .int .u64 0, .int .u64 0, .bool false, .int .u64 0, .slice none 0 0, .slice none 0 0]
    have hB2 := below_grown hB1 (grownBy_setRow V1 gz #[.int .i64 4, .int .u64 (lsn : Int), .int .u32 (epoch : Int), .int .u64 (txn : Int), .int .u32 0, .int .u16 0, .slice none 0 0, .slice none 0 0, .slice none 0 0, .int .u64 0, .int .u64 0, .bool false, .int .u64 0, .slice none 0 0, .slice none 0 0]) hB1.size HGE.out.1
    generalize V1.setRow gz #[.int .i64 4, .int .u64 (lsn : Int), .int .u32 (epoch : Int), .int .u64 (txn : Int), .int .u32 0, .int .u16 0, .slice none 0 0, .slice none 0 0, .slice none 0 0, .int .u64 0, .int .u64 0, .bool false, .int .u64 0, .slice none 0 0, .slice none 0 0] = V2 at *
    clear hz1 hB1 hc1
    clear V1
    have HZ := Lib.hid (And.intro hz2 hB2)
    clear hz2 hB2
    go_wp2
    exact ret_cell1 rfl gz #[.int .i64 4, .int .u64 (lsn : Int), .int .u32 (epoch : Int), .int .u64 (txn : Int), .int .u32 0, .int .u16 0, .slice none 0 0, .slice none 0 0, .slice none 0 0, .int .u64 0, .int .u64 0, .bool false, .int .u64 0, .slice none 0 0, .slice none 0 0] _ rfl HZ.out.1 Try.underlying31 rfl (by kernel_rfl) rfl ⟨HV.out, HZ.out.2⟩
  by_cases k5 : kind = 5
  · as_aux_lemma =>
    subst k5
    have HV : Hid ((Ending.returned (.agg #[.int .i64 5, .int .u64 (lsn : Int), .int .u32 (epoch : Int), .int .u64 0, .int .u32 0, .int .u16 0, .slice none 0 0, .slice none 0 0, .slice none 0 0, .int .u64 0, .int .u64 0, .bool false, .int .u64 0, .slice pA pn pc, .slice dA dn dc]) : Ending) = .returned (recV (LogM.bare ⟨5, lsn, epoch, txn, page, off, old, new, undo, prev, next, clr, stamp, opn, dirty⟩) (bareL 5 ⟨oA, on, oc, nA, nn, nc, uA, un, uc, pA, pn, pc, dA, dn, dc⟩))) := Lib.hid rfl
    have kc := hc.frozen
    obtain ⟨d0, d1, d2, d3, d4, d5, d6, d7, d8, d9, d10, d11, d12, d13, d14⟩ := hx0.c15
    obtain ⟨c0, c1, c2, c3, c4, c5, c6, c7, c8, c9, c10, c11, c12, c13, c14⟩ := hc.c15
    clear c0 c1 c2 c3 c4 c5 c6 c7 c8 c9 c10 c11 c12 d1 d2 d3 d4 d5 d6 d7 d8 d9 d10 d11 d12
    go_upto_region 22 with fail
    have hc1 := ((hc.set_ 13 (.slice pA pn pc)).set_ 14 (.slice dA dn dc))
    simp only [List.setIfInBounds_toArray, List.set_cons_succ, List.set_cons_zero] at hc1
    have hz1 := ((hz0.far (p := ⟨gc, 13, none⟩) hne (.slice pA pn pc)).far (p := ⟨gc, 14, none⟩) hne (.slice dA dn dc))
    have hB1 := below_grown hB0 (grownBy_setB (grownBy_setB (World.grownBy.refl _ (some gc)) 13 (.slice pA pn pc)) 14 (.slice dA dn dc)) hbs HGE.out.2
    generalize ((V0.setCell ⟨gc, 13, none⟩ (.slice pA pn pc)).setCell ⟨gc, 14, none⟩ (.slice dA dn dc)) = V1 at *
    clear c13 c14 d0 d13 d14 kc hc hz0 hB0 hx0 hbs
    clear hne hne2 hne3 hne4 hgx2 hgz2
    go_step
    refine wpList_load_row rfl _ (.tmp 3) rfl gc rfl _ #[.int .i64 5, .int .u64 (lsn : Int), .int .u32 (epoch : Int), .int .u64 0, .int .u32 0, .int .u16 0, .slice none 0 0, .slice none 0 0, .slice none 0 0, .int .u64 0, .int .u64 0, .bool false, .int .u64 0, .slice pA pn pc, .slice dA dn dc] (0, 0) _ hc1 Try.underlying31 rfl (by kernel_rfl) ?_
    refine wpList_store_row rfl _ (.tmp 2) (.tmp 65) rfl gz #[.int .i64 5, .int .u64 (lsn : Int), .int .u32 (epoch : Int), .int .u64 0, .int .u32 0, .int .u16 0, .slice none 0 0, .slice none 0 0, .slice none 0 0, .int .u64 0, .int .u64 0, .bool false, .int .u64 0, .slice pA pn pc, .slice dA dn dc] rfl rfl _ _ hz1 (by kernel_rfl) rfl (by simp [Value.oneCell']) ?_
    have hz2 := hz1.setRow_ #[.int .i64 5, .int .u64 (lsn : Int), .int .u32 (epoch : Int), .int .u64 0, .int .u32 0, .int .u16 0, .slice none 0 0, .slice none 0 0, .slice none 0 0, .int .u64 0, .int .u64 0, .bool false, .int .u64 0, .slice pA pn pc, .slice dA dn dc]
    have hB2 := below_grown hB1 (grownBy_setRow V1 gz #[.int .i64 5, .int .u64 (lsn : Int), .int .u32 (epoch : Int), .int .u64 0, .int .u32 0, .int .u16 0, .slice none 0 0, .slice none 0 0, .slice none 0 0, .int .u64 0, .int .u64 0, .bool false, .int .u64 0, .slice pA pn pc, .slice dA dn dc]) hB1.size HGE.out.1
    generalize V1.setRow gz #[.int .i64 5, .int .u64 (lsn : Int), .int .u32 (epoch : Int), .int .u64 0, .int .u32 0, .int .u16 0, .slice none 0 0, .slice none 0 0, .slice none 0 0, .int .u64 0, .int .u64 0, .bool false, .int .u64 0, .slice pA pn pc, .slice dA dn dc] = V2 at *
    clear hz1 hB1 hc1
    clear V1
    have HZ := Lib.hid (And.intro hz2 hB2)
    clear hz2 hB2
    go_wp2
    exact ret_cell1 rfl gz #[.int .i64 5, .int .u64 (lsn : Int), .int .u32 (epoch : Int), .int .u64 0, .int .u32 0, .int .u16 0, .slice none 0 0, .slice none 0 0, .slice none 0 0, .int .u64 0, .int .u64 0, .bool false, .int .u64 0, .slice pA pn pc, .slice dA dn dc] _ rfl HZ.out.1 Try.underlying31 rfl (by kernel_rfl) rfl ⟨HV.out, HZ.out.2⟩
  have HV : Hid ((Ending.returned (.agg #[.int .i64 kind, .int .u64 (lsn : Int), .int .u32 (epoch : Int), .int .u64 0, .int .u32 0, .int .u16 0, .slice none 0 0, .slice none 0 0, .slice none 0 0, .int .u64 0, .int .u64 0, .bool false, .int .u64 0, .slice none 0 0, .slice none 0 0]) : Ending) = .returned (recV (LogM.bare ⟨kind, lsn, epoch, txn, page, off, old, new, undo, prev, next, clr, stamp, opn, dirty⟩) (bareL kind ⟨oA, on, oc, nA, nn, nc, uA, un, uc, pA, pn, pc, dA, dn, dc⟩))) := Lib.hid (by simp only [LogM.bare, bareL, if_neg k1, if_neg k2, if_neg k3, if_neg k4, if_neg k5]; rfl)
  obtain ⟨d0, d1, d2, d3, d4, d5, d6, d7, d8, d9, d10, d11, d12, d13, d14⟩ := hx0.c15
  clear d1 d2 d3 d4 d5 d6 d7 d8 d9 d10 d11 d12 d13 d14
  go_upto_region 22 with fail
  have hc1 := hc
  have hz1 := hz0
  have hB1 := hB0
  generalize V0 = V1 at *
  clear d0 hc hz0 hB0 hx0 hbs
  clear hne hne2 hne3 hne4 hgx2 hgz2
  go_step
  refine wpList_load_row rfl _ (.tmp 3) rfl gc rfl _ #[.int .i64 kind, .int .u64 (lsn : Int), .int .u32 (epoch : Int), .int .u64 0, .int .u32 0, .int .u16 0, .slice none 0 0, .slice none 0 0, .slice none 0 0, .int .u64 0, .int .u64 0, .bool false, .int .u64 0, .slice none 0 0, .slice none 0 0] (0, 0) _ hc1 Try.underlying31 rfl (by kernel_rfl) ?_
  refine wpList_store_row rfl _ (.tmp 2) (.tmp 65) rfl gz #[.int .i64 kind, .int .u64 (lsn : Int), .int .u32 (epoch : Int), .int .u64 0, .int .u32 0, .int .u16 0, .slice none 0 0, .slice none 0 0, .slice none 0 0, .int .u64 0, .int .u64 0, .bool false, .int .u64 0, .slice none 0 0, .slice none 0 0] rfl rfl _ _ hz1 (by kernel_rfl) rfl (by simp [Value.oneCell']) ?_
  have hz2 := hz1.setRow_ #[.int .i64 kind, .int .u64 (lsn : Int), .int .u32 (epoch : Int), .int .u64 0, .int .u32 0, .int .u16 0, .slice none 0 0, .slice none 0 0, .slice none 0 0, .int .u64 0, .int .u64 0, .bool false, .int .u64 0, .slice none 0 0, .slice none 0 0]
  have hB2 := below_grown hB1 (grownBy_setRow V1 gz #[.int .i64 kind, .int .u64 (lsn : Int), .int .u32 (epoch : Int), .int .u64 0, .int .u32 0, .int .u16 0, .slice none 0 0, .slice none 0 0, .slice none 0 0, .int .u64 0, .int .u64 0, .bool false, .int .u64 0, .slice none 0 0, .slice none 0 0]) hB1.size HGE.out.1
  generalize V1.setRow gz #[.int .i64 kind, .int .u64 (lsn : Int), .int .u32 (epoch : Int), .int .u64 0, .int .u32 0, .int .u16 0, .slice none 0 0, .slice none 0 0, .slice none 0 0, .int .u64 0, .int .u64 0, .bool false, .int .u64 0, .slice none 0 0, .slice none 0 0] = V2 at *
  clear hz1 hB1 hc1
  clear V1
  have HZ := Lib.hid (And.intro hz2 hB2)
  clear hz2 hB2
  go_wp2
  exact ret_cell1 rfl gz #[.int .i64 kind, .int .u64 (lsn : Int), .int .u32 (epoch : Int), .int .u64 0, .int .u32 0, .int .u16 0, .slice none 0 0, .slice none 0 0, .slice none 0 0, .int .u64 0, .int .u64 0, .bool false, .int .u64 0, .slice none 0 0, .slice none 0 0] _ rfl HZ.out.1 Try.underlying31 rfl (by kernel_rfl) rfl ⟨HV.out, HZ.out.2⟩
end Go.Proofs.Ytpgmhjjdnanlgaa
