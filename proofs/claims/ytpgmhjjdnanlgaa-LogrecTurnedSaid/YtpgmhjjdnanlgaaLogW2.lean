/-
  Which records may be, by the program's word.
  Conditions: the lists lie in memory.
-/
import Derived.Test.YtpgmhjjdnanlgaaLogW1
namespace Go.Proofs.Ytpgmhjjdnanlgaa
open Go.RowKit Go.Sort Go.Lib
set_option linter.unusedVariables false
set_option linter.unusedSimpArgs false
theorem Blk.c15 {w : World} {g : Nat} {t : TypeId} {v0 v1 v2 v3 v4 v5 v6 v7 v8 v9 v10 v11 v12 v13 v14 : Value} (h : Blk w g t #[v0, v1, v2, v3, v4, v5, v6, v7, v8, v9, v10, v11, v12, v13, v14]) :
    w.cell? ⟨g, 0, none⟩ = some v0 ∧ w.cell? ⟨g, 1, none⟩ = some v1 ∧ w.cell? ⟨g, 2, none⟩ = some v2 ∧ w.cell? ⟨g, 3, none⟩ = some v3 ∧ w.cell? ⟨g, 4, none⟩ = some v4 ∧ w.cell? ⟨g, 5, none⟩ = some v5 ∧ w.cell? ⟨g, 6, none⟩ = some v6 ∧ w.cell? ⟨g, 7, none⟩ = some v7 ∧ w.cell? ⟨g, 8, none⟩ = some v8 ∧ w.cell? ⟨g, 9, none⟩ = some v9 ∧ w.cell? ⟨g, 10, none⟩ = some v10 ∧ w.cell? ⟨g, 11, none⟩ = some v11 ∧ w.cell? ⟨g, 12, none⟩ = some v12 ∧ w.cell? ⟨g, 13, none⟩ = some v13 ∧ w.cell? ⟨g, 14, none⟩ = some v14 :=
  ⟨h.cell 0, h.cell 1, h.cell 2, h.cell 3, h.cell 4, h.cell 5, h.cell 6, h.cell 7, h.cell 8, h.cell 9, h.cell 10, h.cell 11, h.cell 12, h.cell 13, h.cell 14⟩
namespace LogM
/-- Nothing that other kinds have. -/
def noneX (hs : List Int) (x : Lrec) : Prop := x.kind ∈ hs ∨ (match hs with
  | [] => noneP x
  | h :: t => if h = 1 then noneW x else if h = 2 then (if t = [] then noneE x else x.txn = 0) else if h = 3 then x.stamp = 0 else noneP x)
end LogM
theorem nil_iff {α : Type} {l : List α} {n : Nat} (h : l.length = n) : l = [] ↔ n = 0 := by
  subst h
  exact List.length_eq_zero_iff.symm
set_option maxRecDepth 100000 in
set_option maxHeartbeats 2000000 in
theorem none_any (s : Lrec) (y : Lsl) (A : Option Addr) (n c : Nat) (h0 : Int) (t : List Int) (w : World) (hs : LogAt w y s) (hr : Row w A ((h0 :: t).map fun i => .int .i64 i)) (hl : (h0 :: t).length = n) (hm : n ≤ 9223372036854775807) :
    Calls Try.prog 32 #[.agg #[.int .i64 s.kind, .int .u64 (s.lsn : Int), .int .u32 (s.epoch : Int), .int .u64 (s.txn : Int), .int .u32 (s.page : Int), .int .u16 (s.off : Int), .slice y.oA y.on y.oc, .slice y.nA y.nn y.nc, .slice y.uA y.un y.uc, .int .u64 (s.prev : Int), .int .u64 (s.next : Int), .bool s.clr, .int .u64 (s.stamp : Int), .slice y.pA y.pn y.pc, .slice y.dA y.dn y.dc], .slice A n c] w (BoolPost (LogM.noneX (h0 :: t) s) w) := by
  have HS := Lib.hid hs
  have HL := Lib.hid hl
  have HM := Lib.hid hm
  clear hs hl hm
  obtain ⟨kind, lsn, epoch, txn, page, off, old, new, undo, prev, next, clr, stamp, opn, dirty⟩ := s
  obtain ⟨oA, on, oc, nA, nn, nc, uA, un, uc, pA, pn, pc, dA, dn, dc⟩ := y
  go_enter Try.func32, Try.ntmps32
  have hx := Blk.new w 31 #[.int .i64 kind, .int .u64 (lsn : Int), .int .u32 (epoch : Int), .int .u64 (txn : Int), .int .u32 (page : Int), .int .u16 (off : Int), .slice oA on oc, .slice nA nn nc, .slice uA un uc, .int .u64 (prev : Int), .int .u64 (next : Int), .bool clr, .int .u64 (stamp : Int), .slice pA pn pc, .slice dA dn dc]
  have hb0 : Below w.heap.size w (w.alloc (.cells #[.int .i64 kind, .int .u64 (lsn : Int), .int .u32 (epoch : Int), .int .u64 (txn : Int), .int .u32 (page : Int), .int .u16 (off : Int), .slice oA on oc, .slice nA nn nc, .slice uA un uc, .int .u64 (prev : Int), .int .u64 (next : Int), .bool clr, .int .u64 (stamp : Int), .slice pA pn pc, .slice dA dn dc] 31)) := (Below.refl w.heap.size w).alloc (Nat.le_refl _) _
  have hr0 := hr.alloc (.cells #[.int .i64 kind, .int .u64 (lsn : Int), .int .u32 (epoch : Int), .int .u64 (txn : Int), .int .u32 (page : Int), .int .u16 (off : Int), .slice oA on oc, .slice nA nn nc, .slice uA un uc, .int .u64 (prev : Int), .int .u64 (next : Int), .bool clr, .int .u64 (stamp : Int), .slice pA pn pc, .slice dA dn dc] 31)
  go_upto_region 1 with fail
  generalize w.alloc (.cells #[.int .i64 kind, .int .u64 (lsn : Int), .int .u32 (epoch : Int), .int .u64 (txn : Int), .int .u32 (page : Int), .int .u16 (off : Int), .slice oA on oc, .slice nA nn nc, .slice uA un uc, .int .u64 (prev : Int), .int .u64 (next : Int), .bool clr, .int .u64 (stamp : Int), .slice pA pn pc, .slice dA dn dc] 31) = V at *
  obtain ⟨g, hg⟩ : ∃ g, w.heap.size = g := ⟨_, rfl⟩
  rw [hg] at hx ⊢
  obtain ⟨d0, d1, d2, d3, d4, d5, d6, d7, d8, d9, d10, d11, d12, d13, d14⟩ := hx.c15
  go_wp2_with fail
  refine (contains_any A n c (h0 :: t) kind V hr0 HL.out HM.out).mono ?_
  rintro e w1 ⟨r, rfl, HR, hb⟩
  clear d0 d1 d2 d3 d4 d5 d6 d7 d8 d9 d10 d11 d12 d13 d14
  have hB1 : Below w.heap.size w w1 := below_step hb0 hb (Nat.le_refl _)
  cases r with
  | true =>
    go_wp2
    go_ret
    exact BoolPost.yes (.inl (HR.out.1 (by trivial))) hB1
  | false =>
    have HK : Hid (¬ kind ∈ h0 :: t) := Lib.hid fun q => by have := HR.out.2 q; cases this
    obtain ⟨d0, d1, d2, d3, d4, d5, d6, d7, d8, d9, d10, d11, d12, d13, d14⟩ := (hx.below hb hx.lt).c15
    obtain ⟨b, o, rfl, hh⟩ := row_at1 (hr0.below hb) (k := 0) (v := .int .i64 h0) rfl
    have hn : 0 < n := by rw [← HL.out, List.length_cons]; omega
    rw [Nat.add_zero] at hh
    have EO := Lib.hid (nil_iff HS.out.lo)
    have EN := Lib.hid (nil_iff HS.out.ln)
    have EU := Lib.hid (nil_iff HS.out.lu)
    have EP := Lib.hid (nil_iff HS.out.lp)
    have ED := Lib.hid (nil_iff HS.out.ld)
    clear hx hr0 hr HR
    by_cases e1 : h0 = 1
    · subst e1
      have HX : Hid (LogM.noneX (1 :: t) ⟨kind, lsn, epoch, txn, page, off, old, new, undo, prev, next, clr, stamp, opn, dirty⟩ ↔ LogM.noneW ⟨kind, lsn, epoch, txn, page, off, old, new, undo, prev, next, clr, stamp, opn, dirty⟩) := Lib.hid ⟨fun q => q.resolve_left HK.out, .inr⟩
      by_cases c1 : page = 0
      · subst c1
        by_cases c2 : off = 0
        · subst c2
          by_cases c3 : on = 0
          · subst c3
            by_cases c4 : nn = 0
            · subst c4
              go_wp2
              go_ret
              exact BoolPost.yes (HX.out.2 ⟨rfl, rfl, EO.out.2 (by trivial), EN.out.2 (by trivial)⟩) hB1
            · go_wp2
              go_ret
              exact BoolPost.no' (fun q => c4 (EN.out.1 (HX.out.1 q).2.2.2)) hB1 (by simp; omega)
          · go_wp2
            go_ret
            exact BoolPost.no (fun q => c3 (EO.out.1 (HX.out.1 q).2.2.1)) hB1
        · go_wp2
          go_ret
          exact BoolPost.no (fun q => c2 (HX.out.1 q).2.1) hB1
      · go_wp2
        go_ret
        exact BoolPost.no (fun q => c1 (HX.out.1 q).1) hB1
    · by_cases e2 : h0 = 2
      · subst e2
        by_cases et : t = []
        · subst et
          obtain rfl : 1 = n := HL.out
          have HX : Hid (LogM.noneX [2] ⟨kind, lsn, epoch, txn, page, off, old, new, undo, prev, next, clr, stamp, opn, dirty⟩ ↔ LogM.noneE ⟨kind, lsn, epoch, txn, page, off, old, new, undo, prev, next, clr, stamp, opn, dirty⟩) := Lib.hid ⟨fun q => q.resolve_left HK.out, .inr⟩
          by_cases c1 : un = 0
          · subst c1
            by_cases c2 : prev = 0
            · subst c2
              by_cases c3 : next = 0
              · subst c3
                cases clr with
                | false =>
                  go_wp2
                  go_ret
                  exact BoolPost.yes (HX.out.2 ⟨EU.out.2 (by trivial), rfl, rfl, rfl⟩) hB1
                | true =>
                  go_wp2
                  go_ret
                  exact BoolPost.no (fun q => by have := (HX.out.1 q).2.2.2; cases this) hB1
              · go_wp2
                go_ret
                exact BoolPost.no (fun q => c3 (HX.out.1 q).2.2.1) hB1
            · go_wp2
              go_ret
              exact BoolPost.no (fun q => c2 (HX.out.1 q).2.1) hB1
          · go_wp2
            go_ret
            exact BoolPost.no (fun q => c1 (EU.out.1 (HX.out.1 q).1)) hB1
        · have hn1 : 1 < n := by
            rw [← HL.out, List.length_cons]
            have := List.length_pos_iff.2 et
            omega
          have HX : Hid (LogM.noneX (2 :: t) ⟨kind, lsn, epoch, txn, page, off, old, new, undo, prev, next, clr, stamp, opn, dirty⟩ ↔ txn = 0) := Lib.hid ⟨fun q => by
            have := q.resolve_left HK.out
            simp only [if_neg et] at this
            exact this, fun q => .inr (by simp only [if_neg et]; exact q)⟩
          by_cases c1 : txn = 0
          · subst c1
            go_wp2
            go_ret
            exact BoolPost.yes (HX.out.2 (by trivial)) hB1
          · go_wp2
            go_ret
            exact BoolPost.no' (fun q => c1 (HX.out.1 q)) hB1 (by simp; omega)
      · by_cases e3 : h0 = 3
        · subst e3
          have HX : Hid (LogM.noneX (3 :: t) ⟨kind, lsn, epoch, txn, page, off, old, new, undo, prev, next, clr, stamp, opn, dirty⟩ ↔ stamp = 0) := Lib.hid ⟨fun q => q.resolve_left HK.out, .inr⟩
          by_cases c1 : stamp = 0
          · subst c1
            go_wp2
            go_ret
            exact BoolPost.yes (HX.out.2 (by trivial)) hB1
          · go_wp2
            go_ret
            exact BoolPost.no' (fun q => c1 (HX.out.1 q)) hB1 (by simp; omega)
        · have HX : Hid (LogM.noneX (h0 :: t) ⟨kind, lsn, epoch, txn, page, off, old, new, undo, prev, next, clr, stamp, opn, dirty⟩ ↔ LogM.noneP ⟨kind, lsn, epoch, txn, page, off, old, new, undo, prev, next, clr, stamp, opn, dirty⟩) := Lib.hid ⟨fun q => by
            have := q.resolve_left HK.out
            simp only [if_neg e1, if_neg e2, if_neg e3] at this
            exact this, fun q => .inr (by simp only [if_neg e1, if_neg e2, if_neg e3]; exact q)⟩
          by_cases c1 : pn = 0
          · subst c1
            by_cases c2 : dn = 0
            · subst c2
              go_wp2
              go_ret
              exact BoolPost.yes (HX.out.2 ⟨EP.out.2 (by trivial), ED.out.2 (by trivial)⟩) hB1
            · go_wp2
              go_ret
              exact BoolPost.no' (fun q => c2 (ED.out.1 (HX.out.1 q).2)) hB1 (by simp; omega)
          · go_wp2
            go_ret
            exact BoolPost.no (fun q => c1 (EP.out.1 (HX.out.1 q).1)) hB1
end Go.Proofs.Ytpgmhjjdnanlgaa
