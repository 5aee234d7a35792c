/-
  The walk of StmtHears: it returns true and changes nothing that was there.
  Conditions: the bytes lie in memory as a list; their number is bounded.
-/
import Derived.Test.YtaadfalklddhcaaZStmT10
import Derived.Test.YtaadfalklddhcaaZStmK1
namespace Go.Proofs.Ytaadfalklddhcaa
open Go.RowKit Go.Sort Go.Lib
set_option linter.unusedVariables false
set_option linter.unusedSimpArgs false
/-- What the reading returns, whatever is read. -/
def RpAny (x : Rp) (ev : Nat) (w : World) (e : Ending) (w' : World) : Prop := ∃ s : Rpv, e = .returned (.tuple #[.agg s.cells, .int .i64 (ev : Int)]) ∧ s.x = x ∧ s.At w' ∧ s.Fr w.heap.size ∧ Below w.heap.size w w'
def rpOf (r : Option Rp) : Rp := r.getD (RepM.nilR 0)
def rpErr (r : Option Rp) : Nat := if r.isSome then 0 else 4
theorem RpP.any {r : Option Rp} {w : World} {e : Ending} {w' : World} (h : RpP r w e w') : RpAny (rpOf r) (rpErr r) w e w' := by
  cases r with
  | none => obtain ⟨rfl, hb⟩ := h; exact ⟨⟨0, 0, 0, 0, ⟨StmM.no, none, 0, none, 0⟩, none, 0, [], none, 0, []⟩, rfl, rfl, rpv_flat (by decide) (by decide) (by decide) (by decide), rpv_flat_fr, hb⟩
  | some x => obtain ⟨s, rfl, h1, h2, h3, h4⟩ := h; exact ⟨s, rfl, h1, h2, h3, h4⟩
-- PRINTED from here by tools/mkstmthears.py
theorem row77 {w : World} {gi : Nat} {b : List UInt8} (h : Row w (some ⟨gi, 0, none⟩) (bs (b ++ [77]))) : w.cell? ⟨gi, b.length, none⟩ = some (.int .u8 77) := by
  have h77 := h.byte (k := b.length) (by simp)
  obtain ⟨bq, oq, eq, h77⟩ := h77
  injection eq with eq
  injection eq with e1 e2
  subst e1 e2
  rw [List.getElem_append_right (Nat.le_refl _)] at h77
  simpa using h77
set_option maxRecDepth 100000 in
set_option maxHeartbeats 16000000 in
theorem stmtHears_walk (A : Option Addr) (c : Nat) (b : List UInt8) (w : World) (hr : Row w A (bs b)) (hcap : b.length ≤ c) (hmx : c ≤ 140737488351232) :
    Calls Try.prog 3 #[.slice A b.length c] w fun e w' => e = .returned (.bool true) ∧ Below w.heap.size w w' := by
  go_enter Try.func3, Try.ntmps3
  by_cases hbig : 50000 < b.length
  · go_wp2_with fail
    refine (known22_any w).mono ?_
    rintro e w1 ⟨rfl, hb⟩
    go_wp2
    go_ret
    exact ⟨rfl, hb⟩
  · go_wp2_with (at_builtin; refine wpl_app _ rfl (.tmp 12) (.tmp 13) rfl w.heap.size (some ⟨w.heap.size, 0, none⟩) 0 [] rfl (Own.made w #[] 0 (Nat.le_refl _) (by unfold maxLen; omega) rfl) A c b rfl (hr.alloc _) ?_ ?_ ?_)
    · simp; omega
    · simp
    intro A1 c1 w1 h1 hg1 _
    have hb1 : Below w.heap.size w w1 := ((Below.refl w.heap.size w).alloc (Nat.le_refl _) (.cells #[] 5)).grown hg1 (by simp) (by intro k hk; simp [Value.ownBlock] at hk; omega)
    have hs1 := hb1.size
    go_wp2_with (at_builtin; refine wpl_app _ rfl (.tmp 14) (.tmp 15) rfl w.heap.size A1 c1 b rfl (h1.alloc _) (some ⟨w1.heap.size, 0, none⟩) 1 [77] rfl (row_lit w1 [77] _ _ _ rfl) ?_ ?_ ?_)
    · simp; omega
    · simp; omega
    intro A2 c2 w2 h2 hg2 _
    obtain ⟨gi, rfl, hge, hgl⟩ := h2.some_ (by simp)
    have hle := h2.le
    simp only [List.length_append, List.length_cons, List.length_nil] at hle
    have hb2 : Below w.heap.size w w2 := (h1.alloc (.cells #[.int .u8 77] 5)).grown_below rfl hg2 (hb1.alloc hs1 _) (Nat.le_refl _) (by simp; omega)
    have hlen : ((b.length : Nat) : Int) ≤ c2 := by omega
    have hri : Row w2 (some ⟨gi, 0, none⟩) (bs b) := by
      have := h2.row.take b.length
      rwa [← bs_length b, bs_append, List.take_left] at this
    have RI0 := Lib.hid h2.row
    have HR2 := Lib.hid (hr.below hb2)
    have HB2 := Lib.hid hb2
    have HC := Lib.hid (readtell_any (some ⟨gi, 0, none⟩) c2 b w2 hri (by omega) hle.2 (by omega))
    have HL : Hid (b.length + 1 ≤ c2 ∧ b.length ≤ c ∧ c ≤ 140737488351232 ∧ c2 ≤ maxLen) := Lib.hid ⟨by omega, hcap, hmx, hle.2⟩
    clear h1 h2 hg1 hg2 hb1 hs1 hr hri hle hb2 hge hgl hcap hmx
    go_wp2_with fail
    refine HC.out.mono fun e w3 h => ?_
    obtain ⟨s, rfl, hsx, hat, hfr, hb⟩ := h.any
    clear h HC
    have B3 := Lib.hid (below_step HB2.out hb (Nat.le_refl _))
    have HR3 := Lib.hid (And.intro (HR2.out.below hb) (RI0.out.below hb))
    have HA3 := Lib.hid hat
    have HSX := Lib.hid hsx
    clear hsx hat hfr hb HB2 HR2 RI0
    have h1 : s.cells.all (·.oneCell') = true := by simp [Rpv.cells, Value.oneCell']
    have V3 := Blk.new w3 34 #[.int .i64 0, .int .i64 0, .int .i64 0, .int .i64 0, .int .u64 0, .slice none 0 0, .slice none 0 0, .slice none 0 0, .slice none 0 0]
    have hba : Below w3.heap.size w3 (w3.alloc (.cells #[.int .i64 0, .int .i64 0, .int .i64 0, .int .i64 0, .int .u64 0, .slice none 0 0, .slice none 0 0, .slice none 0 0, .slice none 0 0] 34)) := (Below.refl _ _).alloc (Nat.le_refl _) _
    have hbs : Below w3.heap.size w3 ((w3.alloc (.cells #[.int .i64 0, .int .i64 0, .int .i64 0, .int .i64 0, .int .u64 0, .slice none 0 0, .slice none 0 0, .slice none 0 0, .slice none 0 0] 34)).setRow w3.heap.size s.cells) := below_grown hba (grownBy_setRow _ _ _) (by simp) (Nat.le_refl _)
    have HX4 := Lib.hid (V3.setRow_ s.cells)
    have B3s := Lib.hid (below_step B3.out hbs (Nat.le_refl _))
    have HR3s := Lib.hid (And.intro (HR3.out.1.below hbs) (HR3.out.2.below hbs))
    have HA3s := Lib.hid (HA3.out.below hbs)
    clear hba hbs B3 HR3 HA3
    go_simp
    iterate 13 go_step
    refine wpList_store_row rfl _ (.tmp 4) (.tmp 23) rfl w3.heap.size s.cells (by go_simp) (by go_simp) _ _ V3 (by kernel_rfl) rfl h1 ?_
    go_upto_region 5 with fail
    clear V3
    generalize (w3.alloc (.cells #[.int .i64 0, .int .i64 0, .int .i64 0, .int .i64 0, .int .u64 0, .slice none 0 0, .slice none 0 0, .slice none 0 0, .slice none 0 0] 34)).setRow w3.heap.size s.cells = w3s at *
    generalize w3.heap.size = g4 at *
    go_wp2_with fail
    refine (refreadtell_any A c b _ HR3s.out.1 HL.out.2.1 (by have := HL.out.2.2.1; unfold maxLen; omega) (by have := HL.out.2.2.1; have := HL.out.2.1; omega)).mono fun e w4 h => ?_
    obtain ⟨t, rfl, htx, hat, hfr, hb⟩ := h.any
    clear h h1
    have HX5 := Lib.hid (HX4.out.below hb HX4.out.lt)
    have B4 := Lib.hid (below_step B3s.out hb (Nat.le_refl _))
    have HR4 := Lib.hid (And.intro (HR3s.out.1.below hb) (HR3s.out.2.below hb))
    have HS5 := Lib.hid (HA3s.out.below hb)
    have HA4 := Lib.hid hat
    have HTX := Lib.hid htx
    clear htx hat hfr hb HX4 B3s HR3s HA3s
    have h1 : t.cells.all (·.oneCell') = true := by simp [Rpv.cells, Value.oneCell']
    have V4 := Blk.new w4 34 #[.int .i64 0, .int .i64 0, .int .i64 0, .int .i64 0, .int .u64 0, .slice none 0 0, .slice none 0 0, .slice none 0 0, .slice none 0 0]
    have hba : Below w4.heap.size w4 (w4.alloc (.cells #[.int .i64 0, .int .i64 0, .int .i64 0, .int .i64 0, .int .u64 0, .slice none 0 0, .slice none 0 0, .slice none 0 0, .slice none 0 0] 34)) := (Below.refl _ _).alloc (Nat.le_refl _) _
    have hbs : Below w4.heap.size w4 ((w4.alloc (.cells #[.int .i64 0, .int .i64 0, .int .i64 0, .int .i64 0, .int .u64 0, .slice none 0 0, .slice none 0 0, .slice none 0 0, .slice none 0 0] 34)).setRow w4.heap.size t.cells) := below_grown hba (grownBy_setRow _ _ _) (by simp) (Nat.le_refl _)
    have HY5 := Lib.hid (V4.setRow_ t.cells)
    have B4s := Lib.hid (below_step B4.out hbs (Nat.le_refl _))
    have HR4s := Lib.hid (And.intro (HR4.out.1.below hbs) (HR4.out.2.below hbs))
    have HA4s := Lib.hid (HA4.out.below hbs)
    have HX := Lib.hid (HX5.out.below hbs HX5.out.lt)
    have HS := Lib.hid (HS5.out.below hbs)
    have HT := HA4s
    have HR := HR4s
    have HSE : Hid (s.x = t.x) := Lib.hid (HSX.out.trans HTX.out.symm)
    clear hba hbs HX5 HS5 HA4 HA4s HR4 HR4s HTX HSX B4
    go_simp
    iterate 13 go_step
    refine wpList_store_row rfl _ (.tmp 6) (.tmp 28) rfl w4.heap.size t.cells (by go_simp) (by go_simp) _ _ V4 (by kernel_rfl) rfl h1 ?_
    go_upto_region 6 with fail
    clear V4 h1
    generalize (w4.alloc (.cells #[.int .i64 0, .int .i64 0, .int .i64 0, .int .i64 0, .int .u64 0, .slice none 0 0, .slice none 0 0, .slice none 0 0, .slice none 0 0] 34)).setRow w4.heap.size t.cells = w5 at *
    generalize w4.heap.size = g5 at *
    obtain ⟨ev, hev⟩ : ∃ ev, rpErr (RepM.readT b) = ev := ⟨_, rfl⟩
    simp only [hev]
    clear hev
    have hx4 := HX.out
    have hx5 := HY5.out
    go_wp2_with (first | (refine wpl_load_row rfl _ (.tmp 4) rfl g4 (by go_simp) _ s.cells (0, 0) _ hx4 Try.underlying34 rfl (by kernel_rfl) ?_) | (refine wpl_load_row rfl _ (.tmp 6) rfl g5 (by go_simp) _ t.cells (0, 0) _ hx5 Try.underlying34 rfl (by kernel_rfl) ?_))
    refine (refsametell_any s t w5 HS.out HT.out).mono ?_
    rintro e w6 ⟨rfl, hb⟩
    rw [HSE.out, RepM.same_refl]
    have hr1 := HR.out.1.below hb
    have hr2 := HR.out.2.below hb
    have s2 : (convert 22 9 (.slice (some ⟨gi, 0, none⟩) b.length c2)).run Try.prog w6 = .ok (.string (str b)) w6 := run_str w6 c2 (by have := hr2.take b.length; rwa [← bs_length b, bs_append, List.take_left] at this)
    have s1 : (convert 22 9 (.slice A b.length c)).run Try.prog w6 = .ok (.string (str b)) w6 := run_str w6 c hr1
    have h77 := row77 hr2
    have hL1 := HL.out.1
    have HB6 := Lib.hid (below_join B4s.out hb)
    clear hr1 hr2 hb hx4 hx5
    go_wp2_with fail
    refine (known22_any w6).mono ?_
    rintro e w7 ⟨rfl, hb⟩
    have B5 := Lib.hid (below_join HB6.out hb)
    clear hb
    go_wp2
    go_ret
    exact ⟨rfl, B5.out⟩
end Go.Proofs.Ytaadfalklddhcaa
