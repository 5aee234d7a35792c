/-
  Whether a reply holds more than is looked at: it answers, and changes nothing.
  Conditions: the reply's lists lie in memory.
-/
import Derived.Test.YtaadfalklddhcaaZStmR2
namespace Go.Proofs.Ytaadfalklddhcaa
open Go.RowKit Go.Sort Go.Lib
set_option linter.unusedVariables false
set_option linter.unusedSimpArgs false
/-- Some answer. -/
def AnyB (w : World) (e : Ending) (w' : World) : Prop := ∃ r : Bool, e = .returned (.bool r) ∧ Below w.heap.size w w'
set_option maxRecDepth 100000 in
set_option maxHeartbeats 4000000 in
theorem heavy_any (s : Rpv) (w : World) (hs : s.At w) : Calls Try.prog 14 #[.agg s.cells] w (AnyB w) := by
  obtain ⟨kind, mark, err, pl, i, IA, ic, its, HA, hc, hits⟩ := s
  obtain ⟨hi, rI, aI, rH, ok, lI, lH, mI, mH⟩ := hs
  dsimp only at *
  simp only [Rpv.cells]
  have hmx : maxLen ≤ 9223372036854775807 := by unfold maxLen; omega
  have hlen : its.length ≤ 9223372036854775807 := by omega
  clear hi aI rH ok lI lH mI mH hmx
  have HR := Lib.hid rI
  obtain ⟨n, hn⟩ : ∃ n, its.length = n := ⟨_, rfl⟩
  have HN := Lib.hid hn
  rw [hn] at hlen
  simp only [hn]
  have U1 := Blk.new w 34 #[.int .i64 kind, .int .i64 mark, .int .i64 err, .int .i64 pl, .int .u64 (i.x.key : Int), .slice i.A i.x.vec.length i.c, .slice i.A2 i.x.note.length i.c2, .slice IA n ic, .slice HA hits.length hc]
  have b0 : Below w.heap.size w (w.alloc (.cells #[.int .i64 kind, .int .i64 mark, .int .i64 err, .int .i64 pl, .int .u64 (i.x.key : Int), .slice i.A i.x.vec.length i.c, .slice i.A2 i.x.note.length i.c2, .slice IA n ic, .slice HA hits.length hc] 34)) := (Below.refl _ _).alloc (Nat.le_refl _) _
  clear rI hn
  go_enter Try.func14, Try.ntmps14
  go_upto_region 1 with fail
  generalize w.alloc (.cells #[.int .i64 kind, .int .i64 mark, .int .i64 err, .int .i64 pl, .int .u64 (i.x.key : Int), .slice i.A i.x.vec.length i.c, .slice i.A2 i.x.note.length i.c2, .slice IA n ic, .slice HA hits.length hc] 34) = V0 at *
  obtain ⟨g, hg⟩ : ∃ g, w.heap.size = g := ⟨_, rfl⟩
  rw [hg] at U1
  simp only [hg]
  have HG := Lib.hid hg
  obtain ⟨d0, d1, d2, d3, d4, d5, d6, d7, d8⟩ := U1.c9
  have HU := Lib.hid U1
  clear hg U1
  go_upto_region 2 with fail
  generalize IntKind.i64.wrap _ = z0
  go_wp2
  go_loopw [3, 4] (fun a b wr => ∃ (z : Int) (k : Nat), a = .int .i64 z ∧ b = .int .i64 (k : Int) ∧ k ≤ n ∧ Below V0.heap.size V0 wr) (fun _ b _ => n - (RowKit.intOf b).toNat)
  case atStart => exact ⟨_, 0, rfl, rfl, Nat.zero_le _, Below.refl _ _⟩
  case round =>
    obtain ⟨z, k, rfl, rfl, hk, hbel⟩ := hrel
    have HU1 := Lib.hid (HU.out.below hbel HU.out.lt)
    clear d0 d1 d2 d3 d4 d5 d6 d7 d8
    obtain ⟨d0, d1, d2, d3, d4, d5, d6, d7, d8⟩ := HU1.out.c9
    by_cases hlt : k < n ∧ k < 100
    · obtain ⟨hlt, hlt2⟩ := hlt
      obtain ⟨s, hs⟩ : ∃ s, its[k]? = some s := ⟨_, List.getElem?_eq_getElem (by rw [HN.out]; exact hlt)⟩
      obtain ⟨b, o, rfl, e1, e2, e3⟩ := row_itv ((HR.out.below b0).below hbel) hs
      have HB := Lib.hid hbel
      have hdn : ∀ n, Below wr.heap.size wr (wr.drewN n) := fun n => ⟨rfl, rfl, rfl, Nat.le_refl _, fun _ _ => rfl⟩
      have HDN := Lib.hid hdn
      clear hs hbel hdn
      go_wp2
      go_quiet (fail)
      have hbel2 := below_join HB.out (HDN.out nq)
      go_wp2
      go_roundw
      case rel => exact ⟨_, k + 1, rfl, by go_num, by omega, hbel2⟩
      case measure => simp [RowKit.intOf]; omega
    · have HB := Lib.hid (below_join b0 hbel)
      go_wp2
      all_goals (go_ret; exact ⟨_, rfl, HB.out⟩)
end Go.Proofs.Ytaadfalklddhcaa
