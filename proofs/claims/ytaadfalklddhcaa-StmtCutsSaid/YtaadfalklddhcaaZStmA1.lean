/-
  Whether a request holds more than is looked at; a request copied.
  Conditions: the request's lists lie in memory; for the copy they are bounded.
-/
import Derived.Test.YtaadfalklddhcaaZStmQ2
import Derived.Test.YtaadfalklddhcaaZStmS1
import Derived.Test.YtaadfalklddhcaaZItemC2
namespace Go.Proofs.Ytaadfalklddhcaa
open Go.RowKit Go.Sort Go.Lib
set_option linter.unusedVariables false
set_option linter.unusedSimpArgs false
/-- What is looked at is small. -/
structure Rq.Small (x : Rq) : Prop where
  h1 : x.it.vec.length ≤ 6000
  h2 : x.it.note.length ≤ 4000
  h3 : x.q.length ≤ 6000
  h4 : x.fl.length ≤ 6000
/-- The answer, and what it says where it is no. -/
def LargeP (x : Rq) (w : World) (e : Ending) (w' : World) : Prop := ∃ r : Bool, e = .returned (.bool r) ∧ (r = false → Rq.Small x) ∧ Below w.heap.size w w'
set_option maxRecDepth 100000 in
set_option maxHeartbeats 8000000 in
theorem large_any (s : Rqv) (w : World) : Calls Try.prog 13 #[.agg s.cells] w (LargeP s.x w) := by
  obtain ⟨⟨kind, ⟨ik, vec, note⟩, key, till, n, q, fl, sc⟩, A, c, A2, c2, QA, qc, FA, fc⟩ := s
  show Calls _ _ _ _ (LargeP ⟨kind, ⟨ik, vec, note⟩, key, till, n, q, fl, sc⟩ w)
  simp only [Rqv.cells, rqC]
  have b0 : Below w.heap.size w (w.alloc (.cells #[.int .i64 kind, .int .u64 (ik : Int), .slice A vec.length c, .slice A2 note.length c2, .int .u64 (key : Int), .int .u64 (till : Int), .int .i64 n, .slice QA q.length qc, .slice FA fl.length fc, .int .i64 sc] 42)) := (Below.refl _ _).alloc (Nat.le_refl _) _
  have U1 := Blk.new w 42 #[.int .i64 kind, .int .u64 (ik : Int), .slice A vec.length c, .slice A2 note.length c2, .int .u64 (key : Int), .int .u64 (till : Int), .int .i64 n, .slice QA q.length qc, .slice FA fl.length fc, .int .i64 sc]
  have HS : Hid (vec.length ≤ 6000 → note.length ≤ 4000 → q.length ≤ 6000 → fl.length ≤ 6000 → Rq.Small ⟨kind, ⟨ik, vec, note⟩, key, till, n, q, fl, sc⟩) := Lib.hid (fun a b c d => ⟨a, b, c, d⟩)
  go_enter Try.func13, Try.ntmps13
  go_upto_region 1 with fail
  generalize w.alloc (.cells #[.int .i64 kind, .int .u64 (ik : Int), .slice A vec.length c, .slice A2 note.length c2, .int .u64 (key : Int), .int .u64 (till : Int), .int .i64 n, .slice QA q.length qc, .slice FA fl.length fc, .int .i64 sc] 42) = V0 at *
  obtain ⟨g, hg⟩ : ∃ g, w.heap.size = g := ⟨_, rfl⟩
  rw [hg] at U1
  simp only [hg]
  obtain ⟨d0, d1, d2, d3, d4, d5, d6, d7, d8, d9⟩ := U1.c10
  obtain ⟨v, hv⟩ : ∃ v, vec.length = v := ⟨_, rfl⟩
  obtain ⟨m, hm⟩ : ∃ v, note.length = v := ⟨_, rfl⟩
  obtain ⟨k, hk⟩ : ∃ v, q.length = v := ⟨_, rfl⟩
  obtain ⟨f, hf⟩ : ∃ v, fl.length = v := ⟨_, rfl⟩
  rw [hv] at d2 HS
  rw [hm] at d3 HS
  rw [hk] at d7 HS
  rw [hf] at d8 HS
  clear hv hm hk hf U1 d0 d1 d4 d5 d6 d9 hg
  by_cases h1 : 6000 < v
  · go_wp2
    go_ret
    exact ⟨true, rfl, (fun q => by cases q), b0⟩
  by_cases h2 : 4000 < m
  · go_wp2
    go_ret
    exact ⟨true, rfl, (fun q => by cases q), b0⟩
  by_cases h3 : 6000 < k
  · go_wp2
    go_ret
    exact ⟨true, rfl, (fun q => by cases q), b0⟩
  · go_wp2
    go_ret
    exact ⟨(decide ((6000 : Int) < (v : Int)) || decide ((4000 : Int) < (m : Int)) || decide ((6000 : Int) < (k : Int)) || decide ((6000 : Int) < (f : Int))), rfl, (fun q => by simp at q; exact HS.out (by omega) (by omega) (by omega) (by omega)), b0⟩
end Go.Proofs.Ytaadfalklddhcaa
