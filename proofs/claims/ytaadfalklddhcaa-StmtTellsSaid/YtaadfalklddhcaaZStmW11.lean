/-
  A request's form, by the program's word (stmt.Ask).
  Conditions: the request's lists lie in memory.
-/
import Derived.Test.YtaadfalklddhcaaZStmW9
import Derived.Test.YtaadfalklddhcaaZStmW10
namespace Go.Proofs.Ytaadfalklddhcaa
open Go.RowKit Go.Sort Go.Lib
set_option linter.unusedVariables false
set_option linter.unusedSimpArgs false
/-- Writers, one for each list of bytes. -/
def WrAll (w : World) : List Value → List (List UInt8) → Prop
  | [], [] => True
  | v :: vs, m :: ms => WrOk w v m ∧ WrAll w vs ms
  | _, _ => False
theorem wr_all {w : World} : ∀ {vs : List Value} {ms : List (List UInt8)}, WrAll w vs ms → ∀ (i : Nat) (v : Value) (m : List UInt8), vs[i]? = some v → ms[i]? = some m → WrOk w v m
  | [], [], _, i, v, m, h, _ => by simp at h
  | v0 :: vs, m0 :: ms, hw, 0, v, m, h, h2 => by
    simp at h h2; subst h h2; exact hw.1
  | v0 :: vs, m0 :: ms, hw, i + 1, v, m, h, h2 => wr_all (vs := vs) (ms := ms) hw.2 i v m (by simpa using h) (by simpa using h2)
  | [], _ :: _, hw, _, _, _, _, _ => hw.elim
  | _ :: _, [], hw, _, _, _, _, _ => hw.elim
/-- Bytes of the call's own, and no error. -/
def BytesYes (m : List UInt8) (w : World) (e : Ending) (w' : World) : Prop := ∃ A n c, e = .returned (.tuple #[.slice A n c, .int .i64 0]) ∧ Hid (m.length = n) ∧ Own w' w.heap.size A c m ∧ Below w.heap.size w w'
def BytesNo (w : World) (e : Ending) (w' : World) : Prop := e = .returned (.tuple #[.slice none 0 0, .int .i64 2]) ∧ Below w.heap.size w w'
def BytesP (b : Bool) (m : List UInt8) (w : World) (e : Ending) (w' : World) : Prop := match b with
  | true => BytesYes m w e w'
  | false => BytesNo w e w'
theorem StmM.may_lens {x : Rq} (h : StmM.may x = true) : x.it.vec.length ≤ 4096 ∧ x.it.note.length ≤ 1024 ∧ x.q.length ≤ 4096 ∧ x.fl.length ≤ 4096 := by
  have hb := StmM.may_bare h
  obtain ⟨k1, k2, _, n1, n2, q1, f1, s1, s2, i1⟩ := (StmM.may_iff x).1 h
  refine ⟨?_, ?_, q1, f1⟩
  · by_cases hk : x.kind = 2
    · exact (ItemM.may_zero (i1.1 hk)).2.1
    · have hv : x.it.vec = [] := by
        rw [hb]
        unfold StmM.bare
        rw [if_neg hk]
        repeat' split
        all_goals rfl
      rw [hv]; simp
  · by_cases hk : x.kind = 2
    · exact (ItemM.may_zero (i1.1 hk)).2.2
    · exact i1.2 hk
theorem StmM.form_small {x : Rq} (h : StmM.may x = true) : (StmM.form x).length ≤ 1000000 := by
  have h1 := StmM.form_length x
  obtain ⟨h2, h3, h4, h5⟩ := StmM.may_lens h
  omega
def ak5P (g : Nat) (gl : Nat) (ik : Nat) (note : List UInt8) (A2 : Option Addr) (c2 : Nat) (key till : Nat) (n : Int) (q : List Int) (fl : List Nat) (sc : Int) (QA : Option Addr) (qc : Nat) (FA : Option Addr) (fc : Nat) : List (Nat × Nat × Value) := [(0, 33, (.slice (some ⟨gl, 0, none⟩) 1 1)), (1, 34, (.pointer (some ⟨g, 4, none⟩))), (2, 35, (.int .u64 (key : Int))), (4, 37, (.pointer (some ⟨g, 5, none⟩))), (5, 38, (.int .u64 (till : Int))), (7, 40, (.pointer (some ⟨g, 6, none⟩))), (8, 41, (.int .i64 n))]
def ak5PM (g : Nat) (gl : Nat) (ik : Nat) (note : List UInt8) (A2 : Option Addr) (c2 : Nat) (key till : Nat) (n : Int) (q : List Int) (fl : List Nat) (sc : Int) (QA : Option Addr) (qc : Nat) (FA : Option Addr) (fc : Nat) : List (Nat × Nat × List UInt8) := [(3, 36, CodeM.fx 8 key), (6, 39, CodeM.fx 8 till), (9, 42, [StmM.b8 n])]
def ak6P (g : Nat) (gl : Nat) (ik : Nat) (note : List UInt8) (A2 : Option Addr) (c2 : Nat) (key till : Nat) (n : Int) (q : List Int) (fl : List Nat) (sc : Int) (QA : Option Addr) (qc : Nat) (FA : Option Addr) (fc : Nat) : List (Nat × Nat × Value) := [(0, 47, (.slice (some ⟨gl, 0, none⟩) 1 1)), (1, 48, (.pointer (some ⟨g, 6, none⟩))), (2, 49, (.int .i64 n)), (4, 51, (.pointer (some ⟨g, 7, none⟩))), (5, 52, (.slice QA q.length qc))]
def ak6PM (g : Nat) (gl : Nat) (ik : Nat) (note : List UInt8) (A2 : Option Addr) (c2 : Nat) (key till : Nat) (n : Int) (q : List Int) (fl : List Nat) (sc : Int) (QA : Option Addr) (qc : Nat) (FA : Option Addr) (fc : Nat) : List (Nat × Nat × List UInt8) := [(3, 50, [StmM.b8 n]), (6, 53, CodeM.uv q.length ++ ItemM.vb q)]
def ak10P (g : Nat) (gl : Nat) (ik : Nat) (note : List UInt8) (A2 : Option Addr) (c2 : Nat) (key till : Nat) (n : Int) (q : List Int) (fl : List Nat) (sc : Int) (QA : Option Addr) (qc : Nat) (FA : Option Addr) (fc : Nat) : List (Nat × Nat × Value) := [(0, 58, (.slice (some ⟨gl, 0, none⟩) 1 1)), (1, 59, (.pointer (some ⟨g, 1, none⟩))), (2, 60, (.pointer (some ⟨g, 1, none⟩))), (3, 61, (.int .u64 (ik : Int))), (5, 63, (.pointer (some ⟨g, 9, none⟩))), (6, 64, (.int .i64 sc)), (8, 66, (.pointer (some ⟨g, 8, none⟩))), (9, 67, (.slice FA fl.length fc)), (11, 69, (.pointer (some ⟨g, 1, none⟩))), (12, 70, (.pointer (some ⟨g, 3, none⟩))), (13, 71, (.slice A2 note.length c2))]
def ak10PM (g : Nat) (gl : Nat) (ik : Nat) (note : List UInt8) (A2 : Option Addr) (c2 : Nat) (key till : Nat) (n : Int) (q : List Int) (fl : List Nat) (sc : Int) (QA : Option Addr) (qc : Nat) (FA : Option Addr) (fc : Nat) : List (Nat × Nat × List UInt8) := [(4, 62, CodeM.fx 8 ik), (7, 65, [StmM.b8 sc]), (10, 68, CodeM.uv fl.length ++ fb fl), (14, 72, CodeM.tx note)]
def ak11P (g : Nat) (gl : Nat) (ik : Nat) (note : List UInt8) (A2 : Option Addr) (c2 : Nat) (key till : Nat) (n : Int) (q : List Int) (fl : List Nat) (sc : Int) (QA : Option Addr) (qc : Nat) (FA : Option Addr) (fc : Nat) : List (Nat × Nat × Value) := [(0, 77, (.slice (some ⟨gl, 0, none⟩) 1 1)), (1, 78, (.pointer (some ⟨g, 6, none⟩))), (2, 79, (.int .i64 n)), (4, 81, (.pointer (some ⟨g, 9, none⟩))), (5, 82, (.int .i64 sc)), (7, 84, (.pointer (some ⟨g, 8, none⟩))), (8, 85, (.slice FA fl.length fc))]
def ak11PM (g : Nat) (gl : Nat) (ik : Nat) (note : List UInt8) (A2 : Option Addr) (c2 : Nat) (key till : Nat) (n : Int) (q : List Int) (fl : List Nat) (sc : Int) (QA : Option Addr) (qc : Nat) (FA : Option Addr) (fc : Nat) : List (Nat × Nat × List UInt8) := [(3, 80, [StmM.b8 n]), (6, 83, [StmM.b8 sc]), (9, 86, CodeM.uv fl.length ++ fb fl)]

set_option maxRecDepth 100000 in
set_option maxHeartbeats 16000000 in
theorem ask_any (s : Rqv) (w : World) (hs : s.At w) : Calls Try.prog 17 #[.agg s.cells] w (BytesP (StmM.may s.x) (StmM.form s.x) w) := by
  obtain ⟨⟨kind, ⟨ik, vec, note⟩, key, till, n, q, fl, sc⟩, A, c, A2, c2, QA, qc, FA, fc⟩ := s
  have HSA0 := Lib.hid hs
  clear hs
  show Calls _ _ _ _ (BytesP (StmM.may ⟨kind, ⟨ik, vec, note⟩, key, till, n, q, fl, sc⟩) (StmM.form ⟨kind, ⟨ik, vec, note⟩, key, till, n, q, fl, sc⟩) w)
  obtain ⟨bm, hbm⟩ : ∃ b, StmM.may ⟨kind, ⟨ik, vec, note⟩, key, till, n, q, fl, sc⟩ = b := ⟨_, rfl⟩
  have HM := Lib.hid hbm
  rw [hbm]
  clear hbm
  simp only [Rqv.cells, rqC]
  have b0 : Below w.heap.size w (w.alloc (.cells #[.int .i64 kind, .int .u64 (ik : Int), .slice A vec.length c, .slice A2 note.length c2, .int .u64 (key : Int), .int .u64 (till : Int), .int .i64 n, .slice QA q.length qc, .slice FA fl.length fc, .int .i64 sc] 42)) := (Below.refl _ _).alloc (Nat.le_refl _) _
  have U1 := Blk.new w 42 #[.int .i64 kind, .int .u64 (ik : Int), .slice A vec.length c, .slice A2 note.length c2, .int .u64 (key : Int), .int .u64 (till : Int), .int .i64 n, .slice QA q.length qc, .slice FA fl.length fc, .int .i64 sc]
  go_enter Try.func17, Try.ntmps17
  go_upto_region 1 with fail
  generalize w.alloc (.cells #[.int .i64 kind, .int .u64 (ik : Int), .slice A vec.length c, .slice A2 note.length c2, .int .u64 (key : Int), .int .u64 (till : Int), .int .i64 n, .slice QA q.length qc, .slice FA fl.length fc, .int .i64 sc] 42) = V0 at *
  obtain ⟨g, hg⟩ : ∃ g, w.heap.size = g := ⟨_, rfl⟩
  have HG := Lib.hid hg
  rw [hg] at U1 b0
  simp only [hg]
  have HSA : Hid (∀ (w' : World), Below g w w' → Rqv.At ⟨⟨kind, ⟨ik, vec, note⟩, key, till, n, q, fl, sc⟩, A, c, A2, c2, QA, qc, FA, fc⟩ w') := Lib.hid fun w' h => HSA0.out.below (by rw [HG.out]; exact h)
  clear hg HSA0
  go_wp2_with (first | (refine wpl_load_row rfl _ (.tmp 1) rfl (g) (by go_simp) _ #[.int .i64 kind, .int .u64 (ik : Int), .slice A vec.length c, .slice A2 note.length c2, .int .u64 (key : Int), .int .u64 (till : Int), .int .i64 n, .slice QA q.length qc, .slice FA fl.length fc, .int .i64 sc] (0, 0) _ U1 Try.underlying42 rfl (by kernel_rfl) ?_))
  refine (mayask_any ⟨⟨kind, ⟨ik, vec, note⟩, key, till, n, q, fl, sc⟩, A, c, A2, c2, QA, qc, FA, fc⟩ V0 (HSA.out _ b0)).mono ?_
  rintro e V1 ⟨rfl, hb⟩
  have B1 := Lib.hid (below_step b0 hb (Nat.le_of_eq HG.out.symm))
  have HU1 := Lib.hid (U1.below hb U1.lt)
  clear U1 b0 hb
  rw [show StmM.may (Rqv.x ⟨⟨kind, ⟨ik, vec, note⟩, key, till, n, q, fl, sc⟩, A, c, A2, c2, QA, qc, FA, fc⟩) = bm from HM.out]
  cases bm with
  | false =>
    go_wp2
    go_ret2
    exact ⟨rfl, by rw [HG.out]; exact B1.out⟩
  | true =>
    have HLN := Lib.hid (StmM.may_lens HM.out)
    obtain ⟨d0, d1, d2, d3, d4, d5, d6, d7, d8, d9⟩ := HU1.out.c10
    clear d1 d2 d3 d4 d5 d6 d7 d8 d9
    go_wp2_with fail
    refine (mku8_any kind (StmM.b8 kind) V1 (StmM.b8_wrap kind)).mono ?_
    rintro e V2 ⟨v0, rfl, hok0, hb⟩
    clear d0
    obtain ⟨fn0, cp0, hv0⟩ := hok0.form
    subst hv0
    have hb3 : Below V2.heap.size V2 (V2.alloc (.cells #[(.func (.func fn0) #[] cp0)] 84)) := (Below.refl _ _).alloc (Nat.le_refl _) _
    have b13 := below_join hb hb3
    have B3 := Lib.hid (below_step B1.out b13 (Nat.le_of_eq HG.out.symm))
    have HU3 := Lib.hid (HU1.out.below b13 HU1.out.lt)
    have HW0 := Lib.hid (hok0.below hb3)
    have HO3 : Hid (OwnF (V2.alloc (.cells #[(.func (.func fn0) #[] cp0)] 84)) (g + 1) (some ⟨V2.heap.size, 0, none⟩) 1 1 [(.func (.func fn0) #[] cp0)]) := Lib.hid (OwnF.new V2 [(.func (.func fn0) #[] cp0)] 1 rfl (by decide) (Nat.le_trans HU1.out.lt hb.size))
    clear hb hb3 b13 hok0
    go_upto_region 4 with fail
    generalize hV3 : V2.alloc (.cells #[(.func (.func fn0) #[] cp0)] 84) = V3 at *
    generalize hgl : V2.heap.size = gl at *
    generalize hvv : (Value.func (.func fn0) #[] cp0) = v0 at *
    clear hV3 hgl HU1 B1 hvv
    by_cases k1 : kind = 1
    · subst k1
      as_aux_lemma =>
      have d0 := HU3.out.c10.1
      have hf : ([[StmM.b8 1]] : List (List UInt8)).flatten = StmM.form ⟨1, ⟨ik, vec, note⟩, key, till, n, q, fl, sc⟩ := by simp [StmM.form, StmM.body]
      have HF := Lib.hid hf
      have HALL := Lib.hid (all_any (some ⟨gl, 0, none⟩) 1 1 [v0] [[StmM.b8 1]] V3 HO3.out.row rfl rfl (by decide) (wr_all (w := V3) (vs := [v0]) (ms := [[StmM.b8 1]]) ⟨HW0.out, trivial⟩) (by rw [hf]; exact Nat.le_trans (StmM.form_small HM.out) (by decide)))
      clear hf
      go_wp2_with fail
      refine HALL.out.mono ?_
      rintro e V9 ⟨A9, n9, c9, rfl, hn9, hO9, hb9⟩
      have HZ : Hid (Hid ((StmM.form ⟨1, ⟨ik, vec, note⟩, key, till, n, q, fl, sc⟩).length = n9) ∧ Own V9 w.heap.size A9 c9 (StmM.form ⟨1, ⟨ik, vec, note⟩, key, till, n, q, fl, sc⟩) ∧ Below w.heap.size w V9) := Lib.hid (by
        rw [HF.out] at hn9 hO9
        rw [HG.out]
        exact ⟨hn9, hO9.base_ (Nat.le_trans (Nat.le_of_eq HG.out.symm) B3.out.size), below_step B3.out hb9 (Nat.le_of_eq HG.out.symm)⟩)
      clear hn9 hO9 hb9 HALL
      go_wp2
      go_ret2
      exact ⟨A9, n9, c9, rfl, HZ.out.1, HZ.out.2.1, HZ.out.2.2⟩
    by_cases k2 : kind = 2
    · subst k2
      as_aux_lemma =>
      have RX := Lib.hid (HSA.out V3 B3.out)
      have HMI := Lib.hid (ItemM.may_zero (((StmM.may_iff _).1 HM.out).2.2.2.2.2.2.2.2.2.1 rfl))
      obtain ⟨d0, d1, d2, d3, d4, d5, d6, d7, d8, d9⟩ := HU3.out.c10
      clear d5 d6 d7 d8 d9
      go_wp2_with fail
      refine (mkrec_any ⟨ik, vec, note⟩ A A2 vec.length c note.length c2 V3 RX.out.ok.hit.hk RX.out.ok.hit.hv RX.out.r1 RX.out.r2 rfl rfl HMI.out.1 HMI.out.2.1 HMI.out.2.2).mono ?_
      rintro e V4 ⟨vv, rfl, hok, hb⟩
      obtain ⟨fn1, cp1, hv1⟩ := hok.form
      subst hv1
      clear d0 d1 d2 d3 d4
      have B4 := Lib.hid (below_step B3.out hb (Nat.le_of_eq HG.out.symm))
      have HW1 := Lib.hid hok
      have HW4 := Lib.hid (HW0.out.below hb)
      have HO4 := Lib.hid (HO3.out.below hb)
      have hba : Below V4.heap.size V4 (V4.alloc (.cells #[(.func (.func fn1) #[] cp1)] 84)) := (Below.refl _ _).alloc (Nat.le_refl _) _
      have HBA := Lib.hid hba
      have HGV : Hid (g + 1 ≤ V4.heap.size) := Lib.hid (Nat.le_trans HU3.out.lt hb.size)
      clear hok hb hba
      go_wp2_with (at_builtin; refine wpl_appF1 _ rfl (.tmp 16) (.tmp 20) rfl (g + 1) (some ⟨gl, 0, none⟩) [v0] 1 rfl (HO4.out.below HBA.out) (some ⟨V4.heap.size, 0, none⟩) 1 [(.func (.func fn1) #[] cp1)] 1 rfl rfl (row_fn V4 [(.func (.func fn1) #[] cp1)] #[(.func (.func fn1) #[] cp1)] rfl) (fun u hu => by rw [List.mem_singleton.1 hu]; exact HW1.out.one) (by decide) (by decide) (by decide) (Nat.le_trans HGV.out HBA.out.size) ?_)
      intro A5 c5 V5 hO5 hb5
      have hb45 : Below V4.heap.size V4 V5 := HBA.out.trans (hb5.mono (Nat.le_succ _))
      have B5 := Lib.hid (below_step B4.out hb45 (Nat.le_of_eq HG.out.symm))
      have HW5 : Hid (WrAll V5 [v0, Value.func (.func fn1) #[] cp1] [[StmM.b8 2], ItemM.form ⟨ik, vec, note⟩]) := Lib.hid ⟨HW4.out.below hb45, HW1.out.below hb45, trivial⟩
      have HO5 := Lib.hid hO5
      clear hb45 hb5 hO5 HBA HO4 HW4 HW1
      have hf : ([[StmM.b8 2], ItemM.form ⟨ik, vec, note⟩] : List (List UInt8)).flatten = StmM.form ⟨2, ⟨ik, vec, note⟩, key, till, n, q, fl, sc⟩ := by simp [StmM.form, StmM.body]
      have HF := Lib.hid hf
      have HALL := Lib.hid (all_any A5 2 c5 [v0, Value.func (.func fn1) #[] cp1] [[StmM.b8 2], ItemM.form ⟨ik, vec, note⟩] V5 HO5.out.row rfl rfl (by decide) (wr_all (w := V5) (vs := [v0, Value.func (.func fn1) #[] cp1]) (ms := [[StmM.b8 2], ItemM.form ⟨ik, vec, note⟩]) HW5.out) (by rw [hf]; exact Nat.le_trans (StmM.form_small HM.out) (by decide)))
      clear hf
      go_wp2_with fail
      refine HALL.out.mono ?_
      rintro e V9 ⟨A9, n9, c9, rfl, hn9, hO9, hb9⟩
      have HZ : Hid (Hid ((StmM.form ⟨2, ⟨ik, vec, note⟩, key, till, n, q, fl, sc⟩).length = n9) ∧ Own V9 w.heap.size A9 c9 (StmM.form ⟨2, ⟨ik, vec, note⟩, key, till, n, q, fl, sc⟩) ∧ Below w.heap.size w V9) := Lib.hid (by
        rw [HF.out] at hn9 hO9
        rw [HG.out]
        exact ⟨hn9, hO9.base_ (Nat.le_trans (Nat.le_of_eq HG.out.symm) B5.out.size), below_step B5.out hb9 (Nat.le_of_eq HG.out.symm)⟩)
      clear hn9 hO9 hb9 HALL
      go_wp2
      go_ret2
      exact ⟨A9, n9, c9, rfl, HZ.out.1, HZ.out.2.1, HZ.out.2.2⟩
    by_cases k3 : kind = 3
    · subst k3
      as_aux_lemma =>
      have RX := Lib.hid (HSA.out V3 B3.out)
      obtain ⟨d0, d1, d2, d3, d4, d5, d6, d7, d8, d9⟩ := HU3.out.c10
      clear d1 d2 d3 d5 d6 d7 d8 d9
      go_wp2_with fail
      refine (mku64_any key V3 RX.out.ok.hkey).mono ?_
      rintro e V4 ⟨vv, rfl, hok, hb⟩
      obtain ⟨fn1, cp1, hv1⟩ := hok.form
      subst hv1
      clear d0 d4
      have B4 := Lib.hid (below_step B3.out hb (Nat.le_of_eq HG.out.symm))
      have HW1 := Lib.hid hok
      have HW4 := Lib.hid (HW0.out.below hb)
      have HO4 := Lib.hid (HO3.out.below hb)
      have hba : Below V4.heap.size V4 (V4.alloc (.cells #[(.func (.func fn1) #[] cp1)] 84)) := (Below.refl _ _).alloc (Nat.le_refl _) _
      have HBA := Lib.hid hba
      have HGV : Hid (g + 1 ≤ V4.heap.size) := Lib.hid (Nat.le_trans HU3.out.lt hb.size)
      clear hok hb hba
      go_wp2_with (at_builtin; refine wpl_appF1 _ rfl (.tmp 25) (.tmp 29) rfl (g + 1) (some ⟨gl, 0, none⟩) [v0] 1 rfl (HO4.out.below HBA.out) (some ⟨V4.heap.size, 0, none⟩) 1 [(.func (.func fn1) #[] cp1)] 1 rfl rfl (row_fn V4 [(.func (.func fn1) #[] cp1)] #[(.func (.func fn1) #[] cp1)] rfl) (fun u hu => by rw [List.mem_singleton.1 hu]; exact HW1.out.one) (by decide) (by decide) (by decide) (Nat.le_trans HGV.out HBA.out.size) ?_)
      intro A5 c5 V5 hO5 hb5
      have hb45 : Below V4.heap.size V4 V5 := HBA.out.trans (hb5.mono (Nat.le_succ _))
      have B5 := Lib.hid (below_step B4.out hb45 (Nat.le_of_eq HG.out.symm))
      have HW5 : Hid (WrAll V5 [v0, Value.func (.func fn1) #[] cp1] [[StmM.b8 3], CodeM.fx 8 key]) := Lib.hid ⟨HW4.out.below hb45, HW1.out.below hb45, trivial⟩
      have HO5 := Lib.hid hO5
      clear hb45 hb5 hO5 HBA HO4 HW4 HW1
      have hf : ([[StmM.b8 3], CodeM.fx 8 key] : List (List UInt8)).flatten = StmM.form ⟨3, ⟨ik, vec, note⟩, key, till, n, q, fl, sc⟩ := by simp [StmM.form, StmM.body]
      have HF := Lib.hid hf
      have HALL := Lib.hid (all_any A5 2 c5 [v0, Value.func (.func fn1) #[] cp1] [[StmM.b8 3], CodeM.fx 8 key] V5 HO5.out.row rfl rfl (by decide) (wr_all (w := V5) (vs := [v0, Value.func (.func fn1) #[] cp1]) (ms := [[StmM.b8 3], CodeM.fx 8 key]) HW5.out) (by rw [hf]; exact Nat.le_trans (StmM.form_small HM.out) (by decide)))
      clear hf
      go_wp2_with fail
      refine HALL.out.mono ?_
      rintro e V9 ⟨A9, n9, c9, rfl, hn9, hO9, hb9⟩
      have HZ : Hid (Hid ((StmM.form ⟨3, ⟨ik, vec, note⟩, key, till, n, q, fl, sc⟩).length = n9) ∧ Own V9 w.heap.size A9 c9 (StmM.form ⟨3, ⟨ik, vec, note⟩, key, till, n, q, fl, sc⟩) ∧ Below w.heap.size w V9) := Lib.hid (by
        rw [HF.out] at hn9 hO9
        rw [HG.out]
        exact ⟨hn9, hO9.base_ (Nat.le_trans (Nat.le_of_eq HG.out.symm) B5.out.size), below_step B5.out hb9 (Nat.le_of_eq HG.out.symm)⟩)
      clear hn9 hO9 hb9 HALL
      go_wp2
      go_ret2
      exact ⟨A9, n9, c9, rfl, HZ.out.1, HZ.out.2.1, HZ.out.2.2⟩
    by_cases k4 : kind = 4
    · subst k4
      as_aux_lemma =>
      have RX := Lib.hid (HSA.out V3 B3.out)
      obtain ⟨d0, d1, d2, d3, d4, d5, d6, d7, d8, d9⟩ := HU3.out.c10
      clear d1 d2 d3 d5 d6 d7 d8 d9
      go_wp2_with fail
      refine (mku64_any key V3 RX.out.ok.hkey).mono ?_
      rintro e V4 ⟨vv, rfl, hok, hb⟩
      obtain ⟨fn1, cp1, hv1⟩ := hok.form
      subst hv1
      clear d0 d4
      have B4 := Lib.hid (below_step B3.out hb (Nat.le_of_eq HG.out.symm))
      have HW1 := Lib.hid hok
      have HW4 := Lib.hid (HW0.out.below hb)
      have HO4 := Lib.hid (HO3.out.below hb)
      have hba : Below V4.heap.size V4 (V4.alloc (.cells #[(.func (.func fn1) #[] cp1)] 84)) := (Below.refl _ _).alloc (Nat.le_refl _) _
      have HBA := Lib.hid hba
      have HGV : Hid (g + 1 ≤ V4.heap.size) := Lib.hid (Nat.le_trans HU3.out.lt hb.size)
      clear hok hb hba
      go_wp2_with (at_builtin; refine wpl_appF1 _ rfl (.tmp 25) (.tmp 29) rfl (g + 1) (some ⟨gl, 0, none⟩) [v0] 1 rfl (HO4.out.below HBA.out) (some ⟨V4.heap.size, 0, none⟩) 1 [(.func (.func fn1) #[] cp1)] 1 rfl rfl (row_fn V4 [(.func (.func fn1) #[] cp1)] #[(.func (.func fn1) #[] cp1)] rfl) (fun u hu => by rw [List.mem_singleton.1 hu]; exact HW1.out.one) (by decide) (by decide) (by decide) (Nat.le_trans HGV.out HBA.out.size) ?_)
      intro A5 c5 V5 hO5 hb5
      have hb45 : Below V4.heap.size V4 V5 := HBA.out.trans (hb5.mono (Nat.le_succ _))
      have B5 := Lib.hid (below_step B4.out hb45 (Nat.le_of_eq HG.out.symm))
      have HW5 : Hid (WrAll V5 [v0, Value.func (.func fn1) #[] cp1] [[StmM.b8 4], CodeM.fx 8 key]) := Lib.hid ⟨HW4.out.below hb45, HW1.out.below hb45, trivial⟩
      have HO5 := Lib.hid hO5
      clear hb45 hb5 hO5 HBA HO4 HW4 HW1
      have hf : ([[StmM.b8 4], CodeM.fx 8 key] : List (List UInt8)).flatten = StmM.form ⟨4, ⟨ik, vec, note⟩, key, till, n, q, fl, sc⟩ := by simp [StmM.form, StmM.body]
      have HF := Lib.hid hf
      have HALL := Lib.hid (all_any A5 2 c5 [v0, Value.func (.func fn1) #[] cp1] [[StmM.b8 4], CodeM.fx 8 key] V5 HO5.out.row rfl rfl (by decide) (wr_all (w := V5) (vs := [v0, Value.func (.func fn1) #[] cp1]) (ms := [[StmM.b8 4], CodeM.fx 8 key]) HW5.out) (by rw [hf]; exact Nat.le_trans (StmM.form_small HM.out) (by decide)))
      clear hf
      go_wp2_with fail
      refine HALL.out.mono ?_
      rintro e V9 ⟨A9, n9, c9, rfl, hn9, hO9, hb9⟩
      have HZ : Hid (Hid ((StmM.form ⟨4, ⟨ik, vec, note⟩, key, till, n, q, fl, sc⟩).length = n9) ∧ Own V9 w.heap.size A9 c9 (StmM.form ⟨4, ⟨ik, vec, note⟩, key, till, n, q, fl, sc⟩) ∧ Below w.heap.size w V9) := Lib.hid (by
        rw [HF.out] at hn9 hO9
        rw [HG.out]
        exact ⟨hn9, hO9.base_ (Nat.le_trans (Nat.le_of_eq HG.out.symm) B5.out.size), below_step B5.out hb9 (Nat.le_of_eq HG.out.symm)⟩)
      clear hn9 hO9 hb9 HALL
      go_wp2
      go_ret2
      exact ⟨A9, n9, c9, rfl, HZ.out.1, HZ.out.2.1, HZ.out.2.2⟩
    by_cases k5 : kind = 5
    · subst k5
      as_aux_lemma =>
      have d0 := HU3.out.c10.1
      go_upto_region 11 with fail
      clear d0
      refine wp_named fun a0 ha0 => ?_
      have z4 : a0.tmps.getD 4 undef = (.slice (some ⟨gl, 0, none⟩) 1 1) := by rw [ha0.out]; rfl
      have z1 : a0.tmps.getD 1 undef = (.pointer (some ⟨g, 0, none⟩)) := by rw [ha0.out]; rfl
      have hsz0 : a0.tmps.size = 91 := by rw [ha0.out]; rfl
      refine wp_region_invB _ (by kernel_rfl) (fun L a wv => ∃ F bA rA rc, WI a0 [33, 34, 35, 36, 37, 38, 39, 40, 41, 42, 43, 44, 4] (ak5P g gl ik note A2 c2 key till n q fl sc QA qc FA fc) (ak5PM g gl ik note A2 c2 key till n q fl sc QA qc FA fc) ⟨10, 43, 11, 44, 12, 4, 1⟩ V3.heap.size (g + 1) V3 (some ⟨gl, 0, none⟩) 1 [v0] F bA rA rc L a wv) (by kernel_rfl) ?_ ?_ ?_
      · exact ⟨fun _ => undef, 0, none, 0, WI.start (Nat.le_refl _) ⟨rfl, rfl, rfl, Nat.le_refl _, fun _ _ => rfl⟩ (HO3.out.below ⟨rfl, rfl, rfl, Nat.le_refl _, fun _ _ => rfl⟩)⟩
      rotate_left
      · as_aux_lemma =>
        refine ⟨?_, ?_, ?_, ?_, ?_, ?_, ?_, ?_, ?_, ?_, ?_, ?_, ?_, trivial⟩
        · intro L a w1 hI hi hd
          obtain ⟨F, bA, rA, rc, hC⟩ := hI
          have hp := hC.pif
          have hi : L 0 = false := hi
          have hn4 : L 12 = false := by
            cases q : L 12 with
            | false => rfl
            | true => rw [(hC.dab (hC.d4a q)).2] at hi; cases hi
          have t4 := (hC.st hn4).trans z4
          have t4' := t4
          rw [Array.getD_eq_getD_getElem?] at t4'
          exact rstep_valW (wanted_none rfl _) (.slice (some ⟨gl, 0, none⟩) 1 1) w1 (by go_simp) ⟨F, bA, rA, rc, hC.pure 0 33 (.slice (some ⟨gl, 0, none⟩) 1 1) (by simp [wrows, ak5P, ak5PM]) (by simp [wrows, ak5P, ak5PM]) (by simp [ak5PM]) (by decide) rfl (by rw [hsz0]; exact (by decide : 33 < 91))⟩
        · intro L a w1 hI hi hd
          obtain ⟨F, bA, rA, rc, hC⟩ := hI
          have hp := hC.pif
          have hi : L 1 = false := hi
          have t1 := hp.at_ 1 _ rfl z1
          have t1' := t1
          rw [Array.getD_eq_getD_getElem?] at t1'
          exact rstep_valW (wanted_none rfl _) (.pointer (some ⟨g, 4, none⟩)) w1 (by go_simp) ⟨F, bA, rA, rc, hC.pure 1 34 (.pointer (some ⟨g, 4, none⟩)) (by simp [wrows, ak5P, ak5PM]) (by simp [wrows, ak5P, ak5PM]) (by simp [ak5PM]) (by decide) rfl (by rw [hsz0]; exact (by decide : 34 < 91))⟩
        · intro L a w1 hI hi hd
          obtain ⟨F, bA, rA, rc, hC⟩ := hI
          have hp := hC.pif
          have hi : L 2 = false := hi
          simp [Region.binds] at hd
          have e1 : a.tmps.getD 34 undef = (.pointer (some ⟨g, 4, none⟩)) := hp.pu (1, 34, (.pointer (some ⟨g, 4, none⟩))) (by simp [wrows, ak5P, ak5PM]) (by simp [hd])
          have f1 : a.tmps[34]?.getD undef = (.pointer (some ⟨g, 4, none⟩)) := by rw [← Array.getD_eq_getD_getElem?]; exact e1
          obtain ⟨d0, d1, d2, d3, d4, d5, d6, d7, d8, d9⟩ := (HU3.out.below hC.bel HU3.out.lt).c10
          exact rstep_valW (wanted_none rfl _) (.int .u64 (key : Int)) w1 (by go_simp) ⟨F, bA, rA, rc, hC.pure 2 35 (.int .u64 (key : Int)) (by simp [wrows, ak5P, ak5PM]) (by simp [wrows, ak5P, ak5PM]) (by simp [ak5PM]) (by decide) rfl (by rw [hsz0]; exact (by decide : 35 < 91))⟩
        · intro L a w1 hI hi hd
          obtain ⟨F, bA, rA, rc, hC⟩ := hI
          have hp := hC.pif
          have hi : L 3 = false := hi
          simp [Region.binds] at hd
          have e2 : a.tmps.getD 35 undef = (.int .u64 (key : Int)) := hp.pu (2, 35, (.int .u64 (key : Int))) (by simp [wrows, ak5P, ak5PM]) (by simp [hd])
          have f2 : a.tmps[35]?.getD undef = (.int .u64 (key : Int)) := by rw [← Array.getD_eq_getD_getElem?]; exact e2
          have RX := HSA.out w1 (B3.out.trans (hC.bel.mono (Nat.le_of_lt HU3.out.lt)))
          refine rstep_callW (wanted_none rfl _) 54 #[.int .u64 (key : Int)] (by go_simp) ?_
          refine (mku64_any key w1 RX.ok.hkey).mono ?_
          rintro e w2 ⟨v, rfl, hok, hb2⟩
          exact ⟨_, bA, rA, rc, hC.call (3, 36, CodeM.fx 8 key) (by simp [ak5PM]) hi v hok hb2 (by simp [ak5P]) (by simp [ak5PM]) (by simp [wrows, ak5P, ak5PM, setF]) (by simp [wrows, ak5P, ak5PM, setF]) (by simp) rfl (by rw [hsz0]; exact (by decide : 36 < 91))⟩
        · intro L a w1 hI hi hd
          obtain ⟨F, bA, rA, rc, hC⟩ := hI
          have hp := hC.pif
          have hi : L 4 = false := hi
          have t1 := hp.at_ 1 _ rfl z1
          have t1' := t1
          rw [Array.getD_eq_getD_getElem?] at t1'
          exact rstep_valW (wanted_none rfl _) (.pointer (some ⟨g, 5, none⟩)) w1 (by go_simp) ⟨F, bA, rA, rc, hC.pure 4 37 (.pointer (some ⟨g, 5, none⟩)) (by simp [wrows, ak5P, ak5PM]) (by simp [wrows, ak5P, ak5PM]) (by simp [ak5PM]) (by decide) rfl (by rw [hsz0]; exact (by decide : 37 < 91))⟩
        · intro L a w1 hI hi hd
          obtain ⟨F, bA, rA, rc, hC⟩ := hI
          have hp := hC.pif
          have hi : L 5 = false := hi
          simp [Region.binds] at hd
          have e4 : a.tmps.getD 37 undef = (.pointer (some ⟨g, 5, none⟩)) := hp.pu (4, 37, (.pointer (some ⟨g, 5, none⟩))) (by simp [wrows, ak5P, ak5PM]) (by simp [hd])
          have f4 : a.tmps[37]?.getD undef = (.pointer (some ⟨g, 5, none⟩)) := by rw [← Array.getD_eq_getD_getElem?]; exact e4
          obtain ⟨d0, d1, d2, d3, d4, d5, d6, d7, d8, d9⟩ := (HU3.out.below hC.bel HU3.out.lt).c10
          exact rstep_valW (wanted_none rfl _) (.int .u64 (till : Int)) w1 (by go_simp) ⟨F, bA, rA, rc, hC.pure 5 38 (.int .u64 (till : Int)) (by simp [wrows, ak5P, ak5PM]) (by simp [wrows, ak5P, ak5PM]) (by simp [ak5PM]) (by decide) rfl (by rw [hsz0]; exact (by decide : 38 < 91))⟩
        · intro L a w1 hI hi hd
          obtain ⟨F, bA, rA, rc, hC⟩ := hI
          have hp := hC.pif
          have hi : L 6 = false := hi
          simp [Region.binds] at hd
          have e5 : a.tmps.getD 38 undef = (.int .u64 (till : Int)) := hp.pu (5, 38, (.int .u64 (till : Int))) (by simp [wrows, ak5P, ak5PM]) (by simp [hd])
          have f5 : a.tmps[38]?.getD undef = (.int .u64 (till : Int)) := by rw [← Array.getD_eq_getD_getElem?]; exact e5
          have RX := HSA.out w1 (B3.out.trans (hC.bel.mono (Nat.le_of_lt HU3.out.lt)))
          refine rstep_callW (wanted_none rfl _) 54 #[.int .u64 (till : Int)] (by go_simp) ?_
          refine (mku64_any till w1 RX.ok.hto).mono ?_
          rintro e w2 ⟨v, rfl, hok, hb2⟩
          exact ⟨_, bA, rA, rc, hC.call (6, 39, CodeM.fx 8 till) (by simp [ak5PM]) hi v hok hb2 (by simp [ak5P]) (by simp [ak5PM]) (by simp [wrows, ak5P, ak5PM, setF]) (by simp [wrows, ak5P, ak5PM, setF]) (by simp) rfl (by rw [hsz0]; exact (by decide : 39 < 91))⟩
        · intro L a w1 hI hi hd
          obtain ⟨F, bA, rA, rc, hC⟩ := hI
          have hp := hC.pif
          have hi : L 7 = false := hi
          have t1 := hp.at_ 1 _ rfl z1
          have t1' := t1
          rw [Array.getD_eq_getD_getElem?] at t1'
          exact rstep_valW (wanted_none rfl _) (.pointer (some ⟨g, 6, none⟩)) w1 (by go_simp) ⟨F, bA, rA, rc, hC.pure 7 40 (.pointer (some ⟨g, 6, none⟩)) (by simp [wrows, ak5P, ak5PM]) (by simp [wrows, ak5P, ak5PM]) (by simp [ak5PM]) (by decide) rfl (by rw [hsz0]; exact (by decide : 40 < 91))⟩
        · intro L a w1 hI hi hd
          obtain ⟨F, bA, rA, rc, hC⟩ := hI
          have hp := hC.pif
          have hi : L 8 = false := hi
          simp [Region.binds] at hd
          have e7 : a.tmps.getD 40 undef = (.pointer (some ⟨g, 6, none⟩)) := hp.pu (7, 40, (.pointer (some ⟨g, 6, none⟩))) (by simp [wrows, ak5P, ak5PM]) (by simp [hd])
          have f7 : a.tmps[40]?.getD undef = (.pointer (some ⟨g, 6, none⟩)) := by rw [← Array.getD_eq_getD_getElem?]; exact e7
          obtain ⟨d0, d1, d2, d3, d4, d5, d6, d7, d8, d9⟩ := (HU3.out.below hC.bel HU3.out.lt).c10
          exact rstep_valW (wanted_none rfl _) (.int .i64 n) w1 (by go_simp) ⟨F, bA, rA, rc, hC.pure 8 41 (.int .i64 n) (by simp [wrows, ak5P, ak5PM]) (by simp [wrows, ak5P, ak5PM]) (by simp [ak5PM]) (by decide) rfl (by rw [hsz0]; exact (by decide : 41 < 91))⟩
        · intro L a w1 hI hi hd
          obtain ⟨F, bA, rA, rc, hC⟩ := hI
          have hp := hC.pif
          have hi : L 9 = false := hi
          simp [Region.binds] at hd
          have e8 : a.tmps.getD 41 undef = (.int .i64 n) := hp.pu (8, 41, (.int .i64 n)) (by simp [wrows, ak5P, ak5PM]) (by simp [hd])
          have f8 : a.tmps[41]?.getD undef = (.int .i64 n) := by rw [← Array.getD_eq_getD_getElem?]; exact e8
          have RX := HSA.out w1 (B3.out.trans (hC.bel.mono (Nat.le_of_lt HU3.out.lt)))
          refine rstep_callW (wanted_none rfl _) 52 #[.int .i64 n] (by go_simp) ?_
          refine (mku8_any n (StmM.b8 n) w1 (StmM.b8_wrap n)).mono ?_
          rintro e w2 ⟨v, rfl, hok, hb2⟩
          exact ⟨_, bA, rA, rc, hC.call (9, 42, [StmM.b8 n]) (by simp [ak5PM]) hi v hok hb2 (by simp [ak5P]) (by simp [ak5PM]) (by simp [wrows, ak5P, ak5PM, setF]) (by simp [wrows, ak5P, ak5PM, setF]) (by simp) rfl (by rw [hsz0]; exact (by decide : 42 < 91))⟩
        · intro L a w1 hI hi hd
          obtain ⟨F, bA, rA, rc, hC⟩ := hI
          have hp := hC.pif
          have hi : L 10 = false := hi
          simp [Region.binds] at hd
          have e3 : a.tmps.getD 36 undef = (F 3) := hp.pu (3, 36, (F 3)) (by simp [wrows, ak5P, ak5PM]) (by simp [hd])
          have f3 : a.tmps[36]?.getD undef = (F 3) := by rw [← Array.getD_eq_getD_getElem?]; exact e3
          have e6 : a.tmps.getD 39 undef = (F 6) := hp.pu (6, 39, (F 6)) (by simp [wrows, ak5P, ak5PM]) (by simp [hd])
          have f6 : a.tmps[39]?.getD undef = (F 6) := by rw [← Array.getD_eq_getD_getElem?]; exact e6
          have e9 : a.tmps.getD 42 undef = (F 9) := hp.pu (9, 42, (F 9)) (by simp [wrows, ak5P, ak5PM]) (by simp [hd])
          have f9 : a.tmps[42]?.getD undef = (F 9) := by rw [← Array.getD_eq_getD_getElem?]; exact e9
          obtain ⟨fn3, cp3, hv3⟩ := (hC.ok (3, 36, CodeM.fx 8 key) (by simp [ak5PM]) (by simp [hd])).form
          rw [hv3] at e3 f3
          obtain ⟨fn6, cp6, hv6⟩ := (hC.ok (6, 39, CodeM.fx 8 till) (by simp [ak5PM]) (by simp [hd])).form
          rw [hv6] at e6 f6
          obtain ⟨fn9, cp9, hv9⟩ := (hC.ok (9, 42, [StmM.b8 n]) (by simp [ak5PM]) (by simp [hd])).form
          rw [hv9] at e9 f9
          exact rstep_valW (wanted_none rfl _) (.slice (some ⟨w1.heap.size, 0, none⟩) 3 3) (w1.alloc (.cells #[F 3, F 6, F 9] 84)) (by rw [hv3, hv6, hv9]; go_simp) ⟨F, _, rA, rc, hC.build hi (by simp [ak5PM, hd]) #[F 3, F 6, F 9] rfl (by simp [wrows, ak5P, ak5PM]) (by simp [wrows, ak5P, ak5PM]) (by decide) (by simp [ak5PM]) rfl (by rw [hsz0]; exact (by decide : 43 < 91))⟩
        · intro L a w1 hI hi hd
          obtain ⟨F, bA, rA, rc, hC⟩ := hI
          have hp := hC.pif
          have hi : L 11 = false := hi
          simp [Region.binds] at hd
          have e0 : a.tmps.getD 33 undef = (.slice (some ⟨gl, 0, none⟩) 1 1) := hp.pu (0, 33, (.slice (some ⟨gl, 0, none⟩) 1 1)) (by simp [wrows, ak5P, ak5PM]) (by simp [hd])
          have f0 : a.tmps[33]?.getD undef = (.slice (some ⟨gl, 0, none⟩) 1 1) := by rw [← Array.getD_eq_getD_getElem?]; exact e0
          have e10 : a.tmps.getD 43 undef = (.slice (some ⟨bA, 0, none⟩) 3 3) := hp.pu (10, 43, (.slice (some ⟨bA, 0, none⟩) 3 3)) (by simp [wrows, ak5P, ak5PM]) (by simp [hd])
          have f10 : a.tmps[43]?.getD undef = (.slice (some ⟨bA, 0, none⟩) 3 3) := by rw [← Array.getD_eq_getD_getElem?]; exact e10
          have hib : L 10 = true := by simp [hd]
          refine step_appF1 w1 rfl (.tmp 33) (.tmp 43) rfl (g + 1) (some ⟨gl, 0, none⟩) [v0] 1 (show a.eval (.tmp 33) = _ from e0) (hC.own hi) (some ⟨bA, 0, none⟩) 3 _ 3 (show a.eval (.tmp 43) = _ from e10) (by simp [ak5PM]) (hC.bld hib) (fun u hu => by obtain ⟨m, hm, rfl⟩ := List.mem_map.1 hu; exact (hC.ok m hm (hC.dbm hib m hm)).one) (by decide) (by decide) (by decide) (Nat.le_trans HU3.out.lt hC.size) ?_
          intro A' c' w2 hO2 hb2
          exact ⟨F, bA, A', c', hC.appd hi hib (by simp [hd]) A' c' hO2 hb2 (by simp [wrows, ak5P, ak5PM]) (by simp [wrows, ak5P, ak5PM]) (by decide) (by simp [ak5PM]) rfl (by rw [hsz0]; exact (by decide : 44 < 91))⟩
        · intro L a w1 hI hi hd
          obtain ⟨F, bA, rA, rc, hC⟩ := hI
          have hp := hC.pif
          have hi : L 12 = false := hi
          simp [Region.binds] at hd
          have e11 : a.tmps.getD 44 undef = (.slice rA 4 rc) := hp.pu (11, 44, (.slice rA 4 rc)) (by simp [wrows, ak5P, ak5PM]) (by simp [hd])
          have f11 : a.tmps[44]?.getD undef = (.slice rA 4 rc) := by rw [← Array.getD_eq_getD_getElem?]; exact e11
          exact rstep_valW (wanted_none rfl _) (.slice rA 4 rc) w1 (by go_simp) ⟨F, bA, rA, rc, hC.fin (by simp [hd]) (by simp [wrows, ak5P, ak5PM]) (by simp [wrows, ak5P, ak5PM]) (by decide) (by simp [ak5PM]) rfl (by rw [hsz0]; exact (by decide : 4 < 91))⟩
      rintro L a W0 ⟨F, bA, rA, rc, hC⟩ hL
      have e12 : a.tmps.getD 4 undef = .slice rA 4 rc := hC.pif.pu (12, 4, _) (by simp [wrows, ak5P, ak5PM]) (hL 12 (by simp))
      have hrow := hC.app (hL 11 (by simp))
      have hw3 := hC.ok (3, 36, CodeM.fx 8 key) (by simp [ak5PM]) (hL 3 (by simp))
      have hw6 := hC.ok (6, 39, CodeM.fx 8 till) (by simp [ak5PM]) (hL 6 (by simp))
      have hw9 := hC.ok (9, 42, [StmM.b8 n]) (by simp [ak5PM]) (hL 9 (by simp))
      have HWS : Hid (WrAll W0 [v0, F 3, F 6, F 9] [[StmM.b8 5], CodeM.fx 8 key, CodeM.fx 8 till, [StmM.b8 n]]) := Lib.hid ⟨HW0.out.below hC.bel, hw3, hw6, hw9, trivial⟩
      have HRW : Hid (Row W0 rA [v0, F 3, F 6, F 9]) := Lib.hid hrow
      have B5 := Lib.hid (B3.out.trans (hC.bel.mono (Nat.le_of_lt HU3.out.lt)))
      clear hrow hw3 hw6 hw9
      have hp := hC.pif
      rw [hp.eq]
      refine of_assigns (P := Try.prog) _ _ _ _ ?_
      rw [ha0.out]
      simp only [asgs, List.map, e12]
      generalize a.tmps.getD 33 undef = u33
      generalize a.tmps.getD 34 undef = u34
      generalize a.tmps.getD 35 undef = u35
      generalize a.tmps.getD 36 undef = u36
      generalize a.tmps.getD 37 undef = u37
      generalize a.tmps.getD 38 undef = u38
      generalize a.tmps.getD 39 undef = u39
      generalize a.tmps.getD 40 undef = u40
      generalize a.tmps.getD 41 undef = u41
      generalize a.tmps.getD 42 undef = u42
      generalize a.tmps.getD 43 undef = u43
      generalize a.tmps.getD 44 undef = u44
      clear hp hL hsz0 hC e12 z4 z1
      clear ha0
      have hf : ([[StmM.b8 5], CodeM.fx 8 key, CodeM.fx 8 till, [StmM.b8 n]] : List (List UInt8)).flatten = StmM.form ⟨5, ⟨ik, vec, note⟩, key, till, n, q, fl, sc⟩ := by simp [StmM.form, StmM.body]
      have HF := Lib.hid hf
      have HALL := Lib.hid (all_any rA 4 rc [v0, F 3, F 6, F 9] [[StmM.b8 5], CodeM.fx 8 key, CodeM.fx 8 till, [StmM.b8 n]] W0 HRW.out rfl rfl (by decide) (wr_all (w := W0) (vs := [v0, F 3, F 6, F 9]) (ms := [[StmM.b8 5], CodeM.fx 8 key, CodeM.fx 8 till, [StmM.b8 n]]) HWS.out) (by rw [hf]; exact Nat.le_trans (StmM.form_small HM.out) (by decide)))
      clear hf
      go_wp2_with fail
      refine HALL.out.mono ?_
      rintro e V9 ⟨A9, n9, c9, rfl, hn9, hO9, hb9⟩
      have HZ : Hid (Hid ((StmM.form ⟨5, ⟨ik, vec, note⟩, key, till, n, q, fl, sc⟩).length = n9) ∧ Own V9 w.heap.size A9 c9 (StmM.form ⟨5, ⟨ik, vec, note⟩, key, till, n, q, fl, sc⟩) ∧ Below w.heap.size w V9) := Lib.hid (by
        rw [HF.out] at hn9 hO9
        rw [HG.out]
        exact ⟨hn9, hO9.base_ (Nat.le_trans (Nat.le_of_eq HG.out.symm) B5.out.size), below_step B5.out hb9 (Nat.le_of_eq HG.out.symm)⟩)
      clear hn9 hO9 hb9 HALL
      go_wp2
      go_ret2
      exact ⟨A9, n9, c9, rfl, HZ.out.1, HZ.out.2.1, HZ.out.2.2⟩
    by_cases k6 : kind = 6
    · subst k6
      as_aux_lemma =>
      have d0 := HU3.out.c10.1
      go_upto_region 13 with fail
      clear d0
      refine wp_named fun a0 ha0 => ?_
      have z4 : a0.tmps.getD 4 undef = (.slice (some ⟨gl, 0, none⟩) 1 1) := by rw [ha0.out]; rfl
      have z1 : a0.tmps.getD 1 undef = (.pointer (some ⟨g, 0, none⟩)) := by rw [ha0.out]; rfl
      have hsz0 : a0.tmps.size = 91 := by rw [ha0.out]; rfl
      refine wp_region_invB _ (by kernel_rfl) (fun L a wv => ∃ F bA rA rc, WI a0 [47, 48, 49, 50, 51, 52, 53, 54, 55, 4] (ak6P g gl ik note A2 c2 key till n q fl sc QA qc FA fc) (ak6PM g gl ik note A2 c2 key till n q fl sc QA qc FA fc) ⟨7, 54, 8, 55, 9, 4, 1⟩ V3.heap.size (g + 1) V3 (some ⟨gl, 0, none⟩) 1 [v0] F bA rA rc L a wv) (by kernel_rfl) ?_ ?_ ?_
      · exact ⟨fun _ => undef, 0, none, 0, WI.start (Nat.le_refl _) ⟨rfl, rfl, rfl, Nat.le_refl _, fun _ _ => rfl⟩ (HO3.out.below ⟨rfl, rfl, rfl, Nat.le_refl _, fun _ _ => rfl⟩)⟩
      rotate_left
      · as_aux_lemma =>
        refine ⟨?_, ?_, ?_, ?_, ?_, ?_, ?_, ?_, ?_, ?_, trivial⟩
        · intro L a w1 hI hi hd
          obtain ⟨F, bA, rA, rc, hC⟩ := hI
          have hp := hC.pif
          have hi : L 0 = false := hi
          have hn4 : L 9 = false := by
            cases q : L 9 with
            | false => rfl
            | true => rw [(hC.dab (hC.d4a q)).2] at hi; cases hi
          have t4 := (hC.st hn4).trans z4
          have t4' := t4
          rw [Array.getD_eq_getD_getElem?] at t4'
          exact rstep_valW (wanted_none rfl _) (.slice (some ⟨gl, 0, none⟩) 1 1) w1 (by go_simp) ⟨F, bA, rA, rc, hC.pure 0 47 (.slice (some ⟨gl, 0, none⟩) 1 1) (by simp [wrows, ak6P, ak6PM]) (by simp [wrows, ak6P, ak6PM]) (by simp [ak6PM]) (by decide) rfl (by rw [hsz0]; exact (by decide : 47 < 91))⟩
        · intro L a w1 hI hi hd
          obtain ⟨F, bA, rA, rc, hC⟩ := hI
          have hp := hC.pif
          have hi : L 1 = false := hi
          have t1 := hp.at_ 1 _ rfl z1
          have t1' := t1
          rw [Array.getD_eq_getD_getElem?] at t1'
          exact rstep_valW (wanted_none rfl _) (.pointer (some ⟨g, 6, none⟩)) w1 (by go_simp) ⟨F, bA, rA, rc, hC.pure 1 48 (.pointer (some ⟨g, 6, none⟩)) (by simp [wrows, ak6P, ak6PM]) (by simp [wrows, ak6P, ak6PM]) (by simp [ak6PM]) (by decide) rfl (by rw [hsz0]; exact (by decide : 48 < 91))⟩
        · intro L a w1 hI hi hd
          obtain ⟨F, bA, rA, rc, hC⟩ := hI
          have hp := hC.pif
          have hi : L 2 = false := hi
          simp [Region.binds] at hd
          have e1 : a.tmps.getD 48 undef = (.pointer (some ⟨g, 6, none⟩)) := hp.pu (1, 48, (.pointer (some ⟨g, 6, none⟩))) (by simp [wrows, ak6P, ak6PM]) (by simp [hd])
          have f1 : a.tmps[48]?.getD undef = (.pointer (some ⟨g, 6, none⟩)) := by rw [← Array.getD_eq_getD_getElem?]; exact e1
          obtain ⟨d0, d1, d2, d3, d4, d5, d6, d7, d8, d9⟩ := (HU3.out.below hC.bel HU3.out.lt).c10
          exact rstep_valW (wanted_none rfl _) (.int .i64 n) w1 (by go_simp) ⟨F, bA, rA, rc, hC.pure 2 49 (.int .i64 n) (by simp [wrows, ak6P, ak6PM]) (by simp [wrows, ak6P, ak6PM]) (by simp [ak6PM]) (by decide) rfl (by rw [hsz0]; exact (by decide : 49 < 91))⟩
        · intro L a w1 hI hi hd
          obtain ⟨F, bA, rA, rc, hC⟩ := hI
          have hp := hC.pif
          have hi : L 3 = false := hi
          simp [Region.binds] at hd
          have e2 : a.tmps.getD 49 undef = (.int .i64 n) := hp.pu (2, 49, (.int .i64 n)) (by simp [wrows, ak6P, ak6PM]) (by simp [hd])
          have f2 : a.tmps[49]?.getD undef = (.int .i64 n) := by rw [← Array.getD_eq_getD_getElem?]; exact e2
          have RX := HSA.out w1 (B3.out.trans (hC.bel.mono (Nat.le_of_lt HU3.out.lt)))
          refine rstep_callW (wanted_none rfl _) 52 #[.int .i64 n] (by go_simp) ?_
          refine (mku8_any n (StmM.b8 n) w1 (StmM.b8_wrap n)).mono ?_
          rintro e w2 ⟨v, rfl, hok, hb2⟩
          exact ⟨_, bA, rA, rc, hC.call (3, 50, [StmM.b8 n]) (by simp [ak6PM]) hi v hok hb2 (by simp [ak6P]) (by simp [ak6PM]) (by simp [wrows, ak6P, ak6PM, setF]) (by simp [wrows, ak6P, ak6PM, setF]) (by simp) rfl (by rw [hsz0]; exact (by decide : 50 < 91))⟩
        · intro L a w1 hI hi hd
          obtain ⟨F, bA, rA, rc, hC⟩ := hI
          have hp := hC.pif
          have hi : L 4 = false := hi
          have t1 := hp.at_ 1 _ rfl z1
          have t1' := t1
          rw [Array.getD_eq_getD_getElem?] at t1'
          exact rstep_valW (wanted_none rfl _) (.pointer (some ⟨g, 7, none⟩)) w1 (by go_simp) ⟨F, bA, rA, rc, hC.pure 4 51 (.pointer (some ⟨g, 7, none⟩)) (by simp [wrows, ak6P, ak6PM]) (by simp [wrows, ak6P, ak6PM]) (by simp [ak6PM]) (by decide) rfl (by rw [hsz0]; exact (by decide : 51 < 91))⟩
        · intro L a w1 hI hi hd
          obtain ⟨F, bA, rA, rc, hC⟩ := hI
          have hp := hC.pif
          have hi : L 5 = false := hi
          simp [Region.binds] at hd
          have e4 : a.tmps.getD 51 undef = (.pointer (some ⟨g, 7, none⟩)) := hp.pu (4, 51, (.pointer (some ⟨g, 7, none⟩))) (by simp [wrows, ak6P, ak6PM]) (by simp [hd])
          have f4 : a.tmps[51]?.getD undef = (.pointer (some ⟨g, 7, none⟩)) := by rw [← Array.getD_eq_getD_getElem?]; exact e4
          obtain ⟨d0, d1, d2, d3, d4, d5, d6, d7, d8, d9⟩ := (HU3.out.below hC.bel HU3.out.lt).c10
          exact rstep_valW (wanted_none rfl _) (.slice QA q.length qc) w1 (by go_simp) ⟨F, bA, rA, rc, hC.pure 5 52 (.slice QA q.length qc) (by simp [wrows, ak6P, ak6PM]) (by simp [wrows, ak6P, ak6PM]) (by simp [ak6PM]) (by decide) rfl (by rw [hsz0]; exact (by decide : 52 < 91))⟩
        · intro L a w1 hI hi hd
          obtain ⟨F, bA, rA, rc, hC⟩ := hI
          have hp := hC.pif
          have hi : L 6 = false := hi
          simp [Region.binds] at hd
          have e5 : a.tmps.getD 52 undef = (.slice QA q.length qc) := hp.pu (5, 52, (.slice QA q.length qc)) (by simp [wrows, ak6P, ak6PM]) (by simp [hd])
          have f5 : a.tmps[52]?.getD undef = (.slice QA q.length qc) := by rw [← Array.getD_eq_getD_getElem?]; exact e5
          have RX := HSA.out w1 (B3.out.trans (hC.bel.mono (Nat.le_of_lt HU3.out.lt)))
          refine rstep_callW (wanted_none rfl _) 55 #[.slice QA q.length qc] (by go_simp) ?_
          refine (mknum_any q QA q.length qc w1 RX.r3 rfl (by have := HLN.out.2.2.1; omega) RX.ok.hq).mono ?_
          rintro e w2 ⟨v, rfl, hok, hb2⟩
          exact ⟨_, bA, rA, rc, hC.call (6, 53, CodeM.uv q.length ++ ItemM.vb q) (by simp [ak6PM]) hi v hok hb2 (by simp [ak6P]) (by simp [ak6PM]) (by simp [wrows, ak6P, ak6PM, setF]) (by simp [wrows, ak6P, ak6PM, setF]) (by simp) rfl (by rw [hsz0]; exact (by decide : 53 < 91))⟩
        · intro L a w1 hI hi hd
          obtain ⟨F, bA, rA, rc, hC⟩ := hI
          have hp := hC.pif
          have hi : L 7 = false := hi
          simp [Region.binds] at hd
          have e3 : a.tmps.getD 50 undef = (F 3) := hp.pu (3, 50, (F 3)) (by simp [wrows, ak6P, ak6PM]) (by simp [hd])
          have f3 : a.tmps[50]?.getD undef = (F 3) := by rw [← Array.getD_eq_getD_getElem?]; exact e3
          have e6 : a.tmps.getD 53 undef = (F 6) := hp.pu (6, 53, (F 6)) (by simp [wrows, ak6P, ak6PM]) (by simp [hd])
          have f6 : a.tmps[53]?.getD undef = (F 6) := by rw [← Array.getD_eq_getD_getElem?]; exact e6
          obtain ⟨fn3, cp3, hv3⟩ := (hC.ok (3, 50, [StmM.b8 n]) (by simp [ak6PM]) (by simp [hd])).form
          rw [hv3] at e3 f3
          obtain ⟨fn6, cp6, hv6⟩ := (hC.ok (6, 53, CodeM.uv q.length ++ ItemM.vb q) (by simp [ak6PM]) (by simp [hd])).form
          rw [hv6] at e6 f6
          exact rstep_valW (wanted_none rfl _) (.slice (some ⟨w1.heap.size, 0, none⟩) 2 2) (w1.alloc (.cells #[F 3, F 6] 84)) (by rw [hv3, hv6]; go_simp) ⟨F, _, rA, rc, hC.build hi (by simp [ak6PM, hd]) #[F 3, F 6] rfl (by simp [wrows, ak6P, ak6PM]) (by simp [wrows, ak6P, ak6PM]) (by decide) (by simp [ak6PM]) rfl (by rw [hsz0]; exact (by decide : 54 < 91))⟩
        · intro L a w1 hI hi hd
          obtain ⟨F, bA, rA, rc, hC⟩ := hI
          have hp := hC.pif
          have hi : L 8 = false := hi
          simp [Region.binds] at hd
          have e0 : a.tmps.getD 47 undef = (.slice (some ⟨gl, 0, none⟩) 1 1) := hp.pu (0, 47, (.slice (some ⟨gl, 0, none⟩) 1 1)) (by simp [wrows, ak6P, ak6PM]) (by simp [hd])
          have f0 : a.tmps[47]?.getD undef = (.slice (some ⟨gl, 0, none⟩) 1 1) := by rw [← Array.getD_eq_getD_getElem?]; exact e0
          have e7 : a.tmps.getD 54 undef = (.slice (some ⟨bA, 0, none⟩) 2 2) := hp.pu (7, 54, (.slice (some ⟨bA, 0, none⟩) 2 2)) (by simp [wrows, ak6P, ak6PM]) (by simp [hd])
          have f7 : a.tmps[54]?.getD undef = (.slice (some ⟨bA, 0, none⟩) 2 2) := by rw [← Array.getD_eq_getD_getElem?]; exact e7
          have hib : L 7 = true := by simp [hd]
          refine step_appF1 w1 rfl (.tmp 47) (.tmp 54) rfl (g + 1) (some ⟨gl, 0, none⟩) [v0] 1 (show a.eval (.tmp 47) = _ from e0) (hC.own hi) (some ⟨bA, 0, none⟩) 2 _ 2 (show a.eval (.tmp 54) = _ from e7) (by simp [ak6PM]) (hC.bld hib) (fun u hu => by obtain ⟨m, hm, rfl⟩ := List.mem_map.1 hu; exact (hC.ok m hm (hC.dbm hib m hm)).one) (by decide) (by decide) (by decide) (Nat.le_trans HU3.out.lt hC.size) ?_
          intro A' c' w2 hO2 hb2
          exact ⟨F, bA, A', c', hC.appd hi hib (by simp [hd]) A' c' hO2 hb2 (by simp [wrows, ak6P, ak6PM]) (by simp [wrows, ak6P, ak6PM]) (by decide) (by simp [ak6PM]) rfl (by rw [hsz0]; exact (by decide : 55 < 91))⟩
        · intro L a w1 hI hi hd
          obtain ⟨F, bA, rA, rc, hC⟩ := hI
          have hp := hC.pif
          have hi : L 9 = false := hi
          simp [Region.binds] at hd
          have e8 : a.tmps.getD 55 undef = (.slice rA 3 rc) := hp.pu (8, 55, (.slice rA 3 rc)) (by simp [wrows, ak6P, ak6PM]) (by simp [hd])
          have f8 : a.tmps[55]?.getD undef = (.slice rA 3 rc) := by rw [← Array.getD_eq_getD_getElem?]; exact e8
          exact rstep_valW (wanted_none rfl _) (.slice rA 3 rc) w1 (by go_simp) ⟨F, bA, rA, rc, hC.fin (by simp [hd]) (by simp [wrows, ak6P, ak6PM]) (by simp [wrows, ak6P, ak6PM]) (by decide) (by simp [ak6PM]) rfl (by rw [hsz0]; exact (by decide : 4 < 91))⟩
      rintro L a W0 ⟨F, bA, rA, rc, hC⟩ hL
      have e9 : a.tmps.getD 4 undef = .slice rA 3 rc := hC.pif.pu (9, 4, _) (by simp [wrows, ak6P, ak6PM]) (hL 9 (by simp))
      have hrow := hC.app (hL 8 (by simp))
      have hw3 := hC.ok (3, 50, [StmM.b8 n]) (by simp [ak6PM]) (hL 3 (by simp))
      have hw6 := hC.ok (6, 53, CodeM.uv q.length ++ ItemM.vb q) (by simp [ak6PM]) (hL 6 (by simp))
      have HWS : Hid (WrAll W0 [v0, F 3, F 6] [[StmM.b8 6], [StmM.b8 n], CodeM.uv q.length ++ ItemM.vb q]) := Lib.hid ⟨HW0.out.below hC.bel, hw3, hw6, trivial⟩
      have HRW : Hid (Row W0 rA [v0, F 3, F 6]) := Lib.hid hrow
      have B5 := Lib.hid (B3.out.trans (hC.bel.mono (Nat.le_of_lt HU3.out.lt)))
      clear hrow hw3 hw6
      have hp := hC.pif
      rw [hp.eq]
      refine of_assigns (P := Try.prog) _ _ _ _ ?_
      rw [ha0.out]
      simp only [asgs, List.map, e9]
      generalize a.tmps.getD 47 undef = u47
      generalize a.tmps.getD 48 undef = u48
      generalize a.tmps.getD 49 undef = u49
      generalize a.tmps.getD 50 undef = u50
      generalize a.tmps.getD 51 undef = u51
      generalize a.tmps.getD 52 undef = u52
      generalize a.tmps.getD 53 undef = u53
      generalize a.tmps.getD 54 undef = u54
      generalize a.tmps.getD 55 undef = u55
      clear hp hL hsz0 hC e9 z4 z1
      clear ha0
      have hf : ([[StmM.b8 6], [StmM.b8 n], CodeM.uv q.length ++ ItemM.vb q] : List (List UInt8)).flatten = StmM.form ⟨6, ⟨ik, vec, note⟩, key, till, n, q, fl, sc⟩ := by simp [StmM.form, StmM.body]
      have HF := Lib.hid hf
      have HALL := Lib.hid (all_any rA 3 rc [v0, F 3, F 6] [[StmM.b8 6], [StmM.b8 n], CodeM.uv q.length ++ ItemM.vb q] W0 HRW.out rfl rfl (by decide) (wr_all (w := W0) (vs := [v0, F 3, F 6]) (ms := [[StmM.b8 6], [StmM.b8 n], CodeM.uv q.length ++ ItemM.vb q]) HWS.out) (by rw [hf]; exact Nat.le_trans (StmM.form_small HM.out) (by decide)))
      clear hf
      go_wp2_with fail
      refine HALL.out.mono ?_
      rintro e V9 ⟨A9, n9, c9, rfl, hn9, hO9, hb9⟩
      have HZ : Hid (Hid ((StmM.form ⟨6, ⟨ik, vec, note⟩, key, till, n, q, fl, sc⟩).length = n9) ∧ Own V9 w.heap.size A9 c9 (StmM.form ⟨6, ⟨ik, vec, note⟩, key, till, n, q, fl, sc⟩) ∧ Below w.heap.size w V9) := Lib.hid (by
        rw [HF.out] at hn9 hO9
        rw [HG.out]
        exact ⟨hn9, hO9.base_ (Nat.le_trans (Nat.le_of_eq HG.out.symm) B5.out.size), below_step B5.out hb9 (Nat.le_of_eq HG.out.symm)⟩)
      clear hn9 hO9 hb9 HALL
      go_wp2
      go_ret2
      exact ⟨A9, n9, c9, rfl, HZ.out.1, HZ.out.2.1, HZ.out.2.2⟩
    by_cases k7 : kind = 7
    · subst k7
      as_aux_lemma =>
      have d0 := HU3.out.c10.1
      have hf : ([[StmM.b8 7]] : List (List UInt8)).flatten = StmM.form ⟨7, ⟨ik, vec, note⟩, key, till, n, q, fl, sc⟩ := by simp [StmM.form, StmM.body]
      have HF := Lib.hid hf
      have HALL := Lib.hid (all_any (some ⟨gl, 0, none⟩) 1 1 [v0] [[StmM.b8 7]] V3 HO3.out.row rfl rfl (by decide) (wr_all (w := V3) (vs := [v0]) (ms := [[StmM.b8 7]]) ⟨HW0.out, trivial⟩) (by rw [hf]; exact Nat.le_trans (StmM.form_small HM.out) (by decide)))
      clear hf
      go_wp2_with fail
      refine HALL.out.mono ?_
      rintro e V9 ⟨A9, n9, c9, rfl, hn9, hO9, hb9⟩
      have HZ : Hid (Hid ((StmM.form ⟨7, ⟨ik, vec, note⟩, key, till, n, q, fl, sc⟩).length = n9) ∧ Own V9 w.heap.size A9 c9 (StmM.form ⟨7, ⟨ik, vec, note⟩, key, till, n, q, fl, sc⟩) ∧ Below w.heap.size w V9) := Lib.hid (by
        rw [HF.out] at hn9 hO9
        rw [HG.out]
        exact ⟨hn9, hO9.base_ (Nat.le_trans (Nat.le_of_eq HG.out.symm) B3.out.size), below_step B3.out hb9 (Nat.le_of_eq HG.out.symm)⟩)
      clear hn9 hO9 hb9 HALL
      go_wp2
      go_ret2
      exact ⟨A9, n9, c9, rfl, HZ.out.1, HZ.out.2.1, HZ.out.2.2⟩
    by_cases k8 : kind = 8
    · subst k8
      as_aux_lemma =>
      have d0 := HU3.out.c10.1
      have hf : ([[StmM.b8 8]] : List (List UInt8)).flatten = StmM.form ⟨8, ⟨ik, vec, note⟩, key, till, n, q, fl, sc⟩ := by simp [StmM.form, StmM.body]
      have HF := Lib.hid hf
      have HALL := Lib.hid (all_any (some ⟨gl, 0, none⟩) 1 1 [v0] [[StmM.b8 8]] V3 HO3.out.row rfl rfl (by decide) (wr_all (w := V3) (vs := [v0]) (ms := [[StmM.b8 8]]) ⟨HW0.out, trivial⟩) (by rw [hf]; exact Nat.le_trans (StmM.form_small HM.out) (by decide)))
      clear hf
      go_wp2_with fail
      refine HALL.out.mono ?_
      rintro e V9 ⟨A9, n9, c9, rfl, hn9, hO9, hb9⟩
      have HZ : Hid (Hid ((StmM.form ⟨8, ⟨ik, vec, note⟩, key, till, n, q, fl, sc⟩).length = n9) ∧ Own V9 w.heap.size A9 c9 (StmM.form ⟨8, ⟨ik, vec, note⟩, key, till, n, q, fl, sc⟩) ∧ Below w.heap.size w V9) := Lib.hid (by
        rw [HF.out] at hn9 hO9
        rw [HG.out]
        exact ⟨hn9, hO9.base_ (Nat.le_trans (Nat.le_of_eq HG.out.symm) B3.out.size), below_step B3.out hb9 (Nat.le_of_eq HG.out.symm)⟩)
      clear hn9 hO9 hb9 HALL
      go_wp2
      go_ret2
      exact ⟨A9, n9, c9, rfl, HZ.out.1, HZ.out.2.1, HZ.out.2.2⟩
    by_cases k9 : kind = 9
    · subst k9
      as_aux_lemma =>
      have d0 := HU3.out.c10.1
      have hf : ([[StmM.b8 9]] : List (List UInt8)).flatten = StmM.form ⟨9, ⟨ik, vec, note⟩, key, till, n, q, fl, sc⟩ := by simp [StmM.form, StmM.body]
      have HF := Lib.hid hf
      have HALL := Lib.hid (all_any (some ⟨gl, 0, none⟩) 1 1 [v0] [[StmM.b8 9]] V3 HO3.out.row rfl rfl (by decide) (wr_all (w := V3) (vs := [v0]) (ms := [[StmM.b8 9]]) ⟨HW0.out, trivial⟩) (by rw [hf]; exact Nat.le_trans (StmM.form_small HM.out) (by decide)))
      clear hf
      go_wp2_with fail
      refine HALL.out.mono ?_
      rintro e V9 ⟨A9, n9, c9, rfl, hn9, hO9, hb9⟩
      have HZ : Hid (Hid ((StmM.form ⟨9, ⟨ik, vec, note⟩, key, till, n, q, fl, sc⟩).length = n9) ∧ Own V9 w.heap.size A9 c9 (StmM.form ⟨9, ⟨ik, vec, note⟩, key, till, n, q, fl, sc⟩) ∧ Below w.heap.size w V9) := Lib.hid (by
        rw [HF.out] at hn9 hO9
        rw [HG.out]
        exact ⟨hn9, hO9.base_ (Nat.le_trans (Nat.le_of_eq HG.out.symm) B3.out.size), below_step B3.out hb9 (Nat.le_of_eq HG.out.symm)⟩)
      clear hn9 hO9 hb9 HALL
      go_wp2
      go_ret2
      exact ⟨A9, n9, c9, rfl, HZ.out.1, HZ.out.2.1, HZ.out.2.2⟩
    by_cases k10 : kind = 10
    · subst k10
      as_aux_lemma =>
      have d0 := HU3.out.c10.1
      go_upto_region 15 with fail
      clear d0
      refine wp_named fun a0 ha0 => ?_
      have z4 : a0.tmps.getD 4 undef = (.slice (some ⟨gl, 0, none⟩) 1 1) := by rw [ha0.out]; rfl
      have z1 : a0.tmps.getD 1 undef = (.pointer (some ⟨g, 0, none⟩)) := by rw [ha0.out]; rfl
      have hsz0 : a0.tmps.size = 91 := by rw [ha0.out]; rfl
      refine wp_region_invB _ (by kernel_rfl) (fun L a wv => ∃ F bA rA rc, WI a0 [58, 59, 60, 61, 62, 63, 64, 65, 66, 67, 68, 69, 70, 71, 72, 73, 74, 4] (ak10P g gl ik note A2 c2 key till n q fl sc QA qc FA fc) (ak10PM g gl ik note A2 c2 key till n q fl sc QA qc FA fc) ⟨15, 73, 16, 74, 17, 4, 1⟩ V3.heap.size (g + 1) V3 (some ⟨gl, 0, none⟩) 1 [v0] F bA rA rc L a wv) (by kernel_rfl) ?_ ?_ ?_
      · exact ⟨fun _ => undef, 0, none, 0, WI.start (Nat.le_refl _) ⟨rfl, rfl, rfl, Nat.le_refl _, fun _ _ => rfl⟩ (HO3.out.below ⟨rfl, rfl, rfl, Nat.le_refl _, fun _ _ => rfl⟩)⟩
      rotate_left
      · as_aux_lemma =>
        refine ⟨?_, ?_, ?_, ?_, ?_, ?_, ?_, ?_, ?_, ?_, ?_, ?_, ?_, ?_, ?_, ?_, ?_, ?_, trivial⟩
        · intro L a w1 hI hi hd
          obtain ⟨F, bA, rA, rc, hC⟩ := hI
          have hp := hC.pif
          have hi : L 0 = false := hi
          have hn4 : L 17 = false := by
            cases q : L 17 with
            | false => rfl
            | true => rw [(hC.dab (hC.d4a q)).2] at hi; cases hi
          have t4 := (hC.st hn4).trans z4
          have t4' := t4
          rw [Array.getD_eq_getD_getElem?] at t4'
          exact rstep_valW (wanted_none rfl _) (.slice (some ⟨gl, 0, none⟩) 1 1) w1 (by go_simp) ⟨F, bA, rA, rc, hC.pure 0 58 (.slice (some ⟨gl, 0, none⟩) 1 1) (by simp [wrows, ak10P, ak10PM]) (by simp [wrows, ak10P, ak10PM]) (by simp [ak10PM]) (by decide) rfl (by rw [hsz0]; exact (by decide : 58 < 91))⟩
        · intro L a w1 hI hi hd
          obtain ⟨F, bA, rA, rc, hC⟩ := hI
          have hp := hC.pif
          have hi : L 1 = false := hi
          have t1 := hp.at_ 1 _ rfl z1
          have t1' := t1
          rw [Array.getD_eq_getD_getElem?] at t1'
          exact rstep_valW (wanted_none rfl _) (.pointer (some ⟨g, 1, none⟩)) w1 (by go_simp) ⟨F, bA, rA, rc, hC.pure 1 59 (.pointer (some ⟨g, 1, none⟩)) (by simp [wrows, ak10P, ak10PM]) (by simp [wrows, ak10P, ak10PM]) (by simp [ak10PM]) (by decide) rfl (by rw [hsz0]; exact (by decide : 59 < 91))⟩
        · intro L a w1 hI hi hd
          obtain ⟨F, bA, rA, rc, hC⟩ := hI
          have hp := hC.pif
          have hi : L 2 = false := hi
          simp [Region.binds] at hd
          have e1 : a.tmps.getD 59 undef = (.pointer (some ⟨g, 1, none⟩)) := hp.pu (1, 59, (.pointer (some ⟨g, 1, none⟩))) (by simp [wrows, ak10P, ak10PM]) (by simp [hd])
          have f1 : a.tmps[59]?.getD undef = (.pointer (some ⟨g, 1, none⟩)) := by rw [← Array.getD_eq_getD_getElem?]; exact e1
          exact rstep_valW (wanted_none rfl _) (.pointer (some ⟨g, 1, none⟩)) w1 (by go_simp) ⟨F, bA, rA, rc, hC.pure 2 60 (.pointer (some ⟨g, 1, none⟩)) (by simp [wrows, ak10P, ak10PM]) (by simp [wrows, ak10P, ak10PM]) (by simp [ak10PM]) (by decide) rfl (by rw [hsz0]; exact (by decide : 60 < 91))⟩
        · intro L a w1 hI hi hd
          obtain ⟨F, bA, rA, rc, hC⟩ := hI
          have hp := hC.pif
          have hi : L 3 = false := hi
          simp [Region.binds] at hd
          have e2 : a.tmps.getD 60 undef = (.pointer (some ⟨g, 1, none⟩)) := hp.pu (2, 60, (.pointer (some ⟨g, 1, none⟩))) (by simp [wrows, ak10P, ak10PM]) (by simp [hd])
          have f2 : a.tmps[60]?.getD undef = (.pointer (some ⟨g, 1, none⟩)) := by rw [← Array.getD_eq_getD_getElem?]; exact e2
          obtain ⟨d0, d1, d2, d3, d4, d5, d6, d7, d8, d9⟩ := (HU3.out.below hC.bel HU3.out.lt).c10
          exact rstep_valW (wanted_none rfl _) (.int .u64 (ik : Int)) w1 (by go_simp) ⟨F, bA, rA, rc, hC.pure 3 61 (.int .u64 (ik : Int)) (by simp [wrows, ak10P, ak10PM]) (by simp [wrows, ak10P, ak10PM]) (by simp [ak10PM]) (by decide) rfl (by rw [hsz0]; exact (by decide : 61 < 91))⟩
        · intro L a w1 hI hi hd
          obtain ⟨F, bA, rA, rc, hC⟩ := hI
          have hp := hC.pif
          have hi : L 4 = false := hi
          simp [Region.binds] at hd
          have e3 : a.tmps.getD 61 undef = (.int .u64 (ik : Int)) := hp.pu (3, 61, (.int .u64 (ik : Int))) (by simp [wrows, ak10P, ak10PM]) (by simp [hd])
          have f3 : a.tmps[61]?.getD undef = (.int .u64 (ik : Int)) := by rw [← Array.getD_eq_getD_getElem?]; exact e3
          have RX := HSA.out w1 (B3.out.trans (hC.bel.mono (Nat.le_of_lt HU3.out.lt)))
          refine rstep_callW (wanted_none rfl _) 54 #[.int .u64 (ik : Int)] (by go_simp) ?_
          refine (mku64_any ik w1 RX.ok.hit.hk).mono ?_
          rintro e w2 ⟨v, rfl, hok, hb2⟩
          exact ⟨_, bA, rA, rc, hC.call (4, 62, CodeM.fx 8 ik) (by simp [ak10PM]) hi v hok hb2 (by simp [ak10P]) (by simp [ak10PM]) (by simp [wrows, ak10P, ak10PM, setF]) (by simp [wrows, ak10P, ak10PM, setF]) (by simp) rfl (by rw [hsz0]; exact (by decide : 62 < 91))⟩
        · intro L a w1 hI hi hd
          obtain ⟨F, bA, rA, rc, hC⟩ := hI
          have hp := hC.pif
          have hi : L 5 = false := hi
          have t1 := hp.at_ 1 _ rfl z1
          have t1' := t1
          rw [Array.getD_eq_getD_getElem?] at t1'
          exact rstep_valW (wanted_none rfl _) (.pointer (some ⟨g, 9, none⟩)) w1 (by go_simp) ⟨F, bA, rA, rc, hC.pure 5 63 (.pointer (some ⟨g, 9, none⟩)) (by simp [wrows, ak10P, ak10PM]) (by simp [wrows, ak10P, ak10PM]) (by simp [ak10PM]) (by decide) rfl (by rw [hsz0]; exact (by decide : 63 < 91))⟩
        · intro L a w1 hI hi hd
          obtain ⟨F, bA, rA, rc, hC⟩ := hI
          have hp := hC.pif
          have hi : L 6 = false := hi
          simp [Region.binds] at hd
          have e5 : a.tmps.getD 63 undef = (.pointer (some ⟨g, 9, none⟩)) := hp.pu (5, 63, (.pointer (some ⟨g, 9, none⟩))) (by simp [wrows, ak10P, ak10PM]) (by simp [hd])
          have f5 : a.tmps[63]?.getD undef = (.pointer (some ⟨g, 9, none⟩)) := by rw [← Array.getD_eq_getD_getElem?]; exact e5
          obtain ⟨d0, d1, d2, d3, d4, d5, d6, d7, d8, d9⟩ := (HU3.out.below hC.bel HU3.out.lt).c10
          exact rstep_valW (wanted_none rfl _) (.int .i64 sc) w1 (by go_simp) ⟨F, bA, rA, rc, hC.pure 6 64 (.int .i64 sc) (by simp [wrows, ak10P, ak10PM]) (by simp [wrows, ak10P, ak10PM]) (by simp [ak10PM]) (by decide) rfl (by rw [hsz0]; exact (by decide : 64 < 91))⟩
        · intro L a w1 hI hi hd
          obtain ⟨F, bA, rA, rc, hC⟩ := hI
          have hp := hC.pif
          have hi : L 7 = false := hi
          simp [Region.binds] at hd
          have e6 : a.tmps.getD 64 undef = (.int .i64 sc) := hp.pu (6, 64, (.int .i64 sc)) (by simp [wrows, ak10P, ak10PM]) (by simp [hd])
          have f6 : a.tmps[64]?.getD undef = (.int .i64 sc) := by rw [← Array.getD_eq_getD_getElem?]; exact e6
          have RX := HSA.out w1 (B3.out.trans (hC.bel.mono (Nat.le_of_lt HU3.out.lt)))
          refine rstep_callW (wanted_none rfl _) 52 #[.int .i64 sc] (by go_simp) ?_
          refine (mku8_any sc (StmM.b8 sc) w1 (StmM.b8_wrap sc)).mono ?_
          rintro e w2 ⟨v, rfl, hok, hb2⟩
          exact ⟨_, bA, rA, rc, hC.call (7, 65, [StmM.b8 sc]) (by simp [ak10PM]) hi v hok hb2 (by simp [ak10P]) (by simp [ak10PM]) (by simp [wrows, ak10P, ak10PM, setF]) (by simp [wrows, ak10P, ak10PM, setF]) (by simp) rfl (by rw [hsz0]; exact (by decide : 65 < 91))⟩
        · intro L a w1 hI hi hd
          obtain ⟨F, bA, rA, rc, hC⟩ := hI
          have hp := hC.pif
          have hi : L 8 = false := hi
          have t1 := hp.at_ 1 _ rfl z1
          have t1' := t1
          rw [Array.getD_eq_getD_getElem?] at t1'
          exact rstep_valW (wanted_none rfl _) (.pointer (some ⟨g, 8, none⟩)) w1 (by go_simp) ⟨F, bA, rA, rc, hC.pure 8 66 (.pointer (some ⟨g, 8, none⟩)) (by simp [wrows, ak10P, ak10PM]) (by simp [wrows, ak10P, ak10PM]) (by simp [ak10PM]) (by decide) rfl (by rw [hsz0]; exact (by decide : 66 < 91))⟩
        · intro L a w1 hI hi hd
          obtain ⟨F, bA, rA, rc, hC⟩ := hI
          have hp := hC.pif
          have hi : L 9 = false := hi
          simp [Region.binds] at hd
          have e8 : a.tmps.getD 66 undef = (.pointer (some ⟨g, 8, none⟩)) := hp.pu (8, 66, (.pointer (some ⟨g, 8, none⟩))) (by simp [wrows, ak10P, ak10PM]) (by simp [hd])
          have f8 : a.tmps[66]?.getD undef = (.pointer (some ⟨g, 8, none⟩)) := by rw [← Array.getD_eq_getD_getElem?]; exact e8
          obtain ⟨d0, d1, d2, d3, d4, d5, d6, d7, d8, d9⟩ := (HU3.out.below hC.bel HU3.out.lt).c10
          exact rstep_valW (wanted_none rfl _) (.slice FA fl.length fc) w1 (by go_simp) ⟨F, bA, rA, rc, hC.pure 9 67 (.slice FA fl.length fc) (by simp [wrows, ak10P, ak10PM]) (by simp [wrows, ak10P, ak10PM]) (by simp [ak10PM]) (by decide) rfl (by rw [hsz0]; exact (by decide : 67 < 91))⟩
        · intro L a w1 hI hi hd
          obtain ⟨F, bA, rA, rc, hC⟩ := hI
          have hp := hC.pif
          have hi : L 10 = false := hi
          simp [Region.binds] at hd
          have e9 : a.tmps.getD 67 undef = (.slice FA fl.length fc) := hp.pu (9, 67, (.slice FA fl.length fc)) (by simp [wrows, ak10P, ak10PM]) (by simp [hd])
          have f9 : a.tmps[67]?.getD undef = (.slice FA fl.length fc) := by rw [← Array.getD_eq_getD_getElem?]; exact e9
          have RX := HSA.out w1 (B3.out.trans (hC.bel.mono (Nat.le_of_lt HU3.out.lt)))
          refine rstep_callW (wanted_none rfl _) 56 #[.slice FA fl.length fc] (by go_simp) ?_
          refine (mkflt_any fl FA fl.length fc w1 RX.r4 rfl (by have := HLN.out.2.2.2; omega) RX.ok.hfl).mono ?_
          rintro e w2 ⟨v, rfl, hok, hb2⟩
          exact ⟨_, bA, rA, rc, hC.call (10, 68, CodeM.uv fl.length ++ fb fl) (by simp [ak10PM]) hi v hok hb2 (by simp [ak10P]) (by simp [ak10PM]) (by simp [wrows, ak10P, ak10PM, setF]) (by simp [wrows, ak10P, ak10PM, setF]) (by simp) rfl (by rw [hsz0]; exact (by decide : 68 < 91))⟩
        · intro L a w1 hI hi hd
          obtain ⟨F, bA, rA, rc, hC⟩ := hI
          have hp := hC.pif
          have hi : L 11 = false := hi
          have t1 := hp.at_ 1 _ rfl z1
          have t1' := t1
          rw [Array.getD_eq_getD_getElem?] at t1'
          exact rstep_valW (wanted_none rfl _) (.pointer (some ⟨g, 1, none⟩)) w1 (by go_simp) ⟨F, bA, rA, rc, hC.pure 11 69 (.pointer (some ⟨g, 1, none⟩)) (by simp [wrows, ak10P, ak10PM]) (by simp [wrows, ak10P, ak10PM]) (by simp [ak10PM]) (by decide) rfl (by rw [hsz0]; exact (by decide : 69 < 91))⟩
        · intro L a w1 hI hi hd
          obtain ⟨F, bA, rA, rc, hC⟩ := hI
          have hp := hC.pif
          have hi : L 12 = false := hi
          simp [Region.binds] at hd
          have e11 : a.tmps.getD 69 undef = (.pointer (some ⟨g, 1, none⟩)) := hp.pu (11, 69, (.pointer (some ⟨g, 1, none⟩))) (by simp [wrows, ak10P, ak10PM]) (by simp [hd])
          have f11 : a.tmps[69]?.getD undef = (.pointer (some ⟨g, 1, none⟩)) := by rw [← Array.getD_eq_getD_getElem?]; exact e11
          exact rstep_valW (wanted_none rfl _) (.pointer (some ⟨g, 3, none⟩)) w1 (by go_simp) ⟨F, bA, rA, rc, hC.pure 12 70 (.pointer (some ⟨g, 3, none⟩)) (by simp [wrows, ak10P, ak10PM]) (by simp [wrows, ak10P, ak10PM]) (by simp [ak10PM]) (by decide) rfl (by rw [hsz0]; exact (by decide : 70 < 91))⟩
        · intro L a w1 hI hi hd
          obtain ⟨F, bA, rA, rc, hC⟩ := hI
          have hp := hC.pif
          have hi : L 13 = false := hi
          simp [Region.binds] at hd
          have e12 : a.tmps.getD 70 undef = (.pointer (some ⟨g, 3, none⟩)) := hp.pu (12, 70, (.pointer (some ⟨g, 3, none⟩))) (by simp [wrows, ak10P, ak10PM]) (by simp [hd])
          have f12 : a.tmps[70]?.getD undef = (.pointer (some ⟨g, 3, none⟩)) := by rw [← Array.getD_eq_getD_getElem?]; exact e12
          obtain ⟨d0, d1, d2, d3, d4, d5, d6, d7, d8, d9⟩ := (HU3.out.below hC.bel HU3.out.lt).c10
          exact rstep_valW (wanted_none rfl _) (.slice A2 note.length c2) w1 (by go_simp) ⟨F, bA, rA, rc, hC.pure 13 71 (.slice A2 note.length c2) (by simp [wrows, ak10P, ak10PM]) (by simp [wrows, ak10P, ak10PM]) (by simp [ak10PM]) (by decide) rfl (by rw [hsz0]; exact (by decide : 71 < 91))⟩
        · intro L a w1 hI hi hd
          obtain ⟨F, bA, rA, rc, hC⟩ := hI
          have hp := hC.pif
          have hi : L 14 = false := hi
          simp [Region.binds] at hd
          have e13 : a.tmps.getD 71 undef = (.slice A2 note.length c2) := hp.pu (13, 71, (.slice A2 note.length c2)) (by simp [wrows, ak10P, ak10PM]) (by simp [hd])
          have f13 : a.tmps[71]?.getD undef = (.slice A2 note.length c2) := by rw [← Array.getD_eq_getD_getElem?]; exact e13
          have RX := HSA.out w1 (B3.out.trans (hC.bel.mono (Nat.le_of_lt HU3.out.lt)))
          refine rstep_callW (wanted_none rfl _) 57 #[.slice A2 note.length c2] (by go_simp) ?_
          refine (mktext_any note A2 note.length c2 w1 RX.r2 rfl).mono ?_
          rintro e w2 ⟨v, rfl, hok, hb2⟩
          exact ⟨_, bA, rA, rc, hC.call (14, 72, CodeM.tx note) (by simp [ak10PM]) hi v hok hb2 (by simp [ak10P]) (by simp [ak10PM]) (by simp [wrows, ak10P, ak10PM, setF]) (by simp [wrows, ak10P, ak10PM, setF]) (by simp) rfl (by rw [hsz0]; exact (by decide : 72 < 91))⟩
        · intro L a w1 hI hi hd
          obtain ⟨F, bA, rA, rc, hC⟩ := hI
          have hp := hC.pif
          have hi : L 15 = false := hi
          simp [Region.binds] at hd
          have e4 : a.tmps.getD 62 undef = (F 4) := hp.pu (4, 62, (F 4)) (by simp [wrows, ak10P, ak10PM]) (by simp [hd])
          have f4 : a.tmps[62]?.getD undef = (F 4) := by rw [← Array.getD_eq_getD_getElem?]; exact e4
          have e7 : a.tmps.getD 65 undef = (F 7) := hp.pu (7, 65, (F 7)) (by simp [wrows, ak10P, ak10PM]) (by simp [hd])
          have f7 : a.tmps[65]?.getD undef = (F 7) := by rw [← Array.getD_eq_getD_getElem?]; exact e7
          have e10 : a.tmps.getD 68 undef = (F 10) := hp.pu (10, 68, (F 10)) (by simp [wrows, ak10P, ak10PM]) (by simp [hd])
          have f10 : a.tmps[68]?.getD undef = (F 10) := by rw [← Array.getD_eq_getD_getElem?]; exact e10
          have e14 : a.tmps.getD 72 undef = (F 14) := hp.pu (14, 72, (F 14)) (by simp [wrows, ak10P, ak10PM]) (by simp [hd])
          have f14 : a.tmps[72]?.getD undef = (F 14) := by rw [← Array.getD_eq_getD_getElem?]; exact e14
          obtain ⟨fn4, cp4, hv4⟩ := (hC.ok (4, 62, CodeM.fx 8 ik) (by simp [ak10PM]) (by simp [hd])).form
          rw [hv4] at e4 f4
          obtain ⟨fn7, cp7, hv7⟩ := (hC.ok (7, 65, [StmM.b8 sc]) (by simp [ak10PM]) (by simp [hd])).form
          rw [hv7] at e7 f7
          obtain ⟨fn10, cp10, hv10⟩ := (hC.ok (10, 68, CodeM.uv fl.length ++ fb fl) (by simp [ak10PM]) (by simp [hd])).form
          rw [hv10] at e10 f10
          obtain ⟨fn14, cp14, hv14⟩ := (hC.ok (14, 72, CodeM.tx note) (by simp [ak10PM]) (by simp [hd])).form
          rw [hv14] at e14 f14
          exact rstep_valW (wanted_none rfl _) (.slice (some ⟨w1.heap.size, 0, none⟩) 4 4) (w1.alloc (.cells #[F 4, F 7, F 10, F 14] 84)) (by rw [hv4, hv7, hv10, hv14]; go_simp) ⟨F, _, rA, rc, hC.build hi (by simp [ak10PM, hd]) #[F 4, F 7, F 10, F 14] rfl (by simp [wrows, ak10P, ak10PM]) (by simp [wrows, ak10P, ak10PM]) (by decide) (by simp [ak10PM]) rfl (by rw [hsz0]; exact (by decide : 73 < 91))⟩
        · intro L a w1 hI hi hd
          obtain ⟨F, bA, rA, rc, hC⟩ := hI
          have hp := hC.pif
          have hi : L 16 = false := hi
          simp [Region.binds] at hd
          have e0 : a.tmps.getD 58 undef = (.slice (some ⟨gl, 0, none⟩) 1 1) := hp.pu (0, 58, (.slice (some ⟨gl, 0, none⟩) 1 1)) (by simp [wrows, ak10P, ak10PM]) (by simp [hd])
          have f0 : a.tmps[58]?.getD undef = (.slice (some ⟨gl, 0, none⟩) 1 1) := by rw [← Array.getD_eq_getD_getElem?]; exact e0
          have e15 : a.tmps.getD 73 undef = (.slice (some ⟨bA, 0, none⟩) 4 4) := hp.pu (15, 73, (.slice (some ⟨bA, 0, none⟩) 4 4)) (by simp [wrows, ak10P, ak10PM]) (by simp [hd])
          have f15 : a.tmps[73]?.getD undef = (.slice (some ⟨bA, 0, none⟩) 4 4) := by rw [← Array.getD_eq_getD_getElem?]; exact e15
          have hib : L 15 = true := by simp [hd]
          refine step_appF1 w1 rfl (.tmp 58) (.tmp 73) rfl (g + 1) (some ⟨gl, 0, none⟩) [v0] 1 (show a.eval (.tmp 58) = _ from e0) (hC.own hi) (some ⟨bA, 0, none⟩) 4 _ 4 (show a.eval (.tmp 73) = _ from e15) (by simp [ak10PM]) (hC.bld hib) (fun u hu => by obtain ⟨m, hm, rfl⟩ := List.mem_map.1 hu; exact (hC.ok m hm (hC.dbm hib m hm)).one) (by decide) (by decide) (by decide) (Nat.le_trans HU3.out.lt hC.size) ?_
          intro A' c' w2 hO2 hb2
          exact ⟨F, bA, A', c', hC.appd hi hib (by simp [hd]) A' c' hO2 hb2 (by simp [wrows, ak10P, ak10PM]) (by simp [wrows, ak10P, ak10PM]) (by decide) (by simp [ak10PM]) rfl (by rw [hsz0]; exact (by decide : 74 < 91))⟩
        · intro L a w1 hI hi hd
          obtain ⟨F, bA, rA, rc, hC⟩ := hI
          have hp := hC.pif
          have hi : L 17 = false := hi
          simp [Region.binds] at hd
          have e16 : a.tmps.getD 74 undef = (.slice rA 5 rc) := hp.pu (16, 74, (.slice rA 5 rc)) (by simp [wrows, ak10P, ak10PM]) (by simp [hd])
          have f16 : a.tmps[74]?.getD undef = (.slice rA 5 rc) := by rw [← Array.getD_eq_getD_getElem?]; exact e16
          exact rstep_valW (wanted_none rfl _) (.slice rA 5 rc) w1 (by go_simp) ⟨F, bA, rA, rc, hC.fin (by simp [hd]) (by simp [wrows, ak10P, ak10PM]) (by simp [wrows, ak10P, ak10PM]) (by decide) (by simp [ak10PM]) rfl (by rw [hsz0]; exact (by decide : 4 < 91))⟩
      rintro L a W0 ⟨F, bA, rA, rc, hC⟩ hL
      have e17 : a.tmps.getD 4 undef = .slice rA 5 rc := hC.pif.pu (17, 4, _) (by simp [wrows, ak10P, ak10PM]) (hL 17 (by simp))
      have hrow := hC.app (hL 16 (by simp))
      have hw4 := hC.ok (4, 62, CodeM.fx 8 ik) (by simp [ak10PM]) (hL 4 (by simp))
      have hw7 := hC.ok (7, 65, [StmM.b8 sc]) (by simp [ak10PM]) (hL 7 (by simp))
      have hw10 := hC.ok (10, 68, CodeM.uv fl.length ++ fb fl) (by simp [ak10PM]) (hL 10 (by simp))
      have hw14 := hC.ok (14, 72, CodeM.tx note) (by simp [ak10PM]) (hL 14 (by simp))
      have HWS : Hid (WrAll W0 [v0, F 4, F 7, F 10, F 14] [[StmM.b8 10], CodeM.fx 8 ik, [StmM.b8 sc], CodeM.uv fl.length ++ fb fl, CodeM.tx note]) := Lib.hid ⟨HW0.out.below hC.bel, hw4, hw7, hw10, hw14, trivial⟩
      have HRW : Hid (Row W0 rA [v0, F 4, F 7, F 10, F 14]) := Lib.hid hrow
      have B5 := Lib.hid (B3.out.trans (hC.bel.mono (Nat.le_of_lt HU3.out.lt)))
      clear hrow hw4 hw7 hw10 hw14
      have hp := hC.pif
      rw [hp.eq]
      refine of_assigns (P := Try.prog) _ _ _ _ ?_
      rw [ha0.out]
      simp only [asgs, List.map, e17]
      generalize a.tmps.getD 58 undef = u58
      generalize a.tmps.getD 59 undef = u59
      generalize a.tmps.getD 60 undef = u60
      generalize a.tmps.getD 61 undef = u61
      generalize a.tmps.getD 62 undef = u62
      generalize a.tmps.getD 63 undef = u63
      generalize a.tmps.getD 64 undef = u64
      generalize a.tmps.getD 65 undef = u65
      generalize a.tmps.getD 66 undef = u66
      generalize a.tmps.getD 67 undef = u67
      generalize a.tmps.getD 68 undef = u68
      generalize a.tmps.getD 69 undef = u69
      generalize a.tmps.getD 70 undef = u70
      generalize a.tmps.getD 71 undef = u71
      generalize a.tmps.getD 72 undef = u72
      generalize a.tmps.getD 73 undef = u73
      generalize a.tmps.getD 74 undef = u74
      clear hp hL hsz0 hC e17 z4 z1
      clear ha0
      have hf : ([[StmM.b8 10], CodeM.fx 8 ik, [StmM.b8 sc], CodeM.uv fl.length ++ fb fl, CodeM.tx note] : List (List UInt8)).flatten = StmM.form ⟨10, ⟨ik, vec, note⟩, key, till, n, q, fl, sc⟩ := by simp [StmM.form, StmM.body]
      have HF := Lib.hid hf
      have HALL := Lib.hid (all_any rA 5 rc [v0, F 4, F 7, F 10, F 14] [[StmM.b8 10], CodeM.fx 8 ik, [StmM.b8 sc], CodeM.uv fl.length ++ fb fl, CodeM.tx note] W0 HRW.out rfl rfl (by decide) (wr_all (w := W0) (vs := [v0, F 4, F 7, F 10, F 14]) (ms := [[StmM.b8 10], CodeM.fx 8 ik, [StmM.b8 sc], CodeM.uv fl.length ++ fb fl, CodeM.tx note]) HWS.out) (by rw [hf]; exact Nat.le_trans (StmM.form_small HM.out) (by decide)))
      clear hf
      go_wp2_with fail
      refine HALL.out.mono ?_
      rintro e V9 ⟨A9, n9, c9, rfl, hn9, hO9, hb9⟩
      have HZ : Hid (Hid ((StmM.form ⟨10, ⟨ik, vec, note⟩, key, till, n, q, fl, sc⟩).length = n9) ∧ Own V9 w.heap.size A9 c9 (StmM.form ⟨10, ⟨ik, vec, note⟩, key, till, n, q, fl, sc⟩) ∧ Below w.heap.size w V9) := Lib.hid (by
        rw [HF.out] at hn9 hO9
        rw [HG.out]
        exact ⟨hn9, hO9.base_ (Nat.le_trans (Nat.le_of_eq HG.out.symm) B5.out.size), below_step B5.out hb9 (Nat.le_of_eq HG.out.symm)⟩)
      clear hn9 hO9 hb9 HALL
      go_wp2
      go_ret2
      exact ⟨A9, n9, c9, rfl, HZ.out.1, HZ.out.2.1, HZ.out.2.2⟩
    by_cases k11 : kind = 11
    · subst k11
      as_aux_lemma =>
      have d0 := HU3.out.c10.1
      go_upto_region 17 with fail
      clear d0
      refine wp_named fun a0 ha0 => ?_
      have z4 : a0.tmps.getD 4 undef = (.slice (some ⟨gl, 0, none⟩) 1 1) := by rw [ha0.out]; rfl
      have z1 : a0.tmps.getD 1 undef = (.pointer (some ⟨g, 0, none⟩)) := by rw [ha0.out]; rfl
      have hsz0 : a0.tmps.size = 91 := by rw [ha0.out]; rfl
      refine wp_region_invB _ (by kernel_rfl) (fun L a wv => ∃ F bA rA rc, WI a0 [77, 78, 79, 80, 81, 82, 83, 84, 85, 86, 87, 88, 4] (ak11P g gl ik note A2 c2 key till n q fl sc QA qc FA fc) (ak11PM g gl ik note A2 c2 key till n q fl sc QA qc FA fc) ⟨10, 87, 11, 88, 12, 4, 1⟩ V3.heap.size (g + 1) V3 (some ⟨gl, 0, none⟩) 1 [v0] F bA rA rc L a wv) (by kernel_rfl) ?_ ?_ ?_
      · exact ⟨fun _ => undef, 0, none, 0, WI.start (Nat.le_refl _) ⟨rfl, rfl, rfl, Nat.le_refl _, fun _ _ => rfl⟩ (HO3.out.below ⟨rfl, rfl, rfl, Nat.le_refl _, fun _ _ => rfl⟩)⟩
      rotate_left
      · as_aux_lemma =>
        refine ⟨?_, ?_, ?_, ?_, ?_, ?_, ?_, ?_, ?_, ?_, ?_, ?_, ?_, trivial⟩
        · intro L a w1 hI hi hd
          obtain ⟨F, bA, rA, rc, hC⟩ := hI
          have hp := hC.pif
          have hi : L 0 = false := hi
          have hn4 : L 12 = false := by
            cases q : L 12 with
            | false => rfl
            | true => rw [(hC.dab (hC.d4a q)).2] at hi; cases hi
          have t4 := (hC.st hn4).trans z4
          have t4' := t4
          rw [Array.getD_eq_getD_getElem?] at t4'
          exact rstep_valW (wanted_none rfl _) (.slice (some ⟨gl, 0, none⟩) 1 1) w1 (by go_simp) ⟨F, bA, rA, rc, hC.pure 0 77 (.slice (some ⟨gl, 0, none⟩) 1 1) (by simp [wrows, ak11P, ak11PM]) (by simp [wrows, ak11P, ak11PM]) (by simp [ak11PM]) (by decide) rfl (by rw [hsz0]; exact (by decide : 77 < 91))⟩
        · intro L a w1 hI hi hd
          obtain ⟨F, bA, rA, rc, hC⟩ := hI
          have hp := hC.pif
          have hi : L 1 = false := hi
          have t1 := hp.at_ 1 _ rfl z1
          have t1' := t1
          rw [Array.getD_eq_getD_getElem?] at t1'
          exact rstep_valW (wanted_none rfl _) (.pointer (some ⟨g, 6, none⟩)) w1 (by go_simp) ⟨F, bA, rA, rc, hC.pure 1 78 (.pointer (some ⟨g, 6, none⟩)) (by simp [wrows, ak11P, ak11PM]) (by simp [wrows, ak11P, ak11PM]) (by simp [ak11PM]) (by decide) rfl (by rw [hsz0]; exact (by decide : 78 < 91))⟩
        · intro L a w1 hI hi hd
          obtain ⟨F, bA, rA, rc, hC⟩ := hI
          have hp := hC.pif
          have hi : L 2 = false := hi
          simp [Region.binds] at hd
          have e1 : a.tmps.getD 78 undef = (.pointer (some ⟨g, 6, none⟩)) := hp.pu (1, 78, (.pointer (some ⟨g, 6, none⟩))) (by simp [wrows, ak11P, ak11PM]) (by simp [hd])
          have f1 : a.tmps[78]?.getD undef = (.pointer (some ⟨g, 6, none⟩)) := by rw [← Array.getD_eq_getD_getElem?]; exact e1
          obtain ⟨d0, d1, d2, d3, d4, d5, d6, d7, d8, d9⟩ := (HU3.out.below hC.bel HU3.out.lt).c10
          exact rstep_valW (wanted_none rfl _) (.int .i64 n) w1 (by go_simp) ⟨F, bA, rA, rc, hC.pure 2 79 (.int .i64 n) (by simp [wrows, ak11P, ak11PM]) (by simp [wrows, ak11P, ak11PM]) (by simp [ak11PM]) (by decide) rfl (by rw [hsz0]; exact (by decide : 79 < 91))⟩
        · intro L a w1 hI hi hd
          obtain ⟨F, bA, rA, rc, hC⟩ := hI
          have hp := hC.pif
          have hi : L 3 = false := hi
          simp [Region.binds] at hd
          have e2 : a.tmps.getD 79 undef = (.int .i64 n) := hp.pu (2, 79, (.int .i64 n)) (by simp [wrows, ak11P, ak11PM]) (by simp [hd])
          have f2 : a.tmps[79]?.getD undef = (.int .i64 n) := by rw [← Array.getD_eq_getD_getElem?]; exact e2
          have RX := HSA.out w1 (B3.out.trans (hC.bel.mono (Nat.le_of_lt HU3.out.lt)))
          refine rstep_callW (wanted_none rfl _) 52 #[.int .i64 n] (by go_simp) ?_
          refine (mku8_any n (StmM.b8 n) w1 (StmM.b8_wrap n)).mono ?_
          rintro e w2 ⟨v, rfl, hok, hb2⟩
          exact ⟨_, bA, rA, rc, hC.call (3, 80, [StmM.b8 n]) (by simp [ak11PM]) hi v hok hb2 (by simp [ak11P]) (by simp [ak11PM]) (by simp [wrows, ak11P, ak11PM, setF]) (by simp [wrows, ak11P, ak11PM, setF]) (by simp) rfl (by rw [hsz0]; exact (by decide : 80 < 91))⟩
        · intro L a w1 hI hi hd
          obtain ⟨F, bA, rA, rc, hC⟩ := hI
          have hp := hC.pif
          have hi : L 4 = false := hi
          have t1 := hp.at_ 1 _ rfl z1
          have t1' := t1
          rw [Array.getD_eq_getD_getElem?] at t1'
          exact rstep_valW (wanted_none rfl _) (.pointer (some ⟨g, 9, none⟩)) w1 (by go_simp) ⟨F, bA, rA, rc, hC.pure 4 81 (.pointer (some ⟨g, 9, none⟩)) (by simp [wrows, ak11P, ak11PM]) (by simp [wrows, ak11P, ak11PM]) (by simp [ak11PM]) (by decide) rfl (by rw [hsz0]; exact (by decide : 81 < 91))⟩
        · intro L a w1 hI hi hd
          obtain ⟨F, bA, rA, rc, hC⟩ := hI
          have hp := hC.pif
          have hi : L 5 = false := hi
          simp [Region.binds] at hd
          have e4 : a.tmps.getD 81 undef = (.pointer (some ⟨g, 9, none⟩)) := hp.pu (4, 81, (.pointer (some ⟨g, 9, none⟩))) (by simp [wrows, ak11P, ak11PM]) (by simp [hd])
          have f4 : a.tmps[81]?.getD undef = (.pointer (some ⟨g, 9, none⟩)) := by rw [← Array.getD_eq_getD_getElem?]; exact e4
          obtain ⟨d0, d1, d2, d3, d4, d5, d6, d7, d8, d9⟩ := (HU3.out.below hC.bel HU3.out.lt).c10
          exact rstep_valW (wanted_none rfl _) (.int .i64 sc) w1 (by go_simp) ⟨F, bA, rA, rc, hC.pure 5 82 (.int .i64 sc) (by simp [wrows, ak11P, ak11PM]) (by simp [wrows, ak11P, ak11PM]) (by simp [ak11PM]) (by decide) rfl (by rw [hsz0]; exact (by decide : 82 < 91))⟩
        · intro L a w1 hI hi hd
          obtain ⟨F, bA, rA, rc, hC⟩ := hI
          have hp := hC.pif
          have hi : L 6 = false := hi
          simp [Region.binds] at hd
          have e5 : a.tmps.getD 82 undef = (.int .i64 sc) := hp.pu (5, 82, (.int .i64 sc)) (by simp [wrows, ak11P, ak11PM]) (by simp [hd])
          have f5 : a.tmps[82]?.getD undef = (.int .i64 sc) := by rw [← Array.getD_eq_getD_getElem?]; exact e5
          have RX := HSA.out w1 (B3.out.trans (hC.bel.mono (Nat.le_of_lt HU3.out.lt)))
          refine rstep_callW (wanted_none rfl _) 52 #[.int .i64 sc] (by go_simp) ?_
          refine (mku8_any sc (StmM.b8 sc) w1 (StmM.b8_wrap sc)).mono ?_
          rintro e w2 ⟨v, rfl, hok, hb2⟩
          exact ⟨_, bA, rA, rc, hC.call (6, 83, [StmM.b8 sc]) (by simp [ak11PM]) hi v hok hb2 (by simp [ak11P]) (by simp [ak11PM]) (by simp [wrows, ak11P, ak11PM, setF]) (by simp [wrows, ak11P, ak11PM, setF]) (by simp) rfl (by rw [hsz0]; exact (by decide : 83 < 91))⟩
        · intro L a w1 hI hi hd
          obtain ⟨F, bA, rA, rc, hC⟩ := hI
          have hp := hC.pif
          have hi : L 7 = false := hi
          have t1 := hp.at_ 1 _ rfl z1
          have t1' := t1
          rw [Array.getD_eq_getD_getElem?] at t1'
          exact rstep_valW (wanted_none rfl _) (.pointer (some ⟨g, 8, none⟩)) w1 (by go_simp) ⟨F, bA, rA, rc, hC.pure 7 84 (.pointer (some ⟨g, 8, none⟩)) (by simp [wrows, ak11P, ak11PM]) (by simp [wrows, ak11P, ak11PM]) (by simp [ak11PM]) (by decide) rfl (by rw [hsz0]; exact (by decide : 84 < 91))⟩
        · intro L a w1 hI hi hd
          obtain ⟨F, bA, rA, rc, hC⟩ := hI
          have hp := hC.pif
          have hi : L 8 = false := hi
          simp [Region.binds] at hd
          have e7 : a.tmps.getD 84 undef = (.pointer (some ⟨g, 8, none⟩)) := hp.pu (7, 84, (.pointer (some ⟨g, 8, none⟩))) (by simp [wrows, ak11P, ak11PM]) (by simp [hd])
          have f7 : a.tmps[84]?.getD undef = (.pointer (some ⟨g, 8, none⟩)) := by rw [← Array.getD_eq_getD_getElem?]; exact e7
          obtain ⟨d0, d1, d2, d3, d4, d5, d6, d7, d8, d9⟩ := (HU3.out.below hC.bel HU3.out.lt).c10
          exact rstep_valW (wanted_none rfl _) (.slice FA fl.length fc) w1 (by go_simp) ⟨F, bA, rA, rc, hC.pure 8 85 (.slice FA fl.length fc) (by simp [wrows, ak11P, ak11PM]) (by simp [wrows, ak11P, ak11PM]) (by simp [ak11PM]) (by decide) rfl (by rw [hsz0]; exact (by decide : 85 < 91))⟩
        · intro L a w1 hI hi hd
          obtain ⟨F, bA, rA, rc, hC⟩ := hI
          have hp := hC.pif
          have hi : L 9 = false := hi
          simp [Region.binds] at hd
          have e8 : a.tmps.getD 85 undef = (.slice FA fl.length fc) := hp.pu (8, 85, (.slice FA fl.length fc)) (by simp [wrows, ak11P, ak11PM]) (by simp [hd])
          have f8 : a.tmps[85]?.getD undef = (.slice FA fl.length fc) := by rw [← Array.getD_eq_getD_getElem?]; exact e8
          have RX := HSA.out w1 (B3.out.trans (hC.bel.mono (Nat.le_of_lt HU3.out.lt)))
          refine rstep_callW (wanted_none rfl _) 56 #[.slice FA fl.length fc] (by go_simp) ?_
          refine (mkflt_any fl FA fl.length fc w1 RX.r4 rfl (by have := HLN.out.2.2.2; omega) RX.ok.hfl).mono ?_
          rintro e w2 ⟨v, rfl, hok, hb2⟩
          exact ⟨_, bA, rA, rc, hC.call (9, 86, CodeM.uv fl.length ++ fb fl) (by simp [ak11PM]) hi v hok hb2 (by simp [ak11P]) (by simp [ak11PM]) (by simp [wrows, ak11P, ak11PM, setF]) (by simp [wrows, ak11P, ak11PM, setF]) (by simp) rfl (by rw [hsz0]; exact (by decide : 86 < 91))⟩
        · intro L a w1 hI hi hd
          obtain ⟨F, bA, rA, rc, hC⟩ := hI
          have hp := hC.pif
          have hi : L 10 = false := hi
          simp [Region.binds] at hd
          have e3 : a.tmps.getD 80 undef = (F 3) := hp.pu (3, 80, (F 3)) (by simp [wrows, ak11P, ak11PM]) (by simp [hd])
          have f3 : a.tmps[80]?.getD undef = (F 3) := by rw [← Array.getD_eq_getD_getElem?]; exact e3
          have e6 : a.tmps.getD 83 undef = (F 6) := hp.pu (6, 83, (F 6)) (by simp [wrows, ak11P, ak11PM]) (by simp [hd])
          have f6 : a.tmps[83]?.getD undef = (F 6) := by rw [← Array.getD_eq_getD_getElem?]; exact e6
          have e9 : a.tmps.getD 86 undef = (F 9) := hp.pu (9, 86, (F 9)) (by simp [wrows, ak11P, ak11PM]) (by simp [hd])
          have f9 : a.tmps[86]?.getD undef = (F 9) := by rw [← Array.getD_eq_getD_getElem?]; exact e9
          obtain ⟨fn3, cp3, hv3⟩ := (hC.ok (3, 80, [StmM.b8 n]) (by simp [ak11PM]) (by simp [hd])).form
          rw [hv3] at e3 f3
          obtain ⟨fn6, cp6, hv6⟩ := (hC.ok (6, 83, [StmM.b8 sc]) (by simp [ak11PM]) (by simp [hd])).form
          rw [hv6] at e6 f6
          obtain ⟨fn9, cp9, hv9⟩ := (hC.ok (9, 86, CodeM.uv fl.length ++ fb fl) (by simp [ak11PM]) (by simp [hd])).form
          rw [hv9] at e9 f9
          exact rstep_valW (wanted_none rfl _) (.slice (some ⟨w1.heap.size, 0, none⟩) 3 3) (w1.alloc (.cells #[F 3, F 6, F 9] 84)) (by rw [hv3, hv6, hv9]; go_simp) ⟨F, _, rA, rc, hC.build hi (by simp [ak11PM, hd]) #[F 3, F 6, F 9] rfl (by simp [wrows, ak11P, ak11PM]) (by simp [wrows, ak11P, ak11PM]) (by decide) (by simp [ak11PM]) rfl (by rw [hsz0]; exact (by decide : 87 < 91))⟩
        · intro L a w1 hI hi hd
          obtain ⟨F, bA, rA, rc, hC⟩ := hI
          have hp := hC.pif
          have hi : L 11 = false := hi
          simp [Region.binds] at hd
          have e0 : a.tmps.getD 77 undef = (.slice (some ⟨gl, 0, none⟩) 1 1) := hp.pu (0, 77, (.slice (some ⟨gl, 0, none⟩) 1 1)) (by simp [wrows, ak11P, ak11PM]) (by simp [hd])
          have f0 : a.tmps[77]?.getD undef = (.slice (some ⟨gl, 0, none⟩) 1 1) := by rw [← Array.getD_eq_getD_getElem?]; exact e0
          have e10 : a.tmps.getD 87 undef = (.slice (some ⟨bA, 0, none⟩) 3 3) := hp.pu (10, 87, (.slice (some ⟨bA, 0, none⟩) 3 3)) (by simp [wrows, ak11P, ak11PM]) (by simp [hd])
          have f10 : a.tmps[87]?.getD undef = (.slice (some ⟨bA, 0, none⟩) 3 3) := by rw [← Array.getD_eq_getD_getElem?]; exact e10
          have hib : L 10 = true := by simp [hd]
          refine step_appF1 w1 rfl (.tmp 77) (.tmp 87) rfl (g + 1) (some ⟨gl, 0, none⟩) [v0] 1 (show a.eval (.tmp 77) = _ from e0) (hC.own hi) (some ⟨bA, 0, none⟩) 3 _ 3 (show a.eval (.tmp 87) = _ from e10) (by simp [ak11PM]) (hC.bld hib) (fun u hu => by obtain ⟨m, hm, rfl⟩ := List.mem_map.1 hu; exact (hC.ok m hm (hC.dbm hib m hm)).one) (by decide) (by decide) (by decide) (Nat.le_trans HU3.out.lt hC.size) ?_
          intro A' c' w2 hO2 hb2
          exact ⟨F, bA, A', c', hC.appd hi hib (by simp [hd]) A' c' hO2 hb2 (by simp [wrows, ak11P, ak11PM]) (by simp [wrows, ak11P, ak11PM]) (by decide) (by simp [ak11PM]) rfl (by rw [hsz0]; exact (by decide : 88 < 91))⟩
        · intro L a w1 hI hi hd
          obtain ⟨F, bA, rA, rc, hC⟩ := hI
          have hp := hC.pif
          have hi : L 12 = false := hi
          simp [Region.binds] at hd
          have e11 : a.tmps.getD 88 undef = (.slice rA 4 rc) := hp.pu (11, 88, (.slice rA 4 rc)) (by simp [wrows, ak11P, ak11PM]) (by simp [hd])
          have f11 : a.tmps[88]?.getD undef = (.slice rA 4 rc) := by rw [← Array.getD_eq_getD_getElem?]; exact e11
          exact rstep_valW (wanted_none rfl _) (.slice rA 4 rc) w1 (by go_simp) ⟨F, bA, rA, rc, hC.fin (by simp [hd]) (by simp [wrows, ak11P, ak11PM]) (by simp [wrows, ak11P, ak11PM]) (by decide) (by simp [ak11PM]) rfl (by rw [hsz0]; exact (by decide : 4 < 91))⟩
      rintro L a W0 ⟨F, bA, rA, rc, hC⟩ hL
      have e12 : a.tmps.getD 4 undef = .slice rA 4 rc := hC.pif.pu (12, 4, _) (by simp [wrows, ak11P, ak11PM]) (hL 12 (by simp))
      have hrow := hC.app (hL 11 (by simp))
      have hw3 := hC.ok (3, 80, [StmM.b8 n]) (by simp [ak11PM]) (hL 3 (by simp))
      have hw6 := hC.ok (6, 83, [StmM.b8 sc]) (by simp [ak11PM]) (hL 6 (by simp))
      have hw9 := hC.ok (9, 86, CodeM.uv fl.length ++ fb fl) (by simp [ak11PM]) (hL 9 (by simp))
      have HWS : Hid (WrAll W0 [v0, F 3, F 6, F 9] [[StmM.b8 11], [StmM.b8 n], [StmM.b8 sc], CodeM.uv fl.length ++ fb fl]) := Lib.hid ⟨HW0.out.below hC.bel, hw3, hw6, hw9, trivial⟩
      have HRW : Hid (Row W0 rA [v0, F 3, F 6, F 9]) := Lib.hid hrow
      have B5 := Lib.hid (B3.out.trans (hC.bel.mono (Nat.le_of_lt HU3.out.lt)))
      clear hrow hw3 hw6 hw9
      have hp := hC.pif
      rw [hp.eq]
      refine of_assigns (P := Try.prog) _ _ _ _ ?_
      rw [ha0.out]
      simp only [asgs, List.map, e12]
      generalize a.tmps.getD 77 undef = u77
      generalize a.tmps.getD 78 undef = u78
      generalize a.tmps.getD 79 undef = u79
      generalize a.tmps.getD 80 undef = u80
      generalize a.tmps.getD 81 undef = u81
      generalize a.tmps.getD 82 undef = u82
      generalize a.tmps.getD 83 undef = u83
      generalize a.tmps.getD 84 undef = u84
      generalize a.tmps.getD 85 undef = u85
      generalize a.tmps.getD 86 undef = u86
      generalize a.tmps.getD 87 undef = u87
      generalize a.tmps.getD 88 undef = u88
      clear hp hL hsz0 hC e12 z4 z1
      clear ha0
      have hf : ([[StmM.b8 11], [StmM.b8 n], [StmM.b8 sc], CodeM.uv fl.length ++ fb fl] : List (List UInt8)).flatten = StmM.form ⟨11, ⟨ik, vec, note⟩, key, till, n, q, fl, sc⟩ := by simp [StmM.form, StmM.body]
      have HF := Lib.hid hf
      have HALL := Lib.hid (all_any rA 4 rc [v0, F 3, F 6, F 9] [[StmM.b8 11], [StmM.b8 n], [StmM.b8 sc], CodeM.uv fl.length ++ fb fl] W0 HRW.out rfl rfl (by decide) (wr_all (w := W0) (vs := [v0, F 3, F 6, F 9]) (ms := [[StmM.b8 11], [StmM.b8 n], [StmM.b8 sc], CodeM.uv fl.length ++ fb fl]) HWS.out) (by rw [hf]; exact Nat.le_trans (StmM.form_small HM.out) (by decide)))
      clear hf
      go_wp2_with fail
      refine HALL.out.mono ?_
      rintro e V9 ⟨A9, n9, c9, rfl, hn9, hO9, hb9⟩
      have HZ : Hid (Hid ((StmM.form ⟨11, ⟨ik, vec, note⟩, key, till, n, q, fl, sc⟩).length = n9) ∧ Own V9 w.heap.size A9 c9 (StmM.form ⟨11, ⟨ik, vec, note⟩, key, till, n, q, fl, sc⟩) ∧ Below w.heap.size w V9) := Lib.hid (by
        rw [HF.out] at hn9 hO9
        rw [HG.out]
        exact ⟨hn9, hO9.base_ (Nat.le_trans (Nat.le_of_eq HG.out.symm) B5.out.size), below_step B5.out hb9 (Nat.le_of_eq HG.out.symm)⟩)
      clear hn9 hO9 hb9 HALL
      go_wp2
      go_ret2
      exact ⟨A9, n9, c9, rfl, HZ.out.1, HZ.out.2.1, HZ.out.2.2⟩
    exfalso
    obtain ⟨q1, q2, _⟩ := (StmM.may_iff _).1 HM.out
    simp only at q1 q2
    omega
end Go.Proofs.Ytaadfalklddhcaa
