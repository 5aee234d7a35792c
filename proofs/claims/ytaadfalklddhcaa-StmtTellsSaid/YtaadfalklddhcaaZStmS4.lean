/-
  A request's form, by the document's word.
  Conditions: the request may be; its lists lie in memory.
-/
import Derived.Test.YtaadfalklddhcaaZStmW11
import Derived.Test.YtaadfalklddhcaaZEj
namespace Go.Proofs.Ytaadfalklddhcaa
open Go.RowKit Go.Sort Go.Lib
set_option linter.unusedVariables false
set_option linter.unusedSimpArgs false
/-- What has been put so far. -/
structure Acc (V : World) (A : Option Addr) (n c : Nat) (l : List UInt8) (b : Nat) (w : World) : Prop where
  own : Own w V.heap.size A c l
  len : l.length = n
  le : n ≤ b
  bel : Below V.heap.size V w
theorem Acc.app {V w w1 w2 : World} {A A' : Option Addr} {n c c' k b b' : Nat} {l m : List UInt8} (h : Acc V A n c l b w) (hb : Below w.heap.size w w1) (ho : Own w2 V.heap.size A' c' (l ++ m)) (hk : m.length = k) (hg : w1.grownBy w2 (Value.slice A n c).ownBlock) (hbb : b + k ≤ b') : Acc V A' (n + k) c' (l ++ m) b' w2 := by
  have hO := h.own.below hb
  have hb1 : Below V.heap.size V w1 := below_join h.bel hb
  exact ⟨ho, by rw [List.length_append, h.len, hk], by have := h.le; omega, hO.grown_below (by rw [h.len]) hg hb1 (Nat.le_refl _) hb1.size⟩
set_option maxRecDepth 100000 in
set_option maxHeartbeats 4000000 in
theorem reffloats_any (A : Option Addr) (c : Nat) (fl : List Nat) (w : World) (hr : Row w A (u64s fl)) (hn : fl.length ≤ 4096) (hv : ∀ v ∈ fl, v < 18446744073709551616) :
    Calls Try.prog 82 #[.slice A fl.length c] w (NewB (CodeM.uv fl.length ++ fb fl) w) := by
  have hwv : IntKind.u64.wrap (fl.length : Int) = (fl.length : Int) := by rw [IntKind.wrap_u64]; omega
  have R1 := Lib.hid hr
  have HV := Lib.hid hv
  obtain ⟨nf, hnf⟩ : ∃ n, fl.length = n := ⟨_, rfl⟩
  have HN := Lib.hid hnf
  rw [hnf] at hn hwv ⊢
  clear hr hv hnf
  go_enter Try.func82, Try.ntmps82
  go_wp2_with fail
  refine (refputuv_any nf w (by omega)).mono ?_
  rintro e w1 ⟨A1, n1, c1, rfl, hn1, o1, hb1⟩
  have H1 : Hid (Own w1 w.heap.size A1 c1 (CodeM.uv nf) ∧ Below w.heap.size w w1 ∧ n1 ≤ 10 ∧ (CodeM.uv nf).length = n1) := Lib.hid ⟨o1, hb1, by have := hn1.out; have := (CodeM.uv_length nf).2; omega, hn1.out⟩
  have hn10 := H1.out.2.2.1
  clear hn1 o1 hb1 hwv
  go_wp2
  go_loopw [3, 4] (fun b i wr => ∃ (k : Nat) (A3 : Option Addr) (c3 : Nat), i = .int .i64 k ∧ k ≤ nf ∧ b = .slice A3 (n1 + 8 * k) c3 ∧ Own wr w.heap.size A3 c3 (CodeM.uv nf ++ fb (fl.take k)) ∧ Below w.heap.size w wr) (fun _ i _ => nf - (RowKit.intOf i).toNat)
  case atStart => exact ⟨0, A1, c1, rfl, by omega, rfl, by simpa [fb] using H1.out.1, H1.out.2.1⟩
  case round =>
    obtain ⟨k, A4, c4, rfl, hk2, rfl, hO, hbel⟩ := hrel
    have HL : Hid ((CodeM.uv nf ++ fb (fl.take k)).length = n1 + 8 * k) := Lib.hid (by rw [List.length_append, H1.out.2.2.2, fb_length, List.length_take, HN.out]; omega)
    have HO := Lib.hid (And.intro hO hbel)
    have hsz := hbel.size
    by_cases hlt : k < nf
    · obtain ⟨v, hu⟩ : ∃ u, fl[k]? = some u := ⟨_, List.getElem?_eq_getElem (by rw [HN.out]; exact hlt)⟩
      obtain ⟨b, o, rfl, e1⟩ := row_u64 (R1.out.below hbel) hu
      have hvr := HV.out v (List.mem_of_getElem? hu)
      have HS : Hid (fb (fl.take (k + 1)) = fb (fl.take k) ++ CodeM.fx 8 v) := Lib.hid (by rw [← fb_snoc, List.take_add_one, hu]; rfl)
      clear hu hO hbel
      go_wp2_with fail
      refine (reffixed_any v 8 wr (by omega) (by omega)).mono ?_
      rintro e w5 ⟨P5, n5, d5, rfl, hn5, o5, hb5⟩
      have o4 := HO.out.1.below hb5
      have hb45 := below_step HO.out.2 hb5 (Nat.le_refl _)
      have hs5 := hb45.size
      have hn5' : n5 = 8 := by have := hn5.out; rw [CodeM.fx_length] at this; exact this.symm
      subst hn5'
      go_wp2_with (at_builtin; refine wpl_app' _ rfl (.tmp 15) (.tmp 20) rfl w.heap.size A4 c4 (CodeM.uv nf ++ fb (fl.take k)) (n1 + 8 * k) rfl HL.out o4 P5 d5 (CodeM.fx 8 v) 8 rfl (CodeM.fx_length 8 v) o5.row ?_ ?_ ?_)
      · omega
      · omega
      intro A6 c6 w6 o6 hg6 _
      have hb6 : Below w.heap.size w w6 := o4.grown_below (by rw [HL.out]) hg6 hb45 (Nat.le_refl _) hs5
      clear o4 o5 hg6 hb5 hb45
      go_wp2
      go_roundw
      case rel => exact ⟨k + 1, A6, c6, by go_num, by omega, rfl, by rw [HS.out]; simpa using o6, hb6⟩
      case measure => simp [RowKit.intOf]; omega
    · obtain rfl : k = nf := by omega
      go_wp2
      go_ret
      refine ⟨A4, _, c4, rfl, Lib.hid ?_, ?_, HO.out.2⟩
      · rw [List.length_append, H1.out.2.2.2, fb_length, HN.out]
      · have := HO.out.1
        rw [List.take_of_length_le (by rw [HN.out]; exact Nat.le_refl _)] at this
        exact this
set_option maxRecDepth 100000 in
set_option maxHeartbeats 16000000 in
theorem refform22_any (s : Rqv) (w : World) (hs : s.At w) (hm : StmM.may s.x = true) : Calls Try.prog 24 #[.agg s.cells] w (NewB (StmM.form s.x) w) := by
  obtain ⟨⟨kind, ⟨ik, vec, note⟩, key, till, n, q, fl, sc⟩, A, c, A2, c2, QA, qc, FA, fc⟩ := s
  have HSA := Lib.hid hs
  have HM := Lib.hid hm
  clear hs hm
  show Calls _ _ _ _ (NewB (StmM.form ⟨kind, ⟨ik, vec, note⟩, key, till, n, q, fl, sc⟩) w)
  simp only [Rqv.cells, rqC]
  have b0 : Below w.heap.size w (w.alloc (.cells #[.int .i64 kind, .int .u64 (ik : Int), .slice A vec.length c, .slice A2 note.length c2, .int .u64 (key : Int), .int .u64 (till : Int), .int .i64 n, .slice QA q.length qc, .slice FA fl.length fc, .int .i64 sc] 42)) := (Below.refl _ _).alloc (Nat.le_refl _) _
  have U1 := Blk.new w 42 #[.int .i64 kind, .int .u64 (ik : Int), .slice A vec.length c, .slice A2 note.length c2, .int .u64 (key : Int), .int .u64 (till : Int), .int .i64 n, .slice QA q.length qc, .slice FA fl.length fc, .int .i64 sc]
  go_enter Try.func24, Try.ntmps24
  go_upto_region 1 with fail
  generalize w.alloc (.cells #[.int .i64 kind, .int .u64 (ik : Int), .slice A vec.length c, .slice A2 note.length c2, .int .u64 (key : Int), .int .u64 (till : Int), .int .i64 n, .slice QA q.length qc, .slice FA fl.length fc, .int .i64 sc] 42) = VB at *
  obtain ⟨g, hg⟩ : ∃ g, w.heap.size = g := ⟨_, rfl⟩
  have HG := Lib.hid hg
  rw [hg] at U1
  simp only [hg]
  clear hg
  have hkw := StmM.b8_wrap kind
  have d0 := U1.c10.1
  have HX0 := Lib.hid U1
  have HAT0 := Lib.hid (HSA.out.below b0)
  have BV0 : Hid (Below g w VB) := Lib.hid (by rw [← HG.out]; exact b0)
  clear U1 b0 HSA
  go_upto_region 2 with fail
  obtain ⟨V, hV⟩ : ∃ V, VB = V := ⟨_, rfl⟩
  subst hV
  have hba : Below VB.heap.size VB (VB.alloc (.cells #[.int .u8 ((StmM.b8 kind).toNat : Int)] 5)) := (Below.refl _ _).alloc (Nat.le_refl _) _
  have O0 : Hid (Acc VB (some ⟨VB.heap.size, 0, none⟩) 1 1 [StmM.b8 kind] 1 (VB.alloc (.cells #[.int .u8 ((StmM.b8 kind).toNat : Int)] 5))) := Lib.hid ⟨(Bytes.new VB [StmM.b8 kind]).own (Nat.le_refl _) (by unfold maxLen; simp), rfl, Nat.le_refl _, hba⟩
  generalize VB.alloc (.cells #[.int .u8 ((StmM.b8 kind).toNat : Int)] 5) = w0 at *
  obtain ⟨V, hV⟩ : ∃ V, VB = V := ⟨_, rfl⟩
  subst hV
  have HX := HX0
  have HAT := HAT0
  have BV := BV0
  obtain ⟨aa0, hA0⟩ : ∃ A0 : Option Addr, (some ⟨VB.heap.size, 0, none⟩ : Option Addr) = A0 := ⟨_, rfl⟩
  simp only [hA0] at O0 ⊢
  obtain ⟨n0, hn0⟩ : ∃ n : Nat, 1 = n := ⟨_, rfl⟩
  obtain ⟨cc0, hc0⟩ : ∃ n : Nat, 1 = n := ⟨_, rfl⟩
  rw [show Value.slice aa0 1 1 = Value.slice aa0 n0 cc0 by rw [← hn0, ← hc0]]
  replace O0 : Hid (Acc VB aa0 n0 cc0 [StmM.b8 kind] 1 w0) := Lib.hid (by rw [← hn0, ← hc0]; exact O0.out)
  clear hn0 hc0
  obtain ⟨l0, hl0⟩ : ∃ l, [StmM.b8 kind] = l := ⟨_, rfl⟩
  rw [hl0] at O0
  have HL0 := Lib.hid hl0
  clear hba d0 hkw HX0 HAT0 BV0 hA0 hl0
  by_cases k1 : kind = 1
  · subst k1
    as_aux_lemma =>
    have HLN := Lib.hid (StmM.may_lens HM.out)
    obtain ⟨d0, d1, d2, d3, d4, d5, d6, d7, d8, d9⟩ := (HX.out.below O0.out.bel HX.out.lt).c10
    clear d1 d2 d3 d4 d5 d6 d7 d8 d9
    have HF : Hid (l0 = StmM.form ⟨1, ⟨ik, vec, note⟩, key, till, n, q, fl, sc⟩) := Lib.hid (by
      rw [← HL0.out]
      simp [StmM.form, StmM.body])
    have hax := O0.out
    rw [HF.out] at hax
    have HA := Lib.hid hax
    clear hax
    go_wp2
    go_ret
    exact ⟨aa0, n0, cc0, rfl, Lib.hid HA.out.len, HA.out.own.base_ (by rw [HG.out]; exact Nat.le_of_lt HX.out.lt), by rw [HG.out]; exact BV.out.trans (HA.out.bel.mono (Nat.le_of_lt HX.out.lt))⟩
  by_cases k2 : kind = 2
  · subst k2
    as_aux_lemma =>
    have HLN := Lib.hid (StmM.may_lens HM.out)
    have hmi := ItemM.may_zero (((StmM.may_iff _).1 HM.out).2.2.2.2.2.2.2.2.2.1 rfl)
    have HMI := Lib.hid hmi
    clear hmi
    obtain ⟨d0, d1, d2, d3, d4, d5, d6, d7, d8, d9⟩ := (HX.out.below O0.out.bel HX.out.lt).c10
    clear d4 d5 d6 d7 d8 d9
    go_wp2_with fail
    refine (refform_any ⟨ik, vec, note⟩ A A2 c c2 w0 HAT.out.ok.hit.hk HAT.out.ok.hit.hv (HAT.out.r1.below O0.out.bel) (HAT.out.r2.below O0.out.bel) HMI.out.2.1 HMI.out.2.2).mono ?_
    rintro e v0 ⟨P0, p0, q0, rfl, hp0, op0, hq0⟩
    have hl0 : p0 ≤ 20000 := (by have h1 := hp0.out; have h2 : (ItemM.form ⟨ik, vec, note⟩).length ≤ 4 * vec.length + note.length + 28 := ItemM.form_length ⟨ik, vec, note⟩; have h3 := HMI.out; omega)
    have HP0 := Lib.hid (And.intro hp0.out (And.intro op0 hq0))
    have hz0 := O0.out.le
    have hy0 := below_join O0.out.bel hq0
    have hx0 := hy0.size
    clear d0 d1 d2 d3 hp0 op0 hq0
    go_wp2_with (at_builtin; refine wpl_app' _ rfl (.tmp 13) (.tmp 16) rfl VB.heap.size aa0 cc0 l0 n0 rfl O0.out.len (O0.out.own.below HP0.out.2.2) P0 q0 (ItemM.form ⟨ik, vec, note⟩) p0 rfl HP0.out.1 HP0.out.2.1.row (by omega) (by omega) ?_)
    intro aa1 cc1 w1 ho0 hg0 _
    have O1' : Hid (Acc VB aa1 (n0 + p0) cc1 (l0 ++ (ItemM.form ⟨ik, vec, note⟩)) 20001 w1) := Lib.hid (O0.out.app HP0.out.2.2 ho0 HP0.out.1 hg0 (Nat.add_le_add_left hl0 _))
    clear hl0 HP0 hz0 hy0 hx0 ho0 hg0
    obtain ⟨l1, hl1⟩ : ∃ l, l0 ++ (ItemM.form ⟨ik, vec, note⟩) = l := ⟨_, rfl⟩
    obtain ⟨n1, hn1⟩ : ∃ n, n0 + p0 = n := ⟨_, rfl⟩
    have O1 : Hid (Acc VB aa1 n1 cc1 l1 20001 w1) := Lib.hid (by have := O1'.out; rw [hl1, hn1] at this; exact this)
    have HL1 := Lib.hid hl1
    rw [hn1]
    clear hl1 hn1 O1' O0
    have HF : Hid (l1 = StmM.form ⟨2, ⟨ik, vec, note⟩, key, till, n, q, fl, sc⟩) := Lib.hid (by
      rw [← HL1.out, ← HL0.out]
      simp [StmM.form, StmM.body])
    have hax := O1.out
    rw [HF.out] at hax
    have HA := Lib.hid hax
    clear hax
    go_wp2
    go_ret
    exact ⟨aa1, n1, cc1, rfl, Lib.hid HA.out.len, HA.out.own.base_ (by rw [HG.out]; exact Nat.le_of_lt HX.out.lt), by rw [HG.out]; exact BV.out.trans (HA.out.bel.mono (Nat.le_of_lt HX.out.lt))⟩
  by_cases k3 : kind = 3
  · subst k3
    as_aux_lemma =>
    have HLN := Lib.hid (StmM.may_lens HM.out)
    obtain ⟨d0, d1, d2, d3, d4, d5, d6, d7, d8, d9⟩ := (HX.out.below O0.out.bel HX.out.lt).c10
    clear d1 d2 d3 d5 d6 d7 d8 d9
    go_wp2_with fail
    refine (reffixed_any key 8 w0 HAT.out.ok.hkey (by omega)).mono ?_
    rintro e v0 ⟨P0, p0, q0, rfl, hp0, op0, hq0⟩
    have hl0 : p0 ≤ 8 := (by have := hp0.out; rw [CodeM.fx_length] at this; omega)
    have HP0 := Lib.hid (And.intro hp0.out (And.intro op0 hq0))
    have hz0 := O0.out.le
    have hy0 := below_join O0.out.bel hq0
    have hx0 := hy0.size
    clear d0 d4 hp0 op0 hq0
    go_wp2_with (at_builtin; refine wpl_app' _ rfl (.tmp 21) (.tmp 24) rfl VB.heap.size aa0 cc0 l0 n0 rfl O0.out.len (O0.out.own.below HP0.out.2.2) P0 q0 (CodeM.fx 8 key) p0 rfl HP0.out.1 HP0.out.2.1.row (by omega) (by omega) ?_)
    intro aa1 cc1 w1 ho0 hg0 _
    have O1' : Hid (Acc VB aa1 (n0 + p0) cc1 (l0 ++ (CodeM.fx 8 key)) 9 w1) := Lib.hid (O0.out.app HP0.out.2.2 ho0 HP0.out.1 hg0 (Nat.add_le_add_left hl0 _))
    clear hl0 HP0 hz0 hy0 hx0 ho0 hg0
    obtain ⟨l1, hl1⟩ : ∃ l, l0 ++ (CodeM.fx 8 key) = l := ⟨_, rfl⟩
    obtain ⟨n1, hn1⟩ : ∃ n, n0 + p0 = n := ⟨_, rfl⟩
    have O1 : Hid (Acc VB aa1 n1 cc1 l1 9 w1) := Lib.hid (by have := O1'.out; rw [hl1, hn1] at this; exact this)
    have HL1 := Lib.hid hl1
    rw [hn1]
    clear hl1 hn1 O1' O0
    have HF : Hid (l1 = StmM.form ⟨3, ⟨ik, vec, note⟩, key, till, n, q, fl, sc⟩) := Lib.hid (by
      rw [← HL1.out, ← HL0.out]
      simp [StmM.form, StmM.body])
    have hax := O1.out
    rw [HF.out] at hax
    have HA := Lib.hid hax
    clear hax
    go_wp2
    go_ret
    exact ⟨aa1, n1, cc1, rfl, Lib.hid HA.out.len, HA.out.own.base_ (by rw [HG.out]; exact Nat.le_of_lt HX.out.lt), by rw [HG.out]; exact BV.out.trans (HA.out.bel.mono (Nat.le_of_lt HX.out.lt))⟩
  by_cases k4 : kind = 4
  · subst k4
    as_aux_lemma =>
    have HLN := Lib.hid (StmM.may_lens HM.out)
    obtain ⟨d0, d1, d2, d3, d4, d5, d6, d7, d8, d9⟩ := (HX.out.below O0.out.bel HX.out.lt).c10
    clear d1 d2 d3 d5 d6 d7 d8 d9
    go_wp2_with fail
    refine (reffixed_any key 8 w0 HAT.out.ok.hkey (by omega)).mono ?_
    rintro e v0 ⟨P0, p0, q0, rfl, hp0, op0, hq0⟩
    have hl0 : p0 ≤ 8 := (by have := hp0.out; rw [CodeM.fx_length] at this; omega)
    have HP0 := Lib.hid (And.intro hp0.out (And.intro op0 hq0))
    have hz0 := O0.out.le
    have hy0 := below_join O0.out.bel hq0
    have hx0 := hy0.size
    clear d0 d4 hp0 op0 hq0
    go_wp2_with (at_builtin; refine wpl_app' _ rfl (.tmp 21) (.tmp 24) rfl VB.heap.size aa0 cc0 l0 n0 rfl O0.out.len (O0.out.own.below HP0.out.2.2) P0 q0 (CodeM.fx 8 key) p0 rfl HP0.out.1 HP0.out.2.1.row (by omega) (by omega) ?_)
    intro aa1 cc1 w1 ho0 hg0 _
    have O1' : Hid (Acc VB aa1 (n0 + p0) cc1 (l0 ++ (CodeM.fx 8 key)) 9 w1) := Lib.hid (O0.out.app HP0.out.2.2 ho0 HP0.out.1 hg0 (Nat.add_le_add_left hl0 _))
    clear hl0 HP0 hz0 hy0 hx0 ho0 hg0
    obtain ⟨l1, hl1⟩ : ∃ l, l0 ++ (CodeM.fx 8 key) = l := ⟨_, rfl⟩
    obtain ⟨n1, hn1⟩ : ∃ n, n0 + p0 = n := ⟨_, rfl⟩
    have O1 : Hid (Acc VB aa1 n1 cc1 l1 9 w1) := Lib.hid (by have := O1'.out; rw [hl1, hn1] at this; exact this)
    have HL1 := Lib.hid hl1
    rw [hn1]
    clear hl1 hn1 O1' O0
    have HF : Hid (l1 = StmM.form ⟨4, ⟨ik, vec, note⟩, key, till, n, q, fl, sc⟩) := Lib.hid (by
      rw [← HL1.out, ← HL0.out]
      simp [StmM.form, StmM.body])
    have hax := O1.out
    rw [HF.out] at hax
    have HA := Lib.hid hax
    clear hax
    go_wp2
    go_ret
    exact ⟨aa1, n1, cc1, rfl, Lib.hid HA.out.len, HA.out.own.base_ (by rw [HG.out]; exact Nat.le_of_lt HX.out.lt), by rw [HG.out]; exact BV.out.trans (HA.out.bel.mono (Nat.le_of_lt HX.out.lt))⟩
  by_cases k5 : kind = 5
  · subst k5
    as_aux_lemma =>
    have HLN := Lib.hid (StmM.may_lens HM.out)
    obtain ⟨d0, d1, d2, d3, d4, d5, d6, d7, d8, d9⟩ := (HX.out.below O0.out.bel HX.out.lt).c10
    clear d1 d2 d3 d5 d6 d7 d8 d9
    go_wp2_with fail
    refine (reffixed_any key 8 w0 HAT.out.ok.hkey (by omega)).mono ?_
    rintro e v0 ⟨P0, p0, q0, rfl, hp0, op0, hq0⟩
    have hl0 : p0 ≤ 8 := (by have := hp0.out; rw [CodeM.fx_length] at this; omega)
    have HP0 := Lib.hid (And.intro hp0.out (And.intro op0 hq0))
    have hz0 := O0.out.le
    have hy0 := below_join O0.out.bel hq0
    have hx0 := hy0.size
    clear d0 d4 hp0 op0 hq0
    go_wp2_with (at_builtin; refine wpl_app' _ rfl (.tmp 28) (.tmp 31) rfl VB.heap.size aa0 cc0 l0 n0 rfl O0.out.len (O0.out.own.below HP0.out.2.2) P0 q0 (CodeM.fx 8 key) p0 rfl HP0.out.1 HP0.out.2.1.row (by omega) (by omega) ?_)
    intro aa1 cc1 w1 ho0 hg0 _
    have O1' : Hid (Acc VB aa1 (n0 + p0) cc1 (l0 ++ (CodeM.fx 8 key)) 9 w1) := Lib.hid (O0.out.app HP0.out.2.2 ho0 HP0.out.1 hg0 (Nat.add_le_add_left hl0 _))
    clear hl0 HP0 hz0 hy0 hx0 ho0 hg0
    obtain ⟨l1, hl1⟩ : ∃ l, l0 ++ (CodeM.fx 8 key) = l := ⟨_, rfl⟩
    obtain ⟨n1, hn1⟩ : ∃ n, n0 + p0 = n := ⟨_, rfl⟩
    have O1 : Hid (Acc VB aa1 n1 cc1 l1 9 w1) := Lib.hid (by have := O1'.out; rw [hl1, hn1] at this; exact this)
    have HL1 := Lib.hid hl1
    rw [hn1]
    clear hl1 hn1 O1' O0
    obtain ⟨d0, d1, d2, d3, d4, d5, d6, d7, d8, d9⟩ := (HX.out.below O1.out.bel HX.out.lt).c10
    clear d0 d1 d2 d3 d4 d6 d7 d8 d9
    go_wp2_with fail
    refine (reffixed_any till 8 w1 HAT.out.ok.hto (by omega)).mono ?_
    rintro e v1 ⟨P1, p1, q1, rfl, hp1, op1, hq1⟩
    have hl1 : p1 ≤ 8 := (by have := hp1.out; rw [CodeM.fx_length] at this; omega)
    have HP1 := Lib.hid (And.intro hp1.out (And.intro op1 hq1))
    have hz1 := O1.out.le
    have hy1 := below_join O1.out.bel hq1
    have hx1 := hy1.size
    clear d5 hp1 op1 hq1
    go_wp2_with (at_builtin; refine wpl_app' _ rfl (.tmp 33) (.tmp 36) rfl VB.heap.size aa1 cc1 l1 n1 rfl O1.out.len (O1.out.own.below HP1.out.2.2) P1 q1 (CodeM.fx 8 till) p1 rfl HP1.out.1 HP1.out.2.1.row (by omega) (by omega) ?_)
    intro aa2 cc2 w2 ho1 hg1 _
    have O2' : Hid (Acc VB aa2 (n1 + p1) cc2 (l1 ++ (CodeM.fx 8 till)) 17 w2) := Lib.hid (O1.out.app HP1.out.2.2 ho1 HP1.out.1 hg1 (Nat.add_le_add_left hl1 _))
    clear hl1 HP1 hz1 hy1 hx1 ho1 hg1
    obtain ⟨l2, hl2⟩ : ∃ l, l1 ++ (CodeM.fx 8 till) = l := ⟨_, rfl⟩
    obtain ⟨n2, hn2⟩ : ∃ n, n1 + p1 = n := ⟨_, rfl⟩
    have O2 : Hid (Acc VB aa2 n2 cc2 l2 17 w2) := Lib.hid (by have := O2'.out; rw [hl2, hn2] at this; exact this)
    have HL2 := Lib.hid hl2
    rw [hn2]
    clear hl2 hn2 O2' O1
    obtain ⟨d0, d1, d2, d3, d4, d5, d6, d7, d8, d9⟩ := (HX.out.below O2.out.bel HX.out.lt).c10
    clear d0 d1 d2 d3 d4 d5 d7 d8 d9
    have hbw2 := StmM.b8_wrap (n)
    have hz2 := O2.out.le
    have hx2 := O2.out.bel.size
    go_wp2_with (at_builtin; refine wpl_app' _ rfl (.tmp 38) (.tmp 42) rfl VB.heap.size aa2 cc2 l2 n2 rfl O2.out.len (O2.out.own.alloc _) (some ⟨w2.heap.size, 0, none⟩) 1 [StmM.b8 n] 1 rfl rfl (row_one w2 _ (StmM.b8 n) rfl) (by omega) (by first | omega | (simp; omega)) ?_)
    intro aa3 cc3 w3 ho2 hg2 _
    have O3' : Hid (Acc VB aa3 (n2 + 1) cc3 (l2 ++ [StmM.b8 n]) 18 w3) := Lib.hid (O2.out.app (k := 1) (m := [StmM.b8 n]) ((Below.refl _ _).alloc (Nat.le_refl _) _) ho2 rfl hg2 (Nat.le_refl _))
    clear d6 hbw2 hz2 hx2 ho2 hg2
    obtain ⟨l3, hl3⟩ : ∃ l, l2 ++ ([StmM.b8 n]) = l := ⟨_, rfl⟩
    obtain ⟨n3, hn3⟩ : ∃ n, n2 + 1 = n := ⟨_, rfl⟩
    have O3 : Hid (Acc VB aa3 n3 cc3 l3 18 w3) := Lib.hid (by have := O3'.out; rw [hl3, hn3] at this; exact this)
    have HL3 := Lib.hid hl3
    rw [hn3]
    clear hl3 hn3 O3' O2
    have HF : Hid (l3 = StmM.form ⟨5, ⟨ik, vec, note⟩, key, till, n, q, fl, sc⟩) := Lib.hid (by
      rw [← HL3.out, ← HL2.out, ← HL1.out, ← HL0.out]
      simp [StmM.form, StmM.body])
    have hax := O3.out
    rw [HF.out] at hax
    have HA := Lib.hid hax
    clear hax
    go_wp2
    go_ret
    exact ⟨aa3, n3, cc3, rfl, Lib.hid HA.out.len, HA.out.own.base_ (by rw [HG.out]; exact Nat.le_of_lt HX.out.lt), by rw [HG.out]; exact BV.out.trans (HA.out.bel.mono (Nat.le_of_lt HX.out.lt))⟩
  by_cases k6 : kind = 6
  · subst k6
    as_aux_lemma =>
    have HLN := Lib.hid (StmM.may_lens HM.out)
    obtain ⟨d0, d1, d2, d3, d4, d5, d6, d7, d8, d9⟩ := (HX.out.below O0.out.bel HX.out.lt).c10
    clear d1 d2 d3 d4 d5 d7 d8 d9
    have hbw0 := StmM.b8_wrap (n)
    have hz0 := O0.out.le
    have hx0 := O0.out.bel.size
    go_wp2_with (at_builtin; refine wpl_app' _ rfl (.tmp 46) (.tmp 50) rfl VB.heap.size aa0 cc0 l0 n0 rfl O0.out.len (O0.out.own.alloc _) (some ⟨w0.heap.size, 0, none⟩) 1 [StmM.b8 n] 1 rfl rfl (row_one w0 _ (StmM.b8 n) rfl) (by omega) (by first | omega | (simp; omega)) ?_)
    intro aa1 cc1 w1 ho0 hg0 _
    have O1' : Hid (Acc VB aa1 (n0 + 1) cc1 (l0 ++ [StmM.b8 n]) 2 w1) := Lib.hid (O0.out.app (k := 1) (m := [StmM.b8 n]) ((Below.refl _ _).alloc (Nat.le_refl _) _) ho0 rfl hg0 (Nat.le_refl _))
    clear d0 d6 hbw0 hz0 hx0 ho0 hg0
    obtain ⟨l1, hl1⟩ : ∃ l, l0 ++ ([StmM.b8 n]) = l := ⟨_, rfl⟩
    obtain ⟨n1, hn1⟩ : ∃ n, n0 + 1 = n := ⟨_, rfl⟩
    have O1 : Hid (Acc VB aa1 n1 cc1 l1 2 w1) := Lib.hid (by have := O1'.out; rw [hl1, hn1] at this; exact this)
    have HL1 := Lib.hid hl1
    rw [hn1]
    clear hl1 hn1 O1' O0
    have hwq : IntKind.u64.wrap (q.length : Int) = (q.length : Int) := by have h3 := HLN.out; rw [IntKind.wrap_u64]; omega
    obtain ⟨d0, d1, d2, d3, d4, d5, d6, d7, d8, d9⟩ := (HX.out.below O1.out.bel HX.out.lt).c10
    clear d0 d1 d2 d3 d4 d5 d6 d8 d9
    go_wp2_with fail
    refine (refputuv_any q.length w1 (by have h3 := HLN.out; omega)).mono ?_
    rintro e v1 ⟨P1, p1, q1, rfl, hp1, op1, hq1⟩
    have hl1 : p1 ≤ 10 := (by have h1 := hp1.out; have h2 := (CodeM.uv_length q.length).2; omega)
    have HP1 := Lib.hid (And.intro hp1.out (And.intro op1 hq1))
    have hz1 := O1.out.le
    have hy1 := below_join O1.out.bel hq1
    have hx1 := hy1.size
    clear d7 hp1 op1 hq1
    go_wp2_with (at_builtin; refine wpl_app' _ rfl (.tmp 52) (.tmp 57) rfl VB.heap.size aa1 cc1 l1 n1 rfl O1.out.len (O1.out.own.below HP1.out.2.2) P1 q1 (CodeM.uv q.length) p1 rfl HP1.out.1 HP1.out.2.1.row (by omega) (by omega) ?_)
    intro aa2 cc2 w2 ho1 hg1 _
    have O2' : Hid (Acc VB aa2 (n1 + p1) cc2 (l1 ++ (CodeM.uv q.length)) 12 w2) := Lib.hid (O1.out.app HP1.out.2.2 ho1 HP1.out.1 hg1 (Nat.add_le_add_left hl1 _))
    clear hl1 HP1 hz1 hy1 hx1 ho1 hg1
    obtain ⟨l2, hl2⟩ : ∃ l, l1 ++ (CodeM.uv q.length) = l := ⟨_, rfl⟩
    obtain ⟨n2, hn2⟩ : ∃ n, n1 + p1 = n := ⟨_, rfl⟩
    have O2 : Hid (Acc VB aa2 n2 cc2 l2 12 w2) := Lib.hid (by have := O2'.out; rw [hl2, hn2] at this; exact this)
    have HL2 := Lib.hid hl2
    rw [hn2]
    clear hl2 hn2 O2' O1
    clear hwq
    have hqn := HLN.out.2.2.1
    have HQV := Lib.hid HAT.out.ok.hq
    have HN2 := Lib.hid O2.out.len
    have hn12 := O2.out.le
    go_wp2
    go_loopw [3, 4] (fun b i wr => ∃ (k : Nat) (A3 : Option Addr) (c3 : Nat), i = .int .i64 k ∧ k ≤ q.length ∧ b = .slice A3 (n2 + 4 * k) c3 ∧ Own wr VB.heap.size A3 c3 (l2 ++ ItemM.vb (q.take k)) ∧ Below VB.heap.size VB wr) (fun _ i _ => q.length - (RowKit.intOf i).toNat)
    case atStart => exact ⟨0, aa2, cc2, rfl, by omega, rfl, by simpa [ItemM.vb] using O2.out.own, O2.out.bel⟩
    case round =>
      obtain ⟨k, A4, c4, rfl, hk2, rfl, hO, hbel⟩ := hrel
      have hsz := hbel.size
      have HL : Hid ((l2 ++ ItemM.vb (q.take k)).length = n2 + 4 * k) := Lib.hid (by rw [List.length_append, HN2.out, ItemM.vb_length, List.length_take]; omega)
      have d7 := (HX.out.below hbel HX.out.lt).c10.2.2.2.2.2.2.2.1
      by_cases hlt : k < q.length
      · obtain ⟨v, hu⟩ : ∃ u, q[k]? = some u := ⟨_, List.getElem?_eq_getElem hlt⟩
        obtain ⟨b, o, rfl, e1⟩ := row_i32 (HAT.out.r3.below hbel) hu
        have hvr := HQV.out v (List.mem_of_getElem? hu)
        have HS : Hid (ItemM.vb (q.take (k + 1)) = ItemM.vb (q.take k) ++ CodeM.fx 4 (ItemM.u32 v)) := Lib.hid (by rw [← ItemM.vb_snoc, List.take_add_one, hu]; rfl)
        have hm1 : (v % 4294967296) = ((ItemM.u32 v : Nat) : Int) := by unfold ItemM.u32; omega
        have hm2 : IntKind.u32.wrap v = ((ItemM.u32 v : Nat) : Int) := by rw [IntKind.wrap_u32]; exact hm1
        have hm3 := ItemM.u32_lt v
        obtain ⟨m, em⟩ : ∃ m, ItemM.u32 v = m := ⟨_, rfl⟩
        rw [em] at HS hm1 hm2 hm3
        have hm4 : IntKind.u64.wrap (m : Int) = (m : Int) := by rw [IntKind.wrap_u64]; omega
        have HO := Lib.hid hO
        have HQ := Lib.hid hbel
        clear hu em hO hbel
        go_wp2_with fail
        refine (reffixed_any m 4 wr (by omega) (by omega)).mono ?_
        rintro e w5 ⟨P5, n5, e5, rfl, hn5, o5, hb5⟩
        have o4 := HO.out.below hb5
        have hb45 := below_step HQ.out hb5 (Nat.le_refl _)
        have hs5 := hb45.size
        have hn5' : n5 = 4 := by have := hn5.out; rw [CodeM.fx_length] at this; exact this.symm
        subst hn5'
        go_wp2_with (at_builtin; refine wpl_app' _ rfl (.tmp 66) (.tmp 74) rfl VB.heap.size A4 c4 (l2 ++ ItemM.vb (q.take k)) (n2 + 4 * k) rfl HL.out o4 P5 e5 (CodeM.fx 4 m) 4 rfl (CodeM.fx_length 4 m) o5.row ?_ ?_ ?_)
        · omega
        · omega
        intro A6 c6 w6 o6 hg6 _
        have hb6 : Below VB.heap.size VB w6 := o4.grown_below (by rw [HL.out]) hg6 hb45 (Nat.le_refl _) hs5
        clear o4 o5 hg6 hb5 hb45
        go_wp2
        go_roundw
        case rel => exact ⟨k + 1, A6, c6, by go_num, by omega, rfl, by rw [HS.out]; simpa using o6, hb6⟩
        case measure => simp [RowKit.intOf]; omega
      · obtain rfl : k = q.length := by omega
        rw [List.take_length] at hO HL
        have HO := Lib.hid hO
        have HQ := Lib.hid hbel
        have HF : Hid (l2 ++ ItemM.vb q = StmM.form ⟨6, ⟨ik, vec, note⟩, key, till, n, q, fl, sc⟩) := Lib.hid (by
          rw [← HL2.out, ← HL1.out, ← HL0.out]
          simp [StmM.form, StmM.body])
        clear hO hbel
        go_wp2
        go_ret
        exact ⟨A4, _, c4, rfl, Lib.hid (by rw [← HF.out]; exact HL.out), by rw [← HF.out]; exact HO.out.base_ (by rw [HG.out]; exact Nat.le_of_lt HX.out.lt), by rw [HG.out]; exact BV.out.trans (HQ.out.mono (Nat.le_of_lt HX.out.lt))⟩
  by_cases k7 : kind = 7
  · subst k7
    as_aux_lemma =>
    have HLN := Lib.hid (StmM.may_lens HM.out)
    obtain ⟨d0, d1, d2, d3, d4, d5, d6, d7, d8, d9⟩ := (HX.out.below O0.out.bel HX.out.lt).c10
    clear d1 d2 d3 d4 d5 d6 d7 d8 d9
    have HF : Hid (l0 = StmM.form ⟨7, ⟨ik, vec, note⟩, key, till, n, q, fl, sc⟩) := Lib.hid (by
      rw [← HL0.out]
      simp [StmM.form, StmM.body])
    have hax := O0.out
    rw [HF.out] at hax
    have HA := Lib.hid hax
    clear hax
    go_wp2
    go_ret
    exact ⟨aa0, n0, cc0, rfl, Lib.hid HA.out.len, HA.out.own.base_ (by rw [HG.out]; exact Nat.le_of_lt HX.out.lt), by rw [HG.out]; exact BV.out.trans (HA.out.bel.mono (Nat.le_of_lt HX.out.lt))⟩
  by_cases k8 : kind = 8
  · subst k8
    as_aux_lemma =>
    have HLN := Lib.hid (StmM.may_lens HM.out)
    obtain ⟨d0, d1, d2, d3, d4, d5, d6, d7, d8, d9⟩ := (HX.out.below O0.out.bel HX.out.lt).c10
    clear d1 d2 d3 d4 d5 d6 d7 d8 d9
    have HF : Hid (l0 = StmM.form ⟨8, ⟨ik, vec, note⟩, key, till, n, q, fl, sc⟩) := Lib.hid (by
      rw [← HL0.out]
      simp [StmM.form, StmM.body])
    have hax := O0.out
    rw [HF.out] at hax
    have HA := Lib.hid hax
    clear hax
    go_wp2
    go_ret
    exact ⟨aa0, n0, cc0, rfl, Lib.hid HA.out.len, HA.out.own.base_ (by rw [HG.out]; exact Nat.le_of_lt HX.out.lt), by rw [HG.out]; exact BV.out.trans (HA.out.bel.mono (Nat.le_of_lt HX.out.lt))⟩
  by_cases k9 : kind = 9
  · subst k9
    as_aux_lemma =>
    have HLN := Lib.hid (StmM.may_lens HM.out)
    obtain ⟨d0, d1, d2, d3, d4, d5, d6, d7, d8, d9⟩ := (HX.out.below O0.out.bel HX.out.lt).c10
    clear d1 d2 d3 d4 d5 d6 d7 d8 d9
    have HF : Hid (l0 = StmM.form ⟨9, ⟨ik, vec, note⟩, key, till, n, q, fl, sc⟩) := Lib.hid (by
      rw [← HL0.out]
      simp [StmM.form, StmM.body])
    have hax := O0.out
    rw [HF.out] at hax
    have HA := Lib.hid hax
    clear hax
    go_wp2
    go_ret
    exact ⟨aa0, n0, cc0, rfl, Lib.hid HA.out.len, HA.out.own.base_ (by rw [HG.out]; exact Nat.le_of_lt HX.out.lt), by rw [HG.out]; exact BV.out.trans (HA.out.bel.mono (Nat.le_of_lt HX.out.lt))⟩
  by_cases k10 : kind = 10
  · subst k10
    as_aux_lemma =>
    have HLN := Lib.hid (StmM.may_lens HM.out)
    obtain ⟨d0, d1, d2, d3, d4, d5, d6, d7, d8, d9⟩ := (HX.out.below O0.out.bel HX.out.lt).c10
    clear d2 d3 d4 d5 d6 d7 d8 d9
    go_wp2_with fail
    refine (reffixed_any ik 8 w0 HAT.out.ok.hit.hk (by omega)).mono ?_
    rintro e v0 ⟨P0, p0, q0, rfl, hp0, op0, hq0⟩
    have hl0 : p0 ≤ 8 := (by have := hp0.out; rw [CodeM.fx_length] at this; omega)
    have HP0 := Lib.hid (And.intro hp0.out (And.intro op0 hq0))
    have hz0 := O0.out.le
    have hy0 := below_join O0.out.bel hq0
    have hx0 := hy0.size
    clear d0 d1 hp0 op0 hq0
    go_wp2_with (at_builtin; refine wpl_app' _ rfl (.tmp 78) (.tmp 82) rfl VB.heap.size aa0 cc0 l0 n0 rfl O0.out.len (O0.out.own.below HP0.out.2.2) P0 q0 (CodeM.fx 8 ik) p0 rfl HP0.out.1 HP0.out.2.1.row (by omega) (by omega) ?_)
    intro aa1 cc1 w1 ho0 hg0 _
    have O1' : Hid (Acc VB aa1 (n0 + p0) cc1 (l0 ++ (CodeM.fx 8 ik)) 9 w1) := Lib.hid (O0.out.app HP0.out.2.2 ho0 HP0.out.1 hg0 (Nat.add_le_add_left hl0 _))
    clear hl0 HP0 hz0 hy0 hx0 ho0 hg0
    obtain ⟨l1, hl1⟩ : ∃ l, l0 ++ (CodeM.fx 8 ik) = l := ⟨_, rfl⟩
    obtain ⟨n1, hn1⟩ : ∃ n, n0 + p0 = n := ⟨_, rfl⟩
    have O1 : Hid (Acc VB aa1 n1 cc1 l1 9 w1) := Lib.hid (by have := O1'.out; rw [hl1, hn1] at this; exact this)
    have HL1 := Lib.hid hl1
    rw [hn1]
    clear hl1 hn1 O1' O0
    obtain ⟨d0, d1, d2, d3, d4, d5, d6, d7, d8, d9⟩ := (HX.out.below O1.out.bel HX.out.lt).c10
    clear d0 d1 d2 d3 d4 d5 d6 d7 d8
    have hbw1 := StmM.b8_wrap (sc)
    have hz1 := O1.out.le
    have hx1 := O1.out.bel.size
    go_wp2_with (at_builtin; refine wpl_app' _ rfl (.tmp 84) (.tmp 88) rfl VB.heap.size aa1 cc1 l1 n1 rfl O1.out.len (O1.out.own.alloc _) (some ⟨w1.heap.size, 0, none⟩) 1 [StmM.b8 sc] 1 rfl rfl (row_one w1 _ (StmM.b8 sc) rfl) (by omega) (by first | omega | (simp; omega)) ?_)
    intro aa2 cc2 w2 ho1 hg1 _
    have O2' : Hid (Acc VB aa2 (n1 + 1) cc2 (l1 ++ [StmM.b8 sc]) 10 w2) := Lib.hid (O1.out.app (k := 1) (m := [StmM.b8 sc]) ((Below.refl _ _).alloc (Nat.le_refl _) _) ho1 rfl hg1 (Nat.le_refl _))
    clear d9 hbw1 hz1 hx1 ho1 hg1
    obtain ⟨l2, hl2⟩ : ∃ l, l1 ++ ([StmM.b8 sc]) = l := ⟨_, rfl⟩
    obtain ⟨n2, hn2⟩ : ∃ n, n1 + 1 = n := ⟨_, rfl⟩
    have O2 : Hid (Acc VB aa2 n2 cc2 l2 10 w2) := Lib.hid (by have := O2'.out; rw [hl2, hn2] at this; exact this)
    have HL2 := Lib.hid hl2
    rw [hn2]
    clear hl2 hn2 O2' O1
    obtain ⟨d0, d1, d2, d3, d4, d5, d6, d7, d8, d9⟩ := (HX.out.below O2.out.bel HX.out.lt).c10
    clear d0 d1 d2 d3 d4 d5 d6 d7 d9
    go_wp2_with fail
    refine (reffloats_any FA fc fl w2 (HAT.out.r4.below O2.out.bel) HLN.out.2.2.2 HAT.out.ok.hfl).mono ?_
    rintro e v2 ⟨P2, p2, q2, rfl, hp2, op2, hq2⟩
    have hl2 : p2 ≤ 40000 := (by have h1 := hp2.out; have h2 := (CodeM.uv_length fl.length).2; have h3 := HLN.out; rw [List.length_append, fb_length] at h1; omega)
    have HP2 := Lib.hid (And.intro hp2.out (And.intro op2 hq2))
    have hz2 := O2.out.le
    have hy2 := below_join O2.out.bel hq2
    have hx2 := hy2.size
    clear d8 hp2 op2 hq2
    go_wp2_with (at_builtin; refine wpl_app' _ rfl (.tmp 90) (.tmp 93) rfl VB.heap.size aa2 cc2 l2 n2 rfl O2.out.len (O2.out.own.below HP2.out.2.2) P2 q2 (CodeM.uv fl.length ++ fb fl) p2 rfl HP2.out.1 HP2.out.2.1.row (by omega) (by omega) ?_)
    intro aa3 cc3 w3 ho2 hg2 _
    have O3' : Hid (Acc VB aa3 (n2 + p2) cc3 (l2 ++ (CodeM.uv fl.length ++ fb fl)) 40010 w3) := Lib.hid (O2.out.app HP2.out.2.2 ho2 HP2.out.1 hg2 (Nat.add_le_add_left hl2 _))
    clear hl2 HP2 hz2 hy2 hx2 ho2 hg2
    obtain ⟨l3, hl3⟩ : ∃ l, l2 ++ (CodeM.uv fl.length ++ fb fl) = l := ⟨_, rfl⟩
    obtain ⟨n3, hn3⟩ : ∃ n, n2 + p2 = n := ⟨_, rfl⟩
    have O3 : Hid (Acc VB aa3 n3 cc3 l3 40010 w3) := Lib.hid (by have := O3'.out; rw [hl3, hn3] at this; exact this)
    have HL3 := Lib.hid hl3
    rw [hn3]
    clear hl3 hn3 O3' O2
    obtain ⟨d0, d1, d2, d3, d4, d5, d6, d7, d8, d9⟩ := (HX.out.below O3.out.bel HX.out.lt).c10
    clear d0 d1 d2 d4 d5 d6 d7 d8 d9
    go_wp2_with fail
    refine (reftxt_any A2 c2 note w3 (HAT.out.r2.below O3.out.bel) (by have h3 := HLN.out; omega)).mono ?_
    rintro e v3 ⟨P3, p3, q3, rfl, hp3, op3, hq3⟩
    have hl3 : p3 ≤ 2000 := (by have h1 := hp3.out; have h2 := (CodeM.uv_length note.length).2; have h3 := HLN.out; unfold CodeM.tx at h1; rw [List.length_append] at h1; omega)
    have HP3 := Lib.hid (And.intro hp3.out (And.intro op3 hq3))
    have hz3 := O3.out.le
    have hy3 := below_join O3.out.bel hq3
    have hx3 := hy3.size
    clear d3 hp3 op3 hq3
    go_wp2_with (at_builtin; refine wpl_app' _ rfl (.tmp 95) (.tmp 99) rfl VB.heap.size aa3 cc3 l3 n3 rfl O3.out.len (O3.out.own.below HP3.out.2.2) P3 q3 (CodeM.tx note) p3 rfl HP3.out.1 HP3.out.2.1.row (by omega) (by omega) ?_)
    intro aa4 cc4 w4 ho3 hg3 _
    have O4' : Hid (Acc VB aa4 (n3 + p3) cc4 (l3 ++ (CodeM.tx note)) 42010 w4) := Lib.hid (O3.out.app HP3.out.2.2 ho3 HP3.out.1 hg3 (Nat.add_le_add_left hl3 _))
    clear hl3 HP3 hz3 hy3 hx3 ho3 hg3
    obtain ⟨l4, hl4⟩ : ∃ l, l3 ++ (CodeM.tx note) = l := ⟨_, rfl⟩
    obtain ⟨n4, hn4⟩ : ∃ n, n3 + p3 = n := ⟨_, rfl⟩
    have O4 : Hid (Acc VB aa4 n4 cc4 l4 42010 w4) := Lib.hid (by have := O4'.out; rw [hl4, hn4] at this; exact this)
    have HL4 := Lib.hid hl4
    rw [hn4]
    clear hl4 hn4 O4' O3
    have HF : Hid (l4 = StmM.form ⟨10, ⟨ik, vec, note⟩, key, till, n, q, fl, sc⟩) := Lib.hid (by
      rw [← HL4.out, ← HL3.out, ← HL2.out, ← HL1.out, ← HL0.out]
      simp [StmM.form, StmM.body])
    have hax := O4.out
    rw [HF.out] at hax
    have HA := Lib.hid hax
    clear hax
    go_wp2
    go_ret
    exact ⟨aa4, n4, cc4, rfl, Lib.hid HA.out.len, HA.out.own.base_ (by rw [HG.out]; exact Nat.le_of_lt HX.out.lt), by rw [HG.out]; exact BV.out.trans (HA.out.bel.mono (Nat.le_of_lt HX.out.lt))⟩
  by_cases k11 : kind = 11
  · subst k11
    as_aux_lemma =>
    have HLN := Lib.hid (StmM.may_lens HM.out)
    obtain ⟨d0, d1, d2, d3, d4, d5, d6, d7, d8, d9⟩ := (HX.out.below O0.out.bel HX.out.lt).c10
    clear d1 d2 d3 d4 d5 d7 d8 d9
    have hbw0 := StmM.b8_wrap (n)
    have hz0 := O0.out.le
    have hx0 := O0.out.bel.size
    go_wp2_with (at_builtin; refine wpl_app' _ rfl (.tmp 103) (.tmp 107) rfl VB.heap.size aa0 cc0 l0 n0 rfl O0.out.len (O0.out.own.alloc _) (some ⟨w0.heap.size, 0, none⟩) 1 [StmM.b8 n] 1 rfl rfl (row_one w0 _ (StmM.b8 n) rfl) (by omega) (by first | omega | (simp; omega)) ?_)
    intro aa1 cc1 w1 ho0 hg0 _
    have O1' : Hid (Acc VB aa1 (n0 + 1) cc1 (l0 ++ [StmM.b8 n]) 2 w1) := Lib.hid (O0.out.app (k := 1) (m := [StmM.b8 n]) ((Below.refl _ _).alloc (Nat.le_refl _) _) ho0 rfl hg0 (Nat.le_refl _))
    clear d0 d6 hbw0 hz0 hx0 ho0 hg0
    obtain ⟨l1, hl1⟩ : ∃ l, l0 ++ ([StmM.b8 n]) = l := ⟨_, rfl⟩
    obtain ⟨n1, hn1⟩ : ∃ n, n0 + 1 = n := ⟨_, rfl⟩
    have O1 : Hid (Acc VB aa1 n1 cc1 l1 2 w1) := Lib.hid (by have := O1'.out; rw [hl1, hn1] at this; exact this)
    have HL1 := Lib.hid hl1
    rw [hn1]
    clear hl1 hn1 O1' O0
    obtain ⟨d0, d1, d2, d3, d4, d5, d6, d7, d8, d9⟩ := (HX.out.below O1.out.bel HX.out.lt).c10
    clear d0 d1 d2 d3 d4 d5 d6 d7 d8
    have hbw1 := StmM.b8_wrap (sc)
    have hz1 := O1.out.le
    have hx1 := O1.out.bel.size
    go_wp2_with (at_builtin; refine wpl_app' _ rfl (.tmp 109) (.tmp 113) rfl VB.heap.size aa1 cc1 l1 n1 rfl O1.out.len (O1.out.own.alloc _) (some ⟨w1.heap.size, 0, none⟩) 1 [StmM.b8 sc] 1 rfl rfl (row_one w1 _ (StmM.b8 sc) rfl) (by omega) (by first | omega | (simp; omega)) ?_)
    intro aa2 cc2 w2 ho1 hg1 _
    have O2' : Hid (Acc VB aa2 (n1 + 1) cc2 (l1 ++ [StmM.b8 sc]) 3 w2) := Lib.hid (O1.out.app (k := 1) (m := [StmM.b8 sc]) ((Below.refl _ _).alloc (Nat.le_refl _) _) ho1 rfl hg1 (Nat.le_refl _))
    clear d9 hbw1 hz1 hx1 ho1 hg1
    obtain ⟨l2, hl2⟩ : ∃ l, l1 ++ ([StmM.b8 sc]) = l := ⟨_, rfl⟩
    obtain ⟨n2, hn2⟩ : ∃ n, n1 + 1 = n := ⟨_, rfl⟩
    have O2 : Hid (Acc VB aa2 n2 cc2 l2 3 w2) := Lib.hid (by have := O2'.out; rw [hl2, hn2] at this; exact this)
    have HL2 := Lib.hid hl2
    rw [hn2]
    clear hl2 hn2 O2' O1
    obtain ⟨d0, d1, d2, d3, d4, d5, d6, d7, d8, d9⟩ := (HX.out.below O2.out.bel HX.out.lt).c10
    clear d0 d1 d2 d3 d4 d5 d6 d7 d9
    go_wp2_with fail
    refine (reffloats_any FA fc fl w2 (HAT.out.r4.below O2.out.bel) HLN.out.2.2.2 HAT.out.ok.hfl).mono ?_
    rintro e v2 ⟨P2, p2, q2, rfl, hp2, op2, hq2⟩
    have hl2 : p2 ≤ 40000 := (by have h1 := hp2.out; have h2 := (CodeM.uv_length fl.length).2; have h3 := HLN.out; rw [List.length_append, fb_length] at h1; omega)
    have HP2 := Lib.hid (And.intro hp2.out (And.intro op2 hq2))
    have hz2 := O2.out.le
    have hy2 := below_join O2.out.bel hq2
    have hx2 := hy2.size
    clear d8 hp2 op2 hq2
    go_wp2_with (at_builtin; refine wpl_app' _ rfl (.tmp 115) (.tmp 118) rfl VB.heap.size aa2 cc2 l2 n2 rfl O2.out.len (O2.out.own.below HP2.out.2.2) P2 q2 (CodeM.uv fl.length ++ fb fl) p2 rfl HP2.out.1 HP2.out.2.1.row (by omega) (by omega) ?_)
    intro aa3 cc3 w3 ho2 hg2 _
    have O3' : Hid (Acc VB aa3 (n2 + p2) cc3 (l2 ++ (CodeM.uv fl.length ++ fb fl)) 40003 w3) := Lib.hid (O2.out.app HP2.out.2.2 ho2 HP2.out.1 hg2 (Nat.add_le_add_left hl2 _))
    clear hl2 HP2 hz2 hy2 hx2 ho2 hg2
    obtain ⟨l3, hl3⟩ : ∃ l, l2 ++ (CodeM.uv fl.length ++ fb fl) = l := ⟨_, rfl⟩
    obtain ⟨n3, hn3⟩ : ∃ n, n2 + p2 = n := ⟨_, rfl⟩
    have O3 : Hid (Acc VB aa3 n3 cc3 l3 40003 w3) := Lib.hid (by have := O3'.out; rw [hl3, hn3] at this; exact this)
    have HL3 := Lib.hid hl3
    rw [hn3]
    clear hl3 hn3 O3' O2
    have HF : Hid (l3 = StmM.form ⟨11, ⟨ik, vec, note⟩, key, till, n, q, fl, sc⟩) := Lib.hid (by
      rw [← HL3.out, ← HL2.out, ← HL1.out, ← HL0.out]
      simp [StmM.form, StmM.body])
    have hax := O3.out
    rw [HF.out] at hax
    have HA := Lib.hid hax
    clear hax
    go_wp2
    go_ret
    exact ⟨aa3, n3, cc3, rfl, Lib.hid HA.out.len, HA.out.own.base_ (by rw [HG.out]; exact Nat.le_of_lt HX.out.lt), by rw [HG.out]; exact BV.out.trans (HA.out.bel.mono (Nat.le_of_lt HX.out.lt))⟩
  exfalso
  obtain ⟨q1, q2, _⟩ := (StmM.may_iff _).1 HM.out
  simp only at q1 q2
  omega
end Go.Proofs.Ytaadfalklddhcaa
