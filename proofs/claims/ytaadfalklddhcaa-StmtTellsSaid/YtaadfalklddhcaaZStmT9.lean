/-
  A reply's form, by the document's word.
  Conditions: the reply may be; its lists lie in memory.
-/
import Derived.Test.YtaadfalklddhcaaZStmT5
import Derived.Test.YtaadfalklddhcaaZStmS4
namespace Go.Proofs.Ytaadfalklddhcaa
open Go.RowKit Go.Sort Go.Lib
set_option linter.unusedVariables false
set_option linter.unusedSimpArgs false
set_option maxRecDepth 100000 in
set_option maxHeartbeats 16000000 in
theorem refformtell_any (s : Rpv) (w : World) (hs : s.At w) (hm : RepM.mayR s.x = true) : Calls Try.prog 27 #[.agg s.cells] w (NewB (RepM.formR s.x) w) := by
  obtain ⟨kind, mark, err, pl, i, IA, ic, its, HA, hc, hits⟩ := s
  have HSA := Lib.hid hs
  have HM : Hid (RepM.mayR ⟨kind, mark, err, pl, i.x, its.map (·.x), hits⟩ = true) := Lib.hid hm
  have HK := Lib.hid ((RepM.mayR_iff _).1 HM.out).1
  clear hs hm
  show Calls _ _ _ _ (NewB (RepM.formR ⟨kind, mark, err, pl, i.x, its.map (·.x), hits⟩) w)
  simp only [Rpv.cells]
  have b0 : Below w.heap.size w (w.alloc (.cells #[.int .i64 kind, .int .i64 mark, .int .i64 err, .int .i64 pl, .int .u64 (i.x.key : Int), .slice i.A i.x.vec.length i.c, .slice i.A2 i.x.note.length i.c2, .slice IA its.length ic, .slice HA hits.length hc] 34)) := (Below.refl _ _).alloc (Nat.le_refl _) _
  have U1 := Blk.new w 34 #[.int .i64 kind, .int .i64 mark, .int .i64 err, .int .i64 pl, .int .u64 (i.x.key : Int), .slice i.A i.x.vec.length i.c, .slice i.A2 i.x.note.length i.c2, .slice IA its.length ic, .slice HA hits.length hc]
  go_enter Try.func27, Try.ntmps27
  go_upto_region 1 with fail
  generalize w.alloc (.cells #[.int .i64 kind, .int .i64 mark, .int .i64 err, .int .i64 pl, .int .u64 (i.x.key : Int), .slice i.A i.x.vec.length i.c, .slice i.A2 i.x.note.length i.c2, .slice IA its.length ic, .slice HA hits.length hc] 34) = VB at *
  obtain ⟨g, hg⟩ : ∃ g, w.heap.size = g := ⟨_, rfl⟩
  have HG := Lib.hid hg
  rw [hg] at U1
  simp only [hg]
  clear hg
  have hkw := StmM.b8_wrap kind
  have d0 := U1.c9.1
  have HX0 := Lib.hid U1
  have HAT0 := Lib.hid (HSA.out.below b0)
  have BV0 : Hid (Below g w VB) := Lib.hid (by rw [← HG.out]; exact b0)
  clear U1 b0 HSA
  go_upto_region 2 with fail
  obtain ⟨V, hV⟩ : ∃ V, VB = V := ⟨_, rfl⟩
  subst hV
  have hba : Below VB.heap.size VB (VB.alloc (.cells #[.int .u8 ((StmM.b8 kind).toNat : Int)] 5)) := (Below.refl _ _).alloc (Nat.le_refl _) _
  have O0 : Hid (Acc VB (some ⟨VB.heap.size, 0, none⟩) 1 1 [StmM.b8 kind] 1 (VB.alloc (.cells #[.int .u8 ((StmM.b8 kind).toNat : Int)] 5))) := Lib.hid ⟨(Bytes.new VB [StmM.b8 kind]).own (Nat.le_refl _) (by unfold maxLen; simp), rfl, Nat.le_refl _, hba⟩
  generalize VB.alloc (.cells #[.int .u8 ((StmM.b8 kind).toNat : Int)] 5) = w0 at *
  obtain ⟨V, hV⟩ : ∃ V, VB = V := ⟨_, rfl⟩
  subst hV
  have HX := HX0
  have HAT := HAT0
  have BV := BV0
  obtain ⟨aa0, hA0⟩ : ∃ A0 : Option Addr, (some ⟨VB.heap.size, 0, none⟩ : Option Addr) = A0 := ⟨_, rfl⟩
  simp only [hA0] at O0 ⊢
  obtain ⟨n0, hn0⟩ : ∃ n : Nat, 1 = n := ⟨_, rfl⟩
  obtain ⟨cc0, hc0⟩ : ∃ n : Nat, 1 = n := ⟨_, rfl⟩
  rw [show Value.slice aa0 1 1 = Value.slice aa0 n0 cc0 by rw [← hn0, ← hc0]]
  replace O0 : Hid (Acc VB aa0 n0 cc0 [StmM.b8 kind] 1 w0) := Lib.hid (by rw [← hn0, ← hc0]; exact O0.out)
  clear hn0 hc0
  obtain ⟨l0, hl0⟩ : ∃ l, [StmM.b8 kind] = l := ⟨_, rfl⟩
  rw [hl0] at O0
  have HL0 := Lib.hid hl0
  clear hba d0 hkw HX0 HAT0 BV0 hA0 hl0
  by_cases k1 : kind = 1
  · subst k1
    as_aux_lemma =>
    obtain ⟨d0, d1, d2, d3, d4, d5, d6, d7, d8⟩ := (HX.out.below O0.out.bel HX.out.lt).c9
    clear d2 d3 d4 d5 d6 d7 d8
    have hbw0 := StmM.b8_wrap (mark)
    have hz0 := O0.out.le
    have hx0 := O0.out.bel.size
    go_wp2_with (at_builtin; refine wpl_app' _ rfl (.tmp 14) (.tmp 18) rfl VB.heap.size aa0 cc0 l0 n0 rfl O0.out.len (O0.out.own.alloc _) (some ⟨w0.heap.size, 0, none⟩) 1 [StmM.b8 mark] 1 rfl rfl (row_one w0 _ (StmM.b8 mark) rfl) (by omega) (by first | omega | (simp; omega)) ?_)
    intro aa1 cc1 w1 ho0 hg0 _
    have O1' : Hid (Acc VB aa1 (n0 + 1) cc1 (l0 ++ [StmM.b8 mark]) 2 w1) := Lib.hid (O0.out.app (k := 1) (m := [StmM.b8 mark]) ((Below.refl _ _).alloc (Nat.le_refl _) _) ho0 rfl hg0 (Nat.le_refl _))
    clear d0 d1 hbw0 hz0 hx0 ho0 hg0
    obtain ⟨l1, hl1⟩ : ∃ l, l0 ++ ([StmM.b8 mark]) = l := ⟨_, rfl⟩
    obtain ⟨n1, hn1⟩ : ∃ n, n0 + 1 = n := ⟨_, rfl⟩
    have O1 : Hid (Acc VB aa1 n1 cc1 l1 2 w1) := Lib.hid (by have := O1'.out; rw [hl1, hn1] at this; exact this)
    have HL1 := Lib.hid hl1
    rw [hn1]
    clear hl1 hn1 O1' O0
    have HF : Hid (l1 = RepM.formR ⟨1, mark, err, pl, i.x, its.map (·.x), hits⟩) := Lib.hid (by
      rw [← HL1.out, ← HL0.out]
      simp [RepM.formR, RepM.bodyR])
    have hax := O1.out
    rw [HF.out] at hax
    have HA := Lib.hid hax
    clear hax
    go_wp2
    go_ret
    exact ⟨aa1, n1, cc1, rfl, Lib.hid HA.out.len, HA.out.own.base_ (by rw [HG.out]; exact Nat.le_of_lt HX.out.lt), by rw [HG.out]; exact BV.out.trans (HA.out.bel.mono (Nat.le_of_lt HX.out.lt))⟩
  by_cases k2 : kind = 2
  · subst k2
    as_aux_lemma =>
    have hpl := (RepM.kOk_2 HK.out rfl).2
    have hwp : IntKind.u64.wrap pl = ((RepM.u64z pl : Nat) : Int) := by rw [IntKind.wrap_u64]; unfold RepM.u64z; (try dsimp only at hpl); omega
    clear hpl
    obtain ⟨d0, d1, d2, d3, d4, d5, d6, d7, d8⟩ := (HX.out.below O0.out.bel HX.out.lt).c9
    clear d1 d3 d4 d5 d6 d7 d8
    have hbw0 := StmM.b8_wrap (err)
    have hz0 := O0.out.le
    have hx0 := O0.out.bel.size
    go_wp2_with (at_builtin; refine wpl_app' _ rfl (.tmp 22) (.tmp 26) rfl VB.heap.size aa0 cc0 l0 n0 rfl O0.out.len (O0.out.own.alloc _) (some ⟨w0.heap.size, 0, none⟩) 1 [StmM.b8 err] 1 rfl rfl (row_one w0 _ (StmM.b8 err) rfl) (by omega) (by first | omega | (simp; omega)) ?_)
    intro aa1 cc1 w1 ho0 hg0 _
    have O1' : Hid (Acc VB aa1 (n0 + 1) cc1 (l0 ++ [StmM.b8 err]) 2 w1) := Lib.hid (O0.out.app (k := 1) (m := [StmM.b8 err]) ((Below.refl _ _).alloc (Nat.le_refl _) _) ho0 rfl hg0 (Nat.le_refl _))
    clear d0 d2 hbw0 hz0 hx0 ho0 hg0
    obtain ⟨l1, hl1⟩ : ∃ l, l0 ++ ([StmM.b8 err]) = l := ⟨_, rfl⟩
    obtain ⟨n1, hn1⟩ : ∃ n, n0 + 1 = n := ⟨_, rfl⟩
    have O1 : Hid (Acc VB aa1 n1 cc1 l1 2 w1) := Lib.hid (by have := O1'.out; rw [hl1, hn1] at this; exact this)
    have HL1 := Lib.hid hl1
    rw [hn1]
    clear hl1 hn1 O1' O0
    obtain ⟨d0, d1, d2, d3, d4, d5, d6, d7, d8⟩ := (HX.out.below O1.out.bel HX.out.lt).c9
    clear d0 d1 d2 d4 d5 d6 d7 d8
    go_wp2_with fail
    refine (reffixed_any (RepM.u64z pl) 2 w1 (RepM.u64z_lt pl) (by omega)).mono ?_
    rintro e v1 ⟨P1, p1, q1, rfl, hp1, op1, hq1⟩
    have hl1 : p1 ≤ 2 := (by have := hp1.out; rw [CodeM.fx_length] at this; omega)
    have HP1 := Lib.hid (And.intro hp1.out (And.intro op1 hq1))
    have hz1 := O1.out.le
    have hy1 := below_join O1.out.bel hq1
    have hx1 := hy1.size
    clear d3 hp1 op1 hq1
    go_wp2_with (at_builtin; refine wpl_app' _ rfl (.tmp 28) (.tmp 32) rfl VB.heap.size aa1 cc1 l1 n1 rfl O1.out.len (O1.out.own.below HP1.out.2.2) P1 q1 (CodeM.fx 2 (RepM.u64z pl)) p1 rfl HP1.out.1 HP1.out.2.1.row (by omega) (by omega) ?_)
    intro aa2 cc2 w2 ho1 hg1 _
    have O2' : Hid (Acc VB aa2 (n1 + p1) cc2 (l1 ++ (CodeM.fx 2 (RepM.u64z pl))) 4 w2) := Lib.hid (O1.out.app HP1.out.2.2 ho1 HP1.out.1 hg1 (Nat.add_le_add_left hl1 _))
    clear hl1 HP1 hz1 hy1 hx1 ho1 hg1
    obtain ⟨l2, hl2⟩ : ∃ l, l1 ++ (CodeM.fx 2 (RepM.u64z pl)) = l := ⟨_, rfl⟩
    obtain ⟨n2, hn2⟩ : ∃ n, n1 + p1 = n := ⟨_, rfl⟩
    have O2 : Hid (Acc VB aa2 n2 cc2 l2 4 w2) := Lib.hid (by have := O2'.out; rw [hl2, hn2] at this; exact this)
    have HL2 := Lib.hid hl2
    rw [hn2]
    clear hl2 hn2 O2' O1
    have HF : Hid (l2 = RepM.formR ⟨2, mark, err, pl, i.x, its.map (·.x), hits⟩) := Lib.hid (by
      rw [← HL2.out, ← HL1.out, ← HL0.out]
      simp [RepM.formR, RepM.bodyR])
    have hax := O2.out
    rw [HF.out] at hax
    have HA := Lib.hid hax
    clear hax
    go_wp2
    go_ret
    exact ⟨aa2, n2, cc2, rfl, Lib.hid HA.out.len, HA.out.own.base_ (by rw [HG.out]; exact Nat.le_of_lt HX.out.lt), by rw [HG.out]; exact BV.out.trans (HA.out.bel.mono (Nat.le_of_lt HX.out.lt))⟩
  by_cases k3 : kind = 3
  · subst k3
    as_aux_lemma =>
    have hmi := ItemM.may_zero (RepM.kOk_3 HK.out rfl)
    have HMI := Lib.hid hmi
    clear hmi
    obtain ⟨d0, d1, d2, d3, d4, d5, d6, d7, d8⟩ := (HX.out.below O0.out.bel HX.out.lt).c9
    clear d1 d2 d3 d7 d8
    go_wp2_with fail
    refine (refform_any i.x i.A i.A2 i.c i.c2 w0 HAT.out.hi.ok.hk HAT.out.hi.ok.hv (HAT.out.hi.r1.below O0.out.bel) (HAT.out.hi.r2.below O0.out.bel) HMI.out.2.1 HMI.out.2.2).mono ?_
    rintro e v0 ⟨P0, p0, q0, rfl, hp0, op0, hq0⟩
    have hl0 : p0 ≤ 20000 := (by have h1 := hp0.out; have h2 := ItemM.form_length i.x; have h3 := HMI.out; (try dsimp only at h3); omega)
    have HP0 := Lib.hid (And.intro hp0.out (And.intro op0 hq0))
    have hz0 := O0.out.le
    have hy0 := below_join O0.out.bel hq0
    have hx0 := hy0.size
    clear d0 d4 d5 d6 hp0 op0 hq0
    go_wp2_with (at_builtin; refine wpl_app' _ rfl (.tmp 36) (.tmp 39) rfl VB.heap.size aa0 cc0 l0 n0 rfl O0.out.len (O0.out.own.below HP0.out.2.2) P0 q0 (ItemM.form i.x) p0 rfl HP0.out.1 HP0.out.2.1.row (by omega) (by omega) ?_)
    intro aa1 cc1 w1 ho0 hg0 _
    have O1' : Hid (Acc VB aa1 (n0 + p0) cc1 (l0 ++ (ItemM.form i.x)) 20001 w1) := Lib.hid (O0.out.app HP0.out.2.2 ho0 HP0.out.1 hg0 (Nat.add_le_add_left hl0 _))
    clear hl0 HP0 hz0 hy0 hx0 ho0 hg0
    obtain ⟨l1, hl1⟩ : ∃ l, l0 ++ (ItemM.form i.x) = l := ⟨_, rfl⟩
    obtain ⟨n1, hn1⟩ : ∃ n, n0 + p0 = n := ⟨_, rfl⟩
    have O1 : Hid (Acc VB aa1 n1 cc1 l1 20001 w1) := Lib.hid (by have := O1'.out; rw [hl1, hn1] at this; exact this)
    have HL1 := Lib.hid hl1
    rw [hn1]
    clear hl1 hn1 O1' O0
    have HF : Hid (l1 = RepM.formR ⟨3, mark, err, pl, i.x, its.map (·.x), hits⟩) := Lib.hid (by
      rw [← HL1.out, ← HL0.out]
      simp [RepM.formR, RepM.bodyR])
    have hax := O1.out
    rw [HF.out] at hax
    have HA := Lib.hid hax
    clear hax
    go_wp2
    go_ret
    exact ⟨aa1, n1, cc1, rfl, Lib.hid HA.out.len, HA.out.own.base_ (by rw [HG.out]; exact Nat.le_of_lt HX.out.lt), by rw [HG.out]; exact BV.out.trans (HA.out.bel.mono (Nat.le_of_lt HX.out.lt))⟩
  by_cases k4 : kind = 4
  · subst k4
    as_aux_lemma =>
    obtain ⟨m, hm⟩ : ∃ m, its.length = m := ⟨_, rfl⟩
    have hm50 : m ≤ 50 := by
      have := (RepM.kOk_4 HK.out rfl).1
      rw [List.length_map] at this
      try dsimp only at this
      omega
    have HM50 := Lib.hid hm50
    have HMN := Lib.hid hm
    have hwq : IntKind.u64.wrap (m : Int) = (m : Int) := by rw [IntKind.wrap_u64]; omega
    rw [hm] at HX
    clear hm
    obtain ⟨d0, d1, d2, d3, d4, d5, d6, d7, d8⟩ := (HX.out.below O0.out.bel HX.out.lt).c9
    clear d1 d2 d3 d4 d5 d6 d8
    go_wp2_with fail
    refine (refputuv_any m w0 (by omega)).mono ?_
    rintro e v0 ⟨P0, p0, q0, rfl, hp0, op0, hq0⟩
    have hl0 : p0 ≤ 10 := (by have h1 := hp0.out; have h2 := (CodeM.uv_length m).2; omega)
    have HP0 := Lib.hid (And.intro hp0.out (And.intro op0 hq0))
    have hz0 := O0.out.le
    have hy0 := below_join O0.out.bel hq0
    have hx0 := hy0.size
    clear d0 d7 hp0 op0 hq0
    go_wp2_with (at_builtin; refine wpl_app' _ rfl (.tmp 43) (.tmp 48) rfl VB.heap.size aa0 cc0 l0 n0 rfl O0.out.len (O0.out.own.below HP0.out.2.2) P0 q0 (CodeM.uv m) p0 rfl HP0.out.1 HP0.out.2.1.row (by omega) (by omega) ?_)
    intro aa1 cc1 w1 ho0 hg0 _
    have O1' : Hid (Acc VB aa1 (n0 + p0) cc1 (l0 ++ (CodeM.uv m)) 11 w1) := Lib.hid (O0.out.app HP0.out.2.2 ho0 HP0.out.1 hg0 (Nat.add_le_add_left hl0 _))
    clear hl0 HP0 hz0 hy0 hx0 ho0 hg0
    obtain ⟨l1, hl1⟩ : ∃ l, l0 ++ (CodeM.uv m) = l := ⟨_, rfl⟩
    obtain ⟨n1, hn1⟩ : ∃ n, n0 + p0 = n := ⟨_, rfl⟩
    have O1 : Hid (Acc VB aa1 n1 cc1 l1 11 w1) := Lib.hid (by have := O1'.out; rw [hl1, hn1] at this; exact this)
    have HL1 := Lib.hid hl1
    rw [hn1]
    clear hl1 hn1 O1' O0
    clear hwq
    have HN1 := Lib.hid O1.out.len
    have hn11 := O1.out.le
    have HX2 := Lib.hid (HX.out.below O1.out.bel HX.out.lt)
    have d7 := (HX.out.below O1.out.bel HX.out.lt).c9.2.2.2.2.2.2.2.1
    go_wp2
    go_loopw [3, 4] (fun b i wr => ∃ (k z : Nat) (A3 : Option Addr) (c3 : Nat), i = .int .i64 k ∧ k ≤ m ∧ b = .slice A3 z c3 ∧ z ≤ 11 + k * 17446 ∧ Hid ((l1 ++ ((its.take k).flatMap fun s => RepM.encI s.x)).length = z) ∧ Own wr VB.heap.size A3 c3 (l1 ++ ((its.take k).flatMap fun s => RepM.encI s.x)) ∧ Below VB.heap.size VB wr) (fun _ i _ => m - (RowKit.intOf i).toNat)
    case atStart => exact ⟨0, n1, aa1, cc1, rfl, Nat.zero_le _, rfl, by omega, Lib.hid (by simpa using HN1.out), by simpa using O1.out.own, O1.out.bel⟩
    case round =>
      obtain ⟨k, z, A4, c4, rfl, hk2, rfl, hz, HL, hO, hbel⟩ := hrel
      have hsz := hbel.size
      clear d7
      have d7 := (HX.out.below hbel HX.out.lt).c9.2.2.2.2.2.2.2.1
      by_cases hlt : k < m
      · obtain ⟨s, hs⟩ : ∃ s, its[k]? = some s := ⟨_, List.getElem?_eq_getElem (by rw [HMN.out]; exact hlt)⟩
        obtain ⟨b, o, hA, e1, e2, e3⟩ := row_itv (HAT.out.rI.below hbel) hs
        dsimp only at hA
        subst hA
        have sA := (HAT.out.aI s (List.mem_of_getElem? hs)).below hbel
        have hmay := (RepM.kOk_4 HK.out rfl).2 s.x (List.mem_map_of_mem (List.mem_of_getElem? hs))
        have hmi := ItemM.may_zero hmay
        have hsm := RepM.may_small hmay
        have HSM := Lib.hid (And.intro hsm (RepM.encI_len hmay))
        have HC := Lib.hid (refform_any s.x s.A s.A2 s.c s.c2 wr sA.ok.hk sA.ok.hv sA.r1 sA.r2 hmi.2.1 hmi.2.2)
        have HS : Hid (((its.take (k + 1)).flatMap fun s => RepM.encI s.x) = ((its.take k).flatMap fun s => RepM.encI s.x) ++ RepM.encI s.x) := Lib.hid (by rw [List.take_add_one, hs]; simp)
        have HO := Lib.hid hO
        have HQ := Lib.hid hbel
        clear hs hO hbel sA hmay hmi hsm
        go_wp2_with fail
        refine HC.out.mono ?_
        rintro e w5 ⟨P5, n5, e5, rfl, hn5, o5, hb5⟩
        obtain rfl : (ItemM.form s.x).length = n5 := hn5.out
        clear HC d7 e1 e2 e3
        have HT := Lib.hid (reftxt_any P5 e5 (ItemM.form s.x) w5 o5.row (by have := HSM.out; omega))
        have hb45 := below_step HQ.out hb5 (Nat.le_refl _)
        have HO5 := Lib.hid (HO.out.below hb5)
        have HB45 := Lib.hid hb45
        clear o5 hb5 hb45 hn5
        go_wp2_with fail
        refine HT.out.mono ?_
        rintro e w6 ⟨P6, n6, e6, rfl, hn6, o6, hb6⟩
        have o4 := HO5.out.below hb6
        have hb46 := below_step HB45.out hb6 (Nat.le_refl _)
        have hs6 := hb46.size
        have hn6' : n6 ≤ 17446 := by have h1 := hn6.out; have h2 := HSM.out.2; unfold RepM.encI at h2; omega
        go_wp2_with (at_builtin; refine wpl_app' _ rfl (.tmp 57) (.tmp 64) rfl VB.heap.size A4 c4 (l1 ++ ((its.take k).flatMap fun s => RepM.encI s.x)) z rfl HL.out o4 P6 e6 (CodeM.tx (ItemM.form s.x)) n6 rfl hn6.out o6.row ?_ ?_ ?_)
        · omega
        · omega
        intro A7 c7 w7 o7 hg7 _
        have hb7 : Below VB.heap.size VB w7 := o4.grown_below (by rw [HL.out]) hg7 hb46 (Nat.le_refl _) hs6
        have HL7 : Hid ((l1 ++ ((its.take (k + 1)).flatMap fun s => RepM.encI s.x)).length = z + n6) := Lib.hid (by
          have h1 := HL.out
          have h2 := hn6.out
          rw [HS.out]
          unfold RepM.encI
          unfold RepM.encI at h1
          simp only [List.length_append] at h1 ⊢
          omega)
        have HO7 := Lib.hid o7
        clear o4 o6 hg7 hb6 hb46 hn6 o7
        go_wp2
        go_roundw
        case rel => exact ⟨k + 1, z + n6, A7, c7, by go_num, by omega, rfl, by omega, HL7, by rw [HS.out]; have := HO7.out; first | exact this | (rw [List.append_assoc] at this; exact this), hb7⟩
        case measure => simp [RowKit.intOf]; omega
      · obtain rfl : k = m := by omega
        rw [← HMN.out, List.take_length] at hO HL
        have HO := Lib.hid hO
        have HQ := Lib.hid hbel
        have HF : Hid (l1 ++ (its.flatMap fun s => RepM.encI s.x) = RepM.formR ⟨4, mark, err, pl, i.x, its.map (·.x), hits⟩) := Lib.hid (by
          rw [← HL1.out, ← HL0.out]
          simp [RepM.formR, RepM.bodyR, List.flatMap_map, List.length_map, HMN.out])
        clear hO hbel
        go_wp2
        go_ret
        exact ⟨A4, z, c4, rfl, Lib.hid (by rw [← HF.out]; exact HL.out), by rw [← HF.out]; exact HO.out.base_ (by rw [HG.out]; exact Nat.le_of_lt HX.out.lt), by rw [HG.out]; exact BV.out.trans (HQ.out.mono (Nat.le_of_lt HX.out.lt))⟩
  by_cases k5 : kind = 5
  · subst k5
    as_aux_lemma =>
    obtain ⟨m, hm⟩ : ∃ m, hits.length = m := ⟨_, rfl⟩
    have hm50 : m ≤ 50 := by
      have := (RepM.kOk_5 HK.out rfl).1
      skip
      try dsimp only at this
      omega
    have HM50 := Lib.hid hm50
    have HMN := Lib.hid hm
    have hwq : IntKind.u64.wrap (m : Int) = (m : Int) := by rw [IntKind.wrap_u64]; omega
    rw [hm] at HX
    clear hm
    obtain ⟨d0, d1, d2, d3, d4, d5, d6, d7, d8⟩ := (HX.out.below O0.out.bel HX.out.lt).c9
    clear d1 d2 d3 d4 d5 d6 d7
    go_wp2_with fail
    refine (refputuv_any m w0 (by omega)).mono ?_
    rintro e v0 ⟨P0, p0, q0, rfl, hp0, op0, hq0⟩
    have hl0 : p0 ≤ 10 := (by have h1 := hp0.out; have h2 := (CodeM.uv_length m).2; omega)
    have HP0 := Lib.hid (And.intro hp0.out (And.intro op0 hq0))
    have hz0 := O0.out.le
    have hy0 := below_join O0.out.bel hq0
    have hx0 := hy0.size
    clear d0 d8 hp0 op0 hq0
    go_wp2_with (at_builtin; refine wpl_app' _ rfl (.tmp 68) (.tmp 73) rfl VB.heap.size aa0 cc0 l0 n0 rfl O0.out.len (O0.out.own.below HP0.out.2.2) P0 q0 (CodeM.uv m) p0 rfl HP0.out.1 HP0.out.2.1.row (by omega) (by omega) ?_)
    intro aa1 cc1 w1 ho0 hg0 _
    have O1' : Hid (Acc VB aa1 (n0 + p0) cc1 (l0 ++ (CodeM.uv m)) 11 w1) := Lib.hid (O0.out.app HP0.out.2.2 ho0 HP0.out.1 hg0 (Nat.add_le_add_left hl0 _))
    clear hl0 HP0 hz0 hy0 hx0 ho0 hg0
    obtain ⟨l1, hl1⟩ : ∃ l, l0 ++ (CodeM.uv m) = l := ⟨_, rfl⟩
    obtain ⟨n1, hn1⟩ : ∃ n, n0 + p0 = n := ⟨_, rfl⟩
    have O1 : Hid (Acc VB aa1 n1 cc1 l1 11 w1) := Lib.hid (by have := O1'.out; rw [hl1, hn1] at this; exact this)
    have HL1 := Lib.hid hl1
    rw [hn1]
    clear hl1 hn1 O1' O0
    clear hwq
    have HN1 := Lib.hid O1.out.len
    have hn11 := O1.out.le
    have HX2 := Lib.hid (HX.out.below O1.out.bel HX.out.lt)
    have d8 := (HX.out.below O1.out.bel HX.out.lt).c9.2.2.2.2.2.2.2.2
    go_wp2
    go_loopw [3, 5] (fun b i wr => ∃ (k z : Nat) (A3 : Option Addr) (c3 : Nat), i = .int .i64 k ∧ k ≤ m ∧ b = .slice A3 z c3 ∧ z ≤ 11 + k * 16 ∧ Hid ((l1 ++ ((hits.take k).flatMap RepM.encH)).length = z) ∧ Own wr VB.heap.size A3 c3 (l1 ++ ((hits.take k).flatMap RepM.encH)) ∧ Below VB.heap.size VB wr) (fun _ i _ => m - (RowKit.intOf i).toNat)
    case atStart => exact ⟨0, n1, aa1, cc1, rfl, Nat.zero_le _, rfl, by omega, Lib.hid (by simpa using HN1.out), by simpa using O1.out.own, O1.out.bel⟩
    case round =>
      obtain ⟨k, z, A4, c4, rfl, hk2, rfl, hz, HL, hO, hbel⟩ := hrel
      have hsz := hbel.size
      clear d8
      have d8 := (HX.out.below hbel HX.out.lt).c9.2.2.2.2.2.2.2.2
      by_cases hlt : k < m
      · obtain ⟨⟨ha, hd_⟩, hs⟩ : ∃ s, hits[k]? = some s := ⟨_, List.getElem?_eq_getElem (by rw [HMN.out]; exact hlt)⟩
        obtain ⟨b, o, hA, e1, e2⟩ := row_hit (HAT.out.rH.below hbel) hs
        dsimp only at hA e1 e2
        subst hA
        have HHK : Hid (ha < 18446744073709551616 ∧ -9223372036854775808 ≤ hd_ ∧ hd_ < 9223372036854775808) := Lib.hid (HAT.out.ok.hh _ (List.mem_of_getElem? hs))
        have hwz : IntKind.u64.wrap hd_ = ((RepM.u64z hd_ : Nat) : Int) := by have := HHK.out; rw [IntKind.wrap_u64]; unfold RepM.u64z; omega
        have HS : Hid (((hits.take (k + 1)).flatMap RepM.encH) = ((hits.take k).flatMap RepM.encH) ++ CodeM.fx 8 ha ++ CodeM.fx 8 (RepM.u64z hd_)) := Lib.hid (by rw [List.take_add_one, hs]; simp [RepM.encH])
        have R5 := Lib.hid (HAT.out.rH)
        have HSK := Lib.hid hs
        have HO := Lib.hid hO
        have HQ := Lib.hid hbel
        clear hs hO hbel
        go_wp2_with fail
        refine (reffixed_any ha 8 wr HHK.out.1 (by omega)).mono ?_
        rintro e w5 ⟨P5, n5, e5, rfl, hn5, o5, hb5⟩
        have o4 := HO.out.below hb5
        have hb45 := below_step HQ.out hb5 (Nat.le_refl _)
        have hs5 := hb45.size
        have hn5' : n5 = 8 := by have := hn5.out; rw [CodeM.fx_length] at this; exact this.symm
        subst hn5'
        clear d8 e1 e2
        go_wp2_with (at_builtin; refine wpl_app' _ rfl (.tmp 82) (.tmp 89) rfl VB.heap.size A4 c4 (l1 ++ ((hits.take k).flatMap RepM.encH)) z rfl HL.out o4 P5 e5 (CodeM.fx 8 ha) 8 rfl (CodeM.fx_length 8 ha) o5.row ?_ ?_ ?_)
        · omega
        · omega
        intro A6 c6 w6 o6 hg6 _
        have hb6 : Below VB.heap.size VB w6 := o4.grown_below (by rw [HL.out]) hg6 hb45 (Nat.le_refl _) hs5
        have HL6 : Hid ((l1 ++ (((hits.take k).flatMap RepM.encH) ++ CodeM.fx 8 ha)).length = z + 8) := Lib.hid (by rw [← List.append_assoc, List.length_append, HL.out, CodeM.fx_length])
        have HO6 : Hid (Own w6 VB.heap.size A6 c6 (l1 ++ (((hits.take k).flatMap RepM.encH) ++ CodeM.fx 8 ha))) := Lib.hid (by first | exact o6 | simpa using o6)
        have HQ6 := Lib.hid hb6
        have d8 := (HX.out.below hb6 HX.out.lt).c9.2.2.2.2.2.2.2.2
        obtain ⟨b', o', hA, e1, e2⟩ := row_hit (R5.out.below hb6) HSK.out
        injection hA with hA
        injection hA with hA1 hA2
        subst hA1 hA2
        dsimp only at e1 e2
        clear o4 o5 hg6 hb5 hb45 hn5 o6 hb6 hs5
        go_wp2_with fail
        refine (reffixed_any (RepM.u64z hd_) 8 w6 (RepM.u64z_lt hd_) (by omega)).mono ?_
        rintro e w7 ⟨P7, n7, e7, rfl, hn7, o7, hb7⟩
        have o4 := HO6.out.below hb7
        have hb45 := below_step HQ6.out hb7 (Nat.le_refl _)
        have hs7 := hb45.size
        have hn7' : n7 = 8 := by have := hn7.out; rw [CodeM.fx_length] at this; exact this.symm
        subst hn7'
        clear d8 e1 e2
        go_wp2_with (at_builtin; refine wpl_app' _ rfl (.tmp 91) (.tmp 99) rfl VB.heap.size A6 c6 (l1 ++ (((hits.take k).flatMap RepM.encH) ++ CodeM.fx 8 ha)) (z + 8) rfl HL6.out o4 P7 e7 (CodeM.fx 8 (RepM.u64z hd_)) 8 rfl (CodeM.fx_length 8 _) o7.row ?_ ?_ ?_)
        · omega
        · omega
        intro A8 c8 w8 o8 hg8 _
        have hb8 : Below VB.heap.size VB w8 := o4.grown_below (by rw [HL6.out]) hg8 hb45 (Nat.le_refl _) hs7
        have HL8 : Hid ((l1 ++ ((hits.take (k + 1)).flatMap RepM.encH)).length = z + 8 + 8) := Lib.hid (by
          have h1 := HL.out
          rw [HS.out]
          simp only [List.length_append, CodeM.fx_length] at h1 ⊢
          omega)
        have HO8 := Lib.hid o8
        clear o4 o7 hg8 hb7 hb45 hn7 o8
        go_wp2
        go_roundw
        case rel => exact ⟨k + 1, z + 8 + 8, A8, c8, by go_num, by omega, rfl, by omega, HL8, by rw [HS.out]; have := HO8.out; simpa using this, hb8⟩
        case measure => simp [RowKit.intOf]; omega
      · obtain rfl : k = m := by omega
        rw [← HMN.out, List.take_length] at hO HL
        have HO := Lib.hid hO
        have HQ := Lib.hid hbel
        have HF : Hid (l1 ++ (hits.flatMap RepM.encH) = RepM.formR ⟨5, mark, err, pl, i.x, its.map (·.x), hits⟩) := Lib.hid (by
          rw [← HL1.out, ← HL0.out]
          simp [RepM.formR, RepM.bodyR, HMN.out])
        clear hO hbel
        go_wp2
        go_ret
        exact ⟨A4, z, c4, rfl, Lib.hid (by rw [← HF.out]; exact HL.out), by rw [← HF.out]; exact HO.out.base_ (by rw [HG.out]; exact Nat.le_of_lt HX.out.lt), by rw [HG.out]; exact BV.out.trans (HQ.out.mono (Nat.le_of_lt HX.out.lt))⟩
  exfalso
  have := RepM.kOk_kind HK.out
  simp only at this
  omega
end Go.Proofs.Ytaadfalklddhcaa
