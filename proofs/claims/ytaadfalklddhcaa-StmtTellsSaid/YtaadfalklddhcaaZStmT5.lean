/-
  A reply's form, by the program's word (stmt.Tell).
  Conditions: the reply's lists lie in memory.
-/
import Derived.Test.YtaadfalklddhcaaZStmT2
import Derived.Test.YtaadfalklddhcaaZStmT4
namespace Go.Proofs.Ytaadfalklddhcaa
open Go.RowKit Go.Sort Go.Lib
set_option linter.unusedVariables false
set_option linter.unusedSimpArgs false
namespace RepM
theorem kOk_1 {x : Rp} (h : kOk x) (hk : x.kind = 1) : 0 ≤ x.mark ∧ x.mark ≤ 7 := by unfold kOk at h; rw [if_pos hk] at h; exact h
theorem kOk_2 {x : Rp} (h : kOk x) (hk : x.kind = 2) : (1 ≤ x.errno ∧ x.errno ≤ 255) ∧ 0 ≤ x.place ∧ x.place ≤ 4095 := by unfold kOk at h; rw [if_neg (by omega), if_pos hk] at h; exact h
theorem kOk_3 {x : Rp} (h : kOk x) (hk : x.kind = 3) : ItemM.may x.it = 0 := by unfold kOk at h; rw [if_neg (by omega), if_neg (by omega), if_pos hk] at h; exact h
theorem kOk_4 {x : Rp} (h : kOk x) (hk : x.kind = 4) : x.its.length ≤ 50 ∧ ∀ i ∈ x.its, ItemM.may i = 0 := by unfold kOk at h; rw [if_neg (by omega), if_neg (by omega), if_neg (by omega), if_pos hk] at h; exact h
theorem kOk_5 {x : Rp} (h : kOk x) (hk : x.kind = 5) : x.hits.length ≤ 50 ∧ ∀ h ∈ x.hits, 0 ≤ h.2 := by unfold kOk at h; rw [if_neg (by omega), if_neg (by omega), if_neg (by omega), if_neg (by omega), if_pos hk] at h; exact h
theorem encI_len {i : Itm} (hm : ItemM.may i = 0) : (encI i).length ≤ 17446 := by
  have h1 := may_small hm
  have h2 := (CodeM.uv_length (ItemM.form i).length).2
  unfold encI CodeM.tx
  rw [List.length_append]
  omega
theorem encIs_len : ∀ l : List Itm, (∀ i ∈ l, ItemM.may i = 0) → (l.flatMap encI).length ≤ l.length * 17446
  | [], _ => by simp
  | a :: l, h => by
    have h1 := encI_len (h a (by simp))
    have h2 := encIs_len l (fun i hi => h i (by simp [hi]))
    rw [List.flatMap_cons, List.length_append, List.length_cons]
    omega
theorem formR_small {x : Rp} (h : mayR x = true) : (formR x).length ≤ 1000000 := by
  have hk := ((mayR_iff x).1 h).1
  unfold formR
  rw [List.length_cons]
  unfold bodyR
  by_cases c1 : x.kind = 1
  · rw [if_pos c1]; simp
  by_cases c2 : x.kind = 2
  · rw [if_neg c1, if_pos c2]; simp [CodeM.fx_length]
  by_cases c3 : x.kind = 3
  · have := may_small (kOk_3 hk c3)
    rw [if_neg c1, if_neg c2, if_pos c3]; simp; omega
  by_cases c4 : x.kind = 4
  · obtain ⟨h1, h2⟩ := kOk_4 hk c4
    have h3 := encIs_len _ h2
    have h4 := (CodeM.uv_length x.its.length).2
    rw [if_neg c1, if_neg c2, if_neg c3, if_pos c4]; simp only [List.flatten_cons, List.flatten_nil, List.append_nil, List.length_append]; omega
  by_cases c5 : x.kind = 5
  · obtain ⟨h1, h2⟩ := kOk_5 hk c5
    have h3 := encH_len x.hits
    have h4 := (CodeM.uv_length x.hits.length).2
    rw [if_neg c1, if_neg c2, if_neg c3, if_neg c4, if_pos c5]; simp only [List.flatten_cons, List.flatten_nil, List.append_nil, List.length_append]; omega
  · have := kOk_kind hk; omega
theorem hits_flat (l : List (Nat × Int)) : (l.flatMap fun s => [CodeM.fx 8 s.1, CodeM.fx 8 (u64z s.2)]).flatten = l.flatMap encH := by
  induction l with
  | nil => rfl
  | cons a l ih => simp only [List.flatMap_cons, List.flatten_append, ih]; simp [encH]
end RepM
theorem Blk.c2 {w : World} {g : Nat} {t : TypeId} {a b : Value} (hB : Blk w g t #[a, b]) : w.cell? ⟨g, 0, none⟩ = some a ∧ w.cell? ⟨g, 1, none⟩ = some b := ⟨hB.cell 0, hB.cell 1⟩
def tl2P (g : Nat) (gl : Nat) (err pl : Int) : List (Nat × Nat × Value) := [(0, 30, (.slice (some ⟨gl, 0, none⟩) 1 1)), (1, 31, (.pointer (some ⟨g, 2, none⟩))), (2, 32, (.int .i64 err)), (4, 34, (.pointer (some ⟨g, 3, none⟩))), (5, 35, (.int .i64 pl))]
def tl2PM (g : Nat) (gl : Nat) (err pl : Int) : List (Nat × Nat × List UInt8) := [(3, 33, [StmM.b8 err]), (6, 36, CodeM.fx 2 (RepM.u64z pl))]
def tl5P (gt ha : Nat) (hd_ : Int) (gr k c : Nat) : List (Nat × Nat × Value) := [(0, 90, (.slice (some ⟨gr, 0, none⟩) (2 * k + 2) c)), (1, 91, (.pointer (some ⟨gt, 0, none⟩))), (2, 92, (.int .u64 (ha : Int))), (4, 94, (.pointer (some ⟨gt, 1, none⟩))), (5, 95, (.int .i64 hd_)), (6, 96, (.int .u64 ((RepM.u64z hd_ : Nat) : Int)))]
def tl5PM (gt ha : Nat) (hd_ : Int) (gr k c : Nat) : List (Nat × Nat × List UInt8) := [(3, 93, CodeM.fx 8 ha), (7, 97, CodeM.fx 8 (RepM.u64z hd_))]
set_option maxRecDepth 100000 in
set_option maxHeartbeats 16000000 in
theorem tell_any (s : Rpv) (w : World) (hs : s.At w) : Calls Try.prog 18 #[.agg s.cells] w (BytesP (RepM.mayR s.x) (RepM.formR s.x) w) := by
  obtain ⟨kind, mark, err, pl, i, IA, ic, its, HA, hc, hits⟩ := s
  have HSA0 := Lib.hid hs
  clear hs
  show Calls _ _ _ _ (BytesP (RepM.mayR ⟨kind, mark, err, pl, i.x, its.map (·.x), hits⟩) (RepM.formR ⟨kind, mark, err, pl, i.x, its.map (·.x), hits⟩) w)
  obtain ⟨bm, hbm⟩ : ∃ b, RepM.mayR ⟨kind, mark, err, pl, i.x, its.map (·.x), hits⟩ = b := ⟨_, rfl⟩
  have HM := Lib.hid hbm
  rw [hbm]
  clear hbm
  simp only [Rpv.cells]
  have b0 : Below w.heap.size w (w.alloc (.cells #[.int .i64 kind, .int .i64 mark, .int .i64 err, .int .i64 pl, .int .u64 (i.x.key : Int), .slice i.A i.x.vec.length i.c, .slice i.A2 i.x.note.length i.c2, .slice IA its.length ic, .slice HA hits.length hc] 34)) := (Below.refl _ _).alloc (Nat.le_refl _) _
  have U1 := Blk.new w 34 #[.int .i64 kind, .int .i64 mark, .int .i64 err, .int .i64 pl, .int .u64 (i.x.key : Int), .slice i.A i.x.vec.length i.c, .slice i.A2 i.x.note.length i.c2, .slice IA its.length ic, .slice HA hits.length hc]
  go_enter Try.func18, Try.ntmps18
  go_upto_region 1 with fail
  generalize w.alloc (.cells #[.int .i64 kind, .int .i64 mark, .int .i64 err, .int .i64 pl, .int .u64 (i.x.key : Int), .slice i.A i.x.vec.length i.c, .slice i.A2 i.x.note.length i.c2, .slice IA its.length ic, .slice HA hits.length hc] 34) = V0 at *
  obtain ⟨g, hg⟩ : ∃ g, w.heap.size = g := ⟨_, rfl⟩
  have HG := Lib.hid hg
  rw [hg] at U1 b0
  simp only [hg]
  have HSA : Hid (∀ (w' : World), Below g w w' → Rpv.At ⟨kind, mark, err, pl, i, IA, ic, its, HA, hc, hits⟩ w') := Lib.hid fun w' h => HSA0.out.below (by rw [HG.out]; exact h)
  clear hg HSA0
  go_wp2_with (first | (refine wpl_load_row rfl _ (.tmp 1) rfl (g) (by go_simp) _ #[.int .i64 kind, .int .i64 mark, .int .i64 err, .int .i64 pl, .int .u64 (i.x.key : Int), .slice i.A i.x.vec.length i.c, .slice i.A2 i.x.note.length i.c2, .slice IA its.length ic, .slice HA hits.length hc] (0, 0) _ U1 Try.underlying34 rfl (by kernel_rfl) ?_))
  refine (maytell_any ⟨kind, mark, err, pl, i, IA, ic, its, HA, hc, hits⟩ V0 (HSA.out _ b0)).mono ?_
  rintro e V1 ⟨rfl, hb⟩
  have B1 := Lib.hid (below_step b0 hb (Nat.le_of_eq HG.out.symm))
  have HU1 := Lib.hid (U1.below hb U1.lt)
  clear U1 b0 hb
  rw [show RepM.mayR (Rpv.x ⟨kind, mark, err, pl, i, IA, ic, its, HA, hc, hits⟩) = bm from HM.out]
  cases bm with
  | false =>
    go_wp2
    go_ret2
    exact ⟨rfl, by rw [HG.out]; exact B1.out⟩
  | true =>
    have HK := Lib.hid ((RepM.mayR_iff _).1 HM.out).1
    obtain ⟨d0, d1, d2, d3, d4, d5, d6, d7, d8⟩ := HU1.out.c9
    clear d1 d2 d3 d4 d5 d6 d7 d8
    go_wp2_with fail
    refine (mku8F_any kind (StmM.b8 kind) V1 (StmM.b8_wrap kind)).mono ?_
    rintro e V2 ⟨v0, rfl, hin0, hb⟩
    clear d0
    obtain ⟨fn0, cp0, hv0⟩ := hin0.ok.form
    subst hv0
    have hb3 : Below V2.heap.size V2 (V2.alloc (.cells #[(.func (.func fn0) #[] cp0)] 84)) := (Below.refl _ _).alloc (Nat.le_refl _) _
    have b13 := below_join hb hb3
    have B3 := Lib.hid (below_step B1.out b13 (Nat.le_of_eq HG.out.symm))
    have HU3 := Lib.hid (HU1.out.below b13 HU1.out.lt)
    have HF0 : Hid (WrF V2.heap.size (V2.alloc (.cells #[(.func (.func fn0) #[] cp0)] 84)) (.func (.func fn0) #[] cp0) [StmM.b8 kind]) := Lib.hid (WrF.below ⟨_, _, .inr (Nat.le_refl _), hin0⟩ hb3)
    have HW0 := Lib.hid HF0.out.ok
    have HO3 : Hid (OwnF (V2.alloc (.cells #[(.func (.func fn0) #[] cp0)] 84)) (g + 1) (some ⟨V2.heap.size, 0, none⟩) 1 1 [(.func (.func fn0) #[] cp0)]) := Lib.hid (OwnF.new V2 [(.func (.func fn0) #[] cp0)] 1 rfl (by decide) (Nat.le_trans HU1.out.lt hb.size))
    clear hb hb3 b13 hin0
    go_upto_region 4 with fail
    generalize hV3 : V2.alloc (.cells #[(.func (.func fn0) #[] cp0)] 84) = V3 at *
    generalize hgl : V2.heap.size = gl at *
    generalize hvv : (Value.func (.func fn0) #[] cp0) = v0 at *
    clear hV3 hgl HU1 B1 hvv
    by_cases k1 : kind = 1
    · subst k1
      as_aux_lemma =>
      have RX := Lib.hid (HSA.out V3 B3.out)
      obtain ⟨d0, d1, d2, d3, d4, d5, d6, d7, d8⟩ := HU3.out.c9
      clear d2 d3 d4 d5 d6 d7 d8
      go_wp2_with fail
      refine (mku8_any mark (StmM.b8 mark) V3 (StmM.b8_wrap mark)).mono ?_
      rintro e V4 ⟨vv, rfl, hok, hb⟩
      obtain ⟨fn1, cp1, hv1⟩ := hok.form
      subst hv1
      clear d0 d1
      have B4 := Lib.hid (below_step B3.out hb (Nat.le_of_eq HG.out.symm))
      have HW1 := Lib.hid hok
      have HW4 := Lib.hid (HW0.out.below hb)
      have HO4 := Lib.hid (HO3.out.below hb)
      have hba : Below V4.heap.size V4 (V4.alloc (.cells #[(.func (.func fn1) #[] cp1)] 84)) := (Below.refl _ _).alloc (Nat.le_refl _) _
      have HBA := Lib.hid hba
      have HGV : Hid (g + 1 ≤ V4.heap.size) := Lib.hid (Nat.le_trans HU3.out.lt hb.size)
      clear hok hb hba
      go_wp2_with (at_builtin; refine wpl_appF1 _ rfl (.tmp 22) (.tmp 26) rfl (g + 1) (some ⟨gl, 0, none⟩) [v0] 1 rfl (HO4.out.below HBA.out) (some ⟨V4.heap.size, 0, none⟩) 1 [(.func (.func fn1) #[] cp1)] 1 rfl rfl (row_fn V4 [(.func (.func fn1) #[] cp1)] #[(.func (.func fn1) #[] cp1)] rfl) (fun u hu => by rw [List.mem_singleton.1 hu]; exact HW1.out.one) (by decide) (by decide) (by decide) (Nat.le_trans HGV.out HBA.out.size) ?_)
      intro A5 c5 V5 hO5 hb5
      have hb45 : Below V4.heap.size V4 V5 := HBA.out.trans (hb5.mono (Nat.le_succ _))
      have B5 := Lib.hid (below_step B4.out hb45 (Nat.le_of_eq HG.out.symm))
      have HW5 : Hid (WrAll V5 [v0, Value.func (.func fn1) #[] cp1] [[StmM.b8 1], [StmM.b8 mark]]) := Lib.hid ⟨HW4.out.below hb45, HW1.out.below hb45, trivial⟩
      have HO5 := Lib.hid hO5
      clear hb45 hb5 hO5 HBA HO4 HW4 HW1
      have hf : ([[StmM.b8 1], [StmM.b8 mark]] : List (List UInt8)).flatten = RepM.formR ⟨1, mark, err, pl, i.x, its.map (·.x), hits⟩ := by simp [RepM.formR, RepM.bodyR]
      have HF := Lib.hid hf
      have HALL := Lib.hid (all_any A5 2 c5 [v0, Value.func (.func fn1) #[] cp1] [[StmM.b8 1], [StmM.b8 mark]] V5 HO5.out.row rfl rfl (by decide) (wr_all (w := V5) (vs := [v0, Value.func (.func fn1) #[] cp1]) (ms := [[StmM.b8 1], [StmM.b8 mark]]) HW5.out) (by rw [hf]; exact Nat.le_trans (RepM.formR_small HM.out) (by decide)))
      clear hf
      go_wp2_with fail
      refine HALL.out.mono ?_
      rintro e V9 ⟨A9, n9, c9, rfl, hn9, hO9, hb9⟩
      have HZ : Hid (Hid ((RepM.formR ⟨1, mark, err, pl, i.x, its.map (·.x), hits⟩).length = n9) ∧ Own V9 w.heap.size A9 c9 (RepM.formR ⟨1, mark, err, pl, i.x, its.map (·.x), hits⟩) ∧ Below w.heap.size w V9) := Lib.hid (by
        rw [HF.out] at hn9 hO9
        rw [HG.out]
        exact ⟨hn9, hO9.base_ (Nat.le_trans (Nat.le_of_eq HG.out.symm) B5.out.size), below_step B5.out hb9 (Nat.le_of_eq HG.out.symm)⟩)
      clear hn9 hO9 hb9 HALL
      go_wp2
      go_ret2
      exact ⟨A9, n9, c9, rfl, HZ.out.1, HZ.out.2.1, HZ.out.2.2⟩
    by_cases k2 : kind = 2
    · subst k2
      as_aux_lemma =>
      have HPL : Hid (∀ w1 : World, Calls Try.prog 59 #[.int .i64 pl] w1 (MkP (CodeM.fx 2 (RepM.u64z pl)) w1)) := Lib.hid fun w1 => by
        have hp := (RepM.kOk_2 HK.out rfl).2
        have e : ((RepM.u64z pl : Nat) : Int) = pl := by unfold RepM.u64z; dsimp only at hp; omega
        have := mku16_any (RepM.u64z pl) w1 (by dsimp only at hp; omega)
        rw [e] at this
        exact this
      have d0 := HU3.out.c9.1
      go_upto_region 8 with fail
      clear d0
      refine wp_named fun a0 ha0 => ?_
      have z4 : a0.tmps.getD 4 undef = (.slice (some ⟨gl, 0, none⟩) 1 1) := by rw [ha0.out]; rfl
      have z1 : a0.tmps.getD 1 undef = (.pointer (some ⟨g, 0, none⟩)) := by rw [ha0.out]; rfl
      have hsz0 : a0.tmps.size = 103 := by rw [ha0.out]; rfl
      refine wp_region_invB _ (by kernel_rfl) (fun L a wv => ∃ F bA rA rc, WI a0 [30, 31, 32, 33, 34, 35, 36, 37, 38, 4] (tl2P g gl err pl) (tl2PM g gl err pl) ⟨7, 37, 8, 38, 9, 4, 1⟩ V3.heap.size (g + 1) V3 (some ⟨gl, 0, none⟩) 1 [v0] F bA rA rc L a wv) (by kernel_rfl) ?_ ?_ ?_
      · exact ⟨fun _ => undef, 0, none, 0, WI.start (Nat.le_refl _) ⟨rfl, rfl, rfl, Nat.le_refl _, fun _ _ => rfl⟩ (HO3.out.below ⟨rfl, rfl, rfl, Nat.le_refl _, fun _ _ => rfl⟩)⟩
      rotate_left
      · as_aux_lemma =>
        refine ⟨?_, ?_, ?_, ?_, ?_, ?_, ?_, ?_, ?_, ?_, trivial⟩
        · intro L a w1 hI hi hd
          obtain ⟨F, bA, rA, rc, hC⟩ := hI
          have hp := hC.pif
          have hi : L 0 = false := hi
          have hn4 : L 9 = false := by
            cases q : L 9 with
            | false => rfl
            | true => rw [(hC.dab (hC.d4a q)).2] at hi; cases hi
          have t4 := (hC.st hn4).trans z4
          have t4' := t4
          rw [Array.getD_eq_getD_getElem?] at t4'
          exact rstep_valW (wanted_none rfl _) (.slice (some ⟨gl, 0, none⟩) 1 1) w1 (by go_simp) ⟨F, bA, rA, rc, hC.pure 0 30 (.slice (some ⟨gl, 0, none⟩) 1 1) (by simp [wrows, tl2P, tl2PM]) (by simp [wrows, tl2P, tl2PM]) (by simp [tl2PM]) (by decide) rfl (by rw [hsz0]; exact (by decide : 30 < 103))⟩
        · intro L a w1 hI hi hd
          obtain ⟨F, bA, rA, rc, hC⟩ := hI
          have hp := hC.pif
          have hi : L 1 = false := hi
          have t1 := hp.at_ 1 _ rfl z1
          have t1' := t1
          rw [Array.getD_eq_getD_getElem?] at t1'
          exact rstep_valW (wanted_none rfl _) (.pointer (some ⟨g, 2, none⟩)) w1 (by go_simp) ⟨F, bA, rA, rc, hC.pure 1 31 (.pointer (some ⟨g, 2, none⟩)) (by simp [wrows, tl2P, tl2PM]) (by simp [wrows, tl2P, tl2PM]) (by simp [tl2PM]) (by decide) rfl (by rw [hsz0]; exact (by decide : 31 < 103))⟩
        · intro L a w1 hI hi hd
          obtain ⟨F, bA, rA, rc, hC⟩ := hI
          have hp := hC.pif
          have hi : L 2 = false := hi
          simp [Region.binds] at hd
          have e1 : a.tmps.getD 31 undef = (.pointer (some ⟨g, 2, none⟩)) := hp.pu (1, 31, (.pointer (some ⟨g, 2, none⟩))) (by simp [wrows, tl2P, tl2PM]) (by simp [hd])
          have f1 : a.tmps[31]?.getD undef = (.pointer (some ⟨g, 2, none⟩)) := by rw [← Array.getD_eq_getD_getElem?]; exact e1
          obtain ⟨d0, d1, d2, d3, d4, d5, d6, d7, d8⟩ := (HU3.out.below hC.bel HU3.out.lt).c9
          exact rstep_valW (wanted_none rfl _) (.int .i64 err) w1 (by go_simp) ⟨F, bA, rA, rc, hC.pure 2 32 (.int .i64 err) (by simp [wrows, tl2P, tl2PM]) (by simp [wrows, tl2P, tl2PM]) (by simp [tl2PM]) (by decide) rfl (by rw [hsz0]; exact (by decide : 32 < 103))⟩
        · intro L a w1 hI hi hd
          obtain ⟨F, bA, rA, rc, hC⟩ := hI
          have hp := hC.pif
          have hi : L 3 = false := hi
          simp [Region.binds] at hd
          have e2 : a.tmps.getD 32 undef = (.int .i64 err) := hp.pu (2, 32, (.int .i64 err)) (by simp [wrows, tl2P, tl2PM]) (by simp [hd])
          have f2 : a.tmps[32]?.getD undef = (.int .i64 err) := by rw [← Array.getD_eq_getD_getElem?]; exact e2
          refine rstep_callW (wanted_none rfl _) 52 #[.int .i64 err] (by go_simp) ?_
          refine (mku8_any err (StmM.b8 err) w1 (StmM.b8_wrap err)).mono ?_
          rintro e w2 ⟨v, rfl, hok, hb2⟩
          exact ⟨_, bA, rA, rc, hC.call (3, 33, [StmM.b8 err]) (by simp [tl2PM]) hi v hok hb2 (by simp [tl2P]) (by simp [tl2PM]) (by simp [wrows, tl2P, tl2PM, setF]) (by simp [wrows, tl2P, tl2PM, setF]) (by simp) rfl (by rw [hsz0]; exact (by decide : 33 < 103))⟩
        · intro L a w1 hI hi hd
          obtain ⟨F, bA, rA, rc, hC⟩ := hI
          have hp := hC.pif
          have hi : L 4 = false := hi
          have t1 := hp.at_ 1 _ rfl z1
          have t1' := t1
          rw [Array.getD_eq_getD_getElem?] at t1'
          exact rstep_valW (wanted_none rfl _) (.pointer (some ⟨g, 3, none⟩)) w1 (by go_simp) ⟨F, bA, rA, rc, hC.pure 4 34 (.pointer (some ⟨g, 3, none⟩)) (by simp [wrows, tl2P, tl2PM]) (by simp [wrows, tl2P, tl2PM]) (by simp [tl2PM]) (by decide) rfl (by rw [hsz0]; exact (by decide : 34 < 103))⟩
        · intro L a w1 hI hi hd
          obtain ⟨F, bA, rA, rc, hC⟩ := hI
          have hp := hC.pif
          have hi : L 5 = false := hi
          simp [Region.binds] at hd
          have e4 : a.tmps.getD 34 undef = (.pointer (some ⟨g, 3, none⟩)) := hp.pu (4, 34, (.pointer (some ⟨g, 3, none⟩))) (by simp [wrows, tl2P, tl2PM]) (by simp [hd])
          have f4 : a.tmps[34]?.getD undef = (.pointer (some ⟨g, 3, none⟩)) := by rw [← Array.getD_eq_getD_getElem?]; exact e4
          obtain ⟨d0, d1, d2, d3, d4, d5, d6, d7, d8⟩ := (HU3.out.below hC.bel HU3.out.lt).c9
          exact rstep_valW (wanted_none rfl _) (.int .i64 pl) w1 (by go_simp) ⟨F, bA, rA, rc, hC.pure 5 35 (.int .i64 pl) (by simp [wrows, tl2P, tl2PM]) (by simp [wrows, tl2P, tl2PM]) (by simp [tl2PM]) (by decide) rfl (by rw [hsz0]; exact (by decide : 35 < 103))⟩
        · intro L a w1 hI hi hd
          obtain ⟨F, bA, rA, rc, hC⟩ := hI
          have hp := hC.pif
          have hi : L 6 = false := hi
          simp [Region.binds] at hd
          have e5 : a.tmps.getD 35 undef = (.int .i64 pl) := hp.pu (5, 35, (.int .i64 pl)) (by simp [wrows, tl2P, tl2PM]) (by simp [hd])
          have f5 : a.tmps[35]?.getD undef = (.int .i64 pl) := by rw [← Array.getD_eq_getD_getElem?]; exact e5
          refine rstep_callW (wanted_none rfl _) 59 #[.int .i64 pl] (by go_simp) ?_
          refine (HPL.out w1).mono ?_
          rintro e w2 ⟨v, rfl, hok, hb2⟩
          exact ⟨_, bA, rA, rc, hC.call (6, 36, CodeM.fx 2 (RepM.u64z pl)) (by simp [tl2PM]) hi v hok hb2 (by simp [tl2P]) (by simp [tl2PM]) (by simp [wrows, tl2P, tl2PM, setF]) (by simp [wrows, tl2P, tl2PM, setF]) (by simp) rfl (by rw [hsz0]; exact (by decide : 36 < 103))⟩
        · intro L a w1 hI hi hd
          obtain ⟨F, bA, rA, rc, hC⟩ := hI
          have hp := hC.pif
          have hi : L 7 = false := hi
          simp [Region.binds] at hd
          have e3 : a.tmps.getD 33 undef = (F 3) := hp.pu (3, 33, (F 3)) (by simp [wrows, tl2P, tl2PM]) (by simp [hd])
          have f3 : a.tmps[33]?.getD undef = (F 3) := by rw [← Array.getD_eq_getD_getElem?]; exact e3
          have e6 : a.tmps.getD 36 undef = (F 6) := hp.pu (6, 36, (F 6)) (by simp [wrows, tl2P, tl2PM]) (by simp [hd])
          have f6 : a.tmps[36]?.getD undef = (F 6) := by rw [← Array.getD_eq_getD_getElem?]; exact e6
          obtain ⟨fn3, cp3, hv3⟩ := (hC.ok (3, 33, [StmM.b8 err]) (by simp [tl2PM]) (by simp [hd])).form
          rw [hv3] at e3 f3
          obtain ⟨fn6, cp6, hv6⟩ := (hC.ok (6, 36, CodeM.fx 2 (RepM.u64z pl)) (by simp [tl2PM]) (by simp [hd])).form
          rw [hv6] at e6 f6
          exact rstep_valW (wanted_none rfl _) (.slice (some ⟨w1.heap.size, 0, none⟩) 2 2) (w1.alloc (.cells #[F 3, F 6] 84)) (by rw [hv3, hv6]; go_simp) ⟨F, _, rA, rc, hC.build hi (by simp [tl2PM, hd]) #[F 3, F 6] rfl (by simp [wrows, tl2P, tl2PM]) (by simp [wrows, tl2P, tl2PM]) (by decide) (by simp [tl2PM]) rfl (by rw [hsz0]; exact (by decide : 37 < 103))⟩
        · intro L a w1 hI hi hd
          obtain ⟨F, bA, rA, rc, hC⟩ := hI
          have hp := hC.pif
          have hi : L 8 = false := hi
          simp [Region.binds] at hd
          have e0 : a.tmps.getD 30 undef = (.slice (some ⟨gl, 0, none⟩) 1 1) := hp.pu (0, 30, (.slice (some ⟨gl, 0, none⟩) 1 1)) (by simp [wrows, tl2P, tl2PM]) (by simp [hd])
          have f0 : a.tmps[30]?.getD undef = (.slice (some ⟨gl, 0, none⟩) 1 1) := by rw [← Array.getD_eq_getD_getElem?]; exact e0
          have e7 : a.tmps.getD 37 undef = (.slice (some ⟨bA, 0, none⟩) 2 2) := hp.pu (7, 37, (.slice (some ⟨bA, 0, none⟩) 2 2)) (by simp [wrows, tl2P, tl2PM]) (by simp [hd])
          have f7 : a.tmps[37]?.getD undef = (.slice (some ⟨bA, 0, none⟩) 2 2) := by rw [← Array.getD_eq_getD_getElem?]; exact e7
          have hib : L 7 = true := by simp [hd]
          refine step_appF1 w1 rfl (.tmp 30) (.tmp 37) rfl (g + 1) (some ⟨gl, 0, none⟩) [v0] 1 (show a.eval (.tmp 30) = _ from e0) (hC.own hi) (some ⟨bA, 0, none⟩) 2 _ 2 (show a.eval (.tmp 37) = _ from e7) (by simp [tl2PM]) (hC.bld hib) (fun u hu => by obtain ⟨m, hm, rfl⟩ := List.mem_map.1 hu; exact (hC.ok m hm (hC.dbm hib m hm)).one) (by decide) (by decide) (by decide) (Nat.le_trans HU3.out.lt hC.size) ?_
          intro A' c' w2 hO2 hb2
          exact ⟨F, bA, A', c', hC.appd hi hib (by simp [hd]) A' c' hO2 hb2 (by simp [wrows, tl2P, tl2PM]) (by simp [wrows, tl2P, tl2PM]) (by decide) (by simp [tl2PM]) rfl (by rw [hsz0]; exact (by decide : 38 < 103))⟩
        · intro L a w1 hI hi hd
          obtain ⟨F, bA, rA, rc, hC⟩ := hI
          have hp := hC.pif
          have hi : L 9 = false := hi
          simp [Region.binds] at hd
          have e8 : a.tmps.getD 38 undef = (.slice rA 3 rc) := hp.pu (8, 38, (.slice rA 3 rc)) (by simp [wrows, tl2P, tl2PM]) (by simp [hd])
          have f8 : a.tmps[38]?.getD undef = (.slice rA 3 rc) := by rw [← Array.getD_eq_getD_getElem?]; exact e8
          exact rstep_valW (wanted_none rfl _) (.slice rA 3 rc) w1 (by go_simp) ⟨F, bA, rA, rc, hC.fin (by simp [hd]) (by simp [wrows, tl2P, tl2PM]) (by simp [wrows, tl2P, tl2PM]) (by decide) (by simp [tl2PM]) rfl (by rw [hsz0]; exact (by decide : 4 < 103))⟩
      rintro L a W0 ⟨F, bA, rA, rc, hC⟩ hL
      have e9 : a.tmps.getD 4 undef = .slice rA 3 rc := hC.pif.pu (9, 4, _) (by simp [wrows, tl2P, tl2PM]) (hL 9 (by simp))
      have hrow := hC.app (hL 8 (by simp))
      have hw3 := hC.ok (3, 33, [StmM.b8 err]) (by simp [tl2PM]) (hL 3 (by simp))
      have hw6 := hC.ok (6, 36, CodeM.fx 2 (RepM.u64z pl)) (by simp [tl2PM]) (hL 6 (by simp))
      have HWS : Hid (WrAll W0 [v0, F 3, F 6] [[StmM.b8 2], [StmM.b8 err], CodeM.fx 2 (RepM.u64z pl)]) := Lib.hid ⟨HW0.out.below hC.bel, hw3, hw6, trivial⟩
      have HRW : Hid (Row W0 rA [v0, F 3, F 6]) := Lib.hid hrow
      have B5 := Lib.hid (B3.out.trans (hC.bel.mono (Nat.le_of_lt HU3.out.lt)))
      clear hrow hw3 hw6
      have hp := hC.pif
      rw [hp.eq]
      refine of_assigns (P := Try.prog) _ _ _ _ ?_
      rw [ha0.out]
      simp only [asgs, List.map, e9]
      generalize a.tmps.getD 30 undef = u30
      generalize a.tmps.getD 31 undef = u31
      generalize a.tmps.getD 32 undef = u32
      generalize a.tmps.getD 33 undef = u33
      generalize a.tmps.getD 34 undef = u34
      generalize a.tmps.getD 35 undef = u35
      generalize a.tmps.getD 36 undef = u36
      generalize a.tmps.getD 37 undef = u37
      generalize a.tmps.getD 38 undef = u38
      clear hp hL hsz0 hC e9 z4 z1
      clear ha0
      have hf : ([[StmM.b8 2], [StmM.b8 err], CodeM.fx 2 (RepM.u64z pl)] : List (List UInt8)).flatten = RepM.formR ⟨2, mark, err, pl, i.x, its.map (·.x), hits⟩ := by simp [RepM.formR, RepM.bodyR]
      have HF := Lib.hid hf
      have HALL := Lib.hid (all_any rA 3 rc [v0, F 3, F 6] [[StmM.b8 2], [StmM.b8 err], CodeM.fx 2 (RepM.u64z pl)] W0 HRW.out rfl rfl (by decide) (wr_all (w := W0) (vs := [v0, F 3, F 6]) (ms := [[StmM.b8 2], [StmM.b8 err], CodeM.fx 2 (RepM.u64z pl)]) HWS.out) (by rw [hf]; exact Nat.le_trans (RepM.formR_small HM.out) (by decide)))
      clear hf
      go_wp2_with fail
      refine HALL.out.mono ?_
      rintro e V9 ⟨A9, n9, c9, rfl, hn9, hO9, hb9⟩
      have HZ : Hid (Hid ((RepM.formR ⟨2, mark, err, pl, i.x, its.map (·.x), hits⟩).length = n9) ∧ Own V9 w.heap.size A9 c9 (RepM.formR ⟨2, mark, err, pl, i.x, its.map (·.x), hits⟩) ∧ Below w.heap.size w V9) := Lib.hid (by
        rw [HF.out] at hn9 hO9
        rw [HG.out]
        exact ⟨hn9, hO9.base_ (Nat.le_trans (Nat.le_of_eq HG.out.symm) B5.out.size), below_step B5.out hb9 (Nat.le_of_eq HG.out.symm)⟩)
      clear hn9 hO9 hb9 HALL
      go_wp2
      go_ret2
      exact ⟨A9, n9, c9, rfl, HZ.out.1, HZ.out.2.1, HZ.out.2.2⟩
    by_cases k3 : kind = 3
    · subst k3
      as_aux_lemma =>
      have RX := Lib.hid (HSA.out V3 B3.out)
      have HMI := Lib.hid (ItemM.may_zero (RepM.kOk_3 HK.out rfl))
      obtain ⟨d0, d1, d2, d3, d4, d5, d6, d7, d8⟩ := HU3.out.c9
      clear d1 d2 d3 d7 d8
      go_wp2_with fail
      refine (mkrec_any i.x i.A i.A2 i.x.vec.length i.c i.x.note.length i.c2 V3 RX.out.hi.ok.hk RX.out.hi.ok.hv RX.out.hi.r1 RX.out.hi.r2 rfl rfl HMI.out.1 HMI.out.2.1 HMI.out.2.2).mono ?_
      rintro e V4 ⟨vv, rfl, hok, hb⟩
      obtain ⟨fn1, cp1, hv1⟩ := hok.form
      subst hv1
      clear d0 d4 d5 d6
      have B4 := Lib.hid (below_step B3.out hb (Nat.le_of_eq HG.out.symm))
      have HW1 := Lib.hid hok
      have HW4 := Lib.hid (HW0.out.below hb)
      have HO4 := Lib.hid (HO3.out.below hb)
      have hba : Below V4.heap.size V4 (V4.alloc (.cells #[(.func (.func fn1) #[] cp1)] 84)) := (Below.refl _ _).alloc (Nat.le_refl _) _
      have HBA := Lib.hid hba
      have HGV : Hid (g + 1 ≤ V4.heap.size) := Lib.hid (Nat.le_trans HU3.out.lt hb.size)
      clear hok hb hba
      go_wp2_with (at_builtin; refine wpl_appF1 _ rfl (.tmp 41) (.tmp 45) rfl (g + 1) (some ⟨gl, 0, none⟩) [v0] 1 rfl (HO4.out.below HBA.out) (some ⟨V4.heap.size, 0, none⟩) 1 [(.func (.func fn1) #[] cp1)] 1 rfl rfl (row_fn V4 [(.func (.func fn1) #[] cp1)] #[(.func (.func fn1) #[] cp1)] rfl) (fun u hu => by rw [List.mem_singleton.1 hu]; exact HW1.out.one) (by decide) (by decide) (by decide) (Nat.le_trans HGV.out HBA.out.size) ?_)
      intro A5 c5 V5 hO5 hb5
      have hb45 : Below V4.heap.size V4 V5 := HBA.out.trans (hb5.mono (Nat.le_succ _))
      have B5 := Lib.hid (below_step B4.out hb45 (Nat.le_of_eq HG.out.symm))
      have HW5 : Hid (WrAll V5 [v0, Value.func (.func fn1) #[] cp1] [[StmM.b8 3], ItemM.form i.x]) := Lib.hid ⟨HW4.out.below hb45, HW1.out.below hb45, trivial⟩
      have HO5 := Lib.hid hO5
      clear hb45 hb5 hO5 HBA HO4 HW4 HW1
      have hf : ([[StmM.b8 3], ItemM.form i.x] : List (List UInt8)).flatten = RepM.formR ⟨3, mark, err, pl, i.x, its.map (·.x), hits⟩ := by simp [RepM.formR, RepM.bodyR]
      have HF := Lib.hid hf
      have HALL := Lib.hid (all_any A5 2 c5 [v0, Value.func (.func fn1) #[] cp1] [[StmM.b8 3], ItemM.form i.x] V5 HO5.out.row rfl rfl (by decide) (wr_all (w := V5) (vs := [v0, Value.func (.func fn1) #[] cp1]) (ms := [[StmM.b8 3], ItemM.form i.x]) HW5.out) (by rw [hf]; exact Nat.le_trans (RepM.formR_small HM.out) (by decide)))
      clear hf
      go_wp2_with fail
      refine HALL.out.mono ?_
      rintro e V9 ⟨A9, n9, c9, rfl, hn9, hO9, hb9⟩
      have HZ : Hid (Hid ((RepM.formR ⟨3, mark, err, pl, i.x, its.map (·.x), hits⟩).length = n9) ∧ Own V9 w.heap.size A9 c9 (RepM.formR ⟨3, mark, err, pl, i.x, its.map (·.x), hits⟩) ∧ Below w.heap.size w V9) := Lib.hid (by
        rw [HF.out] at hn9 hO9
        rw [HG.out]
        exact ⟨hn9, hO9.base_ (Nat.le_trans (Nat.le_of_eq HG.out.symm) B5.out.size), below_step B5.out hb9 (Nat.le_of_eq HG.out.symm)⟩)
      clear hn9 hO9 hb9 HALL
      go_wp2
      go_ret2
      exact ⟨A9, n9, c9, rfl, HZ.out.1, HZ.out.2.1, HZ.out.2.2⟩
    by_cases k4 : kind = 4
    · subst k4
      as_aux_lemma =>
      obtain ⟨n, hn⟩ : ∃ n, its.length = n := ⟨_, rfl⟩
      have HN := Lib.hid hn
      have hn50 : n ≤ 50 := by
        have := (RepM.kOk_4 HK.out rfl).1
        rw [List.length_map] at this
        try dsimp only at this
        omega
      rw [hn] at HU3
      have HN50 := Lib.hid hn50
      clear hn
      obtain ⟨d0, d1, d2, d3, d4, d5, d6, d7, d8⟩ := HU3.out.c9
      clear d1 d2 d3 d4 d5 d6 d8
      go_wp2_with fail
      refine (mkuvF_any n V3 (by omega)).mono ?_
      rintro e V4 ⟨vv, rfl, hin, hb⟩
      obtain ⟨fn1, cp1, hv1⟩ := hin.ok.form
      subst hv1
      clear d0 d7
      have B4 := Lib.hid (below_step B3.out hb (Nat.le_of_eq HG.out.symm))
      have HU4 := Lib.hid (HU3.out.below hb HU3.out.lt)
      have HO4 := Lib.hid (HO3.out.below hb)
      have HF4 : Hid (WrFs gl V4 [v0] [[StmM.b8 4]]) := Lib.hid (WrFs.below (vs := [v0]) (ms := [[StmM.b8 4]]) ⟨HF0.out, trivial⟩ hb)
      have HI4 : Hid (WrF gl V4 (.func (.func fn1) #[] cp1) (CodeM.uv n)) := Lib.hid ⟨_, _, .inl HO3.out.lt.2, hin⟩
      have hba : Below V4.heap.size V4 (V4.alloc (.cells #[(.func (.func fn1) #[] cp1)] 84)) := (Below.refl _ _).alloc (Nat.le_refl _) _
      have HBA := Lib.hid hba
      have HGV : Hid (g + 1 ≤ V4.heap.size ∧ g + 1 ≤ gl) := Lib.hid ⟨Nat.le_trans HU3.out.lt hb.size, HO3.out.lt.1⟩
      clear hin hb hba
      go_wp2_with (at_builtin; refine wpl_appF3 _ rfl (.tmp 49) (.tmp 54) rfl (g + 1) gl 1 [v0] 1 rfl (HO4.out.below HBA.out) (some ⟨V4.heap.size, 0, none⟩) 1 [(.func (.func fn1) #[] cp1)] 1 rfl rfl (row_fn V4 [(.func (.func fn1) #[] cp1)] #[(.func (.func fn1) #[] cp1)] rfl) (fun u hu => by rw [List.mem_singleton.1 hu]; exact HI4.out.ok.one) (by decide) (by decide) (Nat.le_trans HGV.out.1 HBA.out.size) ?_)
      intro gr5 c5 V5 hO5 hg5 hr5
      have HI : Hid (OwnF V5 (g + 1) (some ⟨gr5, 0, none⟩) 2 c5 ([v0] ++ [(.func (.func fn1) #[] cp1)]) ∧ WrFs gr5 V5 ([v0] ++ [(.func (.func fn1) #[] cp1)]) ([[StmM.b8 4]] ++ [CodeM.uv n]) ∧ Below g w V5 ∧ Blk V5 g 34 #[.int .i64 4, .int .i64 mark, .int .i64 err, .int .i64 pl, .int .u64 (i.x.key : Int), .slice i.A i.x.vec.length i.c, .slice i.A2 i.x.note.length i.c2, .slice IA n ic, .slice HA hits.length hc]) := Lib.hid (by
        refine ⟨hO5, (WrFs.snoc (HI4.out.below HBA.out) (HF4.out.below HBA.out)).app hg5 (hr5.imp id (fun q => by simp; omega)), ?_, ?_⟩
        · have h1 := below_step B4.out HBA.out (Nat.le_of_eq HG.out.symm)
          have := HGV.out
          exact below_grown h1 hg5 (by have := HBA.out.size; omega) (by omega)
        · have := HGV.out
          exact (HU4.out.below HBA.out HU4.out.lt).grown hg5 (by intro q; injection q with q; omega))
      obtain ⟨vs5, hvs5⟩ : ∃ vs, [v0] ++ [(.func (.func fn1) #[] cp1)] = vs := ⟨_, rfl⟩
      rw [hvs5] at HI
      clear hvs5 hO5 hg5 hr5 HBA HO4 HF4 HI4 HU4 B4 HGV
      obtain ⟨d0, d1, d2, d3, d4, d5, d6, d7, d8⟩ := HI.out.2.2.2.c9
      clear d0 d1 d2 d3 d4 d5 d6 d8
      go_wp2
      clear d7
      go_loopw [4, 59] (fun a i_ wr => ∃ (k gr c : Nat) (vs : List Value), a = .slice (some ⟨gr, 0, none⟩) (k + 2) c ∧ i_ = .int .i64 (k : Int) ∧ k ≤ n ∧ Hid (OwnF wr (g + 1) (some ⟨gr, 0, none⟩) (k + 2) c vs ∧ WrFs gr wr vs ([StmM.b8 4] :: CodeM.uv n :: ((its.take k).map fun s => RepM.encI s.x)) ∧ Below g w wr ∧ Blk wr g 34 #[.int .i64 4, .int .i64 mark, .int .i64 err, .int .i64 pl, .int .u64 (i.x.key : Int), .slice i.A i.x.vec.length i.c, .slice i.A2 i.x.note.length i.c2, .slice IA n ic, .slice HA hits.length hc])) (fun _ i_ _ => n - (RowKit.intOf i_).toNat)
      case atStart => exact ⟨0, gr5, c5, vs5, rfl, rfl, Nat.zero_le _, HI⟩
      case round =>
        obtain ⟨k, gr, c, vs, rfl, rfl, hk, HL⟩ := hrel
        clear HI
        by_cases hlt : k < n
        · obtain ⟨s, hs⟩ : ∃ s, its[k]? = some s := ⟨_, List.getElem?_eq_getElem (by rw [HN.out]; exact hlt)⟩
          have RX := HSA.out wr HL.out.2.2.1
          obtain ⟨b, o, rfl, e1, e2, e3⟩ := row_itv RX.rI hs
          have sA := RX.aI s (List.mem_of_getElem? hs)
          have hmi := ItemM.may_zero ((RepM.kOk_4 HK.out rfl).2 s.x (List.mem_map_of_mem (List.mem_of_getElem? hs)))
          have hba : Below wr.heap.size wr (wr.alloc (.cells #[.int .u64 (s.x.key : Int), .slice s.A s.x.vec.length s.c, .slice s.A2 s.x.note.length s.c2] 30)) := (Below.refl _ _).alloc (Nat.le_refl _) _
          have HC := Lib.hid (itembytes_ok s.x s.A s.A2 s.c s.c2 (wr.alloc (.cells #[.int .u64 (s.x.key : Int), .slice s.A s.x.vec.length s.c, .slice s.A2 s.x.note.length s.c2] 30)) sA.ok.hk sA.ok.hv (sA.r1.below hba) (sA.r2.below hba) hmi.1 hmi.2.1 hmi.2.2)
          have HS := Lib.hid hs
          have HBA := Lib.hid hba
          clear RX sA hmi hba hs
          go_wp2_with fail
          refine HC.out.mono ?_
          rintro e W2 ⟨v, rfl, hF⟩
          clear HC e1 e2 e3
          obtain ⟨B, bn, bc, rfl, hm, hmc, hB, hrow, hst, hb2⟩ := hF
          have HH := Lib.hid (And.intro hm.out (And.intro hB (And.intro hrow hb2)))
          clear hm hmc hB hrow hst hb2
          go_wp2_with fail
          refine (mktextF_any (wr.heap.size + 1) (ItemM.form s.x) B bn bc W2 HH.out.2.2.1 HH.out.1 (by have := HH.out.2.1.1; simpa using this) HH.out.2.1.2).mono ?_
          rintro e W3 ⟨vv, rfl, hin, hb3⟩
          obtain ⟨fn2, cp2, hv2⟩ := hin.ok.form
          subst hv2
          have hb13 : Below wr.heap.size wr W3 := below_join HBA.out (below_join HH.out.2.2.2 hb3)
          have hba2 : Below W3.heap.size W3 (W3.alloc (.cells #[(.func (.func fn2) #[] cp2)] 84)) := (Below.refl _ _).alloc (Nat.le_refl _) _
          have HB4 := Lib.hid (below_join hb13 hba2)
          have HW1 : Hid (WrF gr (W3.alloc (.cells #[(.func (.func fn2) #[] cp2)] 84)) (.func (.func fn2) #[] cp2) (RepM.encI s.x)) := Lib.hid (WrF.below ⟨_, _, .inl (Nat.lt_succ_of_lt HL.out.1.lt.2), hin⟩ hba2)
          clear hin hb3 hb13 hba2 HBA HH
          go_wp2_with (at_builtin; refine wpl_appF3 _ rfl (.tmp 68) (.tmp 71) rfl (g + 1) gr c vs (k + 2) rfl (HL.out.1.below HB4.out) (some ⟨W3.heap.size, 0, none⟩) 1 [(.func (.func fn2) #[] cp2)] 1 rfl rfl (row_fn W3 [(.func (.func fn2) #[] cp2)] #[(.func (.func fn2) #[] cp2)] rfl) (fun u hu => by rw [List.mem_singleton.1 hu]; exact HW1.out.ok.one) (by omega) (by omega) (by have := HL.out.1.lt; have := HB4.out.size; omega) ?_)
          intro gr6 c6 W6 hO6 hg6 hr6
          have HL6 : Hid (OwnF W6 (g + 1) (some ⟨gr6, 0, none⟩) (k + 1 + 2) c6 (vs ++ [(.func (.func fn2) #[] cp2)]) ∧ WrFs gr6 W6 (vs ++ [(.func (.func fn2) #[] cp2)]) ([StmM.b8 4] :: CodeM.uv n :: ((its.take (k + 1)).map fun s => RepM.encI s.x)) ∧ Below g w W6 ∧ Blk W6 g 34 #[.int .i64 4, .int .i64 mark, .int .i64 err, .int .i64 pl, .int .u64 (i.x.key : Int), .slice i.A i.x.vec.length i.c, .slice i.A2 i.x.note.length i.c2, .slice (some ⟨b, o, none⟩) n ic, .slice HA hits.length hc]) := Lib.hid (by
            have hl := HL.out.1.lt
            refine ⟨hO6, ?_, ?_, ?_⟩
            · have h1 := (WrFs.snoc HW1.out (HL.out.2.1.below HB4.out)).app hg6 (hr6.imp id (fun q => by simp; omega))
              rw [List.take_add_one, HS.out]
              simpa using h1
            · exact below_grown (below_step HL.out.2.2.1 HB4.out (Nat.le_of_eq HG.out.symm)) hg6 (by have := HB4.out.size; omega) (by omega)
            · exact (HL.out.2.2.2.below HB4.out HL.out.2.2.2.lt).grown hg6 (by intro q; injection q with q; omega))
          clear hO6 hg6 hr6 HW1 HB4 HL HS
          go_wp2
          go_roundw
          case rel => exact ⟨k + 1, gr6, c6, _, rfl, by go_num, by omega, HL6⟩
          case measure => simp [RowKit.intOf]; omega
        · obtain rfl : k = n := by omega
          have HB5 : Hid (Below g w wr) := Lib.hid HL.out.2.2.1
          have hl1 := HL.out.1.len
          have hl2 := HL.out.2.1.len
          have hf : (([StmM.b8 4] :: CodeM.uv k :: ((its.take k).map fun s => RepM.encI s.x)) : List (List UInt8)).flatten = RepM.formR ⟨4, mark, err, pl, i.x, its.map (·.x), hits⟩ := by rw [← HN.out, List.take_length]; simp [RepM.formR, RepM.bodyR, List.flatMap_def, List.map_map, Function.comp_def]
          have HF := Lib.hid hf
          have HALL := Lib.hid (all_any (some ⟨gr, 0, none⟩) (k + 2) c vs ([StmM.b8 4] :: CodeM.uv k :: ((its.take k).map fun s => RepM.encI s.x)) wr HL.out.1.row hl1 (hl2.symm.trans hl1) (by omega) (wr_all (w := wr) (vs := vs) (ms := ([StmM.b8 4] :: CodeM.uv k :: ((its.take k).map fun s => RepM.encI s.x))) HL.out.2.1.all) (by rw [hf]; exact Nat.le_trans (RepM.formR_small HM.out) (by decide)))
          clear hf
          go_wp2_with fail
          refine HALL.out.mono ?_
          rintro e V9 ⟨A9, n9, c9, rfl, hn9, hO9, hb9⟩
          have HZ : Hid (Hid ((RepM.formR ⟨4, mark, err, pl, i.x, its.map (·.x), hits⟩).length = n9) ∧ Own V9 w.heap.size A9 c9 (RepM.formR ⟨4, mark, err, pl, i.x, its.map (·.x), hits⟩) ∧ Below w.heap.size w V9) := Lib.hid (by
            rw [HF.out] at hn9 hO9
            rw [HG.out]
            exact ⟨hn9, hO9.base_ (Nat.le_trans (Nat.le_of_eq HG.out.symm) HB5.out.size), below_step HB5.out hb9 (Nat.le_of_eq HG.out.symm)⟩)
          clear hn9 hO9 hb9 HALL
          go_wp2
          go_ret2
          exact ⟨A9, n9, c9, rfl, HZ.out.1, HZ.out.2.1, HZ.out.2.2⟩
    by_cases k5 : kind = 5
    · subst k5
      as_aux_lemma =>
      obtain ⟨n, hn⟩ : ∃ n, hits.length = n := ⟨_, rfl⟩
      have HN := Lib.hid hn
      have hn50 : n ≤ 50 := by
        have := (RepM.kOk_5 HK.out rfl).1
        skip
        try dsimp only at this
        omega
      rw [hn] at HU3
      have HN50 := Lib.hid hn50
      clear hn
      obtain ⟨d0, d1, d2, d3, d4, d5, d6, d7, d8⟩ := HU3.out.c9
      clear d1 d2 d3 d4 d5 d6 d7
      go_wp2_with fail
      refine (mkuvF_any n V3 (by omega)).mono ?_
      rintro e V4 ⟨vv, rfl, hin, hb⟩
      obtain ⟨fn1, cp1, hv1⟩ := hin.ok.form
      subst hv1
      clear d0 d8
      have B4 := Lib.hid (below_step B3.out hb (Nat.le_of_eq HG.out.symm))
      have HU4 := Lib.hid (HU3.out.below hb HU3.out.lt)
      have HO4 := Lib.hid (HO3.out.below hb)
      have HF4 : Hid (WrFs gl V4 [v0] [[StmM.b8 5]]) := Lib.hid (WrFs.below (vs := [v0]) (ms := [[StmM.b8 5]]) ⟨HF0.out, trivial⟩ hb)
      have HI4 : Hid (WrF gl V4 (.func (.func fn1) #[] cp1) (CodeM.uv n)) := Lib.hid ⟨_, _, .inl HO3.out.lt.2, hin⟩
      have hba : Below V4.heap.size V4 (V4.alloc (.cells #[(.func (.func fn1) #[] cp1)] 84)) := (Below.refl _ _).alloc (Nat.le_refl _) _
      have HBA := Lib.hid hba
      have HGV : Hid (g + 1 ≤ V4.heap.size ∧ g + 1 ≤ gl) := Lib.hid ⟨Nat.le_trans HU3.out.lt hb.size, HO3.out.lt.1⟩
      clear hin hb hba
      go_wp2_with (at_builtin; refine wpl_appF3 _ rfl (.tmp 76) (.tmp 81) rfl (g + 1) gl 1 [v0] 1 rfl (HO4.out.below HBA.out) (some ⟨V4.heap.size, 0, none⟩) 1 [(.func (.func fn1) #[] cp1)] 1 rfl rfl (row_fn V4 [(.func (.func fn1) #[] cp1)] #[(.func (.func fn1) #[] cp1)] rfl) (fun u hu => by rw [List.mem_singleton.1 hu]; exact HI4.out.ok.one) (by decide) (by decide) (Nat.le_trans HGV.out.1 HBA.out.size) ?_)
      intro gr5 c5 V5 hO5 hg5 hr5
      have HI : Hid (OwnF V5 (g + 1) (some ⟨gr5, 0, none⟩) 2 c5 ([v0] ++ [(.func (.func fn1) #[] cp1)]) ∧ WrFs gr5 V5 ([v0] ++ [(.func (.func fn1) #[] cp1)]) ([[StmM.b8 5]] ++ [CodeM.uv n]) ∧ Below g w V5 ∧ Blk V5 g 34 #[.int .i64 5, .int .i64 mark, .int .i64 err, .int .i64 pl, .int .u64 (i.x.key : Int), .slice i.A i.x.vec.length i.c, .slice i.A2 i.x.note.length i.c2, .slice IA its.length ic, .slice HA n hc]) := Lib.hid (by
        refine ⟨hO5, (WrFs.snoc (HI4.out.below HBA.out) (HF4.out.below HBA.out)).app hg5 (hr5.imp id (fun q => by simp; omega)), ?_, ?_⟩
        · have h1 := below_step B4.out HBA.out (Nat.le_of_eq HG.out.symm)
          have := HGV.out
          exact below_grown h1 hg5 (by have := HBA.out.size; omega) (by omega)
        · have := HGV.out
          exact (HU4.out.below HBA.out HU4.out.lt).grown hg5 (by intro q; injection q with q; omega))
      obtain ⟨vs5, hvs5⟩ : ∃ vs, [v0] ++ [(.func (.func fn1) #[] cp1)] = vs := ⟨_, rfl⟩
      rw [hvs5] at HI
      clear hvs5 hO5 hg5 hr5 HBA HO4 HF4 HI4 HU4 B4 HGV
      obtain ⟨d0, d1, d2, d3, d4, d5, d6, d7, d8⟩ := HI.out.2.2.2.c9
      clear d0 d1 d2 d3 d4 d5 d6 d7
      go_wp2
      clear d8
      go_loopw [4, 86] (fun a i_ wr => ∃ (k gr c : Nat) (vs : List Value), a = .slice (some ⟨gr, 0, none⟩) (2 * k + 2) c ∧ i_ = .int .i64 (k : Int) ∧ k ≤ n ∧ Hid (OwnF wr (g + 1) (some ⟨gr, 0, none⟩) (2 * k + 2) c vs ∧ WrFs gr wr vs ([StmM.b8 5] :: CodeM.uv n :: ((hits.take k).flatMap fun s => [CodeM.fx 8 s.1, CodeM.fx 8 (RepM.u64z s.2)])) ∧ Below g w wr ∧ Blk wr g 34 #[.int .i64 5, .int .i64 mark, .int .i64 err, .int .i64 pl, .int .u64 (i.x.key : Int), .slice i.A i.x.vec.length i.c, .slice i.A2 i.x.note.length i.c2, .slice IA its.length ic, .slice HA n hc])) (fun _ i_ _ => n - (RowKit.intOf i_).toNat)
      case atStart => exact ⟨0, gr5, c5, vs5, rfl, rfl, Nat.zero_le _, HI⟩
      case round =>
        obtain ⟨k, gr, c, vs, rfl, rfl, hk, HL⟩ := hrel
        clear HI
        by_cases hlt : k < n
        · obtain ⟨⟨ha, hd_⟩, hs⟩ : ∃ s, hits[k]? = some s := ⟨_, List.getElem?_eq_getElem (by rw [HN.out]; exact hlt)⟩
          have RX := HSA.out wr HL.out.2.2.1
          obtain ⟨b, o, rfl, e1, e2⟩ := row_hit RX.rH hs
          have HHK : Hid (ha < 18446744073709551616 ∧ -9223372036854775808 ≤ hd_ ∧ hd_ < 9223372036854775808) := Lib.hid (RX.ok.hh _ (List.mem_of_getElem? hs))
          have HWZ : Hid (IntKind.u64.wrap hd_ = ((RepM.u64z hd_ : Nat) : Int)) := Lib.hid (by have := HHK.out; rw [IntKind.wrap_u64]; unfold RepM.u64z; omega)
          have hba : Below wr.heap.size wr (wr.alloc (.cells #[.int .u64 (ha : Int), .int .i64 hd_] 67)) := (Below.refl _ _).alloc (Nat.le_refl _) _
          have HX := Lib.hid (Blk.new wr 67 #[.int .u64 (ha : Int), .int .i64 hd_])
          have HS := Lib.hid hs
          have HBA := Lib.hid hba
          clear RX hba hs
          dsimp only at e1 e2
          go_upto_region 24 with fail
          clear e1 e2
          have HWS : Hid ((wr.alloc (.cells #[.int .u64 (ha : Int), .int .i64 hd_] 67)).heap.size = wr.heap.size + 1) := Lib.hid (by simp)
          generalize wr.alloc (.cells #[.int .u64 (ha : Int), .int .i64 hd_] 67) = WX at *
          obtain ⟨gt, hgt⟩ : ∃ gt, wr.heap.size = gt := ⟨_, rfl⟩
          rw [hgt] at HX
          simp only [hgt]
          have HGT := Lib.hid hgt
          have HOX : Hid (OwnF WX (g + 1) (some ⟨gr, 0, none⟩) (2 * k + 2) c vs ∧ gr < gt ∧ g + 1 ≤ WX.heap.size) := Lib.hid ⟨HL.out.1.below HBA.out, by have := HL.out.1.lt; omega, by have := HL.out.1.lt; have := HBA.out.size; omega⟩
          clear hgt
          refine wp_named fun a0 ha0 => ?_
          have z4 : a0.tmps.getD 4 undef = (.slice (some ⟨gr, 0, none⟩) (2 * k + 2) c) := by rw [ha0.out]; rfl
          have z10 : a0.tmps.getD 10 undef = (.pointer (some ⟨gt, 0, none⟩)) := by rw [ha0.out]; rfl
          have hsz0 : a0.tmps.size = 103 := by rw [ha0.out]; rfl
          refine wp_region_invB _ (by kernel_rfl) (fun L a wv => ∃ F bA rg rc, WJ a0 [90, 91, 92, 93, 94, 95, 96, 97, 98, 99, 4] (tl5P gt ha hd_ gr k c) (tl5PM gt ha hd_ gr k c) ⟨8, 98, 9, 99, 10, 4, 0⟩ (g + 1) WX gr (2 * k + 2) c vs F bA rg rc L a wv) (by kernel_rfl) ?_ ?_ ?_
          · exact ⟨fun _ => undef, 0, 0, 0, WJ.start HOX.out.2.2 HOX.out.1 ⟨rfl, rfl, rfl, Nat.le_refl _, fun _ _ _ => rfl⟩ (HOX.out.1.below ⟨rfl, rfl, rfl, Nat.le_refl _, fun _ _ => rfl⟩)⟩
          rotate_left
          · as_aux_lemma =>
            refine ⟨?_, ?_, ?_, ?_, ?_, ?_, ?_, ?_, ?_, ?_, ?_, trivial⟩
            · intro L a w1 hI hi hd
              obtain ⟨F, bA, rg, rc, hC⟩ := hI
              have hp := hC.pif
              have hi : L 0 = false := hi
              have hn4 : L 10 = false := by
                cases q : L 10 with
                | false => rfl
                | true => rw [(hC.dab (hC.d4a q)).2] at hi; cases hi
              have t4 := (hC.st hn4).trans z4
              have t4' := t4
              rw [Array.getD_eq_getD_getElem?] at t4'
              exact rstep_valW (wanted_none rfl _) (.slice (some ⟨gr, 0, none⟩) (2 * k + 2) c) w1 (by go_simp) ⟨F, bA, rg, rc, hC.pure 0 90 (.slice (some ⟨gr, 0, none⟩) (2 * k + 2) c) (by simp [jrows, tl5P, tl5PM]) (by simp [jrows, tl5P, tl5PM]) (by simp [tl5PM]) (by decide) rfl (by rw [hsz0]; exact (by decide : 90 < 103))⟩
            · intro L a w1 hI hi hd
              obtain ⟨F, bA, rg, rc, hC⟩ := hI
              have hp := hC.pif
              have hi : L 1 = false := hi
              have t10 := hp.at_ 10 _ rfl z10
              have t10' := t10
              rw [Array.getD_eq_getD_getElem?] at t10'
              exact rstep_valW (wanted_none rfl _) (.pointer (some ⟨gt, 0, none⟩)) w1 (by go_simp) ⟨F, bA, rg, rc, hC.pure 1 91 (.pointer (some ⟨gt, 0, none⟩)) (by simp [jrows, tl5P, tl5PM]) (by simp [jrows, tl5P, tl5PM]) (by simp [tl5PM]) (by decide) rfl (by rw [hsz0]; exact (by decide : 91 < 103))⟩
            · intro L a w1 hI hi hd
              obtain ⟨F, bA, rg, rc, hC⟩ := hI
              have hp := hC.pif
              have hi : L 2 = false := hi
              simp [Region.binds] at hd
              have e1 : a.tmps.getD 91 undef = (.pointer (some ⟨gt, 0, none⟩)) := hp.pu (1, 91, (.pointer (some ⟨gt, 0, none⟩))) (by simp [jrows, tl5P, tl5PM]) (by simp [hd])
              have f1 : a.tmps[91]?.getD undef = (.pointer (some ⟨gt, 0, none⟩)) := by rw [← Array.getD_eq_getD_getElem?]; exact e1
              obtain ⟨x0, x1⟩ := (HX.out.grown hC.gb (by have := HOX.out.2.1; intro q; injection q with q; omega)).c2
              exact rstep_valW (wanted_none rfl _) (.int .u64 (ha : Int)) w1 (by go_simp) ⟨F, bA, rg, rc, hC.pure 2 92 (.int .u64 (ha : Int)) (by simp [jrows, tl5P, tl5PM]) (by simp [jrows, tl5P, tl5PM]) (by simp [tl5PM]) (by decide) rfl (by rw [hsz0]; exact (by decide : 92 < 103))⟩
            · intro L a w1 hI hi hd
              obtain ⟨F, bA, rg, rc, hC⟩ := hI
              have hp := hC.pif
              have hi : L 3 = false := hi
              simp [Region.binds] at hd
              have e2 : a.tmps.getD 92 undef = (.int .u64 (ha : Int)) := hp.pu (2, 92, (.int .u64 (ha : Int))) (by simp [jrows, tl5P, tl5PM]) (by simp [hd])
              have f2 : a.tmps[92]?.getD undef = (.int .u64 (ha : Int)) := by rw [← Array.getD_eq_getD_getElem?]; exact e2
              refine rstep_callW (wanted_none rfl _) 54 #[.int .u64 (ha : Int)] (by go_simp) ?_
              refine (mku64F_any ha w1 HHK.out.1).mono ?_
              rintro e w2 ⟨v, rfl, hok, hb2⟩
              exact ⟨_, bA, rg, rc, hC.call (3, 93, CodeM.fx 8 ha) (by simp [tl5PM]) hi v hok hb2 (by simp [tl5P]) (by simp [tl5PM]) (by simp [jrows, tl5P, tl5PM, setF]) (by simp [jrows, tl5P, tl5PM, setF]) (by simp) rfl (by rw [hsz0]; exact (by decide : 93 < 103))⟩
            · intro L a w1 hI hi hd
              obtain ⟨F, bA, rg, rc, hC⟩ := hI
              have hp := hC.pif
              have hi : L 4 = false := hi
              have t10 := hp.at_ 10 _ rfl z10
              have t10' := t10
              rw [Array.getD_eq_getD_getElem?] at t10'
              exact rstep_valW (wanted_none rfl _) (.pointer (some ⟨gt, 1, none⟩)) w1 (by go_simp) ⟨F, bA, rg, rc, hC.pure 4 94 (.pointer (some ⟨gt, 1, none⟩)) (by simp [jrows, tl5P, tl5PM]) (by simp [jrows, tl5P, tl5PM]) (by simp [tl5PM]) (by decide) rfl (by rw [hsz0]; exact (by decide : 94 < 103))⟩
            · intro L a w1 hI hi hd
              obtain ⟨F, bA, rg, rc, hC⟩ := hI
              have hp := hC.pif
              have hi : L 5 = false := hi
              simp [Region.binds] at hd
              have e4 : a.tmps.getD 94 undef = (.pointer (some ⟨gt, 1, none⟩)) := hp.pu (4, 94, (.pointer (some ⟨gt, 1, none⟩))) (by simp [jrows, tl5P, tl5PM]) (by simp [hd])
              have f4 : a.tmps[94]?.getD undef = (.pointer (some ⟨gt, 1, none⟩)) := by rw [← Array.getD_eq_getD_getElem?]; exact e4
              obtain ⟨x0, x1⟩ := (HX.out.grown hC.gb (by have := HOX.out.2.1; intro q; injection q with q; omega)).c2
              exact rstep_valW (wanted_none rfl _) (.int .i64 hd_) w1 (by go_simp) ⟨F, bA, rg, rc, hC.pure 5 95 (.int .i64 hd_) (by simp [jrows, tl5P, tl5PM]) (by simp [jrows, tl5P, tl5PM]) (by simp [tl5PM]) (by decide) rfl (by rw [hsz0]; exact (by decide : 95 < 103))⟩
            · intro L a w1 hI hi hd
              obtain ⟨F, bA, rg, rc, hC⟩ := hI
              have hp := hC.pif
              have hi : L 6 = false := hi
              simp [Region.binds] at hd
              have e5 : a.tmps.getD 95 undef = (.int .i64 hd_) := hp.pu (5, 95, (.int .i64 hd_)) (by simp [jrows, tl5P, tl5PM]) (by simp [hd])
              have f5 : a.tmps[95]?.getD undef = (.int .i64 hd_) := by rw [← Array.getD_eq_getD_getElem?]; exact e5
              have hwz := HWZ.out
              exact rstep_valW (wanted_none rfl _) (.int .u64 ((RepM.u64z hd_ : Nat) : Int)) w1 (by go_simp) ⟨F, bA, rg, rc, hC.pure 6 96 (.int .u64 ((RepM.u64z hd_ : Nat) : Int)) (by simp [jrows, tl5P, tl5PM]) (by simp [jrows, tl5P, tl5PM]) (by simp [tl5PM]) (by decide) rfl (by rw [hsz0]; exact (by decide : 96 < 103))⟩
            · intro L a w1 hI hi hd
              obtain ⟨F, bA, rg, rc, hC⟩ := hI
              have hp := hC.pif
              have hi : L 7 = false := hi
              simp [Region.binds] at hd
              have e6 : a.tmps.getD 96 undef = (.int .u64 ((RepM.u64z hd_ : Nat) : Int)) := hp.pu (6, 96, (.int .u64 ((RepM.u64z hd_ : Nat) : Int))) (by simp [jrows, tl5P, tl5PM]) (by simp [hd])
              have f6 : a.tmps[96]?.getD undef = (.int .u64 ((RepM.u64z hd_ : Nat) : Int)) := by rw [← Array.getD_eq_getD_getElem?]; exact e6
              refine rstep_callW (wanted_none rfl _) 54 #[.int .u64 ((RepM.u64z hd_) : Int)] (by go_simp) ?_
              refine (mku64F_any (RepM.u64z hd_) w1 (RepM.u64z_lt hd_)).mono ?_
              rintro e w2 ⟨v, rfl, hok, hb2⟩
              exact ⟨_, bA, rg, rc, hC.call (7, 97, CodeM.fx 8 (RepM.u64z hd_)) (by simp [tl5PM]) hi v hok hb2 (by simp [tl5P]) (by simp [tl5PM]) (by simp [jrows, tl5P, tl5PM, setF]) (by simp [jrows, tl5P, tl5PM, setF]) (by simp) rfl (by rw [hsz0]; exact (by decide : 97 < 103))⟩
            · intro L a w1 hI hi hd
              obtain ⟨F, bA, rg, rc, hC⟩ := hI
              have hp := hC.pif
              have hi : L 8 = false := hi
              simp [Region.binds] at hd
              have e3 : a.tmps.getD 93 undef = (F 3) := hp.pu (3, 93, (F 3)) (by simp [jrows, tl5P, tl5PM]) (by simp [hd])
              have f3 : a.tmps[93]?.getD undef = (F 3) := by rw [← Array.getD_eq_getD_getElem?]; exact e3
              have e7 : a.tmps.getD 97 undef = (F 7) := hp.pu (7, 97, (F 7)) (by simp [jrows, tl5P, tl5PM]) (by simp [hd])
              have f7 : a.tmps[97]?.getD undef = (F 7) := by rw [← Array.getD_eq_getD_getElem?]; exact e7
              obtain ⟨fn3, cp3, hv3⟩ := (hC.one (m := (3, 93, CodeM.fx 8 ha)) (by simp [tl5PM]) (by simp [hd])).form
              dsimp only at hv3
              rw [hv3] at e3 f3
              obtain ⟨fn7, cp7, hv7⟩ := (hC.one (m := (7, 97, CodeM.fx 8 (RepM.u64z hd_))) (by simp [tl5PM]) (by simp [hd])).form
              dsimp only at hv7
              rw [hv7] at e7 f7
              exact rstep_valW (wanted_none rfl _) (.slice (some ⟨w1.heap.size, 0, none⟩) 2 2) (w1.alloc (.cells #[F 3, F 7] 84)) (by rw [hv3, hv7]; go_simp) ⟨F, _, rg, rc, hC.build hi (by simp [tl5PM, hd]) #[F 3, F 7] rfl (by simp [jrows, tl5P, tl5PM]) (by simp [jrows, tl5P, tl5PM]) (by decide) (by simp [tl5PM]) rfl (by rw [hsz0]; exact (by decide : 98 < 103))⟩
            · intro L a w1 hI hi hd
              obtain ⟨F, bA, rg, rc, hC⟩ := hI
              have hp := hC.pif
              have hi : L 9 = false := hi
              simp [Region.binds] at hd
              have e0 : a.tmps.getD 90 undef = (.slice (some ⟨gr, 0, none⟩) (2 * k + 2) c) := hp.pu (0, 90, (.slice (some ⟨gr, 0, none⟩) (2 * k + 2) c)) (by simp [jrows, tl5P, tl5PM]) (by simp [hd])
              have f0 : a.tmps[90]?.getD undef = (.slice (some ⟨gr, 0, none⟩) (2 * k + 2) c) := by rw [← Array.getD_eq_getD_getElem?]; exact e0
              have e8 : a.tmps.getD 98 undef = (.slice (some ⟨bA, 0, none⟩) 2 2) := hp.pu (8, 98, (.slice (some ⟨bA, 0, none⟩) 2 2)) (by simp [jrows, tl5P, tl5PM]) (by simp [hd])
              have f8 : a.tmps[98]?.getD undef = (.slice (some ⟨bA, 0, none⟩) 2 2) := by rw [← Array.getD_eq_getD_getElem?]; exact e8
              have hib : L 8 = true := by simp [hd]
              refine step_appF3 w1 rfl (.tmp 90) (.tmp 98) rfl (g + 1) gr c vs (2 * k + 2) (show a.eval (.tmp 90) = _ from e0) (hC.own hi) (some ⟨bA, 0, none⟩) 2 _ 2 (show a.eval (.tmp 98) = _ from e8) (by simp [tl5PM]) (hC.bld hib hi) (fun u hu => by obtain ⟨m, hm, rfl⟩ := List.mem_map.1 hu; exact (hC.one hm (hC.dbm hib m hm)).one) (by omega) (by omega) hC.size ?_
              intro gr2 c' w2 hO2 hg2 hr2
              exact ⟨F, bA, gr2, c', hC.appd hi hib (by simp [hd]) gr2 c' hO2 hg2 hr2 (by simp [jrows, tl5P, tl5PM]) (by simp [jrows, tl5P, tl5PM]) (by decide) (by simp [tl5PM]) rfl (by rw [hsz0]; exact (by decide : 99 < 103))⟩
            · intro L a w1 hI hi hd
              obtain ⟨F, bA, rg, rc, hC⟩ := hI
              have hp := hC.pif
              have hi : L 10 = false := hi
              simp [Region.binds] at hd
              have e9 : a.tmps.getD 99 undef = (.slice (some ⟨rg, 0, none⟩) (2 * k + 2 + 2) rc) := hp.pu (9, 99, (.slice (some ⟨rg, 0, none⟩) (2 * k + 2 + 2) rc)) (by simp [jrows, tl5P, tl5PM]) (by simp [hd])
              have f9 : a.tmps[99]?.getD undef = (.slice (some ⟨rg, 0, none⟩) (2 * k + 2 + 2) rc) := by rw [← Array.getD_eq_getD_getElem?]; exact e9
              exact rstep_valW (wanted_none rfl _) (.slice (some ⟨rg, 0, none⟩) (2 * k + 2 + 2) rc) w1 (by go_simp) ⟨F, bA, rg, rc, hC.fin (by simp [hd]) (by simp [jrows, tl5P, tl5PM]) (by simp [jrows, tl5P, tl5PM]) (by decide) (by simp [tl5PM]) rfl (by rw [hsz0]; exact (by decide : 4 < 103))⟩
          rintro L a W0 ⟨F, bA, rg, rc, hC⟩ hL
          have e10 : a.tmps.getD 4 undef = .slice (some ⟨rg, 0, none⟩) (2 * k + 2 + 2) rc := hC.pif.pu (10, 4, _) (by simp [jrows, tl5P, tl5PM]) (hL 10 (by simp))
          have hia : L 9 = true := hL 9 (by simp)
          have hrow := hC.app hia
          have hw3 := hC.wrf hia (m := (3, 93, CodeM.fx 8 ha)) (by simp [tl5PM])
          have hw7 := hC.wrf hia (m := (7, 97, CodeM.fx 8 (RepM.u64z hd_))) (by simp [tl5PM])
          have HL6 : Hid (OwnF W0 (g + 1) (some ⟨rg, 0, none⟩) (2 * k + 2 + 2) rc (vs ++ [F 3, F 7]) ∧ WrFs rg W0 (vs ++ [F 3, F 7]) ([StmM.b8 5] :: CodeM.uv n :: ((hits.take (k + 1)).flatMap fun s => [CodeM.fx 8 s.1, CodeM.fx 8 (RepM.u64z s.2)])) ∧ Below g w W0 ∧ Blk W0 g 34 #[.int .i64 5, .int .i64 mark, .int .i64 err, .int .i64 pl, .int .u64 (i.x.key : Int), .slice i.A i.x.vec.length i.c, .slice i.A2 i.x.note.length i.c2, .slice IA its.length ic, .slice (some ⟨b, o, none⟩) n hc]) := Lib.hid (by
            have hl := HL.out.1.lt
            refine ⟨hrow.1, ?_, ?_, ?_⟩
            · have h0 := (HL.out.2.1.below HBA.out).app hC.gb hrow.2
              have h1 := WrFs.snoc hw7 (WrFs.snoc hw3 h0)
              rw [List.take_add_one, HS.out]
              simpa using h1
            · exact below_grown (below_step HL.out.2.2.1 HBA.out (Nat.le_of_eq HG.out.symm)) hC.gb (by have := HBA.out.size; omega) (by omega)
            · exact (HL.out.2.2.2.below HBA.out HL.out.2.2.2.lt).grown hC.gb (by intro q; injection q with q; omega))
          clear hrow hw3 hw7
          have hp := hC.pif
          rw [hp.eq]
          refine of_assigns (P := Try.prog) _ _ _ _ ?_
          rw [ha0.out]
          simp only [asgs, List.map, e10]
          generalize a.tmps.getD 90 undef = u90
          generalize a.tmps.getD 91 undef = u91
          generalize a.tmps.getD 92 undef = u92
          generalize a.tmps.getD 93 undef = u93
          generalize a.tmps.getD 94 undef = u94
          generalize a.tmps.getD 95 undef = u95
          generalize a.tmps.getD 96 undef = u96
          generalize a.tmps.getD 97 undef = u97
          generalize a.tmps.getD 98 undef = u98
          generalize a.tmps.getD 99 undef = u99
          clear hp hL hsz0 hC hia e10 z4 z10
          clear ha0
          clear HL HS HBA HX HHK HWZ HGT HOX HWS
          go_wp2
          go_roundw
          case rel => exact ⟨k + 1, rg, rc, _, by rw [show 2 * (k + 1) + 2 = 2 * k + 2 + 2 by omega], by go_num, by omega, by rw [show 2 * (k + 1) + 2 = 2 * k + 2 + 2 by omega]; exact HL6⟩
          case measure => simp [RowKit.intOf]; omega
        · obtain rfl : k = n := by omega
          have HB5 : Hid (Below g w wr) := Lib.hid HL.out.2.2.1
          have hl1 := HL.out.1.len
          have hl2 := HL.out.2.1.len
          have hf : (([StmM.b8 5] :: CodeM.uv k :: ((hits.take k).flatMap fun s => [CodeM.fx 8 s.1, CodeM.fx 8 (RepM.u64z s.2)])) : List (List UInt8)).flatten = RepM.formR ⟨5, mark, err, pl, i.x, its.map (·.x), hits⟩ := by rw [← HN.out, List.take_length, List.flatten_cons, List.flatten_cons, RepM.hits_flat]; simp [RepM.formR, RepM.bodyR]
          have HF := Lib.hid hf
          have HALL := Lib.hid (all_any (some ⟨gr, 0, none⟩) (2 * k + 2) c vs ([StmM.b8 5] :: CodeM.uv k :: ((hits.take k).flatMap fun s => [CodeM.fx 8 s.1, CodeM.fx 8 (RepM.u64z s.2)])) wr HL.out.1.row hl1 (hl2.symm.trans hl1) (by omega) (wr_all (w := wr) (vs := vs) (ms := ([StmM.b8 5] :: CodeM.uv k :: ((hits.take k).flatMap fun s => [CodeM.fx 8 s.1, CodeM.fx 8 (RepM.u64z s.2)]))) HL.out.2.1.all) (by rw [hf]; exact Nat.le_trans (RepM.formR_small HM.out) (by decide)))
          clear hf
          go_wp2_with fail
          refine HALL.out.mono ?_
          rintro e V9 ⟨A9, n9, c9, rfl, hn9, hO9, hb9⟩
          have HZ : Hid (Hid ((RepM.formR ⟨5, mark, err, pl, i.x, its.map (·.x), hits⟩).length = n9) ∧ Own V9 w.heap.size A9 c9 (RepM.formR ⟨5, mark, err, pl, i.x, its.map (·.x), hits⟩) ∧ Below w.heap.size w V9) := Lib.hid (by
            rw [HF.out] at hn9 hO9
            rw [HG.out]
            exact ⟨hn9, hO9.base_ (Nat.le_trans (Nat.le_of_eq HG.out.symm) HB5.out.size), below_step HB5.out hb9 (Nat.le_of_eq HG.out.symm)⟩)
          clear hn9 hO9 hb9 HALL
          go_wp2
          go_ret2
          exact ⟨A9, n9, c9, rfl, HZ.out.1, HZ.out.2.1, HZ.out.2.2⟩
    exfalso
    have := RepM.kOk_kind HK.out
    simp only at this
    omega
end Go.Proofs.Ytaadfalklddhcaa
