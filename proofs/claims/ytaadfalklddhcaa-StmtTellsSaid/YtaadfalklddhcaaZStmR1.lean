/-
  Whether two lists of records are alike, by the program's word and by the document's.
  Conditions: the lists lie in memory.
-/
import Derived.Test.YtaadfalklddhcaaZStmR0
import Derived.Test.YtaadfalklddhcaaZCj
namespace Go.Proofs.Ytaadfalklddhcaa
open Go.RowKit Go.Sort Go.Lib
set_option linter.unusedVariables false
set_option linter.unusedSimpArgs false
def rsP (b o b2 o2 k n c c2 : Nat) (s t : Itv) (r : Bool) : List (Nat × Nat × Value) := [(0, 17, (.slice (some ⟨b, o, none⟩) n c)), (1, 18, (.int .i64 (k : Int))), (2, 19, (.pointer (some ⟨b, o + k * 3, none⟩))), (3, 20, (.agg #[.int .u64 (s.x.key : Int), .slice s.A s.x.vec.length s.c, .slice s.A2 s.x.note.length s.c2])), (4, 21, (.slice (some ⟨b2, o2, none⟩) n c2)), (5, 22, (.int .i64 (k : Int))), (6, 23, (.pointer (some ⟨b2, o2 + k * 3, none⟩))), (7, 24, (.agg #[.int .u64 (t.x.key : Int), .slice t.A t.x.vec.length t.c, .slice t.A2 t.x.note.length t.c2])), (8, 25, (.bool r)), (9, 26, (.bool (!r)))]
theorem map_ne {l m : List Itv} {k : Nat} {s t : Itv} (hs : l[k]? = some s) (ht : m[k]? = some t) (h : s.x ≠ t.x) : l.map (·.x) ≠ m.map (·.x) := by
  intro e
  have := congrArg (fun z => z[k]?) e
  simp [hs, ht] at this
  exact h this
theorem map_eq_ {l m : List Itv} {n : Nat} (h1 : l.length = n) (h2 : m.length = n) (h : ∀ j, j < n → (l.map (·.x))[j]? = (m.map (·.x))[j]?) : l.map (·.x) = m.map (·.x) :=
  list_eq (by rw [List.length_map]; exact h1) (by rw [List.length_map]; exact h2) h
set_option maxRecDepth 100000 in
set_option maxHeartbeats 4000000 in
theorem efun_any (A B : Option Addr) (n n2 c c2 : Nat) (l m : List Itv) (w : World) (hr : Row w A (l.flatMap Itv.cells)) (ha : ∀ s ∈ l, s.At w) (hl : l.length = n) (hr2 : Row w B (m.flatMap Itv.cells)) (hb : ∀ s ∈ m, s.At w) (hl2 : m.length = n2) (hm : n ≤ 9223372036854775807) :
    Calls Try.prog 74 #[.slice A n c, .slice B n2 c2, .func (.func 73) #[] #[]] w (BoolP (decide (l.map (·.x) = m.map (·.x))) w) := by
  have HL := Lib.hid hl
  have HL2 := Lib.hid hl2
  have HA := Lib.hid ha
  have HB := Lib.hid hb
  have HR := Lib.hid hr
  have HR2 := Lib.hid hr2
  clear hl hl2 ha hb hr hr2
  by_cases hd : n = n2
  · subst hd
    go_enter Try.func74, Try.ntmps74
    go_wp2
    go_loopw [17] (fun i wr => ∃ k : Nat, i = .int .i64 (k : Int) ∧ k ≤ n ∧ Below w.heap.size w wr ∧ Hid (∀ j, j < k → (l.map (·.x))[j]? = (m.map (·.x))[j]?)) (fun i _ => n - (RowKit.intOf i).toNat)
    case atStart => exact ⟨0, rfl, Nat.zero_le _, Below.refl _ _, Lib.hid fun j hj => by omega⟩
    case round =>
      obtain ⟨k, rfl, hk, hbel, HE⟩ := hrel
      by_cases hlt : k < n
      · obtain ⟨s, hs⟩ : ∃ s, l[k]? = some s := ⟨_, List.getElem?_eq_getElem (by rw [HL.out]; exact hlt)⟩
        obtain ⟨t, ht⟩ : ∃ t, m[k]? = some t := ⟨_, List.getElem?_eq_getElem (by rw [HL2.out]; exact hlt)⟩
        obtain ⟨b, o, rfl, e1, e2, e3⟩ := row_itv (HR.out.below hbel) hs
        obtain ⟨b2, o2, rfl, f1, f2, f3⟩ := row_itv (HR2.out.below hbel) ht
        have hb0 : Below wr.heap.size wr ((wr.alloc (.cells #[.int .u64 (s.x.key : Int), .slice s.A s.x.vec.length s.c, .slice s.A2 s.x.note.length s.c2] 30)).alloc (.cells #[.int .u64 (t.x.key : Int), .slice t.A t.x.vec.length t.c, .slice t.A2 t.x.note.length t.c2] 30)) := ((Below.refl _ _).alloc (Nat.le_refl _) _).alloc (by simp) _
        have sA := (HA.out s (List.mem_of_getElem? hs)).below hbel
        have tA := (HB.out t (List.mem_of_getElem? ht)).below hbel
        have HC := Lib.hid (itemsame_any s.x t.x s.A s.A2 t.A t.A2 s.c s.c2 t.c t.c2 _ (sA.r1.below hb0) (sA.r2.below hb0) (tA.r1.below hb0) (tA.r2.below hb0) (Nat.le_trans sA.l1 sA.m1) (Nat.le_trans tA.l1 tA.m1))
        have HX := Lib.hid (And.intro hs (And.intro ht (below_step hbel hb0 (Nat.le_refl _))))
        have hba : Below wr.heap.size wr (wr.alloc (.cells #[.int .u64 (s.x.key : Int), .slice s.A s.x.vec.length s.c, .slice s.A2 s.x.note.length s.c2] 30)) := (Below.refl _ _).alloc (Nat.le_refl _) _
        have g1 := (hba.cell (World.block_lt_of_cell? wr _ f1)).trans f1
        have g2 := (hba.cell (World.block_lt_of_cell? wr _ f2)).trans f2
        have g3 := (hba.cell (World.block_lt_of_cell? wr _ f3)).trans f3
        clear hs ht sA tA hbel hb0 f1 f2 f3 hba
        go_wp2_with fail
        refine HC.out.mono ?_
        rintro e w2 ⟨rfl, hb2⟩
        have HB2 := Lib.hid (below_step HX.out.2.2 hb2 (Nat.le_refl _))
        clear hb2 HC e1 e2 e3 g1 g2 g3
        rw [itm_same]
        by_cases hst : s.x = t.x
        · rw [decide_eq_true hst]
          go_wp2
          go_roundw
          case rel =>
            refine ⟨k + 1, by go_num, by omega, HB2.out, Lib.hid fun j hj => ?_⟩
            by_cases e : j = k
            · subst e; rw [List.getElem?_map, List.getElem?_map, HX.out.1, HX.out.2.1]; simp [hst]
            · exact HE.out j (by omega)
          case measure => simp [RowKit.intOf]; omega
        · rw [decide_eq_false hst]
          go_wp2
          go_ret
          exact BoolP.no (map_ne HX.out.1 HX.out.2.1 hst) HB2.out
      · obtain rfl : k = n := by omega
        go_wp2
        go_ret
        exact BoolP.yes (map_eq_ HL.out HL2.out HE.out) hbel
  · go_enter Try.func74, Try.ntmps74
    go_wp2
    go_ret
    exact BoolP.no (fun h => hd (by rw [← HL.out, ← HL2.out]; have := congrArg List.length h; simpa using this)) (Below.refl _ _)
set_option maxRecDepth 100000 in
set_option maxHeartbeats 4000000 in
theorem refsames_any (A B : Option Addr) (n n2 c c2 : Nat) (l m : List Itv) (w : World) (hr : Row w A (l.flatMap Itv.cells)) (ha : ∀ s ∈ l, s.At w) (hl : l.length = n) (hr2 : Row w B (m.flatMap Itv.cells)) (hb : ∀ s ∈ m, s.At w) (hl2 : m.length = n2) (hm : n ≤ 9223372036854775807) :
    Calls Try.prog 44 #[.slice A n c, .slice B n2 c2] w (BoolP (decide (l.map (·.x) = m.map (·.x))) w) := by
  have HL := Lib.hid hl
  have HL2 := Lib.hid hl2
  have HA := Lib.hid ha
  have HB := Lib.hid hb
  have HR := Lib.hid hr
  have HR2 := Lib.hid hr2
  clear hl hl2 ha hb hr hr2
  by_cases hd : n = n2
  · subst hd
    go_enter Try.func44, Try.ntmps44
    go_wp2
    go_loopw [5] (fun i wr => ∃ k : Nat, i = .int .i64 (k : Int) ∧ k ≤ n ∧ Below w.heap.size w wr ∧ Hid (∀ j, j < k → (l.map (·.x))[j]? = (m.map (·.x))[j]?)) (fun i _ => n - (RowKit.intOf i).toNat)
    case atStart => exact ⟨0, rfl, Nat.zero_le _, Below.refl _ _, Lib.hid fun j hj => by omega⟩
    case round =>
      obtain ⟨k, rfl, hk, hbel, HE⟩ := hrel
      by_cases hlt : k < n
      · obtain ⟨s, hs⟩ : ∃ s, l[k]? = some s := ⟨_, List.getElem?_eq_getElem (by rw [HL.out]; exact hlt)⟩
        obtain ⟨t, ht⟩ : ∃ t, m[k]? = some t := ⟨_, List.getElem?_eq_getElem (by rw [HL2.out]; exact hlt)⟩
        obtain ⟨b, o, rfl, e1, e2, e3⟩ := row_itv (HR.out.below hbel) hs
        obtain ⟨b2, o2, rfl, f1, f2, f3⟩ := row_itv (HR2.out.below hbel) ht
        have sA := (HA.out s (List.mem_of_getElem? hs)).below hbel
        have tA := (HB.out t (List.mem_of_getElem? ht)).below hbel
        have HC : Hid (∀ w1, Below wr.heap.size wr w1 → Calls Try.prog 43 #[.agg #[.int .u64 (s.x.key : Int), .slice s.A s.x.vec.length s.c, .slice s.A2 s.x.note.length s.c2], .agg #[.int .u64 (t.x.key : Int), .slice t.A t.x.vec.length t.c, .slice t.A2 t.x.note.length t.c2]] w1 fun e w' => e = .returned (.bool (ItemM.same s.x t.x)) ∧ Below w1.heap.size w1 w') := Lib.hid fun w1 h =>
          refsame_any s.x t.x s.A s.A2 t.A t.A2 s.c s.c2 t.c t.c2 _ (sA.r1.below h) (sA.r2.below h) (tA.r1.below h) (tA.r2.below h) (Nat.le_trans sA.l1 sA.m1) (Nat.le_trans tA.l1 tA.m1)
        have HX := Lib.hid (And.intro hs (And.intro ht hbel))
        have HE1 := Lib.hid (And.intro e1 (And.intro e2 e3))
        have HE2 := Lib.hid (And.intro f1 (And.intro f2 f3))
        clear hs ht sA tA hbel e1 e2 e3 f1 f2 f3
        go_upto_region 6 with fail
        by_cases hst : s.x = t.x
        · skip
          refine wp_named fun a0 ha0 => ?_
          have z0 : a0.tmps.getD 0 undef = (.slice (some ⟨b, o, none⟩) n c) := by rw [ha0.out]; rfl
          have z1 : a0.tmps.getD 1 undef = (.slice (some ⟨b2, o2, none⟩) n c2) := by rw [ha0.out]; rfl
          have z5 : a0.tmps.getD 5 undef = (.int .i64 (k : Int)) := by rw [ha0.out]; rfl
          have hsz0 : a0.tmps.size = 27 := by rw [ha0.out]; rfl
          refine wp_region_invB _ (by kernel_rfl) (fun L a wv => PIF a0 [17, 18, 19, 20, 21, 22, 23, 24, 25, 26] (rsP b o b2 o2 k n c c2 s t true) L a ∧ Below wr.heap.size wr wv) (by kernel_rfl) ?_ ?_ ?_
          · exact ⟨PIF.start _ _ _, ⟨rfl, rfl, rfl, Nat.le_refl _, fun _ _ => rfl⟩⟩
          rotate_left
          · as_aux_lemma =>
            refine ⟨?_, ?_, ?_, ?_, ?_, ?_, ?_, ?_, ?_, ?_, trivial⟩
            · intro L a w1 hI hi hd
              obtain ⟨hp, hw⟩ := hI
              have t0 := hp.at_ 0 _ rfl z0
              have t0' := t0
              rw [Array.getD_eq_getD_getElem?] at t0'
              exact rstep_valW (wanted_none rfl _) (.slice (some ⟨b, o, none⟩) n c) w1 (by go_simp) ⟨(hp.put 0 17 (.slice (some ⟨b, o, none⟩) n c) (by simp [rsP]) (by simp [rsP]) rfl (by rw [hsz0]; exact (by decide : 17 < 27))), hw⟩
            · intro L a w1 hI hi hd
              obtain ⟨hp, hw⟩ := hI
              have t5 := hp.at_ 5 _ rfl z5
              have t5' := t5
              rw [Array.getD_eq_getD_getElem?] at t5'
              exact rstep_valW (wanted_none rfl _) (.int .i64 (k : Int)) w1 (by go_simp) ⟨(hp.put 1 18 (.int .i64 (k : Int)) (by simp [rsP]) (by simp [rsP]) rfl (by rw [hsz0]; exact (by decide : 18 < 27))), hw⟩
            · intro L a w1 hI hi hd
              obtain ⟨hp, hw⟩ := hI
              simp [Region.binds] at hd
              have e0 : a.tmps.getD 17 undef = (.slice (some ⟨b, o, none⟩) n c) := hp.pu (0, 17, (.slice (some ⟨b, o, none⟩) n c)) (by simp [rsP]) (by simp [hd])
              have f0 : a.tmps[17]?.getD undef = (.slice (some ⟨b, o, none⟩) n c) := by rw [← Array.getD_eq_getD_getElem?]; exact e0
              have e1 : a.tmps.getD 18 undef = (.int .i64 (k : Int)) := hp.pu (1, 18, (.int .i64 (k : Int))) (by simp [rsP]) (by simp [hd])
              have f1 : a.tmps[18]?.getD undef = (.int .i64 (k : Int)) := by rw [← Array.getD_eq_getD_getElem?]; exact e1
              have hk := hlt
              exact rstep_valW (wanted_none rfl _) (.pointer (some ⟨b, o + k * 3, none⟩)) w1 (by go_simp) ⟨(hp.put 2 19 (.pointer (some ⟨b, o + k * 3, none⟩)) (by simp [rsP]) (by simp [rsP]) rfl (by rw [hsz0]; exact (by decide : 19 < 27))), hw⟩
            · intro L a w1 hI hi hd
              obtain ⟨hp, hw⟩ := hI
              simp [Region.binds] at hd
              have e2 : a.tmps.getD 19 undef = (.pointer (some ⟨b, o + k * 3, none⟩)) := hp.pu (2, 19, (.pointer (some ⟨b, o + k * 3, none⟩))) (by simp [rsP]) (by simp [hd])
              have f2 : a.tmps[19]?.getD undef = (.pointer (some ⟨b, o + k * 3, none⟩)) := by rw [← Array.getD_eq_getD_getElem?]; exact e2
              have c0 := (hw.cell (World.block_lt_of_cell? wr _ HE1.out.1)).trans HE1.out.1
              have c1 := (hw.cell (World.block_lt_of_cell? wr _ HE1.out.2.1)).trans HE1.out.2.1
              have c2 := (hw.cell (World.block_lt_of_cell? wr _ HE1.out.2.2)).trans HE1.out.2.2
              exact rstep_valW (wanted_none rfl _) (.agg #[.int .u64 (s.x.key : Int), .slice s.A s.x.vec.length s.c, .slice s.A2 s.x.note.length s.c2]) w1 (by go_simp) ⟨(hp.put 3 20 (.agg #[.int .u64 (s.x.key : Int), .slice s.A s.x.vec.length s.c, .slice s.A2 s.x.note.length s.c2]) (by simp [rsP]) (by simp [rsP]) rfl (by rw [hsz0]; exact (by decide : 20 < 27))), hw⟩
            · intro L a w1 hI hi hd
              obtain ⟨hp, hw⟩ := hI
              have t1 := hp.at_ 1 _ rfl z1
              have t1' := t1
              rw [Array.getD_eq_getD_getElem?] at t1'
              exact rstep_valW (wanted_none rfl _) (.slice (some ⟨b2, o2, none⟩) n c2) w1 (by go_simp) ⟨(hp.put 4 21 (.slice (some ⟨b2, o2, none⟩) n c2) (by simp [rsP]) (by simp [rsP]) rfl (by rw [hsz0]; exact (by decide : 21 < 27))), hw⟩
            · intro L a w1 hI hi hd
              obtain ⟨hp, hw⟩ := hI
              have t5 := hp.at_ 5 _ rfl z5
              have t5' := t5
              rw [Array.getD_eq_getD_getElem?] at t5'
              exact rstep_valW (wanted_none rfl _) (.int .i64 (k : Int)) w1 (by go_simp) ⟨(hp.put 5 22 (.int .i64 (k : Int)) (by simp [rsP]) (by simp [rsP]) rfl (by rw [hsz0]; exact (by decide : 22 < 27))), hw⟩
            · intro L a w1 hI hi hd
              obtain ⟨hp, hw⟩ := hI
              simp [Region.binds] at hd
              have e4 : a.tmps.getD 21 undef = (.slice (some ⟨b2, o2, none⟩) n c2) := hp.pu (4, 21, (.slice (some ⟨b2, o2, none⟩) n c2)) (by simp [rsP]) (by simp [hd])
              have f4 : a.tmps[21]?.getD undef = (.slice (some ⟨b2, o2, none⟩) n c2) := by rw [← Array.getD_eq_getD_getElem?]; exact e4
              have e5 : a.tmps.getD 22 undef = (.int .i64 (k : Int)) := hp.pu (5, 22, (.int .i64 (k : Int))) (by simp [rsP]) (by simp [hd])
              have f5 : a.tmps[22]?.getD undef = (.int .i64 (k : Int)) := by rw [← Array.getD_eq_getD_getElem?]; exact e5
              have hk := hlt
              exact rstep_valW (wanted_none rfl _) (.pointer (some ⟨b2, o2 + k * 3, none⟩)) w1 (by go_simp) ⟨(hp.put 6 23 (.pointer (some ⟨b2, o2 + k * 3, none⟩)) (by simp [rsP]) (by simp [rsP]) rfl (by rw [hsz0]; exact (by decide : 23 < 27))), hw⟩
            · intro L a w1 hI hi hd
              obtain ⟨hp, hw⟩ := hI
              simp [Region.binds] at hd
              have e6 : a.tmps.getD 23 undef = (.pointer (some ⟨b2, o2 + k * 3, none⟩)) := hp.pu (6, 23, (.pointer (some ⟨b2, o2 + k * 3, none⟩))) (by simp [rsP]) (by simp [hd])
              have f6 : a.tmps[23]?.getD undef = (.pointer (some ⟨b2, o2 + k * 3, none⟩)) := by rw [← Array.getD_eq_getD_getElem?]; exact e6
              have c0 := (hw.cell (World.block_lt_of_cell? wr _ HE2.out.1)).trans HE2.out.1
              have c1 := (hw.cell (World.block_lt_of_cell? wr _ HE2.out.2.1)).trans HE2.out.2.1
              have c2 := (hw.cell (World.block_lt_of_cell? wr _ HE2.out.2.2)).trans HE2.out.2.2
              exact rstep_valW (wanted_none rfl _) (.agg #[.int .u64 (t.x.key : Int), .slice t.A t.x.vec.length t.c, .slice t.A2 t.x.note.length t.c2]) w1 (by go_simp) ⟨(hp.put 7 24 (.agg #[.int .u64 (t.x.key : Int), .slice t.A t.x.vec.length t.c, .slice t.A2 t.x.note.length t.c2]) (by simp [rsP]) (by simp [rsP]) rfl (by rw [hsz0]; exact (by decide : 24 < 27))), hw⟩
            · intro L a w1 hI hi hd
              obtain ⟨hp, hw⟩ := hI
              simp [Region.binds] at hd
              have e3 : a.tmps.getD 20 undef = (.agg #[.int .u64 (s.x.key : Int), .slice s.A s.x.vec.length s.c, .slice s.A2 s.x.note.length s.c2]) := hp.pu (3, 20, (.agg #[.int .u64 (s.x.key : Int), .slice s.A s.x.vec.length s.c, .slice s.A2 s.x.note.length s.c2])) (by simp [rsP]) (by simp [hd])
              have f3 : a.tmps[20]?.getD undef = (.agg #[.int .u64 (s.x.key : Int), .slice s.A s.x.vec.length s.c, .slice s.A2 s.x.note.length s.c2]) := by rw [← Array.getD_eq_getD_getElem?]; exact e3
              have e7 : a.tmps.getD 24 undef = (.agg #[.int .u64 (t.x.key : Int), .slice t.A t.x.vec.length t.c, .slice t.A2 t.x.note.length t.c2]) := hp.pu (7, 24, (.agg #[.int .u64 (t.x.key : Int), .slice t.A t.x.vec.length t.c, .slice t.A2 t.x.note.length t.c2])) (by simp [rsP]) (by simp [hd])
              have f7 : a.tmps[24]?.getD undef = (.agg #[.int .u64 (t.x.key : Int), .slice t.A t.x.vec.length t.c, .slice t.A2 t.x.note.length t.c2]) := by rw [← Array.getD_eq_getD_getElem?]; exact e7
              refine rstep_callW (wanted_none rfl _) 43 #[(.agg #[.int .u64 (s.x.key : Int), .slice s.A s.x.vec.length s.c, .slice s.A2 s.x.note.length s.c2]), (.agg #[.int .u64 (t.x.key : Int), .slice t.A t.x.vec.length t.c, .slice t.A2 t.x.note.length t.c2])] (by go_simp) ?_
              refine (HC.out w1 hw).mono ?_
              rintro e w2 ⟨rfl, hb2⟩
              rw [itm_same, decide_eq_true hst]
              exact ⟨(hp.put 8 25 (.bool true) (by simp [rsP]) (by simp [rsP]) rfl (by rw [hsz0]; exact (by decide : 25 < 27))), hw.trans (hb2.mono hw.size)⟩
            · intro L a w1 hI hi hd
              obtain ⟨hp, hw⟩ := hI
              simp [Region.binds] at hd
              have e8 : a.tmps.getD 25 undef = (.bool true) := hp.pu (8, 25, (.bool true)) (by simp [rsP]) (by simp [hd])
              have f8 : a.tmps[25]?.getD undef = (.bool true) := by rw [← Array.getD_eq_getD_getElem?]; exact e8
              exact rstep_valW (wanted_none rfl _) (.bool false) w1 (by go_simp) ⟨(hp.put 9 26 (.bool false) (by simp [rsP]) (by simp [rsP]) rfl (by rw [hsz0]; exact (by decide : 26 < 27))), hw⟩
          rintro L a W0 ⟨hp, hw⟩ hL
          have e9 : a.tmps.getD 26 undef = (.bool false) := hp.pu (9, 26, _) (by simp [rsP]) (hL 9 (by simp))
          have HB2 := Lib.hid (below_step HX.out.2.2 hw (Nat.le_refl _))
          clear hw
          rw [hp.eq]
          refine of_assigns (P := Try.prog) _ _ _ _ ?_
          rw [ha0.out]
          simp only [asgs, List.map, e9]
          generalize a.tmps.getD 17 undef = u17
          generalize a.tmps.getD 18 undef = u18
          generalize a.tmps.getD 19 undef = u19
          generalize a.tmps.getD 20 undef = u20
          generalize a.tmps.getD 21 undef = u21
          generalize a.tmps.getD 22 undef = u22
          generalize a.tmps.getD 23 undef = u23
          generalize a.tmps.getD 24 undef = u24
          generalize a.tmps.getD 25 undef = u25
          clear hp hL hsz0 e9 z0 z1 z5
          clear ha0
          go_wp2
          go_roundw
          case rel =>
            refine ⟨k + 1, by go_num, by omega, HB2.out, Lib.hid fun j hj => ?_⟩
            by_cases e : j = k
            · subst e; rw [List.getElem?_map, List.getElem?_map, HX.out.1, HX.out.2.1]; simp [hst]
            · exact HE.out j (by omega)
          case measure => simp [RowKit.intOf]; omega
        · skip
          refine wp_named fun a0 ha0 => ?_
          have z0 : a0.tmps.getD 0 undef = (.slice (some ⟨b, o, none⟩) n c) := by rw [ha0.out]; rfl
          have z1 : a0.tmps.getD 1 undef = (.slice (some ⟨b2, o2, none⟩) n c2) := by rw [ha0.out]; rfl
          have z5 : a0.tmps.getD 5 undef = (.int .i64 (k : Int)) := by rw [ha0.out]; rfl
          have hsz0 : a0.tmps.size = 27 := by rw [ha0.out]; rfl
          refine wp_region_invB _ (by kernel_rfl) (fun L a wv => PIF a0 [17, 18, 19, 20, 21, 22, 23, 24, 25, 26] (rsP b o b2 o2 k n c c2 s t false) L a ∧ Below wr.heap.size wr wv) (by kernel_rfl) ?_ ?_ ?_
          · exact ⟨PIF.start _ _ _, ⟨rfl, rfl, rfl, Nat.le_refl _, fun _ _ => rfl⟩⟩
          rotate_left
          · as_aux_lemma =>
            refine ⟨?_, ?_, ?_, ?_, ?_, ?_, ?_, ?_, ?_, ?_, trivial⟩
            · intro L a w1 hI hi hd
              obtain ⟨hp, hw⟩ := hI
              have t0 := hp.at_ 0 _ rfl z0
              have t0' := t0
              rw [Array.getD_eq_getD_getElem?] at t0'
              exact rstep_valW (wanted_none rfl _) (.slice (some ⟨b, o, none⟩) n c) w1 (by go_simp) ⟨(hp.put 0 17 (.slice (some ⟨b, o, none⟩) n c) (by simp [rsP]) (by simp [rsP]) rfl (by rw [hsz0]; exact (by decide : 17 < 27))), hw⟩
            · intro L a w1 hI hi hd
              obtain ⟨hp, hw⟩ := hI
              have t5 := hp.at_ 5 _ rfl z5
              have t5' := t5
              rw [Array.getD_eq_getD_getElem?] at t5'
              exact rstep_valW (wanted_none rfl _) (.int .i64 (k : Int)) w1 (by go_simp) ⟨(hp.put 1 18 (.int .i64 (k : Int)) (by simp [rsP]) (by simp [rsP]) rfl (by rw [hsz0]; exact (by decide : 18 < 27))), hw⟩
            · intro L a w1 hI hi hd
              obtain ⟨hp, hw⟩ := hI
              simp [Region.binds] at hd
              have e0 : a.tmps.getD 17 undef = (.slice (some ⟨b, o, none⟩) n c) := hp.pu (0, 17, (.slice (some ⟨b, o, none⟩) n c)) (by simp [rsP]) (by simp [hd])
              have f0 : a.tmps[17]?.getD undef = (.slice (some ⟨b, o, none⟩) n c) := by rw [← Array.getD_eq_getD_getElem?]; exact e0
              have e1 : a.tmps.getD 18 undef = (.int .i64 (k : Int)) := hp.pu (1, 18, (.int .i64 (k : Int))) (by simp [rsP]) (by simp [hd])
              have f1 : a.tmps[18]?.getD undef = (.int .i64 (k : Int)) := by rw [← Array.getD_eq_getD_getElem?]; exact e1
              have hk := hlt
              exact rstep_valW (wanted_none rfl _) (.pointer (some ⟨b, o + k * 3, none⟩)) w1 (by go_simp) ⟨(hp.put 2 19 (.pointer (some ⟨b, o + k * 3, none⟩)) (by simp [rsP]) (by simp [rsP]) rfl (by rw [hsz0]; exact (by decide : 19 < 27))), hw⟩
            · intro L a w1 hI hi hd
              obtain ⟨hp, hw⟩ := hI
              simp [Region.binds] at hd
              have e2 : a.tmps.getD 19 undef = (.pointer (some ⟨b, o + k * 3, none⟩)) := hp.pu (2, 19, (.pointer (some ⟨b, o + k * 3, none⟩))) (by simp [rsP]) (by simp [hd])
              have f2 : a.tmps[19]?.getD undef = (.pointer (some ⟨b, o + k * 3, none⟩)) := by rw [← Array.getD_eq_getD_getElem?]; exact e2
              have c0 := (hw.cell (World.block_lt_of_cell? wr _ HE1.out.1)).trans HE1.out.1
              have c1 := (hw.cell (World.block_lt_of_cell? wr _ HE1.out.2.1)).trans HE1.out.2.1
              have c2 := (hw.cell (World.block_lt_of_cell? wr _ HE1.out.2.2)).trans HE1.out.2.2
              exact rstep_valW (wanted_none rfl _) (.agg #[.int .u64 (s.x.key : Int), .slice s.A s.x.vec.length s.c, .slice s.A2 s.x.note.length s.c2]) w1 (by go_simp) ⟨(hp.put 3 20 (.agg #[.int .u64 (s.x.key : Int), .slice s.A s.x.vec.length s.c, .slice s.A2 s.x.note.length s.c2]) (by simp [rsP]) (by simp [rsP]) rfl (by rw [hsz0]; exact (by decide : 20 < 27))), hw⟩
            · intro L a w1 hI hi hd
              obtain ⟨hp, hw⟩ := hI
              have t1 := hp.at_ 1 _ rfl z1
              have t1' := t1
              rw [Array.getD_eq_getD_getElem?] at t1'
              exact rstep_valW (wanted_none rfl _) (.slice (some ⟨b2, o2, none⟩) n c2) w1 (by go_simp) ⟨(hp.put 4 21 (.slice (some ⟨b2, o2, none⟩) n c2) (by simp [rsP]) (by simp [rsP]) rfl (by rw [hsz0]; exact (by decide : 21 < 27))), hw⟩
            · intro L a w1 hI hi hd
              obtain ⟨hp, hw⟩ := hI
              have t5 := hp.at_ 5 _ rfl z5
              have t5' := t5
              rw [Array.getD_eq_getD_getElem?] at t5'
              exact rstep_valW (wanted_none rfl _) (.int .i64 (k : Int)) w1 (by go_simp) ⟨(hp.put 5 22 (.int .i64 (k : Int)) (by simp [rsP]) (by simp [rsP]) rfl (by rw [hsz0]; exact (by decide : 22 < 27))), hw⟩
            · intro L a w1 hI hi hd
              obtain ⟨hp, hw⟩ := hI
              simp [Region.binds] at hd
              have e4 : a.tmps.getD 21 undef = (.slice (some ⟨b2, o2, none⟩) n c2) := hp.pu (4, 21, (.slice (some ⟨b2, o2, none⟩) n c2)) (by simp [rsP]) (by simp [hd])
              have f4 : a.tmps[21]?.getD undef = (.slice (some ⟨b2, o2, none⟩) n c2) := by rw [← Array.getD_eq_getD_getElem?]; exact e4
              have e5 : a.tmps.getD 22 undef = (.int .i64 (k : Int)) := hp.pu (5, 22, (.int .i64 (k : Int))) (by simp [rsP]) (by simp [hd])
              have f5 : a.tmps[22]?.getD undef = (.int .i64 (k : Int)) := by rw [← Array.getD_eq_getD_getElem?]; exact e5
              have hk := hlt
              exact rstep_valW (wanted_none rfl _) (.pointer (some ⟨b2, o2 + k * 3, none⟩)) w1 (by go_simp) ⟨(hp.put 6 23 (.pointer (some ⟨b2, o2 + k * 3, none⟩)) (by simp [rsP]) (by simp [rsP]) rfl (by rw [hsz0]; exact (by decide : 23 < 27))), hw⟩
            · intro L a w1 hI hi hd
              obtain ⟨hp, hw⟩ := hI
              simp [Region.binds] at hd
              have e6 : a.tmps.getD 23 undef = (.pointer (some ⟨b2, o2 + k * 3, none⟩)) := hp.pu (6, 23, (.pointer (some ⟨b2, o2 + k * 3, none⟩))) (by simp [rsP]) (by simp [hd])
              have f6 : a.tmps[23]?.getD undef = (.pointer (some ⟨b2, o2 + k * 3, none⟩)) := by rw [← Array.getD_eq_getD_getElem?]; exact e6
              have c0 := (hw.cell (World.block_lt_of_cell? wr _ HE2.out.1)).trans HE2.out.1
              have c1 := (hw.cell (World.block_lt_of_cell? wr _ HE2.out.2.1)).trans HE2.out.2.1
              have c2 := (hw.cell (World.block_lt_of_cell? wr _ HE2.out.2.2)).trans HE2.out.2.2
              exact rstep_valW (wanted_none rfl _) (.agg #[.int .u64 (t.x.key : Int), .slice t.A t.x.vec.length t.c, .slice t.A2 t.x.note.length t.c2]) w1 (by go_simp) ⟨(hp.put 7 24 (.agg #[.int .u64 (t.x.key : Int), .slice t.A t.x.vec.length t.c, .slice t.A2 t.x.note.length t.c2]) (by simp [rsP]) (by simp [rsP]) rfl (by rw [hsz0]; exact (by decide : 24 < 27))), hw⟩
            · intro L a w1 hI hi hd
              obtain ⟨hp, hw⟩ := hI
              simp [Region.binds] at hd
              have e3 : a.tmps.getD 20 undef = (.agg #[.int .u64 (s.x.key : Int), .slice s.A s.x.vec.length s.c, .slice s.A2 s.x.note.length s.c2]) := hp.pu (3, 20, (.agg #[.int .u64 (s.x.key : Int), .slice s.A s.x.vec.length s.c, .slice s.A2 s.x.note.length s.c2])) (by simp [rsP]) (by simp [hd])
              have f3 : a.tmps[20]?.getD undef = (.agg #[.int .u64 (s.x.key : Int), .slice s.A s.x.vec.length s.c, .slice s.A2 s.x.note.length s.c2]) := by rw [← Array.getD_eq_getD_getElem?]; exact e3
              have e7 : a.tmps.getD 24 undef = (.agg #[.int .u64 (t.x.key : Int), .slice t.A t.x.vec.length t.c, .slice t.A2 t.x.note.length t.c2]) := hp.pu (7, 24, (.agg #[.int .u64 (t.x.key : Int), .slice t.A t.x.vec.length t.c, .slice t.A2 t.x.note.length t.c2])) (by simp [rsP]) (by simp [hd])
              have f7 : a.tmps[24]?.getD undef = (.agg #[.int .u64 (t.x.key : Int), .slice t.A t.x.vec.length t.c, .slice t.A2 t.x.note.length t.c2]) := by rw [← Array.getD_eq_getD_getElem?]; exact e7
              refine rstep_callW (wanted_none rfl _) 43 #[(.agg #[.int .u64 (s.x.key : Int), .slice s.A s.x.vec.length s.c, .slice s.A2 s.x.note.length s.c2]), (.agg #[.int .u64 (t.x.key : Int), .slice t.A t.x.vec.length t.c, .slice t.A2 t.x.note.length t.c2])] (by go_simp) ?_
              refine (HC.out w1 hw).mono ?_
              rintro e w2 ⟨rfl, hb2⟩
              rw [itm_same, decide_eq_false hst]
              exact ⟨(hp.put 8 25 (.bool false) (by simp [rsP]) (by simp [rsP]) rfl (by rw [hsz0]; exact (by decide : 25 < 27))), hw.trans (hb2.mono hw.size)⟩
            · intro L a w1 hI hi hd
              obtain ⟨hp, hw⟩ := hI
              simp [Region.binds] at hd
              have e8 : a.tmps.getD 25 undef = (.bool false) := hp.pu (8, 25, (.bool false)) (by simp [rsP]) (by simp [hd])
              have f8 : a.tmps[25]?.getD undef = (.bool false) := by rw [← Array.getD_eq_getD_getElem?]; exact e8
              exact rstep_valW (wanted_none rfl _) (.bool true) w1 (by go_simp) ⟨(hp.put 9 26 (.bool true) (by simp [rsP]) (by simp [rsP]) rfl (by rw [hsz0]; exact (by decide : 26 < 27))), hw⟩
          rintro L a W0 ⟨hp, hw⟩ hL
          have e9 : a.tmps.getD 26 undef = (.bool true) := hp.pu (9, 26, _) (by simp [rsP]) (hL 9 (by simp))
          have HB2 := Lib.hid (below_step HX.out.2.2 hw (Nat.le_refl _))
          clear hw
          rw [hp.eq]
          refine of_assigns (P := Try.prog) _ _ _ _ ?_
          rw [ha0.out]
          simp only [asgs, List.map, e9]
          generalize a.tmps.getD 17 undef = u17
          generalize a.tmps.getD 18 undef = u18
          generalize a.tmps.getD 19 undef = u19
          generalize a.tmps.getD 20 undef = u20
          generalize a.tmps.getD 21 undef = u21
          generalize a.tmps.getD 22 undef = u22
          generalize a.tmps.getD 23 undef = u23
          generalize a.tmps.getD 24 undef = u24
          generalize a.tmps.getD 25 undef = u25
          clear hp hL hsz0 e9 z0 z1 z5
          clear ha0
          go_wp2
          go_ret
          exact BoolP.no (map_ne HX.out.1 HX.out.2.1 hst) HB2.out
      · obtain rfl : k = n := by omega
        go_wp2
        go_ret
        exact BoolP.yes (map_eq_ HL.out HL2.out HE.out) hbel
  · go_enter Try.func44, Try.ntmps44
    go_wp2
    go_ret
    exact BoolP.no (fun h => hd (by rw [← HL.out, ← HL2.out]; have := congrArg List.length h; simpa using this)) (Below.refl _ _)
end Go.Proofs.Ytaadfalklddhcaa
