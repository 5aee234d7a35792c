/-
  Slotted bodies: whether one is large; what room it has; what stands in a slot; the first slot that has nothing; copies of bytes and of flags.
  Conditions: the lists lie in memory; their lengths are bounded.
-/
import Derived.Test.YtofbfehpadjbbaaSltW1
import Derived.Lib.SlBytesConst
import Derived.BigQuiet
namespace Go.Proofs.Ytofbfehpadjbbaa
open Go.RowKit Go.Sort Go.Lib
set_option linter.unusedVariables false
def NewB (l : List UInt8) (w : World) (e : Ending) (w' : World) : Prop := ∃ A n c, e = .returned (.slice A n c) ∧ Hid (l.length = n) ∧ Own w' w.heap.size A c l ∧ Below w.heap.size w w'
theorem row_none {w : World} {l : List UInt8} (h : Row w none (bs l)) : l = [] := by
  rcases h with h | ⟨b, o, e, _⟩
  · exact List.map_eq_nil_iff.1 h
  · cases e
set_option maxRecDepth 100000 in
theorem clone_any (A : Option Addr) (c : Nat) (l : List UInt8) (w : World) (hr : Row w A (bs l)) (hc : l.length ≤ 140737488355328) :
    Calls Try.prog 29 #[.slice A l.length c] w (NewB l w) := by
  have hq := fun (w : World) (a : Option Addr) (l c : Nat) => Lib.run_eql_slice_nil (P := Try.prog) w 27 5 a l c 0 0 Try.underlying27
  cases A with
  | none =>
    obtain rfl := row_none hr
    go_enter Try.func29, Try.ntmps29
    go_wp2
    go_ret
    exact ⟨none, 0, 0, rfl, Lib.hid rfl, Own.nil_ _ _, Below.refl _ _⟩
  | some a =>
    go_enter Try.func29, Try.ntmps29
    go_wp2_with (at_builtin; refine wpl_app _ rfl (.tmp 5) (.tmp 6) rfl w.heap.size (some ⟨w.heap.size, 0, none⟩) 0 [] rfl (Own.made w #[] 0 (Nat.le_refl _) (by unfold maxLen; omega) rfl) (some a) c l rfl (hr.alloc _) ?_ ?_ ?_)
    · simp; omega
    · simp
    intro A1 c1 w1 h1 hg1 _
    have hb1 : Below w.heap.size w w1 := ((Below.refl w.heap.size w).alloc (Nat.le_refl _) (.cells #[] 5)).grown hg1 (by simp) (by intro k hk; simp [Value.ownBlock] at hk; omega)
    go_wp2
    go_ret
    exact ⟨A1, _, c1, rfl, Lib.hid rfl, h1, hb1⟩
theorem clone_len (A : Option Addr) (c n : Nat) (l : List UInt8) (w : World) (hr : Row w A (bs l)) (hl : l.length = n) (hc : n ≤ 140737488355328) :
    Calls Try.prog 29 #[.slice A n c] w (NewB l w) := by
  subst hl; exact clone_any A c l w hr hc
/-! ### Flags -/
theorem info_bool : (Try.prog.info? 4).map (fun i => (i.zero, i.size, i.bytes)) = some (some (.bool false), 1, 1) := by kernel_rfl
def OwnF (w : World) (base : Nat) (A : Option Addr) (n c : Nat) (l : List Bool) : Prop := w.ownsRow base 4 1 (.slice A n c) n (l.map .bool)
theorem flags_one (l : List Bool) : ∀ u ∈ l.map Value.bool, u.oneCell' = true := by
  intro u hu
  obtain ⟨p, _, rfl⟩ := List.mem_map.1 hu
  rfl
section
variable {w w' : World} {base n c : Nat} {A : Option Addr} {l : List Bool}
theorem OwnF.row (h : OwnF w base A n c l) : Row w A (l.map .bool) := Row.of_own h
theorem OwnF.len (h : OwnF w base A n c l) : l.length = n := by
  have := h.1
  rw [List.length_map] at this; omega
theorem OwnF.le (h : OwnF w base A n c l) : n ≤ c ∧ c ≤ maxLen := by
  rcases h.2 with ⟨hv, hn⟩ | ⟨g, cap, cur, hv, _, _, h1, h2, _⟩
  · injection hv with _ e1 e2; unfold maxLen; omega
  · injection hv with _ e1 e2; subst e2; omega
theorem OwnF.blk (h : OwnF w base A n c l) {a : Addr} (ha : A = some a) : base ≤ a.block ∧ a.block < w.heap.size := by
  subst ha
  exact World.ownsRow.lt h _ rfl
theorem OwnF.below (h : OwnF w base A n c l) (hb : Below w.heap.size w w') : OwnF w' base A n c l := by
  refine ⟨h.1, ?_⟩
  rcases h.2 with hn | ⟨g, cap, cur, e, hb', hg, rest⟩
  · exact .inl hn
  · refine .inr ⟨g, cap, cur, e, hb', ?_, rest⟩
    rw [hb.block g (Array.getElem?_eq_some_iff.1 hg).1]; exact hg
theorem OwnF.kept {row : Option Nat} (h : OwnF w base A n c l) (hg : w.grownBy w' row) (hne : ∀ a, A = some a → row ≠ some a.block) : OwnF w' base A n c l := by
  refine World.ownsRow.kept h hg ?_
  rcases h.2 with ⟨hv, hn⟩ | ⟨g', cap, cur, hv, hb, _⟩
  · left; injection hv with e; rw [e]; rfl
  · right; injection hv with e; rw [e]; simp only [Value.ownBlock]; intro q; exact hne _ e q.symm
theorem row_none_f (h : Row w none (l.map .bool)) : l = [] := by
  rcases h with h | ⟨b, o, e, _⟩
  · exact List.map_eq_nil_iff.1 h
  · cases e
/-- append of flags. -/
theorem wpl_appF (w : World) {ops : Array Oper} {rest : List Oper} {o : Oper} {a : Act} {Q : Exit → Act → World → Prop} (hgd : Region.wanted o (yielded ops a.tmps) = true) (s x : Operand)
    (ho : o.op = .call { callee := .builtin .append, args := #[s, x], argTypes := #[23, 23] })
    (base : Nat) (A : Option Addr) (n c : Nat) (l : List Bool) (hs : a.eval s = .slice A n c) (hown : OwnF w base A n c l)
    (A2 : Option Addr) (n2 c2 : Nat) (m : List Bool) (hx : a.eval x = .slice A2 n2 c2) (hn2 : m.length = n2) (hr : Row w A2 (m.map .bool))
    (hlen : n + n2 ≤ 140737488355328) (hbase : base ≤ w.heap.size)
    (h : ∀ A' c' w', OwnF w' base A' (n + n2) c' (l ++ m) → w.grownBy w' (Value.slice A n c).ownBlock →
      ((Value.slice A' (n + n2) c').ownBlock = (Value.slice A n c).ownBlock ∨ (Value.slice A' (n + n2) c').ownBlock = some w.heap.size) →
      wpList Try.prog ops Q rest (a.put o.dst (.slice A' (n + n2) c')) w') : wpList Try.prog ops Q (o :: rest) a w := by
  obtain ⟨i0, hi0, hz0, hz1, hz2⟩ := info_parts info_bool
  refine wpl_append w hgd s x _ ho base 4 i0 _ 1 1 Try.underlying23 hi0 hz0 hz1 hz2 rfl (by omega) _ n _ hs hown A2 n2 c2 (m.map .bool) hx (by rw [List.length_map]; omega) hr (flags_one m)
    (by unfold maxLen; omega) (by omega) hbase fun A' c' w' h1 h2 h3 => h A' c' w' (by unfold OwnF; rw [List.map_append]; exact h1) h2 h3
end
def NewF (l : List Bool) (w : World) (e : Ending) (w' : World) : Prop := ∃ A n c, e = .returned (.slice A n c) ∧ Hid (l.length = n) ∧ OwnF w' w.heap.size A n c l ∧ Below w.heap.size w w'
set_option maxRecDepth 100000 in
theorem clonef_any (A : Option Addr) (n c : Nat) (l : List Bool) (w : World) (hr : Row w A (l.map .bool)) (hn : l.length = n) (hc : n ≤ 140737488355328) :
    Calls Try.prog 45 #[.slice A n c] w (NewF l w) := by
  have hq := fun (w : World) (a : Option Addr) (l c : Nat) => Lib.run_eql_slice_nil (P := Try.prog) w 23 4 a l c 0 0 Try.underlying23
  have HN := Lib.hid hn
  clear hn
  cases A with
  | none =>
    obtain rfl := row_none_f hr
    obtain rfl : n = 0 := HN.out.symm
    go_enter Try.func45, Try.ntmps45
    go_wp2
    go_ret
    exact ⟨none, 0, 0, rfl, Lib.hid rfl, World.ownsRow_nil w _ _ 1, Below.refl _ _⟩
  | some a =>
    go_enter Try.func45, Try.ntmps45
    go_wp2_with (at_builtin; refine wpl_appF _ rfl (.tmp 5) (.tmp 6) rfl w.heap.size (some ⟨w.heap.size, 0, none⟩) 0 0 [] rfl (World.ownsRow_made w #[] 0 (Nat.le_refl _) (by unfold maxLen; omega) (by simp)) (some a) n c l rfl HN.out (hr.alloc _) ?_ ?_ ?_)
    · omega
    · simp
    intro A1 c1 w1 h1 hg1 _
    have hb1 : Below w.heap.size w w1 := ((Below.refl w.heap.size w).alloc (Nat.le_refl _) (.cells #[] 4)).grown hg1 (by simp) (by intro k hk; simp [Value.ownBlock] at hk; omega)
    go_wp2
    go_ret
    exact ⟨A1, _, c1, rfl, HN, h1, hb1⟩
/-! ### Whether it is large -/
def LargePost (s : Slt) (nF nD : Nat) (w : World) (e : Ending) (w' : World) : Prop := ∃ r, e = .returned (.bool r) ∧ Hid (r = false → nF + nD + SltM.sum s.data ≤ 3000) ∧ Below w.heap.size w w'
set_option maxRecDepth 100000 in
theorem large08_any (s : Slt) (A : Option Addr) (nF cA : Nat) (D : Option Addr) (nD cD : Nat) (w : World) (hs : SltAt w A nF cA D nD cD s) (hmF : nF ≤ 140737488355328) (hmD : nD ≤ 140737488355328) (hmx : ∀ x ∈ s.data, x.length ≤ 140737488355328) :
    Calls Try.prog 8 #[.agg #[.int .u8 (s.kind : Int), .int .u32 (s.next : Int), .slice A nF cA, .slice D nD cD]] w (LargePost s nF nD w) := by
  have HS := Lib.hid hs
  have HMX := Lib.hid hmx
  clear hs hmx
  go_enter Try.func8, Try.ntmps8
  have B1 := Lib.hid ((Below.refl w.heap.size w).alloc (Nat.le_refl _) (.cells #[.int .u8 (s.kind : Int), .int .u32 (s.next : Int), .slice A nF cA, .slice D nD cD] 26))
  go_wp2
  go_loop [3, 4] (fun n i => ∃ q : Nat, n = .int .i64 ((nF : Int) + (nD : Int) + (SltM.sum (s.data.take q) : Int)) ∧ i = .int .i64 q ∧ q ≤ nD ∧ SltM.sum (s.data.take q) ≤ 140737488360000) (fun _ i => nD - (RowKit.intOf i).toNat)
  case atStart =>
    refine ⟨0, ?_, rfl, by omega, Nat.zero_le _⟩
    simp [SltM.sum]
  case round =>
    obtain ⟨q, rfl, rfl, hq, hqs⟩ := hrel
    obtain ⟨T1, hT1⟩ : ∃ t, SltM.sum (s.data.take q) = t := ⟨_, rfl⟩
    have HT1 := Lib.hid hT1
    rw [hT1] at hqs ⊢
    by_cases hlt : q < nD
    · by_cases h3 : nF + nD + T1 ≤ 3000
      · obtain ⟨x, hx⟩ : ∃ x, s.data[q]? = some x := ⟨_, List.getElem?_eq_getElem (by rw [HS.out.ld]; omega)⟩
        obtain ⟨g2, o2, Bx, nx, cx, rfl, cd, hxn, hxr⟩ := (HS.out.below B1.out).data_get hx
        have hxl := HMX.out x (List.mem_of_getElem? hx)
        have hts := SltM.sum_take hx
        obtain ⟨T2, hT2⟩ : ∃ t, SltM.sum (s.data.take (q + 1)) = t := ⟨_, rfl⟩
        rw [hT1, hT2, hxn] at hts
        rw [hxn] at hxl
        have HT2 := Lib.hid hT2
        clear hx hxr hT1 hT2 hxn
        go_wp2
        go_round
        case rel =>
          refine ⟨q + 1, ?_, by go_num, by omega, by rw [HT2.out]; omega⟩
          rw [HT2.out, hts]
          congr 1
          go_num
        case measure => simp [RowKit.intOf]; omega
      · clear hT1
        go_wp2
        go_ret
        refine ⟨_, rfl, Lib.hid fun h => ?_, B1.out⟩
        exfalso
        first
          | (simp at h; done)
          | (simp at h; omega)
    · obtain rfl : nD = q := by omega
      have hfin : SltM.sum s.data = T1 := by rw [← hT1, List.take_of_length_le (by rw [HS.out.ld]; exact Nat.le_refl _)]
      have HF := Lib.hid hfin
      clear hT1 hfin
      go_wp2
      go_ret
      refine ⟨_, rfl, Lib.hid fun h => ?_, B1.out⟩
      rw [HF.out]
      first
        | (simp at h; omega)
        | omega
/-! ### Room, what is found -/
set_option maxRecDepth 100000 in
set_option maxHeartbeats 1000000 in
theorem room_yes (s : Slt) (A : Option Addr) (nF cA : Nat) (D : Option Addr) (nD cD : Nat) (w : World) (hs : SltAt w A nF cA D nD cD s) (hsum : SltM.sum s.data ≤ 1000000) (hm : SltM.May s) :
    Calls Try.prog 13 #[.agg #[.int .u8 (s.kind : Int), .int .u32 (s.next : Int), .slice A nF cA, .slice D nD cD]] w fun e w' => e = .returned (.int .i64 (SltM.left s)) ∧ Below w.heap.size w w' := by
  have hb : Below w.heap.size w (w.alloc (.cells #[.int .u8 (s.kind : Int), .int .u32 (s.next : Int), .slice A nF cA, .slice D nD cD] 26)) := (Below.refl w.heap.size w).alloc (Nat.le_refl _) _
  have hB := Blk.new w 26 #[.int .u8 (s.kind : Int), .int .u32 (s.next : Int), .slice A nF cA, .slice D nD cD]
  have h1 := hm.len
  have h2 := hm.most
  rw [hs.lf] at h1 h2
  rw [hs.ld] at h1
  have h3 : nD ≤ 247 := by omega
  clear h1
  have HM := Lib.hid hm
  have HS := Lib.hid (hs.below hb)
  have HB := Lib.hid hb
  have HBB := Lib.hid hB
  clear hs hb hB hm
  go_enter Try.func13, Try.ntmps13
  go_wp2_with fail
  refine (may_any s A nF cA D nD cD _ HS.out hsum (by omega) (by omega)).mono ?_
  rintro e w1 ⟨r, rfl, hr, b1⟩
  obtain rfl : r = true := hr.out.2 HM.out
  have hB1 := HBB.out.below b1 HBB.out.lt
  have d0 := hB1.cell 0
  have d1 := hB1.cell 1
  have d2 := hB1.cell 2
  have d3 := hB1.cell 3
  simp only [List.getElem?_toArray, List.getElem?_cons_zero, List.getElem?_cons_succ] at d0 d1 d2 d3
  have HS1 := Lib.hid (HS.out.below b1)
  have HB1 := Lib.hid (below_step HB.out b1 (Nat.le_refl _))
  have HL := Lib.hid (left_any s A nF cA D nD cD w1 HS1.out (by omega) hsum)
  obtain ⟨L, hL⟩ : ∃ L, SltM.left s = L := ⟨_, rfl⟩
  rw [hL] at HL
  have HLL := Lib.hid hL
  clear hB1 b1 hr HBB hL
  go_wp2_with fail
  refine HL.out.mono ?_
  rintro e w2 ⟨rfl, hb2⟩
  go_wp2
  go_ret
  rw [HLL.out]
  exact ⟨rfl, below_step HB1.out hb2 (Nat.le_refl _)⟩
/-- What stands in slot `at`, if something does. -/
def Has (s : Slt) (p : Int) : Prop := ∃ k : Nat, p = (k : Int) ∧ s.full[k]? = some true
def FindPost (s : Slt) (p : Int) (w : World) (e : Ending) (w' : World) : Prop := ∃ r : Nat, e = .returned (.int .i64 (r : Int)) ∧ Hid ((r = 2 ∧ ¬ SltM.May s) ∨ (r = 7 ∧ SltM.May s ∧ ¬ Has s p) ∨ (r = 0 ∧ SltM.May s ∧ Has s p)) ∧ Below w.heap.size w w'
set_option maxRecDepth 100000 in
set_option maxHeartbeats 1000000 in
theorem find_any (s : Slt) (p : Int) (A : Option Addr) (nF cA : Nat) (D : Option Addr) (nD cD : Nat) (w : World) (hs : SltAt w A nF cA D nD cD s) (hsum : SltM.sum s.data ≤ 1000000) (hmF : nF ≤ 9223372036854775807) (hmD : nD ≤ 9223372036854775807) :
    Calls Try.prog 28 #[.agg #[.int .u8 (s.kind : Int), .int .u32 (s.next : Int), .slice A nF cA, .slice D nD cD], .int .i64 p] w (FindPost s p w) := by
  have hb : Below w.heap.size w (w.alloc (.cells #[.int .u8 (s.kind : Int), .int .u32 (s.next : Int), .slice A nF cA, .slice D nD cD] 26)) := (Below.refl w.heap.size w).alloc (Nat.le_refl _) _
  have hB := Blk.new w 26 #[.int .u8 (s.kind : Int), .int .u32 (s.next : Int), .slice A nF cA, .slice D nD cD]
  have HS := Lib.hid (hs.below hb)
  have HB := Lib.hid hb
  have HBB := Lib.hid hB
  clear hs hb hB
  go_enter Try.func28, Try.ntmps28
  go_wp2_with fail
  refine (may_any s A nF cA D nD cD _ HS.out hsum hmF hmD).mono ?_
  rintro e w1 ⟨r, rfl, hr, b1⟩
  have hB1 := HBB.out.below b1 HBB.out.lt
  have d0 := hB1.cell 0
  have d1 := hB1.cell 1
  have d2 := hB1.cell 2
  have d3 := hB1.cell 3
  simp only [List.getElem?_toArray, List.getElem?_cons_zero, List.getElem?_cons_succ] at d0 d1 d2 d3
  have HS1 := Lib.hid (HS.out.below b1)
  have HB1 := Lib.hid (below_step HB.out b1 (Nat.le_refl _))
  clear hB1 b1 HBB
  cases r with
  | false =>
    have hn : ¬ SltM.May s := fun h => by have := hr.out.2 h; cases this
    have HN := Lib.hid hn
    clear hr hn
    go_wp2
    go_ret
    exact ⟨2, rfl, Lib.hid (.inl ⟨rfl, HN.out⟩), HB1.out⟩
  | true =>
    have HM := Lib.hid (hr.out.1 rfl)
    clear hr
    by_cases h0 : p < 0
    · have HH : Hid (¬ Has s p) := Lib.hid fun ⟨k, e, _⟩ => by omega
      go_wp2
      go_ret
      exact ⟨7, rfl, Lib.hid (.inr (.inl ⟨rfl, HM.out, HH.out⟩)), HB1.out⟩
    · by_cases h1 : p < (nF : Int)
      · obtain ⟨k, rfl⟩ : ∃ k : Nat, p = (k : Int) := ⟨p.toNat, by omega⟩
        obtain ⟨b, hbk⟩ : ∃ b, s.full[k]? = some b := ⟨_, List.getElem?_eq_getElem (by rw [HS1.out.lf]; omega)⟩
        obtain ⟨g, o, rfl, cb⟩ := HS1.out.full_get hbk
        cases b with
        | true =>
          have HH : Hid (Has s (k : Int)) := Lib.hid ⟨k, rfl, hbk⟩
          clear hbk
          go_wp2
          go_ret
          exact ⟨0, rfl, Lib.hid (.inr (.inr ⟨rfl, HM.out, HH.out⟩)), HB1.out⟩
        | false =>
          have HH : Hid (¬ Has s (k : Int)) := Lib.hid fun ⟨j, e, hj⟩ => by
            have : k = j := by omega
            subst this
            rw [hbk] at hj; cases hj
          clear hbk
          go_wp2
          go_ret
          exact ⟨7, rfl, Lib.hid (.inr (.inl ⟨rfl, HM.out, HH.out⟩)), HB1.out⟩
      · have HH : Hid (¬ Has s p) := Lib.hid fun ⟨k, e, hk⟩ => by
          have := (List.getElem?_eq_some_iff.1 hk).1
          rw [HS1.out.lf] at this; omega
        go_wp2
        go_ret
        exact ⟨7, rfl, Lib.hid (.inr (.inl ⟨rfl, HM.out, HH.out⟩)), HB1.out⟩
end Go.Proofs.Ytofbfehpadjbbaa
