/-
  The walk of ItemBytes: it returns true and changes nothing that was there.
  Conditions: the record's lists lie in memory; their number is bounded.
-/
import Derived.Test.YteanmmdlgolljaaReg2
import Derived.Test.YteanmmdlgolljaaItemC3
import Derived.Test.YteanmmdlgolljaaItemF
import Derived.Deep.Cut
namespace Go.Proofs.Yteanmmdlgolljaa
open Go.RowKit Go.Sort Go.Lib
set_option linter.unusedVariables false
set_option linter.unusedSimpArgs false
theorem owns_kept {w : World} {base n c : Nat} {t : TypeId} {A : Option Addr} {xs : List Value} {lit : Value} (h : w.ownsRow base t 1 (.slice A (n + 1) c) (n + 1) (xs ++ [lit])) (hn : xs.length = n) :
    ∃ g, A = some ⟨g, 0, none⟩ ∧ Row w (some ⟨g, 0, none⟩) xs ∧ w.cell? ⟨g, n, none⟩ = some lit ∧ n + 1 ≤ c ∧ c ≤ maxLen ∧ g < w.heap.size := by
  have hr := Row.of_own h
  have hlt := h.lt
  rcases h.2 with ⟨hv, _⟩ | ⟨g, cap, cur, hv, _, _, q1, q2, _⟩
  · injection hv with _ q; omega
  · injection hv with e1 e2 e3
    subst e1
    obtain ⟨b, o, e, hc⟩ := hr.at_ (k := n) (by rw [List.length_append, hn]; exact Nat.lt_succ_self _)
    injection e with e
    injection e with e1 e2
    subst e1 e2
    rw [Nat.zero_add, List.getElem_append_right (by omega)] at hc
    simp only [hn, Nat.sub_self, List.getElem_cons_zero] at hc
    refine ⟨g, rfl, ?_, hc, by omega, by omega, (hlt g rfl).2⟩
    have := hr.take n
    rwa [← hn, List.take_left] at this
theorem Blk.c3 {w : World} {g : Nat} {t : TypeId} {v0 v1 v2 : Value} (h : Blk w g t #[v0, v1, v2]) : w.cell? ⟨g, 0, none⟩ = some v0 ∧ w.cell? ⟨g, 1, none⟩ = some v1 ∧ w.cell? ⟨g, 2, none⟩ = some v2 := by
  have c0 := h.cell 0
  have c1 := h.cell 1
  have c2 := h.cell 2
  simp only [List.getElem?_toArray, List.getElem?_cons_zero, List.getElem?_cons_succ] at c0 c1 c2
  exact ⟨c0, c1, c2⟩
/-- Both records as they lie in memory. -/
structure Bst (x : Itm) (A A2 : Option Addr) (c c2 gC cC gC2 cC2 gx gi : Nat) (w0 w : World) : Prop where
  bel : Below w0.heap.size w0 w
  bx : Blk w gx 58 #[.int .u64 (x.key : Int), .slice A x.vec.length c, .slice A2 x.note.length c2]
  bi : Blk w gi 58 #[.int .u64 (x.key : Int), .slice (some ⟨gC, 0, none⟩) x.vec.length cC, .slice (some ⟨gC2, 0, none⟩) x.note.length cC2]
  r1 : Row w A (i32s x.vec)
  r2 : Row w A2 (bs x.note)
  k1 : Row w (some ⟨gC, 0, none⟩) (i32s x.vec)
  k2 : Row w (some ⟨gC2, 0, none⟩) (bs x.note)
  q1 : w.cell? ⟨gC, x.vec.length, none⟩ = some (.int .i32 77)
  q2 : w.cell? ⟨gC2, x.note.length, none⟩ = some (.int .u8 78)
theorem Bst.call {x : Itm} {A A2 : Option Addr} {c c2 gC cC gC2 cC2 gx gi : Nat} {w0 w w' : World} (h : Bst x A A2 c c2 gC cC gC2 cC2 gx gi w0 w) (hb : Below w.heap.size w w') : Bst x A A2 c c2 gC cC gC2 cC2 gx gi w0 w' :=
  ⟨below_step h.bel hb (Nat.le_refl _), h.bx.below hb h.bx.lt, h.bi.below hb h.bi.lt, h.r1.below hb, h.r2.below hb, h.k1.below hb, h.k2.below hb, by rw [hb.cell (World.block_lt_of_cell? w _ h.q1)]; exact h.q1, by rw [hb.cell (World.block_lt_of_cell? w _ h.q2)]; exact h.q2⟩
theorem Bst.drew {x : Itm} {A A2 : Option Addr} {c c2 gC cC gC2 cC2 gx gi : Nat} {w0 w : World} (h : Bst x A A2 c c2 gC cC gC2 cC2 gx gi w0 w) : Bst x A A2 c c2 gC cC gC2 cC2 gx gi w0 w.drew :=
  ⟨⟨h.bel.os, h.bel.tape, h.bel.output, h.bel.size, h.bel.block⟩, h.bx, h.bi, h.r1, h.r2, h.k1, h.k2, h.q1, h.q2⟩
def fmPures (x : Itm) (A A2 : Option Addr) (c c2 g n c3 : Nat) (F : List UInt8) : List (Nat × Nat × Value) :=
  [(0, 50, (.slice (some ⟨g, 0, none⟩) n c3)), (1, 51, (.string (str F))), (2, 52, (.agg #[.int .u64 (x.key : Int), .slice A x.vec.length c, .slice A2 x.note.length c2])), (4, 54, (.string (str F))), (5, 55, (.bool true)), (6, 56, (.bool true)), (7, 57, (.int .i64 (n : Int))), (8, 58, (.slice (some ⟨g, 0, none⟩) n c3)), (9, 59, (.int .i64 (n : Int))), (10, 60, (.bool true)), (11, 61, (.bool true)), (12, 8, (.bool true))]
def fmfx (gx gi g n c3 : Nat) : List (Nat × Value) := [(1, .pointer (some ⟨gx, 0, none⟩)), (3, .pointer (some ⟨gi, 0, none⟩)), (5, .slice (some ⟨g, 0, none⟩) n c3), (7, .int .i64 (n : Int))]
/-- What holds while the forms are compared. -/
structure Fm (x : Itm) (A A2 : Option Addr) (c c2 gC cC gC2 cC2 gx gi g n c3 : Nat) (F : List UInt8) (w0 wB : World) (L : Nat → Bool) (a : Act) (w : World) : Prop where
  pi : PI 80 (fmfx gx gi g n c3) (fmPures x A A2 c c2 g n c3 F) (fun _ => Bst x A A2 c c2 gC cC gC2 cC2 gx gi w0) L a w
  len : Hid (F.length = n)
  row : Row w (some ⟨g, 0, none⟩) (bs F)
  st : Stores w g n
  hg : g < w.heap.size
  hB : wB.heap.size ≤ g
  bB : Below wB.heap.size wB w
  s53 : L 3 = true → ∃ B n1 d1, a.tmps.getD 53 undef = .slice B n1 d1 ∧ F.length = n1 ∧ Row w B (bs F)
theorem Fm.put {x : Itm} {A A2 : Option Addr} {c c2 gC cC gC2 cC2 gx gi g n c3 : Nat} {F : List UInt8} {w0 wB : World} {L : Nat → Bool} {a : Act} {w : World} (h : Fm x A A2 c c2 gC cC gC2 cC2 gx gi g n c3 F w0 wB L a w) (i d : Nat) (v : Value)
    (h1 : ∀ q ∈ fmPures x A A2 c c2 g n c3 F, q.1 = i → q.2.1 = d ∧ q.2.2 = v) (h2 : ∀ q ∈ fmPures x A A2 c c2 g n c3 F, q.2.1 = d → q.1 = i) (h3 : ∀ q ∈ fmfx gx gi g n c3, q.1 ≠ d) (hlt : d < 80) (hi : 3 ≠ i) (hd : d ≠ 53)
    (hw : Bst x A A2 c c2 gC cC gC2 cC2 gx gi w0 w) : Fm x A A2 c c2 gC cC gC2 cC2 gx gi g n c3 F w0 wB (upd L i) (a.put (some d) v) w :=
  ⟨h.pi.put i d v h1 h2 h3 hlt hw, h.len, h.row, h.st, h.hg, h.hB, h.bB, fun hL => by rw [upd_ne L hi] at hL; rw [act_ne a v hd]; exact h.s53 hL⟩
theorem Fm.call {x : Itm} {A A2 : Option Addr} {c c2 gC cC gC2 cC2 gx gi g n c3 : Nat} {F : List UInt8} {w0 wB : World} {L : Nat → Bool} {a : Act} {w w' : World} (h : Fm x A A2 c c2 gC cC gC2 cC2 gx gi g n c3 F w0 wB L a w) (B : Option Addr) (n1 d1 : Nat)
    (hn : F.length = n1) (hr : Row w' B (bs F)) (hb : Below w.heap.size w w') : Fm x A A2 c c2 gC cC gC2 cC2 gx gi g n c3 F w0 wB (upd L 3) (a.put (some 53) (.slice B n1 d1)) w' :=
  ⟨h.pi.put 3 53 _ (by simp [fmPures]) (by simp [fmPures]) (by simp [fmfx]) (by decide) (h.pi.wd.call hb), h.len, h.row.below hb, h.st.below h.hg hb, Nat.lt_of_lt_of_le h.hg hb.size, h.hB, below_step h.bB hb (Nat.le_refl _), fun _ => ⟨B, n1, d1, act_eq a _ (by rw [h.pi.sz]; decide), hn, hr⟩⟩
theorem maycode (x : Itm) (A A2 : Option Addr) (c c2 : Nat) (w : World) (hn : x.vec.length ≤ 9223372036854775807) (hm : x.note.length ≤ 9223372036854775807) (q : Int) (hq : (ItemM.may x : Int) = q) :
    Calls Try.prog 38 #[.agg #[.int .u64 (x.key : Int), .slice A x.vec.length c, .slice A2 x.note.length c2]] w fun e w' => e = .returned (.int .i64 q) ∧ Below w.heap.size w w' := by
  subst hq
  exact may_any (x.key : Int) A A2 x.vec.length c x.note.length c2 w hn hm
theorem refmaycode (x : Itm) (A A2 : Option Addr) (c c2 : Nat) (w : World) (hn : x.vec.length ≤ 9223372036854775807) (hm : x.note.length ≤ 9223372036854775807) (q : Int) (hq : (ItemM.may x : Int) = q) :
    Calls Try.prog 41 #[.agg #[.int .u64 (x.key : Int), .slice A x.vec.length c, .slice A2 x.note.length c2]] w fun e w' => e = .returned (.int .i64 q) ∧ Below w.heap.size w w' := by
  subst hq
  exact refmay_any (x.key : Int) A A2 x.vec.length c x.note.length c2 w hn hm
theorem Bst.kept {x : Itm} {A A2 : Option Addr} {c c2 gC cC gC2 cC2 gx gi : Nat} {w0 w : World} (h : Bst x A A2 c c2 gC cC gC2 cC2 gx gi w0 w) (h1 : x.vec.length + 1 ≤ cC) (h2 : x.note.length + 1 ≤ cC2) (h3 : cC ≤ 9223372036854775807) (h4 : cC2 ≤ 9223372036854775807) :
    Calls Try.prog 42 #[.agg #[.int .u64 (x.key : Int), .slice (some ⟨gC, 0, none⟩) x.vec.length cC, .slice (some ⟨gC2, 0, none⟩) x.note.length cC2], .agg #[.int .u64 (x.key : Int), .slice A x.vec.length c, .slice A2 x.note.length c2]] w fun e w' => e = .returned (.bool true) ∧ Below w.heap.size w w' :=
  kept_any x.key gC x.vec.length cC gC2 x.note.length cC2 A c A2 c2 x.vec x.note w rfl rfl h.k1 h.k2 h.r1 h.r2 h.q1 h.q2 h1 h2 h3 h4
set_option maxRecDepth 100000 in
set_option maxHeartbeats 8000000 in
theorem itemBytes_core (x : Itm) (A A2 : Option Addr) (c c2 : Nat) (w : World) (r1 : Row w A (i32s x.vec)) (r2 : Row w A2 (bs x.note)) (hok : x.Ok) (l1 : x.vec.length ≤ 9223372036854775807) (l2 : x.note.length ≤ 9223372036854775807) :
    Calls Try.prog 8 #[.agg #[.int .u64 (x.key : Int), .slice A x.vec.length c, .slice A2 x.note.length c2]] w fun e w' => e = .returned (.bool true) ∧ Below w.heap.size w w' := by
  go_enter Try.func8, Try.ntmps8
  go_wp2_with fail
  have hR := Blk.new w 58 #[.int .u64 (x.key : Int), .slice A x.vec.length c, .slice A2 x.note.length c2]
  have b0 : Below w.heap.size w (w.alloc (.cells #[.int .u64 (x.key : Int), .slice A x.vec.length c, .slice A2 x.note.length c2] 58)) := (Below.refl _ _).alloc (Nat.le_refl _) _
  generalize w.alloc (.cells #[.int .u64 (x.key : Int), .slice A x.vec.length c, .slice A2 x.note.length c2] 58) = w0 at *
  refine (large05_any (x.key : Int) A A2 x.vec.length c x.note.length c2 w0 l1 l2).mono ?_
  obtain ⟨bg, hbg⟩ : ∃ q, decide (6000 < x.vec.length ∨ 4000 < x.note.length) = q := ⟨_, rfl⟩
  rw [hbg]
  rintro e w1 ⟨rfl, hb1⟩
  have b1 := below_step b0 hb1 (Nat.le_refl _)
  have hR1 := hR.below hb1 hR.lt
  clear hb1 b0 hR
  cases bg with
  | true =>
    clear hbg
    go_wp2_with fail
    refine (known05_any w1).mono ?_
    rintro e w2 ⟨rfl, hb⟩
    go_wp2
    go_ret
    exact ⟨rfl, below_step b1 hb (Nat.le_refl _)⟩
  | false =>
    have hbg' := of_decide_eq_false hbg
    have hl1 : x.vec.length ≤ 6000 := by omega
    have hl2 : x.note.length ≤ 4000 := by omega
    clear hbg hbg'
    obtain ⟨c0, c1, c2'⟩ := hR1.c3
    go_wp2_with fail
    refine (refcopy_any (x.key : Int) A A2 x.vec.length c x.note.length c2 x.vec x.note w1 (r1.below b1) (r2.below b1) rfl rfl (by omega) (by omega)).mono ?_
    rintro e w2 ⟨C, cC, C2, cC2, rfl, o1, o2, hb2⟩
    obtain ⟨gC, rfl, k1, q1, n1, m1, g1⟩ := owns_kept o1 (by unfold i32s; rw [List.length_map])
    obtain ⟨gC2, rfl, k2, q2, n2, m2, g2⟩ := owns_kept o2 (bs_length _)
    unfold maxLen at m1 m2
    have b2 := below_step b1 hb2 (Nat.le_refl _)
    have hR2 := hR1.below hb2 hR1.lt
    have hS2 : Bst x A A2 c c2 gC cC gC2 cC2 w.heap.size w2.heap.size w (w2.alloc (.cells #[.int .u64 (x.key : Int), .slice (some ⟨gC, 0, none⟩) x.vec.length cC, .slice (some ⟨gC2, 0, none⟩) x.note.length cC2] 58)) := by
      have ba : Below w2.heap.size w2 (w2.alloc (.cells #[.int .u64 (x.key : Int), .slice (some ⟨gC, 0, none⟩) x.vec.length cC, .slice (some ⟨gC2, 0, none⟩) x.note.length cC2] 58)) := (Below.refl _ _).alloc (Nat.le_refl _) _
      have b3 := below_step b2 ba (Nat.le_refl _)
      exact ⟨b3, hR2.below ba hR2.lt, Blk.new w2 _ _, r1.below b3, r2.below b3, k1.below ba, k2.below ba, by rw [ba.cell (World.block_lt_of_cell? w2 _ q1)]; exact q1, by rw [ba.cell (World.block_lt_of_cell? w2 _ q2)]; exact q2⟩
    clear k1 k2 q1 q2 o1 o2 hb2 hR1 b1 hR2 b2 g1 g2 c0 c1 c2'
    obtain ⟨y0, y1, y2⟩ := hS2.bi.c3
    go_wp2_with fail
    generalize w2.alloc (.cells #[.int .u64 (x.key : Int), .slice (some ⟨gC, 0, none⟩) x.vec.length cC, .slice (some ⟨gC2, 0, none⟩) x.note.length cC2] 58) = w3 at *
    generalize w2.heap.size = gi at *
    clear y0 y1 y2
    obtain ⟨q, hq⟩ : ∃ q, (ItemM.may x : Int) = q := ⟨_, rfl⟩
    refine (maycode x _ _ cC cC2 w3 l1 l2 q hq).mono ?_
    rintro e w4 ⟨rfl, hb4⟩
    have hS4 := hS2.call hb4
    clear hb4 hS2
    obtain ⟨y0, y1, y2⟩ := hS4.bi.c3
    have HQ := Lib.hid hq
    clear hq
    go_wp2_with fail
    clear y0 y1 y2
    by_cases hm : ItemM.may x = 0
    · obtain ⟨m1', m2', m3'⟩ := ItemM.may_zero hm
      obtain rfl : (0 : Int) = q := by have := HQ.out; omega
      refine (itembytes_ok x _ _ cC cC2 w4 hok.hk hok.hv hS4.k1 hS4.k2 m1' m2' m3').mono ?_
      rintro e w5 ⟨v, rfl, VF⟩
      obtain ⟨g, n, c3, rfl, hn, ⟨hnc, hc3⟩, ⟨hg, hg'⟩, hrow, hst, hb5⟩ := VF
      unfold maxLen at hc3
      have hfl := ItemM.form_length x
      have hS5 := hS4.call hb5
      obtain ⟨F, eF⟩ : ∃ F, ItemM.form x = F := ⟨_, rfl⟩
      rw [eF] at hn hrow hfl
      have hn1 : n ≤ 40000 := by have := hn.out; omega
      clear hfl
      obtain ⟨y0, y1, y2⟩ := hS5.bi.c3
      go_wp2_with fail
      clear y0 y1 y2
      refine (itemsize_ok x _ _ cC cC2 w5 hok.hk hok.hv hS5.k1 hS5.k2 m1' m2' m3').mono ?_
      rintro e w6 ⟨n', rfl, hn', hb6⟩
      obtain rfl : n' = n := by have h1 := hn.out; have h2 := hn'.out; rw [eF] at h2; omega
      clear hn'
      have hS6 := hS5.call hb6
      have hrow6 := hrow.below hb6
      have hst6 := hst.below hg' hb6
      have hg6 := Nat.lt_of_lt_of_le hg' hb6.size
      have b6 := below_step hb5 hb6 (Nat.le_refl _)
      clear hS5 hrow hst hg' hb5 hb6
      obtain ⟨y0, y1, y2⟩ := hS6.bx.c3
      have HST := Lib.hid hst6
      clear hst6
      go_wp2_with fail
      clear y0 y1 y2
      refine (refmaycode x A A2 c c2 w6 l1 l2 0 HQ.out).mono ?_
      rintro e w7 ⟨rfl, hb7⟩
      have hS7 := hS6.call hb7
      have hrow7 := hrow6.below hb7
      have hst7 := HST.out.below hg6 hb7
      have hg7 := Nat.lt_of_lt_of_le hg6 hb7.size
      have b7 := below_step b6 hb7 (Nat.le_refl _)
      clear hS6 hrow6 HST hg6 b6 hb7
      have HST := Lib.hid hst7
      clear hst7
      go_upto_region 11 with fail
      refine wp_region_inv _ (by kernel_rfl) (Fm x A A2 c c2 gC cC gC2 cC2 w.heap.size gi g n' c3 F w w4) (by kernel_rfl) ?_ ?_ ?_
      · exact ⟨⟨rfl, rfl, by simp [fmfx], nofun, hS7.drew⟩, hn, hrow7, HST.out, hg7, hg, ⟨b7.os, b7.tape, b7.output, b7.size, b7.block⟩, nofun⟩
      · clear hS7 hrow7 HST hg7 b7
        intro L a wr hI hL
        have hdf := hI.pi.df
        have f1 := hI.pi.fx (1, .pointer (some ⟨w.heap.size, 0, none⟩)) (by simp [fmfx])
        have f3 := hI.pi.fx (3, .pointer (some ⟨gi, 0, none⟩)) (by simp [fmfx])
        have f5 := hI.pi.fx (5, .slice (some ⟨g, 0, none⟩) n' c3) (by simp [fmfx])
        have f7 := hI.pi.fx (7, .int .i64 (n' : Int)) (by simp [fmfx])
        have f8 := hI.pi.pu (12, 8, .bool true) (by simp [fmPures]) (hL 12 (by simp))
        simp only at f1 f3 f5 f7 f8
        have hst := hI.st
        have hgr := hI.hg
        have bB := hI.bB
        rw [act_list a 80 [] hI.pi.sz hI.pi.df]
        simp only [show List.range 80 = [0, 1, 2, 3, 4, 5, 6, 7, 8, 9, 10, 11, 12, 13, 14, 15, 16, 17, 18, 19, 20, 21, 22, 23, 24, 25, 26, 27, 28, 29, 30, 31, 32, 33, 34, 35, 36, 37, 38, 39, 40, 41, 42, 43, 44, 45, 46, 47, 48, 49, 50, 51, 52, 53, 54, 55, 56, 57, 58, 59, 60, 61, 62, 63, 64, 65, 66, 67, 68, 69, 70, 71, 72, 73, 74, 75, 76, 77, 78, 79] from rfl, List.map, f1, f3, f5, f7, f8]
        generalize a.tmps.getD 0 undef = u0
        generalize a.tmps.getD 2 undef = u2
        generalize a.tmps.getD 4 undef = u4
        generalize a.tmps.getD 6 undef = u6
        generalize a.tmps.getD 9 undef = u9
        generalize a.tmps.getD 10 undef = u10
        generalize a.tmps.getD 11 undef = u11
        generalize a.tmps.getD 12 undef = u12
        generalize a.tmps.getD 13 undef = u13
        generalize a.tmps.getD 14 undef = u14
        generalize a.tmps.getD 15 undef = u15
        generalize a.tmps.getD 16 undef = u16
        generalize a.tmps.getD 17 undef = u17
        generalize a.tmps.getD 18 undef = u18
        generalize a.tmps.getD 19 undef = u19
        generalize a.tmps.getD 20 undef = u20
        generalize a.tmps.getD 21 undef = u21
        generalize a.tmps.getD 22 undef = u22
        generalize a.tmps.getD 23 undef = u23
        generalize a.tmps.getD 24 undef = u24
        generalize a.tmps.getD 25 undef = u25
        generalize a.tmps.getD 26 undef = u26
        generalize a.tmps.getD 27 undef = u27
        generalize a.tmps.getD 28 undef = u28
        generalize a.tmps.getD 29 undef = u29
        generalize a.tmps.getD 30 undef = u30
        generalize a.tmps.getD 31 undef = u31
        generalize a.tmps.getD 32 undef = u32
        generalize a.tmps.getD 33 undef = u33
        generalize a.tmps.getD 34 undef = u34
        generalize a.tmps.getD 35 undef = u35
        generalize a.tmps.getD 36 undef = u36
        generalize a.tmps.getD 37 undef = u37
        generalize a.tmps.getD 38 undef = u38
        generalize a.tmps.getD 39 undef = u39
        generalize a.tmps.getD 40 undef = u40
        generalize a.tmps.getD 41 undef = u41
        generalize a.tmps.getD 42 undef = u42
        generalize a.tmps.getD 43 undef = u43
        generalize a.tmps.getD 44 undef = u44
        generalize a.tmps.getD 45 undef = u45
        generalize a.tmps.getD 46 undef = u46
        generalize a.tmps.getD 47 undef = u47
        generalize a.tmps.getD 48 undef = u48
        generalize a.tmps.getD 49 undef = u49
        generalize a.tmps.getD 50 undef = u50
        generalize a.tmps.getD 51 undef = u51
        generalize a.tmps.getD 52 undef = u52
        generalize a.tmps.getD 53 undef = u53
        generalize a.tmps.getD 54 undef = u54
        generalize a.tmps.getD 55 undef = u55
        generalize a.tmps.getD 56 undef = u56
        generalize a.tmps.getD 57 undef = u57
        generalize a.tmps.getD 58 undef = u58
        generalize a.tmps.getD 59 undef = u59
        generalize a.tmps.getD 60 undef = u60
        generalize a.tmps.getD 61 undef = u61
        generalize a.tmps.getD 62 undef = u62
        generalize a.tmps.getD 63 undef = u63
        generalize a.tmps.getD 64 undef = u64
        generalize a.tmps.getD 65 undef = u65
        generalize a.tmps.getD 66 undef = u66
        generalize a.tmps.getD 67 undef = u67
        generalize a.tmps.getD 68 undef = u68
        generalize a.tmps.getD 69 undef = u69
        generalize a.tmps.getD 70 undef = u70
        generalize a.tmps.getD 71 undef = u71
        generalize a.tmps.getD 72 undef = u72
        generalize a.tmps.getD 73 undef = u73
        generalize a.tmps.getD 74 undef = u74
        generalize a.tmps.getD 75 undef = u75
        generalize a.tmps.getD 76 undef = u76
        generalize a.tmps.getD 77 undef = u77
        generalize a.tmps.getD 78 undef = u78
        generalize a.tmps.getD 79 undef = u79
        clear hI hdf f1 f3 f5 f7 f8 hL
        clear a
        go_wp2
        go_loopw [9] (fun i wv => ∃ k : Nat, i = .int .i64 (k : Int) ∧ k ≤ n' ∧ Stores wv g n' ∧ Below w4.heap.size w4 wv) (fun i _ => n' - (RowKit.intOf i).toNat)
        case atStart => exact ⟨0, rfl, by omega, hst, bB⟩
        case round =>
          obtain ⟨k, rfl, hk, hst, hbel⟩ := hrel
          by_cases hlt : k < n'
          · obtain ⟨⟨u, hu⟩, hfz⟩ := hst k hlt
            have HST := Lib.hid hst
            have HB := Lib.hid hbel
            clear hst hbel
            go_wp2
            go_roundw
            case rel => exact ⟨k + 1, by go_num, by omega, HST.out.set_ k 9, below_grown HB.out (grownBy_setCell wr g k (.int .u8 9)) HB.out.size hg⟩
            case measure => simp [RowKit.intOf]; omega
          · obtain rfl : k = n' := by omega
            have hS := hS4.call hbel
            clear hst hbel
            obtain ⟨x0, x1, x2⟩ := hS.bx.c3
            obtain ⟨y0, y1, y2⟩ := hS.bi.c3
            go_wp2_with fail
            clear x0 x1 x2 y0 y1 y2
            refine (hS.kept n1 n2 (by omega) (by omega)).mono ?_
            rintro e v1 ⟨rfl, h1⟩
            go_wp2_with fail
            refine (known05_any _).mono ?_
            rintro e v2 ⟨rfl, h2⟩
            go_wp2
            go_ret
            exact ⟨rfl, ((hS.call h1).call h2).bel⟩
      · refine ⟨?_, ?_, ?_, ?_, ?_, ?_, ?_, ?_, ?_, ?_, ?_, ?_, ?_, trivial⟩
        · intro L a w1 hI hi hd
          have f5 := hI.pi.fx (5, .slice (some ⟨g, 0, none⟩) n' c3) (by simp [fmfx])
          simp only at f5
          exact rstep_valW (wanted_none rfl _) (.slice (some ⟨g, 0, none⟩) n' c3) w1 (by go_simp) (hI.put 0 50 (.slice (some ⟨g, 0, none⟩) n' c3) (by simp [fmPures]) (by simp [fmPures]) (by simp [fmfx]) (by decide) (by decide) (by decide) hI.pi.wd)
        · intro L a w1 hI hi hd
          simp [Region.binds] at hd
          have e0 := hI.pi.pu (0, 50, (.slice (some ⟨g, 0, none⟩) n' c3)) (by simp [fmPures]) (by simp [hd])
          simp only at e0
          have f0' : a.tmps[50]?.getD undef = (.slice (some ⟨g, 0, none⟩) n' c3) := by rw [← Array.getD_eq_getD_getElem?]; exact e0
          have s1 := run_str w1 c3 hI.row
          rw [hI.len.out] at s1
          exact rstep_valW (wanted_none rfl _) (.string (str F)) w1 (by go_simp) (hI.put 1 51 (.string (str F)) (by simp [fmPures]) (by simp [fmPures]) (by simp [fmfx]) (by decide) (by decide) (by decide) hI.pi.wd)
        · intro L a w1 hI hi hd
          have f1 := hI.pi.fx (1, .pointer (some ⟨w.heap.size, 0, none⟩)) (by simp [fmfx])
          simp only at f1
          obtain ⟨x0, x1, x2⟩ := hI.pi.wd.bx.c3
          exact rstep_valW (wanted_none rfl _) (.agg #[.int .u64 (x.key : Int), .slice A x.vec.length c, .slice A2 x.note.length c2]) w1 (by go_simp) (hI.put 2 52 (.agg #[.int .u64 (x.key : Int), .slice A x.vec.length c, .slice A2 x.note.length c2]) (by simp [fmPures]) (by simp [fmPures]) (by simp [fmfx]) (by decide) (by decide) (by decide) hI.pi.wd)
        · intro L a w1 hI hi hd
          simp [Region.binds] at hd
          have e2 := hI.pi.pu (2, 52, .agg #[.int .u64 (x.key : Int), .slice A x.vec.length c, .slice A2 x.note.length c2]) (by simp [fmPures]) (by simp [hd])
          simp only at e2
          have f2 : a.tmps[52]?.getD undef = .agg #[.int .u64 (x.key : Int), .slice A x.vec.length c, .slice A2 x.note.length c2] := by rw [← Array.getD_eq_getD_getElem?]; exact e2
          refine rstep_callW (wanted_none rfl _) 43 #[.agg #[.int .u64 (x.key : Int), .slice A x.vec.length c, .slice A2 x.note.length c2]] (by go_simp) ?_
          refine (refform_any x A A2 c c2 w1 hok.hk hok.hv hI.pi.wd.r1 hI.pi.wd.r2 (by omega) (by omega)).mono ?_
          rintro e w2 ⟨B, n1, d1, rfl, hn1, hO, hb⟩
          rw [eF] at hn1 hO
          exact hI.call B n1 d1 hn1.out hO.row hb
        · intro L a w1 hI hi hd
          simp [Region.binds] at hd
          obtain ⟨B, n1, d1, e3, hn1, hrow⟩ := hI.s53 hd
          have s1 := run_str w1 d1 hrow
          rw [hn1] at s1
          exact rstep_valW (wanted_none rfl _) (.string (str F)) w1 (by go_simp) (hI.put 4 54 (.string (str F)) (by simp [fmPures]) (by simp [fmPures]) (by simp [fmfx]) (by decide) (by decide) (by decide) hI.pi.wd)
        · intro L a w1 hI hi hd
          simp [Region.binds] at hd
          have e1 := hI.pi.pu (1, 51, (.string (str F))) (by simp [fmPures]) (by simp [hd])
          simp only at e1
          have f1' : a.tmps[51]?.getD undef = (.string (str F)) := by rw [← Array.getD_eq_getD_getElem?]; exact e1
          have e4 := hI.pi.pu (4, 54, (.string (str F))) (by simp [fmPures]) (by simp [hd])
          simp only at e4
          have f4' : a.tmps[54]?.getD undef = (.string (str F)) := by rw [← Array.getD_eq_getD_getElem?]; exact e4
          have sb : ((str F).toList == (str F).toList) = true := by simp
          exact rstep_valW (wanted_none rfl _) (.bool true) w1 (by go_simp) (hI.put 5 55 (.bool true) (by simp [fmPures]) (by simp [fmPures]) (by simp [fmfx]) (by decide) (by decide) (by decide) hI.pi.wd)
        · intro L a w1 hI hi hd
          simp [Region.binds] at hd
          have e5 := hI.pi.pu (5, 55, (.bool true)) (by simp [fmPures]) (by simp [hd])
          simp only at e5
          have f5' : a.tmps[55]?.getD undef = (.bool true) := by rw [← Array.getD_eq_getD_getElem?]; exact e5
          exact rstep_valW (wanted_none rfl _) (.bool true) w1 (by go_simp) (hI.put 6 56 (.bool true) (by simp [fmPures]) (by simp [fmPures]) (by simp [fmfx]) (by decide) (by decide) (by decide) hI.pi.wd)
        · intro L a w1 hI hi hd
          simp [Region.binds] at hd
          have e6 := hI.pi.pu (6, 56, (.bool true)) (by simp [fmPures]) (by simp [hd])
          simp only at e6
          have f6' : a.tmps[56]?.getD undef = (.bool true) := by rw [← Array.getD_eq_getD_getElem?]; exact e6
          have f7 := hI.pi.fx (7, .int .i64 (n' : Int)) (by simp [fmfx])
          simp only at f7
          exact rstep_valW (wanted_of 6 56 true rfl rfl e6) (.int .i64 (n' : Int)) w1 (by go_simp) (hI.put 7 57 (.int .i64 (n' : Int)) (by simp [fmPures]) (by simp [fmPures]) (by simp [fmfx]) (by decide) (by decide) (by decide) hI.pi.wd)
        · intro L a w1 hI hi hd
          simp [Region.binds] at hd
          have e6 := hI.pi.pu (6, 56, (.bool true)) (by simp [fmPures]) (by simp [hd])
          simp only at e6
          have f6' : a.tmps[56]?.getD undef = (.bool true) := by rw [← Array.getD_eq_getD_getElem?]; exact e6
          have f5 := hI.pi.fx (5, .slice (some ⟨g, 0, none⟩) n' c3) (by simp [fmfx])
          simp only at f5
          exact rstep_valW (wanted_of 6 56 true rfl rfl e6) (.slice (some ⟨g, 0, none⟩) n' c3) w1 (by go_simp) (hI.put 8 58 (.slice (some ⟨g, 0, none⟩) n' c3) (by simp [fmPures]) (by simp [fmPures]) (by simp [fmfx]) (by decide) (by decide) (by decide) hI.pi.wd)
        · intro L a w1 hI hi hd
          simp [Region.binds] at hd
          have e6 := hI.pi.pu (6, 56, (.bool true)) (by simp [fmPures]) (by simp [hd])
          simp only at e6
          have f6' : a.tmps[56]?.getD undef = (.bool true) := by rw [← Array.getD_eq_getD_getElem?]; exact e6
          have e8 := hI.pi.pu (8, 58, (.slice (some ⟨g, 0, none⟩) n' c3)) (by simp [fmPures]) (by simp [hd])
          simp only at e8
          have f8' : a.tmps[58]?.getD undef = (.slice (some ⟨g, 0, none⟩) n' c3) := by rw [← Array.getD_eq_getD_getElem?]; exact e8
          exact rstep_valW (wanted_of 6 56 true rfl rfl e6) (.int .i64 (n' : Int)) w1 (by go_simp) (hI.put 9 59 (.int .i64 (n' : Int)) (by simp [fmPures]) (by simp [fmPures]) (by simp [fmfx]) (by decide) (by decide) (by decide) hI.pi.wd)
        · intro L a w1 hI hi hd
          simp [Region.binds] at hd
          have e6 := hI.pi.pu (6, 56, (.bool true)) (by simp [fmPures]) (by simp [hd])
          simp only at e6
          have f6' : a.tmps[56]?.getD undef = (.bool true) := by rw [← Array.getD_eq_getD_getElem?]; exact e6
          have e7 := hI.pi.pu (7, 57, (.int .i64 (n' : Int))) (by simp [fmPures]) (by simp [hd])
          simp only at e7
          have f7' : a.tmps[57]?.getD undef = (.int .i64 (n' : Int)) := by rw [← Array.getD_eq_getD_getElem?]; exact e7
          have e9 := hI.pi.pu (9, 59, (.int .i64 (n' : Int))) (by simp [fmPures]) (by simp [hd])
          simp only at e9
          have f9' : a.tmps[59]?.getD undef = (.int .i64 (n' : Int)) := by rw [← Array.getD_eq_getD_getElem?]; exact e9
          exact rstep_valW (wanted_of 6 56 true rfl rfl e6) (.bool true) w1 (by go_simp) (hI.put 10 60 (.bool true) (by simp [fmPures]) (by simp [fmPures]) (by simp [fmfx]) (by decide) (by decide) (by decide) hI.pi.wd)
        · intro L a w1 hI hi hd
          simp [Region.binds] at hd
          have e6 := hI.pi.pu (6, 56, (.bool true)) (by simp [fmPures]) (by simp [hd])
          simp only at e6
          have f6' : a.tmps[56]?.getD undef = (.bool true) := by rw [← Array.getD_eq_getD_getElem?]; exact e6
          have e10 := hI.pi.pu (10, 60, (.bool true)) (by simp [fmPures]) (by simp [hd])
          simp only at e10
          have f10' : a.tmps[60]?.getD undef = (.bool true) := by rw [← Array.getD_eq_getD_getElem?]; exact e10
          exact rstep_valW (wanted_none rfl _) (.bool true) w1 (by go_simp) (hI.put 11 61 (.bool true) (by simp [fmPures]) (by simp [fmPures]) (by simp [fmfx]) (by decide) (by decide) (by decide) hI.pi.wd)
        · intro L a w1 hI hi hd
          simp [Region.binds] at hd
          have e11 := hI.pi.pu (11, 61, (.bool true)) (by simp [fmPures]) (by simp [hd])
          simp only at e11
          have f11' : a.tmps[61]?.getD undef = (.bool true) := by rw [← Array.getD_eq_getD_getElem?]; exact e11
          exact rstep_valW (wanted_none rfl _) (.bool true) w1 (by go_simp) (hI.put 12 8 (.bool true) (by simp [fmPures]) (by simp [fmPures]) (by simp [fmfx]) (by decide) (by decide) (by decide) hI.pi.wd)
    · have hq0 : q ≠ 0 := by have := HQ.out; omega
      refine (itembytes_no x _ _ cC cC2 w4 l1 l2 hm).mono ?_
      rw [HQ.out]
      rintro e w5 ⟨rfl, hb5⟩
      have hS5 := hS4.call hb5
      clear hb5 hS4
      obtain ⟨y0, y1, y2⟩ := hS5.bi.c3
      go_wp2_with fail
      clear y0 y1 y2
      refine (itemsize_no x _ _ cC cC2 w5 l1 l2 hm).mono ?_
      rintro e w6 ⟨rfl, hb6⟩
      have hS6 := hS5.call hb6
      clear hb6 hS5
      obtain ⟨y0, y1, y2⟩ := hS6.bx.c3
      go_wp2_with fail
      clear y0 y1 y2
      refine (refmaycode x A A2 c c2 w6 l1 l2 q HQ.out).mono ?_
      rintro e w7 ⟨rfl, hb7⟩
      have hS7 := hS6.call hb7
      clear hb7 hS6
      obtain ⟨x0, x1, x2⟩ := hS7.bx.c3
      obtain ⟨y0, y1, y2⟩ := hS7.bi.c3
      have hqb : (q == 0) = false := beq_eq_false_iff_ne.2 hq0
      go_wp2_with fail
      clear x0 x1 x2 y0 y1 y2
      refine (hS7.kept n1 n2 (by omega) (by omega)).mono ?_
      rintro e v1 ⟨rfl, h1⟩
      go_wp2_with fail
      refine (known05_any _).mono ?_
      rintro e v2 ⟨rfl, h2⟩
      go_wp2
      go_ret
      exact ⟨rfl, ((hS7.call h1).call h2).bel⟩
theorem itemBytes_walk (s : Itv) (w : World) (hs : s.At w) :
    Calls Try.prog 8 #[.agg #[.int .u64 (s.x.key : Int), .slice s.A s.x.vec.length s.c, .slice s.A2 s.x.note.length s.c2]] w fun e w' => e = .returned (.bool true) ∧ Below w.heap.size w w' := by
  obtain ⟨r1, r2, ok, l1, l2, m1, m2⟩ := hs
  unfold maxLen at m1 m2
  exact itemBytes_core s.x s.A s.A2 s.c s.c2 w r1 r2 ok (by omega) (by omega)
end Go.Proofs.Yteanmmdlgolljaa
