/-
  Whether two records are alike, by the program and by the document.
  Conditions: the records' lists lie in memory; their lengths are bounded.
-/
import Derived.Test.YtaadfalklddhcaaItemW3
namespace Go.Proofs.Ytaadfalklddhcaa
open Go.RowKit Go.Sort Go.Lib
set_option linter.unusedVariables false
theorem take_next {l m : List Int} {k : Nat} {u : Int} (h : l.take k = m.take k) (h1 : l[k]? = some u) (h2 : m[k]? = some u) : l.take (k + 1) = m.take (k + 1) := by
  rw [List.take_add_one, List.take_add_one, h, h1, h2]
theorem ne_at {l m : List Int} {k : Nat} {u v : Int} (h1 : l[k]? = some u) (h2 : m[k]? = some v) (h : u ≠ v) : l ≠ m := by
  rintro rfl
  rw [h1] at h2; injection h2 with h2; exact h h2
set_option maxRecDepth 100000 in
theorem equal32_any (A B : Option Addr) (c c2 : Nat) (l m : List Int) (w : World) (hr : Row w A (i32s l)) (hr2 : Row w B (i32s m)) (hl : l.length ≤ 9223372036854775807) (hm : m.length ≤ 9223372036854775807) :
    Calls Try.prog 94 #[.slice A l.length c, .slice B m.length c2] w fun e w' => e = .returned (.bool (decide (l = m))) ∧ Below w.heap.size w w' := by
  by_cases hlen : l.length = m.length
  · have HR := Lib.hid hr
    have HR2 := Lib.hid hr2
    have HLM := Lib.hid hlen
    obtain ⟨n, hn⟩ : ∃ n, m.length = n := ⟨_, rfl⟩
    rw [hn] at hlen hm ⊢
    have HN := Lib.hid hn
    have HL := Lib.hid hlen
    rw [hlen] at hl ⊢
    clear hlen hn hr hr2
    go_enter Try.func94, Try.ntmps94
    go_wp2
    go_loopw [13] (fun i wr => ∃ k : Nat, i = .int .i64 k ∧ k ≤ n ∧ l.take k = m.take k ∧ Below w.heap.size w wr) (fun i _ => n - (RowKit.intOf i).toNat)
    case atStart => exact ⟨0, rfl, by omega, rfl, Below.refl _ _⟩
    case round =>
      obtain ⟨k, rfl, hk, heq, hbel⟩ := hrel
      have HE := Lib.hid heq
      clear heq
      by_cases hlt : k < n
      · obtain ⟨u, hu⟩ : ∃ u, l[k]? = some u := ⟨_, List.getElem?_eq_getElem (by have := HL.out; omega)⟩
        obtain ⟨v, hv⟩ : ∃ u, m[k]? = some u := ⟨_, List.getElem?_eq_getElem (by have := HN.out; omega)⟩
        obtain ⟨b1, o1, rfl, e1⟩ := row_i32 (HR.out.below hbel) hu
        obtain ⟨b2, o2, rfl, e2⟩ := row_i32 (HR2.out.below hbel) hv
        have HU := Lib.hid hu
        have HV := Lib.hid hv
        have HQ := Lib.hid hbel
        clear hu hv hbel
        by_cases huv : u = v
        · subst huv
          have HT := Lib.hid (take_next HE.out HU.out HV.out)
          go_wp2
          go_quiet (fail)
          go_wp2
          go_roundw
          case rel => exact ⟨k + 1, by go_num, by omega, HT.out, ⟨HQ.out.os, HQ.out.tape, HQ.out.output, HQ.out.size, HQ.out.block⟩⟩
          case measure => simp [RowKit.intOf]; omega
        · have hd : (u == v) = false := beq_eq_false_iff_ne.2 huv
          have HF := Lib.hid (decide_eq_false (ne_at HU.out HV.out huv))
          go_wp2
          go_quiet (fail)
          go_wp2
          go_ret
          rw [HF.out]
          exact ⟨rfl, ⟨HQ.out.os, HQ.out.tape, HQ.out.output, HQ.out.size, HQ.out.block⟩⟩
      · obtain rfl : k = n := by omega
        have HT : Hid (decide (l = m) = true) := Lib.hid (decide_eq_true (by
          have := HE.out
          rwa [List.take_of_length_le (by rw [HL.out]; omega), List.take_of_length_le (by rw [HN.out]; omega)] at this))
        go_wp2
        go_ret
        rw [HT.out]
        exact ⟨rfl, hbel⟩
  · have hne : decide (l = m) = false := decide_eq_false (fun h => hlen (by rw [h]))
    have hd : ((l.length : Int) == (m.length : Int)) = false := beq_eq_false_iff_ne.2 (by omega)
    rw [hne]
    go_enter Try.func94, Try.ntmps94
    go_wp2
    go_ret
    exact ⟨rfl, Below.refl _ _⟩
theorem str_toList (l : List UInt8) : (str l).toList = l := by rw [ByteArray.toList_eq]; rfl
theorem str_beq (l m : List UInt8) : ((str l).toList == (str m).toList) = decide (l = m) := by
  rw [str_toList, str_toList]
  by_cases h : l = m
  · subst h; simp
  · rw [decide_eq_false h]; exact beq_eq_false_iff_ne.2 h
theorem equal8_any (A B : Option Addr) (c c2 : Nat) (l m : List UInt8) (w : World) (hr : Row w A (bs l)) (hr2 : Row w B (bs m)) :
    Calls Try.prog 38 #[.slice A l.length c, .slice B m.length c2] w fun e w' => e = .returned (.bool (decide (l = m))) ∧ w = w' := by
  have s1 := run_str w c hr
  have s2 := run_str w c2 hr2
  have hd := str_beq l m
  go_enter Try.func38, Try.ntmps38
  go_wp2
  go_ret
  exact ⟨rfl, rfl⟩
set_option maxRecDepth 100000 in
theorem itemsame_any (x y : Itm) (A A2 B B2 : Option Addr) (c c2 d d2 : Nat) (w : World) (hr : Row w A (i32s x.vec)) (hr2 : Row w A2 (bs x.note)) (hs : Row w B (i32s y.vec)) (hs2 : Row w B2 (bs y.note))
    (h1 : x.vec.length ≤ 9223372036854775807) (h3 : y.vec.length ≤ 9223372036854775807) :
    Calls Try.prog 73 #[.agg #[.int .u64 (x.key : Int), .slice A x.vec.length c, .slice A2 x.note.length c2], .agg #[.int .u64 (y.key : Int), .slice B y.vec.length d, .slice B2 y.note.length d2]] w fun e w' => e = .returned (.bool (ItemM.same x y)) ∧ Below w.heap.size w w' := by
  have hsm : ItemM.same x y = (decide (x.key = y.key) && (decide (x.vec = y.vec) && decide (x.note = y.note))) := by unfold ItemM.same; simp only [Bool.decide_and]
  rw [hsm]
  clear hsm
  obtain ⟨k, vec, note⟩ := x
  obtain ⟨k2, vec2, note2⟩ := y
  dsimp only at *
  have b0 : Below w.heap.size w ((w.alloc (.cells #[.int .u64 (k : Int), .slice A vec.length c, .slice A2 note.length c2] 30)).alloc (.cells #[.int .u64 (k2 : Int), .slice B vec2.length d, .slice B2 note2.length d2] 30)) := ((Below.refl _ _).alloc (Nat.le_refl _) _).alloc (by simp) _
  have R1 := Lib.hid (hr.below b0); have R2 := Lib.hid (hr2.below b0); have S1 := Lib.hid (hs.below b0); have S2 := Lib.hid (hs2.below b0)
  have U1 := Lib.hid ((Blk.new w 30 #[.int .u64 (k : Int), .slice A vec.length c, .slice A2 note.length c2]).alloc (.cells #[.int .u64 (k2 : Int), .slice B vec2.length d, .slice B2 note2.length d2] 30))
  have U2 := Lib.hid (Blk.new (w.alloc (.cells #[.int .u64 (k : Int), .slice A vec.length c, .slice A2 note.length c2] 30)) 30 #[.int .u64 (k2 : Int), .slice B vec2.length d, .slice B2 note2.length d2])
  have e1 : (w.alloc (.cells #[.int .u64 (k : Int), .slice A vec.length c, .slice A2 note.length c2] 30)).heap.size = w.heap.size + 1 := by simp
  rw [e1] at U2
  have B0 := Lib.hid b0
  clear hr hr2 hs hs2 b0 e1
  by_cases hk : k = k2
  · subst hk
    rw [decide_eq_true rfl, Bool.true_and]
    go_enter Try.func73, Try.ntmps73
    go_wp2_with fail
    refine (equal32_any A B c d vec vec2 _ R1.out S1.out h1 h3).mono ?_
    rintro e w1 ⟨rfl, hb⟩
    have R2' := Lib.hid (R2.out.below hb)
    have S2' := Lib.hid (S2.out.below hb)
    have c1 := (U1.out.below hb U1.out.lt).cell 2
    have c2 := (U2.out.below hb U2.out.lt).cell 2
    simp only [List.getElem?_toArray, List.getElem?_cons_zero, List.getElem?_cons_succ] at c1 c2
    have B1 := Lib.hid (below_join B0.out hb)
    clear hb R1 S1 R2 S2 U1 U2 B0
    cases hv : decide (vec = vec2) with
    | false =>
      have HV := Lib.hid hv
      clear hv
      go_wp2
      go_ret
      rw [HV.out]
      exact ⟨rfl, B1.out⟩
    | true =>
      have HV := Lib.hid hv
      clear hv
      go_wp2_with fail
      refine (equal8_any A2 B2 _ _ note note2 _ R2'.out S2'.out).mono ?_
      rintro e w2 ⟨rfl, rfl⟩
      go_wp2
      go_ret
      rw [HV.out]
      exact ⟨rfl, B1.out⟩
  · rw [decide_eq_false hk, Bool.false_and]
    have hd : ((k : Int) == (k2 : Int)) = false := beq_eq_false_iff_ne.2 (by omega)
    go_enter Try.func73, Try.ntmps73
    go_wp2
    go_ret
    exact ⟨rfl, B0.out⟩
set_option maxRecDepth 100000 in
set_option maxHeartbeats 1000000 in
theorem refsame_len (k k2 n1 n2 : Nat) (vec vec2 : List Int) (note note2 : List UInt8) (A A2 B B2 : Option Addr) (c c2 d d2 : Nat) (w : World) (hr : Row w A (i32s vec)) (hr2 : Row w A2 (bs note)) (hs : Row w B (i32s vec2)) (hs2 : Row w B2 (bs note2))
    (hn1 : vec.length = n1) (hn2 : vec2.length = n2) (h1 : n1 ≤ 9223372036854775807) (h3 : n2 ≤ 9223372036854775807) :
    Calls Try.prog 43 #[.agg #[.int .u64 (k : Int), .slice A n1 c, .slice A2 note.length c2], .agg #[.int .u64 (k2 : Int), .slice B n2 d, .slice B2 note2.length d2]] w fun e w' => e = .returned (.bool (decide (k = k2) && (decide (vec = vec2) && decide (note = note2)))) ∧ Below w.heap.size w w' := by
  have b0 : Below w.heap.size w ((w.alloc (.cells #[.int .u64 (k : Int), .slice A n1 c, .slice A2 note.length c2] 30)).alloc (.cells #[.int .u64 (k2 : Int), .slice B n2 d, .slice B2 note2.length d2] 30)) := ((Below.refl _ _).alloc (Nat.le_refl _) _).alloc (by simp) _
  have R1 := Lib.hid (hr.below b0); have S1 := Lib.hid (hs.below b0)
  have s1 := run_str _ c2 (hr2.below b0)
  have s2 := run_str _ d2 (hs2.below b0)
  have hb := str_beq note note2
  have B0 := Lib.hid b0
  have N1 := Lib.hid hn1
  have N2 := Lib.hid hn2
  clear hr hr2 hs hs2 b0 hn1 hn2
  by_cases hk : k = k2
  · subst hk
    rw [decide_eq_true rfl, Bool.true_and]
    by_cases hlen : n1 = n2
    · subst hlen
      cases hn : decide (note = note2) with
      | false =>
        have HN := Lib.hid hn
        rw [hn] at hb
        go_enter Try.func43, Try.ntmps43
        go_wp2
        go_ret
        rw [Bool.and_false]
        exact ⟨rfl, B0.out⟩
      | true =>
        have HN := Lib.hid hn
        rw [hn] at hb
        have U1 := Lib.hid ((Blk.new w 30 #[.int .u64 (k : Int), .slice A n1 c, .slice A2 note.length c2]).alloc (.cells #[.int .u64 (k : Int), .slice B n1 d, .slice B2 note2.length d2] 30))
        have U2 := Lib.hid (Blk.new (w.alloc (.cells #[.int .u64 (k : Int), .slice A n1 c, .slice A2 note.length c2] 30)) 30 #[.int .u64 (k : Int), .slice B n1 d, .slice B2 note2.length d2])
        have e1 : (w.alloc (.cells #[.int .u64 (k : Int), .slice A n1 c, .slice A2 note.length c2] 30)).heap.size = w.heap.size + 1 := by simp
        rw [e1] at U2
        go_enter Try.func43, Try.ntmps43
        go_wp2
        clear s1 s2 hb hn e1
        generalize (w.alloc (.cells #[.int .u64 (k : Int), .slice A n1 c, .slice A2 note.length c2] 30)).alloc (.cells #[.int .u64 (k : Int), .slice B n1 d, .slice B2 note2.length d2] 30) = w0 at *
        go_loopw [5] (fun i wr => ∃ j : Nat, i = .int .i64 j ∧ j ≤ n1 ∧ vec.take j = vec2.take j ∧ Below w0.heap.size w0 wr) (fun i _ => n1 - (RowKit.intOf i).toNat)
        case atStart => exact ⟨0, rfl, by omega, rfl, Below.refl _ _⟩
        case round =>
          obtain ⟨j, rfl, hj, heq, hbel⟩ := hrel
          have HE := Lib.hid heq
          have c1 := (U1.out.below hbel U1.out.lt).cell 1
          have c2 := (U2.out.below hbel U2.out.lt).cell 1
          simp only [List.getElem?_toArray, List.getElem?_cons_zero, List.getElem?_cons_succ] at c1 c2
          clear heq
          by_cases hlt : j < n1
          · obtain ⟨u, hu⟩ : ∃ u, vec[j]? = some u := ⟨_, List.getElem?_eq_getElem (by have := N1.out; omega)⟩
            obtain ⟨v, hv⟩ : ∃ u, vec2[j]? = some u := ⟨_, List.getElem?_eq_getElem (by have := N2.out; omega)⟩
            obtain ⟨b1, o1, rfl, e1⟩ := row_i32 (R1.out.below hbel) hu
            obtain ⟨b2, o2, rfl, e2⟩ := row_i32 (S1.out.below hbel) hv
            have HU := Lib.hid hu
            have HV := Lib.hid hv
            have HQ := Lib.hid hbel
            clear hu hv hbel
            by_cases huv : u = v
            · subst huv
              have HT := Lib.hid (take_next HE.out HU.out HV.out)
              go_wp2
              go_quiet (fail)
              go_wp2
              go_roundw
              case rel => exact ⟨j + 1, by go_num, by omega, HT.out, ⟨HQ.out.os, HQ.out.tape, HQ.out.output, HQ.out.size, HQ.out.block⟩⟩
              case measure => simp [RowKit.intOf]; omega
            · have hd : (u == v) = false := beq_eq_false_iff_ne.2 huv
              have HF := Lib.hid (decide_eq_false (ne_at HU.out HV.out huv))
              have HQ2 := Lib.hid (below_join B0.out HQ.out)
              go_wp2
              go_quiet (fail)
              go_wp2
              go_ret
              rw [HF.out, Bool.false_and]
              exact ⟨rfl, ⟨HQ2.out.os, HQ2.out.tape, HQ2.out.output, HQ2.out.size, HQ2.out.block⟩⟩
          · obtain rfl : j = n1 := by omega
            have HT : Hid (decide (vec = vec2) = true) := Lib.hid (decide_eq_true (by
              have := HE.out
              rwa [List.take_of_length_le (by rw [N1.out]; omega), List.take_of_length_le (by rw [N2.out]; omega)] at this))
            go_wp2
            go_ret
            rw [HT.out]
            exact ⟨rfl, below_join B0.out hbel⟩
    · have hne : decide (vec = vec2) = false := decide_eq_false (fun h => hlen (by rw [← N1.out, ← N2.out, h]))
      have hd : ((n1 : Int) == (n2 : Int)) = false := beq_eq_false_iff_ne.2 (by omega)
      rw [hne, Bool.false_and]
      go_enter Try.func43, Try.ntmps43
      go_wp2
      go_ret
      exact ⟨rfl, B0.out⟩
  · rw [decide_eq_false hk, Bool.false_and]
    have hd : ((k : Int) == (k2 : Int)) = false := beq_eq_false_iff_ne.2 (by omega)
    go_enter Try.func43, Try.ntmps43
    go_wp2
    go_ret
    exact ⟨rfl, B0.out⟩
theorem refsame_any (x y : Itm) (A A2 B B2 : Option Addr) (c c2 d d2 : Nat) (w : World) (hr : Row w A (i32s x.vec)) (hr2 : Row w A2 (bs x.note)) (hs : Row w B (i32s y.vec)) (hs2 : Row w B2 (bs y.note))
    (h1 : x.vec.length ≤ 9223372036854775807) (h3 : y.vec.length ≤ 9223372036854775807) :
    Calls Try.prog 43 #[.agg #[.int .u64 (x.key : Int), .slice A x.vec.length c, .slice A2 x.note.length c2], .agg #[.int .u64 (y.key : Int), .slice B y.vec.length d, .slice B2 y.note.length d2]] w fun e w' => e = .returned (.bool (ItemM.same x y)) ∧ Below w.heap.size w w' := by
  have hsm : ItemM.same x y = (decide (x.key = y.key) && (decide (x.vec = y.vec) && decide (x.note = y.note))) := by unfold ItemM.same; simp only [Bool.decide_and]
  rw [hsm]
  exact refsame_len x.key y.key x.vec.length y.vec.length x.vec y.vec x.note y.note A A2 B B2 c c2 d d2 w hr hr2 hs hs2 rfl rfl h1 h3
end Go.Proofs.Ytaadfalklddhcaa
