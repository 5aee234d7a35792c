/-
  Whether two slotted bodies are alike.
  Conditions: the lists lie in memory; their lengths are bounded.
-/
import Derived.Test.YtofbfehpadjbbaaSltW6
namespace Go.Proofs.Ytofbfehpadjbbaa
open Go.RowKit Go.Sort Go.Lib
set_option linter.unusedVariables false
theorem str_len (w : World) (A : Option Addr) (n c : Nat) (l : List UInt8) (hn : l.length = n) (hr : Row w A (bs l)) : (convert 27 9 (.slice A n c)).run Try.prog w = .ok (.string (str l)) w := by
  subst hn; exact run_str w c hr
theorem str_toList (l : List UInt8) : (str l).toList = l := by rw [ByteArray.toList_eq]; rfl
theorem str_beq (l m : List UInt8) : ((str l).toList == (str m).toList) = decide (l = m) := by
  rw [str_toList, str_toList]
  by_cases h : l = m
  · subst h; simp
  · rw [decide_eq_false h]; exact beq_eq_false_iff_ne.2 h
theorem list_eq {α : Type} {l m : List α} {n : Nat} (h1 : l.length = n) (h2 : m.length = n) (h : ∀ j, j < n → l[j]? = m[j]?) : l = m := by
  refine List.ext_getElem? fun j => ?_
  by_cases hj : j < n
  · exact h j hj
  · rw [List.getElem?_eq_none (by omega), List.getElem?_eq_none (by omega)]
def SamePost (s t : Slt) (w : World) (e : Ending) (w' : World) : Prop := ∃ r, e = .returned (.bool r) ∧ Hid (r = true ↔ s = t) ∧ Below w.heap.size w w'
set_option maxRecDepth 100000 in
set_option maxHeartbeats 2000000 in
theorem same_any (s t : Slt) (A : Option Addr) (nF cA : Nat) (D : Option Addr) (nD cD : Nat) (A2 : Option Addr) (nF2 cA2 : Nat) (D2 : Option Addr) (nD2 cD2 : Nat) (w : World) (hs : SltAt w A nF cA D nD cD s) (ht : SltAt w A2 nF2 cA2 D2 nD2 cD2 t)
    (hmF : nF ≤ 1000000) (hmD : nD ≤ 1000000) :
    Calls Try.prog 14 #[.agg #[.int .u8 (s.kind : Int), .int .u32 (s.next : Int), .slice A nF cA, .slice D nD cD], .agg #[.int .u8 (t.kind : Int), .int .u32 (t.next : Int), .slice A2 nF2 cA2, .slice D2 nD2 cD2]] w (SamePost s t w) := by
  have HS := Lib.hid hs
  have HT := Lib.hid ht
  clear hs ht
  obtain ⟨k1, hk1⟩ : ∃ k, s.kind = k := ⟨_, rfl⟩
  obtain ⟨k2, hk2⟩ : ∃ k, t.kind = k := ⟨_, rfl⟩
  obtain ⟨x1, hx1⟩ : ∃ k, s.next = k := ⟨_, rfl⟩
  obtain ⟨x2, hx2⟩ : ∃ k, t.next = k := ⟨_, rfl⟩
  rw [hk1, hk2, hx1, hx2]
  have HK1 := Lib.hid hk1
  have HK2 := Lib.hid hk2
  have HX1 := Lib.hid hx1
  have HX2 := Lib.hid hx2
  clear hk1 hk2 hx1 hx2
  go_enter Try.func14, Try.ntmps14
  go_upto_region 1 with fail
  have hB1 := (Blk.new w 26 #[.int .u8 (k1 : Int), .int .u32 (x1 : Int), .slice A nF cA, .slice D nD cD]).alloc (.cells #[.int .u8 (k2 : Int), .int .u32 (x2 : Int), .slice A2 nF2 cA2, .slice D2 nD2 cD2] 26)
  have hB2 : Blk ((w.alloc (.cells #[.int .u8 (k1 : Int), .int .u32 (x1 : Int), .slice A nF cA, .slice D nD cD] 26)).alloc (.cells #[.int .u8 (k2 : Int), .int .u32 (x2 : Int), .slice A2 nF2 cA2, .slice D2 nD2 cD2] 26)) (w.heap.size + 1) 26 #[.int .u8 (k2 : Int), .int .u32 (x2 : Int), .slice A2 nF2 cA2, .slice D2 nD2 cD2] := by
    have := Blk.new (w.alloc (.cells #[.int .u8 (k1 : Int), .int .u32 (x1 : Int), .slice A nF cA, .slice D nD cD] 26)) 26 #[.int .u8 (k2 : Int), .int .u32 (x2 : Int), .slice A2 nF2 cA2, .slice D2 nD2 cD2]
    simpa using this
  have hb : Below w.heap.size w ((w.alloc (.cells #[.int .u8 (k1 : Int), .int .u32 (x1 : Int), .slice A nF cA, .slice D nD cD] 26)).alloc (.cells #[.int .u8 (k2 : Int), .int .u32 (x2 : Int), .slice A2 nF2 cA2, .slice D2 nD2 cD2] 26)) := ((Below.refl w.heap.size w).alloc (Nat.le_refl _) _).alloc (by simp) _
  generalize (w.alloc (.cells #[.int .u8 (k1 : Int), .int .u32 (x1 : Int), .slice A nF cA, .slice D nD cD] 26)).alloc (.cells #[.int .u8 (k2 : Int), .int .u32 (x2 : Int), .slice A2 nF2 cA2, .slice D2 nD2 cD2] 26) = V at *
  have KC : Hid (∀ w', Below V.heap.size V w' → (w'.cell? ⟨w.heap.size, 2, none⟩ = some (.slice A nF cA) ∧ w'.cell? ⟨w.heap.size, 3, none⟩ = some (.slice D nD cD)) ∧ (w'.cell? ⟨w.heap.size + 1, 2, none⟩ = some (.slice A2 nF2 cA2) ∧ w'.cell? ⟨w.heap.size + 1, 3, none⟩ = some (.slice D2 nD2 cD2))) := Lib.hid (by
    intro w' hb
    have h := hB1.below hb hB1.lt
    have h2 := hB2.below hb hB2.lt
    have d2 := h.cell 2
    have d3 := h.cell 3
    have e2 := h2.cell 2
    have e3 := h2.cell 3
    simp only [List.getElem?_toArray, List.getElem?_cons_zero, List.getElem?_cons_succ] at d2 d3 e2 e3
    exact ⟨⟨d2, d3⟩, e2, e3⟩)
  have HVB := Lib.hid hb
  have d0 := hB1.cell 0
  have d1 := hB1.cell 1
  have d2 := hB1.cell 2
  have d3 := hB1.cell 3
  have e0 := hB2.cell 0
  have e1 := hB2.cell 1
  have e2 := hB2.cell 2
  have e3 := hB2.cell 3
  simp only [List.getElem?_toArray, List.getElem?_cons_zero, List.getElem?_cons_succ] at d0 d1 d2 d3 e0 e1 e2 e3
  clear hB1 hB2 hb
  by_cases c1 : k1 = k2
  rotate_left
  · have HN : Hid (s ≠ t) := Lib.hid fun h => c1 (by rw [← HK1.out, ← HK2.out, h])
    go_wp2
    go_ret
    exact ⟨false, rfl, Lib.hid ⟨fun h => (by cases h), fun h => absurd h HN.out⟩, HVB.out⟩
  by_cases c2 : x1 = x2
  rotate_left
  · have HN : Hid (s ≠ t) := Lib.hid fun h => c2 (by rw [← HX1.out, ← HX2.out, h])
    go_wp2
    go_ret
    exact ⟨false, rfl, Lib.hid ⟨fun h => (by cases h), fun h => absurd h HN.out⟩, HVB.out⟩
  by_cases c3 : nF = nF2
  rotate_left
  · have HN : Hid (s ≠ t) := Lib.hid fun h => c3 (by rw [← HS.out.lf, ← HT.out.lf, h])
    go_wp2
    go_ret
    exact ⟨false, rfl, Lib.hid ⟨fun h => (by cases h), fun h => absurd h HN.out⟩, HVB.out⟩
  by_cases c4 : nD = nD2
  rotate_left
  · have HN : Hid (s ≠ t) := Lib.hid fun h => c4 (by rw [← HS.out.ld, ← HT.out.ld, h])
    go_wp2
    go_ret
    exact ⟨false, rfl, Lib.hid ⟨fun h => (by cases h), fun h => absurd h HN.out⟩, HVB.out⟩
  subst c1 c2 c3 c4
  go_wp2
  clear d0 d1 d2 d3 e0 e1 e2 e3
  go_loopw [5] (fun i wr => ∃ q : Nat, i = .int .i64 q ∧ q ≤ nF ∧ (∀ j, j < q → s.full[j]? = t.full[j]?) ∧ Below V.heap.size V wr) (fun i _ => nF - (RowKit.intOf i).toNat)
  case atStart => exact ⟨0, rfl, by omega, fun j hj => absurd hj (by omega), Below.refl _ _⟩
  case round =>
    obtain ⟨q, rfl, hq, hall, hbel⟩ := hrel
    have HA := Lib.hid hall
    have HB := Lib.hid hbel
    obtain ⟨⟨d2, d3⟩, e2, e3⟩ := KC.out _ hbel
    have B0 := Lib.hid (below_step HVB.out hbel (Nat.le_refl _))
    clear hall hbel
    by_cases hlt : q < nF
    · obtain ⟨b, hb⟩ : ∃ b, s.full[q]? = some b := ⟨_, List.getElem?_eq_getElem (by rw [HS.out.lf]; exact hlt)⟩
      obtain ⟨b2, hb2⟩ : ∃ b, t.full[q]? = some b := ⟨_, List.getElem?_eq_getElem (by rw [HT.out.lf]; exact hlt)⟩
      obtain ⟨g, o, rfl, cb⟩ := (HS.out.below B0.out).full_get hb
      obtain ⟨g2, o2, rfl, cb2⟩ := (HT.out.below B0.out).full_get hb2
      have HBB := Lib.hid hb
      have HBB2 := Lib.hid hb2
      clear hb hb2
      by_cases hbb : b = b2
      · have HQ : Hid (∀ j, j < q + 1 → s.full[j]? = t.full[j]?) := Lib.hid (fun j hj => by
          by_cases e : j = q
          · subst e; rw [HBB.out, HBB2.out, hbb]
          · exact HA.out j (by omega))
        clear HBB HBB2
        subst hbb
        go_wp2
        go_quiet (fail)
        have HB2 := Lib.hid (below_step HB.out (⟨rfl, rfl, rfl, Nat.le_refl _, fun _ _ => rfl⟩ : Below wr.heap.size wr (wr.drewN nq)) (Nat.le_refl _))
        go_wp2
        go_roundw
        case rel => exact ⟨q + 1, by go_num, by omega, HQ.out, HB2.out⟩
        case measure => simp [RowKit.intOf]; omega
      · have HN : Hid (s ≠ t) := Lib.hid fun h => hbb (by have h1 := HBB.out; have h2 := HBB2.out; rw [h, h2] at h1; injection h1 with h1; exact h1.symm)
        cases b <;> cases b2 <;> first
          | exact absurd rfl hbb
          | (clear hbb
             go_wp2
             go_quiet (fail)
             have HB2 := Lib.hid (below_step B0.out (⟨rfl, rfl, rfl, Nat.le_refl _, fun _ _ => rfl⟩ : Below wr.heap.size wr (wr.drewN nq)) (Nat.le_refl _))
             go_wp2
             go_ret
             exact ⟨false, rfl, Lib.hid ⟨fun h => (by cases h), fun h => absurd h HN.out⟩, HB2.out⟩)
    · obtain rfl : nF = q := by omega
      have HF := Lib.hid (list_eq HS.out.lf HT.out.lf HA.out)
      go_wp2
      clear d2 d3 e2 e3
      go_loopw [6] (fun i wr => ∃ q : Nat, i = .int .i64 q ∧ q ≤ nD ∧ (∀ j, j < q → s.data[j]? = t.data[j]?) ∧ Below V.heap.size V wr) (fun i _ => nD - (RowKit.intOf i).toNat)
      case atStart => exact ⟨0, rfl, by omega, fun j hj => absurd hj (by omega), HB.out⟩
      case round =>
        obtain ⟨q, rfl, hq2, hall, hbel⟩ := hrel
        have HA2 := Lib.hid hall
        have HB2 := Lib.hid hbel
        obtain ⟨⟨d2, d3⟩, e2, e3⟩ := KC.out _ hbel
        have B2 := Lib.hid (below_step HVB.out hbel (Nat.le_refl _))
        clear hall hbel
        by_cases hlt2 : q < nD
        · obtain ⟨x, hx⟩ : ∃ b, s.data[q]? = some b := ⟨_, List.getElem?_eq_getElem (by rw [HS.out.ld]; exact hlt2)⟩
          obtain ⟨x2, hx2⟩ : ∃ b, t.data[q]? = some b := ⟨_, List.getElem?_eq_getElem (by rw [HT.out.ld]; exact hlt2)⟩
          obtain ⟨g, o, P1, n1, c1, rfl, cb, hn1, hr1⟩ := (HS.out.below B2.out).data_get hx
          obtain ⟨g2, o2, P2, n2, c2, rfl, cb2, hn2, hr2⟩ := (HT.out.below B2.out).data_get hx2
          have hdn : ∀ n, Below wr.heap.size wr (wr.drewN n) := fun n => ⟨rfl, rfl, rfl, Nat.le_refl _, fun _ _ => rfl⟩
          have s1 := fun n => str_len (wr.drewN n) P1 n1 c1 x hn1 (hr1.below (hdn n))
          have s2 := fun n => str_len (wr.drewN n) P2 n2 c2 x2 hn2 (hr2.below (hdn n))
          have HDN := Lib.hid hdn
          have HX := Lib.hid hx
          have HXX := Lib.hid hx2
          clear hx hx2 hn1 hn2 hr1 hr2 hdn
          by_cases hxx : x = x2
          · have HQ : Hid (∀ j, j < q + 1 → s.data[j]? = t.data[j]?) := Lib.hid (fun j hj => by
              by_cases e : j = q
              · subst e; rw [HX.out, HXX.out, hxx]
              · exact HA2.out j (by omega))
            clear HX HXX
            subst hxx
            go_wp2
            go_quiet (fail)
            have HB3 := Lib.hid (below_step HB2.out (HDN.out nq) (Nat.le_refl _))
            clear s1 s2
            go_wp2
            go_roundw
            case rel => exact ⟨q + 1, by go_num, by omega, HQ.out, HB3.out⟩
            case measure => simp [RowKit.intOf]; omega
          · have HN : Hid (s ≠ t) := Lib.hid fun h => hxx (by have h1 := HX.out; have h2 := HXX.out; rw [h, h2] at h1; injection h1 with h1; exact h1.symm)
            have hne : ((str x).toList == (str x2).toList) = false := by rw [str_beq]; exact decide_eq_false hxx
            go_wp2
            go_quiet (fail)
            have HB3 := Lib.hid (below_step B2.out (HDN.out nq) (Nat.le_refl _))
            go_wp2
            go_ret
            exact ⟨false, rfl, Lib.hid ⟨fun h => (by cases h), fun h => absurd h HN.out⟩, HB3.out⟩
        · obtain rfl : nD = q := by omega
          have HG := Lib.hid (list_eq HS.out.ld HT.out.ld HA2.out)
          go_wp2
          go_ret
          refine ⟨true, rfl, Lib.hid ⟨fun _ => ?_, fun _ => rfl⟩, B2.out⟩
          have h1 := HK1.out
          have h2 := HK2.out
          have h3 := HX1.out
          have h4 := HX2.out
          have h5 := HF.out
          have h6 := HG.out
          cases s
          cases t
          dsimp only at h1 h2 h3 h4 h5 h6
          subst h1 h3 h5 h6
          rw [h2, h4]
end Go.Proofs.Ytofbfehpadjbbaa
