/-
  The document's stream: what feeding it and asking it for the next frame does.
  Conditions: the stream lies in a block of its own, its bytes in another; their number is bounded.
-/
import Derived.Test.YtgcognefggbpjaaFrmP1
import Derived.Test.YtgcognefggbpjaaFrmW6
namespace Go.Proofs.Ytgcognefggbpjaa
open Go.RowKit Go.Sort Go.Lib
set_option linter.unusedVariables false
/-- The document's stream in block g: its bytes l lie somewhere in what R holds. -/
def RefAt (w : World) (g : Nat) (R : Option Addr) (l : List UInt8) (br : Bool) : Prop := ∃ A n c X, Blk w g 63 #[.slice A n c, .bool br] ∧ l.length = n ∧ n ≤ c ∧ (∀ a, R = some a → g < a.block ∧ a.block < w.heap.size) ∧ Row w R (bs X) ∧ ∀ W, Row W R (bs X) → Row W A (bs l)
section
variable {w w' : World} {g : Nat} {R : Option Addr} {l : List UInt8} {br : Bool} {P : Nat → Prop}
theorem RefAt.lt (h : RefAt w g R l br) : g < w.heap.size := by
  obtain ⟨A, n, c, X, hB, _⟩ := h
  exact hB.lt
theorem row_block {w w' : World} {A : Option Addr} {xs : List Value} (h : Row w A xs) (hb : ∀ a, A = some a → w'.heap[a.block]? = w.heap[a.block]?) : Row w' A xs := by
  rcases h with h | ⟨b, o, e, hc⟩
  · exact .inl h
  · exact .inr ⟨b, o, e, fun j u hu => (World.cell?_of_block (a := ⟨b, o + j, none⟩) (hb ⟨b, o, none⟩ e : w'.heap[b]? = w.heap[b]?)).trans (hc j u hu)⟩
theorem RefAt.chg (h : RefAt w g R l br) (hc : Chg w w' P) (hg : ¬ P g) (ha : ∀ a, R = some a → ¬ P a.block) : RefAt w' g R l br := by
  obtain ⟨A, n, c, X, hB, h1, h2, h3, h4, h5⟩ := h
  refine ⟨A, n, c, X, ?_, h1, h2, fun a e => ⟨(h3 a e).1, Nat.lt_of_lt_of_le (h3 a e).2 hc.size⟩, row_block h4 (fun a e => hc.block _ (h3 a e).2 (ha a e)), h5⟩
  have := hc.block g hB.lt hg
  unfold Blk at hB ⊢; rw [this]; exact hB
theorem RefAt.below (h : RefAt w g R l br) (hb : Below w.heap.size w w') : RefAt w' g R l br := h.chg (P := fun _ => False) (Chg.of_below hb) (fun q => q) (fun _ _ q => q)
end
/-- What feeding the document's stream leaves. -/
def FedR (w : World) (g : Nat) (R : Option Addr) (l : List UInt8) (br : Bool) (e : Ending) (w' : World) : Prop := ∃ R', e = .returned (.int .i64 (FrmM.err br : Nat)) ∧ RefAt w' g R' l br ∧ Chg w w' (fun i => i = g) ∧ ∀ a, R' = some a → R = some a ∨ w.heap.size ≤ a.block
set_option maxRecDepth 100000 in
theorem reffeed_any (g : Nat) (R A2 : Option Addr) (k c2 : Nat) (l m : List UInt8) (br : Bool) (w : World) (hs : RefAt w g R l br) (hk : m.length = k) (hr : Row w A2 (bs m)) (hlen : l.length + k ≤ 140737488355000) :
    Calls Try.prog 36 #[.pointer (some ⟨g, 0, none⟩), .slice A2 k c2] w (FedR w g R (FrmM.fed l br m) br) := by
  have HS := Lib.hid hs
  obtain ⟨A, n, c, X, hB, hl, hnc, hR, hX, hA⟩ := hs
  have c0 := hB.cell 0
  have c1 := hB.cell 1
  have f0 := hB.frozen 0
  simp only [List.getElem?_toArray, List.getElem?_cons_zero, List.getElem?_cons_succ] at c0 c1
  have hra := Lib.hid (hA w hX)
  have HB := Lib.hid hB
  have HA := Lib.hid hl
  have HR := Lib.hid hr
  have hgs := hB.lt
  rw [hl] at hlen
  clear hA hX hR hB hl hr
  cases br with
  | true =>
    go_enter Try.func36, Try.ntmps36
    go_wp2
    go_ret
    exact ⟨R, rfl, HS.out, Chg.refl _ _, fun a ha => .inl ha⟩
  | false =>
    go_enter Try.func36, Try.ntmps36
    go_wp2_with (at_builtin; refine wpl_app' _ rfl (.tmp 10) (.tmp 14) rfl w.heap.size (some ⟨w.heap.size, 0, none⟩) 0 [] 0 rfl rfl (Own.made w #[] 0 (Nat.le_refl _) (by unfold maxLen; omega) rfl) A c l n rfl HA.out (hra.out.alloc _) ?_ ?_ ?_)
    · omega
    · simp
    intro A3 c3 w3 h3 hg3 _
    have hb3 : Below w.heap.size w w3 := ((Below.refl w.heap.size w).alloc (Nat.le_refl _) (.cells #[] 5)).grown hg3 (by simp) (by intro k hk; simp [Value.ownBlock] at hk; omega)
    have hs3 := hb3.size
    go_wp2_with (at_builtin; refine wpl_app' _ rfl (.tmp 15) (.tmp 16) rfl w.heap.size A3 c3 l n (by simp [Act.eval]) HA.out h3 A2 c2 m k rfl hk (HR.out.below hb3) ?_ ?_ ?_)
    · omega
    · omega
    intro A4 c4 w4 h4 hg4 _
    have hb4 : Below w.heap.size w w4 := h3.grown_below (by rw [HA.out]) hg4 hb3 (Nat.le_refl _) hs3
    have hB4 := HB.out.below hb4 hgs
    have d0 := hB4.cell 0
    have k0 := hB4.frozen 0
    simp only [List.getElem?_toArray, List.getElem?_cons_zero] at d0
    have HB4 := Lib.hid hB4
    have H4 := Lib.hid h4
    have HQ4 := Lib.hid hb4
    clear c0 c1 f0 hB4 h4 h3 hb3 hb4 hg3 hg4
    go_wp2
    go_ret
    have gg := grownBy_setCell w4 g 0 (.slice A4 (n + k) c4)
    have hle := H4.out.le
    have hll : (l ++ m).length = n + k := by rw [List.length_append, HA.out, hk]
    refine ⟨A4, rfl, ⟨A4, n + k, c4, l ++ m, HB4.out.set_ 0 _, hll, by omega, fun a ha => ?_, row_block H4.out.row (fun a ha => ?_), fun W hW => hW⟩, (Chg.of_below HQ4.out).trans (Chg.of_grown gg ?_), fun a ha => .inr (H4.out.blk ha).1⟩
    · have := H4.out.blk ha
      have := gg.size
      omega
    · have := H4.out.blk ha
      exact gg.block _ this.2 (by intro q; injection q with q; omega)
    · intro i hi
      injection hi with hi
      exact hi.symm
/-- What the document's next call leaves. -/
def NxtR (w : World) (g : Nat) (R : Option Addr) (x : List UInt8 × List UInt8 × Bool × Nat) (e : Ending) (w' : World) : Prop := ∃ B n c, e = .returned (.tuple #[.slice B n c, .int .i64 (x.2.2.2 : Nat)]) ∧ Hid (x.1.length = n) ∧ Row w' B (bs x.1) ∧ RefAt w' g R x.2.1 x.2.2.1 ∧ Chg w w' (fun i => i = g)
set_option maxRecDepth 100000 in
theorem refnexts_any (g : Nat) (R : Option Addr) (l : List UInt8) (br : Bool) (w : World) (hs : RefAt w g R l br) (hlen : l.length ≤ 140737488355328) :
    Calls Try.prog 38 #[.pointer (some ⟨g, 0, none⟩)] w (NxtR w g R (FrmM.nxt l br)) := by
  have HS := Lib.hid hs
  obtain ⟨A, n, c, X, hB, hl, hnc, hR, hX, hA⟩ := hs
  have c0 := hB.cell 0
  have c1 := hB.cell 1
  simp only [List.getElem?_toArray, List.getElem?_cons_zero, List.getElem?_cons_succ] at c0 c1
  have hra := Lib.hid (hA w hX)
  have HB := Lib.hid hB
  have HA := Lib.hid hl
  have HX := Lib.hid hX
  have HR := Lib.hid hR
  have HAA := Lib.hid hA
  have hgs := hB.lt
  rw [hl] at hlen
  have hw1 : ∀ w1, Below w.heap.size w w1 → Hid (Blk w1 g 63 #[.slice A n c, .bool br]) := fun w1 h => Lib.hid (HB.out.below h HB.out.lt)
  have HW := Lib.hid hw1
  clear hw1
  have KR : Hid (∀ (w2 : World) (A' : Option Addr) (n' c' : Nat) (l' : List UInt8) (br' : Bool), Below w.heap.size w w2 → l'.length = n' → n' ≤ c' → (∀ W, Row W A (bs l) → Row W A' (bs l')) → Blk w2 g 63 #[.slice A n c, .bool br] →
      RefAt (w2.setCell ⟨g, 0, none⟩ (.slice A' n' c')) g R l' br ∧ Chg w (w2.setCell ⟨g, 0, none⟩ (.slice A' n' c')) (fun i => i = g)) := Lib.hid (by
    intro w2 A' n' c' l' br' h1 h2 h3 h4 h5
    have gg := grownBy_setCell w2 g 0 (.slice A' n' c')
    have hsz := h1.size
    have hsz2 := gg.size
    refine ⟨⟨A', n', c', X, h5.set_ 0 _, h2, h3, fun a ha => ?_, row_block HX.out (fun a ha => ?_), fun W hW => h4 W (HAA.out W hW)⟩, (Chg.of_below h1).trans (Chg.of_grown gg ?_)⟩
    · have := HR.out a ha; omega
    · have := HR.out a ha
      exact (gg.block _ (by omega) (by intro q; injection q with q; omega)).trans (h1.block _ this.2)
    · intro i hi
      injection hi with hi
      exact hi.symm)
  clear hA hX hR hB hl
  cases br with
  | true =>
    go_enter Try.func38, Try.ntmps38
    go_wp2
    go_ret2
    exact ⟨none, 0, 0, rfl, Lib.hid rfl, Row.nil _ _, HS.out, Chg.refl _ _⟩
  | false =>
    rcases FrmM.sz_cases l with h | h | h
    · have e : FrmM.nxt l false = ([], l, false, 7) := by unfold FrmM.nxt; rw [if_neg (by simp), if_neg (by omega), if_neg (by omega)]
      rw [e]
      have hno := refnext_no A n c l w HA.out hnc (by omega) hra.out (by omega)
      rw [h] at hno
      have HNO := Lib.hid hno
      clear hno h
      go_enter Try.func38, Try.ntmps38
      go_wp2_with fail
      refine HNO.out.mono ?_
      rintro e w1 ⟨rfl, b1⟩
      have hB1 := (HW.out w1 b1).out
      have d0 := hB1.cell 0
      have k0 := hB1.frozen 0
      simp only [List.getElem?_toArray, List.getElem?_cons_zero] at d0
      have K1 := Lib.hid (KR.out w1 A n c l false b1 HA.out hnc (fun W h => h) hB1)
      clear c0 c1 hB1 b1 HNO
      go_wp2
      go_ret2
      exact ⟨none, 0, 0, rfl, Lib.hid rfl, Row.nil _ _, K1.out.1, K1.out.2⟩
    · have e : FrmM.nxt l false = ([], [], true, 3) := by unfold FrmM.nxt; rw [if_neg (by simp), if_neg (by omega), if_pos h]
      rw [e]
      have hno := refnext_no A n c l w HA.out hnc (by omega) hra.out (by omega)
      rw [h] at hno
      have HNO := Lib.hid hno
      clear hno h
      go_enter Try.func38, Try.ntmps38
      go_wp2_with fail
      refine HNO.out.mono ?_
      rintro e w1 ⟨rfl, b1⟩
      have hB1 := (HW.out w1 b1).out
      have d0 := hB1.cell 0
      have d1 := hB1.cell 1
      have k0 := hB1.frozen 0
      have k1 := hB1.frozen 1
      simp only [List.getElem?_toArray, List.getElem?_cons_zero, List.getElem?_cons_succ] at d0 d1
      have HB1 := Lib.hid hB1
      have HQ1 := Lib.hid b1
      clear c0 c1 hB1 b1 HNO
      go_wp2
      go_ret2
      have g0 := grownBy_setCell w1 g 1 (.bool true)
      have g1 := grownBy_setCell (w1.setCell ⟨g, 1, none⟩ (.bool true)) g 0 (.slice none 0 0)
      have hsz := HQ1.out.size
      have hsz0 := g0.size
      have hsz1 := g1.size
      refine ⟨none, 0, 0, rfl, Lib.hid rfl, Row.nil _ _, ⟨none, 0, 0, [], (HB1.out.set_ 1 _).set_ 0 _, rfl, Nat.le_refl _, fun a ha => ?_, Row.nil _ _, fun W _ => Row.nil _ _⟩, ((Chg.of_below HQ1.out).trans (Chg.of_grown g0 ?_)).trans (Chg.of_grown g1 ?_)⟩
      · have := HR.out a ha; omega
      · intro i hi
        injection hi with hi
        exact hi.symm
      · intro i hi
        injection hi with hi
        exact hi.symm
    · have e : FrmM.nxt l false = ((l.drop 4).take (FrmM.sz l).1, l.drop (4 + (FrmM.sz l).1), false, 0) := by unfold FrmM.nxt; rw [if_neg (by simp), if_pos h.1]
      rw [e]
      have hok := refnext_ok A n c l w HA.out hnc (by omega) hra.out h.1
      obtain ⟨z, hz⟩ : ∃ z, (FrmM.sz l).1 = z := ⟨_, rfl⟩
      rw [hz] at hok h ⊢
      have HOK := Lib.hid hok
      have HPL : Hid (((l.drop 4).take z).length = z) := Lib.hid (by rw [List.length_take, List.length_drop]; omega)
      have HDL : Hid ((l.drop (4 + z)).length = n - (4 + z)) := Lib.hid (by rw [List.length_drop, HA.out])
      clear hok h hz
      go_enter Try.func38, Try.ntmps38
      go_wp2_with fail
      refine HOK.out.mono ?_
      rintro e w1 ⟨A1, c1, A2, c2, rfl, hc2, hrr, b1⟩
      have hB1 := (HW.out w1 b1).out
      have d0 := hB1.cell 0
      have k0 := hB1.frozen 0
      simp only [List.getElem?_toArray, List.getElem?_cons_zero] at d0
      have K1 := Lib.hid (KR.out w1 A2 _ c2 _ false b1 HDL.out hc2.out (fun W hW => (hrr W hW).2) hB1)
      have RR := Lib.hid hrr
      clear hB1 b1 HOK hrr
      go_wp2
      go_ret2
      refine ⟨A1, z, c1, rfl, HPL, (RR.out _ ?_).1, K1.out.1, K1.out.2⟩
      obtain ⟨A9, n9, c9, X9, _, _, _, h9, h10, h11⟩ := HS.out
      have gg := K1.out.2
      exact HAA.out _ (row_block HX.out (fun a ha => by have := HR.out a ha; exact gg.block _ this.2 (by intro q; have q : a.block = g := q; omega)))
end Go.Proofs.Ytgcognefggbpjaa
