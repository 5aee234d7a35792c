/-
  A stream: a new one, what is fed, what comes next, how much it holds.
  Conditions: the stream lies in a block of its own, its bytes in another; their number is bounded.
-/
import Derived.Test.YtgcognefggbpjaaFrmW2
namespace Go.Proofs.Ytgcognefggbpjaa
open Go.RowKit Go.Sort Go.Lib
set_option linter.unusedVariables false
/-- Of what was there just these blocks may have changed. -/
structure Chg (w w' : World) (P : Nat → Prop) : Prop where
  os : w'.os = w.os
  tape : w'.tape = w.tape
  output : w'.output = w.output
  size : w.heap.size ≤ w'.heap.size
  block : ∀ i, i < w.heap.size → ¬ P i → w'.heap[i]? = w.heap[i]?
section
variable {w w1 w' : World} {P : Nat → Prop} {base g : Nat}
theorem Chg.refl (w : World) (P : Nat → Prop) : Chg w w P := ⟨rfl, rfl, rfl, Nat.le_refl _, fun _ _ _ => rfl⟩
theorem Chg.trans (h : Chg w w1 P) (k : Chg w1 w' P) : Chg w w' P :=
  ⟨k.os.trans h.os, k.tape.trans h.tape, k.output.trans h.output, Nat.le_trans h.size k.size, fun i hi hp => (k.block i (Nat.lt_of_lt_of_le hi h.size) hp).trans (h.block i hi hp)⟩
theorem Chg.of_below (h : Below w.heap.size w w') : Chg w w' P := ⟨h.os, h.tape, h.output, h.size, fun i hi _ => h.block i hi⟩
theorem Chg.of_grown {row : Option Nat} (h : w.grownBy w' row) (hp : ∀ i, row = some i → P i) : Chg w w' P :=
  ⟨h.os, h.tape, h.output, h.size, fun i hi hn => h.block i hi (fun e => hn (hp i e.symm))⟩
theorem Chg.below {B : Nat} {w0 : World} (h : Chg w w' P) (hb : Below B w0 w) (hs : B ≤ w.heap.size) (hp : ∀ i, P i → B ≤ i) : Below B w0 w' :=
  ⟨h.os.trans hb.os, h.tape.trans hb.tape, h.output.trans hb.output, Nat.le_trans hb.size h.size, fun i hi => (h.block i (Nat.lt_of_lt_of_le hi hs) (fun q => by have := hp i q; omega)).trans (hb.block i hi)⟩
end
/-- The stream in block g: its bytes l in the slice A, its error e. -/
def StrAt (w : World) (g : Nat) (A : Option Addr) (l : List UInt8) (e : Nat) : Prop := ∃ n c, Blk w g 95 #[.int .i64 (e : Int), .slice A n c] ∧ FBuf w (g + 1) A n c l
/-- The blocks that a stream's methods may change. -/
def StrP (g : Nat) (A : Option Addr) (i : Nat) : Prop := i = g ∨ ∃ a, A = some a ∧ a.block = i
theorem StrAt.lt {w : World} {g : Nat} {A : Option Addr} {l : List UInt8} {e : Nat} (h : StrAt w g A l e) : g < w.heap.size := by
  obtain ⟨n, c, hB, _⟩ := h
  exact hB.lt
theorem StrAt.ge {w : World} {g : Nat} {A : Option Addr} {l : List UInt8} {e : Nat} (h : StrAt w g A l e) {i : Nat} (hi : StrP g A i) : g ≤ i := by
  obtain ⟨n, c, hB, _, _, _, hb, _⟩ := h
  rcases hi with rfl | ⟨a, ha, rfl⟩
  · exact Nat.le_refl _
  · have := hb a ha; omega
theorem StrAt.chg {w w' : World} {g : Nat} {A : Option Addr} {l : List UInt8} {e : Nat} {P : Nat → Prop} (h : StrAt w g A l e) (hc : Chg w w' P) (hg : ¬ P g) (ha : ∀ a, A = some a → ¬ P a.block) : StrAt w' g A l e := by
  obtain ⟨n, c, hB, hF⟩ := h
  have h1 := hc.block g hB.lt hg
  refine ⟨n, c, ?_, ?_⟩
  · unfold Blk at hB ⊢; rw [h1]; exact hB
  · rcases hF.lt with h0 | ⟨gb, o, e', _, hlt⟩
    · obtain ⟨f1, f2, f3, f4, f5⟩ := hF
      exact ⟨f1, f2, f3, f4, .inl h0⟩
    · exact hF.same hc.size (fun a haa => by
        have e2 := e'.symm.trans haa
        injection e2 with e2
        exact hc.block a.block (by rw [← e2]; exact hlt) (ha a haa))
theorem new_any (w : World) : Calls Try.prog 34 #[] w fun e w' => e = .returned (.pointer (some ⟨w.heap.size, 0, none⟩)) ∧ StrAt w' w.heap.size none [] 0 ∧ Below w.heap.size w w' ∧ w'.heap.size = w.heap.size + 1 := by
  go_enter Try.func34, Try.ntmps34
  go_wp2
  go_ret
  exact ⟨rfl, ⟨0, 0, Blk.new w _ _, FBuf.none_ _ _⟩, (Below.refl _ _).alloc (Nat.le_refl _) _, by simp⟩
/-- What feeding leaves. -/
def Fed (w : World) (g : Nat) (A : Option Addr) (l : List UInt8) (e : Ending) (w' : World) : Prop := ∃ A', e = .returned (.int .i64 0) ∧ StrAt w' g A' l 0 ∧ Chg w w' (StrP g A) ∧ ∀ a, A' = some a → (∃ a0, A = some a0 ∧ a.block = a0.block) ∨ w.heap.size ≤ a.block
set_option maxRecDepth 100000 in
theorem feed_ok (g : Nat) (A A2 : Option Addr) (k c2 : Nat) (l m : List UInt8) (w : World) (hs : StrAt w g A l 0) (hk : m.length = k) (hr : Row w A2 (bs m)) (hlen : l.length + k ≤ 140737488355328) :
    Calls Try.prog 35 #[.pointer (some ⟨g, 0, none⟩), .slice A2 k c2] w (Fed w g A (l ++ m)) := by
  obtain ⟨n, c, hB, hF⟩ := hs
  have hn := hF.1
  have c0 := hB.cell 0
  have c1 := hB.cell 1
  have f1 := hB.frozen 1
  simp only [List.getElem?_toArray, List.getElem?_cons_zero, List.getElem?_cons_succ] at c0 c1
  have HB := Lib.hid hB
  have HF := Lib.hid hF
  rw [hn] at hlen
  clear hF hn
  go_enter Try.func35, Try.ntmps35
  go_wp2_with (at_builtin; refine wpl_appF w rfl (.tmp 17) (.tmp 18) rfl (g + 1) A n c l rfl HF.out A2 c2 m k rfl hk hr hlen (by have := HB.out.lt; omega) ?_)
  intro A' c' w1 h1 hg1 ha1
  have hne : some g ≠ A.map (·.block) := by
    intro q
    cases A with
    | none => cases q
    | some a => injection q with q; have q2 : g = a.block := q; have := HF.out.2.2.2.1 a rfl; omega
  have hB1 := HB.out.grown hg1 hne
  have d0 := hB1.cell 0
  have d1 := hB1.cell 1
  have k1 := hB1.frozen 1
  simp only [List.getElem?_toArray, List.getElem?_cons_zero, List.getElem?_cons_succ] at d0 d1
  have HB1 := Lib.hid hB1
  clear hB1 c0 c1 f1 hB
  go_wp2
  go_ret
  have gg := grownBy_setCell w1 g 1 (.slice A' (n + k) c')
  refine ⟨A', rfl, ⟨n + k, c', HB1.out.set_ 1 _, ?_⟩, (Chg.of_grown hg1 ?_).trans (Chg.of_grown gg ?_), ha1⟩
  · rcases h1.lt with h0 | ⟨gb, o, e', hge, hlt⟩
    · obtain ⟨q1, q2, q3, q4, q5⟩ := h1
      exact ⟨q1, q2, q3, q4, .inl h0⟩
    · exact h1.same gg.size (fun a ha => gg.block _ (by have e2 := e'.symm.trans ha; injection e2 with e2; rw [← e2]; exact hlt) (by have := h1.2.2.2.1 a ha; intro q; injection q with q; omega))
  · intro i hi
    cases A with
    | none => cases hi
    | some a => injection hi with hi; exact .inr ⟨a, rfl, hi⟩
  · intro i hi
    injection hi with hi
    exact .inl hi.symm
theorem Chg.imp {w w' : World} {P Q : Nat → Prop} (h : Chg w w' P) (hi : ∀ i, P i → Q i) : Chg w w' Q := ⟨h.os, h.tape, h.output, h.size, fun i h1 h2 => h.block i h1 (fun q => h2 (hi i q))⟩
set_option maxRecDepth 100000 in
theorem next_none (g : Nat) (A : Option Addr) (l : List UInt8) (w : World) (hs : StrAt w g A l 0) (hlen : l.length ≤ 140737488355328) (hz : (FrmM.sz l).2 = 7) :
    Calls Try.prog 37 #[.pointer (some ⟨g, 0, none⟩)] w fun e w' => e = .returned (.tuple #[.slice none 0 0, .int .i64 7]) ∧ Below w.heap.size w w' := by
  obtain ⟨n, c, hB, hF⟩ := hs
  have hn := hF.1
  have c0 := hB.cell 0
  have c1 := hB.cell 1
  simp only [List.getElem?_toArray, List.getElem?_cons_zero, List.getElem?_cons_succ] at c0 c1
  go_enter Try.func37, Try.ntmps37
  go_wp2_with fail
  refine (framesize_any A n c l w hn hF.row (by omega)).mono ?_
  rw [hz]
  rintro e w1 ⟨rfl, hb⟩
  go_wp2
  go_ret2
  exact ⟨rfl, hb⟩
set_option maxRecDepth 100000 in
theorem next_long (g : Nat) (A : Option Addr) (l : List UInt8) (w : World) (hs : StrAt w g A l 0) (hlen : l.length ≤ 140737488355328) (hz : (FrmM.sz l).2 = 3) :
    Calls Try.prog 37 #[.pointer (some ⟨g, 0, none⟩)] w fun e w' => e = .returned (.tuple #[.slice none 0 0, .int .i64 3]) ∧ StrAt w' g none [] 3 ∧ Chg w w' (StrP g A) := by
  obtain ⟨n, c, hB, hF⟩ := hs
  have hn := hF.1
  have c0 := hB.cell 0
  have c1 := hB.cell 1
  simp only [List.getElem?_toArray, List.getElem?_cons_zero, List.getElem?_cons_succ] at c0 c1
  go_enter Try.func37, Try.ntmps37
  go_wp2_with fail
  refine (framesize_any A n c l w hn hF.row (by omega)).mono ?_
  rw [hz]
  rintro e w1 ⟨rfl, hb⟩
  have hB1 := hB.below hb hB.lt
  have f0 := hB1.frozen 0
  have f1 := hB1.frozen 1
  have d0 := hB1.cell 0
  have d1 := hB1.cell 1
  simp only [List.getElem?_toArray, List.getElem?_cons_zero, List.getElem?_cons_succ] at d0 d1
  have HB1 := Lib.hid hB1
  clear hB1 c0 c1 hB hF
  go_wp2
  go_ret2
  have g0 := grownBy_setCell w1 g 0 (.int .i64 3)
  have g1 := grownBy_setCell (w1.setCell ⟨g, 0, none⟩ (.int .i64 3)) g 1 (.slice none 0 0)
  refine ⟨rfl, ⟨0, 0, (HB1.out.set_ 0 _).set_ 1 _, FBuf.none_ _ _⟩, ((Chg.of_below hb).trans (Chg.of_grown g0 ?_)).trans (Chg.of_grown g1 ?_)⟩ <;> (intro i hi; injection hi with hi; exact .inl hi.symm)
/-- What the next frame leaves. -/
def Nxt (w : World) (g : Nat) (A : Option Addr) (p rest : List UInt8) (e : Ending) (w' : World) : Prop := ∃ A' B n c, e = .returned (.tuple #[.slice B n c, .int .i64 0]) ∧ Hid (p.length = n) ∧ Own w' w.heap.size B c p ∧ StrAt w' g A' rest 0 ∧ Chg w w' (StrP g A) ∧ (∀ a, A' = some a → ∃ a0, A = some a0 ∧ a.block = a0.block)
theorem Own.kept1 {w w' : World} {base : Nat} {A : Option Addr} {c : Nat} {l : List UInt8} {g : Nat} (h : Own w base A c l) (hg : w.grownBy w' (some g)) (hlt : g < base) : Own w' base A c l := by
  refine World.ownsRow.kept h hg ?_
  rcases h.2 with ⟨hv, hn⟩ | ⟨g', cap, cur, hv, hb, _⟩
  · left; injection hv with e; rw [e]; rfl
  · right; injection hv with e; rw [e]; simp only [Value.ownBlock]; intro q; injection q with q; omega
theorem clone_len (A : Option Addr) (c n : Nat) (l : List UInt8) (w : World) (hr : Row w A (bs l)) (hl : l.length = n) (hc : n ≤ 140737488355328) :
    Calls Try.prog 57 #[.slice A n c] w (NewB l w) := by
  subst hl; exact clone_any A c l w hr hc
set_option maxRecDepth 100000 in
set_option maxHeartbeats 1000000 in
theorem next_ok (g : Nat) (A : Option Addr) (l : List UInt8) (w : World) (hs : StrAt w g A l 0) (hlen : l.length ≤ 140737488355328) (hz : (FrmM.sz l).2 = 0) :
    Calls Try.prog 37 #[.pointer (some ⟨g, 0, none⟩)] w (Nxt w g A ((l.drop 4).take (FrmM.sz l).1) (l.drop (4 + (FrmM.sz l).1))) := by
  obtain ⟨hz1, hz2⟩ : (FrmM.sz l).1 ≤ 20000 ∧ 4 + (FrmM.sz l).1 ≤ l.length := by
    rcases FrmM.sz_cases l with h | h | h
    · omega
    · omega
    · exact h.2
  obtain ⟨n, c, hB, hF⟩ := hs
  have hn := hF.1
  have hnc := hF.2.1
  have hcm := hF.2.2.1
  obtain ⟨gb, o, rfl, hgb, hgl⟩ : ∃ gb o, A = some ⟨gb, o, none⟩ ∧ g + 1 ≤ gb ∧ gb < w.heap.size := by
    rcases hF.lt with h | h
    · omega
    · exact h
  have c0 := hB.cell 0
  have c1 := hB.cell 1
  simp only [List.getElem?_toArray, List.getElem?_cons_zero, List.getElem?_cons_succ] at c0 c1
  obtain ⟨k, hk⟩ : ∃ k, (FrmM.sz l).1 = k := ⟨_, rfl⟩
  have hfs := framesize_any (some ⟨gb, o, none⟩) n c l w hn hF.row (by omega)
  rw [hz, hk] at hfs
  rw [hk] at hz1 hz2 ⊢
  clear hk hz
  have HK1 := Lib.hid ((hF.cut 4 (by omega)).1)
  have HK2 : Hid (FBuf w (g + 1) (some ⟨gb, o + 4, none⟩) (n - 4) (c - 4) (l.drop 4)) := Lib.hid (by simpa [Addr.add_lit] using (hF.cut 4 (by omega)).2)
  have HL1 := Lib.hid ((hF.cut (4 + k) (by omega)).1)
  have HL2 : Hid (FBuf w (g + 1) (some ⟨gb, o + (4 + k), none⟩) (n - (4 + k)) (c - (4 + k)) (l.drop (4 + k))) := Lib.hid (by simpa [Addr.add_lit] using (hF.cut (4 + k) (by omega)).2)
  have HPL : Hid (((l.drop 4).take k).length = k) := Lib.hid (by rw [List.length_take, List.length_drop]; omega)
  have HB := Lib.hid hB
  have HF := Lib.hid hF
  rw [hn] at hz2 hlen
  unfold maxLen at hcm
  clear hF hn hB
  go_enter Try.func37, Try.ntmps37
  go_wp2_with fail
  refine hfs.mono ?_
  rintro e w1 ⟨rfl, hb⟩
  have hB1 := HB.out.below hb HB.out.lt
  have d0 := hB1.cell 0
  have d1 := hB1.cell 1
  simp only [List.getElem?_toArray, List.getElem?_cons_zero, List.getElem?_cons_succ] at d0 d1
  have HB1 := Lib.hid hB1
  have HBB := Lib.hid hb
  clear hB1 c0 c1 hfs
  have CR : Hid (∀ (A' : Option Addr) (n' c' : Nat) (l' : List UInt8) (w2 : World) (v : Value), FBuf w (g + 1) A' n' c' l' → (∀ a, A' = some a → a.block = gb) → Below w.heap.size w w2 → Blk w2 g 95 #[.int .i64 0, .slice (some ⟨gb, o, none⟩) n c] → FBuf (w2.setCell ⟨g, 1, none⟩ v) (g + 1) A' n' c' l') := Lib.hid (by
    intro A' n' c' l' w2 v h1 h2 h3 h4
    have gg := grownBy_setCell w2 g 1 v
    refine h1.same (Nat.le_trans h3.size gg.size) (fun a ha => ?_)
    have := h2 a ha
    rw [gg.block a.block (by have := h3.size; omega) (by intro q; injection q with q; omega)]
    exact h3.block _ (by omega))
  have hgs := HB.out.lt
  clear hb hgl
  go_wp2_with fail
  · have hc4 : c = 4 := by assumption
    refine (clone_len (some ⟨gb, o, none⟩) 0 k ((l.drop 4).take k) w1 (by rw [bs_take]; exact ((HK1.out hc4).row.below HBB.out).take k) HPL.out (by omega)).mono ?_
    rintro e w2 ⟨B1, nb, cb, rfl, hnb, ob, b2⟩
    have hB2 := Lib.hid (HB1.out.below b2 HB1.out.lt)
    have x0 := hB2.out.cell 0
    have x1 := hB2.out.cell 1
    have y1 := hB2.out.frozen 1
    simp only [List.getElem?_toArray, List.getElem?_cons_zero, List.getElem?_cons_succ] at x0 x1
    have BB := Lib.hid (below_step HBB.out b2 (Nat.le_refl _))
    have OB := Lib.hid ob
    have hs2 := HBB.out.size
    clear ob b2 d0 d1
    go_wp2
    all_goals go_ret2
    all_goals (first
      | exact ⟨some ⟨gb, o, none⟩, B1, nb, cb, rfl, hnb, (OB.out.kept1 (grownBy_setCell w2 g 1 _) (by omega)).base_ hs2, ⟨_, _, hB2.out.set_ 1 _, CR.out _ _ _ _ _ _ (HL1.out (by omega)) (by intro a ha; cases ha; rfl) BB.out hB2.out⟩, (Chg.of_below BB.out).trans (Chg.of_grown (grownBy_setCell w2 g 1 _) (by intro i hi; injection hi with hi; exact .inl hi.symm)), (by intro a ha; exact ⟨a, ha, rfl⟩)⟩
      | exact ⟨some ⟨gb, o + (4 + k), none⟩, B1, nb, cb, rfl, hnb, (OB.out.kept1 (grownBy_setCell w2 g 1 _) (by omega)).base_ hs2, ⟨_, _, hB2.out.set_ 1 _, CR.out _ _ _ _ _ _ HL2.out (by intro a ha; cases ha; rfl) BB.out hB2.out⟩, (Chg.of_below BB.out).trans (Chg.of_grown (grownBy_setCell w2 g 1 _) (by intro i hi; injection hi with hi; exact .inl hi.symm)), (by intro a ha; cases ha; exact ⟨_, rfl, rfl⟩)⟩)
  · refine (clone_len (some ⟨gb, o + 4, none⟩) (c - 4) k ((l.drop 4).take k) w1 (by rw [bs_take]; exact (HK2.out.row.below HBB.out).take k) HPL.out (by omega)).mono ?_
    rintro e w2 ⟨B1, nb, cb, rfl, hnb, ob, b2⟩
    have hB2 := Lib.hid (HB1.out.below b2 HB1.out.lt)
    have x0 := hB2.out.cell 0
    have x1 := hB2.out.cell 1
    have y1 := hB2.out.frozen 1
    simp only [List.getElem?_toArray, List.getElem?_cons_zero, List.getElem?_cons_succ] at x0 x1
    have BB := Lib.hid (below_step HBB.out b2 (Nat.le_refl _))
    have OB := Lib.hid ob
    have hs2 := HBB.out.size
    clear ob b2 d0 d1
    go_wp2
    all_goals go_ret2
    all_goals (first
      | exact ⟨some ⟨gb, o, none⟩, B1, nb, cb, rfl, hnb, (OB.out.kept1 (grownBy_setCell w2 g 1 _) (by omega)).base_ hs2, ⟨_, _, hB2.out.set_ 1 _, CR.out _ _ _ _ _ _ (HL1.out (by omega)) (by intro a ha; cases ha; rfl) BB.out hB2.out⟩, (Chg.of_below BB.out).trans (Chg.of_grown (grownBy_setCell w2 g 1 _) (by intro i hi; injection hi with hi; exact .inl hi.symm)), (by intro a ha; exact ⟨a, ha, rfl⟩)⟩
      | exact ⟨some ⟨gb, o + (4 + k), none⟩, B1, nb, cb, rfl, hnb, (OB.out.kept1 (grownBy_setCell w2 g 1 _) (by omega)).base_ hs2, ⟨_, _, hB2.out.set_ 1 _, CR.out _ _ _ _ _ _ HL2.out (by intro a ha; cases ha; rfl) BB.out hB2.out⟩, (Chg.of_below BB.out).trans (Chg.of_grown (grownBy_setCell w2 g 1 _) (by intro i hi; injection hi with hi; exact .inl hi.symm)), (by intro a ha; cases ha; exact ⟨_, rfl, rfl⟩)⟩)
end Go.Proofs.Ytgcognefggbpjaa
