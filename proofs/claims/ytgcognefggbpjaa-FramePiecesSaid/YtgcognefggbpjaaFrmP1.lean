/-
  A stream of the program, whole or broken: what feeding it, asking it for the next frame and for how much it holds does; a stream that is not there.
  Conditions: the stream lies in a block of its own, its bytes in another; their number is bounded.
-/
import Derived.Test.YtgcognefggbpjaaFrmW4
namespace Go.Proofs.Ytgcognefggbpjaa
open Go.RowKit Go.Sort Go.Lib
set_option linter.unusedVariables false
namespace FrmM
def err (br : Bool) : Nat := if br then 3 else 0
def fed (l : List UInt8) (br : Bool) (m : List UInt8) : List UInt8 := if br then l else l ++ m
/-- What the next call answers, what is left, whether it is broken, the error. -/
def nxt (l : List UInt8) (br : Bool) : List UInt8 × List UInt8 × Bool × Nat :=
  if br then ([], l, true, 3) else if (sz l).2 = 0 then ((l.drop 4).take (sz l).1, l.drop (4 + (sz l).1), false, 0) else if (sz l).2 = 3 then ([], [], true, 3) else ([], l, false, 7)
theorem nxt_len (l : List UInt8) (br : Bool) : (nxt l br).2.1.length ≤ l.length := by
  unfold nxt
  split
  · exact Nat.le_refl _
  · split
    · show (l.drop _).length ≤ _
      rw [List.length_drop]; omega
    · split
      · exact Nat.zero_le _
      · exact Nat.le_refl _
theorem nxt_ok (l : List UInt8) (br : Bool) (h : br = true → l = []) : (nxt l br).2.2.1 = true → (nxt l br).2.1 = [] := by
  unfold nxt
  split
  · intro _; exact h (by assumption)
  · split
    · intro q; cases q
    · split
      · intro _; rfl
      · intro q; cases q
theorem fed_len (l : List UInt8) (br : Bool) (m : List UInt8) : (fed l br m).length ≤ l.length + m.length := by
  unfold fed
  split
  · omega
  · rw [List.length_append]; exact Nat.le_refl _
theorem fed_ok (l : List UInt8) (br : Bool) (m : List UInt8) (h : br = true → l = []) : br = true → fed l br m = [] := by
  intro q
  unfold fed
  rw [if_pos q]; exact h q
theorem nxt_plen (l : List UInt8) (br : Bool) : (nxt l br).1.length ≤ 20000 := by
  unfold nxt
  split
  · exact Nat.zero_le _
  · split
    · rename_i h
      show (List.take _ _).length ≤ _
      rw [List.length_take]
      rcases sz_cases l with h1 | h1 | h1 <;> omega
    · split
      · exact Nat.zero_le _
      · exact Nat.zero_le _
end FrmM
theorem StrAt.form {w : World} {g : Nat} {A : Option Addr} {l : List UInt8} {e : Nat} (h : StrAt w g A l e) : ∃ c, Blk w g 95 #[.int .i64 (e : Int), .slice A l.length c] := by
  obtain ⟨n, c, hB, hF⟩ := h
  have := hF.1
  subst this
  exact ⟨c, hB⟩
theorem run_app_buf2 {w : World} {base n c : Nat} {A : Option Addr} {l : List UInt8} (ty : TypeId) (h : FBuf w base A n c l) {k c2 : Nat} {A2 : Option Addr} {m : List UInt8} (hk : m.length = k) (hr : Row w A2 (bs m)) (hlen : n + k ≤ 140737488355328) (hbase : base ≤ w.heap.size) (hal : ∀ a, A = some a → a.block < w.heap.size) :
    ∃ A' c' w', (Builtin.append_ #[22, 22] ty #[.slice A n c, .slice A2 k c2]).run Try.prog w = .ok (.slice A' (n + k) c') w' ∧ FBuf w' base A' (n + k) c' (l ++ m) ∧ w.grownBy w' (A.map (·.block)) ∧
      (∀ a, A' = some a → ((∃ a0, A = some a0 ∧ a.block = a0.block) ∨ w.heap.size ≤ a.block) ∧ a.block < w'.heap.size) := by
  by_cases h0 : n + k = 0
  · obtain rfl : n = 0 := by omega
    obtain rfl : k = 0 := by omega
    obtain ⟨i0, hi0, hz0, hz1, hz2⟩ := info_parts info_u8
    have hsz : i0.size = 1 := hz1
    have hm : m = [] := List.eq_nil_of_length_eq_zero hk
    subst hm
    have hs := src_row (c2 := c2) hk hr
    refine ⟨A, c, w, ?_, by rw [List.append_nil]; exact h, World.grownBy.refl _ _, fun a ha => ⟨.inl ⟨a, ha, rfl⟩, hal a ha⟩⟩
    exact run_append_nothing (P := Try.prog) w 22 22 ty 5 i0 Try.underlying22 hi0 A 0 c (Nat.zero_le _) _ (by rw [hsz]; exact hs)
  · obtain ⟨A', c', w', h1, h2, h3, h4⟩ := run_app_buf w ty h hk hr hlen hbase (c2 := c2)
    refine ⟨A', c', w', h1, h2, h3, fun a ha => ⟨h4 a ha, ?_⟩⟩
    rcases h2.lt with h5 | ⟨g, o, e, _, h5⟩
    · have := h2.2.1; omega
    · have e2 := e.symm.trans ha
      injection e2 with e2
      rw [← e2]; exact h5
/-- append upon such a slice; the block that it leaves is there. -/
theorem wpl_appF2 (w : World) {ops : Array Oper} {rest : List Oper} {o : Oper} {a : Act} {Q : Exit → Act → World → Prop} (hgd : Region.wanted o (yielded ops a.tmps) = true) (s x : Operand)
    (ho : o.op = .call { callee := .builtin .append, args := #[s, x], argTypes := #[22, 22] })
    (base : Nat) (A : Option Addr) (n c : Nat) (l : List UInt8) (hs : a.eval s = .slice A n c) (hown : FBuf w base A n c l)
    (A2 : Option Addr) (c2 : Nat) (m : List UInt8) (k : Nat) (hx : a.eval x = .slice A2 k c2) (hk : m.length = k) (hr : Row w A2 (bs m))
    (hlen : n + k ≤ 140737488355328) (hbase : base ≤ w.heap.size) (hal : ∀ a, A = some a → a.block < w.heap.size)
    (h : ∀ A' c' w', FBuf w' base A' (n + k) c' (l ++ m) → w.grownBy w' (A.map (·.block)) → (∀ a, A' = some a → ((∃ a0, A = some a0 ∧ a.block = a0.block) ∨ w.heap.size ≤ a.block) ∧ a.block < w'.heap.size) →
      wpList Try.prog ops Q rest (a.put o.dst (.slice A' (n + k) c')) w') : wpList Try.prog ops Q (o :: rest) a w :=
  wpList_step fun _ hK => by
    rw [if_pos hgd]
    obtain ⟨A', c', w', hrun, h2, h3, h4⟩ := run_app_buf2 o.type hown hk hr hlen hbase hal (c2 := c2)
    unfold Oper.wp execOp
    simp only [ho, resolve, invoke, builtin, Sem.run_bind, Sem.run_pure, Result.andThen_ok, List.map_toArray, List.map_cons, List.map_nil, hs, hx, hrun]
    exact hK _ _ (h A' c' w' h2 h3 h4)
/-- What feeding leaves, whole or broken. -/
def FedA (w : World) (g : Nat) (A : Option Addr) (l : List UInt8) (br : Bool) (e : Ending) (w' : World) : Prop := ∃ A', e = .returned (.int .i64 (FrmM.err br : Nat)) ∧ StrAt w' g A' l (FrmM.err br) ∧ Chg w w' (StrP g A) ∧ ∀ a, A' = some a → ((∃ a0, A = some a0 ∧ a.block = a0.block) ∨ w.heap.size ≤ a.block) ∧ a.block < w'.heap.size
set_option maxRecDepth 100000 in
theorem feed_ok2 (g : Nat) (A A2 : Option Addr) (k c2 : Nat) (l m : List UInt8) (w : World) (hs : StrAt w g A l 0) (hk : m.length = k) (hr : Row w A2 (bs m)) (hlen : l.length + k ≤ 140737488355328) (hal : ∀ a, A = some a → a.block < w.heap.size) :
    Calls Try.prog 35 #[.pointer (some ⟨g, 0, none⟩), .slice A2 k c2] w (FedA w g A (l ++ m) false) := by
  obtain ⟨n, c, hB, hF⟩ := hs
  have hn := hF.1
  have c0 := hB.cell 0
  have c1 := hB.cell 1
  have f1 := hB.frozen 1
  simp only [List.getElem?_toArray, List.getElem?_cons_zero, List.getElem?_cons_succ] at c0 c1
  have HB := Lib.hid hB
  have HF := Lib.hid hF
  rw [hn] at hlen
  have HAL := Lib.hid hal
  clear hF hn hal
  go_enter Try.func35, Try.ntmps35
  go_wp2_with (at_builtin; refine wpl_appF2 w rfl (.tmp 17) (.tmp 18) rfl (g + 1) A n c l rfl HF.out A2 c2 m k rfl hk hr hlen (by have := HB.out.lt; omega) HAL.out ?_)
  intro A' c' w1 h1 hg1 ha1
  have hne : some g ≠ A.map (·.block) := by
    intro q
    cases A with
    | none => cases q
    | some a => injection q with q; have q2 : g = a.block := q; have := HF.out.2.2.2.1 a rfl; omega
  have hB1 := HB.out.grown hg1 hne
  have d0 := hB1.cell 0
  have d1 := hB1.cell 1
  have k1 := hB1.frozen 1
  simp only [List.getElem?_toArray, List.getElem?_cons_zero, List.getElem?_cons_succ] at d0 d1
  have HB1 := Lib.hid hB1
  clear hB1 c0 c1 f1 hB
  go_wp2
  go_ret
  have gg := grownBy_setCell w1 g 1 (.slice A' (n + k) c')
  refine ⟨A', rfl, ⟨n + k, c', HB1.out.set_ 1 _, ?_⟩, (Chg.of_grown hg1 ?_).trans (Chg.of_grown gg ?_), fun a ha => ⟨(ha1 a ha).1, Nat.lt_of_lt_of_le (ha1 a ha).2 gg.size⟩⟩
  · rcases h1.lt with h0 | ⟨gb, o, e', hge, hlt⟩
    · obtain ⟨q1, q2, q3, q4, q5⟩ := h1
      exact ⟨q1, q2, q3, q4, .inl h0⟩
    · exact h1.same gg.size (fun a ha => gg.block _ (by have e2 := e'.symm.trans ha; injection e2 with e2; rw [← e2]; exact hlt) (by have := h1.2.2.2.1 a ha; intro q; injection q with q; omega))
  · intro i hi
    cases A with
    | none => cases hi
    | some a => injection hi with hi; exact .inr ⟨a, rfl, hi⟩
  · intro i hi
    injection hi with hi
    exact .inl hi.symm
set_option maxRecDepth 100000 in
theorem feed_any (g : Nat) (A A2 : Option Addr) (k c2 : Nat) (l m : List UInt8) (br : Bool) (w : World) (hs : StrAt w g A l (FrmM.err br)) (hk : m.length = k) (hr : Row w A2 (bs m)) (hlen : l.length + k ≤ 140737488355328) (hal : ∀ a, A = some a → a.block < w.heap.size) :
    Calls Try.prog 35 #[.pointer (some ⟨g, 0, none⟩), .slice A2 k c2] w (FedA w g A (FrmM.fed l br m) br) := by
  cases br with
  | false => exact feed_ok2 g A A2 k c2 l m w hs hk hr hlen hal
  | true =>
    have hs' := Lib.hid hs
    have HAL := Lib.hid hal
    obtain ⟨c, hB⟩ := hs.form
    have c0 := hB.cell 0
    simp only [List.getElem?_toArray, List.getElem?_cons_zero] at c0
    have e3 : (FrmM.err true : Nat) = 3 := rfl
    rw [e3] at c0
    clear hs hB hal
    go_enter Try.func35, Try.ntmps35
    go_wp2
    go_ret
    exact ⟨A, rfl, hs'.out, Chg.refl _ _, fun a ha => ⟨.inl ⟨a, ha, rfl⟩, HAL.out a ha⟩⟩
theorem feed_nil (A2 : Option Addr) (k c2 : Nat) (w : World) : Calls Try.prog 35 #[.pointer none, .slice A2 k c2] w fun e w' => e = .returned (.int .i64 1) ∧ w' = w := by
  go_enter Try.func35, Try.ntmps35
  go_wp2
  go_ret
  exact ⟨rfl, rfl⟩
theorem next_nil (w : World) : Calls Try.prog 37 #[.pointer none] w fun e w' => e = .returned (.tuple #[.slice none 0 0, .int .i64 1]) ∧ w' = w := by
  go_enter Try.func37, Try.ntmps37
  go_wp2
  go_ret2
  exact ⟨rfl, rfl⟩
theorem held_nil (w : World) : Calls Try.prog 39 #[.pointer none] w fun e w' => e = .returned (.int .i64 0) ∧ w' = w := by
  go_enter Try.func39, Try.ntmps39
  go_wp2
  go_ret
  exact ⟨rfl, rfl⟩
theorem held_any (g : Nat) (A : Option Addr) (l : List UInt8) (e0 : Nat) (w : World) (hs : StrAt w g A l e0) (n : Nat) (hn : l.length = n) : Calls Try.prog 39 #[.pointer (some ⟨g, 0, none⟩)] w fun e w' => e = .returned (.int .i64 (n : Int)) ∧ w' = w := by
  subst hn
  obtain ⟨c, hB⟩ := hs.form
  have c1 := hB.cell 1
  simp only [List.getElem?_toArray, List.getElem?_cons_zero, List.getElem?_cons_succ] at c1
  go_enter Try.func39, Try.ntmps39
  go_wp2
  go_ret
  exact ⟨rfl, rfl⟩
/-- What the next call leaves. -/
def NxtA (w : World) (g : Nat) (A : Option Addr) (x : List UInt8 × List UInt8 × Bool × Nat) (e : Ending) (w' : World) : Prop := ∃ A' B n c, e = .returned (.tuple #[.slice B n c, .int .i64 (x.2.2.2 : Nat)]) ∧ Hid (x.1.length = n) ∧ Own w' w.heap.size B c x.1 ∧ StrAt w' g A' x.2.1 (FrmM.err x.2.2.1) ∧ Chg w w' (StrP g A) ∧ (∀ a, A' = some a → ∃ a0, A = some a0 ∧ a.block = a0.block)
theorem next_broken (g : Nat) (A : Option Addr) (l : List UInt8) (w : World) (hs : StrAt w g A l 3) : Calls Try.prog 37 #[.pointer (some ⟨g, 0, none⟩)] w fun e w' => e = .returned (.tuple #[.slice none 0 0, .int .i64 3]) ∧ Below w.heap.size w w' := by
  obtain ⟨c, hB⟩ := hs.form
  have c0 := hB.cell 0
  simp only [List.getElem?_toArray, List.getElem?_cons_zero] at c0
  go_enter Try.func37, Try.ntmps37
  go_wp2
  go_region
  go_wp2
  go_ret2
  exact ⟨rfl, rfl, rfl, rfl, Nat.le_refl _, fun _ _ => rfl⟩
set_option maxRecDepth 100000 in
theorem next_any (g : Nat) (A : Option Addr) (l : List UInt8) (br : Bool) (w : World) (hs : StrAt w g A l (FrmM.err br)) (hlen : l.length ≤ 140737488355328) :
    Calls Try.prog 37 #[.pointer (some ⟨g, 0, none⟩)] w (NxtA w g A (FrmM.nxt l br)) := by
  cases br with
  | true =>
    refine (next_broken g A l w hs).mono ?_
    rintro e w' ⟨rfl, hb⟩
    exact ⟨A, none, 0, 0, rfl, Lib.hid rfl, Own.nil_ _ _, hs.below hb, Chg.of_below hb, fun a ha => ⟨a, ha, rfl⟩⟩
  | false =>
    rcases FrmM.sz_cases l with h | h | h
    · have e : FrmM.nxt l false = ([], l, false, 7) := by unfold FrmM.nxt; rw [if_neg (by simp), if_neg (by omega), if_neg (by omega)]
      rw [e]
      refine (next_none g A l w hs hlen h).mono ?_
      rintro e w' ⟨rfl, hb⟩
      exact ⟨A, none, 0, 0, rfl, Lib.hid rfl, Own.nil_ _ _, hs.below hb, Chg.of_below hb, fun a ha => ⟨a, ha, rfl⟩⟩
    · have e : FrmM.nxt l false = ([], [], true, 3) := by unfold FrmM.nxt; rw [if_neg (by simp), if_neg (by omega), if_pos h]
      rw [e]
      refine (next_long g A l w hs hlen h).mono ?_
      rintro e w' ⟨rfl, h1, h2⟩
      exact ⟨none, none, 0, 0, rfl, Lib.hid rfl, Own.nil_ _ _, h1, h2, fun a ha => by cases ha⟩
    · have e : FrmM.nxt l false = ((l.drop 4).take (FrmM.sz l).1, l.drop (4 + (FrmM.sz l).1), false, 0) := by unfold FrmM.nxt; rw [if_neg (by simp), if_pos h.1]
      rw [e]
      exact next_ok g A l w hs hlen h.1
end Go.Proofs.Ytgcognefggbpjaa
