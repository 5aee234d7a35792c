/-
  A slotted body of the call's own, in a block of its own: append to its lists, stores into them.
  Conditions: none.
-/
import Derived.Test.YtofbfehpadjbbaaSltW3
namespace Go.Proofs.Ytofbfehpadjbbaa
open Go.RowKit Go.Sort Go.Lib
set_option linter.unusedVariables false
/-- The lists of a slotted body, the call's own, beside the block G. -/
structure OwnP (w : World) (base G : Nat) (A : Option Addr) (nF cA : Nat) (D : Option Addr) (nD cD : Nat) (full : List Bool) (ps : List Sl) : Prop where
  fu : OwnF w base A nF cA full
  li : OwnLs w base D nD cD ps
  each : ∀ p ∈ ps, p.l.length = p.n ∧ Row w p.A (bs p.l) ∧ (p.l = [] ∨ ∀ a, p.A = some a → (base ≤ a.block ∧ a.block < w.heap.size) ∧ a.block ≠ G ∧ (∀ x, A = some x → a.block ≠ x.block) ∧ (∀ x, D = some x → a.block ≠ x.block))
  ap : ∀ a d, A = some a → D = some d → a.block ≠ d.block
  gA : ∀ a, A = some a → a.block ≠ G
  gD : ∀ d, D = some d → d.block ≠ G
section
variable {w w' : World} {base G nF cA nD cD : Nat} {A D : Option Addr} {full : List Bool} {ps : List Sl}
theorem OwnLs.blk (h : OwnLs w base D nD cD ps) {a : Addr} (ha : D = some a) : base ≤ a.block ∧ a.block < w.heap.size := by
  subst ha
  exact World.ownsRow.lt h _ rfl
theorem OwnLs.len (h : OwnLs w base D nD cD ps) : ps.length = nD := by
  have := h.1
  rw [List.length_map] at this; omega
theorem OwnLs.kept {row : Option Nat} (h : OwnLs w base D nD cD ps) (hg : w.grownBy w' row) (hne : ∀ a, D = some a → row ≠ some a.block) : OwnLs w' base D nD cD ps := by
  refine World.ownsRow.kept h hg ?_
  rcases h.2 with ⟨hv, hn⟩ | ⟨g', cap, cur, hv, hb, _⟩
  · left; injection hv with e; rw [e]; rfl
  · right; injection hv with e; rw [e]; simp only [Value.ownBlock]; intro q; exact hne _ e q.symm
theorem row_grown {A : Option Addr} {xs : List Value} {row : Option Nat} (h : Row w A xs) (hg : w.grownBy w' row) (hne : ∀ a, A = some a → row ≠ some a.block) : Row w' A xs := by
  rcases h with h | ⟨b, o, e, hc⟩
  · exact .inl h
  · refine .inr ⟨b, o, e, fun j u hu => ?_⟩
    have := hne _ e
    exact hg.cell (hc j u hu) (by simpa using fun q => this q.symm)
theorem OwnP.kept {row : Option Nat} (h : OwnP w base G A nF cA D nD cD full ps) (hg : w.grownBy w' row) (h1 : ∀ a, A = some a → row ≠ some a.block) (h2 : ∀ a, D = some a → row ≠ some a.block)
    (h3 : ∀ p ∈ ps, p.l = [] ∨ ∀ a, p.A = some a → row ≠ some a.block) : OwnP w' base G A nF cA D nD cD full ps := by
  refine ⟨h.fu.kept hg h1, h.li.kept hg h2, fun p hp => ?_, h.ap, h.gA, h.gD⟩
  obtain ⟨e1, e2, e3⟩ := h.each p hp
  refine ⟨e1, ?_, e3.imp id fun h4 a ha => ⟨⟨(h4 a ha).1.1, Nat.lt_of_lt_of_le (h4 a ha).1.2 hg.size⟩, (h4 a ha).2⟩⟩
  rcases h3 p hp with h5 | h5
  · rw [h5]; exact Row.nil _ _
  · exact row_grown e2 hg h5
theorem OwnP.below (h : OwnP w base G A nF cA D nD cD full ps) (hb : Below w.heap.size w w') : OwnP w' base G A nF cA D nD cD full ps := by
  refine ⟨h.fu.below hb, ?_, fun p hp => ?_, h.ap, h.gA, h.gD⟩
  · refine ⟨h.li.1, ?_⟩
    rcases h.li.2 with hn | ⟨g, cap, cur, e, hb', hg, rest⟩
    · exact .inl hn
    · refine .inr ⟨g, cap, cur, e, hb', ?_, rest⟩
      rw [hb.block g (Array.getElem?_eq_some_iff.1 hg).1]; exact hg
  · obtain ⟨e1, e2, e3⟩ := h.each p hp
    exact ⟨e1, e2.below hb, e3.imp id fun h4 a ha => ⟨⟨(h4 a ha).1.1, Nat.lt_of_lt_of_le (h4 a ha).1.2 hb.size⟩, (h4 a ha).2⟩⟩
theorem OwnP.alloc (h : OwnP w base G A nF cA D nD cD full ps) (o : Obj) : OwnP (w.alloc o) base G A nF cA D nD cD full ps := h.below ((Below.refl _ _).alloc (Nat.le_refl _) o)
theorem OwnP.drew (h : OwnP w base G A nF cA D nD cD full ps) : OwnP w.drew base G A nF cA D nD cD full ps := h.below ⟨rfl, rfl, rfl, Nat.le_refl _, fun _ _ => rfl⟩
/-- The flags have grown. -/
theorem OwnP.appF {b : Bool} {A' : Option Addr} {c' : Nat} (h : OwnP w base G A nF cA D nD cD full ps) (hG : G < w.heap.size) (h1 : OwnF w' base A' (nF + 1) c' (full ++ [b])) (hg : w.grownBy w' (Value.slice A nF cA).ownBlock)
    (hn : (Value.slice A' (nF + 1) c').ownBlock = (Value.slice A nF cA).ownBlock ∨ (Value.slice A' (nF + 1) c').ownBlock = some w.heap.size) : OwnP w' base G A' (nF + 1) c' D nD cD (full ++ [b]) ps := by
  have hA : ∀ a, A' = some a → (∃ x, A = some x ∧ a.block = x.block) ∨ a.block = w.heap.size := by
    intro a ha
    subst ha
    rcases hn with hn | hn
    · cases A with
      | none => cases hn
      | some x => injection hn with hn; exact .inl ⟨x, rfl, hn⟩
    · injection hn with hn; exact .inr hn
  have hrow : ∀ k, (Value.slice A nF cA).ownBlock = some k → ∃ x, A = some x ∧ x.block = k := by
    intro k hk
    cases A with
    | none => cases hk
    | some x => injection hk with hk; exact ⟨x, rfl, hk⟩
  refine ⟨h1, h.li.kept hg (fun d hd q => ?_), fun p hp => ?_, fun a d ha hd => ?_, fun a ha => ?_, h.gD⟩
  · obtain ⟨x, hx, e⟩ := hrow _ q
    exact h.ap x d hx hd e
  · obtain ⟨e1, e2, e3⟩ := h.each p hp
    refine ⟨e1, ?_, e3.imp id fun h4 a ha => ⟨⟨(h4 a ha).1.1, Nat.lt_of_lt_of_le (h4 a ha).1.2 hg.size⟩, (h4 a ha).2.1, fun x hx => ?_, (h4 a ha).2.2.2⟩⟩
    · rcases e3 with e3 | e3
      · rw [e3]; exact Row.nil _ _
      · exact row_grown e2 hg (fun a ha q => by obtain ⟨x, hx, e⟩ := hrow _ q; exact (e3 a ha).2.2.1 x hx e.symm)
    · rcases hA x hx with ⟨y, hy, e⟩ | e
      · rw [e]; exact (h4 a ha).2.2.1 y hy
      · have := (h4 a ha).1.2; omega
  · rcases hA a ha with ⟨y, hy, e⟩ | e
    · rw [e]; exact h.ap y d hy hd
    · have := (h.li.blk hd).2; omega
  · rcases hA a ha with ⟨y, hy, e⟩ | e
    · rw [e]; exact h.gA y hy
    · omega
/-- The list of slices has grown by one that has nothing. -/
theorem OwnP.appD {D' : Option Addr} {c' : Nat} (h : OwnP w base G A nF cA D nD cD full ps) (hG : G < w.heap.size) (h1 : OwnLs w' base D' (nD + 1) c' (ps ++ [⟨none, 0, 0, []⟩])) (hg : w.grownBy w' (Value.slice D nD cD).ownBlock)
    (hn : (Value.slice D' (nD + 1) c').ownBlock = (Value.slice D nD cD).ownBlock ∨ (Value.slice D' (nD + 1) c').ownBlock = some w.heap.size) : OwnP w' base G A nF cA D' (nD + 1) c' full (ps ++ [⟨none, 0, 0, []⟩]) := by
  have hA : ∀ a, D' = some a → (∃ x, D = some x ∧ a.block = x.block) ∨ a.block = w.heap.size := by
    intro a ha
    subst ha
    rcases hn with hn | hn
    · cases D with
      | none => cases hn
      | some x => injection hn with hn; exact .inl ⟨x, rfl, hn⟩
    · injection hn with hn; exact .inr hn
  have hrow : ∀ k, (Value.slice D nD cD).ownBlock = some k → ∃ x, D = some x ∧ x.block = k := by
    intro k hk
    cases D with
    | none => cases hk
    | some x => injection hk with hk; exact ⟨x, rfl, hk⟩
  refine ⟨h.fu.kept hg (fun a ha q => ?_), h1, fun p hp => ?_, fun a d ha hd => ?_, h.gA, fun a ha => ?_⟩
  · obtain ⟨x, hx, e⟩ := hrow _ q
    exact h.ap a x ha hx e.symm
  · rcases List.mem_append.1 hp with hp | hp
    · obtain ⟨e1, e2, e3⟩ := h.each p hp
      refine ⟨e1, ?_, e3.imp id fun h4 a ha => ⟨⟨(h4 a ha).1.1, Nat.lt_of_lt_of_le (h4 a ha).1.2 hg.size⟩, (h4 a ha).2.1, (h4 a ha).2.2.1, fun x hx => ?_⟩⟩
      · rcases e3 with e3 | e3
        · rw [e3]; exact Row.nil _ _
        · exact row_grown e2 hg (fun a ha q => by obtain ⟨x, hx, e⟩ := hrow _ q; exact (e3 a ha).2.2.2 x hx e.symm)
      · rcases hA x hx with ⟨y, hy, e⟩ | e
        · rw [e]; exact (h4 a ha).2.2.2 y hy
        · have := (h4 a ha).1.2; omega
    · rw [List.mem_singleton] at hp
      subst hp
      exact ⟨rfl, Row.nil _ _, .inl rfl⟩
  · rcases hA d hd with ⟨y, hy, e⟩ | e
    · rw [e]; exact h.ap a y ha hy
    · have := (h.fu.blk ha).2; omega
  · rcases hA a ha with ⟨y, hy, e⟩ | e
    · rw [e]; exact h.gD y hy
    · omega
/-- A flag is stored. -/
theorem OwnP.setF {g : Nat} (h : OwnP w base G (some ⟨g, 0, none⟩) nF cA D nD cD full ps) (k : Nat) (b : Bool) : OwnP (w.setCell ⟨g, k, none⟩ (.bool b)) base G (some ⟨g, 0, none⟩) nF cA D nD cD (full.set k b) ps := by
  have gg := grownBy_setCell w g k (.bool b)
  refine ⟨?_, h.li.kept gg (fun d hd q => by injection q with q; exact h.ap _ d rfl hd q), fun p hp => ?_, h.ap, h.gA, h.gD⟩
  · have e2 : (full.set k b).map Value.bool = (full.map Value.bool).set k (.bool b) := by rw [List.map_set]
    refine ⟨by rw [List.length_map, List.length_set]; have := h.fu.1; rw [List.length_map] at this; exact this, ?_⟩
    rcases h.fu.2 with ⟨hv, hn⟩ | ⟨g', cap, cur, hv, hb, hg, r1, r2, r3, r4⟩
    · cases hv
    · have hv2 := hv
      injection hv with e _ _
      injection e with e
      injection e with e
      subst e
      refine .inr ⟨g, cap, cur.setIfInBounds k (.bool b), hv2, hb, ?_, r1, r2, by rw [Array.size_setIfInBounds]; exact r3, ?_⟩
      · simp [World.setCell, Array.getElem?_modify, hg]
      · rw [e2, ← r4]
        rw [Array.toList_setIfInBounds, List.take_set]
  · obtain ⟨e1, e2, e3⟩ := h.each p hp
    refine ⟨e1, ?_, e3.imp id fun h4 a ha => ⟨⟨(h4 a ha).1.1, Nat.lt_of_lt_of_le (h4 a ha).1.2 gg.size⟩, (h4 a ha).2⟩⟩
    rcases e3 with e3 | e3
    · rw [e3]; exact Row.nil _ _
    · exact row_grown e2 gg (fun a ha q => by injection q with q; exact (e3 a ha).2.2.1 _ rfl q.symm)
/-- A slice of new memory is stored. -/
theorem OwnP.setD {g : Nat} (h : OwnP w base G A nF cA (some ⟨g, 0, none⟩) nD cD full ps) (k : Nat) (p : Sl) (hp : p.l.length = p.n ∧ Row w p.A (bs p.l) ∧ (p.l = [] ∨ ∀ a, p.A = some a → (base ≤ a.block ∧ a.block < w.heap.size) ∧ a.block ≠ G ∧ (∀ x, A = some x → a.block ≠ x.block) ∧ a.block ≠ g)) :
    OwnP (w.setCell ⟨g, k, none⟩ p.val) base G A nF cA (some ⟨g, 0, none⟩) nD cD full (ps.set k p) := by
  have gg := grownBy_setCell w g k p.val
  refine ⟨h.fu.kept gg (fun a ha q => by injection q with q; exact h.ap a _ ha rfl q.symm), ?_, fun p' hp' => ?_, h.ap, h.gA, h.gD⟩
  · have e2 : (ps.set k p).map Sl.val = (ps.map Sl.val).set k p.val := by rw [List.map_set]
    refine ⟨by rw [List.length_map, List.length_set]; have := h.li.1; rw [List.length_map] at this; exact this, ?_⟩
    rcases h.li.2 with ⟨hv, hn⟩ | ⟨g', cap, cur, hv, hb, hg, r1, r2, r3, r4⟩
    · cases hv
    · have hv2 := hv
      injection hv with e _ _
      injection e with e
      injection e with e
      subst e
      refine .inr ⟨g, cap, cur.setIfInBounds k p.val, hv2, hb, ?_, r1, r2, by rw [Array.size_setIfInBounds]; exact r3, ?_⟩
      · simp [World.setCell, Array.getElem?_modify, hg]
      · rw [e2, ← r4]
        rw [Array.toList_setIfInBounds, List.take_set]
  · have key : ∀ q : Sl, q.l.length = q.n ∧ Row w q.A (bs q.l) ∧ (q.l = [] ∨ ∀ a, q.A = some a → (base ≤ a.block ∧ a.block < w.heap.size) ∧ a.block ≠ G ∧ (∀ x, A = some x → a.block ≠ x.block) ∧ (∀ x, some (⟨g, 0, none⟩ : Addr) = some x → a.block ≠ x.block)) →
        q.l.length = q.n ∧ Row (w.setCell ⟨g, k, none⟩ p.val) q.A (bs q.l) ∧ (q.l = [] ∨ ∀ a, q.A = some a → (base ≤ a.block ∧ a.block < (w.setCell ⟨g, k, none⟩ p.val).heap.size) ∧ a.block ≠ G ∧ (∀ x, A = some x → a.block ≠ x.block) ∧ (∀ x, some (⟨g, 0, none⟩ : Addr) = some x → a.block ≠ x.block)) := by
      rintro q ⟨e1, e2, e3⟩
      refine ⟨e1, ?_, e3.imp id fun h4 a ha => ⟨⟨(h4 a ha).1.1, Nat.lt_of_lt_of_le (h4 a ha).1.2 gg.size⟩, (h4 a ha).2⟩⟩
      rcases e3 with e3 | e3
      · rw [e3]; exact Row.nil _ _
      · exact row_grown e2 gg (fun a ha q => by injection q with q; exact (e3 a ha).2.2.2 _ rfl q.symm)
    rcases List.mem_or_eq_of_mem_set hp' with hp' | rfl
    · exact key p' (h.each p' hp')
    · refine key p' ⟨hp.1, hp.2.1, hp.2.2.imp id fun h4 a ha => ⟨(h4 a ha).1, (h4 a ha).2.1, (h4 a ha).2.2.1, fun x hx => ?_⟩⟩
      injection hx with hx
      rw [← hx]; exact (h4 a ha).2.2.2
theorem OwnP.at_ {s : Slt} (h : OwnP w base G A nF cA D nD cD s.full ps) (hd : ps.map Sl.l = s.data) : SltAt w A nF cA D nD cD s :=
  ⟨h.fu.len, by rw [← hd, List.length_map]; exact h.li.len, h.fu.le.1, h.li.le, h.fu.row, ps, hd, Row.of_own h.li, fun p hp => ⟨(h.each p hp).2.1, (h.each p hp).1⟩⟩
theorem OwnSlt.p {s : Slt} (h : OwnSlt w base A nF cA D nD cD s) (hG : w.heap.size ≤ G) : ∃ ps, ps.map Sl.l = s.data ∧ OwnP w base G A nF cA D nD cD s.full ps := by
  obtain ⟨ps, h1, h2, h3⟩ := h.li
  refine ⟨ps, h1, h.fu, h2, fun p hp => ⟨(h3 p hp).1, (h3 p hp).2.1, (h3 p hp).2.2.imp id fun h4 a ha => ⟨(h4 a ha).1, by have := (h4 a ha).1.2; omega, (h4 a ha).2⟩⟩, h.ap, fun a ha => by have := (h.fu.blk ha).2; omega, fun d hd => by have := (OwnLs.blk h2 hd).2; omega⟩
/-! ### append, in a region that draws its order -/
theorem step_appF {ops : Array Oper} {o : Oper} {a : Act} {K : Act → World → Prop} {Q : Exit → Act → World → Prop} {E : Prop} (hgd : o.guard = none) (s x : Operand)
    (ho : o.op = .call { callee := .builtin .append, args := #[s, x], argTypes := #[23, 23] })
    (base G : Nat) (A : Option Addr) (nF cA : Nat) (D : Option Addr) (nD cD : Nat) (full : List Bool) (ps : List Sl) (hs : a.eval s = .slice A nF cA) (hown : OwnP w base G A nF cA D nD cD full ps) (hG : G < w.heap.size)
    (A2 : Option Addr) (c2 : Nat) (b : Bool) (hx : a.eval x = .slice A2 1 c2) (hr : Row w A2 [Value.bool b])
    (hlen : nF + 1 ≤ 140737488355328) (hbase : base ≤ w.heap.size)
    (h : ∀ A' c' w', OwnP w' base G A' (nF + 1) c' D nD cD (full ++ [b]) ps → w.grownBy w' (Value.slice A nF cA).ownBlock → K (a.put o.dst (.slice A' (nF + 1) c')) w') :
    if Region.wanted o (yielded ops a.tmps) = true then Oper.wp Try.prog o a w K Q else E := by
  have hw : Region.wanted o (yielded ops a.tmps) = true := by simp [Region.wanted, hgd]
  rw [if_pos hw]
  obtain ⟨i0, hi0, hz0, hz1, hz2⟩ := info_parts info_bool
  refine wp_append_row w s x _ ho base 4 i0 _ 1 1 Try.underlying23 hi0 hz0 hz1 hz2 rfl (by omega) _ nF (full.map .bool) hs hown.fu A2 1 c2 [Value.bool b] hx rfl hr (flags_one [b])
    (by unfold maxLen; omega) (by omega) hbase fun A' c' w' h1 h2 h3 => h A' c' w' (hown.appF hG (by unfold OwnF; rw [List.map_append]; exact h1) h2 h3) h2
theorem step_appD {ops : Array Oper} {o : Oper} {a : Act} {K : Act → World → Prop} {Q : Exit → Act → World → Prop} {E : Prop} (hgd : o.guard = none) (s x : Operand)
    (ho : o.op = .call { callee := .builtin .append, args := #[s, x], argTypes := #[24, 24] })
    (base G : Nat) (A : Option Addr) (nF cA : Nat) (D : Option Addr) (nD cD : Nat) (full : List Bool) (ps : List Sl) (hs : a.eval s = .slice D nD cD) (hown : OwnP w base G A nF cA D nD cD full ps) (hG : G < w.heap.size)
    (A2 : Option Addr) (c2 : Nat) (hx : a.eval x = .slice A2 1 c2) (hr : Row w A2 [Value.slice none 0 0])
    (hlen : nD + 1 ≤ 1000000) (hbase : base ≤ w.heap.size)
    (h : ∀ D' c' w', OwnP w' base G A nF cA D' (nD + 1) c' full (ps ++ [⟨none, 0, 0, []⟩]) → w.grownBy w' (Value.slice D nD cD).ownBlock → K (a.put o.dst (.slice D' (nD + 1) c')) w') :
    if Region.wanted o (yielded ops a.tmps) = true then Oper.wp Try.prog o a w K Q else E := by
  have hw : Region.wanted o (yielded ops a.tmps) = true := by simp [Region.wanted, hgd]
  rw [if_pos hw]
  obtain ⟨i0, hi0, hz0, hz1, hz2⟩ := info_parts info_sl
  refine wp_append_row w s x _ ho base 27 i0 _ 1 24 Try.underlying24 hi0 hz0 hz1 hz2 rfl (by omega) _ nD (ps.map Sl.val) hs hown.li A2 1 c2 [Value.slice none 0 0] hx rfl hr (by intro u hu; rw [List.mem_singleton] at hu; subst hu; rfl)
    (by unfold maxLen; omega) (by omega) hbase fun A' c' w' h1 h2 h3 => h A' c' w' (hown.appD hG (by unfold OwnLs; rw [List.map_append]; exact h1) h2 h3) h2
end
end Go.Proofs.Ytofbfehpadjbbaa
