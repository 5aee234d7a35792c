/-
  A slice of bytes that lies anywhere in a block of the call's own, with room behind it; append upon it.
  Conditions: none.
-/
import Derived.Test.YtgcognefggbpjaaFrmW1
import Derived.Deep.Upon
namespace Go.Proofs.Ytgcognefggbpjaa
open Go.RowKit Go.Sort Go.Lib
set_option linter.unusedVariables false
/-- The slice (A, n, c) holds l; its room is there. -/
def FBuf (w : World) (base : Nat) (A : Option Addr) (n c : Nat) (l : List UInt8) : Prop := l.length = n ∧ n ≤ c ∧ c ≤ maxLen ∧ (∀ a, A = some a → base ≤ a.block) ∧
  (c = 0 ∨ ∃ g o, A = some ⟨g, o, none⟩ ∧ base ≤ g ∧ g < w.heap.size ∧ (∀ j u, l[j]? = some u → w.cell? ⟨g, o + j, none⟩ = some (B u)) ∧ ∀ j, j < c - n → (w.cell? ⟨g, o + n + j, none⟩).isSome = true ∧ w.frozen? ⟨g, o + n + j, none⟩ = false)
section
variable {w w' : World} {base n c : Nat} {A : Option Addr} {l : List UInt8}
theorem FBuf.none_ (w : World) (base : Nat) : FBuf w base none 0 0 [] := ⟨rfl, Nat.le_refl _, Nat.zero_le _, (fun a h => by cases h), .inl rfl⟩
theorem FBuf.row (h : FBuf w base A n c l) : Row w A (bs l) := by
  obtain ⟨h1, h2, h3, hbs, h4⟩ := h
  rcases h4 with h4 | ⟨g, o, e, _, _, hc, _⟩
  · left
    have : l = [] := List.eq_nil_of_length_eq_zero (by omega)
    rw [this]; rfl
  · right
    refine ⟨g, o, e, fun j u hu => ?_⟩
    rw [bs_get?] at hu
    obtain ⟨x, hx, rfl⟩ := Option.map_eq_some_iff.1 hu
    exact hc j x hx
theorem FBuf.same (h : FBuf w base A n c l) (hs : w.heap.size ≤ w'.heap.size) (hb : ∀ a, A = some a → w'.heap[a.block]? = w.heap[a.block]?) : FBuf w' base A n c l := by
  obtain ⟨h1, h2, h3, hbs, h4⟩ := h
  refine ⟨h1, h2, h3, hbs, h4.imp id ?_⟩
  rintro ⟨g, o, e, h5, h6, hc, hr⟩
  have hg := hb _ e
  exact ⟨g, o, e, h5, by omega, fun j u hu => (World.cell?_of_block (a := ⟨g, o + j, none⟩) hg).trans (hc j u hu), fun j hj => ⟨by rw [World.cell?_of_block (a := ⟨g, o + n + j, none⟩) hg]; exact (hr j hj).1, (World.frozen?_of_block (a := ⟨g, o + n + j, none⟩) hg).trans (hr j hj).2⟩⟩
theorem FBuf.lt (h : FBuf w base A n c l) : c = 0 ∨ ∃ g o, A = some ⟨g, o, none⟩ ∧ base ≤ g ∧ g < w.heap.size := h.2.2.2.2.imp id fun ⟨g, o, e, h5, h6, _⟩ => ⟨g, o, e, h5, h6⟩
/-- The part from k on. -/
theorem FBuf.cut (h : FBuf w base A n c l) (k : Nat) (hk : k ≤ n) : (c = k → FBuf w base A (n - k) 0 (l.drop k)) ∧ (FBuf w base (A.map fun x => x.add k) (n - k) (c - k) (l.drop k)) := by
  obtain ⟨h1, h2, h3, hbs, h4⟩ := h
  refine ⟨fun e => ⟨by rw [List.length_drop]; omega, by omega, Nat.zero_le _, hbs, .inl rfl⟩, by rw [List.length_drop]; omega, by omega, by omega, ?_, ?_⟩
  · intro a ha
    cases A with
    | none => cases ha
    | some a0 => injection ha with ha; rw [← ha]; have := hbs a0 rfl; simp only [Addr.add]; split <;> simpa using this
  by_cases hc0 : c - k = 0
  · exact .inl hc0
  rcases h4 with h4 | ⟨g, o, rfl, h5, h6, hc, hr⟩
  · omega
  · refine .inr ⟨g, o + k, by simp [Addr.add_lit], h5, h6, fun j u hu => ?_, fun j hj => ?_⟩
    · rw [List.getElem?_drop] at hu
      have := hc _ _ hu
      rwa [← Nat.add_assoc] at this
    · have := hr j (by omega)
      rwa [show o + k + (n - k) + j = o + n + j by omega]
theorem grownBy_setCells {a : World} (b : Nat) : ∀ (vs : List Value) (o : Nat) (w : World), a.grownBy w (some b) → a.grownBy (w.setCells b o vs) (some b)
  | [], _, w, h => h
  | v :: r, o, w, h => grownBy_setCells b r (o + 1) _ (grownBy_setB h o v)
theorem src_row {k c2 : Nat} {A2 : Option Addr} {m : List UInt8} (hk : m.length = k) (hr : Row w A2 (bs m)) : Src Try.prog 1 22 (.slice A2 k c2) k (bs m) w := by
  subst hk
  rcases hr with h | ⟨b, o, rfl, hc⟩
  · have hm : m = [] := List.map_eq_nil_iff.1 h
    subst hm
    cases A2 with
    | none => exact Src.ofNil w Try.underlying22 c2
    | some a => exact Src.ofSlice w Try.underlying22 a 0 c2 [] rfl (fun j u hu => by simp at hu) (fun u hu => by cases hu)
  · exact Src.ofSlice w Try.underlying22 ⟨b, o, none⟩ m.length c2 (bs m) (by rw [bs_length]; omega) (fun j u hu => by rw [Addr.add_lit]; exact hc j u hu) (bs_one m)
set_option maxRecDepth 10000 in
theorem run_app_buf (w : World) (ty : TypeId) (h : FBuf w base A n c l) {k c2 : Nat} {A2 : Option Addr} {m : List UInt8} (hk : m.length = k) (hr : Row w A2 (bs m)) (hlen : n + k ≤ 140737488355328) (hbase : base ≤ w.heap.size) :
    ∃ A' c' w', (Builtin.append_ #[22, 22] ty #[.slice A n c, .slice A2 k c2]).run Try.prog w = .ok (.slice A' (n + k) c') w' ∧ FBuf w' base A' (n + k) c' (l ++ m) ∧ w.grownBy w' (A.map (·.block)) ∧
      (∀ a, A' = some a → (∃ a0, A = some a0 ∧ a.block = a0.block) ∨ w.heap.size ≤ a.block) := by
  obtain ⟨i0, hi0, hz0, hz1, hz2⟩ := info_parts info_u8
  have hsz : i0.size = 1 := hz1
  obtain ⟨h1, h2, h3, hbs, h4⟩ := h
  have hs := src_row (c2 := c2) hk hr
  by_cases hroom : n + k ≤ c
  · rcases h4 with h4 | ⟨g, o, rfl, h5, h6, hc, hsp⟩
    · subst h4
      obtain rfl : n = 0 := by omega
      obtain rfl : k = 0 := by omega
      have hm : m = [] := List.eq_nil_of_length_eq_zero hk
      have hl : l = [] := List.eq_nil_of_length_eq_zero h1
      subst hm hl
      refine ⟨A, 0, w, ?_, ⟨rfl, Nat.le_refl _, Nat.zero_le _, hbs, .inl rfl⟩, World.grownBy.refl _ _, fun a ha => .inl ⟨a, ha, rfl⟩⟩
      exact run_append_nothing (P := Try.prog) w 22 22 ty 5 i0 Try.underlying22 hi0 A 0 0 (Nat.le_refl _) _ (by rw [hsz]; exact hs)
    · have hml : (bs m).length = k := by rw [bs_length, hk]
      have hrun := run_append_room_src (P := Try.prog) w 22 22 ty 5 i0 Try.underlying22 hi0 g o n c (.slice A2 k c2) k (bs m) (by rw [hsz]; exact hs) hroom
        (fun j hj => by rw [hsz, Nat.mul_one]; exact (hsp j (by omega)).1) (fun j hj => by rw [hsz, Nat.mul_one]; exact (hsp j (by omega)).2)
      rw [hsz, Nat.mul_one] at hrun
      have hg := grownBy_setCells (a := w) g (bs m) (o + n) w (World.grownBy.refl _ _)
      refine ⟨_, c, _, hrun, ⟨by rw [List.length_append, h1, hk], hroom, h3, hbs, .inr ⟨g, o, rfl, h5, Nat.lt_of_lt_of_le h6 hg.size, fun j u hu => ?_, fun j hj => ?_⟩⟩, hg, fun a ha => .inl ⟨_, rfl, by cases ha; rfl⟩⟩
      · by_cases hj : j < n
        · rw [List.getElem?_append_left (by omega)] at hu
          rw [World.cell?_setCells_out g (bs m) (o + n) w ⟨g, o + j, none⟩ (fun _ _ => .inl (by simp; omega))]
          exact hc j u hu
        · rw [List.getElem?_append_right (by omega), h1] at hu
          have hlt : j - n < (bs m).length := by rw [bs_length]; exact (List.getElem?_eq_some_iff.1 hu).1
          have := World.cell?_setCells_in g (bs m) (o + n) w (fun j' hj' => (hsp j' (by omega)).1) (j - n) hlt
          rw [show o + n + (j - n) = o + j by omega] at this
          have e : (bs m)[j - n]? = some (B u) := by rw [bs_get?, hu]; rfl
          rw [this, ← List.getElem?_eq_getElem hlt]
          exact e
      · rw [World.cell?_setCells_out g (bs m) (o + n) w ⟨g, o + (n + k) + j, none⟩ (fun _ _ => .inr (by show o + n + (bs m).length ≤ o + (n + k) + j; rw [bs_length, hk]; omega)), World.frozen?_setCells]
        have := hsp (k + j) (by omega)
        rwa [show o + n + (k + j) = o + (n + k) + j by omega] at this
  · have hold : (Builtin.firstCells i0.size n (.slice A n c)).run Try.prog w.drew = .ok (bs l).toArray w.drew := by
      rw [hsz]
      rcases h4 with h4 | ⟨g, o, rfl, h5, h6, hc, hsp⟩
      · obtain rfl : n = 0 := by omega
        have hl : l = [] := List.eq_nil_of_length_eq_zero h1
        subst hl
        cases A with
        | none => exact run_firstCells_none w.drew 1 0 0 c
        | some a => exact run_firstCells_some w.drew 1 0 a 0 c [] rfl (fun j u hu => by simp at hu)
      · exact run_firstCells_some w.drew 1 n ⟨g, o, none⟩ n c (bs l) (by rw [bs_length]; omega) (fun j u hu => by
          rw [Addr.add_lit]
          rw [bs_get?] at hu
          obtain ⟨x, hx, rfl⟩ := Option.map_eq_some_iff.1 hu
          exact hc j x hx)
    have hrun := run_append_grow_src (P := Try.prog) w 22 22 ty 5 i0 _ Try.underlying22 hi0 hz0 A n c (bs l) hold (.slice A2 k c2) k (bs m) (by rw [hsz]; exact hs) (by omega) (by omega) (growslice_fits (by omega) (by rw [hz2]; omega))
    have hge := grownCap_ge w (n + k) c 5
    have hcm := grownCap_le_maxLen w (n + k) c 5 (by unfold maxLen; omega)
    have hL : (bs l ++ bs m).length = n + k := by rw [List.length_append, bs_length, bs_length, h1, hk]
    refine ⟨_, _, _, hrun, ⟨by rw [List.length_append, h1, hk], hge, hcm, (fun a ha => by injection ha with ha; rw [← ha]; exact hbase), .inr ⟨w.heap.size, 0, rfl, hbase, by simp, fun j u hu => ?_, fun j hj => ⟨?_, ?_⟩⟩⟩, ?_, fun a ha => .inr (by injection ha with ha; rw [← ha]; exact Nat.le_refl _)⟩
    · have e1 := World.cell?_alloc_new w.drew ((bs l ++ bs m).toArray ++ Builtin.zeroCells (Value.int .u8 0).cells (grownCap w (n + k) c 5 - (n + k))) 5 (0 + j)
      have hj : j < (bs l ++ bs m).length := by
        have := (List.getElem?_eq_some_iff.1 hu).1
        rw [List.length_append] at this
        omega
      refine e1.trans ?_
      rw [Nat.zero_add, Array.getElem?_append_left (by simpa using hj), List.getElem?_toArray, ← bs_append, bs_get?, hu]; rfl
    · have e1 := World.cell?_alloc_new w.drew ((bs l ++ bs m).toArray ++ Builtin.zeroCells (Value.int .u8 0).cells (grownCap w (n + k) c 5 - (n + k))) 5 (0 + (n + k) + j)
      refine (congrArg Option.isSome e1).trans ?_
      rw [Array.getElem?_eq_getElem]
      · rfl
      · rw [Array.size_append, List.size_toArray, hL, size_zeroCells]
        show _ < n + k + _ * 1
        omega
    · exact World.frozen?_alloc_new w.drew _ _ _
    · exact ⟨rfl, rfl, rfl, by simp, fun q hq _ => Below.heap_alloc w.drew _ q hq⟩
/-- append upon such a slice. -/
theorem wpl_appF (w : World) {ops : Array Oper} {rest : List Oper} {o : Oper} {a : Act} {Q : Exit → Act → World → Prop} (hgd : Region.wanted o (yielded ops a.tmps) = true) (s x : Operand)
    (ho : o.op = .call { callee := .builtin .append, args := #[s, x], argTypes := #[22, 22] })
    (base : Nat) (A : Option Addr) (n c : Nat) (l : List UInt8) (hs : a.eval s = .slice A n c) (hown : FBuf w base A n c l)
    (A2 : Option Addr) (c2 : Nat) (m : List UInt8) (k : Nat) (hx : a.eval x = .slice A2 k c2) (hk : m.length = k) (hr : Row w A2 (bs m))
    (hlen : n + k ≤ 140737488355328) (hbase : base ≤ w.heap.size)
    (h : ∀ A' c' w', FBuf w' base A' (n + k) c' (l ++ m) → w.grownBy w' (A.map (·.block)) → (∀ a, A' = some a → (∃ a0, A = some a0 ∧ a.block = a0.block) ∨ w.heap.size ≤ a.block) →
      wpList Try.prog ops Q rest (a.put o.dst (.slice A' (n + k) c')) w') : wpList Try.prog ops Q (o :: rest) a w :=
  wpList_step fun _ hK => by
    rw [if_pos hgd]
    obtain ⟨A', c', w', hrun, h2, h3, h4⟩ := run_app_buf w o.type hown hk hr hlen hbase (c2 := c2)
    unfold Oper.wp execOp
    simp only [ho, resolve, invoke, builtin, Sem.run_bind, Sem.run_pure, Result.andThen_ok, List.map_toArray, List.map_cons, List.map_nil, hs, hx, hrun]
    exact hK _ _ (h A' c' w' h2 h3 h4)
end
end Go.Proofs.Ytgcognefggbpjaa
