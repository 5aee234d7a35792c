/-
  Things made in a region whose order is open: each in memory of its own.
  Conditions: none.
-/
import Derived.Test.YtaadfalklddhcaaZCj
import Derived.Test.YtaadfalklddhcaaZItemW5
namespace Go.Proofs.Ytaadfalklddhcaa
open Go.RowKit Go.Sort Go.Lib
set_option linter.unusedVariables false
/-- A list in memory of the call's own. -/
structure Rsc where
  t : TypeId
  v : Value
  n : Nat
  xs : List Value
def setR (r : Nat → Rsc) (i : Nat) (x : Rsc) : Nat → Rsc := fun j => if j = i then x else r j
theorem setR_eq (r : Nat → Rsc) (i : Nat) (x : Rsc) : setR r i x i = x := if_pos rfl
theorem setR_ne (r : Nat → Rsc) {i j : Nat} (x : Rsc) (h : j ≠ i) : setR r i x j = r j := if_neg h
structure Rs (w : World) (base : Nat) (r : Nat → Rsc) : Prop where
  each : ∀ i, w.ownsRow base (r i).t 1 (r i).v (r i).n (r i).xs
  ap : ∀ i j, i ≠ j → ∀ k, (r i).v.ownBlock = some k → (r j).v.ownBlock ≠ some k
section
variable {w w' : World} {base : Nat} {r : Nat → Rsc}
theorem Rs.none_ (w : World) (base : Nat) (t : TypeId) : Rs w base (fun _ => ⟨t, .slice none 0 0, 0, []⟩) :=
  ⟨fun _ => World.ownsRow_nil w base t 1, fun _ _ _ k hk => by cases hk⟩
theorem Rs.step (h : Rs w base r) (i : Nat) (x : Rsc) (hg : w.grownBy w' (r i).v.ownBlock) (hx : w'.ownsRow base x.t 1 x.v x.n x.xs) (hb : x.v.ownBlock = (r i).v.ownBlock ∨ x.v.ownBlock = some w.heap.size) : Rs w' base (setR r i x) := by
  constructor
  · intro j
    by_cases hj : j = i
    · subst hj; rw [setR_eq]; exact hx
    · rw [setR_ne r x hj]
      refine (h.each j).kept hg ?_
      cases hv : (r j).v.ownBlock with
      | none => exact .inl rfl
      | some k => exact .inr (fun q => h.ap j i hj k hv q.symm)
  · intro j l hjl k hk
    by_cases hj : j = i
    · subst hj
      rw [setR_eq] at hk
      rw [setR_ne r x (fun q => hjl q.symm)]
      rcases hb with hb | hb
      · exact h.ap _ _ hjl k (hb ▸ hk)
      · rw [hb] at hk
        injection hk with hk
        intro q
        have := ((h.each l).lt k q).2
        omega
    · rw [setR_ne r x hj] at hk
      by_cases hl : l = i
      · subst hl
        rw [setR_eq]
        rcases hb with hb | hb
        · rw [hb]; exact h.ap _ _ hjl k hk
        · rw [hb]
          intro q
          injection q with q
          have := ((h.each j).lt k hk).2
          omega
      · rw [setR_ne r x hl]
        exact h.ap _ _ hjl k hk
theorem Rs.alloc (h : Rs w base r) (i : Nat) (o : Obj) (x : Rsc) (h0 : (r i).v.ownBlock = none) (hx : (w.alloc o).ownsRow base x.t 1 x.v x.n x.xs) (hb : x.v.ownBlock = some w.heap.size) : Rs (w.alloc o) base (setR r i x) :=
  h.step i x (h0 ▸ World.grownBy_alloc w o none) hx (.inr hb)
theorem Rs.kept {g : Nat} (h : Rs w base r) (hg : w.grownBy w' (some g)) (hlt : g < base) : Rs w' base r := by
  refine ⟨fun i => (h.each i).kept hg ?_, h.ap⟩
  cases hv : (r i).v.ownBlock with
  | none => exact .inl rfl
  | some k =>
    refine .inr fun q => ?_
    injection q with q
    have := ((h.each i).lt k hv).1
    omega
theorem owns_made (w : World) (base : Nat) (t : TypeId) (cs : Array Value) (n : Nat) (xs : List Value) (hb : base ≤ w.heap.size) (hs : cs.size = n) (hx : cs.toList = xs) (hm : n ≤ maxLen) : (w.alloc (.cells cs t)).ownsRow base t 1 (.slice (some ⟨w.heap.size, 0, none⟩) n n) n xs := by
  refine ⟨by rw [← hx, Array.length_toList]; omega, .inr ⟨w.heap.size, n, cs, rfl, hb, heap_alloc_new w _, Nat.le_refl _, hm, by omega, ?_⟩⟩
  rw [← hx, ← hs, Nat.mul_one, ← Array.length_toList, List.take_length]
end
/-- A list copied, with one more behind it, and cut again: whether none was made (b2), the list is behind it (b5), the one more was made (b6), is behind it (b7), and it was cut (b11). -/
structure Ch (t : TypeId) (n : Nat) (vs : List Value) (lit : Value) (b2 b5 b6 b7 b11 : Bool) (v5 v8 v9 v10 v14 : Value) (x y : Rsc) : Prop where
  c5 : b5 = true → b2 = true
  c7 : b7 = true → b5 = true
  c6 : b7 = true → b6 = true
  c11 : b11 = true → b7 = true
  f0 : b2 = false → x.v.ownBlock = none
  f1 : b6 = false → y.v.ownBlock = none
  f5 : b2 = true → b5 = false → ∃ A c, v5 = .slice A 0 c ∧ x = ⟨t, .slice A 0 c, 0, []⟩
  f8 : b5 = true → b7 = false → ∃ A c, v8 = .slice A n c ∧ x = ⟨t, .slice A n c, n, vs⟩
  f10 : b7 = true → ∃ A c, v10 = .slice A (n + 1) c ∧ x = ⟨t, .slice A (n + 1) c, n + 1, vs ++ [lit]⟩ ∧ (b11 = true → v14 = .slice A n c)
  f9 : b6 = true → ∃ A c, v9 = .slice A 1 c ∧ y = ⟨t, .slice A 1 c, 1, [lit]⟩
section
variable {t : TypeId} {n : Nat} {vs : List Value} {lit : Value} {b2 b5 b6 b7 b11 : Bool} {v5 v8 v9 v10 v14 : Value} {x y : Rsc}
theorem Ch.none_ (t : TypeId) (n : Nat) (vs : List Value) (lit : Value) (v5 v8 v9 v10 v14 : Value) (x y : Rsc) (hx : x.v.ownBlock = none) (hy : y.v.ownBlock = none) : Ch t n vs lit false false false false false v5 v8 v9 v10 v14 x y :=
  ⟨nofun, nofun, nofun, nofun, fun _ => hx, fun _ => hy, nofun, nofun, nofun, nofun⟩
theorem Ch.at2 (h : Ch t n vs lit false b5 b6 b7 b11 v5 v8 v9 v10 v14 x y) (A : Option Addr) (c : Nat) : Ch t n vs lit true b5 b6 b7 b11 (.slice A 0 c) v8 v9 v10 v14 ⟨t, .slice A 0 c, 0, []⟩ y := by
  have e5 : b5 = false := by cases hb : b5 with | false => rfl | true => exact absurd (h.c5 hb) (by simp)
  have e7 : b7 = false := by cases hb : b7 with | false => rfl | true => have := h.c7 hb; rw [e5] at this; cases this
  subst e5 e7
  exact ⟨nofun, nofun, nofun, h.c11, nofun, h.f1, fun _ _ => ⟨A, c, rfl, rfl⟩, nofun, nofun, h.f9⟩
theorem Ch.at5 (h : Ch t n vs lit true false b6 b7 b11 v5 v8 v9 v10 v14 x y) (A : Option Addr) (c : Nat) : Ch t n vs lit true true b6 b7 b11 v5 (.slice A n c) v9 v10 v14 ⟨t, .slice A n c, n, vs⟩ y := by
  have e7 : b7 = false := by cases hb : b7 with | false => rfl | true => have := h.c7 hb; cases this
  subst e7
  exact ⟨fun _ => rfl, nofun, nofun, h.c11, nofun, h.f1, nofun, fun _ _ => ⟨A, c, rfl, rfl⟩, nofun, h.f9⟩
theorem Ch.at6 (h : Ch t n vs lit b2 b5 false b7 b11 v5 v8 v9 v10 v14 x y) (A : Option Addr) (c : Nat) : Ch t n vs lit b2 b5 true b7 b11 v5 v8 (.slice A 1 c) v10 v14 x ⟨t, .slice A 1 c, 1, [lit]⟩ :=
  ⟨h.c5, h.c7, fun _ => rfl, h.c11, h.f0, nofun, h.f5, h.f8, h.f10, fun _ => ⟨A, c, rfl, rfl⟩⟩
theorem Ch.at7 (h : Ch t n vs lit true true true false b11 v5 v8 v9 v10 v14 x y) (A : Option Addr) (c : Nat) : Ch t n vs lit true true true true b11 v5 v8 v9 (.slice A (n + 1) c) v14 ⟨t, .slice A (n + 1) c, n + 1, vs ++ [lit]⟩ y := by
  have e11 : b11 = false := by cases hb : b11 with | false => rfl | true => have := h.c11 hb; cases this
  subst e11
  exact ⟨fun _ => rfl, fun _ => rfl, fun _ => rfl, nofun, nofun, nofun, nofun, nofun, fun _ => ⟨A, c, rfl, rfl, nofun⟩, h.f9⟩
theorem Ch.at11 (h : Ch t n vs lit b2 b5 b6 true false v5 v8 v9 v10 v14 x y) (A : Option Addr) (c : Nat) (hv : v10 = .slice A (n + 1) c) : Ch t n vs lit b2 b5 b6 true true v5 v8 v9 v10 (.slice A n c) x y := by
  refine ⟨h.c5, h.c7, h.c6, fun _ => rfl, h.f0, h.f1, h.f5, nofun, fun _ => ?_, h.f9⟩
  obtain ⟨A', c', e1, e2, _⟩ := h.f10 rfl
  rw [hv] at e1
  injection e1 with q1 q2 q3
  subst q1 q3
  exact ⟨A, c, hv, e2, fun _ => rfl⟩
end
/-- What is behind the copy: the struct was built (b22), and put where it belongs (b23). -/
structure Fin2 (k : Int) (n m : Nat) (vs vs2 : List Value) (T g : Nat) (b11 b21 b22 b23 : Bool) (v25 : Value) (x z : Rsc) (w : World) : Prop where
  e22 : b22 = true → b11 = true ∧ b21 = true
  e23 : b23 = true → b22 = true
  z0 : b23 = false → Blk w g T #[.int .u64 0, .slice none 0 0, .slice none 0 0]
  g22 : b22 = true → ∃ A c A2 c2, x = ⟨21, .slice A (n + 1) c, n + 1, vs ++ [.int .i32 77]⟩ ∧ z = ⟨5, .slice A2 (m + 1) c2, m + 1, vs2 ++ [.int .u8 78]⟩ ∧
    (b23 = false → v25 = .agg #[.int .u64 k, .slice A n c, .slice A2 m c2]) ∧ (b23 = true → Blk w g T #[.int .u64 k, .slice A n c, .slice A2 m c2])
section
variable {k : Int} {n m : Nat} {vs vs2 : List Value} {T g : Nat} {b11 b21 b22 b23 : Bool} {v25 : Value} {x z : Rsc} {w w' : World}
/-- Ahead of the building. -/
theorem Fin2.early (h : Fin2 k n m vs vs2 T g b11 b21 b22 b23 v25 x z w) (hb : b11 = false ∨ b21 = false) (hk : Blk w g T #[.int .u64 0, .slice none 0 0, .slice none 0 0] → Blk w' g T #[.int .u64 0, .slice none 0 0, .slice none 0 0]) (c11 c21 : Bool) (x' z' : Rsc) (v : Value) :
    Fin2 k n m vs vs2 T g c11 c21 b22 b23 v x' z' w' := by
  have e22 : b22 = false := by
    cases hq : b22 with
    | false => rfl
    | true => obtain ⟨h1, h2⟩ := h.e22 hq; rcases hb with hb | hb <;> simp_all
  have e23 : b23 = false := by cases hq : b23 with | false => rfl | true => have := h.e23 hq; rw [e22] at this; cases this
  subst e22 e23
  exact ⟨nofun, nofun, fun _ => hk (h.z0 rfl), nofun⟩
end
def cpPures (k : Int) (A A2 : Option Addr) (n c m c2 B : Nat) : List (Nat × Nat × Value) :=
  [(0, 3, .pointer (some ⟨B, 0, none⟩)), (1, 4, .int .u64 k), (3, 6, .pointer (some ⟨B, 1, none⟩)), (4, 7, .slice A n c), (8, 11, .pointer (some ⟨B, 1, none⟩)), (9, 12, .slice A n c), (10, 13, .int .i64 (n : Int)),
   (13, 16, .pointer (some ⟨B, 2, none⟩)), (14, 17, .slice A2 m c2), (18, 21, .pointer (some ⟨B, 2, none⟩)), (19, 22, .slice A2 m c2), (20, 23, .int .i64 (m : Int))]
/-- What holds in the copy's region, whatever has been done. -/
structure Cp (k : Int) (A A2 : Option Addr) (n c m c2 : Nat) (vs vs2 : List Value) (w0 : World) (L : Nat → Bool) (a : Act) (w : World) : Prop where
  df : a.defers = []
  sz : a.tmps.size = 26
  t1 : a.tmps.getD 1 undef = .pointer (some ⟨w0.heap.size, 0, none⟩)
  t2 : a.tmps.getD 2 undef = .pointer (some ⟨w0.heap.size + 1, 0, none⟩)
  pu : ∀ q ∈ cpPures k A A2 n c m c2 w0.heap.size, L q.1 = true → a.tmps.getD q.2.1 undef = q.2.2
  bel : Below w0.heap.size w0 w
  bx : Blk w w0.heap.size 30 #[.int .u64 k, .slice A n c, .slice A2 m c2]
  sv : w0.heap.size + 2 ≤ w.heap.size
  rs : ∃ r, Rs w (w0.heap.size + 2) r ∧
    Ch 21 n vs (.int .i32 77) (L 2) (L 5) (L 6) (L 7) (L 11) (a.tmps.getD 5 undef) (a.tmps.getD 8 undef) (a.tmps.getD 9 undef) (a.tmps.getD 10 undef) (a.tmps.getD 14 undef) (r 0) (r 1) ∧
    Ch 5 m vs2 (.int .u8 78) (L 12) (L 15) (L 16) (L 17) (L 21) (a.tmps.getD 15 undef) (a.tmps.getD 18 undef) (a.tmps.getD 19 undef) (a.tmps.getD 20 undef) (a.tmps.getD 24 undef) (r 2) (r 3) ∧
    Fin2 k n m vs vs2 30 (w0.heap.size + 1) (L 11) (L 21) (L 22) (L 23) (a.tmps.getD 25 undef) (r 0) (r 2) w
section
variable {k : Int} {A A2 : Option Addr} {n c m c2 : Nat} {vs vs2 : List Value} {w0 w w' : World} {L : Nat → Bool} {a : Act}
theorem Cp.pure (h : Cp k A A2 n c m c2 vs vs2 w0 L a w) (i d : Nat) (v : Value) (h1 : ∀ q ∈ cpPures k A A2 n c m c2 w0.heap.size, q.1 = i → q.2.1 = d ∧ q.2.2 = v) (h2 : ∀ q ∈ cpPures k A A2 n c m c2 w0.heap.size, q.2.1 = d → q.1 = i)
    (hi : i ∉ [2, 5, 6, 7, 11, 12, 15, 16, 17, 21, 22, 23]) (hd : d ∉ [1, 2, 5, 8, 9, 10, 14, 15, 18, 19, 20, 24, 25]) (hlt : d < 26) : Cp k A A2 n c m c2 vs vs2 w0 (upd L i) (a.put (some d) v) w := by
  simp only [List.mem_cons, List.not_mem_nil, or_false, not_or] at hi hd
  obtain ⟨i1, i2, i3, i4, i5, i6, i7, i8, i9, i10, i11, i12⟩ := hi
  obtain ⟨d1, d2, d3, d4, d5, d6, d7, d8, d9, d10, d11, d12, d13⟩ := hd
  have hu : ∀ j, i ≠ j → upd L i j = L j := fun j q => upd_ne L (fun e => q e.symm)
  have ha : ∀ t, d ≠ t → (a.put (some d) v).tmps.getD t undef = a.tmps.getD t undef := fun t q => act_ne a v q
  refine ⟨h.df, by rw [act_size]; exact h.sz, by rw [ha _ d1]; exact h.t1, by rw [ha _ d2]; exact h.t2, ?_, h.bel, h.bx, h.sv, ?_⟩
  · intro q hq hL
    by_cases e : q.1 = i
    · obtain ⟨e1, e2⟩ := h1 q hq e
      rw [e1, e2, act_eq a v (by rw [h.sz]; exact hlt)]
    · rw [hu _ (fun x => e x.symm)] at hL
      rw [ha _ (fun x => e (h2 q hq x.symm))]
      exact h.pu q hq hL
  · obtain ⟨r, g1, g2, g3, g4⟩ := h.rs
    refine ⟨r, g1, ?_, ?_, ?_⟩
    · rw [hu _ i1, hu _ i2, hu _ i3, hu _ i4, hu _ i5, ha _ d3, ha _ d4, ha _ d5, ha _ d6, ha _ d7]; exact g2
    · rw [hu _ i6, hu _ i7, hu _ i8, hu _ i9, hu _ i10, ha _ d8, ha _ d9, ha _ d10, ha _ d11, ha _ d12]; exact g3
    · rw [hu _ i5, hu _ i10, hu _ i11, hu _ i12, ha _ d13]; exact g4
/-- A step that makes something. -/
theorem Cp.maker (h : Cp k A A2 n c m c2 vs vs2 w0 L a w) (i d : Nat) (v : Value) (hp : i ∉ [0, 1, 3, 4, 8, 9, 10, 13, 14, 18, 19, 20]) (hd : d ∉ [1, 2, 3, 4, 6, 7, 11, 12, 13, 16, 17, 21, 22, 23])
    (r : Nat → Rsc) (hrs : Rs w (w0.heap.size + 2) r) (row : Option Nat) (hrow : ∀ k, row = some k → w0.heap.size + 2 ≤ k) (hg : w.grownBy w' row) (r' : Nat → Rsc) (hr' : Rs w' (w0.heap.size + 2) r')
    (g2 : Ch 21 n vs (.int .i32 77) (upd L i 2) (upd L i 5) (upd L i 6) (upd L i 7) (upd L i 11) ((a.put (some d) v).tmps.getD 5 undef) ((a.put (some d) v).tmps.getD 8 undef) ((a.put (some d) v).tmps.getD 9 undef) ((a.put (some d) v).tmps.getD 10 undef) ((a.put (some d) v).tmps.getD 14 undef) (r' 0) (r' 1))
    (g3 : Ch 5 m vs2 (.int .u8 78) (upd L i 12) (upd L i 15) (upd L i 16) (upd L i 17) (upd L i 21) ((a.put (some d) v).tmps.getD 15 undef) ((a.put (some d) v).tmps.getD 18 undef) ((a.put (some d) v).tmps.getD 19 undef) ((a.put (some d) v).tmps.getD 20 undef) ((a.put (some d) v).tmps.getD 24 undef) (r' 2) (r' 3))
    (g4 : Fin2 k n m vs vs2 30 (w0.heap.size + 1) (upd L i 11) (upd L i 21) (upd L i 22) (upd L i 23) ((a.put (some d) v).tmps.getD 25 undef) (r' 0) (r' 2) w') : Cp k A A2 n c m c2 vs vs2 w0 (upd L i) (a.put (some d) v) w' := by
  simp only [List.mem_cons, List.not_mem_nil, or_false, not_or] at hd hp
  have ha : ∀ t, d ≠ t → (a.put (some d) v).tmps.getD t undef = a.tmps.getD t undef := fun t q => act_ne a v q
  refine ⟨h.df, by rw [act_size]; exact h.sz, by rw [ha _ hd.1]; exact h.t1, by rw [ha _ hd.2.1]; exact h.t2, ?_, ?_, h.bx.grown hg (fun q => by have := hrow _ q.symm; omega), Nat.le_trans h.sv hg.size, r', hr', g2, g3, g4⟩
  · intro q hq hL
    have e1 : q.1 ≠ i := by
      intro e
      simp only [cpPures, List.mem_cons, List.not_mem_nil, or_false] at hq
      obtain ⟨p0, p1, p2, p3, p4, p5, p6, p7, p8, p9, p10, p11⟩ := hp
      rcases hq with rfl | rfl | rfl | rfl | rfl | rfl | rfl | rfl | rfl | rfl | rfl | rfl <;> simp_all
    have e2 : d ≠ q.2.1 := by
      intro e
      simp only [cpPures, List.mem_cons, List.not_mem_nil, or_false] at hq
      obtain ⟨p0, p1, p2, p3, p4, p5, p6, p7, p8, p9, p10, p11⟩ := hp
      rcases hq with rfl | rfl | rfl | rfl | rfl | rfl | rfl | rfl | rfl | rfl | rfl | rfl <;> simp_all
    rw [upd_ne L e1] at hL
    rw [ha _ e2]
    exact h.pu q hq hL
  · exact h.bel.grown hg (by have := h.sv; omega) (fun k hk => by have := hrow k hk; omega)
end
end Go.Proofs.Ytaadfalklddhcaa
