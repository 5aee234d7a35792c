/-
  Changes of a slotted body among the arguments; what each change gives, as a function; where a body lies.
  Conditions: none.
-/
import Derived.Test.YtofbfehpadjbbaaSltC6
import Derived.Test.YtofbfehpadjbbaaSltC7
namespace Go.Proofs.Ytofbfehpadjbbaa
open Go.RowKit Go.Sort Go.Lib
set_option linter.unusedVariables false
structure Opk where
  kind : Int
  at_ : Int
  A : Option Addr
  c : Nat
  b : List UInt8
def Opk.cells (s : Opk) : List Value := [.int .i64 s.kind, .int .i64 s.at_, .slice s.A s.b.length s.c]
structure Opk.At (s : Opk) (w : World) : Prop where
  row : Row w s.A (bs s.b)
  le : s.b.length ≤ s.c
  mx : s.c ≤ maxLen
  lo : -9223372036854775808 ≤ s.kind
  hi : s.kind < 9223372036854775808
  lo2 : -9223372036854775808 ≤ s.at_
  hi2 : s.at_ < 9223372036854775808
theorem opks_get : ∀ (l : List Opk) (k : Nat) (s : Opk), l[k]? = some s → ∀ j u, s.cells[j]? = some u → (l.flatMap Opk.cells)[k * 3 + j]? = some u
  | a :: l, 0, s, h, j, u, hj => by
    simp at h; subst h
    rw [Nat.zero_mul, Nat.zero_add, List.flatMap_cons, List.getElem?_append_left (by
      have := (List.getElem?_eq_some_iff.1 hj).1
      exact this)]
    exact hj
  | a :: l, k + 1, s, h, j, u, hj => by
    have ih := opks_get l k s (by simpa using h) j u hj
    rw [List.flatMap_cons, List.getElem?_append_right (by simp [Opk.cells]; omega), show (k + 1) * 3 + j - a.cells.length = k * 3 + j by simp [Opk.cells]; omega]
    exact ih
  | [], _, _, h, _, _, _ => by simp at h
theorem row_opk {w : World} {A : Option Addr} {l : List Opk} (h : Row w A (l.flatMap Opk.cells)) {k : Nat} {s : Opk} (hs : l[k]? = some s) :
    ∃ b o, A = some ⟨b, o, none⟩ ∧ w.cell? ⟨b, o + k * 3, none⟩ = some (.int .i64 s.kind) ∧ w.cell? ⟨b, o + k * 3 + 1, none⟩ = some (.int .i64 s.at_) ∧ w.cell? ⟨b, o + k * 3 + 2, none⟩ = some (.slice s.A s.b.length s.c) := by
  have g := opks_get l k s hs
  rcases h with h | ⟨b, o, e, hc⟩
  · have := g 0 _ rfl; rw [h] at this; simp at this
  · refine ⟨b, o, e, hc _ _ (g 0 _ rfl), ?_, ?_⟩
    · rw [Nat.add_assoc]; exact hc _ _ (g 1 _ rfl)
    · rw [Nat.add_assoc]; exact hc _ _ (g 2 _ rfl)
/-- A body's slices. -/
structure Sls where
  A : Option Addr
  nF : Nat
  cA : Nat
  D : Option Addr
  nD : Nat
  cD : Nat
/-- A body whose lists lie in such blocks. -/
structure SltX (w : World) (P : Nat → Prop) (y : Sls) (s : Slt) : Prop where
  at_ : SltAt w y.A y.nF y.cA y.D y.nD y.cD s
  cf : y.cA ≤ maxLen
  ex : (s.full = [] ∨ ∀ a, y.A = some a → P a.block) ∧ ∃ ps : List Sl, ps.map Sl.l = s.data ∧ Row w y.D (ps.map Sl.val) ∧ (ps = [] ∨ ∀ a, y.D = some a → P a.block) ∧ ∀ p ∈ ps, Row w p.A (bs p.l) ∧ p.l.length = p.n ∧ (p.l = [] ∨ ∀ a, p.A = some a → P a.block)
theorem SltX.below {w w' : World} {P Q : Nat → Prop} {y : Sls} {s : Slt} (h : SltX w P y s) (hb : Below w.heap.size w w') (hPQ : ∀ k, P k → Q k) : SltX w' Q y s := by
  obtain ⟨h1, h0, h2, ps, h3, h4, h5, h6⟩ := h
  exact ⟨h1.below hb, h0, h2.imp id fun h a ha => hPQ _ (h a ha), ps, h3, h4.below hb, h5.imp id fun h a ha => hPQ _ (h a ha), fun p hp => ⟨(h6 p hp).1.below hb, (h6 p hp).2.1, (h6 p hp).2.2.imp id fun h a ha => hPQ _ (h a ha)⟩⟩
theorem SltX.mono {w : World} {P Q : Nat → Prop} {y : Sls} {s : Slt} (h : SltX w P y s) (hPQ : ∀ k, P k → Q k) : SltX w Q y s := h.below ⟨rfl, rfl, rfl, Nat.le_refl _, fun _ _ => rfl⟩ hPQ
theorem SltX.grown {w w' : World} {P : Nat → Prop} {y : Sls} {s : Slt} {g : Nat} (h : SltX w P y s) (hg : w.grownBy w' (some g)) (hP : ¬ P g) : SltX w' P y s := by
  obtain ⟨h1, h0, h2, ps, h3, h4, h5, h6⟩ := h
  have key : ∀ (A : Option Addr) (xs : List Value), Row w A xs → (xs = [] ∨ ∀ a, A = some a → P a.block) → Row w' A xs := by
    intro A xs hr hx
    rcases hx with hx | hx
    · rw [hx]; exact Row.nil _ _
    · exact row_grown hr hg (fun a ha q => by injection q with q; exact hP (q ▸ hx a ha))
  have r1 := key _ _ h1.rf (h2.imp (fun e => by rw [e]; rfl) id)
  have r2 := key _ _ h4 (h5.imp (fun e => by rw [e]; rfl) id)
  have r3 : ∀ p ∈ ps, Row w' p.A (bs p.l) := fun p hp => key _ _ (h6 p hp).1 ((h6 p hp).2.2.imp (fun e => by rw [e]; rfl) id)
  exact ⟨⟨h1.lf, h1.ld, h1.cf, h1.cd, r1, ps, h3, r2, fun p hp => ⟨r3 p hp, (h6 p hp).2.1⟩⟩, h0, h2, ps, h3, r2, h5, fun p hp => ⟨r3 p hp, (h6 p hp).2⟩⟩
theorem SltNew.x {w : World} {base nF cA nD cD : Nat} {A D : Option Addr} {s : Slt} (h : SltNew w base A nF cA D nD cD s) : SltX w (fun k => base ≤ k ∧ k < w.heap.size) ⟨A, nF, cA, D, nD, cD⟩ s := by
  have h0 := h.at_
  obtain ⟨G, ps, h1, h2⟩ := h
  exact ⟨h0, h2.fu.cap, .inr fun a ha => h2.fu.blk ha, ps, h1, Row.of_own h2.li, .inr fun a ha => h2.li.blk ha, fun p hp => ⟨(h2.each p hp).2.1, (h2.each p hp).1, (h2.each p hp).2.2.imp id fun h a ha => (h a ha).1⟩⟩
theorem SltX.zero (w : World) (P : Nat → Prop) : SltX w P ⟨none, 0, 0, none, 0, 0⟩ SltM.s0 :=
  ⟨⟨rfl, rfl, Nat.le_refl _, Nat.le_refl _, Row.nil _ _, [], rfl, Row.nil _ _, nofun⟩, Nat.zero_le _, .inl rfl, [], rfl, Row.nil _ _, .inl rfl, nofun⟩
namespace SltM
open Classical
/-- Small enough. -/
structure Bnd (t : Slt) : Prop where
  f : t.full.length ≤ 3000
  d : t.data.length ≤ 3000
  s : sum t.data ≤ 3000
theorem Bnd.of_may {t : Slt} (h : May t) : Bnd t := by
  have h1 := h.len
  have h2 := h.most
  have h3 := h.room
  unfold left at h3
  exact ⟨by omega, by omega, by omega⟩
noncomputable def insR (t : Slt) (b : List UInt8) : Slt × Int × Int := if May t then (if May (put t (idx t.full) b) then (put t (idx t.full) b, (idx t.full : Int), 0) else (s0, 0, 5)) else (s0, 0, 2)
noncomputable def putR (t : Slt) (p : Int) (b : List UInt8) : Slt × Int := if May t then (if Has t p then (if May (put t p.toNat b) then (put t p.toNat b, 0) else (s0, 5)) else (s0, 7)) else (s0, 2)
noncomputable def delR (t : Slt) (p : Int) : Slt × Int := if May t then (if Has t p then (del t p.toNat, 0) else (s0, 7)) else (s0, 2)
noncomputable def getR (t : Slt) (p : Int) : List UInt8 × Int := if May t then (if Has t p then ((t.data[p.toNat]?).getD [], 0) else ([], 7)) else ([], 2)
theorem bnd0 : Bnd s0 := ⟨by decide, by decide, by decide⟩
theorem insR_bnd (t : Slt) (b : List UInt8) : Bnd (insR t b).1 := by
  unfold insR
  split
  · split
    · rename_i h1 h2; exact Bnd.of_may h2
    · exact bnd0
  · exact bnd0
theorem putR_bnd (t : Slt) (p : Int) (b : List UInt8) : Bnd (putR t p b).1 := by
  unfold putR
  split
  · split
    · split
      · rename_i h1 h2 h3; exact Bnd.of_may h3
      · exact bnd0
    · exact bnd0
  · exact bnd0
theorem delR_bnd (t : Slt) (p : Int) (hb : Bnd t) : Bnd (delR t p).1 := by
  unfold delR
  split
  · split
    · have h3 := hb.f
      have h4 := hb.d
      have h5 := hb.s
      refine ⟨?_, ?_, ?_⟩
      · show (List.take _ _).length ≤ _
        rw [List.length_take, List.length_set]; omega
      · show (List.take _ _).length ≤ _
        rw [List.length_take, List.length_set]; omega
      · show sum (List.take _ _) ≤ _
        refine Nat.le_trans (sum_le _) ?_
        rcases Nat.lt_or_ge p.toNat t.data.length with hk | hk
        · have := sum_set (List.getElem?_eq_getElem hk) ([] : List UInt8)
          simp only [List.length_nil] at this
          omega
        · rw [List.set_eq_of_length_le hk]; exact h5
    · exact bnd0
  · exact bnd0
end SltM
end Go.Proofs.Ytofbfehpadjbbaa
