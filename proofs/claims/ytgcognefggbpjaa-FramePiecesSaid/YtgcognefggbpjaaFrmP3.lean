/-
  Calls of a stream among the arguments; the program's stream and the document's, side by side.
  Conditions: the streams lie in blocks of their own.
-/
import Derived.Test.YtgcognefggbpjaaFrmP2
import Derived.Test.YtgcognefggbpjaaFrameSplitsWalk
namespace Go.Proofs.Ytgcognefggbpjaa
open Go.RowKit Go.Sort Go.Lib
set_option linter.unusedVariables false
structure Opv where
  kind : Int
  A : Option Addr
  c : Nat
  b : List UInt8
def Opv.cells (s : Opv) : List Value := [.int .i64 s.kind, .slice s.A s.b.length s.c]
structure Opv.At (s : Opv) (w : World) : Prop where
  row : Row w s.A (bs s.b)
  le : s.b.length ≤ s.c
  mx : s.c ≤ maxLen
  lo : -9223372036854775808 ≤ s.kind
  hi : s.kind < 9223372036854775808
theorem opvs_get : ∀ (l : List Opv) (k : Nat) (s : Opv), l[k]? = some s → ∀ j u, s.cells[j]? = some u → (l.flatMap Opv.cells)[k * 2 + j]? = some u
  | a :: l, 0, s, h, j, u, hj => by
    simp at h; subst h
    rw [Nat.zero_mul, Nat.zero_add, List.flatMap_cons, List.getElem?_append_left (by
      have := (List.getElem?_eq_some_iff.1 hj).1
      exact this)]
    exact hj
  | a :: l, k + 1, s, h, j, u, hj => by
    have ih := opvs_get l k s (by simpa using h) j u hj
    rw [List.flatMap_cons, List.getElem?_append_right (by simp [Opv.cells]; omega), show (k + 1) * 2 + j - a.cells.length = k * 2 + j by simp [Opv.cells]; omega]
    exact ih
  | [], _, _, h, _, _, _ => by simp at h
theorem row_opv {w : World} {A : Option Addr} {l : List Opv} (h : Row w A (l.flatMap Opv.cells)) {k : Nat} {s : Opv} (hs : l[k]? = some s) :
    ∃ b o, A = some ⟨b, o, none⟩ ∧ w.cell? ⟨b, o + k * 2, none⟩ = some (.int .i64 s.kind) ∧ w.cell? ⟨b, o + k * 2 + 1, none⟩ = some (.slice s.A s.b.length s.c) := by
  have g := opvs_get l k s hs
  rcases h with h | ⟨b, o, e, hc⟩
  · have := g 0 _ rfl; rw [h] at this; simp at this
  · refine ⟨b, o, e, hc _ _ (g 0 _ rfl), ?_⟩
    rw [Nat.add_assoc]; exact hc _ _ (g 1 _ rfl)
namespace FrmM
def tot (l : List Opv) (k : Nat) : Nat := ((l.take k).map (·.b.length)).sum
theorem tot_zero (l : List Opv) : tot l 0 = 0 := by simp [tot]
theorem tot_succ {l : List Opv} {k : Nat} {p : Opv} (h : l[k]? = some p) : tot l (k + 1) = tot l k + p.b.length := by
  obtain ⟨hk, e⟩ := List.getElem?_eq_some_iff.1 h
  unfold tot
  rw [take_snoc l k hk, e, List.map_append, List.sum_append]
  simp
theorem tot_le (l : List Opv) : ∀ d k : Nat, k + d ≤ l.length → tot l k ≤ tot l (k + d)
  | 0, k, _ => Nat.le_refl _
  | d + 1, k, h => by
    have h1 := tot_le l d k (by omega)
    have h2 := tot_succ (l := l) (k := k + d) (List.getElem?_eq_getElem (by omega))
    rw [← Nat.add_assoc]; omega
theorem tot_mono {l : List Opv} {k m : Nat} (h : k ≤ m) (hm : m ≤ l.length) : tot l k ≤ tot l m := by
  have := tot_le l (m - k) k (by omega)
  rwa [show k + (m - k) = m by omega] at this
end FrmM
/-- The blocks that both streams' methods may change. -/
def TwoP (g g2 : Nat) (A : Option Addr) (i : Nat) : Prop := StrP g A i ∨ i = g2
/-- Both streams, on the way from the world w1. -/
structure Two (w1 : World) (g g2 : Nat) (A0 R0 A R : Option Addr) (la lr : List UInt8) (ba bb : Bool) (w' : World) : Prop where
  st : StrAt w' g A la (FrmM.err ba)
  rf : RefAt w' g2 R lr bb
  sep : ∀ a a', A = some a → R = some a' → a.block ≠ a'.block
  ag : ∀ a, A = some a → a.block ≠ g2
  gg : g < g2
  an : ∀ a, A = some a → (∃ a0, A0 = some a0 ∧ a.block = a0.block) ∨ w1.heap.size ≤ a.block
  rn : ∀ a, R = some a → R0 = some a ∨ w1.heap.size ≤ a.block
  al : ∀ a, A = some a → a.block < w'.heap.size
  s1 : w1.heap.size ≤ w'.heap.size
  chg : Chg w1 w' (TwoP g g2 A0)
section
variable {w1 w' w2 : World} {g g2 : Nat} {A0 R0 A R : Option Addr} {la lr la' lr' : List UInt8} {ba bb : Bool} {e : Ending}
theorem RefAt.blk {w : World} {g : Nat} {R : Option Addr} {l : List UInt8} {br : Bool} (h : RefAt w g R l br) {a : Addr} (ha : R = some a) : g < a.block ∧ a.block < w.heap.size := by
  obtain ⟨A, n, c, X, _, _, _, h3, _⟩ := h
  exact h3 a ha
theorem StrAt.blk {w : World} {g : Nat} {A : Option Addr} {l : List UInt8} {e : Nat} (h : StrAt w g A l e) {a : Addr} (ha : A = some a) : g < a.block := by
  obtain ⟨n, c, _, _, _, _, hb, _⟩ := h
  exact hb a ha
theorem Two.feed (h : Two w1 g g2 A0 R0 A0 R la lr ba bb w') (hf : FedA w' g A0 la' ba e w2) : ∃ A', e = .returned (.int .i64 (FrmM.err ba : Nat)) ∧ Two w1 g g2 A0 R0 A' R la' lr ba bb w2 := by
  obtain ⟨A', he, hs, hc, ha⟩ := hf
  have hng : ¬ StrP g A0 g2 := by
    rintro (q | ⟨a, q1, q2⟩)
    · have := h.gg; omega
    · exact h.ag a q1 q2
  have hnr : ∀ a, R = some a → ¬ StrP g A0 a.block := by
    rintro a q0 (q | ⟨a2, q1, q2⟩)
    · have := (h.rf.blk q0).1; have := h.gg; omega
    · exact h.sep a2 a q1 q0 q2
  refine ⟨A', he, hs, h.rf.chg hc hng hnr, fun a a' q1 q2 => ?_, fun a q1 => ?_, h.gg, fun a q1 => ?_, h.rn, fun a q1 => (ha a q1).2, Nat.le_trans h.s1 hc.size, h.chg.trans (hc.imp fun i hi => .inl hi)⟩
  · rcases (ha a q1).1 with ⟨a0, q3, q4⟩ | q3
    · rw [q4]; exact h.sep a0 a' q3 q2
    · have := (h.rf.blk q2).2; omega
  · rcases (ha a q1).1 with ⟨a0, q3, q4⟩ | q3
    · rw [q4]; exact h.ag a0 q3
    · have := h.rf.lt; omega
  · rcases (ha a q1).1 with q3 | q3
    · exact .inl q3
    · exact .inr (Nat.le_trans h.s1 q3)
theorem Two.next {x : List UInt8 × List UInt8 × Bool × Nat} (h : Two w1 g g2 A0 R0 A0 R la lr ba bb w') (hf : NxtA w' g A0 x e w2) :
    ∃ A' B n c, e = .returned (.tuple #[.slice B n c, .int .i64 (x.2.2.2 : Nat)]) ∧ Hid (x.1.length = n) ∧ Own w2 w'.heap.size B c x.1 ∧ (∀ a, A' = some a → ∃ a0, A0 = some a0 ∧ a.block = a0.block) ∧ Two w1 g g2 A0 R0 A' R x.2.1 lr x.2.2.1 bb w2 := by
  obtain ⟨A', B, n, c, he, hn, ho, hs, hc, ha⟩ := hf
  have hng : ¬ StrP g A0 g2 := by
    rintro (q | ⟨a, q1, q2⟩)
    · have := h.gg; omega
    · exact h.ag a q1 q2
  have hnr : ∀ a, R = some a → ¬ StrP g A0 a.block := by
    rintro a q0 (q | ⟨a2, q1, q2⟩)
    · have := (h.rf.blk q0).1; have := h.gg; omega
    · exact h.sep a2 a q1 q0 q2
  refine ⟨A', B, n, c, he, hn, ho, ha, hs, h.rf.chg hc hng hnr, fun a a' q1 q2 => ?_, fun a q1 => ?_, h.gg, fun a q1 => .inl (ha a q1), h.rn, fun a q1 => ?_, Nat.le_trans h.s1 hc.size, h.chg.trans (hc.imp fun i hi => .inl hi)⟩
  · obtain ⟨a0, q3, q4⟩ := ha a q1
    rw [q4]; exact h.sep a0 a' q3 q2
  · obtain ⟨a0, q3, q4⟩ := ha a q1
    rw [q4]; exact h.ag a0 q3
  · obtain ⟨a0, q3, q4⟩ := ha a q1
    rw [q4]; exact Nat.lt_of_lt_of_le (h.al a0 q3) hc.size
theorem Two.rfeed (h : Two w1 g g2 A0 R0 A R0 la lr ba bb w') (hf : FedR w' g2 R0 lr' bb e w2) : ∃ R', e = .returned (.int .i64 (FrmM.err bb : Nat)) ∧ Two w1 g g2 A0 R0 A R' la lr' ba bb w2 := by
  obtain ⟨R', he, hs, hc, ha⟩ := hf
  refine ⟨R', he, h.st.chg hc (by have := h.gg; omega) h.ag, hs, fun a a' q1 q2 => ?_, h.ag, h.gg, h.an, fun a q1 => ?_, fun a q1 => Nat.lt_of_lt_of_le (h.al a q1) hc.size, Nat.le_trans h.s1 hc.size, h.chg.trans (hc.imp fun i hi => .inr hi)⟩
  · rcases ha a' q2 with q3 | q3
    · exact h.sep a a' q1 q3
    · intro q4
      have := h.al a q1; omega
  · rcases ha a q1 with q3 | q3
    · exact .inl q3
    · exact .inr (Nat.le_trans h.s1 q3)
theorem Two.rnext {x : List UInt8 × List UInt8 × Bool × Nat} (h : Two w1 g g2 A0 R0 A R la lr ba bb w') (hf : NxtR w' g2 R x e w2) :
    ∃ B n c, e = .returned (.tuple #[.slice B n c, .int .i64 (x.2.2.2 : Nat)]) ∧ Hid (x.1.length = n) ∧ Row w2 B (bs x.1) ∧ Chg w' w2 (fun i => i = g2) ∧ Two w1 g g2 A0 R0 A R la x.2.1 ba x.2.2.1 w2 := by
  obtain ⟨B, n, c, he, hn, hr, hs, hc⟩ := hf
  exact ⟨B, n, c, he, hn, hr, hc, h.st.chg hc (by have := h.gg; omega) h.ag, hs, h.sep, h.ag, h.gg, h.an, h.rn, fun a q1 => Nat.lt_of_lt_of_le (h.al a q1) hc.size, Nat.le_trans h.s1 hc.size, h.chg.trans (hc.imp fun i hi => .inr hi)⟩
end
/-- What holds of both streams ahead of call q. -/
structure PInv (w : World) (l : List Opv) (g g2 q : Nat) (A R : Option Addr) (b : List UInt8) (br : Bool) (w' : World) : Prop where
  st : StrAt w' g A b (FrmM.err br)
  rf : RefAt w' g2 R b br
  sep : ∀ a a', A = some a → R = some a' → a.block ≠ a'.block
  ag : ∀ a, A = some a → a.block ≠ g2
  gg : g < g2
  al : ∀ a, A = some a → a.block < w'.heap.size
  ok : br = true → b = []
  len : b.length ≤ FrmM.tot l q
  bel : Below w.heap.size w w'
  lo : w.heap.size ≤ g
section
variable {w w1 w' w2 : World} {l : List Opv} {g g2 q : Nat} {A R A' R' : Option Addr} {b b' : List UInt8} {br br' : Bool} {P : Nat → Prop}
theorem PInv.two (h : PInv w l g g2 q A R b br w') : Two w' g g2 A R A R b b br br w' :=
  ⟨h.st, h.rf, h.sep, h.ag, h.gg, fun a ha => .inl ⟨a, ha, rfl⟩, fun a ha => .inl ha, h.al, Nat.le_refl _, Chg.refl _ _⟩
theorem PInv.chg (h : PInv w l g g2 q A R b br w') (hc : Chg w' w2 P) (h1 : ¬ P g) (h2 : ¬ P g2) (h3 : ∀ a, A = some a → ¬ P a.block) (h4 : ∀ a, R = some a → ¬ P a.block) (h5 : ∀ i, P i → w.heap.size ≤ i) : PInv w l g g2 q A R b br w2 :=
  ⟨h.st.chg hc h1 h3, h.rf.chg hc h2 h4, h.sep, h.ag, h.gg, fun a ha => Nat.lt_of_lt_of_le (h.al a ha) hc.size, h.ok, h.len, hc.below h.bel h.bel.size h5, h.lo⟩
theorem PInv.below (h : PInv w l g g2 q A R b br w') (hb : Below w'.heap.size w' w2) : PInv w l g g2 q A R b br w2 :=
  h.chg (P := fun _ => False) (Chg.of_below hb) (fun q => q) (fun q => q) (fun _ _ q => q) (fun _ _ q => q) (fun _ q => q.elim)
theorem PInv.of_two (h : PInv w l g g2 q A R b br w') (t : Two w' g g2 A R A' R' b' b' br' br' w2) (ok : br' = true → b' = []) (len : b'.length ≤ FrmM.tot l (q + 1)) : PInv w l g g2 (q + 1) A' R' b' br' w2 :=
  ⟨t.st, t.rf, t.sep, t.ag, t.gg, t.al, ok, len, t.chg.below h.bel h.bel.size (fun i hi => by
    rcases hi with hi | hi
    · exact Nat.le_trans h.lo (h.st.ge hi)
    · have := h.lo; have := h.gg; omega), h.lo⟩
/-- A store into memory that neither stream holds. -/
theorem PInv.store {pg : Nat} (h : PInv w l g g2 q A R b br w') (hg : w'.grownBy w2 (some pg)) (h1 : pg ≠ g) (h2 : pg ≠ g2) (h3 : ∀ a, A = some a → a.block ≠ pg) (h4 : ∀ a, R = some a → a.block ≠ pg) (h5 : w.heap.size ≤ pg) : PInv w l g g2 q A R b br w2 :=
  h.chg (P := fun i => i = pg) (Chg.of_grown hg (fun i hi => by injection hi with hi; exact hi.symm)) (fun e => h1 e.symm) (fun e => h2 e.symm) h3 h4 (fun i hi => by rw [hi]; exact h5)
theorem Own.chg {base c : Nat} {A : Option Addr} {l : List UInt8} (h : Own w base A c l) (hc : Chg w w' P) (ha : ∀ a, A = some a → ¬ P a.block) : Own w' base A c l := by
  refine ⟨h.1, ?_⟩
  rcases h.2 with hn | ⟨g, cap, cur, e, hb', hg, rest⟩
  · exact .inl hn
  · refine .inr ⟨g, cap, cur, e, hb', ?_, rest⟩
    injection e with e
    rw [hc.block g (Array.getElem?_eq_some_iff.1 hg).1 (ha _ e)]; exact hg
end
end Go.Proofs.Ytgcognefggbpjaa
