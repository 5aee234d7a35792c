/-
  One slot of a form is read: its bytes, cloned, go behind the list.
  Conditions: none.
-/
import Derived.Test.YtofbfehpadjbbaaSltR1
import Derived.Test.YtofbfehpadjbbaaSltC2
namespace Go.Proofs.Ytofbfehpadjbbaa
open Go.RowKit Go.Sort Go.Lib
set_option linter.unusedVariables false
set_option linter.unusedSimpArgs false
/-- Each slice lies in a block that may be written. -/
def NF (w : World) (ps : List Sl) : Prop := ∀ p ∈ ps, p.l = [] ∨ ∀ a : Addr, p.A = some a → ∃ t cs, Blk w a.block t cs
theorem NF.below {w w' : World} {ps : List Sl} (h : NF w ps) (hb : Below w.heap.size w w') : NF w' ps := fun p hp => (h p hp).imp id fun h1 a ha => by
  obtain ⟨t, cs, hB⟩ := h1 a ha
  exact ⟨t, cs, hB.below hb hB.lt⟩
theorem NF.kept {w w' : World} {ps : List Sl} {row : Option Nat} (h : NF w ps) (hg : w.grownBy w' row) (h3 : ∀ p ∈ ps, p.l = [] ∨ ∀ a, p.A = some a → row ≠ some a.block) : NF w' ps := fun p hp => by
  rcases h3 p hp with h4 | h4
  · exact .inl h4
  · exact (h p hp).imp id fun h1 a ha => by
      obtain ⟨t, cs, hB⟩ := h1 a ha
      exact ⟨t, cs, hB.grown hg (h4 a ha).symm⟩
theorem NF.snoc {w : World} {ps : List Sl} {p : Sl} (h : NF w ps) (hp : p.l = [] ∨ ∀ a : Addr, p.A = some a → ∃ t cs, Blk w a.block t cs) : NF w (ps ++ [p]) := fun q hq => by
  rcases List.mem_append.1 hq with hq | hq
  · exact h q hq
  · rw [List.mem_singleton] at hq; subst hq; exact hp
theorem owns_blk {w : World} {base n c : Nat} {e : TypeId} {A : Option Addr} {xs : List Value} (h : w.ownsRow base e 1 (.slice A n c) n xs) (a : Addr) (ha : A = some a) : ∃ t cs, Blk w a.block t cs := by
  subst ha
  rcases h.2 with ⟨hv, hn⟩ | ⟨g, cap, cur, hv, hb, hg, _⟩
  · cases hv
  · injection hv with e1
    injection e1 with e1
    subst e1
    exact ⟨_, _, hg⟩
def crP (ab ao c p ed : Nat) (D1 : Option Addr) (k cD1 G : Nat) (B : Option Addr) (nx cb : Nat) (B1 : Option Addr) (c3 g3 : Nat) (D2 : Option Addr) (c2 : Nat) : List (Nat × Nat × Value) :=
  [(0, 50, (.pointer (some ⟨G, 3, none⟩))), (1, 51, (.slice D1 k cD1)), (2, 52, (.slice (some ⟨ab, ao, none⟩) 500 c)), (3, 53, (.int .i64 (p : Int))), (4, 54, (.int .i64 (ed : Int))), (5, 55, (.slice B nx cb)), (6, 56, (.slice B1 nx c3)), (7, 57, (.slice (some ⟨g3, 0, none⟩) 1 1)), (8, 58, (.slice D2 (k + 1) c2)), (9, 59, (.pointer (some ⟨G, 3, none⟩)))]
structure CrW (wr : World) (k0 k1 : Nat) (A1 : Option Addr) (nF c1 G : Nat) (D1 : Option Addr) (k cD1 : Nat) (fl : List Bool) (ps : List Sl) (x : List UInt8) (nx : Nat) (B1 : Option Addr) (c3 g3 : Nat) (D2 : Option Addr) (c2 : Nat) (b1 b6 b7 b8 b10 : Bool) (w : World) : Prop where
  k7 : b7 = true → b6 = true
  k8 : b8 = true → b7 = true ∧ b1 = true
  k10 : b10 = true → b8 = true
  bel : Below G wr w
  gr : wr.heap.size ≤ w.heap.size
  hG : G < wr.heap.size
  bwr : b8 = false → Below wr.heap.size wr w
  z : b10 = false → Blk w G 26 #[.int .u8 (k0 : Int), .int .u32 (k1 : Int), .slice A1 nF c1, .slice D1 k cD1]
  zn : b10 = true → Blk w G 26 #[.int .u8 (k0 : Int), .int .u32 (k1 : Int), .slice A1 nF c1, .slice D2 (k + 1) c2]
  f6 : b6 = true → w.ownsRow wr.heap.size 5 1 (.slice B1 nx c3) nx (bs x) ∧ x.length = nx
  f7 : b7 = true → b8 = false → Row w (some ⟨g3, 0, none⟩) [.slice B1 nx c3]
  nf : NF w ps
  nfn : b6 = true → ∀ a : Addr, B1 = some a → ∃ t cs, Blk w a.block t cs
  fin : b8 = true → OwnP w G G A1 nF c1 D2 (k + 1) c2 fl (ps ++ [⟨B1, nx, c3, x⟩])
section
variable {wr : World} {k0 k1 : Nat} {A1 : Option Addr} {nF c1 G : Nat} {D1 : Option Addr} {k cD1 : Nat} {fl : List Bool} {ps : List Sl} {x : List UInt8} {nx : Nat} {B1 : Option Addr} {c3 g3 : Nat} {D2 : Option Addr} {c2 : Nat} {b1 b6 b7 b8 b10 : Bool} {w w' : World}
theorem CrW.no10 (h : CrW wr k0 k1 A1 nF c1 G D1 k cD1 fl ps x nx B1 c3 g3 D2 c2 b1 b6 b7 b8 b10 w) (q : b8 = false) : b10 = false := by cases hb : b10 with | false => rfl | true => have := h.k10 hb; rw [q] at this; cases this
theorem CrW.no8 (h : CrW wr k0 k1 A1 nF c1 G D1 k cD1 fl ps x nx B1 c3 g3 D2 c2 b1 b6 b7 b8 b10 w) (q : b1 = false) : b8 = false := by cases hb : b8 with | false => rfl | true => have := (h.k8 hb).2; rw [q] at this; cases this
theorem CrW.no8' (h : CrW wr k0 k1 A1 nF c1 G D1 k cD1 fl ps x nx B1 c3 g3 D2 c2 b1 b6 b7 b8 b10 w) (q : b7 = false) : b8 = false := by cases hb : b8 with | false => rfl | true => have := (h.k8 hb).1; rw [q] at this; cases this
theorem CrW.no7 (h : CrW wr k0 k1 A1 nF c1 G D1 k cD1 fl ps x nx B1 c3 g3 D2 c2 b1 b6 b7 b8 b10 w) (q : b6 = false) : b7 = false := by cases hb : b7 with | false => rfl | true => have := h.k7 hb; rw [q] at this; cases this
theorem CrW.at1 (h : CrW wr k0 k1 A1 nF c1 G D1 k cD1 fl ps x nx B1 c3 g3 D2 c2 b1 b6 b7 b8 b10 w) : CrW wr k0 k1 A1 nF c1 G D1 k cD1 fl ps x nx B1 c3 g3 D2 c2 true b6 b7 b8 b10 w :=
  ⟨h.k7, fun q => ⟨(h.k8 q).1, rfl⟩, h.k10, h.bel, h.gr, h.hG, h.bwr, h.z, h.zn, h.f6, h.f7, h.nf, h.nfn, h.fin⟩
theorem CrW.at6 {B' : Option Addr} {c' : Nat} (h : CrW wr k0 k1 A1 nF c1 G D1 k cD1 fl ps x nx B1 c3 g3 D2 c2 b1 b6 b7 b8 b10 w) (q6 : b6 = false) (hx : x.length = nx) (hO : Own w' w.heap.size B' c' x) (hb : Below w.heap.size w w') :
    CrW wr k0 k1 A1 nF c1 G D1 k cD1 fl ps x nx B' c' g3 D2 c2 b1 true b7 b8 b10 w' := by
  subst q6
  obtain rfl := h.no7 rfl
  obtain rfl := h.no8' rfl
  obtain rfl := h.no10 rfl
  have h1 := hO.base_ h.gr
  unfold Own at h1
  rw [hx] at h1
  exact ⟨nofun, nofun, nofun, h.bel.trans (hb.mono (by have := h.gr; have := h.hG; omega)), Nat.le_trans h.gr hb.size, h.hG, fun _ => (h.bwr rfl).trans (hb.mono h.gr), fun _ => (h.z rfl).below hb (h.z rfl).lt, nofun, fun _ => ⟨h1, hx⟩, nofun, h.nf.below hb, fun _ => owns_blk h1, nofun⟩
theorem CrW.at7 (h : CrW wr k0 k1 A1 nF c1 G D1 k cD1 fl ps x nx B1 c3 g3 D2 c2 b1 b6 b7 b8 b10 w) (q7 : b7 = false) (q6 : b6 = true) : CrW wr k0 k1 A1 nF c1 G D1 k cD1 fl ps x nx B1 c3 w.heap.size D2 c2 b1 b6 true b8 b10 (w.alloc (.cells #[.slice B1 nx c3] 27)) := by
  subst q7 q6
  obtain rfl := h.no8' rfl
  obtain rfl := h.no10 rfl
  exact ⟨fun _ => rfl, nofun, nofun, h.bel.alloc (by have := h.gr; have := h.hG; omega) _, Nat.le_trans h.gr (by simp), h.hG, fun _ => (h.bwr rfl).alloc h.gr _, fun _ => (h.z rfl).alloc _, nofun, fun _ => ⟨(h.f6 rfl).1.alloc _, (h.f6 rfl).2⟩, fun _ _ => row_new w _ _ _ _ rfl, h.nf.below ((Below.refl _ _).alloc (Nat.le_refl _) _), fun _ => owns_blk ((h.f6 rfl).1.alloc _), nofun⟩
theorem CrW.at8 {D' : Option Addr} {c' : Nat} (h : CrW wr k0 k1 A1 nF c1 G D1 k cD1 fl ps x nx B1 c3 g3 D2 c2 b1 b6 b7 b8 b10 w) (hown : OwnP wr G G A1 nF c1 D1 k cD1 fl ps) (q8 : b8 = false) (q1 : b1 = true) (q7 : b7 = true) (h1 : w'.ownsRow G 27 1 (.slice D' (k + 1) c') (k + 1) (ps.map Sl.val ++ [.slice B1 nx c3])) (h2 : w.grownBy w' (Value.slice D1 k cD1).ownBlock)
    (h3 : (Value.slice D' (k + 1) c').ownBlock = (Value.slice D1 k cD1).ownBlock ∨ (Value.slice D' (k + 1) c').ownBlock = some w.heap.size) :
    CrW wr k0 k1 A1 nF c1 G D1 k cD1 fl ps x nx B1 c3 g3 D' c' b1 b6 b7 true b10 w' := by
  subst q8 q7 q1
  obtain rfl := h.no10 rfl
  obtain rfl := h.k7 rfl
  have hOP := hown.below (h.bwr rfl)
  obtain ⟨o8, l8⟩ := h.f6 rfl
  have hGl := h.hG
  have hgr := h.gr
  have hrow : ∀ j, (Value.slice D1 k cD1).ownBlock = some j → ∃ y, D1 = some y ∧ y.block = j := by
    intro j hj
    cases D1 with
    | none => cases hj
    | some y => injection hj with hj; exact ⟨y, rfl, hj⟩
  have hDl : ∀ j, (Value.slice D1 k cD1).ownBlock = some j → G ≤ j ∧ j < wr.heap.size ∧ j ≠ G := by
    intro j hj
    obtain ⟨y, hy, e⟩ := hrow j hj
    have := hown.li.blk hy
    have := hown.gD y hy
    omega
  have hBl : ∀ a, B1 = some a → wr.heap.size ≤ a.block ∧ a.block < w.heap.size := by
    intro a ha
    subst ha
    exact o8.lt _ rfl
  refine ⟨fun _ => rfl, fun _ => ⟨rfl, rfl⟩, nofun, h.bel.grown h2 (by omega) (fun q hq => (hDl q hq).1), Nat.le_trans h.gr h2.size, h.hG, nofun, fun _ => (h.z rfl).grown h2 (fun q => (hDl _ q.symm).2.2 rfl), nofun, fun _ => ⟨o8.kept h2 ?_, l8⟩, fun _ q => (by cases q), h.nf.kept h2 (fun p hp => (hOP.each p hp).2.2.imp id fun h4 a ha q => ?_), fun _ => owns_blk (o8.kept h2 ?_), fun _ => ?_⟩
  · cases hB : B1 with
    | none => exact .inl rfl
    | some a =>
      right
      intro q
      have h5 := hBl a hB
      have h6 := hDl a.block q.symm
      omega
  · obtain ⟨y, hy, e⟩ := hrow _ q
    exact (h4 a ha).2.2.2 y hy e.symm
  · cases hB : B1 with
    | none => exact .inl rfl
    | some a =>
      right
      intro q
      have h5 := hBl a hB
      have h6 := hDl a.block q.symm
      omega
  · refine hOP.appP (by omega) (by unfold OwnLs; rw [List.map_append]; exact h1) h2 h3 ⟨l8, Row.of_own o8, .inr fun a ha => ?_⟩
    have h5 := hBl a ha
    exact ⟨⟨by omega, h5.2⟩, by omega, fun y hy => by have := (hown.fu.blk hy).2; omega, fun y hy => by have := (hown.li.blk hy).2; omega⟩
theorem CrW.at10 (h : CrW wr k0 k1 A1 nF c1 G D1 k cD1 fl ps x nx B1 c3 g3 D2 c2 b1 b6 b7 b8 b10 w) (q10 : b10 = false) (q8 : b8 = true) : CrW wr k0 k1 A1 nF c1 G D1 k cD1 fl ps x nx B1 c3 g3 D2 c2 b1 b6 b7 b8 true (w.setCell ⟨G, 3, none⟩ (.slice D2 (k + 1) c2)) := by
  subst q10 q8
  obtain ⟨q7, q1⟩ := h.k8 rfl
  have q6 := h.k7 q7
  have gg := grownBy_setCell w G 3 (.slice D2 (k + 1) c2)
  have hGl := h.hG
  have hgr := h.gr
  obtain ⟨o8, l8⟩ := h.f6 q6
  have hne : (Value.slice B1 nx c3).ownBlock = none ∨ (Value.slice B1 nx c3).ownBlock ≠ some G := by
    cases hB : B1 with
    | none => exact .inl rfl
    | some a =>
      right
      intro q
      injection q with q
      have := (o8.lt a.block (by rw [hB]; rfl)).1
      omega
  exact ⟨h.k7, h.k8, fun _ => rfl, h.bel.grown gg (by omega) (fun q hq => by injection hq with hq; omega), Nat.le_trans h.gr gg.size, h.hG, nofun, nofun, fun _ => (h.z rfl).set_ 3 _, fun _ => ⟨o8.kept gg hne, l8⟩, fun _ q => (by cases q), h.nf.kept gg (fun p hp => ((h.fin rfl).each p (List.mem_append.2 (.inl hp))).2.2.imp id fun h4 a ha q => by injection q with q; exact (h4 a ha).2.1 q.symm), fun _ => owns_blk (o8.kept gg hne), fun _ => (h.fin rfl).setG 3 _⟩
end
/-- append of a flag, in its order. -/
theorem wpl_rdF (w : World) {ops : Array Oper} {rest : List Oper} {o : Oper} {a : Act} {Q : Exit → Act → World → Prop} (hgd : Region.wanted o (yielded ops a.tmps) = true) (sl x : Operand)
    (ho : o.op = .call { callee := .builtin .append, args := #[sl, x], argTypes := #[23, 23] })
    {base G : Nat} {A1 : Option Addr} {n1 c1 : Nat} {D1 : Option Addr} {n2 c2 : Nat} {full : List Bool} {ps : List Sl} (hs : a.eval sl = .slice A1 n1 c1) (h : OwnP w base G A1 n1 c1 D1 n2 c2 full ps) (hG : G < w.heap.size) (hbase : base ≤ w.heap.size)
    (A2 : Option Addr) (c' : Nat) (b : Bool) (hx : a.eval x = .slice A2 1 c') (hr : Row w A2 [Value.bool b]) (hlen : n1 + 1 ≤ 1000000)
    (hK : ∀ A' c' w', OwnP w' base G A' (n1 + 1) c' D1 n2 c2 (full ++ [b]) ps → w.grownBy w' (Value.slice A1 n1 c1).ownBlock → wpList Try.prog ops Q rest (a.put o.dst (.slice A' (n1 + 1) c')) w') : wpList Try.prog ops Q (o :: rest) a w := by
  obtain ⟨i0, hi0, hz0, hz1, hz2⟩ := info_parts info_bool
  refine wpl_append w hgd sl x _ ho base 4 i0 _ 1 1 Try.underlying23 hi0 hz0 hz1 hz2 rfl (by omega) _ n1 (full.map .bool) hs h.fu A2 1 c' [Value.bool b] hx rfl hr (flags_one [b])
    (by unfold maxLen; omega) (by omega) hbase fun A' c' w' h1 h2 h3 => hK A' c' w' (h.appF hG (by unfold OwnF; rw [List.map_append]; exact h1) h2 h3) h2
end Go.Proofs.Ytofbfehpadjbbaa
