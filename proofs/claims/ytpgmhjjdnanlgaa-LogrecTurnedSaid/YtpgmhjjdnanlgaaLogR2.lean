/-
  A record in the making: a list of its own grows, in a region whose order is open.
  Conditions: none.
-/
import Derived.Test.YtpgmhjjdnanlgaaLogR0
namespace Go.Proofs.Ytpgmhjjdnanlgaa
open Go.RowKit Go.Sort Go.Lib
set_option linter.unusedVariables false
set_option linter.unusedSimpArgs false
def rdB (r0 r1 r2 r3 : CodeM.Rd) (b3 b5 b7 : Bool) : CodeM.Rd := if b7 then r3 else if b5 then r2 else if b3 then r1 else r0
/-- The state while a chain (or a page) is read and appended: kk the element's number of cells; xc the record's cells by the list's slice. -/
structure Gr (e : TypeId) (kk B0 base rB : Nat) (w0 : World) (gr gx gz : Nat) (A0 : Option Addr) (m : List UInt8) (r0 r1 r2 r3 : CodeM.Rd) (xc : Value → Array Value) (OT : World → Prop) (pA : Option Addr) (q pc : Nat) (l cc : List Value) (g9 : Nat) (A' : Option Addr) (c' : Nat) (b3 b5 b7 b9 b10 b12 : Bool) (wc : World) : Prop where
  rd : RdIn rB 68 wc gr (rdB r0 r1 r2 r3 b3 b5 b7)
  x : Blk wc gx 31 (xc (if b12 then .slice A' (q + 1) c' else .slice pA q pc))
  z : Blk wc gz 31 #[.int .i64 0, .int .u64 0, .int .u32 0, .int .u64 0, .int .u32 0, .int .u16 0, .slice none 0 0, .slice none 0 0, .slice none 0 0, .int .u64 0, .int .u64 0, .bool false, .int .u64 0, .slice none 0 0, .slice none 0 0]
  bel : Below B0 w0 wc
  sz : base ≤ wc.heap.size
  inp : Row wc A0 (bs m)
  k5 : b5 = true → b3 = true
  k7 : b7 = true → b5 = true
  k9 : b9 = true → b7 = true
  k10 : b10 = true → b9 = true
  k12 : b12 = true → b10 = true
  o0 : b10 = false → wc.ownsRow base e kk (.slice pA q pc) q l
  o9 : b9 = true → b10 = false → Row wc (some ⟨g9, 0, none⟩) cc ∧ base ≤ g9
  o1 : b10 = true → wc.ownsRow base e kk (.slice A' (q + 1) c') (q + 1) (l ++ cc)
  ot : OT wc
/-- What does not change. -/
structure Go_ (B0 base rB gr gx gz : Nat) (A0 : Option Addr) (xc : Value → Array Value) (OT : World → Prop) : Prop where
  hrb : rB ≤ base
  ia : ∀ a : Addr, A0 = some a → a.block < base
  ap : ∀ v, (∀ c : UInt8, v ≠ B c) → ∀ u ∈ (xc v).toList, ∀ c : UInt8, u ≠ B c
  ord : B0 ≤ gr ∧ gr < base ∧ B0 ≤ gx ∧ gx < base ∧ gz < base ∧ gr ≠ gx ∧ gr ≠ gz ∧ gx ≠ gz ∧ B0 ≤ base
  kr : ∀ w w' : World, OT w → w.grownBy w' (some gr) → OT w'
  kx : ∀ w w' : World, OT w → w.grownBy w' (some gx) → OT w'
  kb : ∀ w w' : World, OT w → Below w.heap.size w w' → OT w'
  ka : ∀ (w w' : World) (row : Option Nat), OT w → w.grownBy w' row → (∀ k, row = some k → base ≤ k) → OT w'
section
variable {e : TypeId} {kk B0 base rB : Nat} {w0 : World} {gr gx gz : Nat} {A0 : Option Addr} {m : List UInt8} {r0 r1 r2 r3 : CodeM.Rd} {xc : Value → Array Value} {OT : World → Prop} {pA : Option Addr} {q pc : Nat} {l cc : List Value} {g9 : Nat} {A' : Option Addr} {c' : Nat} {b3 b5 b7 b9 b10 b12 : Bool} {w w' : World}
theorem owns_apart {w w' : World} {b2 n : Nat} {e : TypeId} {z : Nat} {v : Value} {xs : List Value} {row : Option Nat} {base2 : Nat} (h : w.ownsRow b2 e z v n xs) (hg : w.grownBy w' row) (hk : ∀ k, row = some k → base2 ≤ k) (hp : ∀ k, v.ownBlock = some k → k < base2) : w'.ownsRow b2 e z v n xs := by
  refine ⟨h.1, ?_⟩
  rcases h.2 with hn | ⟨k, cap, cur, e1, hb, hk2, rest⟩
  · exact .inl hn
  · refine .inr ⟨k, cap, cur, e1, hb, ?_, rest⟩
    have hlt := hp k (by rw [e1]; rfl)
    rw [hg.block k (Array.getElem?_eq_some_iff.1 hk2).1 (fun q => by have := hk k q.symm; omega)]
    exact hk2
theorem Gr.no (h : Gr e kk B0 base rB w0 gr gx gz A0 m r0 r1 r2 r3 xc OT pA q pc l cc g9 A' c' b3 b5 b7 b9 b10 b12 w) : (b3 = false → b5 = false) ∧ (b5 = false → b7 = false) ∧ (b7 = false → b9 = false) ∧ (b9 = false → b10 = false) ∧ (b10 = false → b12 = false) := by
  have h5 := h.k5; have h7 := h.k7; have h9 := h.k9; have h10 := h.k10; have h12 := h.k12
  cases b3 <;> cases b5 <;> cases b7 <;> cases b9 <;> cases b10 <;> cases b12 <;> simp_all
theorem Gr.start (h : RdIn rB 68 w gr r0) (hx : Blk w gx 31 (xc (.slice pA q pc))) (hz : Blk w gz 31 #[.int .i64 0, .int .u64 0, .int .u32 0, .int .u64 0, .int .u32 0, .int .u16 0, .slice none 0 0, .slice none 0 0, .slice none 0 0, .int .u64 0, .int .u64 0, .bool false, .int .u64 0, .slice none 0 0, .slice none 0 0]) (hb : Below B0 w0 w) (hs : base ≤ w.heap.size) (hi : Row w A0 (bs m)) (ho : w.ownsRow base e kk (.slice pA q pc) q l) (hot : OT w) :
    Gr e kk B0 base rB w0 gr gx gz A0 m r0 r1 r2 r3 xc OT pA q pc l cc g9 A' c' false false false false false false w :=
  ⟨h, hx, hz, hb, hs, hi, nofun, nofun, nofun, nofun, nofun, fun _ => ho, nofun, nofun, hot⟩
theorem Gr.drew (hdr : OT w → OT w.drew) (h : Gr e kk B0 base rB w0 gr gx gz A0 m r0 r1 r2 r3 xc OT pA q pc l cc g9 A' c' b3 b5 b7 b9 b10 b12 w) : Gr e kk B0 base rB w0 gr gx gz A0 m r0 r1 r2 r3 xc OT pA q pc l cc g9 A' c' b3 b5 b7 b9 b10 b12 w.drew := ⟨h.rd, h.x, h.z, ⟨h.bel.os, h.bel.tape, h.bel.output, h.bel.size, h.bel.block⟩, h.sz, h.inp, h.k5, h.k7, h.k9, h.k10, h.k12, h.o0, h.o9, h.o1, hdr h.ot⟩
/-- The reader moves on. -/
theorem Gr.step {c3 c5 c7 : Bool} (h : Gr e kk B0 base rB w0 gr gx gz A0 m r0 r1 r2 r3 xc OT pA q pc l cc g9 A' c' b3 b5 b7 b9 b10 b12 w) (hG : Go_ B0 base rB gr gx gz A0 xc OT) (q9 : b9 = false) (h1 : RdIn rB 68 w' gr (rdB r0 r1 r2 r3 c3 c5 c7)) (hg : w.grownBy w' (some gr)) (j5 : c5 = true → c3 = true) (j7 : c7 = true → c5 = true) :
    Gr e kk B0 base rB w0 gr gx gz A0 m r0 r1 r2 r3 xc OT pA q pc l cc g9 A' c' c3 c5 c7 b9 b10 b12 w' := by
  obtain ⟨o1, o2, o3, o4, o5, o6, o7, o8, o9⟩ := hG.ord
  have n10 := h.no.2.2.2.1 q9
  have n12 := h.no.2.2.2.2 n10
  subst q9 n10 n12
  exact ⟨h1, h.x.grown hg (fun q => o6 (by injection q with q; omega)), h.z.grown hg (fun q => o7 (by injection q with q; omega)), below_grown h.bel hg (Nat.le_trans o9 h.sz) o1, Nat.le_trans h.sz hg.size, h.rd.at_.row hg h.inp, j5, j7, nofun, nofun, nofun, fun _ => owns_kept (h.o0 rfl) hg o2, nofun, nofun, hG.kr _ _ h.ot hg⟩
/-- The element in a list of its own. -/
theorem Gr.lit {t : TypeId} (h : Gr e kk B0 base rB w0 gr gx gz A0 m r0 r1 r2 r3 xc OT pA q pc l cc g9 A' c' b3 b5 b7 b9 b10 b12 w) (q9 : b9 = false) (q7 : b7 = true) (hG : Go_ B0 base rB gr gx gz A0 xc OT) :
    Gr e kk B0 base rB w0 gr gx gz A0 m r0 r1 r2 r3 xc OT pA q pc l cc w.heap.size A' c' b3 b5 b7 true b10 b12 (w.alloc (.cells cc.toArray t)) := by
  have n10 := h.no.2.2.2.1 q9
  have n12 := h.no.2.2.2.2 n10
  subst q9 n10 n12
  have hb : Below w.heap.size w (w.alloc (.cells cc.toArray t)) := (Below.refl _ _).alloc (Nat.le_refl _) _
  refine ⟨h.rd.below hb, h.x.below hb h.x.lt, h.z.below hb h.z.lt, h.bel.trans (hb.mono (Nat.le_trans hG.ord.2.2.2.2.2.2.2.2 h.sz)), Nat.le_trans h.sz hb.size, h.inp.below hb, h.k5, h.k7, fun _ => q7, nofun, nofun, fun _ => owns_below (h.o0 rfl) hb, fun _ _ => ⟨?_, h.sz⟩, nofun, hG.kb _ _ h.ot hb⟩
  refine .inr ⟨_, 0, rfl, fun j u hu => ?_⟩
  have hB := (Blk.new w t cc.toArray).cell (0 + j)
  rw [hB, Nat.zero_add, List.getElem?_toArray]
  exact hu
/-- It is appended. -/
theorem Gr.app {A1 : Option Addr} {c1 : Nat} (h : Gr e kk B0 base rB w0 gr gx gz A0 m r0 r1 r2 r3 xc OT pA q pc l cc g9 A' c' b3 b5 b7 b9 b10 b12 w) (q10 : b10 = false) (q9 : b9 = true) (hG : Go_ B0 base rB gr gx gz A0 xc OT) (h1 : w'.ownsRow base e kk (.slice A1 (q + 1) c1) (q + 1) (l ++ cc)) (hg : w.grownBy w' (Value.slice pA q pc).ownBlock) :
    Gr e kk B0 base rB w0 gr gx gz A0 m r0 r1 r2 r3 xc OT pA q pc l cc g9 A1 c1 b3 b5 b7 b9 true b12 w' := by
  obtain ⟨o1, o2, o3, o4, o5, o6, o7, o8, o9⟩ := hG.ord
  have n12 := h.no.2.2.2.2 q10
  subst q10 n12 q9
  have hlt : ∀ k, (Value.slice pA q pc).ownBlock = some k → base ≤ k := fun k hk => ((h.o0 rfl).lt k hk).1
  have hne : ∀ g, g < base → (Value.slice pA q pc).ownBlock ≠ some g := fun g hg q => by have := hlt g q; omega
  have hrow : ∀ (A : Option Addr) (xs : List Value), Row w A xs → (∀ a : Addr, A = some a → a.block < base) → Row w' A xs := by
    intro A xs hr ha
    rcases hr with e1 | ⟨b, o, e1, hc⟩
    · exact .inl e1
    · refine .inr ⟨b, o, e1, fun j u hu => ?_⟩
      exact hg.cell (hc j u hu) (by show some b ≠ _; intro e; exact hne b (ha _ e1) e.symm)
  have hrd : RdIn rB 68 w' gr (rdB r0 r1 r2 r3 b3 b5 b7) := by
    obtain ⟨A, n, c, hB, e1, e2, e3, e4, e5⟩ := h.rd
    refine ⟨A, n, c, hB.grown hg (fun q => hne gr o2 q.symm), e1, e2, e3, ?_, e5⟩
    rcases e5 with e5 | e5
    · left; rw [e5]; rfl
    · exact hrow _ _ e4 fun a ha => Nat.lt_of_lt_of_le (e5 a ha) hG.hrb
  exact ⟨hrd, h.x.grown hg (fun q => hne gx o4 q.symm), h.z.grown hg (fun q => hne gz o5 q.symm), h.bel.grown hg (Nat.le_trans o9 h.sz) (fun k hk => Nat.le_trans o9 (hlt k hk)), Nat.le_trans h.sz hg.size, hrow _ _ h.inp hG.ia, h.k5, h.k7, h.k9, fun _ => rfl, nofun, nofun, nofun, fun _ => h1, hG.ka _ _ _ h.ot hg hlt⟩
/-- The record takes it. -/
theorem Gr.sto (h : Gr e kk B0 base rB w0 gr gx gz A0 m r0 r1 r2 r3 xc OT pA q pc l cc g9 A' c' b3 b5 b7 b9 b10 b12 w) (q12 : b12 = false) (q10 : b10 = true) (hG : Go_ B0 base rB gr gx gz A0 xc OT) (i : Nat) (hx : ∀ u v, (xc u).setIfInBounds i v = xc v) :
    Gr e kk B0 base rB w0 gr gx gz A0 m r0 r1 r2 r3 xc OT pA q pc l cc g9 A' c' b3 b5 b7 b9 b10 true (w.setCell ⟨gx, i, none⟩ (.slice A' (q + 1) c')) := by
  obtain ⟨o1, o2, o3, o4, o5, o6, o7, o8, o9⟩ := hG.ord
  subst q12 q10
  have hg := grownBy_setCell w gx i (.slice A' (q + 1) c')
  have hX := h.x.set_ i (.slice A' (q + 1) c')
  rw [hx] at hX
  have hap : ∀ u ∈ (xc (.slice pA q pc)).toList, ∀ c : UInt8, u ≠ B c := hG.ap _ (fun c q => by simp [B] at q)
  exact ⟨h.rd.grown hg (Ne.symm o6) (fun A l hr _ => row_other hr h.x hap hg), hX, h.z.grown hg (fun q => o8 (by injection q with q; omega)), below_grown h.bel hg (Nat.le_trans o9 h.sz) o3, Nat.le_trans h.sz hg.size, row_other h.inp h.x hap hg, h.k5, h.k7, h.k9, h.k10, fun _ => rfl, nofun, fun _ q => (by cases q), fun _ => owns_kept (h.o1 rfl) hg o4, hG.kx _ _ h.ot hg⟩
end
end Go.Proofs.Ytpgmhjjdnanlgaa
