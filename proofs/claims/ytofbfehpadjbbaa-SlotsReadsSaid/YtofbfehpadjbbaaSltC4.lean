/-
  A slotted body that is being changed: the call's own lists, its block, the result's block.
  Conditions: none.
-/
import Derived.Test.YtofbfehpadjbbaaSltC3
import Derived.Test.YtofbfehpadjbbaaSltD
namespace Go.Proofs.Ytofbfehpadjbbaa
open Go.RowKit Go.Sort Go.Lib
set_option linter.unusedVariables false
set_option linter.unusedSimpArgs false
structure Ow (w0 : World) (s : Slt) (gr G : Nat) (A1 : Option Addr) (n1 c1 : Nat) (D1 : Option Addr) (n2 c2 : Nat) (full : List Bool) (ps : List Sl) (w : World) : Prop where
  bel : Below w0.heap.size w0 w
  hr : Blk w gr 26 #[.int .u8 0, .int .u32 0, .slice none 0 0, .slice none 0 0]
  hg : Blk w G 26 #[.int .u8 (s.kind : Int), .int .u32 (s.next : Int), .slice A1 n1 c1, .slice D1 n2 c2]
  hp : OwnP w (w0.heap.size + 2) G A1 n1 c1 D1 n2 c2 full ps
  gr' : gr = w0.heap.size + 1
  gG : w0.heap.size + 2 ≤ G
section
variable {w0 w w' : World} {s : Slt} {gr G : Nat} {A1 : Option Addr} {n1 c1 : Nat} {D1 : Option Addr} {n2 c2 : Nat} {full : List Bool} {ps : List Sl}
theorem Ow.call (h : Ow w0 s gr G A1 n1 c1 D1 n2 c2 full ps w) (hb : Below w.heap.size w w') : Ow w0 s gr G A1 n1 c1 D1 n2 c2 full ps w' :=
  ⟨below_step h.bel hb (Nat.le_refl _), h.hr.below hb h.hr.lt, h.hg.below hb h.hg.lt, h.hp.below hb, h.gr', h.gG⟩
theorem Ow.drew (h : Ow w0 s gr G A1 n1 c1 D1 n2 c2 full ps w) : Ow w0 s gr G A1 n1 c1 D1 n2 c2 full ps w.drew := h.call ⟨rfl, rfl, rfl, Nat.le_refl _, fun _ _ => rfl⟩
theorem Ow.setF {gA : Nat} (h : Ow w0 s gr G (some ⟨gA, 0, none⟩) n1 c1 D1 n2 c2 full ps w) (k : Nat) (b : Bool) : Ow w0 s gr G (some ⟨gA, 0, none⟩) n1 c1 D1 n2 c2 (full.set k b) ps (w.setCell ⟨gA, k, none⟩ (.bool b)) := by
  have h1 := (h.hp.fu.blk rfl).1
  have h2 := h.gr'
  have h3 := h.hp.gA _ rfl
  simp only at h1 h3
  exact ⟨h.bel.grown (grownBy_setCell _ _ _ _) h.bel.size (fun q hq => by injection hq with hq; omega), h.hr.far (by show gr ≠ gA; omega) _, h.hg.far (by show G ≠ gA; omega) _, h.hp.setF k b, h.gr', h.gG⟩
theorem Ow.setD {gD : Nat} (h : Ow w0 s gr G A1 n1 c1 (some ⟨gD, 0, none⟩) n2 c2 full ps w) (k : Nat) (p : Sl) (hp : p.l.length = p.n ∧ Row w p.A (bs p.l) ∧ (p.l = [] ∨ ∀ a, p.A = some a → (w0.heap.size + 2 ≤ a.block ∧ a.block < w.heap.size) ∧ a.block ≠ G ∧ (∀ x, A1 = some x → a.block ≠ x.block) ∧ a.block ≠ gD)) :
    Ow w0 s gr G A1 n1 c1 (some ⟨gD, 0, none⟩) n2 c2 full (ps.set k p) (w.setCell ⟨gD, k, none⟩ p.val) := by
  have h1 := (h.hp.li.blk rfl).1
  have h2 := h.gr'
  have h3 := h.hp.gD _ rfl
  simp only at h1 h3
  exact ⟨h.bel.grown (grownBy_setCell _ _ _ _) h.bel.size (fun q hq => by injection hq with hq; omega), h.hr.far (by show gr ≠ gD; omega) _, h.hg.far (by show G ≠ gD; omega) _, h.hp.setD k p hp, h.gr', h.gG⟩
/-- The result, stored. -/
theorem Ow.fin (h : Ow w0 s gr G A1 n1 c1 D1 n2 c2 full ps w) (t : Slt) (h1 : full = t.full) (h2 : ps.map Sl.l = t.data) (u0 u1 u2 u3 : Value) :
    SltNew ((((w.setCell ⟨gr, 0, none⟩ u0).setCell ⟨gr, 1, none⟩ u1).setCell ⟨gr, 2, none⟩ u2).setCell ⟨gr, 3, none⟩ u3) w0.heap.size A1 n1 c1 D1 n2 c2 t ∧ Below w0.heap.size w0 ((((w.setCell ⟨gr, 0, none⟩ u0).setCell ⟨gr, 1, none⟩ u1).setCell ⟨gr, 2, none⟩ u2).setCell ⟨gr, 3, none⟩ u3) := by
  have hx : gr < w0.heap.size + 2 := by have := h.gr'; omega
  subst h1
  exact ⟨⟨G, ps, h2, ((((h.hp.far _ 0 _ hx).far _ 1 _ hx).far _ 2 _ hx).far _ 3 _ hx).base_ (by omega)⟩, h.bel.grown (grown4 _ _ _ _ _ _) h.bel.size (fun q hq => by injection hq with hq; have := h.gr'; omega)⟩
/-- Nothing comes back: what is stored is empty. -/
theorem Ow.start (V : World) (hb : Below w0.heap.size w0 V) (hr : Blk V (w0.heap.size + 1) 26 #[.int .u8 0, .int .u32 0, .slice none 0 0, .slice none 0 0]) (hN : SltNew w V.heap.size A1 n1 c1 D1 n2 c2 s) (hbw : Below V.heap.size V w) (hs : w0.heap.size + 2 ≤ V.heap.size) :
    ∃ ps, ps.map Sl.l = s.data ∧ Ow w0 s (w0.heap.size + 1) w.heap.size A1 n1 c1 D1 n2 c2 s.full ps (w.alloc (.cells #[.int .u8 (s.kind : Int), .int .u32 (s.next : Int), .slice A1 n1 c1, .slice D1 n2 c2] 26)) := by
  obtain ⟨G', ps, h1, h2⟩ := hN
  have hw := hbw.size
  have h3 : OwnP w (w0.heap.size + 2) w.heap.size A1 n1 c1 D1 n2 c2 s.full ps := by
    have h2 := h2.base_ hs
    exact ⟨h2.fu, h2.li, fun p hp => ⟨(h2.each p hp).1, (h2.each p hp).2.1, (h2.each p hp).2.2.imp id fun h4 a ha => ⟨(h4 a ha).1, by have := (h4 a ha).1.2; omega, (h4 a ha).2.2⟩⟩, h2.ap, fun a ha => by have := (h2.fu.blk ha).2; omega, fun d hd => by have := (h2.li.blk hd).2; omega⟩
  have b1 := below_step hb hbw (Nat.le_refl _)
  exact ⟨ps, h1, b1.alloc b1.size _, (hr.below hbw hr.lt).alloc _, Blk.new w _ _, h3.alloc _, rfl, by omega⟩
end
theorem Ow.stF {w0 w : World} {s : Slt} {gr G : Nat} {A1 A' : Option Addr} {n1 c1 n' c' : Nat} {D1 : Option Addr} {n2 c2 : Nat} {full : List Bool} {ps : List Sl} (hp : OwnP w (w0.heap.size + 2) G A' n' c' D1 n2 c2 full ps) (hr : Blk w gr 26 #[.int .u8 0, .int .u32 0, .slice none 0 0, .slice none 0 0]) (hg : Blk w G 26 #[.int .u8 (s.kind : Int), .int .u32 (s.next : Int), .slice A1 n1 c1, .slice D1 n2 c2]) (hb : Below w0.heap.size w0 w)
    (e1 : gr = w0.heap.size + 1) (e2 : w0.heap.size + 2 ≤ G) : Ow w0 s gr G A' n' c' D1 n2 c2 full ps (w.setCell ⟨G, 2, none⟩ (.slice A' n' c')) :=
  ⟨hb.grown (grownBy_setCell _ _ _ _) hb.size (fun q hq => by injection hq with hq; omega), hr.far (by show gr ≠ G; omega) _, hg.set_ 2 _, hp.setG 2 _, e1, e2⟩
theorem Ow.stD {w0 w : World} {s : Slt} {gr G : Nat} {A1 : Option Addr} {n1 c1 n' c' : Nat} {D1 D' : Option Addr} {n2 c2 : Nat} {full : List Bool} {ps : List Sl} (hp : OwnP w (w0.heap.size + 2) G A1 n1 c1 D' n' c' full ps) (hr : Blk w gr 26 #[.int .u8 0, .int .u32 0, .slice none 0 0, .slice none 0 0]) (hg : Blk w G 26 #[.int .u8 (s.kind : Int), .int .u32 (s.next : Int), .slice A1 n1 c1, .slice D1 n2 c2]) (hb : Below w0.heap.size w0 w)
    (e1 : gr = w0.heap.size + 1) (e2 : w0.heap.size + 2 ≤ G) : Ow w0 s gr G A1 n1 c1 D' n' c' full ps (w.setCell ⟨G, 3, none⟩ (.slice D' n' c')) :=
  ⟨hb.grown (grownBy_setCell _ _ _ _) hb.size (fun q hq => by injection hq with hq; omega), hr.far (by show gr ≠ G; omega) _, hg.set_ 3 _, hp.setG 3 _, e1, e2⟩
/-- append of a flag, in its order. -/
theorem wpl_owF (w : World) {ops : Array Oper} {rest : List Oper} {o : Oper} {a : Act} {Q : Exit → Act → World → Prop} (hgd : Region.wanted o (yielded ops a.tmps) = true) (sl x : Operand)
    (ho : o.op = .call { callee := .builtin .append, args := #[sl, x], argTypes := #[23, 23] })
    {w0 : World} {s : Slt} {gr G : Nat} {A1 : Option Addr} {n1 c1 : Nat} {D1 : Option Addr} {n2 c2 : Nat} {full : List Bool} {ps : List Sl} (hs : a.eval sl = .slice A1 n1 c1) (h : Ow w0 s gr G A1 n1 c1 D1 n2 c2 full ps w)
    (A2 : Option Addr) (c' : Nat) (b : Bool) (hx : a.eval x = .slice A2 1 c') (hr : Row w A2 [Value.bool b]) (hlen : n1 + 1 ≤ 1000000)
    (hK : ∀ A' c' w', OwnP w' (w0.heap.size + 2) G A' (n1 + 1) c' D1 n2 c2 (full ++ [b]) ps → Blk w' gr 26 #[.int .u8 0, .int .u32 0, .slice none 0 0, .slice none 0 0] → Blk w' G 26 #[.int .u8 (s.kind : Int), .int .u32 (s.next : Int), .slice A1 n1 c1, .slice D1 n2 c2] → Below w0.heap.size w0 w' → wpList Try.prog ops Q rest (a.put o.dst (.slice A' (n1 + 1) c')) w') : wpList Try.prog ops Q (o :: rest) a w := by
  obtain ⟨i0, hi0, hz0, hz1, hz2⟩ := info_parts info_bool
  have hsz := h.hg.lt
  have hgG := h.gG
  refine wpl_append w hgd sl x _ ho (w0.heap.size + 2) 4 i0 _ 1 1 Try.underlying23 hi0 hz0 hz1 hz2 rfl (by omega) _ n1 (full.map .bool) hs h.hp.fu A2 1 c' [Value.bool b] hx rfl hr (flags_one [b])
    (by unfold maxLen; omega) (by omega) (by omega) fun A' c' w' h1 h2 h3 => hK A' c' w' (h.hp.appF hsz (by unfold OwnF; rw [List.map_append]; exact h1) h2 h3) (h.hr.grown h2 (fun q => by have := (h.hp.rowF _ q.symm).1; have := h.gr'; omega)) (h.hg.grown h2 (fun q => (h.hp.rowF _ q.symm).2.2 rfl)) (h.bel.grown h2 h.bel.size (fun k hk => by have := (h.hp.rowF k hk).1; omega))
/-- append of a slice that has nothing. -/
theorem wpl_owD (w : World) {ops : Array Oper} {rest : List Oper} {o : Oper} {a : Act} {Q : Exit → Act → World → Prop} (hgd : Region.wanted o (yielded ops a.tmps) = true) (sl x : Operand)
    (ho : o.op = .call { callee := .builtin .append, args := #[sl, x], argTypes := #[24, 24] })
    {w0 : World} {s : Slt} {gr G : Nat} {A1 : Option Addr} {n1 c1 : Nat} {D1 : Option Addr} {n2 c2 : Nat} {full : List Bool} {ps : List Sl} (hs : a.eval sl = .slice D1 n2 c2) (h : Ow w0 s gr G A1 n1 c1 D1 n2 c2 full ps w)
    (A2 : Option Addr) (c' : Nat) (hx : a.eval x = .slice A2 1 c') (hr : Row w A2 [Value.slice none 0 0]) (hlen : n2 + 1 ≤ 1000000)
    (hK : ∀ D' c' w', OwnP w' (w0.heap.size + 2) G A1 n1 c1 D' (n2 + 1) c' full (ps ++ [⟨none, 0, 0, []⟩]) → Blk w' gr 26 #[.int .u8 0, .int .u32 0, .slice none 0 0, .slice none 0 0] → Blk w' G 26 #[.int .u8 (s.kind : Int), .int .u32 (s.next : Int), .slice A1 n1 c1, .slice D1 n2 c2] → Below w0.heap.size w0 w' → wpList Try.prog ops Q rest (a.put o.dst (.slice D' (n2 + 1) c')) w') : wpList Try.prog ops Q (o :: rest) a w := by
  obtain ⟨i0, hi0, hz0, hz1, hz2⟩ := info_parts info_sl
  have hsz := h.hg.lt
  have hgG := h.gG
  refine wpl_append w hgd sl x _ ho (w0.heap.size + 2) 27 i0 _ 1 24 Try.underlying24 hi0 hz0 hz1 hz2 rfl (by omega) _ n2 (ps.map Sl.val) hs h.hp.li A2 1 c' [Value.slice none 0 0] hx rfl hr (by intro u hu; rw [List.mem_singleton] at hu; subst hu; rfl)
    (by unfold maxLen; omega) (by omega) (by omega) fun A' c' w' h1 h2 h3 => hK A' c' w' (h.hp.appD hsz (by unfold OwnLs; rw [List.map_append]; exact h1) h2 h3) (h.hr.grown h2 (fun q => by have := (h.hp.rowD _ q.symm).1; have := h.gr'; omega)) (h.hg.grown h2 (fun q => (h.hp.rowD _ q.symm).2.2 rfl)) (h.bel.grown h2 h.bel.size (fun k hk => by have := (h.hp.rowD k hk).1; omega))
theorem OwnLs.cap {w : World} {base n c : Nat} {D : Option Addr} {ps : List Sl} (h : OwnLs w base D n c ps) : c ≤ maxLen := by
  rcases h.2 with ⟨hv, hn⟩ | ⟨g, cap, cur, hv, _, _, q1, q2, _⟩
  · injection hv with _ e1 e2; unfold maxLen; omega
  · injection hv with _ e1 e2; omega
theorem OwnF.cap {w : World} {base n c : Nat} {A : Option Addr} {l : List Bool} (h : OwnF w base A n c l) : c ≤ maxLen := h.le.2
/-- What is made while the new bytes are put into their slot. -/
structure CbW (V : World) (gD k : Nat) (b : List UInt8) (nb g9 : Nat) (B1 : Option Addr) (c3 : Nat) (b3 b5 b7 : Bool) (X : World → Prop) (w : World) : Prop where
  k5 : b5 = true → b3 = true
  k7 : b7 = true → b5 = true
  b0 : b7 = false → Below V.heap.size V w
  f3 : b3 = true → b5 = false → w.ownsRow V.heap.size 5 1 (.slice (some ⟨g9, 0, none⟩) 0 0) 0 []
  f5 : b5 = true → b7 = false → w.ownsRow V.heap.size 5 1 (.slice B1 nb c3) nb (bs b)
  gV : V.heap.size ≤ w.heap.size
  fin : b7 = true → X w
section
variable {V : World} {gD k : Nat} {b : List UInt8} {nb g9 : Nat} {B1 : Option Addr} {c3 : Nat} {b3 b5 b7 : Bool} {X : World → Prop} {w w' : World}
theorem CbW.no5 (h : CbW V gD k b nb g9 B1 c3 b3 b5 b7 X w) (q : b3 = false) : b5 = false := by cases hb : b5 with | false => rfl | true => have := h.k5 hb; rw [q] at this; cases this
theorem CbW.no7 (h : CbW V gD k b nb g9 B1 c3 b3 b5 b7 X w) (q : b5 = false) : b7 = false := by cases hb : b7 with | false => rfl | true => have := h.k7 hb; rw [q] at this; cases this
theorem CbW.at3 (h : CbW V gD k b nb g9 B1 c3 b3 b5 b7 X w) (q : b3 = false) : CbW V gD k b nb w.heap.size B1 c3 true b5 b7 X (w.alloc (.cells #[] 5)) := by
  subst q
  obtain rfl := h.no5 rfl
  obtain rfl := h.no7 rfl
  exact ⟨nofun, nofun, fun _ => (h.b0 rfl).alloc h.gV _, fun _ _ => owns_made w _ _ #[] 0 [] h.gV rfl rfl (by decide), nofun, Nat.le_trans h.gV (by simp), nofun⟩
theorem CbW.at5 {B' : Option Addr} {c' : Nat} {X' : World → Prop} (h : CbW V gD k b nb g9 B1 c3 b3 b5 b7 X w) (q : b5 = false) (q3 : b3 = true) (h1 : w'.ownsRow V.heap.size 5 1 (.slice B' nb c') nb (bs b)) (h2 : w.grownBy w' (Value.slice (some ⟨g9, 0, none⟩) 0 0).ownBlock) : CbW V gD k b nb g9 B' c' b3 true b7 X' w' := by
  subst q q3
  obtain rfl := h.no7 rfl
  have hl := ((h.f3 rfl rfl).lt g9 rfl).1
  have e2 : (Value.slice (some (⟨g9, 0, none⟩ : Addr)) 0 0).ownBlock = some g9 := rfl
  rw [e2] at h2
  exact ⟨fun _ => rfl, nofun, fun _ => (h.b0 rfl).grown h2 h.gV (fun q hq => by injection hq with hq; omega), nofun, fun _ _ => h1, Nat.le_trans h.gV h2.size, nofun⟩
theorem CbW.at7 (h : CbW V gD k b nb g9 B1 c3 b3 b5 b7 X w) (q : b7 = false) (q5 : b5 = true) (hX : X w') (hs : w.heap.size ≤ w'.heap.size) : CbW V gD k b nb g9 B1 c3 b3 b5 true X w' := by
  subst q q5
  exact ⟨h.k5, fun _ => rfl, nofun, fun _ q => (by cases q), nofun, Nat.le_trans h.gV hs, fun _ => hX⟩
end
/-- What is behind it. -/
theorem Ow.put {V w w0 : World} {s : Slt} {gr G : Nat} {A1 : Option Addr} {n1 c1 gD n2 c2 k nb c3 : Nat} {full : List Bool} {ps : List Sl} {b : List UInt8} {B1 : Option Addr} (h : Ow w0 s gr G A1 n1 c1 (some ⟨gD, 0, none⟩) n2 c2 full ps V) (hb : Below V.heap.size V w) (hbn : b.length = nb)
    (ho : w.ownsRow V.heap.size 5 1 (.slice B1 nb c3) nb (bs b)) : Ow w0 s gr G A1 n1 c1 (some ⟨gD, 0, none⟩) n2 c2 full (ps.set k ⟨B1, nb, c3, b⟩) (w.setCell ⟨gD, k, none⟩ (.slice B1 nb c3)) := by
  refine (h.call hb).setD k ⟨B1, nb, c3, b⟩ ⟨hbn, Row.of_own ho, .inr fun a ha => ?_⟩
  subst ha
  have h1 := ho.lt a.block rfl
  have h2 := h.bel.size
  have h3 := h.hg.lt
  have h4 := h.gG
  refine ⟨⟨by omega, h1.2⟩, by omega, fun y hy => by have := (h.hp.fu.blk hy).2; omega, ?_⟩
  have := (h.hp.li.blk rfl).2
  simp only at this
  omega
end Go.Proofs.Ytofbfehpadjbbaa
