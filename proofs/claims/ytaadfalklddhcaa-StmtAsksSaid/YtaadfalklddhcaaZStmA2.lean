/-
  A request copied: what is returned is the same, in memory.
  Conditions: the request's lists lie in memory and are bounded.
-/
import Derived.Test.YtaadfalklddhcaaZStmA1
import Derived.Test.YtaadfalklddhcaaZStmQ3
namespace Go.Proofs.Ytaadfalklddhcaa
open Go.RowKit Go.Sort Go.Lib
set_option linter.unusedVariables false
set_option linter.unusedSimpArgs false
/-- The request, its copy, the result, while it is copied. -/
structure OwX (w0 : World) (g : Nat) (xs cs : Array Value) (w : World) : Prop where
  x : Blk w g 42 xs
  t : Blk w (g + 1 + 1) 42 cs
  res : Blk w (g + 1) 42 #[.int .i64 0, .int .u64 0, .slice none 0 0, .slice none 0 0, .int .u64 0, .int .u64 0, .int .i64 0, .slice none 0 0, .slice none 0 0, .int .i64 0]
  bel : Below g w0 w
section
variable {w0 w w' : World} {g : Nat} {xs cs : Array Value}
theorem OwX.size (h : OwX w0 g xs cs w) : g ≤ w.heap.size := Nat.le_of_lt h.x.lt
theorem OwX.set (h : OwX w0 g xs cs w) (i : Nat) (v : Value) : OwX w0 g xs (cs.setIfInBounds i v) (w.setCell ⟨g + 1 + 1, i, none⟩ v) :=
  ⟨h.x.far (p := ⟨g + 1 + 1, i, none⟩) (by show g ≠ g + 1 + 1; omega) v, h.t.set_ i v, h.res.far (p := ⟨g + 1 + 1, i, none⟩) (by show g + 1 ≠ g + 1 + 1; omega) v, below_grown h.bel (grownBy_setCell w (g + 1 + 1) i v) h.size (by omega)⟩
theorem OwX.below (h : OwX w0 g xs cs w) (hb : Below w.heap.size w w') : OwX w0 g xs cs w' :=
  ⟨h.x.below hb h.x.lt, h.t.below hb h.t.lt, h.res.below hb h.res.lt, h.bel.trans (hb.mono h.size)⟩
end
/-- What an owned list is good for here: it lies in memory, its room is in bounds. -/
theorem own_row {w : World} {base : Nat} {e : TypeId} {n c : Nat} {A : Option Addr} {xs : List Value} (h : w.ownsRow base e 1 (.slice A n c) n xs) : Row w A xs ∧ n ≤ c ∧ c ≤ maxLen := by
  refine ⟨Row.of_own h, ?_⟩
  rcases own_cap h with h | ⟨_, h2, h3⟩
  · exact h
  · rw [h2, h3]; exact ⟨Nat.le_refl _, Nat.zero_le _⟩
/-- The same of the first elements of an owned list. -/
theorem own_row1 {w : World} {base : Nat} {e : TypeId} {n c : Nat} {A : Option Addr} {xs : List Value} {v : Value} (h : w.ownsRow base e 1 (.slice A (n + 1) c) (n + 1) (xs ++ [v])) (hl : xs.length = n) : Row w A xs ∧ n ≤ c ∧ c ≤ maxLen := by
  have h1 := own_row h
  refine ⟨?_, by omega, h1.2.2⟩
  have := h1.1.take n
  rwa [← hl, List.take_left] at this
/-- A block below is none of an owned list. -/
theorem own_ne {w : World} {base g n c m : Nat} {e : TypeId} {A : Option Addr} {xs : List Value} (h : w.ownsRow base e 1 (.slice A n c) m xs) (hlt : g < base) : (Value.slice A n c).ownBlock = none ∨ (Value.slice A n c).ownBlock ≠ some g := by
  rcases h.2 with ⟨hv, _⟩ | ⟨g', cap, cur, hv, hb, _⟩
  · left; injection hv with e; rw [e]; rfl
  · right; injection hv with e; rw [e]; simp only [Value.ownBlock]; intro q; injection q with q; omega
/-- A list of the copy's own. -/
structure LstA (w : World) (g : Nat) (A : Option Addr) (n c : Nat) (xs : List Value) : Prop where
  row : Row w A xs
  le : n ≤ c
  mx : c ≤ maxLen
  fr : Fresh (g + 1 + 1 + 1) A
theorem LstA.step {w u u' : World} {g n c : Nat} {A : Option Addr} {xs : List Value} (h : LstA w g A n c xs) (hb : Below w.heap.size w u) (hg : u.grownBy u' (some (g + 1 + 1))) : LstA u' g A n c xs :=
  ⟨row_fresh (h.row.below hb) h.fr hg (by omega), h.le, h.mx, h.fr⟩
theorem lst_own {w w' : World} {base g : Nat} {e : TypeId} {n c : Nat} {A : Option Addr} {xs : List Value} (h : w.ownsRow base e 1 (.slice A n c) n xs) (hg : w.grownBy w' (some (g + 1 + 1))) (hb : g + 3 ≤ base) : LstA w' g A n c xs :=
  have k := own_row h
  ⟨row_fresh k.1 (fresh_own h) hg (by omega), k.2.1, k.2.2, (fresh_own h).mono (by omega)⟩
/-- The rows of a request, as one. -/
structure Rows4 (A A2 QA FA : Option Addr) (vec : List Int) (note : List UInt8) (q : List Int) (fl : List Nat) (w : World) : Prop where
  r1 : Row w A (i32s vec)
  r2 : Row w A2 (bs note)
  r3 : Row w QA (i32s q)
  r4 : Row w FA (u64s fl)
theorem Rows4.below {A A2 QA FA : Option Addr} {vec : List Int} {note : List UInt8} {q : List Int} {fl : List Nat} {w w' : World} (h : Rows4 A A2 QA FA vec note q fl w) (hb : Below w.heap.size w w') : Rows4 A A2 QA FA vec note q fl w' :=
  ⟨h.r1.below hb, h.r2.below hb, h.r3.below hb, h.r4.below hb⟩
/-- The same request, elsewhere. -/
def OwnP (x : Rq) (w : World) (e : Ending) (w' : World) : Prop := ∃ t : Rqv, e = .returned (.agg t.cells) ∧ t.x = x ∧ t.At w' ∧ Below w.heap.size w w'
set_option maxRecDepth 100000 in
set_option maxHeartbeats 8000000 in
theorem own_any (s : Rqv) (w : World) (hs : s.At w) (hsm : Rq.Small s.x) : Calls Try.prog 21 #[.agg s.cells] w (OwnP s.x w) := by
  obtain ⟨⟨kind, ⟨ik, vec, note⟩, key, till, n, q, fl, sc⟩, A, c, A2, c2, QA, qc, FA, fc⟩ := s
  obtain ⟨r1, r2, r3, r4, ok, l1, l2, l3, l4, m1, m2, m3, m4⟩ := hs
  obtain ⟨h1, h2, h3, h4⟩ := hsm
  dsimp only at *
  have HM : Hid (vec.length ≤ 6000 ∧ note.length ≤ 4000 ∧ q.length ≤ 6000 ∧ fl.length ≤ 6000) := Lib.hid ⟨h1, h2, h3, h4⟩
  have HS0 : Hid (Rows4 A A2 QA FA vec note q fl w) := Lib.hid ⟨r1, r2, r3, r4⟩
  have HOK := Lib.hid ok
  clear r1 r2 r3 r4 ok l1 l2 l3 l4 m1 m2 m3 m4 h1 h2 h3 h4
  simp only [Rqv.cells, rqC]
  have b0 : Below w.heap.size w ((w.alloc (.cells #[.int .i64 kind, .int .u64 (ik : Int), .slice A vec.length c, .slice A2 note.length c2, .int .u64 (key : Int), .int .u64 (till : Int), .int .i64 n, .slice QA q.length qc, .slice FA fl.length fc, .int .i64 sc] 42)).alloc (.cells #[.int .i64 0, .int .u64 0, .slice none 0 0, .slice none 0 0, .int .u64 0, .int .u64 0, .int .i64 0, .slice none 0 0, .slice none 0 0, .int .i64 0] 42)) := ((Below.refl _ _).alloc (Nat.le_refl _) _).alloc (by simp) _
  have U1 := (Blk.new w 42 #[.int .i64 kind, .int .u64 (ik : Int), .slice A vec.length c, .slice A2 note.length c2, .int .u64 (key : Int), .int .u64 (till : Int), .int .i64 n, .slice QA q.length qc, .slice FA fl.length fc, .int .i64 sc]).alloc (.cells #[.int .i64 0, .int .u64 0, .slice none 0 0, .slice none 0 0, .int .u64 0, .int .u64 0, .int .i64 0, .slice none 0 0, .slice none 0 0, .int .i64 0] 42)
  have U2 := Blk.new (w.alloc (.cells #[.int .i64 kind, .int .u64 (ik : Int), .slice A vec.length c, .slice A2 note.length c2, .int .u64 (key : Int), .int .u64 (till : Int), .int .i64 n, .slice QA q.length qc, .slice FA fl.length fc, .int .i64 sc] 42)) 42 #[.int .i64 0, .int .u64 0, .slice none 0 0, .slice none 0 0, .int .u64 0, .int .u64 0, .int .i64 0, .slice none 0 0, .slice none 0 0, .int .i64 0]
  have e1 : (w.alloc (.cells #[.int .i64 kind, .int .u64 (ik : Int), .slice A vec.length c, .slice A2 note.length c2, .int .u64 (key : Int), .int .u64 (till : Int), .int .i64 n, .slice QA q.length qc, .slice FA fl.length fc, .int .i64 sc] 42)).heap.size = w.heap.size + 1 := by simp
  have e2 : ((w.alloc (.cells #[.int .i64 kind, .int .u64 (ik : Int), .slice A vec.length c, .slice A2 note.length c2, .int .u64 (key : Int), .int .u64 (till : Int), .int .i64 n, .slice QA q.length qc, .slice FA fl.length fc, .int .i64 sc] 42)).alloc (.cells #[.int .i64 0, .int .u64 0, .slice none 0 0, .slice none 0 0, .int .u64 0, .int .u64 0, .int .i64 0, .slice none 0 0, .slice none 0 0, .int .i64 0] 42)).heap.size = w.heap.size + 1 + 1 := by simp
  rw [e1] at U2
  go_enter Try.func21, Try.ntmps21
  go_upto_region 1 with fail
  generalize (w.alloc (.cells #[.int .i64 kind, .int .u64 (ik : Int), .slice A vec.length c, .slice A2 note.length c2, .int .u64 (key : Int), .int .u64 (till : Int), .int .i64 n, .slice QA q.length qc, .slice FA fl.length fc, .int .i64 sc] 42)).alloc (.cells #[.int .i64 0, .int .u64 0, .slice none 0 0, .slice none 0 0, .int .u64 0, .int .u64 0, .int .i64 0, .slice none 0 0, .slice none 0 0, .int .i64 0] 42) = V0 at *
  obtain ⟨g, hg⟩ : ∃ g, w.heap.size = g := ⟨_, rfl⟩
  have HG := Lib.hid hg
  rw [hg] at U1 U2 b0 e2
  simp only [hg]
  clear hg e1
  have T0 := Blk.new V0 42 #[.int .i64 0, .int .u64 0, .slice none 0 0, .slice none 0 0, .int .u64 0, .int .u64 0, .int .i64 0, .slice none 0 0, .slice none 0 0, .int .i64 0]
  rw [e2] at T0
  have ba : Below g V0 (V0.alloc (.cells #[.int .i64 kind, .int .u64 (ik : Int), .slice A vec.length c, .slice A2 note.length c2, .int .u64 (key : Int), .int .u64 (till : Int), .int .i64 n, .slice QA q.length qc, .slice FA fl.length fc, .int .i64 sc] 42)) := (Below.refl _ _).alloc (by omega) _
  have T1 := Blk.new V0 42 #[.int .i64 kind, .int .u64 (ik : Int), .slice A vec.length c, .slice A2 note.length c2, .int .u64 (key : Int), .int .u64 (till : Int), .int .i64 n, .slice QA q.length qc, .slice FA fl.length fc, .int .i64 sc]
  rw [e2] at T1
  have hX : OwX w g #[.int .i64 kind, .int .u64 (ik : Int), .slice A vec.length c, .slice A2 note.length c2, .int .u64 (key : Int), .int .u64 (till : Int), .int .i64 n, .slice QA q.length qc, .slice FA fl.length fc, .int .i64 sc] #[.int .i64 kind, .int .u64 (ik : Int), .slice A vec.length c, .slice A2 note.length c2, .int .u64 (key : Int), .int .u64 (till : Int), .int .i64 n, .slice QA q.length qc, .slice FA fl.length fc, .int .i64 sc] (V0.alloc (.cells #[.int .i64 kind, .int .u64 (ik : Int), .slice A vec.length c, .slice A2 note.length c2, .int .u64 (key : Int), .int .u64 (till : Int), .int .i64 n, .slice QA q.length qc, .slice FA fl.length fc, .int .i64 sc] 42)) := ⟨U1.alloc _, T1, U2.alloc _, b0.trans ba⟩
  have H1 := Lib.hid hX
  have HS1 := Lib.hid (HS0.out.below (show Below w.heap.size w (V0.alloc (.cells #[.int .i64 kind, .int .u64 (ik : Int), .slice A vec.length c, .slice A2 note.length c2, .int .u64 (key : Int), .int .u64 (till : Int), .int .i64 n, .slice QA q.length qc, .slice FA fl.length fc, .int .i64 sc] 42)) from by rw [HG.out]; exact b0.trans ba))
  clear hX ba b0 T0 T1 U2
  go_upto_region 2 with (first | (refine wpl_load_row rfl _ (.tmp 1) rfl g (by go_simp) _ #[.int .i64 kind, .int .u64 (ik : Int), .slice A vec.length c, .slice A2 note.length c2, .int .u64 (key : Int), .int .u64 (till : Int), .int .i64 n, .slice QA q.length qc, .slice FA fl.length fc, .int .i64 sc] (0, 0) _ U1 Try.underlying42 rfl (by kernel_rfl) ?_))

  clear U1 e2
  generalize V0.alloc (.cells #[.int .i64 kind, .int .u64 (ik : Int), .slice A vec.length c, .slice A2 note.length c2, .int .u64 (key : Int), .int .u64 (till : Int), .int .i64 n, .slice QA q.length qc, .slice FA fl.length fc, .int .i64 sc] 42) = w1 at *
  obtain ⟨d0, d1, d2, d3, d4, d5, d6, d7, d8, d9⟩ := H1.out.x.c10
  clear d0 d4 d5 d6 d7 d8 d9
  go_wp2_with fail
  refine (refcopy_any (ik : Int) A A2 vec.length c note.length c2 vec note w1 HS1.out.r1 HS1.out.r2 rfl rfl (by have := HM.out; omega) (by have := HM.out; omega)).mono ?_
  rintro e u1 ⟨B, dv, B2, dn, rfl, o1, o2, hb⟩
  have hX := H1.out.below hb
  have hgt : g + 3 ≤ w1.heap.size := H1.out.t.lt
  have hgu : g + 3 ≤ u1.heap.size := hX.t.lt
  obtain ⟨x0, x1, x2, x3, x4, x5, x6, x7, x8, x9⟩ := hX.t.c10
  clear x0 x4 x5 x6 x7 x8 x9
  have fz1 := hX.t.frozen 1
  have fz2 := hX.t.frozen 2
  have fz3 := hX.t.frozen 3
  have gx1 := grownBy_setCell u1 (g + 1 + 1) 1 (.int .u64 (ik : Int))
  have gx2 := grownBy_setCell (u1.setCell ⟨g + 1 + 1, 1, none⟩ (.int .u64 (ik : Int))) (g + 1 + 1) 2 (.slice B vec.length dv)
  have gx3 := grownBy_setCell ((u1.setCell ⟨g + 1 + 1, 1, none⟩ (.int .u64 (ik : Int))).setCell ⟨g + 1 + 1, 2, none⟩ (.slice B vec.length dv)) (g + 1 + 1) 3 (.slice B2 note.length dn)
  have hn : OwX w g #[.int .i64 kind, .int .u64 (ik : Int), .slice A vec.length c, .slice A2 note.length c2, .int .u64 (key : Int), .int .u64 (till : Int), .int .i64 n, .slice QA q.length qc, .slice FA fl.length fc, .int .i64 sc] #[.int .i64 kind, .int .u64 (ik : Int), .slice B vec.length dv, .slice B2 note.length dn, .int .u64 (key : Int), .int .u64 (till : Int), .int .i64 n, .slice QA q.length qc, .slice FA fl.length fc, .int .i64 sc] ((((u1).setCell ⟨g + 1 + 1, 1, none⟩ (.int .u64 (ik : Int))).setCell ⟨g + 1 + 1, 2, none⟩ (.slice B vec.length dv)).setCell ⟨g + 1 + 1, 3, none⟩ (.slice B2 note.length dn)) := ((hX.set 1 (.int .u64 (ik : Int))).set 2 (.slice B vec.length dv)).set 3 (.slice B2 note.length dn)
  have ba1 : Below (g + 1 + 1) w1 ((((u1).setCell ⟨g + 1 + 1, 1, none⟩ (.int .u64 (ik : Int))).setCell ⟨g + 1 + 1, 2, none⟩ (.slice B vec.length dv)).setCell ⟨g + 1 + 1, 3, none⟩ (.slice B2 note.length dn)) := below_grown (below_grown (below_grown (hb.mono (by omega)) gx1 (by omega) (by omega)) gx2 (by have := gx1.size; omega) (by omega)) gx3 (by have := gx1.size; have := gx2.size; omega) (by omega)
  have H2 := Lib.hid hn
  have k1 := (((o1.kept gx1 (own_ne o1 (by omega))).kept gx2 (own_ne o1 (by omega))).kept gx3 (own_ne o1 (by omega)))
  have k2 := (((o2.kept gx1 (own_ne o2 (by omega))).kept gx2 (own_ne o2 (by omega))).kept gx3 (own_ne o2 (by omega)))
  have v1 := own_row1 k1 (by simp [i32s])
  have v2 := own_row1 k2 (by simp [bs])
  have HV2 : Hid (LstA ((((u1).setCell ⟨g + 1 + 1, 1, none⟩ (.int .u64 (ik : Int))).setCell ⟨g + 1 + 1, 2, none⟩ (.slice B vec.length dv)).setCell ⟨g + 1 + 1, 3, none⟩ (.slice B2 note.length dn)) g B vec.length dv (i32s vec)) := Lib.hid ⟨v1.1, v1.2.1, v1.2.2, (fresh_own o1).mono (by omega)⟩
  have HN2 : Hid (LstA ((((u1).setCell ⟨g + 1 + 1, 1, none⟩ (.int .u64 (ik : Int))).setCell ⟨g + 1 + 1, 2, none⟩ (.slice B vec.length dv)).setCell ⟨g + 1 + 1, 3, none⟩ (.slice B2 note.length dn)) g B2 note.length dn (bs note)) := Lib.hid ⟨v2.1, v2.2.1, v2.2.2, (fresh_own o2).mono (by omega)⟩
  clear v1 v2 k1 k2 hn ba1 gx1 gx2 gx3 hX o1 o2 hb hgt hgu d1 d2 d3
  go_upto_region 3 with fail
  generalize ((((u1).setCell ⟨g + 1 + 1, 1, none⟩ (.int .u64 (ik : Int))).setCell ⟨g + 1 + 1, 2, none⟩ (.slice B vec.length dv)).setCell ⟨g + 1 + 1, 3, none⟩ (.slice B2 note.length dn)) = w2 at *
  clear fz1 fz2 fz3 x1 x2 x3
  obtain ⟨d0, d1, d2', d3, d4, d5, d6, d7, d8, d9⟩ := (H2.out.x.alloc (.cells #[] 21)).c10
  clear d0 d1 d2' d3 d4 d5 d6 d8 d9
  have hrw2 := (HS0.out.below (show Below w.heap.size w w2 from by rw [HG.out]; exact H2.out.bel)).r3.alloc (.cells #[] 21)
  have hsz2 : g + 3 ≤ w2.heap.size := by have := H2.out.t.lt; omega
  go_wp2_with (at_builtin; refine wpl_app32 _ rfl (.tmp 9) (.tmp 11) rfl w2.heap.size (some ⟨w2.heap.size, 0, none⟩) 0 [] 0 rfl (World.ownsRow_made w2 #[] 0 (Nat.le_refl _) (by unfold maxLen; omega) (by simp)) QA qc q q.length rfl rfl hrw2 ?_ ?_ ?_)
  · have := HM.out; omega
  · simp
  intro QB qd u2 o2 g2
  have hb2 : Below w2.heap.size w2 u2 := ((Below.refl w2.heap.size w2).alloc (Nat.le_refl _) (.cells #[] 21)).grown g2 (by simp) (by intro k hk; simp [Value.ownBlock] at hk; omega)
  have hX2 := H2.out.below hb2
  have fz2 := hX2.t.frozen 7
  have cz2 := hX2.t.cell 7
  simp only [List.getElem?_toArray, List.getElem?_cons_zero, List.getElem?_cons_succ] at cz2
  have gs2 := grownBy_setCell u2 (g + 1 + 1) 7 (.slice QB q.length qd)
  have hn2 : OwX w g #[.int .i64 kind, .int .u64 (ik : Int), .slice A vec.length c, .slice A2 note.length c2, .int .u64 (key : Int), .int .u64 (till : Int), .int .i64 n, .slice QA q.length qc, .slice FA fl.length fc, .int .i64 sc] #[.int .i64 kind, .int .u64 (ik : Int), .slice B vec.length dv, .slice B2 note.length dn, .int .u64 (key : Int), .int .u64 (till : Int), .int .i64 n, .slice QB q.length qd, .slice FA fl.length fc, .int .i64 sc] (u2.setCell ⟨g + 1 + 1, 7, none⟩ (.slice QB q.length qd)) := hX2.set 7 (.slice QB q.length qd)
  have H3 := Lib.hid hn2
  have HQ3 := Lib.hid (lst_own o2 gs2 hsz2)
  have HV3 := Lib.hid (HV2.out.step hb2 gs2)
  have HN3 := Lib.hid (HN2.out.step hb2 gs2)
  clear o2 g2 hb2 hX2 gs2 hn2 hrw2 hsz2 d7
  go_upto_region 4 with fail
  generalize u2.setCell ⟨g + 1 + 1, 7, none⟩ (.slice QB q.length qd) = w3 at *
  clear fz2 cz2
  obtain ⟨d0, d1, d2', d3, d4, d5, d6, d7, d8, d9⟩ := (H3.out.x.alloc (.cells #[] 27)).c10
  clear d0 d1 d2' d3 d4 d5 d6 d7 d9
  have hrw3 := (HS0.out.below (show Below w.heap.size w w3 from by rw [HG.out]; exact H3.out.bel)).r4.alloc (.cells #[] 27)
  have hsz3 : g + 3 ≤ w3.heap.size := by have := H3.out.t.lt; omega
  go_wp2_with (at_builtin; refine wpl_app64 _ rfl (.tmp 14) (.tmp 16) rfl w3.heap.size (some ⟨w3.heap.size, 0, none⟩) 0 [] 0 rfl (World.ownsRow_made w3 #[] 0 (Nat.le_refl _) (by unfold maxLen; omega) (by simp)) FA fc fl fl.length rfl rfl hrw3 ?_ ?_ ?_)
  · have := HM.out; omega
  · simp
  intro FB fd u3 o3 g3
  have hb3 : Below w3.heap.size w3 u3 := ((Below.refl w3.heap.size w3).alloc (Nat.le_refl _) (.cells #[] 27)).grown g3 (by simp) (by intro k hk; simp [Value.ownBlock] at hk; omega)
  have hX3 := H3.out.below hb3
  have fz3 := hX3.t.frozen 8
  have cz3 := hX3.t.cell 8
  simp only [List.getElem?_toArray, List.getElem?_cons_zero, List.getElem?_cons_succ] at cz3
  have gs3 := grownBy_setCell u3 (g + 1 + 1) 8 (.slice FB fl.length fd)
  have hn3 : OwX w g #[.int .i64 kind, .int .u64 (ik : Int), .slice A vec.length c, .slice A2 note.length c2, .int .u64 (key : Int), .int .u64 (till : Int), .int .i64 n, .slice QA q.length qc, .slice FA fl.length fc, .int .i64 sc] #[.int .i64 kind, .int .u64 (ik : Int), .slice B vec.length dv, .slice B2 note.length dn, .int .u64 (key : Int), .int .u64 (till : Int), .int .i64 n, .slice QB q.length qd, .slice FB fl.length fd, .int .i64 sc] (u3.setCell ⟨g + 1 + 1, 8, none⟩ (.slice FB fl.length fd)) := hX3.set 8 (.slice FB fl.length fd)
  have H4 := Lib.hid hn3
  have HF4 := Lib.hid (lst_own o3 gs3 hsz3)
  have HV4 := Lib.hid (HV3.out.step hb3 gs3)
  have HN4 := Lib.hid (HN3.out.step hb3 gs3)
  have HQ4 := Lib.hid (HQ3.out.step hb3 gs3)
  clear o3 g3 hb3 hX3 gs3 hn3 hrw3 hsz3 d8
  go_upto_region 5 with fail
  generalize u3.setCell ⟨g + 1 + 1, 8, none⟩ (.slice FB fl.length fd) = w4 at *
  clear fz3 cz3
  have hres := H4.out.res
  have hxx := H4.out.t
  have h1 : (show Array Value from #[.int .i64 kind, .int .u64 (ik : Int), .slice B vec.length dv, .slice B2 note.length dn, .int .u64 (key : Int), .int .u64 (till : Int), .int .i64 n, .slice QB q.length qd, .slice FB fl.length fd, .int .i64 sc]).all (·.oneCell') = true := by simp [Value.oneCell']
  go_wp2_with (first | (refine wpl_load_row rfl _ (.tmp 3) rfl (g + 1 + 1) (by go_simp) _ #[.int .i64 kind, .int .u64 (ik : Int), .slice B vec.length dv, .slice B2 note.length dn, .int .u64 (key : Int), .int .u64 (till : Int), .int .i64 n, .slice QB q.length qd, .slice FB fl.length fd, .int .i64 sc] (0, 0) _ hxx Try.underlying42 rfl (by kernel_rfl) ?_) | (refine wpList_store_row rfl _ (.tmp 2) (.tmp 19) rfl (g + 1) #[.int .i64 kind, .int .u64 (ik : Int), .slice B vec.length dv, .slice B2 note.length dn, .int .u64 (key : Int), .int .u64 (till : Int), .int .i64 n, .slice QB q.length qd, .slice FB fl.length fd, .int .i64 sc] (by go_simp) (by go_simp) _ _ hres (by kernel_rfl) rfl h1 ?_))
  refine ret_cell1 rfl (g + 1) #[.int .i64 kind, .int .u64 (ik : Int), .slice B vec.length dv, .slice B2 note.length dn, .int .u64 (key : Int), .int .u64 (till : Int), .int .i64 n, .slice QB q.length qd, .slice FB fl.length fd, .int .i64 sc] _ rfl (hres.setRow_ _) Try.underlying42 rfl (by kernel_rfl) rfl ?_
  have gs := grownBy_setRow w4 (g + 1) #[.int .i64 kind, .int .u64 (ik : Int), .slice B vec.length dv, .slice B2 note.length dn, .int .u64 (key : Int), .int .u64 (till : Int), .int .i64 n, .slice QB q.length qd, .slice FB fl.length fd, .int .i64 sc]
  have fr : ∀ {A : Option Addr}, Fresh (g + 1 + 1 + 1) A → Fresh (g + 1 + 1) A := fun h => h.mono (by omega)
  exact ⟨⟨⟨kind, ⟨ik, vec, note⟩, key, till, n, q, fl, sc⟩, B, dv, B2, dn, QB, qd, FB, fd⟩, rfl, rfl, ⟨row_fresh HV4.out.row (fr HV4.out.fr) gs (by omega), row_fresh HN4.out.row (fr HN4.out.fr) gs (by omega), row_fresh HQ4.out.row (fr HQ4.out.fr) gs (by omega), row_fresh HF4.out.row (fr HF4.out.fr) gs (by omega), HOK.out, HV4.out.le, HN4.out.le, HQ4.out.le, HF4.out.le, HV4.out.mx, HN4.out.mx, HQ4.out.mx, HF4.out.mx⟩, by rw [HG.out]; exact below_grown H4.out.bel gs H4.out.size (by omega)⟩
end Go.Proofs.Ytaadfalklddhcaa
