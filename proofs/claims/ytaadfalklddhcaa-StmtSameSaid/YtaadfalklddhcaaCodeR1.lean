/-
  What a reader's methods and the document's reader answer, with a bound on where the reader's bytes lie.
  Conditions: the reader lies in a block of its own; its bytes lie in memory as a list, in a block below B.
-/
import Derived.Test.YtaadfalklddhcaaCodeW13
namespace Go.Proofs.Ytaadfalklddhcaa
open Go.RowKit Go.Sort Go.Lib
set_option linter.unusedVariables false
/-- A reader in memory, its bytes in a block below B. -/
def RdIn (B : Nat) (t : TypeId) (w : World) (g : Nat) (r : CodeM.Rd) : Prop := ∃ A n c, Blk w g t #[.slice A n c, .int .i64 (r.e : Int)] ∧ r.l.length = n ∧ (n ≤ c ∧ n ≤ 140737488355328) ∧ c ≤ maxLen ∧ Row w A (bs r.l) ∧ (r.l = [] ∨ ∀ a, A = some a → a.block < B)
section
variable {B : Nat} {t : TypeId} {w w' : World} {g : Nat} {r : CodeM.Rd}
theorem RdIn.at_ (h : RdIn B t w g r) : RdAt t w g r := by
  obtain ⟨A, n, c, hB, h1, h2, h3, h4, h5⟩ := h
  exact ⟨A, n, c, hB, h1, h2, h3, h4⟩
theorem RdAt.in_ (h : RdAt t w g r) (hs : w.heap.size ≤ B) : RdIn B t w g r := by
  obtain ⟨A, n, c, hB, h1, h2, h3, h4⟩ := h
  refine ⟨A, n, c, hB, h1, h2, h3, h4, ?_⟩
  rcases h4 with h4 | ⟨b, o, e, hc⟩
  · exact .inl (List.map_eq_nil_iff.1 h4)
  · by_cases hl : r.l = []
    · exact .inl hl
    · right
      intro a ha
      rw [e] at ha
      injection ha with ha
      obtain ⟨u, l', hl'⟩ : ∃ u l', r.l = u :: l' := by
        cases hq : r.l with
        | nil => exact absurd hq hl
        | cons u l' => exact ⟨u, l', rfl⟩
      have h0 := hc 0 (.int .u8 (u.toNat : Int)) (by rw [hl']; rfl)
      have := block_lt_of_cell h0
      rw [← ha]; exact Nat.lt_of_lt_of_le this hs
theorem RdIn.fail (h : RdIn B t w g r) (e : Nat) : RdIn B t (w.setCell ⟨g, 1, none⟩ (.int .i64 (e : Int))) g ⟨r.l, e⟩ := by
  have hr := @RdAt.row t w (w.setCell ⟨g, 1, none⟩ (.int .i64 (e : Int))) g r h.at_ (grownBy_setCell w g 1 _)
  obtain ⟨A, n, c, hB, h1, h2, h3, h4, h5⟩ := h
  exact ⟨A, n, c, hB.set_ 1 (.int .i64 (e : Int)), h1, h2, h3, hr h4, h5⟩
theorem RdIn.lt (h : RdIn B t w g r) : g < w.heap.size := h.at_.lt
/-- Where just one other block has changed. -/
theorem RdIn.grown (h : RdIn B t w g r) {b : Nat} (hg : w.grownBy w' (some b)) (hne : b ≠ g) (hrow : ∀ A l, Row w A (bs l) → (l = [] ∨ ∀ a, A = some a → a.block < B) → Row w' A (bs l)) : RdIn B t w' g r := by
  obtain ⟨A, n, c, hB, h1, h2, h3, h4, h5⟩ := h
  refine ⟨A, n, c, ?_, h1, h2, h3, hrow _ _ h4 h5, h5⟩
  have := hg.block g hB.lt (by simpa using hne.symm)
  unfold Blk at hB ⊢
  rw [this]; exact hB
/-- A block at B or above changes: the reader stays. -/
theorem RdIn.above (h : RdIn B t w g r) {b : Nat} (hg : w.grownBy w' (some b)) (hne : b ≠ g) (hb : B ≤ b) : RdIn B t w' g r :=
  h.grown hg hne fun A l hr ha => by
    rcases ha with rfl | ha
    · exact .inl rfl
    rcases hr with hr | ⟨b', o, e, hc⟩
    · exact .inl hr
    · exact .inr ⟨b', o, e, fun j u hu => hg.cell (hc j u hu) (by simp; have q : b' < B := ha _ e; omega)⟩
/-- Another reader changes: this one stays. -/
theorem RdIn.other {t2 : TypeId} {g2 : Nat} {r2 : CodeM.Rd} (h : RdIn B t w g r) (h2 : RdAt t2 w g2 r2) (hg : w.grownBy w' (some g2)) (hne : g2 ≠ g) : RdIn B t w' g r :=
  h.grown hg hne fun A l hr _ => h2.row hg hr
theorem RdIn.below (h : RdIn B t w g r) (hb : Below w.heap.size w w') : RdIn B t w' g r := by
  obtain ⟨A, n, c, hB, h1, h2, h3, h4, h5⟩ := h
  exact ⟨A, n, c, hB.below hb hB.lt, h1, h2, h3, h4.below hb, h5⟩
end
/-- A reader's method answers, and the reader alone has changed. -/
def RdStepI (B : Nat) (t : TypeId) (g : Nat) (v : Value) (r' : CodeM.Rd) (w : World) (e : Ending) (w' : World) : Prop := e = .returned v ∧ RdIn B t w' g r' ∧ w.grownBy w' (some g)
theorem rdi_step {B : Nat} {t : TypeId} {g : Nat} {v : Value} {r' : CodeM.Rd} {w w' : World} {b : Nat} {u : Value} (hv : w' = w.setCell ⟨g, b, none⟩ u) (h : RdIn B t w' g r') : RdStepI B t g v r' w (.returned v) w' := ⟨rfl, h, hv ▸ grownBy_setCell w g b u⟩
theorem rdi_moved {B : Nat} {t : TypeId} {w : World} {g : Nat} {A : Option Addr} {c e : Nat} {l : List UInt8} (hB : Blk w g t #[.slice A l.length c, .int .i64 (e : Int)]) (hc : l.length ≤ c) (hn : l.length ≤ 140737488355328) (hc2 : c ≤ maxLen) (hrow : Row w A (bs l)) (hbd : l = [] ∨ ∀ a, A = some a → a.block < B) (k : Nat) (hk : k ≤ l.length) :
    (c = k → RdIn B t (w.setCell ⟨g, 0, none⟩ (.slice A (l.length - k) 0)) g ⟨l.drop k, e⟩) ∧ RdIn B t (w.setCell ⟨g, 0, none⟩ (.slice (A.map fun x => x.add k) (l.length - k) (c - k))) g ⟨l.drop k, e⟩ := by
  have hr : ∀ v (A2 : Option Addr) (m : List UInt8), Row w A2 (bs m) → Row (w.setCell ⟨g, 0, none⟩ v) A2 (bs m) := fun v A2 m h => row_other h hB (reader_apart _ _ _ _) (grownBy_setCell w g 0 v)
  refine ⟨?_, ?_⟩
  · rintro rfl
    have e0 : l.drop c = [] := List.drop_eq_nil_of_le hc
    refine ⟨A, l.length - c, 0, hB.set_ 0 _, by rw [List.length_drop], ⟨by omega, by omega⟩, by omega, ?_, .inl e0⟩
    left; show bs (l.drop c) = []
    rw [e0]; rfl
  · refine ⟨_, l.length - k, c - k, hB.set_ 0 _, by rw [List.length_drop], ⟨by omega, by omega⟩, by omega, hr _ _ _ (row_drop' hrow k), ?_⟩
    rcases hbd with rfl | hbd
    · exact .inl (by simp)
    right
    intro a ha
    cases A with
    | none => cases ha
    | some a0 => injection ha with ha; rw [← ha]; have q := hbd a0 rfl; simp only [Addr.add]; split <;> simpa using q
/-- A reader's text: new memory; the reader alone has changed. -/
def RdTextI (B : Nat) (t : TypeId) (g : Nat) (s : List UInt8) (r' : CodeM.Rd) (w : World) (e : Ending) (w' : World) : Prop := ∃ A n c, e = .returned (.slice A n c) ∧ Hid (s.length = n) ∧ Own w' w.heap.size A c s ∧ RdIn B t w' g r' ∧ w.grownBy w' (some g)
theorem rdi_nil {B : Nat} {t : TypeId} {g : Nat} {r' : CodeM.Rd} {w w' : World} (h : RdIn B t w' g r') (hg : w.grownBy w' (some g)) : RdTextI B t g [] r' w (.returned (.slice none 0 0)) w' := ⟨none, 0, 0, rfl, Lib.hid rfl, Own.nil_ _ _, h, hg⟩
theorem rdi_text {B : Nat} {t : TypeId} {g b n1 c1 : Nat} {A1 : Option Addr} {u : Value} {s : List UInt8} {r' : CodeM.Rd} {w w1 w' : World} (h1 : Own w1 w.heap.size A1 c1 s) (hn : Hid (s.length = n1)) (b1 : Below w.heap.size w w1) (hg : g < w.heap.size) (hv : w' = w1.setCell ⟨g, b, none⟩ u) (h : RdIn B t w' g r') :
    RdTextI B t g s r' w (.returned (.slice A1 n1 c1)) w' := by
  subst hv
  exact ⟨A1, n1, c1, rfl, hn, h1.kept (grownBy_setCell w1 g b u) hg, h, grownBy_setB (grownBy_below (World.grownBy.refl w (some g)) b1) b u⟩
set_option maxRecDepth 100000 in
theorem uvI_any {B : Nat} (g : Nat) (r : CodeM.Rd) (w : World) (hr : RdIn B 111 w g r) :
    Calls Try.prog 89 #[.pointer (some ⟨g, 0, none⟩)] w (RdStepI B 111 g (.int .u64 ((r.uv).1 : Nat)) (r.uv).2 w) := by
  have hr0 := Lib.hid hr
  obtain ⟨l, e⟩ := r
  obtain ⟨A, n, c, hB, rfl, ⟨hc, hn⟩, hc2, hrow, hbd⟩ := hr
  have c0 := hB.cell 0
  have c1 := hB.cell 1
  simp only [List.getElem?_toArray, List.getElem?_cons_zero, List.getElem?_cons_succ] at c0 c1
  dsimp only at hn hrow hc c1 c0
  have f0 := hB.frozen 0
  have f1 := hB.frozen 1
  go_enter Try.func89, Try.ntmps89
  go_wp2_with fail
  refine (err_any g _ w hr0.out.at_).mono ?_
  rintro e1 w1 ⟨rfl, rfl⟩
  by_cases he : e = 0
  · subst he
    go_wp2_with fail
    refine (rcount_any g _ w hr0.out.at_).mono ?_
    rintro e1 w1 ⟨n, k, ok, rfl, hcnt, rfl⟩
    cases ok with
    | false =>
      go_wp2
      go_ret
      rw [CodeM.uv_fail hcnt.out]
      exact rdi_step rfl (hr0.out.fail 4)
    | true =>
      have hk := (CodeM.cnt_some hcnt.out).2.2.1
      have HM := Lib.hid (rdi_moved (e := 0) hB hc hn hc2 hrow hbd k hk)
      clear hB hrow
      go_wp2
      · go_ret
        rw [CodeM.uv_ok hcnt.out]
        refine rdi_step rfl (HM.out.1 ?_)
        assumption
      · go_ret
        rw [CodeM.uv_ok hcnt.out]
        exact rdi_step rfl HM.out.2
  · go_wp2
    go_ret
    rw [CodeM.uv_err he]
    exact ⟨rfl, hr0.out, World.grownBy.refl _ _⟩
set_option maxRecDepth 100000 in
theorem fixedI_any {B : Nat} (g : Nat) (r : CodeM.Rd) (size : Nat) (w : World) (hr : RdIn B 111 w g r) (hs8 : size ≤ 8) :
    Calls Try.prog 88 #[.pointer (some ⟨g, 0, none⟩), .int .i64 (size : Int)] w (RdStepI B 111 g (.int .u64 ((r.fixed size).1 : Nat)) (r.fixed size).2 w) := by
  have hr0 := Lib.hid hr
  obtain ⟨l, e⟩ := r
  obtain ⟨A, n, c, hB, rfl, ⟨hc, hn⟩, hc2, hrow, hbd⟩ := hr
  have c0 := hB.cell 0
  have c1 := hB.cell 1
  simp only [List.getElem?_toArray, List.getElem?_cons_zero, List.getElem?_cons_succ] at c0 c1
  dsimp only at hn hrow hc c1 c0
  have f0 := hB.frozen 0
  have f1 := hB.frozen 1
  go_enter Try.func88, Try.ntmps88
  go_wp2_with fail
  refine (err_any g _ w hr0.out.at_).mono ?_
  rintro e1 w1 ⟨rfl, rfl⟩
  by_cases he : e = 0
  · subst he
    by_cases hlt : l.length < size
    · go_wp2
      go_ret
      rw [CodeM.fixed_fail hlt]
      exact rdi_step rfl (hr0.out.fail 4)
    · have HM := Lib.hid (rdi_moved (e := 0) hB hc hn hc2 hrow hbd size (by omega))
      have hsl : ∀ {k u}, k < size → l[k]? = some u → (l.take size)[k]? = some u := fun hk hu => by rw [List.getElem?_take_of_lt hk]; exact hu
      clear hB
      go_wp2
      go_loop [5, 28] (fun v i => ∃ k : Nat, k ≤ size ∧ i = .int .i64 k ∧ v = .int .u64 (CodeM.le (l.take k) : Int)) (fun _ i => size - (intOf i).toNat)
      case atStart => exact ⟨0, by omega, rfl, rfl⟩
      case round =>
        obtain ⟨k, hk, rfl, rfl⟩ := hrel
        by_cases hlk : k < size
        · obtain ⟨u, hu⟩ : ∃ s, l[k]? = some s := ⟨_, List.getElem?_eq_getElem (by omega)⟩
          obtain ⟨b, o, rfl, hcell⟩ := row_at hrow hu
          have ho := (CodeM.orfx (CodeM.le (l.take k)) k u.toNat (CodeM.le_take_lt l k (by omega)) u.toNat_lt (by omega)).trans (congrArg (fun n : Nat => (n : Int)) (CodeM.le_take_succ hu).symm)
          clear hsl
          have hw8 : IntKind.u64.wrap (u.toNat : Int) = (u.toNat : Int) := by
            have := u.toNat_lt
            rw [IntKind.wrap_u64]; omega
          have HO := Lib.hid ho
          clear ho
          go_wp2
          go_round
          case rel => exact ⟨k + 1, by omega, by go_num, congrArg (Value.int .u64) HO.out⟩
          case measure => simp [intOf]; omega
        · obtain rfl : k = size := by omega
          clear hsl
          go_wp2
          · go_ret
            rw [CodeM.fixed_ok hlt]
            refine rdi_step rfl (HM.out.1 ?_)
            assumption
          · go_ret
            rw [CodeM.fixed_ok hlt]
            exact rdi_step rfl HM.out.2
  · go_wp2
    go_ret
    rw [CodeM.fixed_err he]
    exact ⟨rfl, hr0.out, World.grownBy.refl _ _⟩
theorem u8I_any {B : Nat} (g : Nat) (r : CodeM.Rd) (w : World) (hr : RdIn B 111 w g r) :
    Calls Try.prog 29 #[.pointer (some ⟨g, 0, none⟩)] w (RdStepI B 111 g (.int .u8 ((r.fixed 1).1 : Nat)) (r.fixed 1).2 w) := by
  have hl := CodeM.fixed_lt 1 r
  have hw : IntKind.u8.wrap ((r.fixed 1).1 : Int) = ((r.fixed 1).1 : Int) := by rw [IntKind.wrap_u8]; omega
  have hw2 : ((r.fixed 1).1 : Int) % 256 = ((r.fixed 1).1 : Int) := by omega
  have H := (fixedI_any g r 1 w hr (by omega))
  generalize r.fixed 1 = p at *
  go_enter Try.func29, Try.ntmps29
  go_wp2_with (go_at_call 88; refine H.mono ?_; rintro e w1 ⟨rfl, h1, h2⟩)
  go_ret
  exact ⟨rfl, h1, h2⟩
theorem u16I_any {B : Nat} (g : Nat) (r : CodeM.Rd) (w : World) (hr : RdIn B 111 w g r) :
    Calls Try.prog 30 #[.pointer (some ⟨g, 0, none⟩)] w (RdStepI B 111 g (.int .u16 ((r.fixed 2).1 : Nat)) (r.fixed 2).2 w) := by
  have hl := CodeM.fixed_lt 2 r
  have hw : IntKind.u16.wrap ((r.fixed 2).1 : Int) = ((r.fixed 2).1 : Int) := by rw [IntKind.wrap_u16]; omega
  have hw2 : ((r.fixed 2).1 : Int) % 65536 = ((r.fixed 2).1 : Int) := by omega
  have H := (fixedI_any g r 2 w hr (by omega))
  generalize r.fixed 2 = p at *
  go_enter Try.func30, Try.ntmps30
  go_wp2_with (go_at_call 88; refine H.mono ?_; rintro e w1 ⟨rfl, h1, h2⟩)
  go_ret
  exact ⟨rfl, h1, h2⟩
theorem u32I_any {B : Nat} (g : Nat) (r : CodeM.Rd) (w : World) (hr : RdIn B 111 w g r) :
    Calls Try.prog 69 #[.pointer (some ⟨g, 0, none⟩)] w (RdStepI B 111 g (.int .u32 ((r.fixed 4).1 : Nat)) (r.fixed 4).2 w) := by
  have hl := CodeM.fixed_lt 4 r
  have hw : IntKind.u32.wrap ((r.fixed 4).1 : Int) = ((r.fixed 4).1 : Int) := by rw [IntKind.wrap_u32]; omega
  have hw2 : ((r.fixed 4).1 : Int) % 4294967296 = ((r.fixed 4).1 : Int) := by omega
  have H := (fixedI_any g r 4 w hr (by omega))
  generalize r.fixed 4 = p at *
  go_enter Try.func69, Try.ntmps69
  go_wp2_with (go_at_call 88; refine H.mono ?_; rintro e w1 ⟨rfl, h1, h2⟩)
  go_ret
  exact ⟨rfl, h1, h2⟩
theorem u64I_any {B : Nat} (g : Nat) (r : CodeM.Rd) (w : World) (hr : RdIn B 111 w g r) :
    Calls Try.prog 37 #[.pointer (some ⟨g, 0, none⟩)] w (RdStepI B 111 g (.int .u64 ((r.fixed 8).1 : Nat)) (r.fixed 8).2 w) := by
  have H := (fixedI_any g r 8 w hr (by omega))
  generalize r.fixed 8 = p at *
  go_enter Try.func37, Try.ntmps37
  go_wp2_with (go_at_call 88; refine H.mono ?_; rintro e w1 ⟨rfl, h1, h2⟩)
  go_ret
  exact ⟨rfl, h1, h2⟩
set_option maxRecDepth 100000 in
theorem textI_any {B : Nat} (g : Nat) (r : CodeM.Rd) (most : Int) (w : World) (hr : RdIn B 111 w g r) (hm0 : -9223372036854775808 ≤ most) (hm1 : most < 9223372036854775808) :
    Calls Try.prog 34 #[.pointer (some ⟨g, 0, none⟩), .int .i64 most] w (RdTextI B 111 g (r.text most).1 (r.text most).2 w) := by
  have hr0 := Lib.hid hr
  obtain ⟨l, e⟩ := r
  obtain ⟨A, n, c, hB, rfl, ⟨hc, hn⟩, hc2, hrow, hbd⟩ := hr
  have c0 := hB.cell 0
  have c1 := hB.cell 1
  simp only [List.getElem?_toArray, List.getElem?_cons_zero, List.getElem?_cons_succ] at c0 c1
  dsimp only at hn hrow hc c1 c0
  have f0 := hB.frozen 0
  have f1 := hB.frozen 1
  go_enter Try.func34, Try.ntmps34
  go_wp2_with fail
  refine (err_any g _ w hr0.out.at_).mono ?_
  rintro e1 w1 ⟨rfl, rfl⟩
  by_cases he : e = 0
  · subst he
    go_wp2_with fail
    refine (rcount_any g _ w hr0.out.at_).mono ?_
    rintro e1 w1 ⟨n, k, ok, rfl, hcnt, rfl⟩
    cases ok with
    | false =>
      go_wp2
      go_ret
      rw [CodeM.text_none hcnt.out]
      exact rdi_nil (hr0.out.fail 4) (grownBy_setCell w g 1 _)
    | true =>
      obtain ⟨hn64, hk0, hk, _, _⟩ := CodeM.cnt_some hcnt.out
      dsimp only at hk
      have hmx : IntKind.u64.wrap (max 0 most) = max 0 most := by rw [IntKind.wrap_u64]; omega
      have hmx2 : 0 ≤ max 0 most := by omega
      have hsb : IntKind.u64.wrap ((l.length : Int) - (k : Int)) = (l.length : Int) - (k : Int) := by rw [IntKind.wrap_u64]; omega
      by_cases h1 : max 0 most < (n : Int)
      · have HC := Lib.hid (CodeM.text_long (most := most) hcnt.out h1)
        go_wp2
        all_goals go_ret
        all_goals rw [HC.out]
        all_goals exact rdi_nil (hr0.out.fail 3) (grownBy_setCell w g 1 _)
      · by_cases h2 : l.length - k < n
        · have HC := Lib.hid (CodeM.text_short (most := most) hcnt.out h1 h2)
          go_wp2
          all_goals go_ret
          all_goals rw [HC.out]
          all_goals exact rdi_nil (hr0.out.fail 4) (grownBy_setCell w g 1 _)
        · have HC := Lib.hid (CodeM.text_ok (most := most) hcnt.out h1 h2)
          have hlt := hB.lt
          have hkn : k + n ≤ l.length := by omega
          have hln : ((l.drop k).take n).length = n := by rw [List.length_take, List.length_drop]; omega
          have HL := Lib.hid hln
          have HS := Lib.hid (row_cut (n := n) (k := k) hrow hc)
          have HB := Lib.hid (fun (w1 : World) (b1 : Below w.heap.size w w1) => rdi_moved (e := 0) (hB.below b1 hlt) hc hn hc2 (hrow.below b1) hbd (k + n) hkn)
          have HD := Lib.hid (fun (w1 : World) (b1 : Below w.heap.size w w1) => (hB.below b1 hlt).frozen 0)
          have HN := Lib.hid hcnt
          clear hB hln hcnt
          rcases Int.lt_or_le 0 most with hmp | hmp
          · rw [show max 0 most = most by omega] at *
            go_wp2_with fail
            · refine (clone_len A 0 n _ w (HS.out.1 (by assumption)) HL.out (by omega)).mono ?_
              rintro e w1 ⟨A1, n1, c1, rfl, hn1, h1, b1⟩
              have d0 := cell_below b1 c0
              have fz := HD.out w1 b1
              go_wp2
              all_goals go_ret
              all_goals rw [HC.out]
              all_goals first
                | exact rdi_text h1 hn1 b1 hlt rfl ((HB.out w1 b1).1 (by omega))
                | exact rdi_text h1 hn1 b1 hlt rfl (HB.out w1 b1).2
            · refine (clone_len (A.map fun x => x.add k) (c - k) n _ w HS.out.2 HL.out (by omega)).mono ?_
              rintro e w1 ⟨A1, n1, c1, rfl, hn1, h1, b1⟩
              have d0 := cell_below b1 c0
              have fz := HD.out w1 b1
              go_wp2
              all_goals go_ret
              all_goals rw [HC.out]
              all_goals first
                | exact rdi_text h1 hn1 b1 hlt rfl ((HB.out w1 b1).1 (by omega))
                | exact rdi_text h1 hn1 b1 hlt rfl (HB.out w1 b1).2
          · rw [show max 0 most = 0 by omega] at *
            obtain rfl : n = 0 := by omega
            simp only [Nat.add_zero] at HB HC
            go_wp2_with fail
            · refine (clone_len A 0 0 _ w (HS.out.1 (by assumption)) HL.out (by omega)).mono ?_
              rintro e w1 ⟨A1, n1, c1, rfl, hn1, h1, b1⟩
              have d0 := cell_below b1 c0
              have fz := HD.out w1 b1
              go_wp2
              all_goals go_ret
              all_goals rw [HC.out]
              all_goals first
                | exact rdi_text h1 hn1 b1 hlt rfl ((HB.out w1 b1).1 (by omega))
                | exact rdi_text h1 hn1 b1 hlt rfl (HB.out w1 b1).2
            · refine (clone_len (A.map fun x => x.add k) (c - k) 0 _ w HS.out.2 HL.out (by omega)).mono ?_
              rintro e w1 ⟨A1, n1, c1, rfl, hn1, h1, b1⟩
              have d0 := cell_below b1 c0
              have fz := HD.out w1 b1
              go_wp2
              all_goals go_ret
              all_goals rw [HC.out]
              all_goals first
                | exact rdi_text h1 hn1 b1 hlt rfl ((HB.out w1 b1).1 (by omega))
                | exact rdi_text h1 hn1 b1 hlt rfl (HB.out w1 b1).2
  · go_wp2
    go_ret
    rw [CodeM.text_err he]
    exact rdi_nil hr0.out (World.grownBy.refl _ _)
set_option maxRecDepth 100000 in
theorem refnumI_any {B : Nat} (g : Nat) (r : CodeM.Rd) (size : Nat) (w : World) (hr : RdIn B 73 w g r) (hs8 : size ≤ 8) :
    Calls Try.prog 39 #[.pointer (some ⟨g, 0, none⟩), .int .i64 (size : Int)] w (RdStepI B 73 g (.int .u64 ((r.fixed size).1 : Nat)) (r.fixed size).2 w) := by
  have hr0 := Lib.hid hr
  obtain ⟨l, e⟩ := r
  obtain ⟨A, n, c, hB, rfl, ⟨hc, hn⟩, hc2, hrow, hbd⟩ := hr
  have c0 := hB.cell 0
  have c1 := hB.cell 1
  simp only [List.getElem?_toArray, List.getElem?_cons_zero, List.getElem?_cons_succ] at c0 c1
  dsimp only at hn hrow hc c1 c0 hB
  have f0 := hB.frozen 0
  have f1 := hB.frozen 1
  by_cases he : e = 0
  · subst he
    by_cases hlt : l.length < size
    · go_enter Try.func39, Try.ntmps39
      go_wp2
      go_ret
      rw [CodeM.fixed_fail hlt]
      exact rdi_step rfl (hr0.out.fail 4)
    · have HM := Lib.hid (rdi_moved (e := 0) hB hc hn hc2 hrow hbd size (by omega))
      clear hB
      go_enter Try.func39, Try.ntmps39
      go_wp2
      go_loop [5, 6] (fun v i => ∃ k : Nat, k ≤ size ∧ i = .int .i64 ((k : Int) - 1) ∧ v = .int .u64 (CodeM.le ((l.take size).drop k) : Int)) (fun _ i => (intOf i + 1).toNat)
      case atStart => exact ⟨size, by omega, rfl, by rw [List.drop_eq_nil_of_le (by rw [List.length_take]; omega)]; rfl⟩
      case round =>
        obtain ⟨k, hk, rfl, rfl⟩ := hrel
        cases k with
        | zero =>
          rw [List.drop_zero]
          go_wp2
          · go_ret
            rw [CodeM.fixed_ok hlt]
            refine rdi_step rfl (HM.out.1 ?_)
            assumption
          · go_ret
            rw [CodeM.fixed_ok hlt]
            exact rdi_step rfl HM.out.2
        | succ k =>
          rw [show (((k + 1 : Nat) : Int) - 1) = (k : Int) by omega]
          obtain ⟨u, hu⟩ : ∃ s, l[k]? = some s := ⟨_, List.getElem?_eq_getElem (by omega)⟩
          obtain ⟨b, o, rfl, hcell⟩ := row_at hrow hu
          have HL := Lib.hid (CodeM.le_cons (k := size) hu (by omega))
          have hsm := CodeM.le_small (l := l) (k := size) (j := k + 1) hs8 (by omega)
          have hu8 := u.toNat_lt
          obtain ⟨N, hN⟩ : ∃ N, CodeM.le ((l.take size).drop (k + 1)) = N := ⟨_, rfl⟩
          rw [hN] at HL hsm ⊢
          have hw8 : IntKind.u64.wrap (u.toNat : Int) = (u.toNat : Int) := by rw [IntKind.wrap_u64]; omega
          clear hN
          go_wp2
          go_round
          case rel => exact ⟨k, by omega, by go_num, congrArg (Value.int .u64) (by rw [HL.out]; push_cast; rfl)⟩
          case measure => simp [intOf]
  · go_enter Try.func39, Try.ntmps39
    go_wp2
    go_ret
    rw [CodeM.fixed_err he]
    exact ⟨rfl, hr0.out, World.grownBy.refl _ _⟩
set_option maxRecDepth 100000 in
theorem refuvI_any {B : Nat} (g : Nat) (r : CodeM.Rd) (w : World) (hr : RdIn B 73 w g r) :
    Calls Try.prog 41 #[.pointer (some ⟨g, 0, none⟩)] w (RdStepI B 73 g (.int .u64 ((r.uv).1 : Nat)) (r.uv).2 w) := by
  have hr0 := Lib.hid hr
  obtain ⟨l, e⟩ := r
  obtain ⟨A, n, c, hB, rfl, ⟨hc, hn⟩, hc2, hrow, hbd⟩ := hr
  have c0 := hB.cell 0
  have c1 := hB.cell 1
  simp only [List.getElem?_toArray, List.getElem?_cons_zero, List.getElem?_cons_succ] at c0 c1
  dsimp only at hn hrow hc c1 c0 hB
  have f0 := hB.frozen 0
  have f1 := hB.frozen 1
  by_cases he : e = 0
  · subst he
    go_enter Try.func41, Try.ntmps41
    go_wp2_with fail
    refine (refcount_any A c l w hrow hn).mono ?_
    rintro e1 w1 ⟨n, k, rfl, hcnt, rfl⟩
    by_cases hk0 : k = 0
    · subst hk0
      go_wp2
      go_ret
      rw [CodeM.uv_fail hcnt.out]
      exact rdi_step rfl (hr0.out.fail 4)
    · have hcn := hcnt.out
      rw [if_neg hk0] at hcn
      have hk := (CodeM.cnt_some hcn).2.2.1
      have HM := Lib.hid (rdi_moved (e := 0) hB hc hn hc2 hrow hbd k hk)
      have HC := Lib.hid hcn
      clear hB hrow hcn hcnt
      go_wp2
      · go_ret
        rw [CodeM.uv_ok HC.out]
        refine rdi_step rfl (HM.out.1 ?_)
        assumption
      · go_ret
        rw [CodeM.uv_ok HC.out]
        exact rdi_step rfl HM.out.2
  · go_enter Try.func41, Try.ntmps41
    go_wp2
    go_ret
    rw [CodeM.uv_err he]
    exact ⟨rfl, hr0.out, World.grownBy.refl _ _⟩
set_option maxRecDepth 100000 in
set_option maxHeartbeats 2000000 in
theorem reftextI_any {B : Nat} (g : Nat) (r : CodeM.Rd) (most : Int) (w : World) (hr : RdIn B 73 w g r) (hm0 : -9223372036854775808 ≤ most) (hm1 : most < 9223372036854775808) :
    Calls Try.prog 42 #[.pointer (some ⟨g, 0, none⟩), .int .i64 most] w (RdTextI B 73 g (r.text most).1 (r.text most).2 w) := by
  have hr0 := Lib.hid hr
  obtain ⟨l, e⟩ := r
  obtain ⟨A, n, c, hB, rfl, ⟨hc, hn⟩, hc2, hrow, hbd⟩ := hr
  have c0 := hB.cell 0
  have c1 := hB.cell 1
  simp only [List.getElem?_toArray, List.getElem?_cons_zero, List.getElem?_cons_succ] at c0 c1
  dsimp only at hn hrow hc c1 c0 hB
  have f0 := hB.frozen 0
  have f1 := hB.frozen 1
  by_cases he : e = 0
  · subst he
    go_enter Try.func42, Try.ntmps42
    go_wp2_with fail
    refine (refcount_any A c l w hrow hn).mono ?_
    rintro e1 w1 ⟨n, k, rfl, hcnt, rfl⟩
    by_cases hk0 : k = 0
    · subst hk0
      go_wp2
      go_ret
      rw [CodeM.text_none hcnt.out]
      exact rdi_nil (hr0.out.fail 4) (grownBy_setCell w g 1 _)
    · have hcn := hcnt.out
      rw [if_neg hk0] at hcn
      obtain ⟨hn64, _, hk, _, _⟩ := CodeM.cnt_some hcn
      clear hcnt
      have hmx : IntKind.u64.wrap (max 0 most) = max 0 most := by rw [IntKind.wrap_u64]; omega
      have hmx2 : 0 ≤ max 0 most := by omega
      have hsb : IntKind.u64.wrap ((l.length : Int) - (k : Int)) = (l.length : Int) - (k : Int) := by rw [IntKind.wrap_u64]; omega
      by_cases h1 : max 0 most < (n : Int)
      · have HC := Lib.hid (CodeM.text_long (most := most) hcn h1)
        clear hcn
        go_wp2
        all_goals go_ret
        all_goals rw [HC.out]
        all_goals exact rdi_nil (hr0.out.fail 3) (grownBy_setCell w g 1 _)
      · by_cases h2 : l.length - k < n
        · have HC := Lib.hid (CodeM.text_short (most := most) hcn h1 h2)
          clear hcn
          go_wp2
          all_goals go_ret
          all_goals rw [HC.out]
          all_goals exact rdi_nil (hr0.out.fail 4) (grownBy_setCell w g 1 _)
        · have HC := Lib.hid (CodeM.text_ok (most := most) hcn h1 h2)
          clear hcn
          have hlt := hB.lt
          have hkn : k + n ≤ l.length := by omega
          have hln : ((l.drop k).take n).length = n := by rw [List.length_take, List.length_drop]; omega
          have HL := Lib.hid hln
          have HS := Lib.hid (row_cut (n := n) (k := k) hrow hc)
          have HB := Lib.hid (fun (w1 : World) (b1 : Below w.heap.size w w1) => rdi_moved (e := 0) (hB.below b1 hlt) hc hn hc2 (hrow.below b1) hbd (k + n) hkn)
          have HD := Lib.hid (fun (w1 : World) (b1 : Below w.heap.size w w1) => (hB.below b1 hlt).frozen 0)
          have ca := (hB.alloc (.cells #[] 5)).cell 0
          simp only [List.getElem?_toArray, List.getElem?_cons_zero] at ca
          clear hB hln
          by_cases hck : c = k
          · obtain rfl : n = 0 := by omega
            subst hck
            have hlc : l.length = c := by omega
            have HX : Hid (∀ (w1 : World), Below w.heap.size w w1 → RdIn B 73 (w1.setCell ⟨g, 0, none⟩ (.slice A 0 0)) g ⟨l.drop c, 0⟩) := Lib.hid (fun w1 b1 => by
              have := (HB.out w1 b1).1 rfl
              rw [Nat.add_zero, hlc, Nat.sub_self] at this
              exact this)
            have HC' := HC.out
            rw [List.take_zero, Nat.add_zero] at HC'
            have HC := Lib.hid HC'
            clear HC' HB HS hlc
            rcases Int.lt_or_le 0 most with hmp | hmp
            · rw [show max 0 most = most by omega] at *
              go_wp2_with (at_builtin; refine wpl_app' _ rfl (.tmp 47) (.tmp 57) rfl w.heap.size (some ⟨w.heap.size, 0, none⟩) 0 [] 0 rfl rfl (Own.made w #[] 0 (Nat.le_refl _) (by unfold maxLen; omega) rfl) A 0 [] 0 rfl rfl (.inl rfl) (by omega) (by simp) ?_; intro A1 c1 w1 h1 hg1 _; have b1 : Below w.heap.size w w1 := ((Below.refl w.heap.size w).alloc (Nat.le_refl _) (.cells #[] 5)).grown hg1 (by simp) (by intro k hk; simp [Value.ownBlock] at hk; omega); rw [List.nil_append] at h1; have d0 := cell_below b1 c0; have fz := HD.out w1 b1; clear hg1)
              all_goals go_ret
              all_goals rw [HC.out]
              all_goals exact rdi_text h1 (Lib.hid rfl) b1 hlt rfl (HX.out w1 b1)
            · rw [show max 0 most = 0 by omega] at *
              go_wp2_with (at_builtin; refine wpl_app' _ rfl (.tmp 47) (.tmp 57) rfl w.heap.size (some ⟨w.heap.size, 0, none⟩) 0 [] 0 rfl rfl (Own.made w #[] 0 (Nat.le_refl _) (by unfold maxLen; omega) rfl) A 0 [] 0 rfl rfl (.inl rfl) (by omega) (by simp) ?_; intro A1 c1 w1 h1 hg1 _; have b1 : Below w.heap.size w w1 := ((Below.refl w.heap.size w).alloc (Nat.le_refl _) (.cells #[] 5)).grown hg1 (by simp) (by intro k hk; simp [Value.ownBlock] at hk; omega); rw [List.nil_append] at h1; have d0 := cell_below b1 c0; have fz := HD.out w1 b1; clear hg1)
              all_goals go_ret
              all_goals rw [HC.out]
              all_goals exact rdi_text h1 (Lib.hid rfl) b1 hlt rfl (HX.out w1 b1)
          · skip
            rcases Int.lt_or_le 0 most with hmp | hmp
            · rw [show max 0 most = most by omega] at *
              go_wp2_with ((at_builtin; refine wpl_app' _ rfl (.tmp 47) (.tmp 57) rfl w.heap.size (some ⟨w.heap.size, 0, none⟩) 0 [] 0 rfl rfl (Own.made w #[] 0 (Nat.le_refl _) (by unfold maxLen; omega) rfl) (A.map fun x => x.add k) (c - k) ((l.drop k).take n) n (by first | rfl | simp [Act.eval]) HL.out (Row.alloc HS.out.2 _) (by omega) (by simp) ?_; intro A1 c1 w1 h1 hg1 _; have b1 : Below w.heap.size w w1 := ((Below.refl w.heap.size w).alloc (Nat.le_refl _) (.cells #[] 5)).grown hg1 (by simp) (by intro k hk; simp [Value.ownBlock] at hk; omega); rw [List.nil_append] at h1; have d0 := cell_below b1 c0; have fz := HD.out w1 b1; clear hg1))
              all_goals go_ret
              all_goals rw [HC.out]
              all_goals first
                | exact rdi_text h1 HL b1 hlt rfl ((HB.out w1 b1).1 (by first | assumption | omega))
                | exact rdi_text h1 HL b1 hlt rfl (HB.out w1 b1).2
            · rw [show max 0 most = 0 by omega] at *
              go_wp2_with ((at_builtin; refine wpl_app' _ rfl (.tmp 47) (.tmp 57) rfl w.heap.size (some ⟨w.heap.size, 0, none⟩) 0 [] 0 rfl rfl (Own.made w #[] 0 (Nat.le_refl _) (by unfold maxLen; omega) rfl) (A.map fun x => x.add k) (c - k) ((l.drop k).take n) n (by first | rfl | simp [Act.eval]) HL.out (Row.alloc HS.out.2 _) (by omega) (by simp) ?_; intro A1 c1 w1 h1 hg1 _; have b1 : Below w.heap.size w w1 := ((Below.refl w.heap.size w).alloc (Nat.le_refl _) (.cells #[] 5)).grown hg1 (by simp) (by intro k hk; simp [Value.ownBlock] at hk; omega); rw [List.nil_append] at h1; have d0 := cell_below b1 c0; have fz := HD.out w1 b1; clear hg1))
              all_goals go_ret
              all_goals rw [HC.out]
              all_goals first
                | exact rdi_text h1 HL b1 hlt rfl ((HB.out w1 b1).1 (by first | assumption | omega))
                | exact rdi_text h1 HL b1 hlt rfl (HB.out w1 b1).2
  · go_enter Try.func42, Try.ntmps42
    go_wp2
    go_ret
    rw [CodeM.text_err he]
    exact rdi_nil hr0.out (World.grownBy.refl _ _)
end Go.Proofs.Ytaadfalklddhcaa
