/-
  The reader of bytes, as far as slotted bodies need it: made, asked for its error, for numbers of one, two and four bytes.
  Conditions: the reader lies in a block of its own.
-/
import Derived.Test.YtofbfehpadjbbaaSltB6
namespace Go.Proofs.Ytofbfehpadjbbaa
open Go.RowKit Go.Sort Go.Lib
set_option linter.unusedVariables false
/-- A reader in memory (t: its type; bl: where its bytes lie). -/
def RdAt (t : TypeId) (bl : Nat) (w : World) (g : Nat) (r : CodeM.Rd) : Prop := ∃ A n c, Blk w g t #[.slice A n c, .int .i64 (r.e : Int)] ∧ r.l.length = n ∧ (n ≤ c ∧ n ≤ 140737488355328) ∧ (c ≤ maxLen ∧ ∀ a : Addr, A = some a → a.block = bl) ∧ Row w A (bs r.l)
/-- A new reader. -/
def NewR (t : TypeId) (r : CodeM.Rd) (w : World) (e : Ending) (w' : World) : Prop := ∃ g bl, e = .returned (.pointer (some ⟨g, 0, none⟩)) ∧ (w.heap.size ≤ g ∧ bl < w'.heap.size) ∧ RdAt t bl w' g r ∧ Below w.heap.size w w'
/-- Bytes lie in no reader's block. -/
theorem row_apart {w : World} {A : Option Addr} {l : List UInt8} {g : Nat} {t : TypeId} {cs : Array Value} (h : Row w A (bs l)) (hB : Blk w g t cs) (hcs : ∀ v ∈ cs.toList, ∀ c : UInt8, v ≠ B c) : l = [] ∨ ∃ b o, A = some ⟨b, o, none⟩ ∧ b ≠ g ∧ ∀ j u, (bs l)[j]? = some u → w.cell? ⟨b, o + j, none⟩ = some u := by
  rcases h with h | ⟨b, o, e, hc⟩
  · exact .inl (List.map_eq_nil_iff.1 h)
  · by_cases hl : l = []
    · exact .inl hl
    · refine .inr ⟨b, o, e, ?_, hc⟩
      rintro rfl
      obtain ⟨u, l', rfl⟩ : ∃ u l', l = u :: l' := by
        cases l with
        | nil => exact absurd rfl hl
        | cons u l' => exact ⟨u, l', rfl⟩
      have h0 := hc 0 (B u) rfl
      rw [hB.cell] at h0
      exact hcs _ (by rw [← Array.getElem?_toList] at h0; exact List.mem_of_getElem? h0) u rfl
theorem row_other {w w' : World} {A : Option Addr} {l : List UInt8} {g : Nat} {t : TypeId} {cs : Array Value} (h : Row w A (bs l)) (hB : Blk w g t cs) (hcs : ∀ v ∈ cs.toList, ∀ c : UInt8, v ≠ B c) (hg : w.grownBy w' (some g)) : Row w' A (bs l) := by
  rcases row_apart h hB hcs with rfl | ⟨b, o, e, hne, hc⟩
  · exact .inl rfl
  · refine .inr ⟨b, o, e, fun j u hu => ?_⟩
    have := hc j u hu
    exact hg.cell this (by simpa using hne)
theorem reader_apart (A : Option Addr) (n c : Nat) (e : Int) : ∀ v ∈ (#[Value.slice A n c, Value.int .i64 e] : Array Value).toList, ∀ c : UInt8, v ≠ B c := by
  intro v hv c
  simp at hv
  rcases hv with rfl | rfl <;> simp [B]
/-- Bytes stay where a reader alone has changed. -/
theorem RdAt.row {t : TypeId} {bl : Nat} {w w' : World} {g : Nat} {r : CodeM.Rd} (h : RdAt t bl w g r) (hg : w.grownBy w' (some g)) {A : Option Addr} {l : List UInt8} (hr : Row w A (bs l)) : Row w' A (bs l) := by
  obtain ⟨_, _, _, hB, _⟩ := h
  exact row_other hr hB (reader_apart _ _ _ _) hg
theorem RdAt.below {t : TypeId} {bl : Nat} {w w' : World} {g : Nat} {r : CodeM.Rd} (h : RdAt t bl w g r) (hb : Below w.heap.size w w') : RdAt t bl w' g r := by
  obtain ⟨A, n, c, hB, h1, h2, h3, h4⟩ := h
  exact ⟨A, n, c, hB.below hb hB.lt, h1, h2, h3, h4.below hb⟩
/-- Written elsewhere. -/
theorem RdAt.far {t : TypeId} {bl : Nat} {w w' : World} {g : Nat} {r : CodeM.Rd} {row : Option Nat} (h : RdAt t bl w g r) (hg : w.grownBy w' row) (h1 : row ≠ some g) (h2 : row ≠ some bl) : RdAt t bl w' g r := by
  obtain ⟨A, n, c, hB, e1, e2, ⟨e3, e4⟩, e5⟩ := h
  exact ⟨A, n, c, hB.grown hg h1.symm, e1, e2, ⟨e3, e4⟩, row_grown e5 hg (fun a ha q => h2 (by rw [q, e4 a ha]))⟩
theorem RdAt.lt {t : TypeId} {bl : Nat} {w : World} {g : Nat} {r : CodeM.Rd} (h : RdAt t bl w g r) : g < w.heap.size := by
  obtain ⟨A, n, c, hB, _⟩ := h
  exact hB.lt
theorem below_grown {B g : Nat} {a w w' : World} (h : Below B a w) (hg : w.grownBy w' (some g)) (hs : B ≤ w.heap.size) (hB : B ≤ g) : Below B a w' := h.grown hg hs (fun k hk => by injection hk with hk; omega)
set_option maxRecDepth 100000 in
theorem newreader_any (A : Option Addr) (c : Nat) (l : List UInt8) (w : World) (hr : Row w A (bs l)) (hc : l.length ≤ 140737488355328) :
    Calls Try.prog 34 #[.slice A l.length c] w (NewR 73 ⟨l, 0⟩ w) := by
  go_enter Try.func34, Try.ntmps34
  go_wp2_with fail
  refine (clone_any A c l _ hr hc).mono ?_
  rintro e w1 ⟨A1, n1, c1, rfl, hn1, h1, b1⟩
  have hs := b1.size
  go_wp2
  go_ret
  obtain ⟨bl, hbl, hbl2⟩ : ∃ bl, (∀ a : Addr, A1 = some a → a.block = bl) ∧ bl < w1.heap.size + 1 := by
    cases A1 with
    | none => exact ⟨0, nofun, by omega⟩
    | some a => exact ⟨a.block, fun a' ha => by injection ha with ha; rw [ha], by have := World.ownsRow.lt h1 a.block rfl; omega⟩
  exact ⟨w1.heap.size, bl, rfl, ⟨by omega, by simpa using hbl2⟩, ⟨A1, n1, c1, Blk.new w1 _ _, hn1.out, ⟨hn1.out ▸ h1.le.1, hn1.out ▸ hc⟩, ⟨h1.le.2, hbl⟩, (h1.alloc _).row⟩, b1.alloc hs _⟩
theorem err_any (bl g : Nat) (r : CodeM.Rd) (w : World) (hr : RdAt 73 bl w g r) :
    Calls Try.prog 53 #[.pointer (some ⟨g, 0, none⟩)] w fun e w' => e = .returned (.int .i64 (r.e : Int)) ∧ w = w' := by
  obtain ⟨A, n, c, hB, hn, hc, hc2, hrow⟩ := hr
  have c1 := hB.cell 1
  simp only [List.getElem?_toArray, List.getElem?_cons_zero, List.getElem?_cons_succ] at c1
  clear hB hn
  go_enter Try.func53, Try.ntmps53
  go_wp2
  go_ret
  exact ⟨rfl, rfl⟩
/-- A reader's method answers, and the reader alone has changed. -/
def RdStep (t : TypeId) (bl g : Nat) (v : Value) (r' : CodeM.Rd) (w : World) (e : Ending) (w' : World) : Prop := e = .returned v ∧ RdAt t bl w' g r' ∧ w.grownBy w' (some g)
/-- Its error is set. -/
theorem RdAt.fail {t : TypeId} {bl : Nat} {w : World} {g : Nat} {r : CodeM.Rd} (h : RdAt t bl w g r) (e : Nat) : RdAt t bl (w.setCell ⟨g, 1, none⟩ (.int .i64 (e : Int))) g ⟨r.l, e⟩ := by
  have hr := @RdAt.row t bl w (w.setCell ⟨g, 1, none⟩ (.int .i64 (e : Int))) g r h (grownBy_setCell w g 1 _)
  obtain ⟨A, n, c, hB, h1, h2, h3, h4⟩ := h
  exact ⟨A, n, c, hB.set_ 1 (.int .i64 (e : Int)), h1, h2, h3, hr h4⟩
theorem row_drop {w : World} {b o : Nat} {l : List UInt8} (h : Row w (some ⟨b, o, none⟩) (bs l)) (k : Nat) : Row w (some ⟨b, o + k, none⟩) (bs (l.drop k)) := by
  rcases h with h | ⟨b', o', e, hc⟩
  · left; rw [List.map_eq_nil_iff.1 h]; simp [bs]
  · simp only [Option.some.injEq, Addr.mk.injEq, and_true] at e
    obtain ⟨rfl, rfl⟩ := e
    refine .inr ⟨b, o + k, rfl, fun j u hu => ?_⟩
    rw [Nat.add_assoc]
    refine hc (k + j) u ?_
    unfold bs at hu ⊢
    rw [List.map_drop, List.getElem?_drop] at hu
    exact hu
theorem row_drop' {w : World} {A : Option Addr} {l : List UInt8} (h : Row w A (bs l)) (k : Nat) : Row w (A.map fun x => x.add k) (bs (l.drop k)) := by
  cases A with
  | none => left; rw [row_none h]; simp [bs]
  | some a =>
    rcases h with h | ⟨b, o, e, hc⟩
    · left; rw [List.map_eq_nil_iff.1 h]; simp [bs]
    · injection e with e; subst e
      have := row_drop (.inr ⟨b, o, rfl, hc⟩) k
      show Row w (some (Addr.add _ _)) _
      rw [Addr.add_lit]; exact this
/-- The reader has moved on. -/
theorem rd_moved {t : TypeId} {bl : Nat} {w : World} {g : Nat} {A : Option Addr} {c e : Nat} {l : List UInt8} (hB : Blk w g t #[.slice A l.length c, .int .i64 (e : Int)]) (hc : l.length ≤ c) (hn : l.length ≤ 140737488355328) (hc2 : c ≤ maxLen ∧ ∀ a : Addr, A = some a → a.block = bl) (hrow : Row w A (bs l)) (k : Nat) (hk : k ≤ l.length) :
    (c = k → RdAt t bl (w.setCell ⟨g, 0, none⟩ (.slice A (l.length - k) 0)) g ⟨l.drop k, e⟩) ∧ RdAt t bl (w.setCell ⟨g, 0, none⟩ (.slice (A.map fun x => x.add k) (l.length - k) (c - k))) g ⟨l.drop k, e⟩ := by
  have hr : ∀ v (A2 : Option Addr) (m : List UInt8), Row w A2 (bs m) → Row (w.setCell ⟨g, 0, none⟩ v) A2 (bs m) := fun v A2 m h => row_other h hB (reader_apart _ _ _ _) (grownBy_setCell w g 0 v)
  refine ⟨?_, ?_⟩
  · rintro rfl
    have e0 : l.drop c = [] := List.drop_eq_nil_of_le hc
    refine ⟨A, l.length - c, 0, hB.set_ 0 _, by rw [List.length_drop], ⟨by omega, by omega⟩, ⟨by omega, hc2.2⟩, ?_⟩
    left; show bs (l.drop c) = []
    rw [e0]; rfl
  · refine ⟨A.map fun x => x.add k, l.length - k, c - k, hB.set_ 0 _, by rw [List.length_drop], ⟨by omega, by omega⟩, ⟨by omega, fun a ha => ?_⟩, hr _ _ _ (row_drop' hrow k)⟩
    cases A with
    | none => cases ha
    | some x =>
      simp only [Option.map_some, Option.some.injEq] at ha
      rw [← ha]; exact (show (x.add k).block = x.block by unfold Addr.add; split <;> rfl).trans (hc2.2 x rfl)
/-- Both writings of what has moved. -/
theorem rd_step {t : TypeId} {bl g : Nat} {v : Value} {r' : CodeM.Rd} {w w' : World} {b : Nat} {u : Value} (hv : w' = w.setCell ⟨g, b, none⟩ u) (h : RdAt t bl w' g r') : RdStep t bl g v r' w (.returned v) w' := ⟨rfl, h, hv ▸ grownBy_setCell w g b u⟩
namespace CodeM
theorem uv_fail {l : List UInt8} (h : cnt l = none) : Rd.uv ⟨l, 0⟩ = (0, ⟨l, 4⟩) := by simp [Rd.uv, h]
theorem uv_ok {l : List UInt8} {n k : Nat} (h : cnt l = some (n, k)) : Rd.uv ⟨l, 0⟩ = (n, ⟨l.drop k, 0⟩) := by simp [Rd.uv, h]
theorem uv_err {l : List UInt8} {e : Nat} (h : e ≠ 0) : Rd.uv ⟨l, e⟩ = (0, ⟨l, e⟩) := by simp [Rd.uv, h]
end CodeM
namespace CodeM
theorem pow8 (k : Nat) : (2 : Nat) ^ (8 * k) = 256 ^ k := by rw [Nat.pow_mul]
theorem orfx (acc k u : Nat) (h : acc < 256 ^ k) (hu : u < 256) (hk : k < 8) : bits .or .u64 (acc : Int) (IntKind.u64.wrap ((u : Int) * 2 ^ (8 * k))) = ((acc + 256 ^ k * u : Nat) : Int) := by
  rw [← pow8] at h ⊢
  have h1 : 2 ^ (8 * k) ≤ 2 ^ 56 := Nat.pow_le_pow_right (by omega) (by omega)
  have h2 : u * 2 ^ (8 * k) ≤ 255 * 2 ^ 56 := Nat.mul_le_mul (by omega) h1
  have e : (u : Int) * 2 ^ (8 * k) = ((u * 2 ^ (8 * k) : Nat) : Int) := by push_cast; rfl
  rw [e, IntKind.wrap_u64, Int.emod_eq_of_lt (by omega) (by omega), u64_or_nat _ _ (by omega) (by omega), Nat.or_comm, ← Nat.shiftLeft_eq, ← Nat.shiftLeft_add_eq_or_of_lt h, Nat.add_comm, Nat.shiftLeft_eq, Nat.mul_comm]
theorem le_take_succ {l : List UInt8} {k : Nat} {u : UInt8} (hu : l[k]? = some u) : le (l.take (k + 1)) = le (l.take k) + 256 ^ k * u.toNat := by
  obtain ⟨hk, e⟩ := List.getElem?_eq_some_iff.1 hu
  rw [List.take_add_one, hu, le_append, List.length_take, Nat.min_eq_left (by omega)]
  simp [le]
theorem le_take_lt (l : List UInt8) (k : Nat) (hk : k ≤ l.length) : le (l.take k) < 256 ^ k := by
  have := le_lt (l.take k)
  rwa [List.length_take, Nat.min_eq_left hk] at this
theorem fixed_err {l : List UInt8} {k e : Nat} (h : e ≠ 0) : Rd.fixed k ⟨l, e⟩ = (0, ⟨l, e⟩) := by simp [Rd.fixed, h]
theorem fixed_fail {l : List UInt8} {k : Nat} (h : l.length < k) : Rd.fixed k ⟨l, 0⟩ = (0, ⟨l, 4⟩) := by simp [Rd.fixed, h]
theorem fixed_ok {l : List UInt8} {k : Nat} (h : ¬ l.length < k) : Rd.fixed k ⟨l, 0⟩ = (le (l.take k), ⟨l.drop k, 0⟩) := by simp [Rd.fixed, h]
end CodeM
set_option maxRecDepth 100000 in
theorem fixed_any (bl g : Nat) (r : CodeM.Rd) (size : Nat) (w : World) (hr : RdAt 73 bl w g r) (hs8 : size ≤ 8) :
    Calls Try.prog 46 #[.pointer (some ⟨g, 0, none⟩), .int .i64 (size : Int)] w (RdStep 73 bl g (.int .u64 ((r.fixed size).1 : Nat)) (r.fixed size).2 w) := by
  have hr0 := Lib.hid hr
  obtain ⟨l, e⟩ := r
  obtain ⟨A, n, c, hB, rfl, ⟨hc, hn⟩, hc2, hrow⟩ := hr
  have c0 := hB.cell 0
  have c1 := hB.cell 1
  simp only [List.getElem?_toArray, List.getElem?_cons_zero, List.getElem?_cons_succ] at c0 c1
  dsimp only at hn hrow hc c1 c0
  have f0 := hB.frozen 0
  have f1 := hB.frozen 1
  go_enter Try.func46, Try.ntmps46
  go_wp2_with fail
  refine (err_any bl g _ w hr0.out).mono ?_
  rintro e1 w1 ⟨rfl, rfl⟩
  by_cases he : e = 0
  · subst he
    by_cases hlt : l.length < size
    · go_wp2
      go_ret
      rw [CodeM.fixed_fail hlt]
      exact rd_step rfl (hr0.out.fail 4)
    · have HM := Lib.hid (rd_moved (e := 0) hB hc hn hc2 hrow size (by omega))
      have hsl : ∀ {k u}, k < size → l[k]? = some u → (l.take size)[k]? = some u := fun hk hu => by rw [List.getElem?_take_of_lt hk]; exact hu
      clear hB
      go_wp2
      go_loop [5, 28] (fun v i => ∃ k : Nat, k ≤ size ∧ i = .int .i64 k ∧ v = .int .u64 (CodeM.le (l.take k) : Int)) (fun _ i => size - (RowKit.intOf i).toNat)
      case atStart => exact ⟨0, by omega, rfl, rfl⟩
      case round =>
        obtain ⟨k, hk, rfl, rfl⟩ := hrel
        by_cases hlk : k < size
        · obtain ⟨u, hu⟩ : ∃ s, l[k]? = some s := ⟨_, List.getElem?_eq_getElem (by omega)⟩
          obtain ⟨b, o, rfl, hcell⟩ := row_at hrow hu
          have ho := (CodeM.orfx (CodeM.le (l.take k)) k u.toNat (CodeM.le_take_lt l k (by omega)) u.toNat_lt (by omega)).trans (congrArg (fun n : Nat => (n : Int)) (CodeM.le_take_succ hu).symm)
          clear hsl
          have hw8 : IntKind.u64.wrap (u.toNat : Int) = (u.toNat : Int) := by
            have := u.toNat_lt
            rw [IntKind.wrap_u64]; omega
          have HO := Lib.hid ho
          clear ho
          go_wp2
          go_round
          case rel => exact ⟨k + 1, by omega, by go_num, congrArg (Value.int .u64) HO.out⟩
          case measure => simp [RowKit.intOf]; omega
        · obtain rfl : k = size := by omega
          clear hsl
          go_wp2
          · go_ret
            rw [CodeM.fixed_ok hlt]
            refine rd_step rfl (HM.out.1 ?_)
            assumption
          · go_ret
            rw [CodeM.fixed_ok hlt]
            exact rd_step rfl HM.out.2
  · go_wp2
    go_ret
    rw [CodeM.fixed_err he]
    exact ⟨rfl, hr0.out, World.grownBy.refl _ _⟩
namespace CodeM
theorem fixed_lt (k : Nat) (r : Rd) : (r.fixed k).1 < 256 ^ k := by
  unfold Rd.fixed
  have := Nat.pow_pos (n := k) (show 0 < 256 by omega)
  split
  · exact this
  · split
    · exact this
    · exact le_take_lt _ _ (by omega)
theorem text_err {l : List UInt8} {most : Int} {e : Nat} (h : e ≠ 0) : Rd.text most ⟨l, e⟩ = ([], ⟨l, e⟩) := by simp [Rd.text, h]
theorem text_none {l : List UInt8} {most : Int} (h : cnt l = none) : Rd.text most ⟨l, 0⟩ = ([], ⟨l, 4⟩) := by simp [Rd.text, h]
theorem text_long {l : List UInt8} {most : Int} {n k : Nat} (h : cnt l = some (n, k)) (h1 : max 0 most < (n : Int)) : Rd.text most ⟨l, 0⟩ = ([], ⟨l, 3⟩) := by unfold Rd.text; rw [if_neg (by simp), h]; simp only; rw [if_pos h1]
theorem text_short {l : List UInt8} {most : Int} {n k : Nat} (h : cnt l = some (n, k)) (h1 : ¬ max 0 most < (n : Int)) (h2 : l.length - k < n) : Rd.text most ⟨l, 0⟩ = ([], ⟨l, 4⟩) := by unfold Rd.text; rw [if_neg (by simp), h]; simp only; rw [if_neg h1, if_pos h2]
theorem text_ok {l : List UInt8} {most : Int} {n k : Nat} (h : cnt l = some (n, k)) (h1 : ¬ max 0 most < (n : Int)) (h2 : ¬ l.length - k < n) : Rd.text most ⟨l, 0⟩ = ((l.drop k).take n, ⟨l.drop (k + n), 0⟩) := by unfold Rd.text; rw [if_neg (by simp), h]; simp only; rw [if_neg h1, if_neg h2]
end CodeM
theorem u8_any (bl g : Nat) (r : CodeM.Rd) (w : World) (hr : RdAt 73 bl w g r) :
    Calls Try.prog 35 #[.pointer (some ⟨g, 0, none⟩)] w (RdStep 73 bl g (.int .u8 ((r.fixed 1).1 : Nat)) (r.fixed 1).2 w) := by
  have hl := CodeM.fixed_lt 1 r
  have hw : IntKind.u8.wrap ((r.fixed 1).1 : Int) = ((r.fixed 1).1 : Int) := by rw [IntKind.wrap_u8]; omega
  have hw2 : ((r.fixed 1).1 : Int) % 256 = ((r.fixed 1).1 : Int) := by omega
  have H := (fixed_any bl g r 1 w hr (by omega))
  generalize r.fixed 1 = p at *
  go_enter Try.func35, Try.ntmps35
  go_wp2_with (go_at_call 46; refine H.mono ?_; rintro e w1 ⟨rfl, h1, h2⟩)
  go_ret
  exact ⟨rfl, h1, h2⟩
theorem u16_any (bl g : Nat) (r : CodeM.Rd) (w : World) (hr : RdAt 73 bl w g r) :
    Calls Try.prog 37 #[.pointer (some ⟨g, 0, none⟩)] w (RdStep 73 bl g (.int .u16 ((r.fixed 2).1 : Nat)) (r.fixed 2).2 w) := by
  have hl := CodeM.fixed_lt 2 r
  have hw : IntKind.u16.wrap ((r.fixed 2).1 : Int) = ((r.fixed 2).1 : Int) := by rw [IntKind.wrap_u16]; omega
  have hw2 : ((r.fixed 2).1 : Int) % 65536 = ((r.fixed 2).1 : Int) := by omega
  have H := (fixed_any bl g r 2 w hr (by omega))
  generalize r.fixed 2 = p at *
  go_enter Try.func37, Try.ntmps37
  go_wp2_with (go_at_call 46; refine H.mono ?_; rintro e w1 ⟨rfl, h1, h2⟩)
  go_ret
  exact ⟨rfl, h1, h2⟩
theorem u32_any (bl g : Nat) (r : CodeM.Rd) (w : World) (hr : RdAt 73 bl w g r) :
    Calls Try.prog 36 #[.pointer (some ⟨g, 0, none⟩)] w (RdStep 73 bl g (.int .u32 ((r.fixed 4).1 : Nat)) (r.fixed 4).2 w) := by
  have hl := CodeM.fixed_lt 4 r
  have hw : IntKind.u32.wrap ((r.fixed 4).1 : Int) = ((r.fixed 4).1 : Int) := by rw [IntKind.wrap_u32]; omega
  have hw2 : ((r.fixed 4).1 : Int) % 4294967296 = ((r.fixed 4).1 : Int) := by omega
  have H := (fixed_any bl g r 4 w hr (by omega))
  generalize r.fixed 4 = p at *
  go_enter Try.func36, Try.ntmps36
  go_wp2_with (go_at_call 46; refine H.mono ?_; rintro e w1 ⟨rfl, h1, h2⟩)
  go_ret
  exact ⟨rfl, h1, h2⟩
end Go.Proofs.Ytofbfehpadjbbaa
