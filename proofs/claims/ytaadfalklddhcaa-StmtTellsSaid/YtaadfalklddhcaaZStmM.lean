/-
  Plain words of requests: whether they may be, their form, what bytes are read as; no program in sight.
  Conditions: none.
-/
import Derived.Test.YtaadfalklddhcaaZStmW5
import Derived.Test.YtaadfalklddhcaaZDj
namespace Go.Proofs.Ytaadfalklddhcaa
open Go.RowKit
set_option linter.unusedVariables false
set_option linter.unusedSimpArgs false
/-- A request. -/
structure Rq where
  kind : Int
  it : Itm
  key : Nat
  till : Nat
  n : Int
  q : List Int
  fl : List Nat
  scale : Int
/-- Its numbers are in range. -/
structure Rq.Ok (x : Rq) : Prop where
  hkind : -9223372036854775808 ≤ x.kind ∧ x.kind < 9223372036854775808
  hit : x.it.Ok
  hkey : x.key < 18446744073709551616
  hto : x.till < 18446744073709551616
  hn : -9223372036854775808 ≤ x.n ∧ x.n < 9223372036854775808
  hq : ∀ v ∈ x.q, -2147483648 ≤ v ∧ v < 2147483648
  hfl : ∀ v ∈ x.fl, v < 18446744073709551616
  hsc : -9223372036854775808 ≤ x.scale ∧ x.scale < 9223372036854775808
namespace StmM
open CodeM ItemM
def no : Itm := ⟨0, [], []⟩
def nil (k : Int) : Rq := ⟨k, no, 0, 0, 0, [], [], 0⟩
def bare (x : Rq) : Rq :=
  if x.kind = 2 then ⟨x.kind, x.it, 0, 0, 0, [], [], 0⟩
  else if x.kind = 3 ∨ x.kind = 4 then ⟨x.kind, no, x.key, 0, 0, [], [], 0⟩
  else if x.kind = 5 then ⟨x.kind, no, x.key, x.till, x.n, [], [], 0⟩
  else if x.kind = 6 then ⟨x.kind, no, 0, 0, x.n, x.q, [], 0⟩
  else if x.kind = 10 then ⟨x.kind, ⟨x.it.key, [], x.it.note⟩, 0, 0, 0, [], x.fl, x.scale⟩
  else if x.kind = 11 then ⟨x.kind, no, 0, 0, x.n, [], x.fl, x.scale⟩
  else nil x.kind
def same (a b : Rq) : Bool := decide (a.kind = b.kind) && (ItemM.same a.it b.it && (decide (a.key = b.key) && (decide (a.till = b.till) && (decide (a.n = b.n) && (decide (a.scale = b.scale) && (decide (a.q = b.q) && decide (a.fl = b.fl)))))))
theorem same_iff (a b : Rq) : same a b = true ↔ a = b := by
  cases a; cases b
  simp only [same, Bool.and_eq_true, decide_eq_true_eq, ItemM.same_iff, Rq.mk.injEq]
  constructor
  · rintro ⟨h1, h2, h3, h4, h5, h6, h7, h8⟩; exact ⟨h1, h2, h3, h4, h5, h7, h8, h6⟩
  · rintro ⟨h1, h2, h3, h4, h5, h6, h7, h8⟩; exact ⟨h1, h2, h3, h4, h5, h8, h6, h7⟩
theorem same_refl (a : Rq) : same a a = true := (same_iff a a).2 rfl
theorem same_comm (a b : Rq) : same a b = same b a := by
  cases h : same b a with
  | true => rw [(same_iff b a).1 h]; exact same_refl _
  | false =>
    cases h2 : same a b with
    | false => rfl
    | true => rw [(same_iff a b).1 h2, same_refl] at h; cases h
/-- Its item, where the kind asks for more of it. -/
def itOk (x : Rq) : Prop := (x.kind = 2 → ItemM.may x.it = 0) ∧ (x.kind ≠ 2 → x.it.note.length ≤ 1024)
instance (x : Rq) : Decidable (itOk x) := by unfold itOk; infer_instance
def may (x : Rq) : Bool := decide (1 ≤ x.kind ∧ x.kind ≤ 11 ∧ same x (bare x) = true ∧ 0 ≤ x.n ∧ x.n ≤ 50 ∧ x.q.length ≤ 4096 ∧ x.fl.length ≤ 4096 ∧ -64 ≤ x.scale ∧ x.scale ≤ 64 ∧ itOk x)
theorem may_iff (x : Rq) : may x = true ↔ (1 ≤ x.kind ∧ x.kind ≤ 11 ∧ same x (bare x) = true ∧ 0 ≤ x.n ∧ x.n ≤ 50 ∧ x.q.length ≤ 4096 ∧ x.fl.length ≤ 4096 ∧ -64 ≤ x.scale ∧ x.scale ≤ 64 ∧ itOk x) := by
  unfold may; exact decide_eq_true_iff
theorem may_bare {x : Rq} (h : may x = true) : x = bare x := (same_iff _ _).1 ((may_iff x).1 h).2.2.1
/-- A byte of a number. -/
def b8 (n : Int) : UInt8 := CodeM.byte (n % 256).toNat
theorem b8_nat (n : Int) : ((b8 n).toNat : Int) = n % 256 := by
  unfold b8; rw [ofNat_toNat _ (by omega)]; omega
theorem b8_wrap (n : Int) : IntKind.u8.wrap n = ((b8 n).toNat : Int) := by
  rw [b8_nat, IntKind.wrap_u8]
def body (x : Rq) : List (List UInt8) :=
  if x.kind = 2 then [ItemM.form x.it]
  else if x.kind = 3 ∨ x.kind = 4 then [fx 8 x.key]
  else if x.kind = 5 then [fx 8 x.key, fx 8 x.till, [b8 x.n]]
  else if x.kind = 6 then [[b8 x.n], uv x.q.length ++ vb x.q]
  else if x.kind = 10 then [fx 8 x.it.key, [b8 x.scale], uv x.fl.length ++ fb x.fl, tx x.it.note]
  else if x.kind = 11 then [[b8 x.n], [b8 x.scale], uv x.fl.length ++ fb x.fl]
  else []
/-- A request's form. -/
def form (x : Rq) : List UInt8 := b8 x.kind :: (body x).flatten
/-- So many numbers of 64 bits. -/
def fls : Nat → Rd → List Nat × Rd
  | 0, r => ([], r)
  | i + 1, r => ((fls i r).1 ++ [((fls i r).2.fixed 8).1], ((fls i r).2.fixed 8).2)
theorem fls_length (i : Nat) (r : Rd) : (fls i r).1.length = i := by
  induction i with
  | zero => rfl
  | succ i ih => show ((fls i r).1 ++ [_]).length = _; rw [List.length_append, ih]; rfl
theorem fls_lt (i : Nat) (r : Rd) : ∀ v ∈ (fls i r).1, v < 18446744073709551616 := by
  induction i with
  | zero => intro v hv; cases hv
  | succ i ih =>
    intro v hv
    have hv' : v ∈ (fls i r).1 ++ [((fls i r).2.fixed 8).1] := hv
    rcases List.mem_append.1 hv' with hv' | hv'
    · exact ih v hv'
    · rw [List.mem_singleton] at hv'; rw [hv']
      unfold Rd.fixed
      split
      · omega
      · split
        · omega
        · have := le_lt ((fls i r).2.l.take 8)
          have h2 : ((fls i r).2.l.take 8).length ≤ 8 := by simp; omega
          exact Nat.lt_of_lt_of_le this (Nat.le_trans (Nat.pow_le_pow_right (by omega) h2) (by decide))
theorem back_fls (l : List Nat) (hl : ∀ v ∈ l, v < 18446744073709551616) (z : List UInt8) : ∀ n, n ≤ l.length → fls n ⟨fb l ++ z, 0⟩ = (l.take n, ⟨fb (l.drop n) ++ z, 0⟩)
  | 0, _ => rfl
  | n + 1, h => by
    have ih := back_fls l hl z n (by omega)
    obtain ⟨u, hu⟩ : ∃ u, l[n]? = some u := ⟨_, List.getElem?_eq_getElem h⟩
    obtain ⟨h1, h2⟩ := List.getElem?_eq_some_iff.1 hu
    have e : l.drop n = u :: l.drop (n + 1) := by rw [← List.getElem_cons_drop h1, h2]
    have e2 : fb (l.drop n) ++ z = fx 8 u ++ (fb (l.drop (n + 1)) ++ z) := by
      rw [e]
      show (fx 8 u ++ fb _) ++ z = _
      rw [List.append_assoc]
    have e3 : (fls n ⟨fb l ++ z, 0⟩).2.fixed 8 = (u, ⟨fb (l.drop (n + 1)) ++ z, 0⟩) := by
      rw [ih]
      show Rd.fixed 8 ⟨fb (l.drop n) ++ z, 0⟩ = _
      rw [e2, back_fx (k := 8) (hl _ (List.mem_of_getElem? hu))]
    show ((fls n ⟨fb l ++ z, 0⟩).1 ++ [((fls n ⟨fb l ++ z, 0⟩).2.fixed 8).1], ((fls n ⟨fb l ++ z, 0⟩).2.fixed 8).2) = _
    rw [e3, ih, List.take_add_one, hu]
    rfl
/-- A number of one byte, with its sign. -/
def s8 (n : Nat) : Int := if 128 ≤ n then (n : Int) - 256 else n
theorem s8_b8 {k : Int} (h : -64 ≤ k ∧ k ≤ 64) : s8 (b8 k).toNat = k := by
  have := b8_nat k
  unfold s8
  split <;> omega
/-- A list, where there can be so many. -/
def listC {α : Type} (size most : Nat) (f : Nat → Rd → List α × Rd) (r : Rd) : List α × Rd :=
  if most < r.uv.1 ∨ r.uv.2.l.length < r.uv.1 * size then ([], r.uv.2) else f r.uv.1 r.uv.2
/-- What the program reads, whatever comes of it. -/
def readK (k : Int) (b : List UInt8) (r : Rd) : Rq :=
  if k = 2 then ⟨k, (readR (b.drop 1)).getD no, 0, 0, 0, [], [], 0⟩
  else if k = 3 ∨ k = 4 then ⟨k, no, (r.fixed 8).1, 0, 0, [], [], 0⟩
  else if k = 5 then ⟨k, no, (r.fixed 8).1, ((r.fixed 8).2.fixed 8).1, (((r.fixed 8).2.fixed 8).2.fixed 1).1, [], [], 0⟩
  else if k = 6 then ⟨k, no, 0, 0, (r.fixed 1).1, (listC 4 4096 vecs (r.fixed 1).2).1, [], 0⟩
  else if k = 10 then ⟨k, ⟨(r.fixed 8).1, [], ((listC 8 4096 fls ((r.fixed 8).2.fixed 1).2).2.text 1024).1⟩, 0, 0, 0, [], (listC 8 4096 fls ((r.fixed 8).2.fixed 1).2).1, s8 ((r.fixed 8).2.fixed 1).1⟩
  else if k = 11 then ⟨k, no, 0, 0, (r.fixed 1).1, [], (listC 8 4096 fls ((r.fixed 1).2.fixed 1).2).1, s8 ((r.fixed 1).2.fixed 1).1⟩
  else nil k
def readC (b : List UInt8) : Rq := readK ((Rd.fixed 1 ⟨b, 0⟩).1 : Int) b (Rd.fixed 1 ⟨b, 0⟩).2
/-- What bytes are read as; none: the error. -/
def read (b : List UInt8) : Option Rq := if may (readC b) = true ∧ form (readC b) = b then some (readC b) else none
theorem fix1 (u : UInt8) (z : List UInt8) : Rd.fixed 1 ⟨u :: z, 0⟩ = (u.toNat, ⟨z, 0⟩) := by
  unfold Rd.fixed
  simp [le]
theorem b8_small {k : Int} (h : 0 ≤ k ∧ k < 256) : ((b8 k).toNat : Int) = k := by
  rw [b8_nat]; omega
theorem listC_q {l : List Int} (hl : ∀ v ∈ l, -2147483648 ≤ v ∧ v < 2147483648) (hn : l.length ≤ 4096) (z : List UInt8) : listC 4 4096 vecs ⟨uv l.length ++ (vb l ++ z), 0⟩ = (l, ⟨z, 0⟩) := by
  have h := back_vecs l hl z l.length (Nat.le_refl _)
  rw [List.take_length, List.drop_length] at h
  unfold listC
  rw [back_uv (by omega)]
  simp only [List.length_append, vb_length]
  rw [if_neg (by omega), h]; rfl
theorem listC_f {l : List Nat} (hl : ∀ v ∈ l, v < 18446744073709551616) (hn : l.length ≤ 4096) (z : List UInt8) : listC 8 4096 fls ⟨uv l.length ++ (fb l ++ z), 0⟩ = (l, ⟨z, 0⟩) := by
  have h := back_fls l hl z l.length (Nat.le_refl _)
  rw [List.take_length, List.drop_length] at h
  unfold listC
  rw [back_uv (by omega)]
  simp only [List.length_append, fb_length]
  rw [if_neg (by omega), h]; rfl
/-- A form, with anything behind it, is read as the request it is of (that of a record alone with nothing behind it). -/
theorem readC_form {x : Rq} (hx : x.Ok) (hm : may x = true) (z : List UInt8) (hz : x.kind = 2 → z = []) : readC (form x ++ z) = x := by
  have hb := may_bare hm
  obtain ⟨k1, k2, _, n1, n2, q1, f1, s1, s2, i1⟩ := (may_iff x).1 hm
  obtain ⟨kind, it, key, till, n, q, fl, scale⟩ := x
  obtain ⟨hkind, hit, hkey, hto, hn, hq, hfl, hsc⟩ := hx
  dsimp only at *
  have e0 : form ⟨kind, it, key, till, n, q, fl, scale⟩ ++ z = b8 kind :: ((body ⟨kind, it, key, till, n, q, fl, scale⟩).flatten ++ z) := rfl
  have e1 : ((b8 kind).toNat : Int) = kind := b8_small (by omega)
  have en : ((b8 n).toNat : Int) = n := b8_small (by omega)
  have es := s8_b8 ⟨s1, s2⟩
  unfold readC
  rw [e0, fix1]
  simp only
  rw [e1]
  unfold bare at hb
  unfold readK body
  simp only at hb ⊢
  by_cases c2 : kind = 2
  · rw [if_pos c2] at hb
    rw [if_pos c2, if_pos c2]
    obtain rfl := hz c2
    have := read_form hit (i1.1 c2) []
    rw [List.append_nil, if_pos rfl] at this
    simp only [List.drop_succ_cons, List.drop_zero, List.flatten_cons, List.flatten_nil, List.append_nil, this, Option.getD_some]
    exact hb.symm
  rw [if_neg c2] at hb
  rw [if_neg c2, if_neg c2]
  by_cases c3 : kind = 3 ∨ kind = 4
  · rw [if_pos c3] at hb
    rw [if_pos c3, if_pos c3]
    simp only [List.flatten_cons, List.flatten_nil, List.append_nil]
    rw [back_fx hkey]
    exact hb.symm
  rw [if_neg c3] at hb
  rw [if_neg c3, if_neg c3]
  by_cases c5 : kind = 5
  · rw [if_pos c5] at hb
    rw [if_pos c5, if_pos c5]
    simp only [List.flatten_cons, List.flatten_nil, List.append_nil, List.append_assoc, List.cons_append, List.nil_append]
    rw [back_fx hkey]
    simp only
    rw [back_fx hto]
    simp only
    rw [fix1]
    simp only [en]
    exact hb.symm
  rw [if_neg c5] at hb
  rw [if_neg c5, if_neg c5]
  by_cases c6 : kind = 6
  · rw [if_pos c6] at hb
    rw [if_pos c6, if_pos c6]
    simp only [List.flatten_cons, List.flatten_nil, List.append_nil, List.append_assoc, List.cons_append, List.nil_append]
    rw [fix1]
    simp only [en]
    rw [listC_q hq q1]
    exact hb.symm
  rw [if_neg c6] at hb
  rw [if_neg c6, if_neg c6]
  by_cases c10 : kind = 10
  · rw [if_pos c10] at hb
    rw [if_pos c10, if_pos c10]
    have hnote : it.note.length ≤ 1024 := i1.2 c2
    simp only [List.flatten_cons, List.flatten_nil, List.append_nil, List.append_assoc, List.cons_append, List.nil_append]
    rw [back_fx hit.hk]
    simp only
    rw [fix1]
    simp only [es]
    rw [listC_f hfl f1]
    simp only
    rw [back_tx (by omega) (by omega)]
    exact hb.symm
  rw [if_neg c10] at hb
  rw [if_neg c10, if_neg c10]
  by_cases c11 : kind = 11
  · rw [if_pos c11] at hb
    rw [if_pos c11, if_pos c11]
    simp only [List.flatten_cons, List.flatten_nil, List.append_nil, List.append_assoc, List.cons_append, List.nil_append]
    rw [fix1]
    simp only [en]
    rw [fix1]
    simp only [es]
    rw [listC_f hfl f1]
    exact hb.symm
  rw [if_neg c11] at hb
  rw [if_neg c11]
  exact hb.symm
theorem fixed_lt8 (r : Rd) : (r.fixed 8).1 < 18446744073709551616 := by
  have := fls_lt 1 r (r.fixed 8).1 (by simp [fls])
  exact this
theorem fixed_lt1 (r : Rd) : (r.fixed 1).1 < 256 := by
  unfold Rd.fixed
  split
  · omega
  · split
    · omega
    · have := le_lt (r.l.take 1)
      have h2 : (r.l.take 1).length ≤ 1 := by simp; omega
      exact Nat.lt_of_lt_of_le this (Nat.le_trans (Nat.pow_le_pow_right (by omega) h2) (by decide))
theorem vecs_lt (i : Nat) (r : Rd) : ∀ v ∈ (vecs i r).1, -2147483648 ≤ v ∧ v < 2147483648 := by
  induction i with
  | zero => intro v hv; cases hv
  | succ i ih =>
    intro v hv
    have hv' : v ∈ (vecs i r).1 ++ [i32 ((vecs i r).2.fixed 4).1] := hv
    rcases List.mem_append.1 hv' with hv' | hv'
    · exact ih v hv'
    · rw [List.mem_singleton] at hv'; rw [hv']; exact i32_range _
theorem listC_vlt (r : Rd) : ∀ v ∈ (listC 4 4096 vecs r).1, -2147483648 ≤ v ∧ v < 2147483648 := by
  unfold listC
  split
  · intro v hv; cases hv
  · exact vecs_lt _ _
theorem listC_flt (r : Rd) : ∀ v ∈ (listC 8 4096 fls r).1, v < 18446744073709551616 := by
  unfold listC
  split
  · intro v hv; cases hv
  · exact fls_lt _ _
theorem no_ok : no.Ok := ⟨by decide, fun v hv => by cases hv⟩
theorem s8_range {n : Nat} (h : n < 256) : -128 ≤ s8 n ∧ s8 n < 256 := by unfold s8; split <;> omega
theorem readR_ok (b : List UInt8) : ((readR b).getD no).Ok := by
  cases h : readR b with
  | none => exact no_ok
  | some x => exact (read_inv h).2.2
theorem readC_ok (b : List UInt8) : (readC b).Ok := by
  have hk := fixed_lt1 ⟨b, 0⟩
  unfold readC
  generalize Rd.fixed 1 ⟨b, 0⟩ = R at hk
  obtain ⟨k, r⟩ := R
  simp only at hk ⊢
  have hk2 : -9223372036854775808 ≤ (k : Int) ∧ (k : Int) < 9223372036854775808 := by omega
  unfold readK
  split
  · exact ⟨hk2, readR_ok _, by simp, by simp, by simp, by simp, by simp, by simp⟩
  split
  · exact ⟨hk2, no_ok, fixed_lt8 _, by simp, by simp, by simp, by simp, by simp⟩
  split
  · have h1 := fixed_lt1 ((r.fixed 8).2.fixed 8).2
    exact ⟨hk2, no_ok, fixed_lt8 _, fixed_lt8 _, by dsimp only; omega, by simp, by simp, by simp⟩
  split
  · have h1 := fixed_lt1 r
    exact ⟨hk2, no_ok, by simp, by simp, by dsimp only; omega, listC_vlt _, by simp, by simp⟩
  split
  · have h1 := s8_range (fixed_lt1 (r.fixed 8).2)
    exact ⟨hk2, ⟨fixed_lt8 _, fun v hv => by cases hv⟩, by simp, by simp, by simp, by simp, listC_flt _, by dsimp only; omega⟩
  split
  · have h1 := s8_range (fixed_lt1 (r.fixed 1).2)
    have h2 := fixed_lt1 r
    exact ⟨hk2, no_ok, by simp, by simp, by dsimp only; omega, by simp, listC_flt _, by dsimp only; omega⟩
  · exact ⟨hk2, no_ok, by simp [nil], by simp [nil], by simp [nil], by simp [nil], by simp [nil], by simp [nil]⟩
/-- What is read is a request that may be, and the bytes are its form. -/
theorem read_some {b : List UInt8} {x : Rq} (h : read b = some x) : x.Ok ∧ may x = true ∧ form x = b := by
  unfold read at h
  split at h
  · rename_i c
    injection h with h
    subst h
    exact ⟨readC_ok b, c.1, c.2⟩
  · cases h
theorem read_form {x : Rq} (hx : x.Ok) (hm : may x = true) : read (form x) = some x := by
  have h := readC_form hx hm [] (fun _ => rfl)
  rw [List.append_nil] at h
  unfold read
  rw [h, if_pos ⟨hm, rfl⟩]
/-- With anything behind it a form is none. -/
theorem read_more {x : Rq} (hx : x.Ok) (hm : may x = true) {z : List UInt8} (hz : z ≠ []) : read (form x ++ z) = none := by
  cases h : read (form x ++ z) with
  | none => rfl
  | some y =>
    exfalso
    obtain ⟨hy, hmy, hfy⟩ := read_some h
    have h2 := readC_form hy hmy [] (fun _ => rfl)
    rw [List.append_nil, hfy] at h2
    by_cases hk : x.kind = 2
    · have e0 : form x ++ z = b8 x.kind :: ((body x).flatten ++ z) := rfl
      have e1 : ((b8 x.kind).toNat : Int) = x.kind := b8_small (by omega)
      have hmi := ((may_iff x).1 hm).2.2.2.2.2.2.2.2.2.1 hk
      have h3 := ItemM.read_form hx.hit hmi z
      rw [if_neg hz] at h3
      have e2 : (body x).flatten = ItemM.form x.it := by unfold body; rw [if_pos hk]; simp
      have h4 : readC (form x ++ z) = ⟨2, no, 0, 0, 0, [], [], 0⟩ := by
        unfold readC
        rw [e0, fix1]
        simp only
        rw [e1]
        unfold readK
        rw [if_pos hk, List.drop_succ_cons, List.drop_zero, e2, h3, hk]; rfl
      rw [h4] at h2
      subst h2
      have := ((may_iff _).1 hmy).2.2.2.2.2.2.2.2.2.1 rfl
      revert this
      decide
    · have h3 := readC_form hx hm z (fun h => absurd h hk)
      rw [h3] at h2
      subst h2
      have := congrArg List.length hfy
      rw [List.length_append] at this
      exact hz (List.length_eq_zero_iff.1 (by omega))
/-- Cut anywhere a form is none. -/
theorem read_cut {x : Rq} (hx : x.Ok) (hm : may x = true) {j : Nat} (hj : j < (form x).length) : read ((form x).take j) = none := by
  cases h : read ((form x).take j) with
  | none => rfl
  | some y =>
    exfalso
    obtain ⟨hy, hmy, hfy⟩ := read_some h
    have e : form y ++ (form x).drop j = form x := by rw [hfy, List.take_append_drop]
    have h2 := read_more hy hmy (z := (form x).drop j) (by
      intro h0
      have := congrArg List.length h0
      rw [List.length_drop, List.length_nil] at this
      omega)
    rw [e, read_form hx hm] at h2
    cases h2
/-- The document's reading: it reads the form of every request that may be as that. -/
theorem read_doc {b : List UInt8} {y : Rq} {e : Nat} (hy : y.Ok) (h : ∀ x : Rq, x.Ok → may x = true → form x = b → e = 0 ∧ y = x) :
    read b = if e ≠ 0 ∨ may y = false ∨ form y ≠ b then none else some y := by
  split
  · rename_i c
    cases h1 : read b with
    | none => rfl
    | some x =>
      exfalso
      obtain ⟨hx, hmx, hfx⟩ := read_some h1
      obtain ⟨rfl, rfl⟩ := h x hx hmx hfx
      rcases c with c | c | c
      · exact c rfl
      · rw [c] at hmx; cases hmx
      · exact c hfx
  · rename_i c
    have h1 : may y = true := by cases h : may y with
      | true => rfl
      | false => exact absurd (.inr (.inl h)) c
    have h2 : form y = b := by
      by_cases h : form y = b
      · exact h
      · exact absurd (.inr (.inr h)) c
    rw [← h2, read_form hy h1]
theorem form_length (x : Rq) : (form x).length ≤ 4 * x.it.vec.length + x.it.note.length + 4 * x.q.length + 8 * x.fl.length + 60 := by
  have h1 := ItemM.form_length x.it
  have h2 := (uv_length x.q.length).2
  have h3 := (uv_length x.fl.length).2
  have h4 := (uv_length x.it.note.length).2
  have h5 := vb_length x.q
  have h6 := fb_length x.fl
  unfold form body
  repeat' split
  all_goals simp only [List.flatten_cons, List.flatten_nil, List.append_nil, List.length_append, List.length_cons, List.length_nil, fx_length, tx]
  all_goals omega
end StmM
/-- What a question answers. -/
def BoolP (b : Bool) (w : World) (e : Ending) (w' : World) : Prop := e = .returned (.bool b) ∧ Below w.heap.size w w'
end Go.Proofs.Ytaadfalklddhcaa
