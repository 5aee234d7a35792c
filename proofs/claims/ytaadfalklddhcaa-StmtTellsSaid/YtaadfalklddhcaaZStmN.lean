/-
  Plain words of replies: whether they may be, their form, what bytes are read as; no program in sight.
  Conditions: none.
-/
import Derived.Test.YtaadfalklddhcaaZStmR0
namespace Go.Proofs.Ytaadfalklddhcaa
open Go.RowKit
set_option linter.unusedVariables false
set_option linter.unusedSimpArgs false
namespace RepM
open CodeM ItemM StmM
def nilR (k : Int) : Rp := ⟨k, 0, 0, 0, no, [], []⟩
def bareR (x : Rp) : Rp :=
  if x.kind = 1 then ⟨x.kind, x.mark, 0, 0, no, [], []⟩
  else if x.kind = 2 then ⟨x.kind, 0, x.errno, x.place, no, [], []⟩
  else if x.kind = 3 then ⟨x.kind, 0, 0, 0, x.it, [], []⟩
  else if x.kind = 4 then ⟨x.kind, 0, 0, 0, no, x.its, []⟩
  else if x.kind = 5 then ⟨x.kind, 0, 0, 0, no, [], x.hits⟩
  else nilR x.kind
/-- What its kind asks for more. -/
def kOk (x : Rp) : Prop :=
  if x.kind = 1 then 0 ≤ x.mark ∧ x.mark ≤ 7
  else if x.kind = 2 then (1 ≤ x.errno ∧ x.errno ≤ 255) ∧ 0 ≤ x.place ∧ x.place ≤ 4095
  else if x.kind = 3 then ItemM.may x.it = 0
  else if x.kind = 4 then x.its.length ≤ 50 ∧ ∀ i ∈ x.its, ItemM.may i = 0
  else if x.kind = 5 then x.hits.length ≤ 50 ∧ ∀ h ∈ x.hits, 0 ≤ h.2
  else False
instance (x : Rp) : Decidable (kOk x) := by unfold kOk; infer_instance
/-- Whether a reply may be. -/
def mayR (x : Rp) : Bool := decide (kOk x ∧ same x (bareR x) = true)
theorem mayR_iff (x : Rp) : mayR x = true ↔ (kOk x ∧ same x (bareR x) = true) := by unfold mayR; exact decide_eq_true_iff
theorem mayR_bare {x : Rp} (h : mayR x = true) : x = bareR x := (same_iff _ _).1 ((mayR_iff x).1 h).2
theorem kOk_kind {x : Rp} (h : kOk x) : 1 ≤ x.kind ∧ x.kind ≤ 5 := by
  unfold kOk at h
  by_cases c1 : x.kind = 1
  · omega
  rw [if_neg c1] at h
  by_cases c2 : x.kind = 2
  · omega
  rw [if_neg c2] at h
  by_cases c3 : x.kind = 3
  · omega
  rw [if_neg c3] at h
  by_cases c4 : x.kind = 4
  · omega
  rw [if_neg c4] at h
  by_cases c5 : x.kind = 5
  · omega
  rw [if_neg c5] at h
  exact h.elim
/-- A number of 64 bits as one with a sign. -/
def i64 (n : Nat) : Int := ((n : Int) + 9223372036854775808) % 18446744073709551616 - 9223372036854775808
def u64z (v : Int) : Nat := (v % 18446744073709551616).toNat
theorem u64z_lt (v : Int) : u64z v < 18446744073709551616 := by unfold u64z; omega
theorem i64_u64z {v : Int} (h : -9223372036854775808 ≤ v ∧ v < 9223372036854775808) : i64 (u64z v) = v := by unfold i64 u64z; omega
theorem i64_range (n : Nat) : -9223372036854775808 ≤ i64 n ∧ i64 n < 9223372036854775808 := by unfold i64; omega
/-- A hit's form; an item's form as a text. -/
def encH (h : Nat × Int) : List UInt8 := fx 8 h.1 ++ fx 8 (u64z h.2)
def encI (i : Itm) : List UInt8 := tx (ItemM.form i)
def bodyR (x : Rp) : List (List UInt8) :=
  if x.kind = 1 then [[b8 x.mark]]
  else if x.kind = 2 then [[b8 x.errno], fx 2 (u64z x.place)]
  else if x.kind = 3 then [ItemM.form x.it]
  else if x.kind = 4 then [uv x.its.length, x.its.flatMap encI]
  else if x.kind = 5 then [uv x.hits.length, x.hits.flatMap encH]
  else []
/-- A reply's form. -/
def formR (x : Rp) : List UInt8 := b8 x.kind :: (bodyR x).flatten
/-- So many things read by one reader. -/
def seqs {α : Type} (one : Rd → α × Rd) : Nat → Rd → List α × Rd
  | 0, r => ([], r)
  | i + 1, r => ((seqs one i r).1 ++ [(one (seqs one i r).2).1], (one (seqs one i r).2).2)
theorem seqs_length {α : Type} (one : Rd → α × Rd) (i : Nat) (r : Rd) : (seqs one i r).1.length = i := by
  induction i with
  | zero => rfl
  | succ i ih => show ((seqs one i r).1 ++ [_]).length = _; rw [List.length_append, ih]; rfl
theorem seqs_all {α : Type} (one : Rd → α × Rd) (p : α → Prop) (h : ∀ r, p (one r).1) (i : Nat) (r : Rd) : ∀ v ∈ (seqs one i r).1, p v := by
  induction i with
  | zero => intro v hv; cases hv
  | succ i ih =>
    intro v hv
    have hv' : v ∈ (seqs one i r).1 ++ [(one (seqs one i r).2).1] := hv
    rcases List.mem_append.1 hv' with hv' | hv'
    · exact ih v hv'
    · rw [List.mem_singleton] at hv'; rw [hv']; exact h _
theorem back_seqs {α : Type} (one : Rd → α × Rd) (enc : α → List UInt8) (l : List α) (h : ∀ a ∈ l, ∀ z, one ⟨enc a ++ z, 0⟩ = (a, ⟨z, 0⟩)) (z : List UInt8) : ∀ n, n ≤ l.length → seqs one n ⟨l.flatMap enc ++ z, 0⟩ = (l.take n, ⟨(l.drop n).flatMap enc ++ z, 0⟩)
  | 0, _ => rfl
  | n + 1, hn => by
    have ih := back_seqs one enc l h z n (by omega)
    obtain ⟨u, hu⟩ : ∃ u, l[n]? = some u := ⟨_, List.getElem?_eq_getElem hn⟩
    obtain ⟨h1, h2⟩ := List.getElem?_eq_some_iff.1 hu
    have e : l.drop n = u :: l.drop (n + 1) := by rw [← List.getElem_cons_drop h1, h2]
    have e2 : (l.drop n).flatMap enc ++ z = enc u ++ ((l.drop (n + 1)).flatMap enc ++ z) := by
      rw [e, List.flatMap_cons, List.append_assoc]
    have e3 : one (seqs one n ⟨l.flatMap enc ++ z, 0⟩).2 = (u, ⟨(l.drop (n + 1)).flatMap enc ++ z, 0⟩) := by
      rw [ih]
      show one ⟨(l.drop n).flatMap enc ++ z, 0⟩ = _
      rw [e2, h u (List.mem_of_getElem? hu)]
    show ((seqs one n ⟨l.flatMap enc ++ z, 0⟩).1 ++ [(one (seqs one n ⟨l.flatMap enc ++ z, 0⟩).2).1], (one (seqs one n ⟨l.flatMap enc ++ z, 0⟩).2).2) = _
    rw [e3, ih, List.take_add_one, hu]
    rfl
/-- One hit; one item, through its text. -/
def oneH (r : Rd) : (Nat × Int) × Rd := (((r.fixed 8).1, i64 ((r.fixed 8).2.fixed 8).1), ((r.fixed 8).2.fixed 8).2)
def oneI (r : Rd) : Itm × Rd := ((readR (r.text 17500).1).getD no, (r.text 17500).2)
theorem back_oneH (h : Nat × Int) (hh : h.1 < 18446744073709551616 ∧ -9223372036854775808 ≤ h.2 ∧ h.2 < 9223372036854775808) (z : List UInt8) : oneH ⟨encH h ++ z, 0⟩ = (h, ⟨z, 0⟩) := by
  unfold oneH encH
  rw [List.append_assoc, back_fx (k := 8) hh.1]
  simp only
  rw [back_fx (k := 8) (u64z_lt h.2)]
  simp only
  rw [i64_u64z hh.2]
theorem may_small {i : Itm} (hm : ItemM.may i = 0) : (ItemM.form i).length ≤ 17436 := by
  have h1 := ItemM.form_length i
  obtain ⟨_, h2, h3⟩ := ItemM.may_zero hm
  omega
theorem back_oneI (i : Itm) (hi : i.Ok) (hm : ItemM.may i = 0) (z : List UInt8) : oneI ⟨encI i ++ z, 0⟩ = (i, ⟨z, 0⟩) := by
  have hl := may_small hm
  have h3 := ItemM.read_form hi hm []
  rw [List.append_nil, if_pos rfl] at h3
  unfold oneI encI
  rw [back_tx (by omega) (by omega)]
  simp only [h3, Option.getD_some]
theorem encI_pos (l : List Itm) : l.length ≤ (l.flatMap encI).length := by
  induction l with
  | nil => exact Nat.zero_le _
  | cons a l ih =>
    have := (uv_length (ItemM.form a).length).1
    rw [List.flatMap_cons, List.length_append, List.length_cons]
    unfold encI at ih ⊢
    unfold tx at ih ⊢
    rw [List.length_append]
    omega
theorem encH_len (l : List (Nat × Int)) : (l.flatMap encH).length = l.length * 16 := by
  induction l with
  | nil => rfl
  | cons a l ih => rw [List.flatMap_cons, List.length_append, List.length_cons, ih]; unfold encH; rw [List.length_append, fx_length, fx_length]; omega
theorem listC_I {l : List Itm} (hl : ∀ i ∈ l, i.Ok) (hm : ∀ i ∈ l, ItemM.may i = 0) (hn : l.length ≤ 50) (z : List UInt8) : listC 1 50 (seqs oneI) ⟨uv l.length ++ (l.flatMap encI ++ z), 0⟩ = (l, ⟨z, 0⟩) := by
  have h := back_seqs oneI encI l (fun a ha z => back_oneI a (hl a ha) (hm a ha) z) z l.length (Nat.le_refl _)
  rw [List.take_length, List.drop_length] at h
  have hp := encI_pos l
  unfold listC
  rw [back_uv (by omega)]
  simp only [List.length_append]
  rw [if_neg (by omega), h]; rfl
theorem listC_H {l : List (Nat × Int)} (hl : ∀ h ∈ l, h.1 < 18446744073709551616 ∧ -9223372036854775808 ≤ h.2 ∧ h.2 < 9223372036854775808) (hn : l.length ≤ 50) (z : List UInt8) : listC 16 50 (seqs oneH) ⟨uv l.length ++ (l.flatMap encH ++ z), 0⟩ = (l, ⟨z, 0⟩) := by
  have h := back_seqs oneH encH l (fun a ha z => back_oneH a (hl a ha) z) z l.length (Nat.le_refl _)
  rw [List.take_length, List.drop_length] at h
  have hp := encH_len l
  unfold listC
  rw [back_uv (by omega)]
  simp only [List.length_append]
  rw [if_neg (by omega), h]; rfl
/-- What the program reads, whatever comes of it. -/
def readKR (k : Int) (b : List UInt8) (r : Rd) : Rp :=
  if k = 1 then ⟨k, (r.fixed 1).1, 0, 0, no, [], []⟩
  else if k = 2 then ⟨k, 0, (r.fixed 1).1, ((r.fixed 1).2.fixed 2).1, no, [], []⟩
  else if k = 3 then ⟨k, 0, 0, 0, (readR (b.drop 1)).getD no, [], []⟩
  else if k = 4 then ⟨k, 0, 0, 0, no, (listC 1 50 (seqs oneI) r).1, []⟩
  else if k = 5 then ⟨k, 0, 0, 0, no, [], (listC 16 50 (seqs oneH) r).1⟩
  else nilR k
def readCR (b : List UInt8) : Rp := readKR ((Rd.fixed 1 ⟨b, 0⟩).1 : Int) b (Rd.fixed 1 ⟨b, 0⟩).2
/-- What bytes are read as; none: the error. -/
def readT (b : List UInt8) : Option Rp := if mayR (readCR b) = true ∧ formR (readCR b) = b then some (readCR b) else none
theorem readCR_form {x : Rp} (hx : x.Ok) (hm : mayR x = true) (z : List UInt8) (hz : x.kind = 3 → z = []) : readCR (formR x ++ z) = x := by
  have hb := mayR_bare hm
  have hk := ((mayR_iff x).1 hm).1
  have hkk := kOk_kind hk
  obtain ⟨kind, mark, errno, place, it, its, hits⟩ := x
  obtain ⟨hkind, hmark, herr, hplace, hit, hits_, hh⟩ := hx
  dsimp only at *
  have e0 : formR ⟨kind, mark, errno, place, it, its, hits⟩ ++ z = b8 kind :: ((bodyR ⟨kind, mark, errno, place, it, its, hits⟩).flatten ++ z) := rfl
  have e1 : ((b8 kind).toNat : Int) = kind := b8_small (by omega)
  unfold readCR
  rw [e0, fix1]
  simp only
  rw [e1]
  unfold bareR at hb
  unfold kOk at hk
  unfold readKR bodyR
  simp only at hb hk ⊢
  by_cases c1 : kind = 1
  · rw [if_pos c1] at hb hk
    rw [if_pos c1, if_pos c1]
    simp only [List.flatten_cons, List.flatten_nil, List.append_nil, List.cons_append, List.nil_append]
    rw [fix1]
    simp only [b8_small (k := mark) (by omega)]
    exact hb.symm
  rw [if_neg c1] at hb hk
  rw [if_neg c1, if_neg c1]
  by_cases c2 : kind = 2
  · rw [if_pos c2] at hb hk
    rw [if_pos c2, if_pos c2]
    have hp : ((u64z place : Nat) : Int) = place := by unfold u64z; omega
    have hp2 : u64z place < 256 ^ 2 := by omega
    simp only [List.flatten_cons, List.flatten_nil, List.append_nil, List.cons_append, List.nil_append]
    rw [fix1]
    simp only
    rw [back_fx hp2]
    simp only [b8_small (k := errno) (by omega), hp]
    exact hb.symm
  rw [if_neg c2] at hb hk
  rw [if_neg c2, if_neg c2]
  by_cases c3 : kind = 3
  · rw [if_pos c3] at hb hk
    rw [if_pos c3, if_pos c3]
    obtain rfl := hz c3
    have := ItemM.read_form hit hk []
    rw [List.append_nil, if_pos rfl] at this
    simp only [List.drop_succ_cons, List.drop_zero, List.flatten_cons, List.flatten_nil, List.append_nil, this, Option.getD_some]
    exact hb.symm
  rw [if_neg c3] at hb hk
  rw [if_neg c3, if_neg c3]
  by_cases c4 : kind = 4
  · rw [if_pos c4] at hb hk
    rw [if_pos c4, if_pos c4]
    simp only [List.flatten_cons, List.flatten_nil, List.append_nil, List.append_assoc]
    rw [listC_I hits_ hk.2 hk.1]
    exact hb.symm
  rw [if_neg c4] at hb hk
  rw [if_neg c4, if_neg c4]
  by_cases c5 : kind = 5
  · rw [if_pos c5] at hb hk
    rw [if_pos c5, if_pos c5]
    simp only [List.flatten_cons, List.flatten_nil, List.append_nil, List.append_assoc]
    rw [listC_H hh hk.1]
    exact hb.symm
  rw [if_neg c5] at hk
  exact hk.elim
theorem fixed_lt2 (r : Rd) : (r.fixed 2).1 < 65536 := by
  unfold Rd.fixed
  split
  · omega
  · split
    · omega
    · have := le_lt (r.l.take 2)
      have h2 : (r.l.take 2).length ≤ 2 := by simp; omega
      exact Nat.lt_of_lt_of_le this (Nat.le_trans (Nat.pow_le_pow_right (by omega) h2) (by decide))
theorem listC_all {α : Type} {p : α → Prop} {size most : Nat} {one : Rd → α × Rd} (h : ∀ r, p (one r).1) (r : Rd) : ∀ v ∈ (listC size most (seqs one) r).1, p v := by
  unfold listC
  split
  · intro v hv; cases hv
  · exact seqs_all one p h _ _
theorem oneH_ok (r : Rd) : (oneH r).1.1 < 18446744073709551616 ∧ -9223372036854775808 ≤ (oneH r).1.2 ∧ (oneH r).1.2 < 9223372036854775808 := ⟨fixed_lt8 r, i64_range _⟩
theorem readCR_ok (b : List UInt8) : (readCR b).Ok := by
  have hk := fixed_lt1 ⟨b, 0⟩
  unfold readCR
  generalize Rd.fixed 1 ⟨b, 0⟩ = R at hk
  obtain ⟨k, r⟩ := R
  simp only at hk ⊢
  have hk2 : -9223372036854775808 ≤ (k : Int) ∧ (k : Int) < 9223372036854775808 := by omega
  have h1 := fixed_lt1 r
  have h2 := fixed_lt2 (r.fixed 1).2
  unfold readKR
  split
  · exact ⟨hk2, by dsimp only; omega, by simp, by simp, no_ok, by simp, by simp⟩
  split
  · exact ⟨hk2, by simp, by dsimp only; omega, by dsimp only; omega, no_ok, by simp, by simp⟩
  split
  · exact ⟨hk2, by simp, by simp, by simp, readR_ok _, by simp, by simp⟩
  split
  · exact ⟨hk2, by simp, by simp, by simp, no_ok, listC_all (fun r => readR_ok _) r, by simp⟩
  split
  · exact ⟨hk2, by simp, by simp, by simp, no_ok, by simp, listC_all (one := oneH) (p := fun h : Nat × Int => h.1 < 18446744073709551616 ∧ -9223372036854775808 ≤ h.2 ∧ h.2 < 9223372036854775808) oneH_ok r⟩
  · exact ⟨hk2, by simp [nilR], by simp [nilR], by simp [nilR], no_ok, by simp [nilR], by simp [nilR]⟩
/-- What is read is a reply that may be, and the bytes are its form. -/
theorem readT_some {b : List UInt8} {x : Rp} (h : readT b = some x) : x.Ok ∧ mayR x = true ∧ formR x = b := by
  unfold readT at h
  split at h
  · rename_i c
    injection h with h
    subst h
    exact ⟨readCR_ok b, c.1, c.2⟩
  · cases h
theorem readT_form {x : Rp} (hx : x.Ok) (hm : mayR x = true) : readT (formR x) = some x := by
  have h := readCR_form hx hm [] (fun _ => rfl)
  rw [List.append_nil] at h
  unfold readT
  rw [h, if_pos ⟨hm, rfl⟩]
/-- With anything behind it a form is none. -/
theorem readT_more {x : Rp} (hx : x.Ok) (hm : mayR x = true) {z : List UInt8} (hz : z ≠ []) : readT (formR x ++ z) = none := by
  cases h : readT (formR x ++ z) with
  | none => rfl
  | some y =>
    exfalso
    obtain ⟨hy, hmy, hfy⟩ := readT_some h
    have h2 := readCR_form hy hmy [] (fun _ => rfl)
    rw [List.append_nil, hfy] at h2
    have hko := ((mayR_iff x).1 hm).1
    have hkk := kOk_kind hko
    by_cases hk : x.kind = 3
    · have e0 : formR x ++ z = b8 x.kind :: ((bodyR x).flatten ++ z) := rfl
      have e1 : ((b8 x.kind).toNat : Int) = x.kind := b8_small (by omega)
      have hmi : ItemM.may x.it = 0 := by unfold kOk at hko; rw [if_neg (by omega), if_neg (by omega), if_pos hk] at hko; exact hko
      have h3 := ItemM.read_form hx.hit hmi z
      rw [if_neg hz] at h3
      have e2 : (bodyR x).flatten = ItemM.form x.it := by unfold bodyR; rw [if_neg (by omega), if_neg (by omega), if_pos hk]; simp
      have h4 : readCR (formR x ++ z) = ⟨3, 0, 0, 0, no, [], []⟩ := by
        unfold readCR
        rw [e0, fix1]
        simp only
        rw [e1]
        unfold readKR
        rw [if_neg (by omega), if_neg (by omega), if_pos hk, List.drop_succ_cons, List.drop_zero, e2, h3, hk]; rfl
      rw [h4] at h2
      subst h2
      have := ((mayR_iff _).1 hmy).1
      revert this
      decide
    · have h3 := readCR_form hx hm z (fun h => absurd h hk)
      rw [h3] at h2
      subst h2
      have := congrArg List.length hfy
      rw [List.length_append] at this
      exact hz (List.length_eq_zero_iff.1 (by omega))
/-- Cut anywhere a form is none. -/
theorem readT_cut {x : Rp} (hx : x.Ok) (hm : mayR x = true) {j : Nat} (hj : j < (formR x).length) : readT ((formR x).take j) = none := by
  cases h : readT ((formR x).take j) with
  | none => rfl
  | some y =>
    exfalso
    obtain ⟨hy, hmy, hfy⟩ := readT_some h
    have e : formR y ++ (formR x).drop j = formR x := by rw [hfy, List.take_append_drop]
    have h2 := readT_more hy hmy (z := (formR x).drop j) (by
      intro h0
      have := congrArg List.length h0
      rw [List.length_drop, List.length_nil] at this
      omega)
    rw [e, readT_form hx hm] at h2
    cases h2
/-- The document's reading: it reads the form of every reply that may be as that. -/
theorem readT_doc {b : List UInt8} {y : Rp} {e : Nat} (hy : y.Ok) (h : ∀ x : Rp, x.Ok → mayR x = true → formR x = b → e = 0 ∧ y = x) :
    readT b = if e ≠ 0 ∨ mayR y = false ∨ formR y ≠ b then none else some y := by
  split
  · rename_i c
    cases h1 : readT b with
    | none => rfl
    | some x =>
      exfalso
      obtain ⟨hx, hmx, hfx⟩ := readT_some h1
      obtain ⟨rfl, rfl⟩ := h x hx hmx hfx
      rcases c with c | c | c
      · exact c rfl
      · rw [c] at hmx; cases hmx
      · exact c hfx
  · rename_i c
    have h1 : mayR y = true := by cases h : mayR y with
      | true => rfl
      | false => exact absurd (.inr (.inl h)) c
    have h2 : formR y = b := by
      by_cases h : formR y = b
      · exact h
      · exact absurd (.inr (.inr h)) c
    rw [← h2, readT_form hy h1]
end RepM
end Go.Proofs.Ytaadfalklddhcaa
