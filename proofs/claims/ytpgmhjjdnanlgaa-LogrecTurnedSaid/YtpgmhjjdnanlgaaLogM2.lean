/-
  How the log's records are read; no program in sight.
  Conditions: none.
-/
import Derived.Test.YtpgmhjjdnanlgaaLogM
import Derived.Test.YtpgmhjjdnanlgaaCodeW9
namespace Go.Proofs.Ytpgmhjjdnanlgaa
open Go.RowKit
set_option linter.unusedVariables false
set_option linter.unusedSimpArgs false
namespace LogM
open CodeM
def ch1 (r : Rd) : (Nat × Nat × Nat) × Rd := (((r.fixed 8).1, ((r.fixed 8).2.fixed 8).1, (((r.fixed 8).2.fixed 8).2.fixed 8).1), (((r.fixed 8).2.fixed 8).2.fixed 8).2)
def dt1 (r : Rd) : (Nat × Nat) × Rd := (((r.fixed 4).1, ((r.fixed 4).2.fixed 8).1), ((r.fixed 4).2.fixed 8).2)
def many {α : Type} (f : Rd → α × Rd) : Nat → Rd → List α × Rd
  | 0, r => ([], r)
  | q + 1, r => ((many f q r).1 ++ [(f (many f q r).2).1], (f (many f q r).2).2)
def zr (k : Int) (lsn epoch : Nat) : Lrec := ⟨k, lsn, epoch, 0, 0, 0, [], [], [], 0, 0, false, 0, [], []⟩
def fW (z : Lrec) (r : Rd) : Lrec × Rd :=
  ({ z with page := (r.fixed 4).1, off := ((r.fixed 4).2.fixed 2).1, old := (((r.fixed 4).2.fixed 2).2.text 500).1, new := ((((r.fixed 4).2.fixed 2).2.text 500).2.text 500).1 }, ((((r.fixed 4).2.fixed 2).2.text 500).2.text 500).2)
def fE (z : Lrec) (r : Rd) : Lrec × Rd :=
  let a := r.fixed 8; let b := a.2.fixed 8; let c := b.2.fixed 8; let d := c.2.fixed 1; let u := d.2.text 64
  ({ z with txn := a.1, prev := b.1, next := c.1, clr := decide (d.1 = 1), undo := u.1 }, u.2)
def fC (z : Lrec) (r : Rd) : Lrec × Rd := ({ z with txn := (r.fixed 8).1, stamp := ((r.fixed 8).2.fixed 8).1 }, ((r.fixed 8).2.fixed 8).2)
def fD (z : Lrec) (r : Rd) : Lrec × Rd := ({ z with txn := (r.fixed 8).1 }, (r.fixed 8).2)
def fP (z : Lrec) (r : Rd) : Lrec × Rd :=
  let n := r.uv; let p := many ch1 (min n.1 17) n.2; let m := p.2.uv; let q := many dt1 (min m.1 65) m.2
  ({ z with opn := p.1, dirty := q.1 }, q.2)
def fK (z : Lrec) (r : Rd) : Lrec × Rd :=
  if z.kind = 1 then fW z r else if z.kind = 2 then fE z r else if z.kind = 3 then fC z r else if z.kind = 4 then fD z r else if z.kind = 5 then fP z r else (z, r)
def fields (r : Rd) : Lrec × Rd :=
  fK (zr (((r.fixed 8).2.fixed 4).2.fixed 1).1 (r.fixed 8).1 ((r.fixed 8).2.fixed 4).1) (((r.fixed 8).2.fixed 4).2.fixed 1).2
/-- The program's reading. -/
def readI (l : List UInt8) : Option (Lrec × Nat) :=
  if l.length < 6 then none
  else if le ((l.drop 4).take 2) < 6 ∨ l.length < le ((l.drop 4).take 2) ∨ 1600 < le ((l.drop 4).take 2) then none
  else if le ((l.take (le ((l.drop 4).take 2))).take 4) ≠ (CrcM.sum ((l.take (le ((l.drop 4).take 2))).drop 4)).toNat then none
  else if (fields ⟨(l.take (le ((l.drop 4).take 2))).drop 6, 0⟩).2.e ≠ 0 ∨ ¬ May (fields ⟨(l.take (le ((l.drop 4).take 2))).drop 6, 0⟩).1 ∨ form (fields ⟨(l.take (le ((l.drop 4).take 2))).drop 6, 0⟩).1 ≠ l.take (le ((l.drop 4).take 2)) then none
  else some ((fields ⟨(l.take (le ((l.drop 4).take 2))).drop 6, 0⟩).1, le ((l.drop 4).take 2))
/-- The document's reading. -/
def readR (l : List UInt8) : Option (Lrec × Nat) :=
  let p := fields (((⟨l, 0⟩ : Rd).fixed 4).2.fixed 2).2
  if p.2.e ≠ 0 ∨ ¬ May p.1 then none
  else if l.length < (form p.1).length ∨ form p.1 ≠ l.take (form p.1).length then none
  else some (p.1, (form p.1).length)
/-! ### What is read fits -/
theorem ch1_fit (r : Rd) : (ch1 r).1.1 < 18446744073709551616 ∧ (ch1 r).1.2.1 < 18446744073709551616 ∧ (ch1 r).1.2.2 < 18446744073709551616 := ⟨fixed_lt 8 _, fixed_lt 8 _, fixed_lt 8 _⟩
theorem dt1_fit (r : Rd) : (dt1 r).1.1 < 4294967296 ∧ (dt1 r).1.2 < 18446744073709551616 := ⟨fixed_lt 4 _, fixed_lt 8 _⟩
theorem many_all {α : Type} {f : Rd → α × Rd} {P : α → Prop} (h : ∀ r, P (f r).1) : ∀ (q : Nat) (r : Rd), ∀ c ∈ (many f q r).1, P c
  | 0, r, c, hc => by simp [many] at hc
  | q + 1, r, c, hc => by
    simp only [many, List.mem_append, List.mem_singleton] at hc
    rcases hc with hc | rfl
    · exact many_all h q r c hc
    · exact h _
theorem many_length {α : Type} (f : Rd → α × Rd) : ∀ (q : Nat) (r : Rd), (many f q r).1.length = q
  | 0, r => rfl
  | q + 1, r => by simp [many, many_length f q r]
theorem zr_fit {k : Int} {lsn epoch : Nat} (h1 : lsn < 18446744073709551616) (h2 : epoch < 4294967296) : Fit (zr k lsn epoch) :=
  ⟨h1, h2, by simp [zr], by simp [zr], by simp [zr], by simp [zr], by simp [zr], by simp [zr], nofun, nofun⟩
theorem fK_fit {z : Lrec} (h : Fit z) (r : Rd) : Fit (fK z r).1 := by
  unfold fK
  split
  · exact ⟨h.lsn, h.epoch, h.txn, fixed_lt 4 _, fixed_lt 2 _, h.prev, h.next, h.stamp, h.opn, h.dirty⟩
  split
  · exact ⟨h.lsn, h.epoch, fixed_lt 8 _, h.page, h.off, fixed_lt 8 _, fixed_lt 8 _, h.stamp, h.opn, h.dirty⟩
  split
  · exact ⟨h.lsn, h.epoch, fixed_lt 8 _, h.page, h.off, h.prev, h.next, fixed_lt 8 _, h.opn, h.dirty⟩
  split
  · exact ⟨h.lsn, h.epoch, fixed_lt 8 _, h.page, h.off, h.prev, h.next, h.stamp, h.opn, h.dirty⟩
  split
  · exact ⟨h.lsn, h.epoch, h.txn, h.page, h.off, h.prev, h.next, h.stamp, many_all ch1_fit _ _, many_all dt1_fit _ _⟩
  · exact h
theorem fields_fit (r : Rd) : Fit (fields r).1 := fK_fit (zr_fit (fixed_lt 8 _) (fixed_lt 4 _)) _
/-! ### Reading what was written -/
theorem back_ch (c : Nat × Nat × Nat) (h1 : c.1 < 18446744073709551616) (h2 : c.2.1 < 18446744073709551616) (h3 : c.2.2 < 18446744073709551616) (z : List UInt8) : ch1 ⟨chB c ++ z, 0⟩ = (c, ⟨z, 0⟩) := by
  unfold ch1 chB
  rw [List.append_assoc, List.append_assoc, back_fx (k := 8) h1]
  rw [back_fx (k := 8) h2, back_fx (k := 8) h3]
theorem back_dt (d : Nat × Nat) (h1 : d.1 < 4294967296) (h2 : d.2 < 18446744073709551616) (z : List UInt8) : dt1 ⟨dtB d ++ z, 0⟩ = (d, ⟨z, 0⟩) := by
  unfold dt1 dtB
  rw [List.append_assoc, back_fx (k := 4) h1]
  rw [back_fx (k := 8) h2]
theorem back_many {α : Type} {f : Rd → α × Rd} {g : α → List UInt8} (l : List α) (z : List UInt8) (h : ∀ c ∈ l, ∀ z, f ⟨g c ++ z, 0⟩ = (c, ⟨z, 0⟩)) : ∀ q, q ≤ l.length → many f q ⟨l.flatMap g ++ z, 0⟩ = (l.take q, ⟨(l.drop q).flatMap g ++ z, 0⟩)
  | 0, _ => by simp [many]
  | q + 1, hq => by
    have ih := back_many l z h q (by omega)
    obtain ⟨c, hc⟩ : ∃ c, l[q]? = some c := ⟨_, List.getElem?_eq_getElem (by omega)⟩
    have hd : l.drop q = c :: l.drop (q + 1) := by
      obtain ⟨h1, h2⟩ := List.getElem?_eq_some_iff.1 hc
      rw [List.drop_eq_getElem_cons h1, h2]
    unfold many
    rw [ih]
    dsimp only
    rw [hd, List.flatMap_cons, List.append_assoc, h c (List.mem_of_getElem? hc)]
    rw [List.take_add_one, hc]
    simp
theorem fields_body {x : Lrec} (hm : May x) (hf : Fit x) (z : List UInt8) : fields ⟨body x ++ z, 0⟩ = (x, ⟨z, 0⟩) := by
  have hk := ((mayR_iff x).2 hm).1
  have hb := ((mayR_iff x).2 hm).2.1
  have hk8 : [byte x.kind.toNat] = fx 1 x.kind.toNat := by
    simp only [fx, List.range_succ, List.range_zero, List.nil_append, List.map_cons, List.map_nil, Nat.pow_zero, Nat.div_one]
    rw [Nat.mod_eq_of_lt (by omega)]
  unfold fields body headB
  rw [hk8, List.append_assoc, List.append_assoc, List.append_assoc, back_fx (k := 8) hf.lsn]
  dsimp only
  rw [back_fx (k := 4) hf.epoch]
  dsimp only
  rw [back_fx (k := 1) (by omega)]
  dsimp only
  rw [show ((x.kind.toNat : Nat) : Int) = x.kind by omega]
  obtain ⟨hmn, hmk⟩ := hm
  unfold mayK at hmk
  unfold fK tail
  have hz : ∀ k l e, (zr k l e).kind = k := fun _ _ _ => rfl
  simp only [hz]
  by_cases h1 : x.kind = 1
  · rw [if_pos h1] at hmk ⊢
    rw [if_pos h1]
    unfold fW
    rw [List.append_assoc, List.append_assoc, List.append_assoc, back_fx (k := 4) hf.page]
    dsimp only
    rw [back_fx (k := 2) hf.off]
    dsimp only
    rw [back_tx (by omega) (by omega)]
    dsimp only
    rw [back_tx (by omega) (by omega)]
    rw [hb]
    simp [bare, h1, zr]
  rw [if_neg h1] at hmk ⊢
  rw [if_neg h1]
  by_cases h2 : x.kind = 2
  · rw [if_pos h2] at hmk ⊢
    rw [if_pos h2]
    have hu : x.undo.length ≤ 64 := by
      split at hmk
      · rw [hmk]; simp
      · exact hmk.2
    have hc8 : [byte (clrB x.clr)] = fx 1 (clrB x.clr) := by unfold clrB; split <;> rfl
    unfold fE
    rw [hc8, List.append_assoc, List.append_assoc, List.append_assoc, List.append_assoc, back_fx (k := 8) hf.txn]
    dsimp only
    rw [back_fx (k := 8) hf.prev]
    dsimp only
    rw [back_fx (k := 8) hf.next]
    dsimp only
    rw [back_fx (k := 1) (by unfold clrB; split <;> decide)]
    dsimp only
    rw [back_tx (by omega) (by omega)]
    rw [hb]
    cases hx : x.clr <;> simp [bare, h2, zr, clrB, hx]
  rw [if_neg h2] at hmk ⊢
  rw [if_neg h2]
  by_cases h3 : x.kind = 3
  · rw [if_pos h3]
    rw [if_pos h3]
    unfold fC
    rw [List.append_assoc, back_fx (k := 8) hf.txn]
    dsimp only
    rw [back_fx (k := 8) hf.stamp]
    rw [hb]
    simp [bare, h3, zr]
  rw [if_neg h3]
  rw [if_neg h3]
  by_cases h4 : x.kind = 4
  · rw [if_pos h4]
    rw [if_pos h4]
    unfold fD
    rw [back_fx (k := 8) hf.txn]
    rw [hb]
    simp [bare, h4, zr]
  rw [if_neg h4]
  rw [if_neg h4]
  by_cases h5 : x.kind = 5
  · rw [if_neg (by omega), if_pos h5] at hmk
    rw [if_pos h5]
    rw [if_pos h5]
    unfold fP
    rw [List.append_assoc, List.append_assoc, List.append_assoc, back_uv (by omega)]
    dsimp only
    rw [Nat.min_eq_left (by omega), back_many x.opn _ (fun c hc z => back_ch c (hf.opn c hc).1 (hf.opn c hc).2.1 (hf.opn c hc).2.2 z) _ (Nat.le_refl _)]
    rw [List.drop_length, List.take_length]
    dsimp only
    rw [List.flatMap_nil, List.nil_append, back_uv (by omega)]
    dsimp only
    rw [Nat.min_eq_left (by omega), back_many x.dirty _ (fun c hc z => back_dt c (hf.dirty c hc).1 (hf.dirty c hc).2 z) _ (Nat.le_refl _)]
    rw [List.drop_length, List.take_length]
    rw [hb]
    simp [bare, h5, zr]
  · omega
theorem form_take4 (x : Lrec) (z : List UInt8) : (form x ++ z).take 4 = fx 4 (CrcM.sum (rest x)).toNat := by
  unfold form
  rw [List.append_assoc]
  conv => lhs; rw [show 4 = (fx 4 (CrcM.sum (rest x)).toNat).length by rw [fx_length]]
  rw [fx_length]
  exact List.take_left' (fx_length _ _)
theorem form_drop4 (x : Lrec) (z : List UInt8) : (form x ++ z).drop 4 = rest x ++ z := by
  unfold form
  rw [List.append_assoc]
  exact List.drop_left' (fx_length _ _)
theorem form_drop (x : Lrec) (z : List UInt8) : (form x ++ z).drop 6 = body x ++ z := by
  rw [show (6 : Nat) = 4 + 2 from rfl, ← List.drop_drop, form_drop4]
  unfold rest
  rw [List.append_assoc]
  exact List.drop_left' (fx_length _ _)
theorem form_len (x : Lrec) : (form x).length = (body x).length + 6 := by rw [form_length, body_length]; omega
theorem form_size {x : Lrec} (hm : May x) (z : List UInt8) : le (((form x ++ z).drop 4).take 2) = (form x).length := by
  rw [form_drop4]
  unfold rest
  rw [List.append_assoc, List.take_left' (fx_length _ _), le_fx, form_len, Nat.mod_eq_of_lt]
  have := tail_le hm
  rw [body_length]; omega
theorem readI_form {x : Lrec} (hm : May x) (hf : Fit x) (z : List UInt8) : readI (form x ++ z) = some (x, (form x).length) := by
  have hl := form_length x
  have ht := tail_le hm
  have hs := form_size hm z
  have htk : (form x ++ z).take (form x).length = form x := List.take_left' rfl
  have h4 := form_take4 x []
  have h5 := form_drop4 x []
  have h6 := form_drop x []
  rw [List.append_nil] at h4 h5 h6
  rw [List.append_nil] at h5 h6
  have hfb := fields_body hm hf []
  rw [List.append_nil] at hfb
  unfold readI
  rw [hs, htk, h4, h5, h6, hfb]
  rw [if_neg (by rw [List.length_append]; omega), if_neg (by rw [List.length_append]; omega), if_neg (by rw [le_fx, Nat.mod_eq_of_lt (CrcM.sum (rest x)).isLt]; simp), if_neg (by simp [hm])]
theorem readI_some {l : List UInt8} {x : Lrec} {n : Nat} (h : readI l = some (x, n)) : May x ∧ Fit x ∧ form x = l.take n ∧ n = (form x).length ∧ n ≤ l.length := by
  unfold readI at h
  split at h
  · cases h
  split at h
  · cases h
  split at h
  · cases h
  split at h
  · cases h
  rename_i h1 h2 h3 h4
  injection h with h
  injection h with ha hb
  rw [← ha, ← hb]
  have hM : May (fields ⟨(l.take (le ((l.drop 4).take 2))).drop 6, 0⟩).1 := Decidable.byContradiction fun q => h4 (.inr (.inl q))
  have hF : form (fields ⟨(l.take (le ((l.drop 4).take 2))).drop 6, 0⟩).1 = l.take (le ((l.drop 4).take 2)) := Decidable.byContradiction fun q => h4 (.inr (.inr q))
  exact ⟨hM, fields_fit _, hF, by rw [hF, List.length_take]; omega, by omega⟩
theorem readR_form {x : Lrec} (hm : May x) (hf : Fit x) (z : List UInt8) : readR (form x ++ z) = some (x, (form x).length) := by
  have hl := form_length x
  have hr : (((⟨form x ++ z, 0⟩ : Rd).fixed 4).2.fixed 2).2 = ⟨body x ++ z, 0⟩ := by
    rw [fixed_ok (by rw [List.length_append]; omega)]
    dsimp only
    rw [fixed_ok (by rw [List.length_drop, List.length_append]; omega)]
    dsimp only
    rw [List.drop_drop, form_drop]
  unfold readR
  dsimp only
  rw [hr, fields_body hm hf]
  dsimp only
  rw [if_neg (by simp [hm]), if_neg (by rw [List.take_left' rfl, List.length_append]; simp)]
theorem readR_some {l : List UInt8} {x : Lrec} {n : Nat} (h : readR l = some (x, n)) : May x ∧ Fit x ∧ form x = l.take n ∧ n = (form x).length ∧ n ≤ l.length := by
  unfold readR at h
  dsimp only at h
  split at h
  · cases h
  split at h
  · cases h
  rename_i h1 h2
  injection h with h
  injection h with ha hb
  rw [← ha, ← hb]
  exact ⟨Decidable.byContradiction fun q => h1 (.inr q), fields_fit _, Decidable.byContradiction fun q => h2 (.inr q), rfl, by omega⟩
/-- Both read the same. -/
theorem read_same (l : List UInt8) : readI l = readR l := by
  cases hI : readI l with
  | some p =>
    obtain ⟨x, n⟩ := p
    obtain ⟨hm, hf, ht, hn, hl⟩ := readI_some hI
    have := readR_form hm hf (l.drop n)
    rw [ht, List.take_append_drop] at this
    rw [this, ← ht, ← hn]
  | none =>
    cases hR : readR l with
    | none => rfl
    | some p =>
      obtain ⟨x, n⟩ := p
      obtain ⟨hm, hf, ht, hn, hl⟩ := readR_some hR
      have := readI_form hm hf (l.drop n)
      rw [ht, List.take_append_drop, hI] at this
      cases this
end LogM
end Go.Proofs.Ytpgmhjjdnanlgaa
