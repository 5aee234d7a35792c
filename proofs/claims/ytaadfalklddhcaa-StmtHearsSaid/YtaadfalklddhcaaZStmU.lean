/-
  The document's reading reads the form of a reply that may be as that reply; no program in sight.
  Conditions: none.
-/
import Derived.Test.YtaadfalklddhcaaZStmN
import Derived.Test.YtaadfalklddhcaaZStmT5
namespace Go.Proofs.Ytaadfalklddhcaa
open Go.RowKit
set_option linter.unusedVariables false
set_option linter.unusedSimpArgs false
namespace RepM
open CodeM ItemM StmM
/-- So many of n as could be read, and one more than may be at most. -/
def Enough (i n : Nat) (e : Nat) : Prop := i ≤ n ∧ (i = n ∨ 51 ≤ i ∨ e ≠ 0)
theorem doc_seq {α : Type} {one : Rd → α × Rd} {enc : α → List UInt8} {l : List α} (h : ∀ a ∈ l, ∀ z, one ⟨enc a ++ z, 0⟩ = (a, ⟨z, 0⟩)) (hl : l.length ≤ 50) (z : List UInt8) {i : Nat} (he : Enough i l.length (seqs one i ⟨l.flatMap enc ++ z, 0⟩).2.e) : seqs one i ⟨l.flatMap enc ++ z, 0⟩ = (l, ⟨z, 0⟩) := by
  obtain ⟨h1, h2⟩ := he
  have hb := back_seqs one enc l h z i h1
  rw [hb] at h2 ⊢
  have : i = l.length := by
    rcases h2 with h2 | h2 | h2
    · exact h2
    · omega
    · exact absurd rfl h2
  rw [this, List.take_length, List.drop_length]; rfl
section
variable {x : Rp} {b : List UInt8} {k1 : Nat} {r1 : Rd} {k : Int} (hx : x.Ok) (hm : mayR x = true) (hf : formR x = b) (h0 : Rd.fixed 1 ⟨b, 0⟩ = (k1, r1)) (hk : (k1 : Int) = k)
include hm hf h0 hk
theorem doc_head : k = x.kind ∧ r1 = ⟨(bodyR x).flatten, 0⟩ := by
  have hkk := kOk_kind ((mayR_iff x).1 hm).1
  rw [← hf] at h0
  unfold formR at h0
  rw [fix1] at h0
  injection h0 with h1 h2
  have := b8_small (k := x.kind) (by omega)
  exact ⟨by rw [← hk, ← h1, this], h2.symm⟩
theorem doc_other (hK : ¬ k = 1 ∧ ¬ k = 2 ∧ ¬ k = 3 ∧ ¬ k = 4 ∧ ¬ k = 5) : r1.e = 0 ∧ nilR k = x := by
  obtain ⟨e1, e2⟩ := doc_head hm hf h0 hk
  have hkk := kOk_kind ((mayR_iff x).1 hm).1
  omega
theorem doc_1 (hK : k = 1) {v1 : Nat} {r2 : Rd} (h1 : r1.fixed 1 = (v1, r2)) : r2.e = 0 ∧ (⟨k, (v1 : Int), 0, 0, no, [], []⟩ : Rp) = x := by
  obtain ⟨e1, e2⟩ := doc_head hm hf h0 hk
  have hb := mayR_bare hm
  have hko := kOk_1 ((mayR_iff x).1 hm).1 (by omega)
  rw [e1] at hK ⊢
  have hbd : (bodyR x).flatten = b8 x.mark :: [] := by unfold bodyR; rw [if_pos hK]; rfl
  rw [e2, hbd, fix1] at h1
  injection h1 with h1 g1
  refine ⟨by rw [← g1], ?_⟩
  unfold bareR at hb
  rw [if_pos hK] at hb
  rw [← h1, b8_small (by omega)]; exact hb.symm
theorem doc_2 (hK : k = 2) {v1 v2 : Nat} {r2 r3 : Rd} (h1 : r1.fixed 1 = (v1, r2)) (h2 : r2.fixed 2 = (v2, r3)) : r3.e = 0 ∧ (⟨k, 0, (v1 : Int), (v2 : Int), no, [], []⟩ : Rp) = x := by
  obtain ⟨e1, e2⟩ := doc_head hm hf h0 hk
  have hb := mayR_bare hm
  have hko := kOk_2 ((mayR_iff x).1 hm).1 (by omega)
  rw [e1] at hK ⊢
  have hp : ((u64z x.place : Nat) : Int) = x.place := by unfold u64z; omega
  have hp2 : u64z x.place < 256 ^ 2 := by omega
  have hbd : (bodyR x).flatten = b8 x.errno :: (fx 2 (u64z x.place) ++ []) := by unfold bodyR; rw [if_neg (by omega), if_pos hK]; rfl
  rw [e2, hbd, fix1] at h1
  injection h1 with h1 g1
  rw [← g1, back_fx hp2] at h2
  injection h2 with h2 g2
  refine ⟨by rw [← g2], ?_⟩
  unfold bareR at hb
  rw [if_neg (by omega), if_pos hK] at hb
  rw [← h1, ← h2, b8_small (by omega), hp]; exact hb.symm
include hx
theorem doc_3 (hK : k = 3) : r1.e = 0 ∧ readR r1.l = some x.it ∧ (⟨k, 0, 0, 0, x.it, [], []⟩ : Rp) = x := by
  obtain ⟨e1, e2⟩ := doc_head hm hf h0 hk
  have hb := mayR_bare hm
  rw [e1] at hK ⊢
  have hmi := kOk_3 ((mayR_iff x).1 hm).1 hK
  have hbd : (bodyR x).flatten = ItemM.form x.it := by unfold bodyR; rw [if_neg (by omega), if_neg (by omega), if_pos hK]; simp
  have h3 := ItemM.read_form hx.hit hmi []
  rw [List.append_nil, if_pos rfl] at h3
  refine ⟨by rw [e2], by rw [e2, hbd]; exact h3, ?_⟩
  unfold bareR at hb
  rw [if_neg (by omega), if_neg (by omega), if_pos hK] at hb
  exact hb.symm
theorem doc_4 (hK : k = 4) {n i : Nat} {r2 : Rd} (h1 : r1.uv = (n, r2)) (he : Enough i n (seqs oneI i r2).2.e) : (seqs oneI i r2).2.e = 0 ∧ (⟨k, 0, 0, 0, no, (seqs oneI i r2).1, []⟩ : Rp) = x := by
  obtain ⟨e1, e2⟩ := doc_head hm hf h0 hk
  have hb := mayR_bare hm
  rw [e1] at hK ⊢
  have hko := kOk_4 ((mayR_iff x).1 hm).1 hK
  have hbd : (bodyR x).flatten = uv x.its.length ++ (x.its.flatMap encI ++ []) := by unfold bodyR; rw [if_neg (by omega), if_neg (by omega), if_neg (by omega), if_pos hK]; simp
  rw [e2, hbd, back_uv (by omega)] at h1
  injection h1 with h1 g1
  rw [← g1, ← h1] at he
  rw [← g1, doc_seq (fun a ha z => back_oneI a (hx.hits_ a ha) (hko.2 a ha) z) (by omega) [] he]
  refine ⟨rfl, ?_⟩
  unfold bareR at hb
  rw [if_neg (by omega), if_neg (by omega), if_neg (by omega), if_pos hK] at hb
  exact hb.symm
theorem doc_4i (hK : k = 4) {n i : Nat} {r2 : Rd} (h1 : r1.uv = (n, r2)) (hi : i < n) : (readR ((seqs oneI i r2).2.text 17500).1).isSome = true := by
  obtain ⟨e1, e2⟩ := doc_head hm hf h0 hk
  rw [e1] at hK
  have hko := kOk_4 ((mayR_iff x).1 hm).1 hK
  have hbd : (bodyR x).flatten = uv x.its.length ++ (x.its.flatMap encI ++ []) := by unfold bodyR; rw [if_neg (by omega), if_neg (by omega), if_neg (by omega), if_pos hK]; simp
  rw [e2, hbd, back_uv (by omega)] at h1
  injection h1 with h1 g1
  have hbk := back_seqs oneI encI x.its (fun a ha z => back_oneI a (hx.hits_ a ha) (hko.2 a ha) z) [] i (by omega)
  rw [← g1, hbk]
  obtain ⟨u, hu⟩ : ∃ u, x.its[i]? = some u := ⟨_, List.getElem?_eq_getElem (by omega)⟩
  obtain ⟨h2, h3⟩ := List.getElem?_eq_some_iff.1 hu
  have e : x.its.drop i = u :: x.its.drop (i + 1) := by rw [← List.getElem_cons_drop h2, h3]
  have hum := List.mem_of_getElem? hu
  have hl := may_small (hko.2 u hum)
  have h4 := ItemM.read_form (hx.hits_ u hum) (hko.2 u hum) []
  rw [List.append_nil, if_pos rfl] at h4
  rw [e, List.flatMap_cons, List.append_assoc]
  unfold encI
  rw [back_tx (by omega) (by omega)]
  simp only [h4, Option.isSome_some]
theorem doc_5 (hK : k = 5) {n i : Nat} {r2 : Rd} (h1 : r1.uv = (n, r2)) (he : Enough i n (seqs oneH i r2).2.e) : (seqs oneH i r2).2.e = 0 ∧ (⟨k, 0, 0, 0, no, [], (seqs oneH i r2).1⟩ : Rp) = x := by
  obtain ⟨e1, e2⟩ := doc_head hm hf h0 hk
  have hb := mayR_bare hm
  rw [e1] at hK ⊢
  have hko := kOk_5 ((mayR_iff x).1 hm).1 hK
  have hbd : (bodyR x).flatten = uv x.hits.length ++ (x.hits.flatMap encH ++ []) := by unfold bodyR; rw [if_neg (by omega), if_neg (by omega), if_neg (by omega), if_neg (by omega), if_pos hK]; simp
  rw [e2, hbd, back_uv (by omega)] at h1
  injection h1 with h1 g1
  rw [← g1, ← h1] at he
  rw [← g1, doc_seq (fun a ha z => back_oneH a (hx.hh a ha) z) (by omega) [] he]
  refine ⟨rfl, ?_⟩
  unfold bareR at hb
  rw [if_neg (by omega), if_neg (by omega), if_neg (by omega), if_neg (by omega), if_pos hK] at hb
  exact hb.symm
end
/-- The document refuses, where a record within is none. -/
theorem doc_3no {b : List UInt8} {k1 : Nat} {r1 : Rd} {k : Int} (h0 : Rd.fixed 1 ⟨b, 0⟩ = (k1, r1)) (hk : (k1 : Int) = k) (hK : k = 3) (hr : readR r1.l = none) : readT b = none := by
  cases h : readT b with
  | none => rfl
  | some x =>
    exfalso
    obtain ⟨hx, hm, hf⟩ := readT_some h
    have := (doc_3 hx hm hf h0 hk hK).2.1
    rw [hr] at this
    cases this
theorem doc_4no {b : List UInt8} {k1 : Nat} {r1 : Rd} {k : Int} (h0 : Rd.fixed 1 ⟨b, 0⟩ = (k1, r1)) (hk : (k1 : Int) = k) (hK : k = 4) {n i : Nat} {r2 : Rd} (h1 : r1.uv = (n, r2)) (hi : i < n) (hr : readR ((seqs oneI i r2).2.text 17500).1 = none) : readT b = none := by
  cases h : readT b with
  | none => rfl
  | some x =>
    exfalso
    obtain ⟨hx, hm, hf⟩ := readT_some h
    have := doc_4i hx hm hf h0 hk hK h1 hi
    rw [hr] at this
    cases this
end RepM
end Go.Proofs.Ytaadfalklddhcaa
