/-
  The document's reading reads the form of a request that may be as that request; no program in sight.
  Conditions: none.
-/
import Derived.Test.YtaadfalklddhcaaZStmS5
namespace Go.Proofs.Ytaadfalklddhcaa
open Go.RowKit
set_option linter.unusedVariables false
set_option linter.unusedSimpArgs false
namespace StmM
open CodeM ItemM
theorem doc_q {q : List Int} (hq : ∀ v ∈ q, -2147483648 ≤ v ∧ v < 2147483648) (h : q.length ≤ 4096) (z : List UInt8) {i : Nat} (he : Enough i q.length (vecs i ⟨vb q ++ z, 0⟩).2.e) : vecs i ⟨vb q ++ z, 0⟩ = (q, ⟨z, 0⟩) := by
  obtain ⟨h1, h2⟩ := he
  have hb := back_vecs q hq z i h1
  rw [hb] at h2 ⊢
  have : i = q.length := by
    rcases h2 with h2 | h2 | h2
    · exact h2
    · omega
    · exact absurd rfl h2
  rw [this, List.take_length, List.drop_length]; rfl
theorem doc_fl {q : List Nat} (hq : ∀ v ∈ q, v < 18446744073709551616) (h : q.length ≤ 4096) (z : List UInt8) {i : Nat} (he : Enough i q.length (fls i ⟨fb q ++ z, 0⟩).2.e) : fls i ⟨fb q ++ z, 0⟩ = (q, ⟨z, 0⟩) := by
  obtain ⟨h1, h2⟩ := he
  have hb := back_fls q hq z i h1
  rw [hb] at h2 ⊢
  have : i = q.length := by
    rcases h2 with h2 | h2 | h2
    · exact h2
    · omega
    · exact absurd rfl h2
  rw [this, List.take_length, List.drop_length]; rfl
section
variable {x : Rq} {b : List UInt8} {k1 : Nat} {r1 : Rd} {k : Int} (hx : x.Ok) (hm : may x = true) (hf : form x = b) (h0 : Rd.fixed 1 ⟨b, 0⟩ = (k1, r1)) (hk : (k1 : Int) = k)
include hm hf h0 hk
theorem doc_head : k = x.kind ∧ r1 = ⟨(body x).flatten, 0⟩ := by
  obtain ⟨m1, m2, _⟩ := (may_iff x).1 hm
  rw [← hf] at h0
  unfold form at h0
  rw [fix1] at h0
  injection h0 with h1 h2
  have := b8_small (k := x.kind) (by omega)
  exact ⟨by rw [← hk, ← h1, this], h2.symm⟩
theorem doc_other (hK : ¬ k = 2 ∧ ¬ k = 3 ∧ ¬ k = 4 ∧ ¬ k = 5 ∧ ¬ k = 6 ∧ ¬ k = 10 ∧ ¬ k = 11) : r1.e = 0 ∧ nil k = x := by
  obtain ⟨e1, e2⟩ := doc_head hm hf h0 hk
  have hb := may_bare hm
  obtain ⟨h2, h3, h4, h5, h6, h10, h11⟩ := hK
  rw [e1] at h2 h3 h4 h5 h6 h10 h11
  refine ⟨by rw [e2], ?_⟩
  unfold bare at hb
  rw [if_neg h2, if_neg (by omega), if_neg h5, if_neg h6, if_neg h10, if_neg h11] at hb
  rw [hb, e1]
include hx
theorem doc_3 (hK : k = 3 ∨ k = 4) {v1 : Nat} {r2 : Rd} (h1 : r1.fixed 8 = (v1, r2)) : r2.e = 0 ∧ (⟨k, no, v1, 0, 0, [], [], 0⟩ : Rq) = x := by
  obtain ⟨e1, e2⟩ := doc_head hm hf h0 hk
  have hb := may_bare hm
  rw [e1] at hK ⊢
  have hbd : (body x).flatten = fx 8 x.key ++ [] := by unfold body; rw [if_neg (by omega), if_pos hK]; simp
  rw [e2, hbd, back_fx hx.hkey] at h1
  injection h1 with h1 h2
  refine ⟨by rw [← h2], ?_⟩
  unfold bare at hb
  rw [if_neg (by omega), if_pos hK] at hb
  rw [← h1]; exact hb.symm
theorem doc_5 (hK : k = 5) {v1 v2 v3 : Nat} {r2 r3 r4 : Rd} (h1 : r1.fixed 8 = (v1, r2)) (h2 : r2.fixed 8 = (v2, r3)) (h3 : r3.fixed 1 = (v3, r4)) : r4.e = 0 ∧ (⟨k, no, v1, v2, (v3 : Int), [], [], 0⟩ : Rq) = x := by
  obtain ⟨e1, e2⟩ := doc_head hm hf h0 hk
  have hb := may_bare hm
  have hn := (may_iff x).1 hm
  rw [e1] at hK ⊢
  have hbd : (body x).flatten = fx 8 x.key ++ (fx 8 x.till ++ [b8 x.n]) := by unfold body; rw [if_neg (by omega), if_neg (by omega), if_pos hK]; simp
  rw [e2, hbd, back_fx hx.hkey] at h1
  injection h1 with h1 g1
  rw [← g1, back_fx hx.hto] at h2
  injection h2 with h2 g2
  rw [← g2, fix1] at h3
  injection h3 with h3 g3
  refine ⟨by rw [← g3], ?_⟩
  unfold bare at hb
  rw [if_neg (by omega), if_neg (by omega), if_pos hK] at hb
  rw [← h1, ← h2, ← h3, b8_small (by omega)]; exact hb.symm
theorem doc_6 (hK : k = 6) {v1 n i : Nat} {r2 r3 : Rd} (h1 : r1.fixed 1 = (v1, r2)) (h2 : r2.uv = (n, r3)) (he : Enough i n (vecs i r3).2.e) : (vecs i r3).2.e = 0 ∧ (⟨k, no, 0, 0, (v1 : Int), (vecs i r3).1, [], 0⟩ : Rq) = x := by
  obtain ⟨e1, e2⟩ := doc_head hm hf h0 hk
  have hb := may_bare hm
  have hn := (may_iff x).1 hm
  rw [e1] at hK ⊢
  have hbd : (body x).flatten = b8 x.n :: (uv x.q.length ++ (vb x.q ++ [])) := by unfold body; rw [if_neg (by omega), if_neg (by omega), if_neg (by omega), if_pos hK]; simp
  rw [e2, hbd, fix1] at h1
  injection h1 with h1 g1
  rw [← g1, back_uv (by omega)] at h2
  injection h2 with h2 g2
  rw [← g2, ← h2] at he
  rw [← g2, doc_q hx.hq (by omega) [] he]
  refine ⟨rfl, ?_⟩
  unfold bare at hb
  rw [if_neg (by omega), if_neg (by omega), if_neg (by omega), if_pos hK] at hb
  rw [← h1, b8_small (by omega)]; exact hb.symm
theorem doc_10 (hK : k = 10) {v1 v2 n i : Nat} {r2 r3 r4 : Rd} {tx_ : List UInt8} {r5 : Rd} (h1 : r1.fixed 8 = (v1, r2)) (h2 : r2.fixed 1 = (v2, r3)) (h3 : r3.uv = (n, r4)) (he : Enough i n (fls i r4).2.e) (h4 : (fls i r4).2.text 1024 = (tx_, r5)) :
    r5.e = 0 ∧ (⟨k, ⟨v1, [], tx_⟩, 0, 0, 0, [], (fls i r4).1, s8 v2⟩ : Rq) = x := by
  obtain ⟨e1, e2⟩ := doc_head hm hf h0 hk
  have hb := may_bare hm
  have hn := (may_iff x).1 hm
  rw [e1] at hK ⊢
  have hnote := hn.2.2.2.2.2.2.2.2.2.2 (by omega)
  have hbd : (body x).flatten = fx 8 x.it.key ++ (b8 x.scale :: (uv x.fl.length ++ (fb x.fl ++ (tx x.it.note ++ [])))) := by unfold body; rw [if_neg (by omega), if_neg (by omega), if_neg (by omega), if_neg (by omega), if_pos hK]; simp
  rw [e2, hbd, back_fx hx.hit.hk] at h1
  injection h1 with h1 g1
  rw [← g1, fix1] at h2
  injection h2 with h2 g2
  rw [← g2, back_uv (by omega)] at h3
  injection h3 with h3 g3
  rw [← g3, ← h3] at he
  have hd := doc_fl hx.hfl (by omega) (tx x.it.note ++ []) he
  rw [← g3, hd, back_tx (by omega) (by omega)] at h4
  injection h4 with h4 g4
  refine ⟨by rw [← g4], ?_⟩
  rw [← g3, hd, ← h1, ← h2, ← h4, s8_b8 ⟨by omega, by omega⟩]
  unfold bare at hb
  rw [if_neg (by omega), if_neg (by omega), if_neg (by omega), if_neg (by omega), if_pos hK] at hb
  exact hb.symm
theorem doc_11 (hK : k = 11) {v1 v2 n i : Nat} {r2 r3 r4 : Rd} (h1 : r1.fixed 1 = (v1, r2)) (h2 : r2.fixed 1 = (v2, r3)) (h3 : r3.uv = (n, r4)) (he : Enough i n (fls i r4).2.e) :
    (fls i r4).2.e = 0 ∧ (⟨k, no, 0, 0, (v1 : Int), [], (fls i r4).1, s8 v2⟩ : Rq) = x := by
  obtain ⟨e1, e2⟩ := doc_head hm hf h0 hk
  have hb := may_bare hm
  have hn := (may_iff x).1 hm
  rw [e1] at hK ⊢
  have hbd : (body x).flatten = b8 x.n :: (b8 x.scale :: (uv x.fl.length ++ (fb x.fl ++ []))) := by unfold body; rw [if_neg (by omega), if_neg (by omega), if_neg (by omega), if_neg (by omega), if_neg (by omega), if_pos hK]; simp
  rw [e2, hbd, fix1] at h1
  injection h1 with h1 g1
  rw [← g1, fix1] at h2
  injection h2 with h2 g2
  rw [← g2, back_uv (by omega)] at h3
  injection h3 with h3 g3
  rw [← g3, ← h3] at he
  have hd := doc_fl hx.hfl (by omega) [] he
  rw [← g3, hd]
  refine ⟨rfl, ?_⟩
  rw [← h1, ← h2, s8_b8 ⟨by omega, by omega⟩, b8_small (by omega)]
  unfold bare at hb
  rw [if_neg (by omega), if_neg (by omega), if_neg (by omega), if_neg (by omega), if_neg (by omega), if_pos hK] at hb
  exact hb.symm
/-- A record's request is read through the record. -/
theorem doc_2 (hK : k = 2) : r1.e = 0 ∧ readR r1.l = some x.it ∧ (⟨k, x.it, 0, 0, 0, [], [], 0⟩ : Rq) = x := by
  obtain ⟨e1, e2⟩ := doc_head hm hf h0 hk
  have hb := may_bare hm
  have hn := (may_iff x).1 hm
  rw [e1] at hK ⊢
  have hmi := hn.2.2.2.2.2.2.2.2.2.1 hK
  have hbd : (body x).flatten = ItemM.form x.it := by unfold body; rw [if_pos hK]; simp
  have h3 := ItemM.read_form hx.hit hmi []
  rw [List.append_nil, if_pos rfl] at h3
  refine ⟨by rw [e2], by rw [e2, hbd]; exact h3, ?_⟩
  unfold bare at hb
  rw [if_pos hK] at hb
  exact hb.symm
end
/-- The document refuses, where the record within is none. -/
theorem doc_2no {b : List UInt8} {k1 : Nat} {r1 : Rd} {k : Int} (h0 : Rd.fixed 1 ⟨b, 0⟩ = (k1, r1)) (hk : (k1 : Int) = k) (hK : k = 2) (hr : readR r1.l = none) : read b = none := by
  cases h : read b with
  | none => rfl
  | some x =>
    exfalso
    obtain ⟨hx, hm, hf⟩ := read_some h
    have := (doc_2 hx hm hf h0 hk hK).2.1
    rw [hr] at this
    cases this
end StmM
end Go.Proofs.Ytaadfalklddhcaa
