/-
  The walk of ItemOnce: it returns true and changes nothing that was there.
  Conditions: the bytes lie in memory as a list; their number is bounded.
-/
import Derived.Test.YteanmmdlgolljaaItemReadsWalk
namespace Go.Proofs.Yteanmmdlgolljaa
open Go.RowKit Go.Sort Go.Lib
set_option linter.unusedVariables false
theorem str_len (w : World) (A : Option Addr) (n c : Nat) (l : List UInt8) (hn : l.length = n) (hr : Row w A (bs l)) : (convert 22 9 (.slice A n c)).run Try.prog w = .ok (.string (str l)) w := by
  subst hn; exact run_str w c hr
theorem same_zero (w : World) : Calls Try.prog 44 #[.agg #[.int .u64 0, .slice none 0 0, .slice none 0 0], .agg #[.int .u64 0, .slice none 0 0, .slice none 0 0]] w fun e w' => e = .returned (.bool true) ∧ Below w.heap.size w w' :=
  itemsame_any ⟨0, [], []⟩ ⟨0, [], []⟩ none none none none 0 0 0 0 w (.inl rfl) (.inl rfl) (.inl rfl) (.inl rfl) (by simp) (by simp)
theorem itembytes_len (x : Itm) (A A2 : Option Addr) (n n2 c c2 : Nat) (w : World) (hk : x.key < 18446744073709551616) (hv : ∀ v ∈ x.vec, -2147483648 ≤ v ∧ v < 2147483648)
    (hr : Row w A (i32s x.vec)) (hr2 : Row w A2 (bs x.note)) (e1 : x.vec.length = n) (e2 : x.note.length = n2) (h1 : 1 ≤ n) (h2 : n ≤ 4096) (h3 : n2 ≤ 1024) :
    Calls Try.prog 39 #[.agg #[.int .u64 (x.key : Int), .slice A n c, .slice A2 n2 c2]] w fun e w' => ∃ v, e = .returned (.tuple #[v, .int .i64 0]) ∧ NewF (ItemM.form x) w v w' := by
  subst e1 e2
  exact itembytes_ok x A A2 c c2 w hk hv hr hr2 h1 h2 h3
set_option maxRecDepth 100000 in
set_option maxHeartbeats 4000000 in
theorem itemOnce_walk (A : Option Addr) (c : Nat) (b : List UInt8) (w : World) (hr : Row w A (bs b)) (hcap : b.length ≤ c) (hmx : c ≤ 140737488351232) :
    Calls Try.prog 12 #[.slice A b.length c] w fun e w' => e = .returned (.bool true) ∧ Below w.heap.size w w' := by
  go_enter Try.func12, Try.ntmps12
  by_cases hbig : 25000 < b.length
  · go_wp2_with fail
    refine (known05_any w).mono ?_
    rintro e w1 ⟨rfl, hb⟩
    go_wp2
    go_ret
    exact ⟨rfl, hb⟩
  · go_wp2_with fail
    refine (itemread_any A c b w hr (by omega)).mono fun e w1 h => ?_
    rw [ItemM.readP_eq] at h
    cases hx : ItemM.readR b with
    | none =>
      rw [hx] at h
      obtain ⟨rfl, hb1⟩ := h
      clear hx
      go_wp2_with fail
      refine (same_zero _).mono ?_
      rintro e w2 ⟨rfl, hb2⟩
      have hb := Lib.hid (below_step (hb1.alloc hb1.size (.cells #[.int .u64 0, .slice none 0 0, .slice none 0 0] 58)) hb2 (Nat.le_refl _))
      clear hb1 hb2
      go_wp2_with fail
      refine (known05_any w2).mono ?_
      rintro e w3 ⟨rfl, hb3⟩
      go_wp2
      go_ret
      exact ⟨rfl, below_step hb.out hb3 (Nat.le_refl _)⟩
    | some x =>
      rw [hx] at h
      obtain ⟨B1, n1, d1, B2, n2, d2, rfl, hn1, hn2, o1, o2, hb1⟩ := h
      obtain ⟨hf, hm, hok⟩ := ItemM.read_inv hx
      obtain ⟨m1, m2, m3⟩ := ItemM.may_zero hm
      have HF := Lib.hid hf
      have hn1' := hn1.out
      have hn2' := hn2.out
      clear hx hf hm
      go_wp2_with fail
      have ba : Below w1.heap.size w1 (w1.alloc (.cells #[.int .u64 (x.key : Int), .slice B1 n1 d1, .slice B2 n2 d2] 58)) := (Below.refl _ _).alloc (Nat.le_refl _) _
      refine (itembytes_len x B1 B2 n1 n2 d1 d2 _ hok.hk hok.hv (o1.below ba).row (o2.below ba).row hn1' hn2' (by omega) (by omega) (by omega)).mono ?_
      rintro e w2 ⟨v, rfl, VF⟩
      rw [HF.out] at VF
      obtain ⟨g, n, c3, rfl, hn, _, _, hrow, _, hb2⟩ := VF
      have hb := Lib.hid (below_step (below_step hb1 ba (Nat.le_refl _)) hb2 (Nat.le_refl _))
      have s1 := str_len w2 _ _ c3 _ hn.out hrow
      have s2 := run_str w2 c (hr.below hb.out)
      clear o1 o2 hb1 hb2 hrow ba
      go_wp2_with fail
      refine (known05_any w2).mono ?_
      rintro e w3 ⟨rfl, hb3⟩
      go_wp2
      go_ret
      exact ⟨rfl, below_step hb.out hb3 (Nat.le_refl _)⟩
end Go.Proofs.Yteanmmdlgolljaa
