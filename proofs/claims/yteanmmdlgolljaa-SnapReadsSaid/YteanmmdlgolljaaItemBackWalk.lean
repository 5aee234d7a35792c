/-
  The walk of ItemBack: it returns true and changes nothing that was there.
  Conditions: the record's lists lie in memory; their number is bounded.
-/
import Derived.Test.YteanmmdlgolljaaItemOnceWalk
import Derived.Test.YteanmmdlgolljaaItemF
namespace Go.Proofs.Yteanmmdlgolljaa
open Go.RowKit Go.Sort Go.Lib
set_option linter.unusedVariables false
theorem cut_pos (cut : Int) (n : Nat) (hn : 0 < n) : ∃ k : Nat, (IntKind.u64.wrap cut).tmod (n : Int) = (k : Int) ∧ k < n := by
  have h0 : 0 ≤ IntKind.u64.wrap cut := by rw [IntKind.wrap_u64]; omega
  rw [Int.tmod_eq_emod_of_nonneg h0]
  have h1 := Int.emod_nonneg (IntKind.u64.wrap cut) (b := (n : Int)) (by omega)
  have h2 := Int.emod_lt_of_pos (IntKind.u64.wrap cut) (b := (n : Int)) (by omega)
  generalize IntKind.u64.wrap cut % (n : Int) = q at *
  exact ⟨q.toNat, by omega, by omega⟩
theorem cut_pos' (cut : Int) (n : Nat) (hn : 0 < n) : ∃ k : Nat, (True → (IntKind.u64.wrap cut).tmod (n : Int) = (k : Int)) ∧ k < n := by
  obtain ⟨k, h1, h2⟩ := cut_pos cut n hn
  exact ⟨k, fun _ => h1, h2⟩
theorem wrap64_small (k : Nat) (h : k ≤ 40000) : wrap64 (k : Int) = (k : Int) := by unfold wrap64; omega
theorem itemread_len (A : Option Addr) (n c : Nat) (b : List UInt8) (w : World) (hn : b.length = n) (hr : Row w A (bs b)) (hc : n ≤ 140737488355328) :
    Calls Try.prog 46 #[.slice A n c] w (ReadPost (ItemM.readR b) w) := by
  subst hn
  rw [← ItemM.readP_eq]
  exact itemread_any A c b w hr hc
theorem itemsame_eq (x : Itm) (A A2 B B2 : Option Addr) (n n2 m m2 c c2 d d2 : Nat) (w : World) (hr : Row w A (i32s x.vec)) (hr2 : Row w A2 (bs x.note)) (hs : Row w B (i32s x.vec)) (hs2 : Row w B2 (bs x.note))
    (e1 : x.vec.length = n) (e2 : x.note.length = n2) (e3 : x.vec.length = m) (e4 : x.note.length = m2) (h1 : n ≤ 9223372036854775807) :
    Calls Try.prog 44 #[.agg #[.int .u64 (x.key : Int), .slice A n c, .slice A2 n2 c2], .agg #[.int .u64 (x.key : Int), .slice B m d, .slice B2 m2 d2]] w fun e w' => e = .returned (.bool true) ∧ Below w.heap.size w w' := by
  subst e1 e2 e3 e4
  have := itemsame_any x x A A2 B B2 c c2 d d2 w hr hr2 hs hs2 h1 h1
  rwa [ItemM.same_refl] at this
set_option maxRecDepth 100000 in
set_option maxHeartbeats 8000000 in
theorem itemBack_core (x : Itm) (A A2 : Option Addr) (c c2 : Nat) (cut : Int) (mo : UInt8) (w : World) (r1 : Row w A (i32s x.vec)) (r2 : Row w A2 (bs x.note)) (hok : x.Ok) (l1 : x.vec.length ≤ 9223372036854775807) (l2 : x.note.length ≤ 9223372036854775807)
    (hc0 : -9223372036854775808 ≤ cut) (hc1 : cut < 9223372036854775808) :
    Calls Try.prog 11 #[.agg #[.int .u64 (x.key : Int), .slice A x.vec.length c, .slice A2 x.note.length c2], .int .i64 cut, .int .u8 (mo.toNat : Int)] w fun e w' => e = .returned (.bool true) ∧ Below w.heap.size w w' := by
  go_enter Try.func11, Try.ntmps11
  go_wp2_with fail
  have hR := Blk.new w 58 #[.int .u64 (x.key : Int), .slice A x.vec.length c, .slice A2 x.note.length c2]
  have b0 : Below w.heap.size w (w.alloc (.cells #[.int .u64 (x.key : Int), .slice A x.vec.length c, .slice A2 x.note.length c2] 58)) := (Below.refl _ _).alloc (Nat.le_refl _) _
  generalize w.alloc (.cells #[.int .u64 (x.key : Int), .slice A x.vec.length c, .slice A2 x.note.length c2] 58) = w0 at *
  refine (large05_any (x.key : Int) A A2 x.vec.length c x.note.length c2 w0 l1 l2).mono ?_
  obtain ⟨bg, hbg⟩ : ∃ q, decide (6000 < x.vec.length ∨ 4000 < x.note.length) = q := ⟨_, rfl⟩
  rw [hbg]
  rintro e w1 ⟨rfl, hb1⟩
  have b1 := below_step b0 hb1 (Nat.le_refl _)
  have hR1 := hR.below hb1 hR.lt
  clear hb1 b0 hR
  cases bg with
  | true =>
    clear hbg
    go_wp2_with fail
    refine (known05_any w1).mono ?_
    rintro e w2 ⟨rfl, hb⟩
    go_wp2
    go_ret
    exact ⟨rfl, below_step b1 hb (Nat.le_refl _)⟩
  | false =>
    have hbg' := of_decide_eq_false hbg
    have hl1 : x.vec.length ≤ 6000 := by omega
    have hl2 : x.note.length ≤ 4000 := by omega
    clear hbg hbg'
    have c0 := hR1.cell 0
    have c1 := hR1.cell 1
    have c2' := hR1.cell 2
    simp only [List.getElem?_toArray, List.getElem?_cons_zero, List.getElem?_cons_succ] at c0 c1 c2'
    by_cases hm : ItemM.may x = 0
    · obtain ⟨m1, m2, m3⟩ := ItemM.may_zero hm
      have HRF : Hid (∀ z, ItemM.readR (ItemM.form x ++ z) = if z = [] then some x else none) := Lib.hid (fun z => ItemM.read_form hok hm z)
      have HCUT : Hid (∀ j, j < (ItemM.form x).length → ItemM.readR ((ItemM.form x).take j) = none) := Lib.hid (fun j hj => ItemM.read_cut hok hm hj)
      have hfl := ItemM.form_length x
      go_wp2_with fail
      refine (itembytes_ok x A A2 c c2 w1 hok.hk hok.hv (r1.below b1) (r2.below b1) m1 m2 m3).mono ?_
      rintro e w2 ⟨v, rfl, VF⟩
      obtain ⟨g, n, c3, rfl, hn, ⟨hnc, hc3⟩, _, hrow, _, hb2⟩ := VF
      obtain ⟨F, eF⟩ : ∃ F, ItemM.form x = F := ⟨_, rfl⟩
      have hFne := ItemM.form_ne x
      rw [eF] at hn hrow HRF HCUT hfl hFne
      have hn0 : 0 < n := by have := hn.out; have := List.length_pos_iff.2 hFne; omega
      have hn1 : n ≤ 40000 := by have := hn.out; omega
      have b2 := below_step b1 hb2 (Nat.le_refl _)
      have hR2 := hR1.below hb2 hR1.lt
      clear hfl hFne eF hb2 b1 hR1 c0 c1 c2'
      have hx : ItemM.readR F = some x := by have := HRF.out []; rwa [List.append_nil, if_pos rfl] at this
      go_wp2_with fail
      refine (itemread_len (some ⟨g, 0, none⟩) n c3 F w2 hn.out hrow (by omega)).mono fun e w3 h => ?_
      rw [hx] at h
      obtain ⟨B1, n1, d1, B2, n2, d2, rfl, k1, k2, o1, o2, hb3⟩ := h
      have b3 := below_step b2 hb3 (Nat.le_refl _)
      have hR3 := hR2.below hb3 hR2.lt
      have hrow3 := hrow.below hb3
      clear hx hb3 b2 hR2 hrow
      have z0 := (hR3.alloc (.cells #[.int .u64 (x.key : Int), .slice B1 n1 d1, .slice B2 n2 d2] 58)).cell 0
      have z1 := (hR3.alloc (.cells #[.int .u64 (x.key : Int), .slice B1 n1 d1, .slice B2 n2 d2] 58)).cell 1
      have z2 := (hR3.alloc (.cells #[.int .u64 (x.key : Int), .slice B1 n1 d1, .slice B2 n2 d2] 58)).cell 2
      simp only [List.getElem?_toArray, List.getElem?_cons_zero, List.getElem?_cons_succ] at z0 z1 z2
      go_wp2_with fail
      have ba : Below w3.heap.size w3 (w3.alloc (.cells #[.int .u64 (x.key : Int), .slice B1 n1 d1, .slice B2 n2 d2] 58)) := (Below.refl _ _).alloc (Nat.le_refl _) _
      have b4 := below_step b3 ba (Nat.le_refl _)
      have hrow4 := hrow3.below ba
      refine (itemsame_eq x A A2 B1 B2 x.vec.length x.note.length n1 n2 c c2 d1 d2 _ (r1.below b4) (r2.below b4) (o1.below ba).row (o2.below ba).row rfl rfl k1.out k2.out l1).mono ?_
      rintro e w5 ⟨rfl, hb5⟩
      have b5 := Lib.hid (below_step b4 hb5 (Nat.le_refl _))
      have hrow5 := Lib.hid (hrow4.below hb5)
      obtain ⟨k, hk, hkn⟩ := cut_pos' cut n hn0
      have hwn : IntKind.u64.wrap (n : Int) = (n : Int) := by rw [IntKind.wrap_u64]; omega
      have hwk : wrap64 (k : Int) = (k : Int) := wrap64_small k (by omega)
      have hkc : (k : Int) ≤ (c3 : Int) := Int.ofNat_le.2 (Nat.le_of_lt (Nat.lt_of_lt_of_le hkn hnc))
      have HKN := Lib.hid hkn
      have HNC := Lib.hid hnc
      have hn40 := hn1
      clear z0 z1 z2 hb5 hrow4 b4 ba o1 o2 hrow3 b3 hR3 hnc hc3 hkn
      go_wp2_with fail
      have hcut := HCUT.out k (by rw [hn.out]; exact HKN.out)
      refine (itemread_len (some ⟨g, 0, none⟩) k c3 (F.take k) w5 (by rw [List.length_take, hn.out]; exact Nat.min_eq_left (Nat.le_of_lt HKN.out)) (by rw [bs_take]; exact hrow5.out.take k) (by have := HKN.out; omega)).mono fun e w6 h => ?_
      rw [hcut] at h
      obtain ⟨rfl, hb6⟩ := h
      have b6 := Lib.hid (below_step b5.out hb6 (Nat.le_refl _))
      have hrow6 := Lib.hid (hrow5.out.below hb6)
      have hs6 := hb6.size
      clear hcut hb6
      go_wp2_with (at_builtin; refine wpl_app' _ rfl (.tmp 61) (.tmp 62) rfl (w6.heap.size + 1) (some ⟨w6.heap.size + 1, 0, none⟩) 0 [] 0 rfl rfl (by
        have := Own.made (w6.alloc (.cells #[.int .u64 0, .slice none 0 0, .slice none 0 0] 58)) #[] 0 (base := w6.heap.size + 1) (by simp) (by unfold maxLen; omega) rfl
        simpa using this) (some ⟨g, 0, none⟩) c3 F n rfl hn.out ((hrow6.out.alloc _).alloc _) ?_ ?_ ?_)
      · omega
      · simp
      intro A7 c7 w7 h7 hg7 _
      have b7 : Below w6.heap.size w6 w7 := (((Below.refl w6.heap.size w6).alloc (Nat.le_refl _) (.cells #[.int .u64 0, .slice none 0 0, .slice none 0 0] 58)).alloc (by simp) (.cells #[] 5)).grown hg7 (by simp; omega) (by intro k hk; simp [Value.ownBlock] at hk; omega)
      have hs7 := b7.size
      have hsz7 : w6.heap.size + 1 ≤ w7.heap.size := by have := hg7.size; simp at this; omega
      clear hg7
      go_wp2_with (at_builtin; refine wpl_app' _ rfl (.tmp 63) (.tmp 65) rfl (w6.heap.size + 1) A7 c7 F n (by first | rfl | simp [Act.eval, Act.put]) hn.out (h7.alloc _) (some ⟨w7.heap.size, 0, none⟩) 1 [mo] 1 rfl rfl (row_one w7 _ mo rfl) ?_ ?_ ?_)
      · omega
      · simp; omega
      intro A8 c8 w8 h8 hg8 _
      have b8 : Below w6.heap.size w6 w8 := (h7.alloc (.cells #[.int .u8 (mo.toNat : Int)] 5)).grown_below (by rw [hn.out]) hg8 (b7.alloc hs7 _) (by omega) (by simp; omega)
      have hmore : ItemM.readR (F ++ [mo]) = none := by have := HRF.out [mo]; rwa [if_neg (by simp)] at this
      have b68 := Lib.hid (below_step b6.out b8 (Nat.le_refl _))
      clear hg8 h7 b7 b8
      go_wp2_with fail
      refine (itemread_len A8 (n + 1) c8 (F ++ [mo]) w8 (by rw [List.length_append, hn.out]; rfl) h8.row (by omega)).mono fun e w9 h => ?_
      rw [hmore] at h
      obtain ⟨rfl, hb9⟩ := h
      have b9 := Lib.hid ((below_step b68.out hb9 (Nat.le_refl _)).alloc (by have := b68.out.size; have := hb9.size; omega) (.cells #[.int .u64 0, .slice none 0 0, .slice none 0 0] 58))
      clear hb9 hmore h8
      go_wp2_with fail
      refine (known05_any _).mono ?_
      rintro e w10 ⟨rfl, hb10⟩
      go_wp2
      go_ret
      exact ⟨rfl, below_step b9.out hb10 (Nat.le_refl _)⟩
    · have hmay := fun (W : World) => may_any (x.key : Int) A A2 x.vec.length c x.note.length c2 W l1 l2
      change ∀ W : World, Calls _ _ _ W fun e w' => e = .returned (.int .i64 (ItemM.may x : Int)) ∧ Below W.heap.size W w' at hmay
      have hby := itembytes_no x A A2 c c2 w1 l1 l2 hm
      obtain ⟨q, hq⟩ : ∃ q, ItemM.may x = q := ⟨_, rfl⟩
      rw [hq] at hm hby
      have HM : Hid (∀ W : World, Calls Try.prog 38 #[.agg #[.int .u64 (x.key : Int), .slice A x.vec.length c, .slice A2 x.note.length c2]] W fun e w' => e = .returned (.int .i64 (q : Int)) ∧ Below W.heap.size W w') := Lib.hid (by rw [← hq]; exact hmay)
      have hqq : ((q : Int) == 0) = false := beq_eq_false_iff_ne.2 (by omega)
      clear hmay hq
      go_wp2_with fail
      refine hby.mono ?_
      rintro e w2 ⟨rfl, hb2⟩
      have z0 := cell_below hb2 c0
      have z1 := cell_below hb2 c1
      have z2 := cell_below hb2 c2'
      have b2 := below_step b1 hb2 (Nat.le_refl _)
      clear hb2 b1 hR1 c0 c1 c2' hby
      go_wp2_with fail
      refine (HM.out w2).mono ?_
      rintro e w3 ⟨rfl, hb3⟩
      have b3 := below_step b2 hb3 (Nat.le_refl _)
      clear hb3 b2
      go_wp2_with fail
      refine (known05_any w3).mono ?_
      rintro e w4 ⟨rfl, hb4⟩
      go_wp2
      go_ret
      exact ⟨rfl, below_step b3 hb4 (Nat.le_refl _)⟩
theorem itemBack_walk (s : Itv) (a1 a2 : Int) (w : World) (hs : s.At w) (w1 : (Lit.int .i64 a1).wf = true) (w2 : (Lit.int .u8 a2).wf = true) :
    Calls Try.prog 11 #[.agg #[.int .u64 (s.x.key : Int), .slice s.A s.x.vec.length s.c, .slice s.A2 s.x.note.length s.c2], .int .i64 a1, .int .u8 a2] w fun e w' => e = .returned (.bool true) ∧ Below w.heap.size w w' := by
  have g1 : -9223372036854775808 ≤ a1 ∧ a1 ≤ 9223372036854775807 := by simpa [Lit.wf, IntKind.min, IntKind.max, IntKind.signed, IntKind.bits] using w1
  have g2 : 0 ≤ a2 ∧ a2 ≤ 255 := by simpa [Lit.wf, IntKind.min, IntKind.max, IntKind.signed, IntKind.bits] using w2
  obtain ⟨r1, r2, ok, l1, l2, m1, m2⟩ := hs
  unfold maxLen at m1 m2
  have e : a2 = ((UInt8.ofNat a2.toNat).toNat : Int) := by rw [UInt8.toNat_ofNat']; omega
  rw [e]
  exact itemBack_core s.x s.A s.A2 s.c s.c2 a1 (UInt8.ofNat a2.toNat) w r1 r2 ok (by omega) (by omega) g1.1 (by omega)
end Go.Proofs.Yteanmmdlgolljaa
