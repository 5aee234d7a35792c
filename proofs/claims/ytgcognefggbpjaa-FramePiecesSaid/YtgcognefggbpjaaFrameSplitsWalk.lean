/-
  The walk of FrameSplits: it returns true and changes nothing that was there.
  Conditions: the bytes lie in memory as a list; their number is bounded.
-/
import Derived.Test.YtgcognefggbpjaaFrmW6
import Derived.Test.YtgcognefggbpjaaFrameBytesWalk
namespace Go.Proofs.Ytgcognefggbpjaa
open Go.RowKit Go.Sort Go.Lib
set_option linter.unusedVariables false
/-- What holds ahead of round q: nobody has written over the slices from q on. -/
structure FInv (b : List UInt8) (w0 : World) (s0 gi : Nat) (Ao : Option Addr) (K co : Nat) (ps : List Sl) (Ar : Option Addr) (cr q : Nat) (w : World) : Prop where
  own : OwnL w s0 Ao K co ps
  each : ∀ p ∈ ps.drop q, p.l.length = p.n ∧ Own w s0 p.A p.c p.l
  rest : Own w s0 Ar cr (FrmM.it b K)
  inn : Row w (some ⟨gi, 0, none⟩) (bs (b ++ [77]))
  bel : Below w0.heap.size w0 w
  size : s0 ≤ w.heap.size
section
variable {b : List UInt8} {w0 w w' : World} {s0 gi K co cr q : Nat} {Ao Ar : Option Addr} {ps : List Sl}
theorem FInv.below (h : FInv b w0 s0 gi Ao K co ps Ar cr q w) (hb : Below w.heap.size w w') : FInv b w0 s0 gi Ao K co ps Ar cr q w' :=
  ⟨h.own.below hb, fun p hp => ⟨(h.each p hp).1, (h.each p hp).2.below hb⟩, h.rest.below hb, h.inn.below hb, below_step h.bel hb (Nat.le_refl _), Nat.le_trans h.size hb.size⟩
theorem FInv.next (h : FInv b w0 s0 gi Ao K co ps Ar cr q w) : FInv b w0 s0 gi Ao K co ps Ar cr (q + 1) w :=
  ⟨h.own, fun p hp => h.each p (by rw [← List.drop_drop] at hp; exact List.mem_of_mem_drop hp), h.rest, h.inn, h.bel, h.size⟩
theorem OwnL.kept2 {n c : Nat} {A : Option Addr} {row : Option Nat} {base : Nat} (h : OwnL w base A n c ps) (hg : w.grownBy w' row) (hne : ∀ a, A = some a → row ≠ some a.block) : OwnL w' base A n c ps := by
  refine World.ownsRow.kept h hg ?_
  rcases h.2 with ⟨hv, hn⟩ | ⟨g', cap, cur, hv, hb, _⟩
  · left; injection hv with e; rw [e]; rfl
  · right; injection hv with e; rw [e]; simp only [Value.ownBlock]; intro q; exact hne _ e q.symm
theorem row_far {g g' : Nat} {l : List UInt8} (h : Row w (some ⟨g', 0, none⟩) (bs l)) (hg : w.grownBy w' (some g)) (hne : g' ≠ g) : Row w' (some ⟨g', 0, none⟩) (bs l) := by
  rcases h with h | ⟨b, o, e, hc⟩
  · exact .inl h
  · refine .inr ⟨b, o, e, fun j u hu => ?_⟩
    injection e with e
    injection e with e1 e2
    subst e1 e2
    exact hg.cell (hc j u hu) (by simpa using hne)
/-- A store into a slice that is looked at no more. -/
theorem FInv.store {g : Nat} (h : FInv b w0 s0 gi Ao K co ps Ar cr (q + 1) w) (hg : w.grownBy w' (some g)) (h1 : w0.heap.size ≤ g) (h2 : ∀ a, Ao = some a → a.block ≠ g) (h3 : ∀ a, Ar = some a → a.block ≠ g) (h4 : gi ≠ g)
    (h5 : ∀ p ∈ ps.drop (q + 1), ∀ a, p.A = some a → a.block ≠ g) : FInv b w0 s0 gi Ao K co ps Ar cr (q + 1) w' :=
  ⟨h.own.kept2 hg (fun a ha q => by injection q with q; exact h2 a ha q.symm), fun p hp => ⟨(h.each p hp).1, (h.each p hp).2.kept2 hg (fun a ha q => by injection q with q; exact h5 p hp a ha q.symm)⟩,
    h.rest.kept2 hg (fun a ha q => by injection q with q; exact h3 a ha q.symm), row_far h.inn hg h4, h.bel.grown hg h.bel.size (fun k hk => by injection hk with hk; omega), Nat.le_trans h.size hg.size⟩
theorem OwnL.cell {n c : Nat} {A : Option Addr} {base k : Nat} {p : Sl} (h : OwnL w base A n c ps) (hp : ps[k]? = some p) : ∃ g, A = some ⟨g, 0, none⟩ ∧ w.cell? ⟨g, k, none⟩ = some (.slice p.A p.n p.c) := by
  have hk : (ps.map Sl.val)[k]? = some (.slice p.A p.n p.c) := by simp [hp, Sl.val]
  rcases h.2 with ⟨hv, hn⟩ | ⟨g, cap, cur, hv, _⟩
  · have h1 := h.1
    rw [hn] at h1
    rw [List.eq_nil_of_length_eq_zero (l := ps.map Sl.val) (by simpa using h1)] at hk
    simp at hk
  · injection hv with e
    refine ⟨g, e, ?_⟩
    rcases Row.of_own h with h0 | ⟨b, o, e2, hc⟩
    · rw [h0] at hk; simp at hk
    · rw [e] at e2
      injection e2 with e2
      injection e2 with e3 e4
      subst e3 e4
      have := hc _ _ hk
      rwa [Nat.zero_add] at this
end
set_option maxRecDepth 100000 in
set_option maxHeartbeats 4000000 in
theorem frameSplits_walk (A : Option Addr) (c : Nat) (b : List UInt8) (w : World) (hr : Row w A (bs b)) (hcap : b.length ≤ c) (hmx : c ≤ 140737488351232) :
    Calls Try.prog 13 #[.slice A b.length c] w fun e w' => e = .returned (.bool true) ∧ Below w.heap.size w w' := by
  go_enter Try.func13, Try.ntmps13
  by_cases hbig : 100000 < b.length
  · go_wp2_with fail
    refine (known21_any w).mono ?_
    rintro e w1 ⟨rfl, hb⟩
    go_wp2
    go_ret
    exact ⟨rfl, hb⟩
  · go_wp2_with (at_builtin; refine wpl_app _ rfl (.tmp 21) (.tmp 22) rfl w.heap.size (some ⟨w.heap.size, 0, none⟩) 0 [] rfl (Own.made w #[] 0 (Nat.le_refl _) (by unfold maxLen; omega) rfl) A c b rfl (hr.alloc _) ?_ ?_ ?_)
    · simp; omega
    · simp
    intro A1 c1 w1 h1 hg1 _
    have hb1 : Below w.heap.size w w1 := ((Below.refl w.heap.size w).alloc (Nat.le_refl _) (.cells #[] 5)).grown hg1 (by simp) (by intro k hk; simp [Value.ownBlock] at hk; omega)
    have hs1 := hb1.size
    go_wp2_with (at_builtin; refine wpl_app _ rfl (.tmp 23) (.tmp 24) rfl w.heap.size A1 c1 b rfl (h1.alloc _) (some ⟨w1.heap.size, 0, none⟩) 1 [77] rfl (row_lit w1 [77] _ _ _ rfl) ?_ ?_ ?_)
    · simp; omega
    · simp; omega
    intro A2 c2 w2 h2 hg2 _
    obtain ⟨gi, rfl, hge, hgl⟩ := h2.some_ (by simp)
    have hle := h2.le
    simp only [List.length_append, List.length_cons, List.length_nil] at hle
    have hb2 : Below w.heap.size w w2 := (h1.alloc (.cells #[.int .u8 77] 5)).grown_below rfl hg2 (hb1.alloc hs1 _) (Nat.le_refl _) (by simp; omega)
    have hlen : ((b.length : Nat) : Int) ≤ c2 := by omega
    have RI := Lib.hid h2.row
    have HB2 := Lib.hid hb2
    have HR := Lib.hid hr
    have hri := (in_row h2.row).1
    have hsp := split_any (some ⟨gi, 0, none⟩) b.length c2 b w2 rfl (by omega) (by omega) hri
    have HSP := Lib.hid hsp
    unfold maxLen at hle
    clear h1 h2 hg1 hg2 hb1 hs1 hr hb2 hsp hri
    go_wp2_with fail
    refine HSP.out.mono ?_
    rintro e w3 ⟨Ao, K, co, ps, Ar, nr, cr, rfl, hP⟩
    obtain ⟨er, her⟩ : ∃ er : Int, (if (FrmM.sz (FrmM.it b K)).2 = 3 then 3 else 0) = er := ⟨_, rfl⟩
    rw [her]
    have HER := Lib.hid her
    clear her
    have F0 : Hid (FInv b w w2.heap.size gi Ao K co ps Ar cr 0 w3) := Lib.hid ⟨hP.lst.own, hP.lst.each, hP.rest, RI.out.below hP.bel, below_step HB2.out hP.bel (Nat.le_refl _), hP.bel.size⟩
    have HPL := Lib.hid hP.lst.own.len
    have HPC := Lib.hid hP.pcs
    have HOK := Lib.hid hP.ok
    have HST := Lib.hid hP.stop
    have HRL := Lib.hid hP.rl
    have HAP := Lib.hid hP.lst.apart
    have HOU := Lib.hid hP.lst.out
    have HFAR := Lib.hid hP.far
    have hK := FrmM.it_len K hP.ok
    rw [hP.rl] at hK
    obtain ⟨s0, hs0⟩ : ∃ s, w2.heap.size = s := ⟨_, rfl⟩
    rw [hs0] at F0 hgl
    have hs0w : w.heap.size ≤ s0 := by have := HB2.out.size; omega
    clear hP HSP RI HB2 hs0
    go_wp2
    go_loopw [7, 8, 9, 10, 11, 12] (fun wv i _ _ _ _ wr => ∃ (q : Nat) (Ab : Option Addr) (nb cb : Nat), wv = .slice Ab nb cb ∧ i = .int .i64 q ∧ q ≤ K ∧ (FrmM.it b q).length = nb ∧ nb ≤ cb ∧ (∀ W, Row W A (bs b) → Row W Ab (bs (FrmM.it b q))) ∧ FInv b w s0 gi Ao K co ps Ar cr q wr) (fun _ i _ _ _ _ _ => K - (RowKit.intOf i).toNat)
    case atStart => exact ⟨0, A, b.length, c, rfl, rfl, by omega, rfl, hcap, fun W h => h, F0.out⟩
    case round =>
      obtain ⟨q, Ab, nb, cb, rfl, rfl, hq, hbl, hbc, hrow, hI⟩ := hrel
      have HROW := Lib.hid hrow
      have HI := Lib.hid hI
      have HBL := Lib.hid hbl
      have hlq := FrmM.it_len q (fun j hj => HOK.out j (by omega))
      rw [hbl] at hlq
      have HRB := Lib.hid ((hrow w HR.out).below hI.bel)
      clear hrow hI hbl
      by_cases hlt : q < K
      · obtain ⟨p, hp⟩ : ∃ p, ps[q]? = some p := ⟨_, List.getElem?_eq_getElem (by have := HPL.out; omega)⟩
        have hpd : p ∈ ps.drop q := List.mem_of_getElem? (i := 0) (by rw [List.getElem?_drop]; exact hp)
        have hpm := List.mem_of_getElem? hp
        have hz := HOK.out q hlt
        have hzo := FrmM.sz_ok hz
        have hpl := HPC.out q p hp
        obtain ⟨hpn, hown⟩ := HI.out.each p hpd
        have hnx := refnext_ok Ab nb cb (FrmM.it b q) wr HBL.out hbc (by omega) HRB.out hz
        obtain ⟨z, hze⟩ : ∃ z, (FrmM.sz (FrmM.it b q)).1 = z := ⟨_, rfl⟩
        have hpcl := FrmM.pc_len hz
        rw [hze] at hnx hzo hpcl
        have HNX := Lib.hid hnx
        have HPE : Hid (((FrmM.it b q).drop 4).take z = FrmM.pc b q) := Lib.hid (by unfold FrmM.pc; rw [hze])
        have HIT : Hid ((FrmM.it b q).drop (4 + z) = FrmM.it b (q + 1)) := Lib.hid (by show _ = (FrmM.it b q).drop (4 + (FrmM.sz (FrmM.it b q)).1); rw [hze])
        have HP := Lib.hid hp
        have HPN := Lib.hid hpn
        have HOW := Lib.hid hown
        have HPL2 := Lib.hid hpl
        have HPCL := Lib.hid hpcl
        have HSEP : Hid (∀ p' ∈ ps.drop (q + 1), ∀ a a', p.A = some a → p'.A = some a' → a.block < a'.block) := Lib.hid (by
          have h1 := HAP.out
          rw [← List.take_append_drop q ps, List.pairwise_append] at h1
          have h2 := h1.2.1
          obtain ⟨hk5, he⟩ := List.getElem?_eq_some_iff.1 hp
          rw [← List.getElem_cons_drop hk5, List.pairwise_cons, he] at h2
          exact h2.1)
        have HO1 : Hid (∀ a a', p.A = some a → Ao = some a' → a.block ≠ a'.block) := Lib.hid (HOU.out p hpm)
        have HO2 : Hid (∀ a a', p.A = some a → Ar = some a' → a.block ≠ a'.block) := Lib.hid (fun a a' ha ha' => (HFAR.out a' ha').1 p hpm a ha)
        rw [HBL.out] at hzo
        obtain ⟨PA, pn, pc, pl⟩ := p
        dsimp only at *
        have hpb : pn ≤ 100000 := by have h1 := HPN.out; have h2 := HPCL.out; rw [HPL2.out] at h1; omega
        clear hnx hze hp hpn hown hpl hpcl hz hpd hpm
        go_wp2_with fail
        refine HNX.out.mono ?_
        rintro e w4 ⟨A4, c4, A5, c5, rfl, hc5, hrr, b4⟩
        have HI4 := Lib.hid (HI.out.below b4)
        obtain ⟨go, rfl, hco⟩ := HI4.out.own.cell HP.out
        have hr1 : Row w4 A4 (bs (FrmM.pc b q)) := by
          have := (hrr w4 (HRB.out.below b4)).1
          rw [HPE.out] at this; exact this
        have how4 := HOW.out.below b4
        have hdn : Hid (∀ n, Below w4.heap.size w4 (w4.drewN n)) := Lib.hid fun n => ⟨rfl, rfl, rfl, Nat.le_refl _, fun _ _ => rfl⟩
        have s1 := fun n => str_len (w4.drewN n) A4 z c4 _ HPCL.out (hr1.below (hdn.out n))
        have s2 := fun n => str_len (w4.drewN n) PA pn pc (FrmM.pc b q) (by rw [← HPL2.out]; exact HPN.out) (by rw [← HPL2.out]; exact how4.row.below (hdn.out n))
        have HRR : Hid (∀ W, Row W A (bs b) → Row W A5 (bs (FrmM.it b (q + 1)))) := Lib.hid (fun W hW => by
          have := (hrr W (HROW.out W hW)).2
          rw [HIT.out] at this; exact this)
        have HOW4 := Lib.hid how4
        have HI5 := Lib.hid HI4.out.next
        have HNL : Hid ((FrmM.it b (q + 1)).length = nb - (4 + z)) := Lib.hid (by rw [← HIT.out, List.length_drop, HBL.out])
        have hcd := hco
        clear how4 hr1 hrr b4 HI HI4 hco HNX HROW HRB HOW HPE HIT
        go_wp2_with fail
        go_quiet (fail)
        have HOW6 := Lib.hid (HOW4.out.below (hdn.out nq))
        have HI6 := Lib.hid (HI5.out.below (hdn.out nq))
        clear hdn s1 s2 hcd HOW4 HI5
        go_wp2
        go_loopw [12] (fun i wr => ∃ (j : Nat) (X : List UInt8), i = .int .i64 j ∧ j ≤ pn ∧ X.length = pn ∧ Own wr s0 PA pc X ∧ FInv b w s0 gi (some ⟨go, 0, none⟩) K co ps Ar cr (q + 1) wr) (fun i _ => pn - (RowKit.intOf i).toNat)
        case atStart => exact ⟨0, pl, rfl, by omega, HPN.out, HOW6.out, HI6.out⟩
        case round =>
          obtain ⟨j, X, rfl, hj, hX, hO, hJ⟩ := hrel
          obtain ⟨go', e, hc1⟩ := hJ.own.cell HP.out
          cases e
          by_cases hlt2 : j < pn
          · obtain ⟨u, hu⟩ : ∃ u, X[j]? = some u := ⟨_, List.getElem?_eq_getElem (by omega)⟩
            obtain ⟨pg, rfl, hpg, hpgl⟩ := hO.some_ (by intro q; rw [q] at hu; simp at hu)
            have fx := hO.cell hu
            have fz := hO.frozen j
            have xx := add_u8 u
            obtain ⟨v, hv⟩ : ∃ v, u + 1 = v := ⟨_, rfl⟩
            rw [hv] at xx
            have HX := Lib.hid hX
            have HO := Lib.hid hO
            have HJ := Lib.hid hJ
            clear hX hu hO hJ hv
            go_wp2
            go_roundw
            case rel =>
              have gg := grownBy_setCell wr pg j (.int .u8 (v.toNat : Int))
              refine ⟨j + 1, X.set j v, by go_num, by omega, by rw [List.length_set]; exact HX.out, HO.out.set_ j v, HJ.out.store gg (by omega) ?_ ?_ (by omega) ?_⟩
              · intro a ha e
                exact HO1.out ⟨pg, 0, none⟩ a rfl ha e.symm
              · intro a ha e
                exact HO2.out ⟨pg, 0, none⟩ a rfl ha e.symm
              · intro p' hp' a ha e
                have := HSEP.out p' hp' ⟨pg, 0, none⟩ a rfl ha
                rw [e] at this
                exact absurd this (Nat.lt_irrefl _)
            case measure => simp [RowKit.intOf]; omega
          · obtain rfl : j = pn := by omega
            go_wp2
            go_roundw
            case rel => exact ⟨q + 1, A5, nb - (4 + z), c5, rfl, by go_num, by omega, HNL.out, hc5.out, HRR.out, hJ⟩
            case measure => simp [RowKit.intOf]; omega
      · obtain rfl : q = K := by omega
        have hno := refnext_no Ab nb cb (FrmM.it b q) wr HBL.out hbc (by omega) HRB.out HST.out
        obtain ⟨z2, hz2⟩ : ∃ z, (FrmM.sz (FrmM.it b q)).2 = z := ⟨_, rfl⟩
        have hzc := FrmM.sz_cases (FrmM.it b q)
        have hst := HST.out
        have her := HER.out
        rw [hz2] at hno hzc hst her
        have HNO := Lib.hid hno
        have hnr : nr = nb := by rw [← HRL.out, HBL.out]
        subst hnr
        have HFR2 := Lib.hid HFAR.out
        clear hno hz2 HER HST
        go_wp2_with fail
        refine HNO.out.mono ?_
        rintro e w4 ⟨rfl, b4⟩
        have HI4 := Lib.hid (HI.out.below b4)
        have s1 := str_len w4 Ar nr cr _ HRL.out HI4.out.rest.row
        have s2 := str_len w4 Ab nr cb _ HBL.out (HRB.out.below b4)
        clear HNO b4 HRB HI HROW
        have hz37 : (z2 = 7 ∧ er = 0) ∨ (z2 = 3 ∧ er = 3) := by
          rcases hzc with h | h | h
          · left; subst h; exact ⟨rfl, by rw [← her]; rfl⟩
          · right; subst h; exact ⟨rfl, by rw [← her]; rfl⟩
          · exact absurd h.1 hst
        clear hzc hst her
        rcases hz37 with ⟨rfl, rfl⟩ | ⟨rfl, rfl⟩
        · go_wp2
          clear s1 s2
          go_loopw [16] (fun i wr => ∃ (j : Nat) (X : List UInt8), i = .int .i64 j ∧ j ≤ nr ∧ X.length = nr ∧ Own wr s0 Ar cr X ∧ Row wr (some ⟨gi, 0, none⟩) (bs (b ++ [77])) ∧ Below w.heap.size w wr) (fun i _ => nr - (RowKit.intOf i).toNat)
          case atStart => exact ⟨0, _, rfl, by omega, HRL.out, HI4.out.rest, HI4.out.inn, HI4.out.bel⟩
          case round =>
            obtain ⟨j, X, rfl, hj, hX, hO, hN, hB⟩ := hrel
            by_cases hlt2 : j < nr
            · obtain ⟨u, hu⟩ : ∃ u, X[j]? = some u := ⟨_, List.getElem?_eq_getElem (by omega)⟩
              obtain ⟨pg, rfl, hpg, hpgl⟩ := hO.some_ (by intro q; rw [q] at hu; simp at hu)
              have fx := hO.cell hu
              have fz := hO.frozen j
              have xx := add_u8 u
              obtain ⟨v, hv⟩ : ∃ v, u + 1 = v := ⟨_, rfl⟩
              rw [hv] at xx
              have HX := Lib.hid hX
              have HO := Lib.hid hO
              have HN := Lib.hid hN
              have HB := Lib.hid hB
              clear hX hu hO hN hB hv
              go_wp2
              go_roundw
              case rel =>
                have gg := grownBy_setCell wr pg j (.int .u8 (v.toNat : Int))
                exact ⟨j + 1, X.set j v, by go_num, by omega, by rw [List.length_set]; exact HX.out, HO.out.set_ j v, row_far HN.out gg (by omega), HB.out.grown gg HB.out.size (fun q hq => by injection hq with hq; omega)⟩
              case measure => simp [RowKit.intOf]; omega
            · obtain rfl : j = nr := by omega
              have hI := in_row hN
              have s1 := run_str wr c (HR.out.below hB)
              have s2 := run_str wr c2 hI.1
              have h77 := hI.2
              have HQ := Lib.hid hB
              clear hI hB hO hN
              go_wp2_with fail
              refine (known21_any wr).mono ?_
              rintro e v ⟨rfl, hv⟩
              go_wp2
              go_ret
              exact ⟨rfl, below_step HQ.out hv (Nat.le_refl _)⟩
        · go_wp2
          clear s1 s2
          go_loopw [16] (fun i wr => ∃ (j : Nat) (X : List UInt8), i = .int .i64 j ∧ j ≤ nr ∧ X.length = nr ∧ Own wr s0 Ar cr X ∧ Row wr (some ⟨gi, 0, none⟩) (bs (b ++ [77])) ∧ Below w.heap.size w wr) (fun i _ => nr - (RowKit.intOf i).toNat)
          case atStart => exact ⟨0, _, rfl, by omega, HRL.out, HI4.out.rest, HI4.out.inn, HI4.out.bel⟩
          case round =>
            obtain ⟨j, X, rfl, hj, hX, hO, hN, hB⟩ := hrel
            by_cases hlt2 : j < nr
            · obtain ⟨u, hu⟩ : ∃ u, X[j]? = some u := ⟨_, List.getElem?_eq_getElem (by omega)⟩
              obtain ⟨pg, rfl, hpg, hpgl⟩ := hO.some_ (by intro q; rw [q] at hu; simp at hu)
              have fx := hO.cell hu
              have fz := hO.frozen j
              have xx := add_u8 u
              obtain ⟨v, hv⟩ : ∃ v, u + 1 = v := ⟨_, rfl⟩
              rw [hv] at xx
              have HX := Lib.hid hX
              have HO := Lib.hid hO
              have HN := Lib.hid hN
              have HB := Lib.hid hB
              clear hX hu hO hN hB hv
              go_wp2
              go_roundw
              case rel =>
                have gg := grownBy_setCell wr pg j (.int .u8 (v.toNat : Int))
                exact ⟨j + 1, X.set j v, by go_num, by omega, by rw [List.length_set]; exact HX.out, HO.out.set_ j v, row_far HN.out gg (by omega), HB.out.grown gg HB.out.size (fun q hq => by injection hq with hq; omega)⟩
              case measure => simp [RowKit.intOf]; omega
            · obtain rfl : j = nr := by omega
              have hI := in_row hN
              have s1 := run_str wr c (HR.out.below hB)
              have s2 := run_str wr c2 hI.1
              have h77 := hI.2
              have HQ := Lib.hid hB
              clear hI hB hO hN
              go_wp2_with fail
              refine (known21_any wr).mono ?_
              rintro e v ⟨rfl, hv⟩
              go_wp2
              go_ret
              exact ⟨rfl, below_step HQ.out hv (Nat.le_refl _)⟩
end Go.Proofs.Ytgcognefggbpjaa
