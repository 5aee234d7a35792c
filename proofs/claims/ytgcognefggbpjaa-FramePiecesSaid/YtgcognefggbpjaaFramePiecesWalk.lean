/-
  The walk of FramePieces: it returns true and changes nothing that was there.
  Conditions: the slices lie in memory as a list, the bytes of each too; their number is bounded.
-/
import Derived.Test.YtgcognefggbpjaaFrmQ2
import Derived.BigQuiet
namespace Go.Proofs.Ytgcognefggbpjaa
open Go.RowKit Go.Sort Go.Lib
set_option linter.unusedVariables false
theorem row_zs {w : World} {A : Option Addr} {zs : List Int} (h : Row w A (zs.map (Value.int .i64))) {k : Nat} {z : Int} (hz : zs[k]? = some z) : ∃ b o, A = some ⟨b, o, none⟩ ∧ w.cell? ⟨b, o + k, none⟩ = some (.int .i64 z) := by
  have g : (zs.map (Value.int .i64))[k]? = some (.int .i64 z) := by rw [List.getElem?_map, hz]; rfl
  rcases h with h | ⟨b, o, e, hc⟩
  · rw [h] at g; simp at g
  · exact ⟨b, o, e, hc _ _ g⟩
/-- What holds of the stream while all is fed: q frames are out, b is in it, rest is not fed yet. -/
structure QInv (ps : List (List UInt8)) (w0 : World) (q : Nat) (A : Option Addr) (b rest : List UInt8) (w' : World) : Prop where
  st : StrAt w' w0.heap.size A b 0
  al : ∀ a, A = some a → a.block < w'.heap.size
  e : FrmM.cat (ps.drop q) = b ++ rest
  hq : q ≤ ps.length
  bel : Below w0.heap.size w0 w'
theorem QInv.below {ps : List (List UInt8)} {w0 w' w2 : World} {q : Nat} {A : Option Addr} {b rest : List UInt8} (h : QInv ps w0 q A b rest w') (hb : Below w'.heap.size w' w2) : QInv ps w0 q A b rest w2 :=
  ⟨h.st.below hb, fun a ha => Nat.lt_of_lt_of_le (h.al a ha) hb.size, h.e, h.hq, below_step h.bel hb (Nat.le_refl _)⟩
set_option maxRecDepth 100000 in
set_option maxHeartbeats 4000000 in
theorem framePieces_walk (A0 : Option Addr) (c0 : Nat) (l : List Slv) (Ac : Option Addr) (cc : Nat) (zs : List Int) (w : World) (hr : Row w A0 (l.flatMap Slv.cells)) (hat : ∀ s ∈ l, s.At w) (hm : l.length ≤ maxLen)
    (hr2 : Row w Ac (zs.map (Value.int .i64))) (hz2 : zs.length ≤ cc) (hzm : zs.length ≤ 9223372036854775807) (hwz : ∀ z ∈ zs, (Lit.int .i64 z).wf = true) :
    Calls Try.prog 14 #[.slice A0 l.length c0, .slice Ac zs.length cc] w fun e w' => e = .returned (.bool true) ∧ Below w.heap.size w w' := by
  unfold maxLen at hm
  have HR := Lib.hid hr
  have HAT := Lib.hid hat
  have HR2 := Lib.hid hr2
  have HWZ := Lib.hid hwz
  clear hr hat hr2 hwz
  go_enter Try.func14, Try.ntmps14
  by_cases hbig : 40 < l.length
  · go_wp2_with fail
    refine (known21_any w).mono ?_
    rintro e w1 ⟨rfl, hb⟩
    go_wp2
    go_ret
    exact ⟨rfl, hb⟩
  · go_wp2
    go_loopw [5, 6, 7, 8] (fun av i _ _ wr => ∃ (q : Nat) (Aa : Option Addr) (na ca : Nat), av = .slice Aa na ca ∧ i = .int .i64 q ∧ q ≤ l.length ∧ (FrmM.cat ((Slv.all l).take q)).length = na ∧ na ≤ q * 2004 ∧ Own wr w.heap.size Aa ca (FrmM.cat ((Slv.all l).take q)) ∧ (∀ j s, j < q → l[j]? = some s → s.b.length ≤ 2000) ∧ Below w.heap.size w wr) (fun _ i _ _ _ => l.length - (RowKit.intOf i).toNat)
    case atStart => exact ⟨0, none, 0, 0, rfl, rfl, by omega, rfl, by omega, Own.nil_ _ _, fun j s hj => absurd hj (by omega), Below.refl _ _⟩
    case round =>
      obtain ⟨q, Aa, na, ca, rfl, rfl, hq, hal, hab, hO, hall, hbel⟩ := hrel
      obtain ⟨W, hWe⟩ : ∃ W, W = wr := ⟨_, rfl⟩
      subst hWe
      have HAL := Lib.hid hal
      have HO := Lib.hid hO
      have HALL := Lib.hid hall
      have HB := Lib.hid hbel
      by_cases hlt : q < l.length
      · obtain ⟨p, hp⟩ : ∃ p, l[q]? = some p := ⟨_, List.getElem?_eq_getElem hlt⟩
        have hpa := HAT.out p (List.mem_of_getElem? hp)
        obtain ⟨b0, o0, rfl, e0⟩ := row_slv HR.out hp
        have ec0 := cell_below HB.out e0
        have HP := Lib.hid (hpa.row.below HB.out)
        have HTS := Lib.hid (Slv.take_succ hp)
        obtain ⟨km, hkm⟩ : ∃ k, p.b.length = k := ⟨_, rfl⟩
        have hpl := hpa.le
        have hpm := hpa.mx
        unfold maxLen at hpm
        have HKM := Lib.hid hkm
        have HPP := Lib.hid hp
        rw [hkm] at e0 ec0 hpl
        have hsz0 := hbel.size
        clear hp hpa hkm hal hO hall hbel
        obtain ⟨pA, pc, pb⟩ := p
        dsimp only at *
        by_cases hbg : 2000 < km
        · go_wp2_with fail
          refine (known21_any W).mono ?_
          rintro e w1 ⟨rfl, hb⟩
          go_wp2
          go_ret
          exact ⟨rfl, below_step HB.out hb (Nat.le_refl _)⟩
        · go_wp2_with fail
          refine (framebytes_len pA km pc pb W HKM.out HP.out (by omega)).mono ?_
          rintro e w2 ⟨Af, nf, cf, rfl, hnf, of, bf⟩
          have hnf2 : nf ≤ km + 4 := by have h1 := hnf.out; rw [FrmM.form_length, HKM.out] at h1; omega
          have O2 := HO.out.below bf
          have B2 := below_step HB.out bf (Nat.le_refl _)
          have hs2 := bf.size
          have HF := Lib.hid of.row
          have HB2 := Lib.hid B2
          clear of bf B2
          go_wp2_with (at_builtin; refine wpl_app' _ rfl (.tmp 45) (.tmp 46) rfl w.heap.size Aa ca (FrmM.cat ((Slv.all l).take q)) na rfl HAL.out O2 Af cf (FrmM.form pb) nf rfl hnf.out HF.out ?_ ?_ ?_)
          · omega
          · omega
          intro A3 c3 w3 h3 hg3 _
          have B3 := Lib.hid (O2.grown_below (by rw [HAL.out]) hg3 HB2.out (Nat.le_refl _) (by omega))
          have O3 := Lib.hid h3
          clear h3 hg3 O2
          go_wp2
          go_roundw
          case rel =>
            refine ⟨q + 1, A3, na + nf, c3, rfl, by go_num, by omega, ?_, by omega, ?_, fun j s hj hs => ?_, B3.out⟩
            · rw [HTS.out, List.length_append, HAL.out, hnf.out]
            · rw [HTS.out]; exact O3.out
            · by_cases hjq : j = q
              · subst hjq
                rw [HPP.out] at hs
                injection hs with hs
                subst hs
                show pb.length ≤ 2000
                rw [HKM.out]; omega
              · exact HALL.out j s (by omega) hs
          case measure => simp [RowKit.intOf]; omega
      · obtain rfl : q = l.length := by omega
        have hps : ∀ p ∈ Slv.all l, p.length ≤ 2000 := by
          intro p hp
          obtain ⟨s, hs, rfl⟩ := List.mem_map.1 hp
          obtain ⟨j, hj, e⟩ := List.getElem_of_mem hs
          exact HALL.out j s hj (by rw [List.getElem?_eq_getElem hj, e])
        have HPS := Lib.hid hps
        have hps2 : Hid (∀ p ∈ Slv.all l, p.length ≤ 20000) := Lib.hid fun p hp => Nat.le_trans (hps p hp) (by omega)
        have htk : (Slv.all l).take l.length = Slv.all l := List.take_of_length_le (by rw [Slv.all_len]; exact Nat.le_refl _)
        rw [htk] at HAL HO
        have hle := HO.out.le
        rw [HAL.out] at hle
        have HSP := Lib.hid (split_any Aa na ca (FrmM.cat (Slv.all l)) W HAL.out hle.1 (by omega) HO.out.row)
        have HROW := Lib.hid HO.out.row
        clear hal hO hall hbel hps HALL htk hlt
        go_wp2_with fail
        refine HSP.out.mono ?_
        rintro e w3 ⟨Ao, K, co, ps, Ar, nr, cr, rfl, hP⟩
        obtain ⟨hK, hz7, hnil⟩ := FrmM.cat_count hps2.out hP.ok hP.stop
        rw [Slv.all_len] at hK
        have hrl := hP.rl
        rw [hnil] at hrl
        obtain rfl : nr = 0 := hrl.symm
        rw [hz7]
        have hL := hP.lst.own.len
        have hpc : ∀ (j : Nat) (p : Sl), ps[j]? = some p → ∀ s : Slv, l[j]? = some s → p.l = s.b := fun j p hp s hs => by
          rw [hP.pcs j p hp]
          exact (FrmM.sz_cat hps2.out (Slv.all_get hs)).2
        have HPC := Lib.hid hpc
        have HL := Lib.hid hP.lst
        have B3 := Lib.hid (below_step HB.out hP.bel (Nat.le_refl _))
        have BW := Lib.hid hP.bel
        clear hP hz7 hnil HSP hrl hpc
        subst hK
        go_wp2_with fail
        refine (new_any w3).mono ?_
        rintro e w4 ⟨rfl, hs4, b4, hz4⟩
        have hlA : l.length ≤ 40 := by omega
        have Q0 : Hid (QInv (Slv.all l) w3 0 none [] (FrmM.cat (Slv.all l)) w4) := Lib.hid ⟨hs4, fun a ha => (by cases ha), rfl, Nat.zero_le _, b4⟩
        have CL : Hid (∀ q A b rest w', QInv (Slv.all l) w3 q A b rest w' → b.length + rest.length ≤ 90000) := Lib.hid (by
          intro q A b rest w' h
          have h1 := FrmM.cat_len ((Slv.all l).drop q) (fun p hp => HPS.out p (List.mem_of_mem_drop hp))
          rw [h.e, List.length_append, List.length_drop, Slv.all_len] at h1
          omega)
        have ROWV := Lib.hid (HROW.out.below BW.out)
        have hle1 := hle.1
        clear hs4 b4 hz4 HPS
        go_wp2
        go_loopw [5, 13, 14, 15, 16, 17] (fun av n i _ _ _ wr => ∃ (q k : Nat) (Ar : Option Addr) (nr cr : Nat) (rest : List UInt8) (A : Option Addr) (b : List UInt8), av = .slice Ar nr cr ∧ n = .int .i64 q ∧ i = .int .i64 k ∧ rest.length = nr ∧ nr ≤ cr ∧ (∀ W', Row W' Aa (bs (FrmM.cat (Slv.all l))) → Row W' Ar (bs rest)) ∧ k + nr ≤ na ∧ (FrmM.sz b).2 = 7 ∧ QInv (Slv.all l) w3 q A b rest wr) (fun av _ _ _ _ _ _ => match av with | .slice _ nr _ => nr | _ => 0)
        case atStart => exact ⟨0, 0, Aa, na, ca, _, none, [], rfl, rfl, rfl, HAL.out, hle1, fun W' h => h, by omega, rfl, Q0.out⟩
        case round =>
          obtain ⟨q, k, Ar, nr, cr, rest, A, b, rfl, rfl, rfl, hrl, hnc, hrow, hkn, hz7, hI⟩ := hrel
          obtain ⟨V, hVe⟩ : ∃ V, V = wr := ⟨_, rfl⟩
          subst hVe
          have hbl := CL.out _ _ _ _ _ hI
          rw [hrl] at hbl
          have HRL := Lib.hid hrl
          have HROW2 := Lib.hid hrow
          have HI := Lib.hid hI
          clear hrl hrow hI
          by_cases hnr : 0 < nr
          · have HRV := Lib.hid (HROW2.out V (ROWV.out.below HI.out.bel))
            by_cases hkz : k < zs.length
            · obtain ⟨z, hz⟩ : ∃ z, zs[k]? = some z := ⟨_, List.getElem?_eq_getElem hkz⟩
              have hzw := HWZ.out z (List.mem_of_getElem? hz)
              have hzb : -9223372036854775808 ≤ z ∧ z ≤ 9223372036854775807 := by simpa [Lit.wf, IntKind.min, IntKind.max, IntKind.signed, IntKind.bits] using hzw
              obtain ⟨b1, o1, rfl, cz⟩ := row_zs HR2.out hz
              have cz1 := cell_below (below_step B3.out HI.out.bel (Nat.le_refl _)) cz
              obtain ⟨x, hx⟩ : ∃ x : Nat, IntKind.u64.wrap z = (x : Int) := ⟨(IntKind.u64.wrap z).toNat, by rw [IntKind.wrap_u64]; omega⟩
              obtain ⟨y, hy⟩ : ∃ y, x % nr = y := ⟨_, rfl⟩
              have hyl : y < nr := by rw [← hy]; exact Nat.mod_lt _ hnr
              have hwn : IntKind.u64.wrap (nr : Int) = (nr : Int) := by rw [IntKind.wrap_u64]; omega
              have htm : Int.tmod (x : Int) (nr : Int) = (y : Int) := by rw [← hy]; rfl
              obtain ⟨cut, hcut⟩ : ∃ c : Nat, (1 : Int) + (y : Int) = (c : Int) := ⟨1 + y, by omega⟩
              have hc1 : 1 ≤ cut := by omega
              have hc2 : cut ≤ nr := by omega
              clear hy hz hzw cz hzb
              --ROUND
              obtain ⟨gb, o, rfl, _⟩ := HRV.out.byte (k := 0) (by rw [HRL.out]; omega)
              have hfd := feed_ok2 w3.heap.size A (some ⟨gb, o, none⟩) cut cr b (rest.take cut) V HI.out.st (by rw [List.length_take, HRL.out]; omega) (by rw [bs_take]; exact HRV.out.take cut) (by omega) HI.out.al
              have HFD := Lib.hid hfd
              have HCUT : Hid (∀ W', Row W' Aa (bs (FrmM.cat (Slv.all l))) → (cr = cut → Row W' (some ⟨gb, o, none⟩) (bs (rest.drop cut))) ∧ (¬ cr = cut → Row W' (some ⟨gb, o + cut, none⟩) (bs (rest.drop cut)))) := Lib.hid (by
                intro W' hW
                have h1 := HROW2.out W' hW
                have hcb : (bs rest).length ≤ cr := by rw [bs_length, HRL.out]; exact hnc
                rw [bs_drop]
                refine ⟨fun q => ?_, fun q => ?_⟩
                · exact h1.cutAt (k := cut) (cap := cr) hcb (fun q' => absurd q q')
                · exact h1.cutAt (k := cut) (cap := cr) hcb (fun _ => by simp [Addr.add_lit]))
              clear hfd HROW2 HRV
              go_wp2_with fail
              refine HFD.out.mono ?_
              rintro e w5 ⟨A', rfl, hs5, hch5, ha5⟩
              have e0 : ((FrmM.err false : Nat) : Int) = 0 := rfl
              rw [e0]
              have Q5 : Hid (QInv (Slv.all l) w3 q A' (b ++ rest.take cut) (rest.drop cut) w5) := Lib.hid ⟨hs5, fun a ha => (ha5 a ha).2, (by rw [List.append_assoc, List.take_append_drop]; exact HI.out.e), HI.out.hq, hch5.below HI.out.bel HI.out.bel.size (fun i hi => HI.out.st.ge hi)⟩
              clear hs5 hch5 ha5 e0 HFD HI
              by_cases hcc : cr = cut
              · have HDR : Hid (∀ W', Row W' Aa (bs (FrmM.cat (Slv.all l))) → Row W' (some ⟨gb, o, none⟩) (bs (rest.drop cut))) := Lib.hid fun W' h => (HCUT.out W' h).1 hcc
                clear HCUT
                go_wp2
                go_loopw [13, 16, 17] (fun n _ _ wr => ∃ (q : Nat) (A : Option Addr) (b : List UInt8), n = .int .i64 q ∧ QInv (Slv.all l) w3 q A b (rest.drop cut) wr) (fun n _ _ _ => l.length + 1 - (RowKit.intOf n).toNat)
                case atStart => exact ⟨q, A', _, rfl, Q5.out⟩
                case round =>
                  obtain ⟨q2, A2, b2, rfl, hJ⟩ := hrel
                  obtain ⟨V2, hVe⟩ : ∃ V, V = wr := ⟨_, rfl⟩
                  subst hVe
                  have hbl2 := CL.out _ _ _ _ _ hJ
                  have hql2 := hJ.hq
                  rw [Slv.all_len] at hql2
                  have HJ := Lib.hid hJ
                  rcases FrmM.cat_step hps2.out hJ.hq hJ.e with h7 | ⟨p, hp, hsz, hpc, he2⟩
                  · have hnx := next_none w3.heap.size A2 b2 V2 hJ.st (by omega) h7
                    have HNX := Lib.hid hnx
                    have H7 := Lib.hid h7
                    clear hJ hnx h7
                    go_wp2_with fail
                    refine HNX.out.mono ?_
                    rintro e w6 ⟨rfl, hb6⟩
                    have HJ6 := Lib.hid (HJ.out.below hb6)
                    clear hb6 HNX
                    go_wp2
                    go_roundw
                    case rel => exact ⟨q2, k + 1, _, _, _, rest.drop cut, A2, b2, rfl, rfl, by go_num, by have h := List.length_drop (i := cut) (l := rest); rw [HRL.out] at h; omega, by omega, HDR.out, by omega, H7.out, HJ6.out⟩
                    case measure => first | (simp; omega) | (simp; done)
                  · have hq3 : q2 < l.length := by have := (List.getElem?_eq_some_iff.1 hp).1; rw [Slv.all_len] at this; exact this
                    obtain ⟨sv, hs⟩ : ∃ s, l[q2]? = some s := ⟨_, List.getElem?_eq_getElem hq3⟩
                    obtain ⟨pp, hpp⟩ : ∃ p, ps[q2]? = some p := ⟨_, List.getElem?_eq_getElem (by omega)⟩
                    obtain rfl : sv.b = p := by have h1 := Slv.all_get hs; rw [h1] at hp; injection hp
                    have hnx := next_ok w3.heap.size A2 b2 V2 hJ.st (by omega) (by rw [hsz])
                    rw [hsz] at hnx
                    dsimp only at hnx
                    rw [hpc] at hnx
                    have HNX := Lib.hid hnx
                    have HE2 := Lib.hid he2
                    have hpl := HPC.out q2 pp hpp sv hs
                    obtain ⟨hpn, hpo⟩ := HL.out.each pp (List.mem_of_getElem? hpp)
                    obtain ⟨bl, ol, rfl, ecl⟩ := row_slv HR.out hs
                    obtain ⟨go, rfl, ecm⟩ := HL.out.own.cell hpp
                    have hsa := Lib.hid (HAT.out sv (List.mem_of_getElem? hs)).row
                    have HPO := Lib.hid hpo
                    have HECL := Lib.hid ecl
                    have HECM := Lib.hid ecm
                    rw [hpl] at hpn
                    have HPN := Lib.hid hpn
                    rw [hpl] at HPO
                    clear hJ hnx he2 hsz hpc hp hs hpp hpl hpn hpo ecl ecm
                    go_wp2_with fail
                    refine HNX.out.mono ?_
                    rintro e w6 ⟨A6, B6, n6, c6, rfl, hn6, o6, s6, ch6, ha6⟩
                    have hq4 : q2 + 1 ≤ (Slv.all l).length := by rw [Slv.all_len]; omega
                    have b36 : Below w3.heap.size w3 w6 := ch6.below HJ.out.bel HJ.out.bel.size (fun i hi => HJ.out.st.ge hi)
                    have HJ6 : Hid (QInv (Slv.all l) w3 (q2 + 1) A6 (b2.drop (4 + sv.b.length)) (rest.drop cut) w6) := Lib.hid ⟨s6, fun a ha => (by obtain ⟨a0, q1, q2⟩ := ha6 a ha; rw [q2]; exact Nat.lt_of_lt_of_le (HJ.out.al a0 q1) ch6.size), HE2.out, hq4, b36⟩
                    have hdn : Hid (∀ n, Below w6.heap.size w6 (w6.drewN n)) := Lib.hid fun n => ⟨rfl, rfl, rfl, Nat.le_refl _, fun _ _ => rfl⟩
                    have b06 := below_step B3.out b36 (Nat.le_refl _)
                    have s1 := fun n => str_len (w6.drewN n) B6 n6 c6 _ hn6.out (o6.row.below (hdn.out n))
                    have s2 := fun n => str_len (w6.drewN n) sv.A sv.b.length sv.c _ rfl ((hsa.out.below b06).below (hdn.out n))
                    have s3 := fun n => str_len (w6.drewN n) pp.A pp.n pp.c _ HPN.out ((HPO.out.row.below b36).below (hdn.out n))
                    have d1 := cell_below b06 HECL.out
                    have d2 := cell_below b36 HECM.out
                    clear b36 b06 o6 s6 ch6 ha6 HNX HE2 hsa HPO HPN HECL HECM HJ
                    go_wp2
                    go_quiet (fail)
                    have HJ7 := Lib.hid (HJ6.out.below (hdn.out nq))
                    clear s1 s2 s3 d1 d2 hdn HJ6
                    go_wp2
                    go_roundw
                    case rel => exact ⟨q2 + 1, A6, _, by go_num, HJ7.out⟩
                    case measure => simp [RowKit.intOf]; omega

              · have HDR : Hid (∀ W', Row W' Aa (bs (FrmM.cat (Slv.all l))) → Row W' (some ⟨gb, o + cut, none⟩) (bs (rest.drop cut))) := Lib.hid fun W' h => (HCUT.out W' h).2 hcc
                clear HCUT
                go_wp2
                go_loopw [13, 16, 17] (fun n _ _ wr => ∃ (q : Nat) (A : Option Addr) (b : List UInt8), n = .int .i64 q ∧ QInv (Slv.all l) w3 q A b (rest.drop cut) wr) (fun n _ _ _ => l.length + 1 - (RowKit.intOf n).toNat)
                case atStart => exact ⟨q, A', _, rfl, Q5.out⟩
                case round =>
                  obtain ⟨q2, A2, b2, rfl, hJ⟩ := hrel
                  obtain ⟨V2, hVe⟩ : ∃ V, V = wr := ⟨_, rfl⟩
                  subst hVe
                  have hbl2 := CL.out _ _ _ _ _ hJ
                  have hql2 := hJ.hq
                  rw [Slv.all_len] at hql2
                  have HJ := Lib.hid hJ
                  rcases FrmM.cat_step hps2.out hJ.hq hJ.e with h7 | ⟨p, hp, hsz, hpc, he2⟩
                  · have hnx := next_none w3.heap.size A2 b2 V2 hJ.st (by omega) h7
                    have HNX := Lib.hid hnx
                    have H7 := Lib.hid h7
                    clear hJ hnx h7
                    go_wp2_with fail
                    refine HNX.out.mono ?_
                    rintro e w6 ⟨rfl, hb6⟩
                    have HJ6 := Lib.hid (HJ.out.below hb6)
                    clear hb6 HNX
                    go_wp2
                    go_roundw
                    case rel => exact ⟨q2, k + 1, _, _, _, rest.drop cut, A2, b2, rfl, rfl, by go_num, by have h := List.length_drop (i := cut) (l := rest); rw [HRL.out] at h; omega, by omega, HDR.out, by omega, H7.out, HJ6.out⟩
                    case measure => first | (simp; omega) | (simp; done)
                  · have hq3 : q2 < l.length := by have := (List.getElem?_eq_some_iff.1 hp).1; rw [Slv.all_len] at this; exact this
                    obtain ⟨sv, hs⟩ : ∃ s, l[q2]? = some s := ⟨_, List.getElem?_eq_getElem hq3⟩
                    obtain ⟨pp, hpp⟩ : ∃ p, ps[q2]? = some p := ⟨_, List.getElem?_eq_getElem (by omega)⟩
                    obtain rfl : sv.b = p := by have h1 := Slv.all_get hs; rw [h1] at hp; injection hp
                    have hnx := next_ok w3.heap.size A2 b2 V2 hJ.st (by omega) (by rw [hsz])
                    rw [hsz] at hnx
                    dsimp only at hnx
                    rw [hpc] at hnx
                    have HNX := Lib.hid hnx
                    have HE2 := Lib.hid he2
                    have hpl := HPC.out q2 pp hpp sv hs
                    obtain ⟨hpn, hpo⟩ := HL.out.each pp (List.mem_of_getElem? hpp)
                    obtain ⟨bl, ol, rfl, ecl⟩ := row_slv HR.out hs
                    obtain ⟨go, rfl, ecm⟩ := HL.out.own.cell hpp
                    have hsa := Lib.hid (HAT.out sv (List.mem_of_getElem? hs)).row
                    have HPO := Lib.hid hpo
                    have HECL := Lib.hid ecl
                    have HECM := Lib.hid ecm
                    rw [hpl] at hpn
                    have HPN := Lib.hid hpn
                    rw [hpl] at HPO
                    clear hJ hnx he2 hsz hpc hp hs hpp hpl hpn hpo ecl ecm
                    go_wp2_with fail
                    refine HNX.out.mono ?_
                    rintro e w6 ⟨A6, B6, n6, c6, rfl, hn6, o6, s6, ch6, ha6⟩
                    have hq4 : q2 + 1 ≤ (Slv.all l).length := by rw [Slv.all_len]; omega
                    have b36 : Below w3.heap.size w3 w6 := ch6.below HJ.out.bel HJ.out.bel.size (fun i hi => HJ.out.st.ge hi)
                    have HJ6 : Hid (QInv (Slv.all l) w3 (q2 + 1) A6 (b2.drop (4 + sv.b.length)) (rest.drop cut) w6) := Lib.hid ⟨s6, fun a ha => (by obtain ⟨a0, q1, q2⟩ := ha6 a ha; rw [q2]; exact Nat.lt_of_lt_of_le (HJ.out.al a0 q1) ch6.size), HE2.out, hq4, b36⟩
                    have hdn : Hid (∀ n, Below w6.heap.size w6 (w6.drewN n)) := Lib.hid fun n => ⟨rfl, rfl, rfl, Nat.le_refl _, fun _ _ => rfl⟩
                    have b06 := below_step B3.out b36 (Nat.le_refl _)
                    have s1 := fun n => str_len (w6.drewN n) B6 n6 c6 _ hn6.out (o6.row.below (hdn.out n))
                    have s2 := fun n => str_len (w6.drewN n) sv.A sv.b.length sv.c _ rfl ((hsa.out.below b06).below (hdn.out n))
                    have s3 := fun n => str_len (w6.drewN n) pp.A pp.n pp.c _ HPN.out ((HPO.out.row.below b36).below (hdn.out n))
                    have d1 := cell_below b06 HECL.out
                    have d2 := cell_below b36 HECM.out
                    clear b36 b06 o6 s6 ch6 ha6 HNX HE2 hsa HPO HPN HECL HECM HJ
                    go_wp2
                    go_quiet (fail)
                    have HJ7 := Lib.hid (HJ6.out.below (hdn.out nq))
                    clear s1 s2 s3 d1 d2 hdn HJ6
                    go_wp2
                    go_roundw
                    case rel => exact ⟨q2 + 1, A6, _, by go_num, HJ7.out⟩
                    case measure => simp [RowKit.intOf]; omega

            · have hc1 : 1 ≤ nr := hnr
              have hc2 : nr ≤ nr := Nat.le_refl _
              --ROUND
              obtain ⟨gb, o, rfl, _⟩ := HRV.out.byte (k := 0) (by rw [HRL.out]; omega)
              have hfd := feed_ok2 w3.heap.size A (some ⟨gb, o, none⟩) nr cr b (rest.take nr) V HI.out.st (by rw [List.length_take, HRL.out]; omega) (by rw [bs_take]; exact HRV.out.take nr) (by omega) HI.out.al
              have HFD := Lib.hid hfd
              have HCUT : Hid (∀ W', Row W' Aa (bs (FrmM.cat (Slv.all l))) → (cr = nr → Row W' (some ⟨gb, o, none⟩) (bs (rest.drop nr))) ∧ (¬ cr = nr → Row W' (some ⟨gb, o + nr, none⟩) (bs (rest.drop nr)))) := Lib.hid (by
                intro W' hW
                have h1 := HROW2.out W' hW
                have hcb : (bs rest).length ≤ cr := by rw [bs_length, HRL.out]; exact hnc
                rw [bs_drop]
                refine ⟨fun q => ?_, fun q => ?_⟩
                · exact h1.cutAt (k := nr) (cap := cr) hcb (fun q' => absurd q q')
                · exact h1.cutAt (k := nr) (cap := cr) hcb (fun _ => by simp [Addr.add_lit]))
              clear hfd HROW2 HRV
              go_wp2_with fail
              refine HFD.out.mono ?_
              rintro e w5 ⟨A', rfl, hs5, hch5, ha5⟩
              have e0 : ((FrmM.err false : Nat) : Int) = 0 := rfl
              rw [e0]
              have Q5 : Hid (QInv (Slv.all l) w3 q A' (b ++ rest.take nr) (rest.drop nr) w5) := Lib.hid ⟨hs5, fun a ha => (ha5 a ha).2, (by rw [List.append_assoc, List.take_append_drop]; exact HI.out.e), HI.out.hq, hch5.below HI.out.bel HI.out.bel.size (fun i hi => HI.out.st.ge hi)⟩
              clear hs5 hch5 ha5 e0 HFD HI
              by_cases hcc : cr = nr
              · have HDR : Hid (∀ W', Row W' Aa (bs (FrmM.cat (Slv.all l))) → Row W' (some ⟨gb, o, none⟩) (bs (rest.drop nr))) := Lib.hid fun W' h => (HCUT.out W' h).1 hcc
                clear HCUT
                go_wp2
                go_loopw [13, 16, 17] (fun n _ _ wr => ∃ (q : Nat) (A : Option Addr) (b : List UInt8), n = .int .i64 q ∧ QInv (Slv.all l) w3 q A b (rest.drop nr) wr) (fun n _ _ _ => l.length + 1 - (RowKit.intOf n).toNat)
                case atStart => exact ⟨q, A', _, rfl, Q5.out⟩
                case round =>
                  obtain ⟨q2, A2, b2, rfl, hJ⟩ := hrel
                  obtain ⟨V2, hVe⟩ : ∃ V, V = wr := ⟨_, rfl⟩
                  subst hVe
                  have hbl2 := CL.out _ _ _ _ _ hJ
                  have hql2 := hJ.hq
                  rw [Slv.all_len] at hql2
                  have HJ := Lib.hid hJ
                  rcases FrmM.cat_step hps2.out hJ.hq hJ.e with h7 | ⟨p, hp, hsz, hpc, he2⟩
                  · have hnx := next_none w3.heap.size A2 b2 V2 hJ.st (by omega) h7
                    have HNX := Lib.hid hnx
                    have H7 := Lib.hid h7
                    clear hJ hnx h7
                    go_wp2_with fail
                    refine HNX.out.mono ?_
                    rintro e w6 ⟨rfl, hb6⟩
                    have HJ6 := Lib.hid (HJ.out.below hb6)
                    clear hb6 HNX
                    go_wp2
                    go_roundw
                    case rel => exact ⟨q2, k + 1, _, _, _, rest.drop nr, A2, b2, rfl, rfl, by go_num, by have h := List.length_drop (i := nr) (l := rest); rw [HRL.out] at h; omega, by omega, HDR.out, by omega, H7.out, HJ6.out⟩
                    case measure => first | (simp; omega) | (simp; done)
                  · have hq3 : q2 < l.length := by have := (List.getElem?_eq_some_iff.1 hp).1; rw [Slv.all_len] at this; exact this
                    obtain ⟨sv, hs⟩ : ∃ s, l[q2]? = some s := ⟨_, List.getElem?_eq_getElem hq3⟩
                    obtain ⟨pp, hpp⟩ : ∃ p, ps[q2]? = some p := ⟨_, List.getElem?_eq_getElem (by omega)⟩
                    obtain rfl : sv.b = p := by have h1 := Slv.all_get hs; rw [h1] at hp; injection hp
                    have hnx := next_ok w3.heap.size A2 b2 V2 hJ.st (by omega) (by rw [hsz])
                    rw [hsz] at hnx
                    dsimp only at hnx
                    rw [hpc] at hnx
                    have HNX := Lib.hid hnx
                    have HE2 := Lib.hid he2
                    have hpl := HPC.out q2 pp hpp sv hs
                    obtain ⟨hpn, hpo⟩ := HL.out.each pp (List.mem_of_getElem? hpp)
                    obtain ⟨bl, ol, rfl, ecl⟩ := row_slv HR.out hs
                    obtain ⟨go, rfl, ecm⟩ := HL.out.own.cell hpp
                    have hsa := Lib.hid (HAT.out sv (List.mem_of_getElem? hs)).row
                    have HPO := Lib.hid hpo
                    have HECL := Lib.hid ecl
                    have HECM := Lib.hid ecm
                    rw [hpl] at hpn
                    have HPN := Lib.hid hpn
                    rw [hpl] at HPO
                    clear hJ hnx he2 hsz hpc hp hs hpp hpl hpn hpo ecl ecm
                    go_wp2_with fail
                    refine HNX.out.mono ?_
                    rintro e w6 ⟨A6, B6, n6, c6, rfl, hn6, o6, s6, ch6, ha6⟩
                    have hq4 : q2 + 1 ≤ (Slv.all l).length := by rw [Slv.all_len]; omega
                    have b36 : Below w3.heap.size w3 w6 := ch6.below HJ.out.bel HJ.out.bel.size (fun i hi => HJ.out.st.ge hi)
                    have HJ6 : Hid (QInv (Slv.all l) w3 (q2 + 1) A6 (b2.drop (4 + sv.b.length)) (rest.drop nr) w6) := Lib.hid ⟨s6, fun a ha => (by obtain ⟨a0, q1, q2⟩ := ha6 a ha; rw [q2]; exact Nat.lt_of_lt_of_le (HJ.out.al a0 q1) ch6.size), HE2.out, hq4, b36⟩
                    have hdn : Hid (∀ n, Below w6.heap.size w6 (w6.drewN n)) := Lib.hid fun n => ⟨rfl, rfl, rfl, Nat.le_refl _, fun _ _ => rfl⟩
                    have b06 := below_step B3.out b36 (Nat.le_refl _)
                    have s1 := fun n => str_len (w6.drewN n) B6 n6 c6 _ hn6.out (o6.row.below (hdn.out n))
                    have s2 := fun n => str_len (w6.drewN n) sv.A sv.b.length sv.c _ rfl ((hsa.out.below b06).below (hdn.out n))
                    have s3 := fun n => str_len (w6.drewN n) pp.A pp.n pp.c _ HPN.out ((HPO.out.row.below b36).below (hdn.out n))
                    have d1 := cell_below b06 HECL.out
                    have d2 := cell_below b36 HECM.out
                    clear b36 b06 o6 s6 ch6 ha6 HNX HE2 hsa HPO HPN HECL HECM HJ
                    go_wp2
                    go_quiet (fail)
                    have HJ7 := Lib.hid (HJ6.out.below (hdn.out nq))
                    clear s1 s2 s3 d1 d2 hdn HJ6
                    go_wp2
                    go_roundw
                    case rel => exact ⟨q2 + 1, A6, _, by go_num, HJ7.out⟩
                    case measure => simp [RowKit.intOf]; omega

              · have HDR : Hid (∀ W', Row W' Aa (bs (FrmM.cat (Slv.all l))) → Row W' (some ⟨gb, o + nr, none⟩) (bs (rest.drop nr))) := Lib.hid fun W' h => (HCUT.out W' h).2 hcc
                clear HCUT
                go_wp2
                go_loopw [13, 16, 17] (fun n _ _ wr => ∃ (q : Nat) (A : Option Addr) (b : List UInt8), n = .int .i64 q ∧ QInv (Slv.all l) w3 q A b (rest.drop nr) wr) (fun n _ _ _ => l.length + 1 - (RowKit.intOf n).toNat)
                case atStart => exact ⟨q, A', _, rfl, Q5.out⟩
                case round =>
                  obtain ⟨q2, A2, b2, rfl, hJ⟩ := hrel
                  obtain ⟨V2, hVe⟩ : ∃ V, V = wr := ⟨_, rfl⟩
                  subst hVe
                  have hbl2 := CL.out _ _ _ _ _ hJ
                  have hql2 := hJ.hq
                  rw [Slv.all_len] at hql2
                  have HJ := Lib.hid hJ
                  rcases FrmM.cat_step hps2.out hJ.hq hJ.e with h7 | ⟨p, hp, hsz, hpc, he2⟩
                  · have hnx := next_none w3.heap.size A2 b2 V2 hJ.st (by omega) h7
                    have HNX := Lib.hid hnx
                    have H7 := Lib.hid h7
                    clear hJ hnx h7
                    go_wp2_with fail
                    refine HNX.out.mono ?_
                    rintro e w6 ⟨rfl, hb6⟩
                    have HJ6 := Lib.hid (HJ.out.below hb6)
                    clear hb6 HNX
                    go_wp2
                    go_roundw
                    case rel => exact ⟨q2, k + 1, _, _, _, rest.drop nr, A2, b2, rfl, rfl, by go_num, by have h := List.length_drop (i := nr) (l := rest); rw [HRL.out] at h; omega, by omega, HDR.out, by omega, H7.out, HJ6.out⟩
                    case measure => first | (simp; omega) | (simp; done)
                  · have hq3 : q2 < l.length := by have := (List.getElem?_eq_some_iff.1 hp).1; rw [Slv.all_len] at this; exact this
                    obtain ⟨sv, hs⟩ : ∃ s, l[q2]? = some s := ⟨_, List.getElem?_eq_getElem hq3⟩
                    obtain ⟨pp, hpp⟩ : ∃ p, ps[q2]? = some p := ⟨_, List.getElem?_eq_getElem (by omega)⟩
                    obtain rfl : sv.b = p := by have h1 := Slv.all_get hs; rw [h1] at hp; injection hp
                    have hnx := next_ok w3.heap.size A2 b2 V2 hJ.st (by omega) (by rw [hsz])
                    rw [hsz] at hnx
                    dsimp only at hnx
                    rw [hpc] at hnx
                    have HNX := Lib.hid hnx
                    have HE2 := Lib.hid he2
                    have hpl := HPC.out q2 pp hpp sv hs
                    obtain ⟨hpn, hpo⟩ := HL.out.each pp (List.mem_of_getElem? hpp)
                    obtain ⟨bl, ol, rfl, ecl⟩ := row_slv HR.out hs
                    obtain ⟨go, rfl, ecm⟩ := HL.out.own.cell hpp
                    have hsa := Lib.hid (HAT.out sv (List.mem_of_getElem? hs)).row
                    have HPO := Lib.hid hpo
                    have HECL := Lib.hid ecl
                    have HECM := Lib.hid ecm
                    rw [hpl] at hpn
                    have HPN := Lib.hid hpn
                    rw [hpl] at HPO
                    clear hJ hnx he2 hsz hpc hp hs hpp hpl hpn hpo ecl ecm
                    go_wp2_with fail
                    refine HNX.out.mono ?_
                    rintro e w6 ⟨A6, B6, n6, c6, rfl, hn6, o6, s6, ch6, ha6⟩
                    have hq4 : q2 + 1 ≤ (Slv.all l).length := by rw [Slv.all_len]; omega
                    have b36 : Below w3.heap.size w3 w6 := ch6.below HJ.out.bel HJ.out.bel.size (fun i hi => HJ.out.st.ge hi)
                    have HJ6 : Hid (QInv (Slv.all l) w3 (q2 + 1) A6 (b2.drop (4 + sv.b.length)) (rest.drop nr) w6) := Lib.hid ⟨s6, fun a ha => (by obtain ⟨a0, q1, q2⟩ := ha6 a ha; rw [q2]; exact Nat.lt_of_lt_of_le (HJ.out.al a0 q1) ch6.size), HE2.out, hq4, b36⟩
                    have hdn : Hid (∀ n, Below w6.heap.size w6 (w6.drewN n)) := Lib.hid fun n => ⟨rfl, rfl, rfl, Nat.le_refl _, fun _ _ => rfl⟩
                    have b06 := below_step B3.out b36 (Nat.le_refl _)
                    have s1 := fun n => str_len (w6.drewN n) B6 n6 c6 _ hn6.out (o6.row.below (hdn.out n))
                    have s2 := fun n => str_len (w6.drewN n) sv.A sv.b.length sv.c _ rfl ((hsa.out.below b06).below (hdn.out n))
                    have s3 := fun n => str_len (w6.drewN n) pp.A pp.n pp.c _ HPN.out ((HPO.out.row.below b36).below (hdn.out n))
                    have d1 := cell_below b06 HECL.out
                    have d2 := cell_below b36 HECM.out
                    clear b36 b06 o6 s6 ch6 ha6 HNX HE2 hsa HPO HPN HECL HECM HJ
                    go_wp2
                    go_quiet (fail)
                    have HJ7 := Lib.hid (HJ6.out.below (hdn.out nq))
                    clear s1 s2 s3 d1 d2 hdn HJ6
                    go_wp2
                    go_roundw
                    case rel => exact ⟨q2 + 1, A6, _, by go_num, HJ7.out⟩
                    case measure => simp [RowKit.intOf]; omega

          · obtain rfl : nr = 0 := by omega
            have hre : rest = [] := List.eq_nil_of_length_eq_zero HRL.out
            obtain ⟨hq1, hb1⟩ := FrmM.cat_end hps2.out HI.out.hq (by have := HI.out.e; rw [hre, List.append_nil] at this; exact this) hz7
            rw [Slv.all_len] at hq1
            subst hq1
            clear hre hz7
            go_wp2_with fail
            refine (held_any w3.heap.size A b 0 V HI.out.st 0 (by rw [hb1]; rfl)).mono ?_
            rintro e w6 ⟨rfl, rfl⟩
            go_wp2_with fail
            refine (known21_any w6).mono ?_
            rintro e w7 ⟨rfl, hb⟩
            go_wp2
            go_ret
            exact ⟨rfl, below_step (below_step B3.out HI.out.bel (Nat.le_refl _)) hb (Nat.le_refl _)⟩
end Go.Proofs.Ytgcognefggbpjaa
