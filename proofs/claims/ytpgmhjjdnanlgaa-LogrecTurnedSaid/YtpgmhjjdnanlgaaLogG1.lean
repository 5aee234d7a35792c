/-
  The document's form of a record.
  Conditions: the record may be; its lists lie in memory.
-/
import Derived.Test.YtpgmhjjdnanlgaaLogF1
import Derived.Test.YtpgmhjjdnanlgaaCodeW14
namespace Go.Proofs.Ytpgmhjjdnanlgaa
open Go.RowKit Go.Sort Go.Lib
set_option linter.unusedVariables false
set_option linter.unusedSimpArgs false
theorem reftext_at (A2 : Option Addr) (n2 c2 : Nat) (s : List UInt8) (w : World) (hr : Row w A2 (bs s)) (hn : s.length = n2) (hc : n2 ≤ 100000) :
    Calls Try.prog 35 #[.slice A2 n2 c2] w (NewB (CodeM.tx s) w) := by subst hn; exact reftxt_any A2 c2 s w hr (by omega)
theorem refsum_at (A : Option Addr) (c n : Nat) (l : List UInt8) (w : World) (hr : Row w A (bs l)) (hn : n = l.length) (hc : n ≤ 9223372036854775807) :
    Calls Try.prog 37 #[.slice A n c] w fun e w' => e = .returned (.int .u32 ((CrcM.sum l).toNat : Int)) ∧ w = w' := by
  subst hn
  exact refsum_any A c l w hr hc
set_option maxRecDepth 100000 in
set_option maxHeartbeats 16000000 in
theorem rform_any (s : Lrec) (y : Lsl) (w : World) (hs : LogAt w y s) (hm : LogM.May s) :
    Calls Try.prog 18 #[.agg #[.int .i64 s.kind, .int .u64 (s.lsn : Int), .int .u32 (s.epoch : Int), .int .u64 (s.txn : Int), .int .u32 (s.page : Int), .int .u16 (s.off : Int), .slice y.oA y.on y.oc, .slice y.nA y.nn y.nc, .slice y.uA y.un y.uc, .int .u64 (s.prev : Int), .int .u64 (s.next : Int), .bool s.clr, .int .u64 (s.stamp : Int), .slice y.pA y.pn y.pc, .slice y.dA y.dn y.dc]] w (NewB (LogM.form s) w) := by
  have HS0 := Lib.hid hs
  have HM := Lib.hid hm
  have HF := Lib.hid hs.fit
  clear hs hm
  obtain ⟨kind, lsn, epoch, txn, page, off, old, new, undo, prev, next, clr, stamp, opn, dirty⟩ := s
  obtain ⟨oA, on, oc, nA, nn, nc, uA, un, uc, pA, pn, pc, dA, dn, dc⟩ := y
  have hk0 : 1 ≤ kind ∧ kind ≤ 5 := ((LogM.mayR_iff _).2 HM.out).1
  have hk1 := hk0.1
  have hk2 := hk0.2
  clear hk0
  go_enter Try.func18, Try.ntmps18
  have hx := Blk.new w 31 #[.int .i64 kind, .int .u64 (lsn : Int), .int .u32 (epoch : Int), .int .u64 (txn : Int), .int .u32 (page : Int), .int .u16 (off : Int), .slice oA on oc, .slice nA nn nc, .slice uA un uc, .int .u64 (prev : Int), .int .u64 (next : Int), .bool clr, .int .u64 (stamp : Int), .slice pA pn pc, .slice dA dn dc]
  have hb0 : Below w.heap.size w (w.alloc (.cells #[.int .i64 kind, .int .u64 (lsn : Int), .int .u32 (epoch : Int), .int .u64 (txn : Int), .int .u32 (page : Int), .int .u16 (off : Int), .slice oA on oc, .slice nA nn nc, .slice uA un uc, .int .u64 (prev : Int), .int .u64 (next : Int), .bool clr, .int .u64 (stamp : Int), .slice pA pn pc, .slice dA dn dc] 31)) := (Below.refl w.heap.size w).alloc (Nat.le_refl _) _
  have hgl : w.heap.size < (w.alloc (.cells #[.int .i64 kind, .int .u64 (lsn : Int), .int .u32 (epoch : Int), .int .u64 (txn : Int), .int .u32 (page : Int), .int .u16 (off : Int), .slice oA on oc, .slice nA nn nc, .slice uA un uc, .int .u64 (prev : Int), .int .u64 (next : Int), .bool clr, .int .u64 (stamp : Int), .slice pA pn pc, .slice dA dn dc] 31)).heap.size := by simp
  go_upto_region 1 with fail
  generalize w.alloc (.cells #[.int .i64 kind, .int .u64 (lsn : Int), .int .u32 (epoch : Int), .int .u64 (txn : Int), .int .u32 (page : Int), .int .u16 (off : Int), .slice oA on oc, .slice nA nn nc, .slice uA un uc, .int .u64 (prev : Int), .int .u64 (next : Int), .bool clr, .int .u64 (stamp : Int), .slice pA pn pc, .slice dA dn dc] 31) = V00 at *
  have HS := Lib.hid (HS0.out.below hb0)
  obtain ⟨g, hg⟩ : ∃ g, w.heap.size = g := ⟨_, rfl⟩
  have HG := Lib.hid hg
  have HB0 := Lib.hid hb0
  rw [hg] at hx hgl
  simp only [hg]
  clear hg hb0 HS0
  obtain ⟨b0, hbb⟩ : ∃ b0, V00.heap.size = b0 := ⟨_, rfl⟩
  have HBB := Lib.hid hbb
  rw [hbb] at hgl
  have hb0le : b0 ≤ V00.heap.size := Nat.le_of_eq hbb.symm
  have hB00 : Below b0 V00 V00 := Below.refl _ _
  clear hbb
  obtain ⟨d0, d1, d2, d3, d4, d5, d6, d7, d8, d9, d10, d11, d12, d13, d14⟩ := hx.c15
  go_wp2_with fail
  refine (reffixed_any lsn 8 V00 HF.out.lsn (by omega)).mono ?_
  rintro e V1 ⟨A1, n1, c1, rfl, hnt, hO1, hB1⟩
  clear d0 d1 d2 d3 d4 d5 d6 d7 d8 d9 d10 d11 d12 d13 d14 hB00
  rw [HBB.out] at hO1 hB1
  obtain rfl : 8 = n1 := by rw [← hnt.out]; exact (CodeM.fx_length _ _).symm
  obtain ⟨l1, hl1⟩ : ∃ l', CodeM.fx 8 lsn = l' := ⟨_, rfl⟩
  have HL1 := Lib.hid hl1
  have HN1 : Hid (l1.length = 8) := Lib.hid (by rw [← hl1]; exact CodeM.fx_length _ _)
  have hn1 : (8 : Nat) ≤ 5000 := by omega
  rw [hl1] at hO1
  clear hnt hl1
  obtain ⟨d0, d1, d2, d3, d4, d5, d6, d7, d8, d9, d10, d11, d12, d13, d14⟩ := (hx.below hB1 hgl).c15
  have hwe : IntKind.u64.wrap (epoch : Int) = (epoch : Int) := by have : epoch < 4294967296 := HF.out.epoch; rw [IntKind.wrap_u64]; omega
  go_wp2_with fail
  refine (reffixed_any epoch 4 V1 (by have : epoch < 4294967296 := HF.out.epoch; omega) (by omega)).mono ?_
  rintro e Vt ⟨At, nt, ct, rfl, hnt, hOt, hbt⟩
  clear d0 d1 d2 d3 d4 d5 d6 d7 d8 d9 d10 d11 d12 d13 d14
  obtain rfl : 4 = nt := by rw [← hnt.out]; exact ((CodeM.fx_length _ _)).symm
  have hOv := hO1.below hbt
  have hBt := hB1.trans (hbt.mono (Nat.le_trans hb0le hB1.size))
  have hRt := hOt.row
  have hbs := hBt.size
  clear hO1 hB1 hOt hbt hnt
  go_wp2_with (at_builtin; refine wpl_app' _ rfl (.tmp 12) (.tmp 16) rfl b0 A1 c1 l1 8 rfl HN1.out hOv At ct (CodeM.fx 4 epoch) 4 rfl (CodeM.fx_length _ _) hRt ?_ ?_ ?_)
  · omega
  · omega
  intro A2 c2 V2 hO2 hgt _
  have hB2 : Below b0 V00 V2 := hOv.grown_below (by rw [HN1.out]) hgt hBt (Nat.le_refl _) (Nat.le_trans hb0le hbs)
  obtain ⟨l2, hln⟩ : ∃ l', l1 ++ (CodeM.fx 4 epoch) = l' := ⟨_, rfl⟩
  have HL2 := Lib.hid hln
  have HN2 : Hid (l2.length = 12) := Lib.hid (by rw [← hln, List.length_append, HN1.out, (CodeM.fx_length _ _)])
  have hn2 : 12 ≤ 5000 := by omega
  rw [hln] at hO2
  clear hln hOv hgt hBt hbs hRt hn1
  have hk8 : IntKind.u8.wrap kind = kind := by rw [IntKind.wrap_u8]; omega
  obtain ⟨d0, d1, d2, d3, d4, d5, d6, d7, d8, d9, d10, d11, d12, d13, d14⟩ := (hx.below hB2 hgl).c15
  have hOv := hO2.alloc (.cells #[.int .u8 kind] 5)
  have hBt : Below b0 V00 (V2.alloc (.cells #[.int .u8 kind] 5)) := hB2.alloc (Nat.le_trans hb0le hB2.size) _
  have hbs := hBt.size
  clear hO2 hB2
  go_wp2_with (at_builtin; refine wpl_app' _ rfl (.tmp 18) (.tmp 22) rfl b0 A2 c2 l2 12 rfl HN2.out hOv (some ⟨V2.heap.size, 0, none⟩) 1 ([CodeM.byte kind.toNat]) 1 rfl rfl (row_one V2 _ _ (by rw [CodeM.ofNat_toNat _ (by omega)]; omega)) ?_ ?_ ?_)
  · omega
  · omega
  clear d0 d1 d2 d3 d4 d5 d6 d7 d8 d9 d10 d11 d12 d13 d14
  intro A3 c3 V3 hO3 hgt _
  have hB3 : Below b0 V00 V3 := hOv.grown_below (by rw [HN2.out]) hgt hBt (Nat.le_refl _) (Nat.le_trans hb0le hbs)
  obtain ⟨l3, hln⟩ : ∃ l', l2 ++ ([CodeM.byte kind.toNat]) = l' := ⟨_, rfl⟩
  have HL3 := Lib.hid hln
  have HN3 : Hid (l3.length = 13) := Lib.hid (by rw [← hln, List.length_append, HN2.out, List.length_singleton])
  have hn3 : 13 ≤ 5000 := by omega
  rw [hln] at hO3
  clear hln hOv hgt hBt hbs  hn2
  have HHD : Hid (LogM.headB ⟨kind, lsn, epoch, txn, page, off, old, new, undo, prev, next, clr, stamp, opn, dirty⟩ = l3) := Lib.hid (by unfold LogM.headB; dsimp only; rw [HL1.out, HL2.out, HL3.out])
  obtain ⟨d0, d1, d2, d3, d4, d5, d6, d7, d8, d9, d10, d11, d12, d13, d14⟩ := (hx.below hB3 hgl).c15
  go_upto_block 0 with fail
  clear d0 d1 d2 d3 d4 d5 d6 d7 d8 d9 d10 d11 d12 d13 d14
  go_cut [3] from 4 (fun b wc => ∃ (A : Option Addr) (n c : Nat), b = .slice A n c ∧ Own wc b0 A c (LogM.body ⟨kind, lsn, epoch, txn, page, off, old, new, undo, prev, next, clr, stamp, opn, dirty⟩) ∧ (LogM.body ⟨kind, lsn, epoch, txn, page, off, old, new, undo, prev, next, clr, stamp, opn, dirty⟩).length = n ∧ n ≤ 1213 ∧ Below b0 V00 wc)
  case first =>
    by_cases k1 : kind = 1
    · subst k1
      have hmk := HM.out.2
      unfold LogM.mayK at hmk
      rw [if_pos rfl] at hmk
      have hoo := HS.out.lo
      have hnn := HS.out.ln
      dsimp only at hmk hoo hnn
      have ho5 : on ≤ 500 := by omega
      have hn5 : nn ≤ 500 := by omega
      have htxo := LogM.tx_length old (by omega)
      have htxn := LogM.tx_length new (by omega)
      rw [hoo] at htxo
      rw [hnn] at htxn
      clear hmk hoo hnn hk1 hk2
      obtain ⟨po, hpo⟩ : ∃ p, (CodeM.tx old).length = p := ⟨_, rfl⟩
      obtain ⟨pn_, hpn⟩ : ∃ p, (CodeM.tx new).length = p := ⟨_, rfl⟩
      rw [hpo] at htxo
      rw [hpn] at htxn
      have HPO := Lib.hid hpo
      have HPN := Lib.hid hpn
      clear hpo hpn
      obtain ⟨d0, d1, d2, d3, d4, d5, d6, d7, d8, d9, d10, d11, d12, d13, d14⟩ := (hx.below hB3 hgl).c15
      have hwpage : IntKind.u64.wrap (page : Int) = (page : Int) := by have : page < 4294967296 := HF.out.page; rw [IntKind.wrap_u64]; omega
      go_wp2_with fail
      refine (reffixed_any page 4 V3 (Nat.lt_trans HF.out.page (by omega)) (by omega)).mono ?_
      rintro e Vt ⟨At, nt, ct, rfl, hnt, hOt, hbt⟩
      clear d0 d1 d2 d3 d4 d5 d6 d7 d8 d9 d10 d11 d12 d13 d14
      obtain rfl : 4 = nt := by rw [← hnt.out]; exact ((CodeM.fx_length _ _)).symm
      have hOv := hO3.below hbt
      have hBt := hB3.trans (hbt.mono (Nat.le_trans hb0le hB3.size))
      have hRt := hOt.row
      have hbs := hBt.size
      clear hO3 hB3 hOt hbt hnt
      go_wp2_with (at_builtin; refine wpl_app' _ rfl (.tmp 28) (.tmp 32) rfl b0 A3 c3 l3 13 rfl HN3.out hOv At ct (CodeM.fx 4 page) 4 rfl (CodeM.fx_length _ _) hRt ?_ ?_ ?_)
      · omega
      · omega
      intro A4 c4 V4 hO4 hgt _
      have hB4 : Below b0 V00 V4 := hOv.grown_below (by rw [HN3.out]) hgt hBt (Nat.le_refl _) (Nat.le_trans hb0le hbs)
      obtain ⟨l4, hln⟩ : ∃ l', l3 ++ (CodeM.fx 4 page) = l' := ⟨_, rfl⟩
      have HL4 := Lib.hid hln
      have HN4 : Hid (l4.length = 17) := Lib.hid (by rw [← hln, List.length_append, HN3.out, (CodeM.fx_length _ _)])
      have hn4 : 17 ≤ 5000 := by omega
      rw [hln] at hO4
      clear hln hOv hgt hBt hbs hRt hn3
      obtain ⟨d0, d1, d2, d3, d4, d5, d6, d7, d8, d9, d10, d11, d12, d13, d14⟩ := (hx.below hB4 hgl).c15
      have hwoff : IntKind.u64.wrap (off : Int) = (off : Int) := by have : off < 4294967296 := (Nat.lt_trans HF.out.off (by omega)); rw [IntKind.wrap_u64]; omega
      go_wp2_with fail
      refine (reffixed_any off 2 V4 (Nat.lt_trans HF.out.off (by omega)) (by omega)).mono ?_
      rintro e Vt ⟨At, nt, ct, rfl, hnt, hOt, hbt⟩
      clear d0 d1 d2 d3 d4 d5 d6 d7 d8 d9 d10 d11 d12 d13 d14
      obtain rfl : 2 = nt := by rw [← hnt.out]; exact ((CodeM.fx_length _ _)).symm
      have hOv := hO4.below hbt
      have hBt := hB4.trans (hbt.mono (Nat.le_trans hb0le hB4.size))
      have hRt := hOt.row
      have hbs := hBt.size
      clear hO4 hB4 hOt hbt hnt
      go_wp2_with (at_builtin; refine wpl_app' _ rfl (.tmp 34) (.tmp 38) rfl b0 A4 c4 l4 17 rfl HN4.out hOv At ct (CodeM.fx 2 off) 2 rfl (CodeM.fx_length _ _) hRt ?_ ?_ ?_)
      · omega
      · omega
      intro A5 c5 V5 hO5 hgt _
      have hB5 : Below b0 V00 V5 := hOv.grown_below (by rw [HN4.out]) hgt hBt (Nat.le_refl _) (Nat.le_trans hb0le hbs)
      obtain ⟨l5, hln⟩ : ∃ l', l4 ++ (CodeM.fx 2 off) = l' := ⟨_, rfl⟩
      have HL5 := Lib.hid hln
      have HN5 : Hid (l5.length = 19) := Lib.hid (by rw [← hln, List.length_append, HN4.out, (CodeM.fx_length _ _)])
      have hn5 : 19 ≤ 5000 := by omega
      rw [hln] at hO5
      clear hln hOv hgt hBt hbs hRt hn4
      obtain ⟨d0, d1, d2, d3, d4, d5, d6, d7, d8, d9, d10, d11, d12, d13, d14⟩ := (hx.below hB5 hgl).c15
      go_wp2_with fail
      refine (reftext_at oA on oc old V5 (HS.out.below (by rw [HBB.out]; exact hB5)).ro HS.out.lo (by omega)).mono ?_
      rintro e Vt ⟨At, nt, ct, rfl, hnt, hOt, hbt⟩
      clear d0 d1 d2 d3 d4 d5 d6 d7 d8 d9 d10 d11 d12 d13 d14
      obtain rfl : po = nt := by rw [← hnt.out]; exact (HPO.out).symm
      have hOv := hO5.below hbt
      have hBt := hB5.trans (hbt.mono (Nat.le_trans hb0le hB5.size))
      have hRt := hOt.row
      have hbs := hBt.size
      clear hO5 hB5 hOt hbt hnt
      go_wp2_with (at_builtin; refine wpl_app' _ rfl (.tmp 40) (.tmp 43) rfl b0 A5 c5 l5 19 rfl HN5.out hOv At ct (CodeM.tx old) po rfl HPO.out hRt ?_ ?_ ?_)
      · omega
      · omega
      intro A6 c6 V6 hO6 hgt _
      have hB6 : Below b0 V00 V6 := hOv.grown_below (by rw [HN5.out]) hgt hBt (Nat.le_refl _) (Nat.le_trans hb0le hbs)
      obtain ⟨l6, hln⟩ : ∃ l', l5 ++ (CodeM.tx old) = l' := ⟨_, rfl⟩
      have HL6 := Lib.hid hln
      obtain ⟨n6, hsn⟩ : ∃ q, 19 + po = q := ⟨_, rfl⟩
      have HN6 : Hid (l6.length = n6) := Lib.hid (by rw [← hln, List.length_append, HN5.out, HPO.out]; exact hsn)
      have hn6 : n6 ≤ 521 := by omega
      rw [hln] at hO6
      clear hln hOv hgt hBt hbs hRt hn5
      simp only [hsn]
      clear hsn
      obtain ⟨d0, d1, d2, d3, d4, d5, d6, d7, d8, d9, d10, d11, d12, d13, d14⟩ := (hx.below hB6 hgl).c15
      go_wp2_with fail
      refine (reftext_at nA nn nc new V6 (HS.out.below (by rw [HBB.out]; exact hB6)).rn HS.out.ln (by omega)).mono ?_
      rintro e Vt ⟨At, nt, ct, rfl, hnt, hOt, hbt⟩
      clear d0 d1 d2 d3 d4 d5 d6 d7 d8 d9 d10 d11 d12 d13 d14
      obtain rfl : pn_ = nt := by rw [← hnt.out]; exact (HPN.out).symm
      have hOv := hO6.below hbt
      have hBt := hB6.trans (hbt.mono (Nat.le_trans hb0le hB6.size))
      have hRt := hOt.row
      have hbs := hBt.size
      clear hO6 hB6 hOt hbt hnt
      go_wp2_with (at_builtin; refine wpl_app' _ rfl (.tmp 45) (.tmp 48) rfl b0 A6 c6 l6 n6 rfl HN6.out hOv At ct (CodeM.tx new) pn_ rfl HPN.out hRt ?_ ?_ ?_)
      · omega
      · omega
      intro A7 c7 V7 hO7 hgt _
      have hB7 : Below b0 V00 V7 := hOv.grown_below (by rw [HN6.out]) hgt hBt (Nat.le_refl _) (Nat.le_trans hb0le hbs)
      obtain ⟨l7, hln⟩ : ∃ l', l6 ++ (CodeM.tx new) = l' := ⟨_, rfl⟩
      have HL7 := Lib.hid hln
      obtain ⟨n7, hsn⟩ : ∃ q, n6 + pn_ = q := ⟨_, rfl⟩
      have HN7 : Hid (l7.length = n7) := Lib.hid (by rw [← hln, List.length_append, HN6.out, HPN.out]; exact hsn)
      have hn7 : n7 ≤ 1023 := by omega
      rw [hln] at hO7
      clear hln hOv hgt hBt hbs hRt hn6
      simp only [hsn]
      clear hsn
      have HBY : Hid (LogM.body ⟨1, lsn, epoch, txn, page, off, old, new, undo, prev, next, clr, stamp, opn, dirty⟩ = l7) := Lib.hid (by unfold LogM.body LogM.tail; rw [HHD.out, ← HL7.out, ← HL6.out, ← HL5.out, ← HL4.out]; simp [List.append_assoc, LogM.clrB])
      go_wp2
      go_meet
      case rel => exact ⟨A7, n7, c7, rfl, by rw [HBY.out]; exact hO7, by rw [HBY.out]; exact HN7.out, by omega, hB7⟩
    by_cases k2 : kind = 2
    · subst k2
      have hmk := HM.out.2
      unfold LogM.mayK at hmk
      dsimp only at hmk
      rw [if_neg (by decide), if_pos rfl] at hmk
      have huu := HS.out.lu
      dsimp only at huu
      have hu5 : un ≤ 64 := by
        cases clr with
        | true => rw [if_pos rfl] at hmk; rw [hmk] at huu; simp at huu; omega
        | false => rw [if_neg (by decide)] at hmk; omega
      have htxu := LogM.tx_length undo (by omega)
      rw [huu] at htxu
      obtain ⟨pu, hpu⟩ : ∃ p, (CodeM.tx undo).length = p := ⟨_, rfl⟩
      rw [hpu] at htxu
      have HPU := Lib.hid hpu
      clear hpu hmk huu hk1 hk2
      obtain ⟨d0, d1, d2, d3, d4, d5, d6, d7, d8, d9, d10, d11, d12, d13, d14⟩ := (hx.below hB3 hgl).c15
      go_wp2_with fail
      refine (reffixed_any txn 8 V3 HF.out.txn (by omega)).mono ?_
      rintro e Vt ⟨At, nt, ct, rfl, hnt, hOt, hbt⟩
      clear d0 d1 d2 d3 d4 d5 d6 d7 d8 d9 d10 d11 d12 d13 d14
      obtain rfl : 8 = nt := by rw [← hnt.out]; exact ((CodeM.fx_length _ _)).symm
      have hOv := hO3.below hbt
      have hBt := hB3.trans (hbt.mono (Nat.le_trans hb0le hB3.size))
      have hRt := hOt.row
      have hbs := hBt.size
      clear hO3 hB3 hOt hbt hnt
      go_wp2_with (at_builtin; refine wpl_app' _ rfl (.tmp 52) (.tmp 55) rfl b0 A3 c3 l3 13 rfl HN3.out hOv At ct (CodeM.fx 8 txn) 8 rfl (CodeM.fx_length _ _) hRt ?_ ?_ ?_)
      · omega
      · omega
      intro A4 c4 V4 hO4 hgt _
      have hB4 : Below b0 V00 V4 := hOv.grown_below (by rw [HN3.out]) hgt hBt (Nat.le_refl _) (Nat.le_trans hb0le hbs)
      obtain ⟨l4, hln⟩ : ∃ l', l3 ++ (CodeM.fx 8 txn) = l' := ⟨_, rfl⟩
      have HL4 := Lib.hid hln
      have HN4 : Hid (l4.length = 21) := Lib.hid (by rw [← hln, List.length_append, HN3.out, (CodeM.fx_length _ _)])
      have hn4 : 21 ≤ 5000 := by omega
      rw [hln] at hO4
      clear hln hOv hgt hBt hbs hRt hn3
      obtain ⟨d0, d1, d2, d3, d4, d5, d6, d7, d8, d9, d10, d11, d12, d13, d14⟩ := (hx.below hB4 hgl).c15
      go_wp2_with fail
      refine (reffixed_any prev 8 V4 HF.out.prev (by omega)).mono ?_
      rintro e Vt ⟨At, nt, ct, rfl, hnt, hOt, hbt⟩
      clear d0 d1 d2 d3 d4 d5 d6 d7 d8 d9 d10 d11 d12 d13 d14
      obtain rfl : 8 = nt := by rw [← hnt.out]; exact ((CodeM.fx_length _ _)).symm
      have hOv := hO4.below hbt
      have hBt := hB4.trans (hbt.mono (Nat.le_trans hb0le hB4.size))
      have hRt := hOt.row
      have hbs := hBt.size
      clear hO4 hB4 hOt hbt hnt
      go_wp2_with (at_builtin; refine wpl_app' _ rfl (.tmp 57) (.tmp 60) rfl b0 A4 c4 l4 21 rfl HN4.out hOv At ct (CodeM.fx 8 prev) 8 rfl (CodeM.fx_length _ _) hRt ?_ ?_ ?_)
      · omega
      · omega
      intro A5 c5 V5 hO5 hgt _
      have hB5 : Below b0 V00 V5 := hOv.grown_below (by rw [HN4.out]) hgt hBt (Nat.le_refl _) (Nat.le_trans hb0le hbs)
      obtain ⟨l5, hln⟩ : ∃ l', l4 ++ (CodeM.fx 8 prev) = l' := ⟨_, rfl⟩
      have HL5 := Lib.hid hln
      have HN5 : Hid (l5.length = 29) := Lib.hid (by rw [← hln, List.length_append, HN4.out, (CodeM.fx_length _ _)])
      have hn5 : 29 ≤ 5000 := by omega
      rw [hln] at hO5
      clear hln hOv hgt hBt hbs hRt hn4
      obtain ⟨d0, d1, d2, d3, d4, d5, d6, d7, d8, d9, d10, d11, d12, d13, d14⟩ := (hx.below hB5 hgl).c15
      go_wp2_with fail
      refine (reffixed_any next 8 V5 HF.out.next (by omega)).mono ?_
      rintro e Vt ⟨At, nt, ct, rfl, hnt, hOt, hbt⟩
      clear d0 d1 d2 d3 d4 d5 d6 d7 d8 d9 d10 d11 d12 d13 d14
      obtain rfl : 8 = nt := by rw [← hnt.out]; exact ((CodeM.fx_length _ _)).symm
      have hOv := hO5.below hbt
      have hBt := hB5.trans (hbt.mono (Nat.le_trans hb0le hB5.size))
      have hRt := hOt.row
      have hbs := hBt.size
      clear hO5 hB5 hOt hbt hnt
      go_wp2_with (at_builtin; refine wpl_app' _ rfl (.tmp 62) (.tmp 65) rfl b0 A5 c5 l5 29 rfl HN5.out hOv At ct (CodeM.fx 8 next) 8 rfl (CodeM.fx_length _ _) hRt ?_ ?_ ?_)
      · omega
      · omega
      intro A6 c6 V6 hO6 hgt _
      have hB6 : Below b0 V00 V6 := hOv.grown_below (by rw [HN5.out]) hgt hBt (Nat.le_refl _) (Nat.le_trans hb0le hbs)
      obtain ⟨l6, hln⟩ : ∃ l', l5 ++ (CodeM.fx 8 next) = l' := ⟨_, rfl⟩
      have HL6 := Lib.hid hln
      have HN6 : Hid (l6.length = 37) := Lib.hid (by rw [← hln, List.length_append, HN5.out, (CodeM.fx_length _ _)])
      have hn6 : 37 ≤ 5000 := by omega
      rw [hln] at hO6
      clear hln hOv hgt hBt hbs hRt hn5
      cases clr with
      | true =>
        obtain ⟨d0, d1, d2, d3, d4, d5, d6, d7, d8, d9, d10, d11, d12, d13, d14⟩ := (hx.below hB6 hgl).c15
        have hOv := hO6.alloc (.cells #[.int .u8 1] 5)
        have hBt : Below b0 V00 (V6.alloc (.cells #[.int .u8 1] 5)) := hB6.alloc (Nat.le_trans hb0le hB6.size) _
        have hbs := hBt.size
        clear hO6 hB6
        go_wp2_with (at_builtin; refine wpl_app' _ rfl (.tmp 69) (.tmp 71) rfl b0 A6 c6 l6 37 rfl HN6.out hOv (some ⟨V6.heap.size, 0, none⟩) 1 ([CodeM.byte 1]) 1 rfl rfl (row_one V6 _ _ (by decide)) ?_ ?_ ?_)
        · omega
        · omega
        clear d0 d1 d2 d3 d4 d5 d6 d7 d8 d9 d10 d11 d12 d13 d14
        intro A7 c7 V7 hO7 hgt _
        have hB7 : Below b0 V00 V7 := hOv.grown_below (by rw [HN6.out]) hgt hBt (Nat.le_refl _) (Nat.le_trans hb0le hbs)
        obtain ⟨l7, hln⟩ : ∃ l', l6 ++ ([CodeM.byte 1]) = l' := ⟨_, rfl⟩
        have HL7 := Lib.hid hln
        have HN7 : Hid (l7.length = 38) := Lib.hid (by rw [← hln, List.length_append, HN6.out, List.length_singleton])
        have hn7 : 38 ≤ 5000 := by omega
        rw [hln] at hO7
        clear hln hOv hgt hBt hbs  hn6
        obtain ⟨d0, d1, d2, d3, d4, d5, d6, d7, d8, d9, d10, d11, d12, d13, d14⟩ := (hx.below hB7 hgl).c15
        go_wp2_with fail
        refine (reftext_at uA un uc undo V7 (HS.out.below (by rw [HBB.out]; exact hB7)).ru HS.out.lu (by omega)).mono ?_
        rintro e Vt ⟨At, nt, ct, rfl, hnt, hOt, hbt⟩
        clear d0 d1 d2 d3 d4 d5 d6 d7 d8 d9 d10 d11 d12 d13 d14
        obtain rfl : pu = nt := by rw [← hnt.out]; exact (HPU.out).symm
        have hOv := hO7.below hbt
        have hBt := hB7.trans (hbt.mono (Nat.le_trans hb0le hB7.size))
        have hRt := hOt.row
        have hbs := hBt.size
        clear hO7 hB7 hOt hbt hnt
        go_wp2_with (at_builtin; refine wpl_app' _ rfl (.tmp 73) (.tmp 76) rfl b0 A7 c7 l7 38 rfl HN7.out hOv At ct (CodeM.tx undo) pu rfl HPU.out hRt ?_ ?_ ?_)
        · omega
        · omega
        intro A8 c8 V8 hO8 hgt _
        have hB8 : Below b0 V00 V8 := hOv.grown_below (by rw [HN7.out]) hgt hBt (Nat.le_refl _) (Nat.le_trans hb0le hbs)
        obtain ⟨l8, hln⟩ : ∃ l', l7 ++ (CodeM.tx undo) = l' := ⟨_, rfl⟩
        have HL8 := Lib.hid hln
        obtain ⟨n8, hsn⟩ : ∃ q, 38 + pu = q := ⟨_, rfl⟩
        have HN8 : Hid (l8.length = n8) := Lib.hid (by rw [← hln, List.length_append, HN7.out, HPU.out]; exact hsn)
        have hn8 : n8 ≤ 104 := by omega
        rw [hln] at hO8
        clear hln hOv hgt hBt hbs hRt hn7
        simp only [hsn]
        clear hsn
        have HBY : Hid (LogM.body ⟨2, lsn, epoch, txn, page, off, old, new, undo, prev, next, true, stamp, opn, dirty⟩ = l8) := Lib.hid (by unfold LogM.body LogM.tail; rw [HHD.out, ← HL8.out, ← HL7.out, ← HL6.out, ← HL5.out, ← HL4.out]; simp [List.append_assoc, LogM.clrB])
        go_wp2
        go_meet
        case rel => exact ⟨A8, n8, c8, rfl, by rw [HBY.out]; exact hO8, by rw [HBY.out]; exact HN8.out, by omega, hB8⟩
      | false =>
        obtain ⟨d0, d1, d2, d3, d4, d5, d6, d7, d8, d9, d10, d11, d12, d13, d14⟩ := (hx.below hB6 hgl).c15
        have hOv := hO6.alloc (.cells #[.int .u8 0] 5)
        have hBt : Below b0 V00 (V6.alloc (.cells #[.int .u8 0] 5)) := hB6.alloc (Nat.le_trans hb0le hB6.size) _
        have hbs := hBt.size
        clear hO6 hB6
        go_wp2_with (at_builtin; refine wpl_app' _ rfl (.tmp 69) (.tmp 71) rfl b0 A6 c6 l6 37 rfl HN6.out hOv (some ⟨V6.heap.size, 0, none⟩) 1 ([CodeM.byte 0]) 1 rfl rfl (row_one V6 _ _ (by decide)) ?_ ?_ ?_)
        · omega
        · omega
        clear d0 d1 d2 d3 d4 d5 d6 d7 d8 d9 d10 d11 d12 d13 d14
        intro A7 c7 V7 hO7 hgt _
        have hB7 : Below b0 V00 V7 := hOv.grown_below (by rw [HN6.out]) hgt hBt (Nat.le_refl _) (Nat.le_trans hb0le hbs)
        obtain ⟨l7, hln⟩ : ∃ l', l6 ++ ([CodeM.byte 0]) = l' := ⟨_, rfl⟩
        have HL7 := Lib.hid hln
        have HN7 : Hid (l7.length = 38) := Lib.hid (by rw [← hln, List.length_append, HN6.out, List.length_singleton])
        have hn7 : 38 ≤ 5000 := by omega
        rw [hln] at hO7
        clear hln hOv hgt hBt hbs  hn6
        obtain ⟨d0, d1, d2, d3, d4, d5, d6, d7, d8, d9, d10, d11, d12, d13, d14⟩ := (hx.below hB7 hgl).c15
        go_wp2_with fail
        refine (reftext_at uA un uc undo V7 (HS.out.below (by rw [HBB.out]; exact hB7)).ru HS.out.lu (by omega)).mono ?_
        rintro e Vt ⟨At, nt, ct, rfl, hnt, hOt, hbt⟩
        clear d0 d1 d2 d3 d4 d5 d6 d7 d8 d9 d10 d11 d12 d13 d14
        obtain rfl : pu = nt := by rw [← hnt.out]; exact (HPU.out).symm
        have hOv := hO7.below hbt
        have hBt := hB7.trans (hbt.mono (Nat.le_trans hb0le hB7.size))
        have hRt := hOt.row
        have hbs := hBt.size
        clear hO7 hB7 hOt hbt hnt
        go_wp2_with (at_builtin; refine wpl_app' _ rfl (.tmp 73) (.tmp 76) rfl b0 A7 c7 l7 38 rfl HN7.out hOv At ct (CodeM.tx undo) pu rfl HPU.out hRt ?_ ?_ ?_)
        · omega
        · omega
        intro A8 c8 V8 hO8 hgt _
        have hB8 : Below b0 V00 V8 := hOv.grown_below (by rw [HN7.out]) hgt hBt (Nat.le_refl _) (Nat.le_trans hb0le hbs)
        obtain ⟨l8, hln⟩ : ∃ l', l7 ++ (CodeM.tx undo) = l' := ⟨_, rfl⟩
        have HL8 := Lib.hid hln
        obtain ⟨n8, hsn⟩ : ∃ q, 38 + pu = q := ⟨_, rfl⟩
        have HN8 : Hid (l8.length = n8) := Lib.hid (by rw [← hln, List.length_append, HN7.out, HPU.out]; exact hsn)
        have hn8 : n8 ≤ 104 := by omega
        rw [hln] at hO8
        clear hln hOv hgt hBt hbs hRt hn7
        simp only [hsn]
        clear hsn
        have HBY : Hid (LogM.body ⟨2, lsn, epoch, txn, page, off, old, new, undo, prev, next, false, stamp, opn, dirty⟩ = l8) := Lib.hid (by unfold LogM.body LogM.tail; rw [HHD.out, ← HL8.out, ← HL7.out, ← HL6.out, ← HL5.out, ← HL4.out]; simp [List.append_assoc, LogM.clrB])
        go_wp2
        go_meet
        case rel => exact ⟨A8, n8, c8, rfl, by rw [HBY.out]; exact hO8, by rw [HBY.out]; exact HN8.out, by omega, hB8⟩
    by_cases k3 : kind = 3
    · subst k3
      clear hk1 hk2
      obtain ⟨d0, d1, d2, d3, d4, d5, d6, d7, d8, d9, d10, d11, d12, d13, d14⟩ := (hx.below hB3 hgl).c15
      go_wp2_with fail
      refine (reffixed_any txn 8 V3 HF.out.txn (by omega)).mono ?_
      rintro e Vt ⟨At, nt, ct, rfl, hnt, hOt, hbt⟩
      clear d0 d1 d2 d3 d4 d5 d6 d7 d8 d9 d10 d11 d12 d13 d14
      obtain rfl : 8 = nt := by rw [← hnt.out]; exact ((CodeM.fx_length _ _)).symm
      have hOv := hO3.below hbt
      have hBt := hB3.trans (hbt.mono (Nat.le_trans hb0le hB3.size))
      have hRt := hOt.row
      have hbs := hBt.size
      clear hO3 hB3 hOt hbt hnt
      go_wp2_with (at_builtin; refine wpl_app' _ rfl (.tmp 80) (.tmp 83) rfl b0 A3 c3 l3 13 rfl HN3.out hOv At ct (CodeM.fx 8 txn) 8 rfl (CodeM.fx_length _ _) hRt ?_ ?_ ?_)
      · omega
      · omega
      intro A4 c4 V4 hO4 hgt _
      have hB4 : Below b0 V00 V4 := hOv.grown_below (by rw [HN3.out]) hgt hBt (Nat.le_refl _) (Nat.le_trans hb0le hbs)
      obtain ⟨l4, hln⟩ : ∃ l', l3 ++ (CodeM.fx 8 txn) = l' := ⟨_, rfl⟩
      have HL4 := Lib.hid hln
      have HN4 : Hid (l4.length = 21) := Lib.hid (by rw [← hln, List.length_append, HN3.out, (CodeM.fx_length _ _)])
      have hn4 : 21 ≤ 5000 := by omega
      rw [hln] at hO4
      clear hln hOv hgt hBt hbs hRt hn3
      obtain ⟨d0, d1, d2, d3, d4, d5, d6, d7, d8, d9, d10, d11, d12, d13, d14⟩ := (hx.below hB4 hgl).c15
      go_wp2_with fail
      refine (reffixed_any stamp 8 V4 HF.out.stamp (by omega)).mono ?_
      rintro e Vt ⟨At, nt, ct, rfl, hnt, hOt, hbt⟩
      clear d0 d1 d2 d3 d4 d5 d6 d7 d8 d9 d10 d11 d12 d13 d14
      obtain rfl : 8 = nt := by rw [← hnt.out]; exact ((CodeM.fx_length _ _)).symm
      have hOv := hO4.below hbt
      have hBt := hB4.trans (hbt.mono (Nat.le_trans hb0le hB4.size))
      have hRt := hOt.row
      have hbs := hBt.size
      clear hO4 hB4 hOt hbt hnt
      go_wp2_with (at_builtin; refine wpl_app' _ rfl (.tmp 85) (.tmp 88) rfl b0 A4 c4 l4 21 rfl HN4.out hOv At ct (CodeM.fx 8 stamp) 8 rfl (CodeM.fx_length _ _) hRt ?_ ?_ ?_)
      · omega
      · omega
      intro A5 c5 V5 hO5 hgt _
      have hB5 : Below b0 V00 V5 := hOv.grown_below (by rw [HN4.out]) hgt hBt (Nat.le_refl _) (Nat.le_trans hb0le hbs)
      obtain ⟨l5, hln⟩ : ∃ l', l4 ++ (CodeM.fx 8 stamp) = l' := ⟨_, rfl⟩
      have HL5 := Lib.hid hln
      have HN5 : Hid (l5.length = 29) := Lib.hid (by rw [← hln, List.length_append, HN4.out, (CodeM.fx_length _ _)])
      have hn5 : 29 ≤ 5000 := by omega
      rw [hln] at hO5
      clear hln hOv hgt hBt hbs hRt hn4
      have HBY : Hid (LogM.body ⟨3, lsn, epoch, txn, page, off, old, new, undo, prev, next, clr, stamp, opn, dirty⟩ = l5) := Lib.hid (by unfold LogM.body LogM.tail; rw [HHD.out, ← HL5.out, ← HL4.out]; simp [List.append_assoc, LogM.clrB])
      go_wp2
      go_meet
      case rel => exact ⟨A5, 29, c5, rfl, by rw [HBY.out]; exact hO5, by rw [HBY.out]; exact HN5.out, by omega, hB5⟩
    by_cases k4 : kind = 4
    · subst k4
      clear hk1 hk2
      obtain ⟨d0, d1, d2, d3, d4, d5, d6, d7, d8, d9, d10, d11, d12, d13, d14⟩ := (hx.below hB3 hgl).c15
      go_wp2_with fail
      refine (reffixed_any txn 8 V3 HF.out.txn (by omega)).mono ?_
      rintro e Vt ⟨At, nt, ct, rfl, hnt, hOt, hbt⟩
      clear d0 d1 d2 d3 d4 d5 d6 d7 d8 d9 d10 d11 d12 d13 d14
      obtain rfl : 8 = nt := by rw [← hnt.out]; exact ((CodeM.fx_length _ _)).symm
      have hOv := hO3.below hbt
      have hBt := hB3.trans (hbt.mono (Nat.le_trans hb0le hB3.size))
      have hRt := hOt.row
      have hbs := hBt.size
      clear hO3 hB3 hOt hbt hnt
      go_wp2_with (at_builtin; refine wpl_app' _ rfl (.tmp 92) (.tmp 95) rfl b0 A3 c3 l3 13 rfl HN3.out hOv At ct (CodeM.fx 8 txn) 8 rfl (CodeM.fx_length _ _) hRt ?_ ?_ ?_)
      · omega
      · omega
      intro A4 c4 V4 hO4 hgt _
      have hB4 : Below b0 V00 V4 := hOv.grown_below (by rw [HN3.out]) hgt hBt (Nat.le_refl _) (Nat.le_trans hb0le hbs)
      obtain ⟨l4, hln⟩ : ∃ l', l3 ++ (CodeM.fx 8 txn) = l' := ⟨_, rfl⟩
      have HL4 := Lib.hid hln
      have HN4 : Hid (l4.length = 21) := Lib.hid (by rw [← hln, List.length_append, HN3.out, (CodeM.fx_length _ _)])
      have hn4 : 21 ≤ 5000 := by omega
      rw [hln] at hO4
      clear hln hOv hgt hBt hbs hRt hn3
      have HBY : Hid (LogM.body ⟨4, lsn, epoch, txn, page, off, old, new, undo, prev, next, clr, stamp, opn, dirty⟩ = l4) := Lib.hid (by unfold LogM.body LogM.tail; rw [HHD.out, ← HL4.out]; simp [List.append_assoc, LogM.clrB])
      go_wp2
      go_meet
      case rel => exact ⟨A4, 21, c4, rfl, by rw [HBY.out]; exact hO4, by rw [HBY.out]; exact HN4.out, by omega, hB4⟩
    have hk5 : kind = 5 := by omega
    subst hk5
    have hmk := HM.out.2
    unfold LogM.mayK at hmk
    dsimp only at hmk
    rw [if_neg (by decide), if_neg (by decide), if_neg (by decide), if_pos rfl] at hmk
    have hpp := HS.out.lp
    have hdd := HS.out.ld
    have hcp := HS.out.cp
    have hcd := HS.out.cd
    unfold maxLen at hcp hcd
    dsimp only at hpp hdd hcp hcd
    rw [hpp, hdd] at hmk
    obtain ⟨hp16, hd64⟩ := hmk
    have HPP := Lib.hid hpp
    have HDD := Lib.hid hdd
    have HBD : Hid (LogM.body ⟨5, lsn, epoch, txn, page, off, old, new, undo, prev, next, clr, stamp, opn, dirty⟩ = l3 ++ CodeM.uv pn ++ opn.flatMap LogM.chB ++ CodeM.uv dn ++ dirty.flatMap LogM.dtB) := Lib.hid (by unfold LogM.body LogM.tail; rw [HHD.out]; simp [List.append_assoc, hpp, hdd])
    have hup := LogM.uv_le2 (n := pn) (by omega)
    have hud := LogM.uv_le2 (n := dn) (by omega)
    obtain ⟨pu, hpu⟩ : ∃ p, (CodeM.uv pn).length = p := ⟨_, rfl⟩
    obtain ⟨du, hdu⟩ : ∃ p, (CodeM.uv dn).length = p := ⟨_, rfl⟩
    rw [hpu] at hup
    rw [hdu] at hud
    have HPU := Lib.hid hpu
    have HDU := Lib.hid hdu
    have hwp : IntKind.u64.wrap (pn : Int) = (pn : Int) := by rw [IntKind.wrap_u64]; omega
    have hwd : IntKind.u64.wrap (dn : Int) = (dn : Int) := by rw [IntKind.wrap_u64]; omega
    clear k1 k2 k3 k4 hpp hdd hk1 hk2 hpu hdu
    obtain ⟨d0, d1, d2, d3, d4, d5, d6, d7, d8, d9, d10, d11, d12, d13, d14⟩ := (hx.below hB3 hgl).c15
    go_wp2_with fail
    refine (refputuv_any pn V3 (by omega)).mono ?_
    rintro e Vt ⟨At, nt, ct, rfl, hnt, hOt, hbt⟩
    clear d0 d1 d2 d3 d4 d5 d6 d7 d8 d9 d10 d11 d12 d13 d14
    obtain rfl : pu = nt := by rw [← hnt.out]; exact (HPU.out).symm
    have hOv := hO3.below hbt
    have hBt := hB3.trans (hbt.mono (Nat.le_trans hb0le hB3.size))
    have hRt := hOt.row
    have hbs := hBt.size
    clear hO3 hB3 hOt hbt hnt
    go_wp2_with (at_builtin; refine wpl_app' _ rfl (.tmp 99) (.tmp 104) rfl b0 A3 c3 l3 13 rfl HN3.out hOv At ct (CodeM.uv pn) pu rfl HPU.out hRt ?_ ?_ ?_)
    · omega
    · omega
    intro A4 c4 V4 hO4 hgt _
    have hB4 : Below b0 V00 V4 := hOv.grown_below (by rw [HN3.out]) hgt hBt (Nat.le_refl _) (Nat.le_trans hb0le hbs)
    obtain ⟨l4, hln⟩ : ∃ l', l3 ++ (CodeM.uv pn) = l' := ⟨_, rfl⟩
    have HL4 := Lib.hid hln
    obtain ⟨n4, hsn⟩ : ∃ q, 13 + pu = q := ⟨_, rfl⟩
    have HN4 : Hid (l4.length = n4) := Lib.hid (by rw [← hln, List.length_append, HN3.out, HPU.out]; exact hsn)
    have hn4 : n4 ≤ 15 := by omega
    rw [hln] at hO4
    clear hln hOv hgt hBt hbs hRt hn3
    simp only [hsn]
    clear hsn
    obtain ⟨d0, d1, d2, d3, d4, d5, d6, d7, d8, d9, d10, d11, d12, d13, d14⟩ := (hx.below hB4 hgl).c15
    go_wp2
    clear d0 d1 d2 d3 d4 d5 d6 d7 d8 d9 d10 d11 d12 d13 d14
    go_loopw [3, 5] (fun b i wr => ∃ (q : Nat) (A : Option Addr) (n c : Nat), b = .slice A n c ∧ i = .int .i64 (q : Int) ∧ q ≤ pn ∧ Hid ((l4 ++ (opn.take q).flatMap LogM.chB).length = n) ∧ n ≤ 15 + 24 * q ∧ Own wr b0 A c (l4 ++ (opn.take q).flatMap LogM.chB) ∧ Below b0 V00 wr) (fun _ i _ => pn - (RowKit.intOf i).toNat)
    case atStart => exact ⟨0, A4, n4, c4, rfl, rfl, Nat.zero_le _, Lib.hid (by simpa using HN4.out), by omega, by simpa using hO4, hB4⟩
    case round =>
      clear hO4 hB4 hn4
      obtain ⟨q, Ax, nx, cx, rfl, rfl, hq, HNx, hnx, hOx, hBx⟩ := hrel
      by_cases hlt : q < pn
      · obtain ⟨x, hxq⟩ : ∃ x, opn[q]? = some x := ⟨_, List.getElem?_eq_getElem (by rw [HPP.out]; exact hlt)⟩
        obtain ⟨u1, u2, u3⟩ := x
        obtain ⟨b', o', hpA, _⟩ := row_ch (HS.out.below (by rw [HBB.out]; exact hBx)).rp hxq
        dsimp only at hpA
        obtain ⟨hu1, hu2, hu3⟩ := HF.out.opn _ (List.mem_of_getElem? hxq)
        dsimp only at hu1 hu2 hu3
        have HT : Hid (l4 ++ (opn.take (q + 1)).flatMap LogM.chB = l4 ++ (opn.take q).flatMap LogM.chB ++ CodeM.fx 8 u1 ++ CodeM.fx 8 u2 ++ CodeM.fx 8 u3) := Lib.hid (by rw [take_flat _ hxq]; simp [LogM.chB, List.append_assoc])
        have HXQ := Lib.hid hxq
        obtain ⟨lx, hll⟩ : ∃ ll, l4 ++ (opn.take q).flatMap LogM.chB = ll := ⟨_, rfl⟩
        rw [hll] at HT HNx hOx
        have HU := Lib.hid (And.intro hu1 (And.intro hu2 hu3))
        clear hxq hll hu1 hu2 hu3
        subst hpA
        obtain ⟨_, _, hcx, e1, e2, e3⟩ := row_ch (HS.out.below (by rw [HBB.out]; exact hBx)).rp HXQ.out
        cases hcx
        obtain ⟨d0, d1, d2, d3, d4, d5, d6, d7, d8, d9, d10, d11, d12, d13, d14⟩ := (hx.below hBx hgl).c15
        go_wp2_with fail
        refine (reffixed_any u1 8 wr HU.out.1 (by omega)).mono ?_
        rintro e Vt ⟨At, nt, ct, rfl, hnt, hOt, hbt⟩
        clear d0 d1 d2 d3 d4 d5 d6 d7 d8 d9 d10 d11 d12 d13 d14 e1 e2 e3
        obtain rfl : 8 = nt := by rw [← hnt.out]; exact ((CodeM.fx_length _ _)).symm
        have hOv := hOx.below hbt
        have hBt := hBx.trans (hbt.mono (Nat.le_trans hb0le hBx.size))
        have hRt := hOt.row
        have hbs := hBt.size
        clear hOx hBx hOt hbt hnt
        go_wp2_with (at_builtin; refine wpl_app' _ rfl (.tmp 113) (.tmp 120) rfl b0 Ax cx lx nx rfl HNx.out hOv At ct (CodeM.fx 8 u1) 8 rfl (CodeM.fx_length _ _) hRt ?_ ?_ ?_)
        · omega
        · omega
        intro A5 c5 V5 hO5 hgt _
        have hB5 : Below b0 V00 V5 := hOv.grown_below (by rw [HNx.out]) hgt hBt (Nat.le_refl _) (Nat.le_trans hb0le hbs)
        obtain ⟨l5, hln⟩ : ∃ l', lx ++ (CodeM.fx 8 u1) = l' := ⟨_, rfl⟩
        have HL5 := Lib.hid hln
        obtain ⟨n5, hsn⟩ : ∃ q, nx + 8 = q := ⟨_, rfl⟩
        have HN5 : Hid (l5.length = n5) := Lib.hid (by rw [← hln, List.length_append, HNx.out, (CodeM.fx_length _ _)]; exact hsn)
        have hn5 : n5 ≤ 15 + 24 * q + 8 := by omega
        rw [hln] at hO5
        clear hln hOv hgt hBt hbs hRt hnx
        simp only [hsn]
        clear hsn
        obtain ⟨_, _, hcx, e1, e2, e3⟩ := row_ch (HS.out.below (by rw [HBB.out]; exact hB5)).rp HXQ.out
        cases hcx
        obtain ⟨d0, d1, d2, d3, d4, d5, d6, d7, d8, d9, d10, d11, d12, d13, d14⟩ := (hx.below hB5 hgl).c15
        go_wp2_with fail
        refine (reffixed_any u2 8 V5 HU.out.2.1 (by omega)).mono ?_
        rintro e Vt ⟨At, nt, ct, rfl, hnt, hOt, hbt⟩
        clear d0 d1 d2 d3 d4 d5 d6 d7 d8 d9 d10 d11 d12 d13 d14 e1 e2 e3
        obtain rfl : 8 = nt := by rw [← hnt.out]; exact ((CodeM.fx_length _ _)).symm
        have hOv := hO5.below hbt
        have hBt := hB5.trans (hbt.mono (Nat.le_trans hb0le hB5.size))
        have hRt := hOt.row
        have hbs := hBt.size
        clear hO5 hB5 hOt hbt hnt
        go_wp2_with (at_builtin; refine wpl_app' _ rfl (.tmp 122) (.tmp 129) rfl b0 A5 c5 l5 n5 rfl HN5.out hOv At ct (CodeM.fx 8 u2) 8 rfl (CodeM.fx_length _ _) hRt ?_ ?_ ?_)
        · omega
        · omega
        intro A6 c6 V6 hO6 hgt _
        have hB6 : Below b0 V00 V6 := hOv.grown_below (by rw [HN5.out]) hgt hBt (Nat.le_refl _) (Nat.le_trans hb0le hbs)
        obtain ⟨l6, hln⟩ : ∃ l', l5 ++ (CodeM.fx 8 u2) = l' := ⟨_, rfl⟩
        have HL6 := Lib.hid hln
        obtain ⟨n6, hsn⟩ : ∃ q, n5 + 8 = q := ⟨_, rfl⟩
        have HN6 : Hid (l6.length = n6) := Lib.hid (by rw [← hln, List.length_append, HN5.out, (CodeM.fx_length _ _)]; exact hsn)
        have hn6 : n6 ≤ 15 + 24 * q + 16 := by omega
        rw [hln] at hO6
        clear hln hOv hgt hBt hbs hRt hn5
        simp only [hsn]
        clear hsn
        obtain ⟨_, _, hcx, e1, e2, e3⟩ := row_ch (HS.out.below (by rw [HBB.out]; exact hB6)).rp HXQ.out
        cases hcx
        obtain ⟨d0, d1, d2, d3, d4, d5, d6, d7, d8, d9, d10, d11, d12, d13, d14⟩ := (hx.below hB6 hgl).c15
        go_wp2_with fail
        refine (reffixed_any u3 8 V6 HU.out.2.2 (by omega)).mono ?_
        rintro e Vt ⟨At, nt, ct, rfl, hnt, hOt, hbt⟩
        clear d0 d1 d2 d3 d4 d5 d6 d7 d8 d9 d10 d11 d12 d13 d14 e1 e2 e3
        obtain rfl : 8 = nt := by rw [← hnt.out]; exact ((CodeM.fx_length _ _)).symm
        have hOv := hO6.below hbt
        have hBt := hB6.trans (hbt.mono (Nat.le_trans hb0le hB6.size))
        have hRt := hOt.row
        have hbs := hBt.size
        clear hO6 hB6 hOt hbt hnt
        go_wp2_with (at_builtin; refine wpl_app' _ rfl (.tmp 131) (.tmp 138) rfl b0 A6 c6 l6 n6 rfl HN6.out hOv At ct (CodeM.fx 8 u3) 8 rfl (CodeM.fx_length _ _) hRt ?_ ?_ ?_)
        · omega
        · omega
        intro A7 c7 V7 hO7 hgt _
        have hB7 : Below b0 V00 V7 := hOv.grown_below (by rw [HN6.out]) hgt hBt (Nat.le_refl _) (Nat.le_trans hb0le hbs)
        obtain ⟨l7, hln⟩ : ∃ l', l6 ++ (CodeM.fx 8 u3) = l' := ⟨_, rfl⟩
        have HL7 := Lib.hid hln
        obtain ⟨n7, hsn⟩ : ∃ q, n6 + 8 = q := ⟨_, rfl⟩
        have HN7 : Hid (l7.length = n7) := Lib.hid (by rw [← hln, List.length_append, HN6.out, (CodeM.fx_length _ _)]; exact hsn)
        have hn7 : n7 ≤ 15 + 24 * (q + 1) := by omega
        rw [hln] at hO7
        clear hln hOv hgt hBt hbs hRt hn6
        simp only [hsn]
        clear hsn
        have HEQ : Hid (l4 ++ (opn.take (q + 1)).flatMap LogM.chB = l7) := Lib.hid (by rw [HT.out, HL5.out, HL6.out, HL7.out])
        go_wp2
        go_roundw
        case rel => exact ⟨q + 1, A7, n7, c7, rfl, by go_num, by omega, by rw [HEQ.out]; exact HN7, hn7, by rw [HEQ.out]; exact hO7, hB7⟩
        case measure => simp [RowKit.intOf]; omega
      · obtain rfl : q = pn := by omega
        have htk : opn.take q = opn := List.take_of_length_le (by rw [HPP.out]; exact Nat.le_refl _)
        rw [htk] at HNx hOx
        obtain ⟨lx, hlo⟩ : ∃ lo, l4 ++ opn.flatMap LogM.chB = lo := ⟨_, rfl⟩
        have HLO := Lib.hid hlo
        rw [hlo] at HNx hOx
        clear htk hlo
        obtain ⟨d0, d1, d2, d3, d4, d5, d6, d7, d8, d9, d10, d11, d12, d13, d14⟩ := (hx.below hBx hgl).c15
        go_wp2_with fail
        refine (refputuv_any dn wr (by omega)).mono ?_
        rintro e Vt ⟨At, nt, ct, rfl, hnt, hOt, hbt⟩
        clear d0 d1 d2 d3 d4 d5 d6 d7 d8 d9 d10 d11 d12 d13 d14
        obtain rfl : du = nt := by rw [← hnt.out]; exact (HDU.out).symm
        have hOv := hOx.below hbt
        have hBt := hBx.trans (hbt.mono (Nat.le_trans hb0le hBx.size))
        have hRt := hOt.row
        have hbs := hBt.size
        clear hOx hBx hOt hbt hnt
        go_wp2_with (at_builtin; refine wpl_app' _ rfl (.tmp 140) (.tmp 145) rfl b0 Ax cx lx nx rfl HNx.out hOv At ct (CodeM.uv dn) du rfl HDU.out hRt ?_ ?_ ?_)
        · omega
        · omega
        intro A8 c8 V8 hO8 hgt _
        have hB8 : Below b0 V00 V8 := hOv.grown_below (by rw [HNx.out]) hgt hBt (Nat.le_refl _) (Nat.le_trans hb0le hbs)
        obtain ⟨l8, hln⟩ : ∃ l', lx ++ (CodeM.uv dn) = l' := ⟨_, rfl⟩
        have HL8 := Lib.hid hln
        obtain ⟨n8, hsn⟩ : ∃ q, nx + du = q := ⟨_, rfl⟩
        have HN8 : Hid (l8.length = n8) := Lib.hid (by rw [← hln, List.length_append, HNx.out, HDU.out]; exact hsn)
        have hn8 : n8 ≤ 401 := by omega
        rw [hln] at hO8
        clear hln hOv hgt hBt hbs hRt hnx
        simp only [hsn]
        clear hsn
        obtain ⟨d0, d1, d2, d3, d4, d5, d6, d7, d8, d9, d10, d11, d12, d13, d14⟩ := (hx.below hB8 hgl).c15
        go_wp2
        clear d0 d1 d2 d3 d4 d5 d6 d7 d8 d9 d10 d11 d12 d13 d14
        go_loopw [3, 6] (fun b i wr => ∃ (j : Nat) (A : Option Addr) (n c : Nat), b = .slice A n c ∧ i = .int .i64 (j : Int) ∧ j ≤ dn ∧ Hid ((l8 ++ (dirty.take j).flatMap LogM.dtB).length = n) ∧ n ≤ 401 + 12 * j ∧ Own wr b0 A c (l8 ++ (dirty.take j).flatMap LogM.dtB) ∧ Below b0 V00 wr) (fun _ i _ => dn - (RowKit.intOf i).toNat)
        case atStart => exact ⟨0, A8, n8, c8, rfl, rfl, Nat.zero_le _, Lib.hid (by simpa using HN8.out), by omega, by simpa using hO8, hB8⟩
        case round =>
          clear hO8 hB8 hn8
          obtain ⟨j, Az, nz, cz, rfl, rfl, hj, HNz, hnz, hOz, hBz⟩ := hrel
          by_cases hlt2 : j < dn
          · obtain ⟨x, hxq⟩ : ∃ x, dirty[j]? = some x := ⟨_, List.getElem?_eq_getElem (by rw [HDD.out]; exact hlt2)⟩
            obtain ⟨u1, u2⟩ := x
            obtain ⟨b', o', hdA, _⟩ := row_dt (HS.out.below (by rw [HBB.out]; exact hBz)).rd hxq
            dsimp only at hdA
            obtain ⟨hu1, hu2⟩ := HF.out.dirty _ (List.mem_of_getElem? hxq)
            dsimp only at hu1 hu2
            have HT : Hid (l8 ++ (dirty.take (j + 1)).flatMap LogM.dtB = l8 ++ (dirty.take j).flatMap LogM.dtB ++ CodeM.fx 4 u1 ++ CodeM.fx 8 u2) := Lib.hid (by rw [take_flat _ hxq]; simp [LogM.dtB, List.append_assoc])
            have HXQ := Lib.hid hxq
            obtain ⟨lz, hll⟩ : ∃ ll, l8 ++ (dirty.take j).flatMap LogM.dtB = ll := ⟨_, rfl⟩
            rw [hll] at HT HNz hOz
            have HU := Lib.hid (And.intro hu1 hu2)
            have hwu : IntKind.u64.wrap (u1 : Int) = (u1 : Int) := by rw [IntKind.wrap_u64]; omega
            clear hxq hll hu1 hu2
            subst hdA
            obtain ⟨_, _, hcx, e1, e2⟩ := row_dt (HS.out.below (by rw [HBB.out]; exact hBz)).rd HXQ.out
            cases hcx
            obtain ⟨d0, d1, d2, d3, d4, d5, d6, d7, d8, d9, d10, d11, d12, d13, d14⟩ := (hx.below hBz hgl).c15
            go_wp2_with fail
            refine (reffixed_any u1 4 wr (Nat.lt_trans HU.out.1 (by omega)) (by omega)).mono ?_
            rintro e Vt ⟨At, nt, ct, rfl, hnt, hOt, hbt⟩
            clear d0 d1 d2 d3 d4 d5 d6 d7 d8 d9 d10 d11 d12 d13 d14 e1 e2
            obtain rfl : 4 = nt := by rw [← hnt.out]; exact ((CodeM.fx_length _ _)).symm
            have hOv := hOz.below hbt
            have hBt := hBz.trans (hbt.mono (Nat.le_trans hb0le hBz.size))
            have hRt := hOt.row
            have hbs := hBt.size
            clear hOz hBz hOt hbt hnt
            go_wp2_with (at_builtin; refine wpl_app' _ rfl (.tmp 154) (.tmp 162) rfl b0 Az cz lz nz rfl HNz.out hOv At ct (CodeM.fx 4 u1) 4 rfl (CodeM.fx_length _ _) hRt ?_ ?_ ?_)
            · omega
            · omega
            intro A9 c9 V9 hO9 hgt _
            have hB9 : Below b0 V00 V9 := hOv.grown_below (by rw [HNz.out]) hgt hBt (Nat.le_refl _) (Nat.le_trans hb0le hbs)
            obtain ⟨l9, hln⟩ : ∃ l', lz ++ (CodeM.fx 4 u1) = l' := ⟨_, rfl⟩
            have HL9 := Lib.hid hln
            obtain ⟨n9, hsn⟩ : ∃ q, nz + 4 = q := ⟨_, rfl⟩
            have HN9 : Hid (l9.length = n9) := Lib.hid (by rw [← hln, List.length_append, HNz.out, (CodeM.fx_length _ _)]; exact hsn)
            have hn9 : n9 ≤ 401 + 12 * j + 4 := by omega
            rw [hln] at hO9
            clear hln hOv hgt hBt hbs hRt hnz
            simp only [hsn]
            clear hsn
            obtain ⟨_, _, hcx, e1, e2⟩ := row_dt (HS.out.below (by rw [HBB.out]; exact hB9)).rd HXQ.out
            cases hcx
            obtain ⟨d0, d1, d2, d3, d4, d5, d6, d7, d8, d9, d10, d11, d12, d13, d14⟩ := (hx.below hB9 hgl).c15
            go_wp2_with fail
            refine (reffixed_any u2 8 V9 HU.out.2 (by omega)).mono ?_
            rintro e Vt ⟨At, nt, ct, rfl, hnt, hOt, hbt⟩
            clear d0 d1 d2 d3 d4 d5 d6 d7 d8 d9 d10 d11 d12 d13 d14 e1 e2
            obtain rfl : 8 = nt := by rw [← hnt.out]; exact ((CodeM.fx_length _ _)).symm
            have hOv := hO9.below hbt
            have hBt := hB9.trans (hbt.mono (Nat.le_trans hb0le hB9.size))
            have hRt := hOt.row
            have hbs := hBt.size
            clear hO9 hB9 hOt hbt hnt
            go_wp2_with (at_builtin; refine wpl_app' _ rfl (.tmp 164) (.tmp 171) rfl b0 A9 c9 l9 n9 rfl HN9.out hOv At ct (CodeM.fx 8 u2) 8 rfl (CodeM.fx_length _ _) hRt ?_ ?_ ?_)
            · omega
            · omega
            intro A10 c10 V10 hO10 hgt _
            have hB10 : Below b0 V00 V10 := hOv.grown_below (by rw [HN9.out]) hgt hBt (Nat.le_refl _) (Nat.le_trans hb0le hbs)
            obtain ⟨l10, hln⟩ : ∃ l', l9 ++ (CodeM.fx 8 u2) = l' := ⟨_, rfl⟩
            have HL10 := Lib.hid hln
            obtain ⟨n10, hsn⟩ : ∃ q, n9 + 8 = q := ⟨_, rfl⟩
            have HN10 : Hid (l10.length = n10) := Lib.hid (by rw [← hln, List.length_append, HN9.out, (CodeM.fx_length _ _)]; exact hsn)
            have hn10 : n10 ≤ 401 + 12 * (j + 1) := by omega
            rw [hln] at hO10
            clear hln hOv hgt hBt hbs hRt hn9
            simp only [hsn]
            clear hsn
            have HEQ : Hid (l8 ++ (dirty.take (j + 1)).flatMap LogM.dtB = l10) := Lib.hid (by rw [HT.out, HL9.out, HL10.out])
            go_wp2
            go_roundw
            case rel => exact ⟨j + 1, A10, n10, c10, rfl, by go_num, by omega, by rw [HEQ.out]; exact HN10, hn10, by rw [HEQ.out]; exact hO10, hB10⟩
            case measure => simp [RowKit.intOf]; omega
          · obtain rfl : j = dn := by omega
            have htk : dirty.take j = dirty := List.take_of_length_le (by rw [HDD.out]; exact Nat.le_refl _)
            rw [htk] at HNz hOz
            have HBE : Hid (LogM.body ⟨5, lsn, epoch, txn, page, off, old, new, undo, prev, next, clr, stamp, opn, dirty⟩ = l8 ++ dirty.flatMap LogM.dtB) := Lib.hid (by rw [HBD.out, ← HL8.out, ← HLO.out, ← HL4.out])
            clear htk
            obtain ⟨d0, d1, d2, d3, d4, d5, d6, d7, d8, d9, d10, d11, d12, d13, d14⟩ := (hx.below hBz hgl).c15
            go_wp2
            go_meet
            case rel => exact ⟨Az, nz, cz, rfl, by rw [HBE.out]; exact hOz, by rw [HBE.out]; exact HNz.out, by omega, hBz⟩
  case rest =>
    obtain ⟨A, n, c, rfl, hO, hn, hn12, hB⟩ := hcut
    obtain ⟨bd, hbd⟩ : ∃ bd, LogM.body ⟨kind, lsn, epoch, txn, page, off, old, new, undo, prev, next, clr, stamp, opn, dirty⟩ = bd := ⟨_, rfl⟩
    have HRS : Hid (LogM.rest ⟨kind, lsn, epoch, txn, page, off, old, new, undo, prev, next, clr, stamp, opn, dirty⟩ = CodeM.fx 2 (n + 6) ++ bd) := Lib.hid (by unfold LogM.rest; rw [hn, hbd])
    have HFM : Hid (LogM.form ⟨kind, lsn, epoch, txn, page, off, old, new, undo, prev, next, clr, stamp, opn, dirty⟩ = CodeM.fx 4 (CrcM.sum (CodeM.fx 2 (n + 6) ++ bd)).toNat ++ (CodeM.fx 2 (n + 6) ++ bd)) := Lib.hid (by unfold LogM.form; rw [HRS.out])
    rw [hbd] at hn hO
    clear hbd
    have hw64 : IntKind.u64.wrap ((n : Int) + 6) = ((n + 6 : Nat) : Int) := by rw [IntKind.wrap_u64]; omega
    have HN := Lib.hid hn
    clear hn hk1 hk2
    go_wp2_with fail
    refine (reffixed_any (n + 6) 2 wc (by omega) (by omega)).mono ?_
    rintro e w1 ⟨A1, n1, c1, rfl, hn1, hO1, hb1⟩
    have hwb : b0 ≤ wc.heap.size := Nat.le_trans hb0le hB.size
    have hB1 := hB.trans (hb1.mono hwb)
    have hR1 := (hO.below hb1).row
    obtain rfl : 2 = n1 := by rw [← hn1.out]; exact (CodeM.fx_length _ _).symm
    have hbase : wc.heap.size ≤ w1.heap.size := hb1.size
    clear hn1 hO hB
    go_wp2_with (at_builtin; refine wpl_app' _ rfl (.tmp 178) (.tmp 179) rfl wc.heap.size A1 c1 (CodeM.fx 2 (n + 6)) 2 rfl (CodeM.fx_length _ _) hO1 A c bd n rfl HN.out hR1 ?_ ?_ ?_)
    · omega
    · exact hbase
    intro A3 c3 w3 h3 hg3 _
    have hB3 : Below b0 V00 w3 := hO1.grown_below (by rw [CodeM.fx_length]) hg3 hB1 hwb (Nat.le_trans hb0le hB1.size)
    clear hO1 hg3 hB1 hR1 hbase hw64 hwb
    obtain ⟨rs, hrs⟩ : ∃ rs, CodeM.fx 2 (n + 6) ++ bd = rs := ⟨_, rfl⟩
    have hrl : rs.length = 2 + n := by rw [← hrs, List.length_append, CodeM.fx_length, HN.out]
    rw [hrs] at h3 HFM HRS
    have HRL := Lib.hid hrl
    have hsl := (CrcM.sum rs).isLt
    obtain ⟨sm, hsm⟩ : ∃ sm, (CrcM.sum rs).toNat = sm := ⟨_, rfl⟩
    have hcall := refsum_at A3 c3 (2 + n) rs w3 h3.row hrl.symm (by omega)
    rw [hsm] at hcall hsl HFM
    have HC := Lib.hid hcall
    have hwsm : IntKind.u64.wrap (sm : Int) = (sm : Int) := by rw [IntKind.wrap_u64]; omega
    clear hrs hrl hsm hcall
    go_wp2_with fail
    refine HC.out.mono ?_
    rintro e w4 ⟨rfl, rfl⟩
    clear HC
    have HSv := Lib.hid (And.intro h3 hB3)
    clear h3 hB3
    go_wp2_with fail
    refine (reffixed_any sm 4 w3 (by omega) (by omega)).mono ?_
    rintro e w5 ⟨A5, n5, c5, rfl, hn5, hO5, hb5⟩
    obtain ⟨h3, hB3⟩ := HSv.out
    have hw3 : b0 ≤ w3.heap.size := Nat.le_trans hb0le hB3.size
    have hB5 := hB3.trans (hb5.mono hw3)
    have hR5 := (h3.below hb5).row
    obtain rfl : 4 = n5 := by rw [← hn5.out]; exact (CodeM.fx_length _ _).symm
    have hbase : w3.heap.size ≤ w5.heap.size := hb5.size
    clear hn5 h3 hB3 HSv
    go_wp2_with (at_builtin; refine wpl_app' _ rfl (.tmp 185) (.tmp 186) rfl w3.heap.size A5 c5 (CodeM.fx 4 sm) 4 rfl (CodeM.fx_length _ _) hO5 A3 c3 rs (2 + n) rfl HRL.out hR5 ?_ ?_ ?_)
    · omega
    · exact hbase
    intro A7 c7 w7 h7 hg7 _
    have hB7 : Below b0 V00 w7 := hO5.grown_below (by rw [CodeM.fx_length]) hg7 hB5 hw3 (Nat.le_trans hb0le hB5.size)
    have hv := HB0.out.size
    clear hO5 hg7 hB5 hR5 hbase
    go_wp2
    go_ret
    refine ⟨A7, _, c7, rfl, Lib.hid ?_, ?_, ?_⟩
    · rw [HFM.out, List.length_append, CodeM.fx_length, HRL.out]
    · rw [HFM.out]; exact h7.base_ (by have := HBB.out; omega)
    · exact HB0.out.trans (hB7.mono (by have := HBB.out; omega))
end Go.Proofs.Ytpgmhjjdnanlgaa
