/-
  What bytes are read as, as a request, by the program's word (stmt.ReadAsk).
  Conditions: the bytes lie in memory.
-/
import Derived.Test.YtaadfalklddhcaaZStmQ0
import Derived.Test.YtaadfalklddhcaaZStmQ2
import Derived.Test.YtaadfalklddhcaaZStmW11
namespace Go.Proofs.Ytaadfalklddhcaa
open Go.RowKit Go.Sort Go.Lib
set_option linter.unusedVariables false
set_option linter.unusedSimpArgs false
theorem Chg.below {B a b : Nat} {w w' : World} (h : Chg a b w w') (h1 : B ≤ a) (h2 : B ≤ b) (hs : B ≤ w.heap.size) : Below B w w' :=
  ⟨h.os, h.tape, h.output, h.size, fun k hk => h.block k (Nat.lt_of_lt_of_le hk hs) (by omega) (by omega)⟩
theorem Fresh.mono {b b' : Nat} {A : Option Addr} (h : Fresh b A) (hb : b' ≤ b) : Fresh b' A := fun a ha => Nat.le_trans hb (h a ha)
theorem Rqv.Fr.mono {s : Rqv} {b b' : Nat} (h : s.Fr b) (hb : b' ≤ b) : s.Fr b' := ⟨h.f1.mono hb, h.f2.mono hb, h.f3.mono hb, h.f4.mono hb⟩
/-- A list in new memory stays where one old block changes. -/
theorem row_fresh {w w' : World} {A : Option Addr} {xs : List Value} {g B : Nat} (h : Row w A xs) (hf : Fresh B A) (hg : w.grownBy w' (some g)) (hlt : g < B) : Row w' A xs := by
  rcases h with h | ⟨b, o, e, hc⟩
  · exact .inl h
  · refine .inr ⟨b, o, e, fun j u hu => hg.cell (hc j u hu) ?_⟩
    have := hf _ e
    simp only at this
    simp only [ne_eq, Option.some.injEq]
    omega
theorem at_fresh {w w' : World} {s : Rqv} {g B : Nat} (h : s.At w) (hf : s.Fr B) (hg : w.grownBy w' (some g)) (hlt : g < B) : s.At w' :=
  ⟨row_fresh h.r1 hf.f1 hg hlt, row_fresh h.r2 hf.f2 hg hlt, row_fresh h.r3 hf.f3 hg hlt, row_fresh h.r4 hf.f4 hg hlt, h.ok, h.l1, h.l2, h.l3, h.l4, h.m1, h.m2, h.m3, h.m4⟩
theorem at_res {w w' : World} {s : Rqv} {g : Nat} (h : s.At w) (hf : s.Fr (g + 2)) (hg : w.grownBy w' (some (g + 1))) : s.At w' := at_fresh h hf hg (by omega)
theorem neq_fn (fn : FuncId) (caps : Array Value) (w : World) : (binOp .neq 1 (.func (.func fn) #[] caps) .nilFunc).run Try.prog w = .ok (.bool true) w := by kernel_rfl
theorem neq_nil (w : World) : (binOp .neq 1 .nilFunc .nilFunc).run Try.prog w = .ok (.bool false) w := by kernel_rfl
def RqYes (x : Rq) (w : World) (e : Ending) (w' : World) : Prop := ∃ s : Rqv, e = .returned (.tuple #[.agg s.cells, .int .i64 0]) ∧ s.x = x ∧ s.At w' ∧ s.Fr w.heap.size ∧ Below w.heap.size w w'
def RqNo (w : World) (e : Ending) (w' : World) : Prop := e = .returned (.tuple #[.agg #[.int .i64 0, .int .u64 0, .slice none 0 0, .slice none 0 0, .int .u64 0, .int .u64 0, .int .i64 0, .slice none 0 0, .slice none 0 0, .int .i64 0], .int .i64 4]) ∧ Below w.heap.size w w'
def RqP (r : Option Rq) (w : World) (e : Ending) (w' : World) : Prop := match r with
  | none => RqNo w e w'
  | some x => RqYes x w e w'
set_option maxRecDepth 100000 in
set_option maxHeartbeats 16000000 in
theorem readask_any (A : Option Addr) (c : Nat) (b : List UInt8) (w : World) (hr : Row w A (bs b)) (hcap : b.length ≤ c) (hmx : c ≤ maxLen) (hlen : b.length ≤ 140737488355328) :
    Calls Try.prog 19 #[.slice A b.length c] w (RqP (StmM.read b) w) := by
  have HR0 := Lib.hid hr
  obtain ⟨RR, hRR⟩ : ∃ r, StmM.read b = r := ⟨_, rfl⟩
  rw [hRR]
  have HRR := Lib.hid hRR
  clear hRR hr
  have b0 : Below w.heap.size w ((w.alloc (.cells #[.slice A b.length c] 22)).alloc (.cells #[.int .i64 0, .int .u64 0, .slice none 0 0, .slice none 0 0, .int .u64 0, .int .u64 0, .int .i64 0, .slice none 0 0, .slice none 0 0, .int .i64 0] 42)) := ((Below.refl _ _).alloc (Nat.le_refl _) _).alloc (by simp) _
  have U1 := (Blk.new w 22 #[.slice A b.length c]).alloc (.cells #[.int .i64 0, .int .u64 0, .slice none 0 0, .slice none 0 0, .int .u64 0, .int .u64 0, .int .i64 0, .slice none 0 0, .slice none 0 0, .int .i64 0] 42)
  have U2 := Blk.new (w.alloc (.cells #[.slice A b.length c] 22)) 42 #[.int .i64 0, .int .u64 0, .slice none 0 0, .slice none 0 0, .int .u64 0, .int .u64 0, .int .i64 0, .slice none 0 0, .slice none 0 0, .int .i64 0]
  have e1 : (w.alloc (.cells #[.slice A b.length c] 22)).heap.size = w.heap.size + 1 := by simp
  rw [e1] at U2
  go_enter Try.func19, Try.ntmps19
  go_upto_region 1 with fail
  generalize (w.alloc (.cells #[.slice A b.length c] 22)).alloc (.cells #[.int .i64 0, .int .u64 0, .slice none 0 0, .slice none 0 0, .int .u64 0, .int .u64 0, .int .i64 0, .slice none 0 0, .slice none 0 0, .int .i64 0] 42) = W0 at *
  obtain ⟨g, hg⟩ : ∃ g, w.heap.size = g := ⟨_, rfl⟩
  have HG := Lib.hid hg
  rw [hg] at U1 U2 b0
  simp only [hg]
  clear hg e1
  have c0 := U1.cell 0
  simp only [List.getElem?_toArray, List.getElem?_cons_zero] at c0
  have HC := Lib.hid (newreader_any A c b W0 (HR0.out.below (by rw [HG.out]; exact b0)) hlen)
  go_wp2_with fail
  refine HC.out.mono ?_
  rintro e W1 ⟨gr, rfl, hgr, hRd, hb1⟩
  have hba : Below W1.heap.size W1 (W1.alloc (.cells #[.pointer (some ⟨gr, 0, none⟩)] 55)) := (Below.refl _ _).alloc (Nat.le_refl _) _
  have hb2 : Below W0.heap.size W0 (W1.alloc (.cells #[.pointer (some ⟨gr, 0, none⟩)] 55)) := hb1.trans (hba.mono hb1.size)
  have B2 : Hid (Below g w (W1.alloc (.cells #[.pointer (some ⟨gr, 0, none⟩)] 55))) := Lib.hid (below_step b0 hb2 (Nat.le_of_eq HG.out.symm))
  have K1 := U1.below hb2 U1.lt
  have K2 := U2.below hb2 U2.lt
  have K3 := Blk.new W1 55 #[.pointer (some ⟨gr, 0, none⟩)]
  have K4 : RdIn (W1.heap.size + 1) 111 (W1.alloc (.cells #[.pointer (some ⟨gr, 0, none⟩)] 55)) gr ⟨b, 0⟩ := RdAt.in_ (hRd.below hba) (by simp)
  have hgr1 : gr < W1.heap.size := hRd.lt
  have hgg : g + 1 < gr := Nat.lt_of_lt_of_le U2.lt hgr
  go_upto_region 2 with fail
  generalize hW2 : W1.alloc (.cells #[.pointer (some ⟨gr, 0, none⟩)] 55) = W2 at *
  have hs2 : W2.heap.size = W1.heap.size + 1 := by rw [← hW2]; simp
  generalize hgp : W1.heap.size = gp at *
  obtain ⟨BB, hBB⟩ : ∃ B, gp + 1 = B := ⟨_, rfl⟩
  rw [hBB] at K4 hs2
  have HS2 := Lib.hid hs2
  have HGR := Lib.hid (And.intro hgr1 (And.intro hgg hBB))
  have H2 := Lib.hid (And.intro K1 (And.intro K2 (And.intro K3 K4)))
  clear hW2 hgp U1 U2 b0 c0 HC hgr hRd hb1 hba hb2 K1 K2 K3 K4 hs2 hgr1 hgg hBB
  have cp := H2.out.2.2.1.cell 0
  simp only [List.getElem?_toArray, List.getElem?_cons_zero] at cp
  obtain ⟨p, hp⟩ : ∃ p, CodeM.Rd.fixed 1 ⟨b, 0⟩ = p := ⟨_, rfl⟩
  obtain ⟨k1, r1⟩ := p
  have hk1 : k1 < 256 := by have := StmM.fixed_lt1 ⟨b, 0⟩; rw [hp] at this; exact this
  have HC := u8I_any gr ⟨b, 0⟩ W2 H2.out.2.2.2
  rw [hp] at HC
  have HK1 := Lib.hid hp
  obtain ⟨k, hk⟩ : ∃ k : Int, (k1 : Int) = k := ⟨_, rfl⟩
  simp only [hk] at HC
  have hwk : IntKind.i64.wrap k = k := by rw [IntKind.wrap_i64]; omega
  have HKR : Hid (-9223372036854775808 ≤ k ∧ k < 9223372036854775808) := Lib.hid (by omega)
  have HKK := Lib.hid hk
  have HRC : Hid (StmM.readC b = StmM.readK k b r1) := Lib.hid (by unfold StmM.readC; rw [hp]; simp only [hk])
  clear hp hk hk1
  go_wp2_with fail
  refine HC.mono ?_
  rintro e W3 ⟨rfl, hR3, hg3⟩
  have hba : Below W3.heap.size W3 (W3.alloc (.cells #[.int .i64 k, .int .u64 0, .slice none 0 0, .slice none 0 0, .int .u64 0, .int .u64 0, .int .i64 0, .slice none 0 0, .slice none 0 0, .int .i64 0] 42)) := (Below.refl _ _).alloc (Nat.le_refl _) _
  have L1 := (H2.out.1.grown hg3 (by simp; have := HGR.out; omega)).below hba (H2.out.1.grown hg3 (by simp; have := HGR.out; omega)).lt
  have L2 := (H2.out.2.1.grown hg3 (by simp; have := HGR.out; omega)).below hba (H2.out.2.1.grown hg3 (by simp; have := HGR.out; omega)).lt
  have L3 := (H2.out.2.2.1.grown hg3 (by simp; have := HGR.out; omega)).below hba (H2.out.2.2.1.grown hg3 (by simp; have := HGR.out; omega)).lt
  have L4 := hR3.below hba
  have L5 := Blk.new W3 42 #[.int .i64 k, .int .u64 0, .slice none 0 0, .slice none 0 0, .int .u64 0, .int .u64 0, .int .i64 0, .slice none 0 0, .slice none 0 0, .int .i64 0]
  have hs3 : W2.heap.size ≤ W3.heap.size := hg3.size
  have B4 : Hid (Below g w (W3.alloc (.cells #[.int .i64 k, .int .u64 0, .slice none 0 0, .slice none 0 0, .int .u64 0, .int .u64 0, .int .i64 0, .slice none 0 0, .slice none 0 0, .int .i64 0] 42))) := Lib.hid ((B2.out.grown hg3 (Nat.le_trans (Nat.le_of_eq HG.out.symm) B2.out.size) (fun j hj => by injection hj with hj; have := HGR.out; omega)).trans (hba.mono (Nat.le_trans (Nat.le_trans (Nat.le_of_eq HG.out.symm) B2.out.size) hs3)))
  go_upto_region 3 with fail
  generalize hW4 : W3.alloc (.cells #[.int .i64 k, .int .u64 0, .slice none 0 0, .slice none 0 0, .int .u64 0, .int .u64 0, .int .i64 0, .slice none 0 0, .slice none 0 0, .int .i64 0] 42) = W4 at *
  have hs4 : W4.heap.size = W3.heap.size + 1 := by rw [← hW4]; simp
  generalize hgx : W3.heap.size = gx at *
  have HNE : Hid (Ne BB gr gp gx) := Lib.hid (by
    have h1 := HGR.out
    have h2 := HS2.out
    exact ⟨by omega, by omega, by omega, by omega⟩)
  have HBX : Hid (BB ≤ W4.heap.size) := Lib.hid (by have := HS2.out; omega)
  have H4 : Hid (RdX BB W4 gr gp gx r1 #[.int .i64 k, .int .u64 0, .slice none 0 0, .slice none 0 0, .int .u64 0, .int .u64 0, .int .i64 0, .slice none 0 0, .slice none 0 0, .int .i64 0] W4 ∧ Blk W4 g 22 #[.slice A b.length c] ∧ Blk W4 (g + 1) 42 #[.int .i64 0, .int .u64 0, .slice none 0 0, .slice none 0 0, .int .u64 0, .int .u64 0, .int .i64 0, .slice none 0 0, .slice none 0 0, .int .i64 0]) := Lib.hid ⟨⟨L4, L3, L5, Chg.refl _ _ _⟩, L1, L2⟩
  have HNR : Hid (g + 1 ≠ gr ∧ g + 1 ≠ gx ∧ g ≠ gr ∧ g ≠ gx ∧ g ≤ gr ∧ g ≤ gx) := Lib.hid (by
    have h1 := HGR.out
    have h2 := HS2.out
    omega)
  have HG2 : Hid (g + 2 ≤ W4.heap.size) := Lib.hid (by have h1 := HGR.out; have h2 := HS2.out; omega)
  obtain ⟨gm, hgm⟩ : ∃ gm, W4.heap.size = gm := ⟨_, rfl⟩
  have hM := MapAt.new W4
  have HBM : Hid (Below gm W4 (W4.alloc (.map #[] 0))) := Lib.hid ((Below.refl _ _).alloc (by rw [hgm]; exact Nat.le_refl _) _)
  rw [hgm] at hM
  have hmk : (Instr.makeMap 100 none).run Try.prog W4 = .ok (.map (some gm)) (W4.alloc (.map #[] 0)) := by rw [← hgm]; exact run_makeMap _ _
  have HGM := Lib.hid hgm
  clear hW4 hgx L1 L2 L3 L4 L5 hba hs3 hs4 hR3 hg3 H2 HC B2 cp
  go_upto_region 4 with (first | (refine wpl_insert rfl _ _ _ _ rfl Try.underlying100 Try.underlying39 gm _ _ rfl rfl rfl _ hM rfl ?_; intro W' hM hG; have HBM := Lib.hid (below_grown HBM.out hG (Nat.le_trans (Nat.le_of_eq HGM.out.symm) HBM.out.size) (Nat.le_refl _))))
  have HM : Hid (MapAt W' gm [(2, (Value.func (.func 62) #[] #[.pointer (some ⟨g, 0, none⟩), .pointer (some ⟨gx, 0, none⟩)])), (3, (Value.func (.func 63) #[] #[.pointer (some ⟨gp, 0, none⟩), .pointer (some ⟨gx, 0, none⟩)])), (4, (Value.func (.func 64) #[] #[.pointer (some ⟨gp, 0, none⟩), .pointer (some ⟨gx, 0, none⟩)])), (5, (Value.func (.func 65) #[] #[.pointer (some ⟨gp, 0, none⟩), .pointer (some ⟨gx, 0, none⟩)])), (6, (Value.func (.func 66) #[] #[.pointer (some ⟨gp, 0, none⟩), .pointer (some ⟨gx, 0, none⟩)])), (10, (Value.func (.func 70) #[] #[.pointer (some ⟨gp, 0, none⟩), .pointer (some ⟨gx, 0, none⟩)])), (11, (Value.func (.func 72) #[] #[.pointer (some ⟨gp, 0, none⟩), .pointer (some ⟨gx, 0, none⟩)]))]) := Lib.hid hM
  have hB : Below W4.heap.size W4 W' := by rw [HGM.out]; exact HBM.out
  have H12 : Hid (RdX BB W4 gr gp gx r1 #[.int .i64 k, .int .u64 0, .slice none 0 0, .slice none 0 0, .int .u64 0, .int .u64 0, .int .i64 0, .slice none 0 0, .slice none 0 0, .int .i64 0] W' ∧ Blk W' g 22 #[.slice A b.length c] ∧ Blk W' (g + 1) 42 #[.int .i64 0, .int .u64 0, .slice none 0 0, .slice none 0 0, .int .u64 0, .int .u64 0, .int .i64 0, .slice none 0 0, .slice none 0 0, .int .i64 0]) := Lib.hid ⟨H4.out.1.below hB, H4.out.2.1.below hB H4.out.2.1.lt, H4.out.2.2.below hB H4.out.2.2.lt⟩
  have B12s : Hid (g ≤ W'.heap.size) := Lib.hid (Nat.le_trans (Nat.le_trans (Nat.le_add_right g 2) HG2.out) hB.size)
  have B12 : Hid (Below g w W') := Lib.hid (B4.out.trans (hB.mono (Nat.le_trans (Nat.le_add_right g 2) HG2.out)))
  have HG2' : Hid (g + 2 ≤ W'.heap.size) := Lib.hid (Nat.le_trans HG2.out hB.size)
  clear hmk hM HBM hB H4 B4 HG2 HGM hwk
  have d0 := H12.out.1.x.c10.1
  by_cases k2 : k = 2
  · subst k2
    as_aux_lemma =>
    have hlk : (Instr.lookup 100 (.map (some gm)) (.int .i64 2) false).run Try.prog W' = .ok (Value.func (.func 62) #[] #[.pointer (some ⟨g, 0, none⟩), .pointer (some ⟨gx, 0, none⟩)]) W' := run_get Try.underlying100 Try.underlying39 HM.out 2 (2, (Value.func (.func 62) #[] #[.pointer (some ⟨g, 0, none⟩), .pointer (some ⟨gx, 0, none⟩)])) rfl
    obtain ⟨u, b', rfl⟩ : ∃ u b', b = u :: b' := by
      cases b with
      | nil => have h := HK1.out; simp [CodeM.Rd.fixed] at h; have h2 := HKK.out; omega
      | cons u b' => exact ⟨u, b', rfl⟩
    have HC := Lib.hid (rdask2 BB gr gp g gx 2 A c u b' W' H12.out.2.1 H12.out.1.x (HR0.out.below (by rw [HG.out]; exact B12.out)) hcap hlen (by decide))
    have hfn := neq_fn 62 #[.pointer (some ⟨g, 0, none⟩), .pointer (some ⟨gx, 0, none⟩)] W'
    go_wp2_with fail
    refine HC.out.mono ?_
    rintro e W13 ⟨s, rfl, hsx, hbx, hat, hfr, hchg⟩
    have HSX : Hid (s.x = StmM.readC (u :: b')) := Lib.hid (hsx.trans (HRC.out.trans rfl).symm)
    have HT : Hid (Blk W13 gx 42 s.cells ∧ Blk W13 (g + 1) 42 #[.int .i64 0, .int .u64 0, .slice none 0 0, .slice none 0 0, .int .u64 0, .int .u64 0, .int .i64 0, .slice none 0 0, .slice none 0 0, .int .i64 0] ∧ Blk W13 g 22 #[.slice A (u :: b').length c] ∧ s.At W13 ∧ Row W13 A (bs (u :: b')) ∧ Below g w W13 ∧ g ≤ w.heap.size) := Lib.hid ⟨hbx, hchg.blk H12.out.2.2 HNR.out.1 HNR.out.2.1, hchg.blk H12.out.2.1 HNR.out.2.2.1 HNR.out.2.2.2.1, hat, HR0.out.below (by rw [HG.out]; exact B12.out.trans (hchg.below HNR.out.2.2.2.2.1 HNR.out.2.2.2.2.2 B12s.out)), B12.out.trans (hchg.below HNR.out.2.2.2.2.1 HNR.out.2.2.2.2.2 B12s.out), Nat.le_of_eq HG.out.symm⟩
    have HFR : Hid (s.Fr w.heap.size) := Lib.hid (hfr.mono (by rw [HG.out]; exact B12s.out))
    have HAF : Hid (s.Fr (g + 2)) := Lib.hid (hfr.mono HG2'.out)
    clear hsx hbx hat hfr hchg d0 hlk HC
    have hbx := HT.out.1
    have hres := HT.out.2.1
    have hbb := HT.out.2.2.1
    go_upto_region 7 with fail
    go_wp2_with (first | (refine wpl_load_row rfl _ (.tmp 5) rfl gx (by go_simp) _ s.cells (0, 0) _ hbx Try.underlying42 rfl (by kernel_rfl) ?_))
    refine (ask_any s W13 HT.out.2.2.2.1).mono ?_
    rw [HSX.out]
    cases hm : StmM.may (StmM.readC (u :: b')) with
    | false =>
      rintro e W14 ⟨rfl, hb⟩
      have hN : StmM.read (u :: b') = none := if_neg (fun q => by rw [hm] at q; cases q.1)
      obtain rfl : RR = none := HRR.out.symm.trans hN
      have HB14 := Lib.hid (below_step HT.out.2.2.2.2.2.1 hb HT.out.2.2.2.2.2.2)
      have hres2 := hres.below hb hres.lt
      clear hb hbx hres hbb hm hN HT
      go_wp2_with (first | (refine wpList_store_row rfl _ (.tmp 2) (.tmp 46) rfl (g + 1) #[.int .i64 0, .int .u64 0, .slice none 0 0, .slice none 0 0, .int .u64 0, .int .u64 0, .int .i64 0, .slice none 0 0, .slice none 0 0, .int .i64 0] (by go_simp) (by go_simp) _ _ hres2 (by kernel_rfl) rfl (by simp [Value.oneCell']) ?_))
      refine ret_cell rfl (g + 1) #[.int .i64 0, .int .u64 0, .slice none 0 0, .slice none 0 0, .int .u64 0, .int .u64 0, .int .i64 0, .slice none 0 0, .slice none 0 0, .int .i64 0] _ rfl (hres2.setRow_ _) Try.underlying42 rfl (by kernel_rfl) rfl ?_
      exact ⟨rfl, by rw [HG.out]; exact below_grown HB14.out (grownBy_setRow _ _ _) (by have := hres2.lt; omega) (by omega)⟩
    | true =>
      rintro e W14 ⟨Aq, nq, cq, rfl, hn, hO, hb⟩
      obtain rfl : (StmM.form (StmM.readC (u :: b'))).length = nq := hn.out
      have HB14 := Lib.hid (below_step HT.out.2.2.2.2.2.1 hb HT.out.2.2.2.2.2.2)
      have hres2 := hres.below hb hres.lt
      have hbx2 := hbx.below hb hbx.lt
      have c0 := (hbb.below hb hbb.lt).cell 0
      simp only [List.getElem?_toArray, List.getElem?_cons_zero] at c0
      have hAt := HT.out.2.2.2.1.below hb
      have HEQ := Lib.hid (equal8_any Aq A cq c (StmM.form (StmM.readC (u :: b'))) (u :: b') W14 hO.row (HT.out.2.2.2.2.1.below hb))
      have HAT := Lib.hid hAt
      clear hb hbx hres hbb hn hO HT hAt
      generalize hfm : StmM.form (StmM.readC (u :: b')) = fm at *
      obtain ⟨nf, hnf⟩ : ∃ n, fm.length = n := ⟨_, rfl⟩
      rw [hnf] at HEQ
      simp only [hnf]
      go_wp2_with fail
      refine HEQ.out.mono ?_
      rintro e W15 ⟨rfl, rfl⟩
      by_cases hq : fm = (u :: b')
      · have hY : StmM.read (u :: b') = some (StmM.readC (u :: b')) := if_pos ⟨hm, hfm.trans hq⟩
        obtain rfl : RR = some (StmM.readC (u :: b')) := HRR.out.symm.trans hY
        rw [decide_eq_true hq]
        clear hY hq hfm hm HEQ c0
        have h1 : s.cells.all (·.oneCell') = true := by simp [Rqv.cells, rqC, Value.oneCell']
        go_wp2_with (first | (refine wpl_load_row rfl _ (.tmp 5) rfl gx (by go_simp) _ s.cells (0, 0) _ hbx2 Try.underlying42 rfl (by kernel_rfl) ?_) | (refine wpList_store_row rfl _ (.tmp 2) (.tmp 47) rfl (g + 1) s.cells (by go_simp) (by go_simp) _ _ hres2 (by kernel_rfl) rfl h1 ?_))
        refine ret_cell rfl (g + 1) s.cells _ rfl (hres2.setRow_ _) Try.underlying42 rfl (by kernel_rfl) rfl ?_
        refine ⟨s, rfl, HSX.out, ?_, HFR.out, by rw [HG.out]; exact below_grown HB14.out (grownBy_setRow _ _ _) (by have := hres2.lt; omega) (by omega)⟩
        exact at_res HAT.out HAF.out (grownBy_setRow _ _ _)
      · have hN : StmM.read (u :: b') = none := if_neg (fun q => hq (hfm.symm.trans q.2))
        obtain rfl : RR = none := HRR.out.symm.trans hN
        rw [decide_eq_false hq]
        clear hN hq hfm hm HEQ c0
        go_wp2_with (first | (refine wpList_store_row rfl _ (.tmp 2) (.tmp 46) rfl (g + 1) #[.int .i64 0, .int .u64 0, .slice none 0 0, .slice none 0 0, .int .u64 0, .int .u64 0, .int .i64 0, .slice none 0 0, .slice none 0 0, .int .i64 0] (by go_simp) (by go_simp) _ _ hres2 (by kernel_rfl) rfl (by simp [Value.oneCell']) ?_))
        refine ret_cell rfl (g + 1) #[.int .i64 0, .int .u64 0, .slice none 0 0, .slice none 0 0, .int .u64 0, .int .u64 0, .int .i64 0, .slice none 0 0, .slice none 0 0, .int .i64 0] _ rfl (hres2.setRow_ _) Try.underlying42 rfl (by kernel_rfl) rfl ?_
        exact ⟨rfl, by rw [HG.out]; exact below_grown HB14.out (grownBy_setRow _ _ _) (by have := hres2.lt; omega) (by omega)⟩
  by_cases k3 : k = 3
  · subst k3
    as_aux_lemma =>
    have hlk : (Instr.lookup 100 (.map (some gm)) (.int .i64 3) false).run Try.prog W' = .ok (Value.func (.func 63) #[] #[.pointer (some ⟨gp, 0, none⟩), .pointer (some ⟨gx, 0, none⟩)]) W' := run_get Try.underlying100 Try.underlying39 HM.out 3 (3, (Value.func (.func 63) #[] #[.pointer (some ⟨gp, 0, none⟩), .pointer (some ⟨gx, 0, none⟩)])) rfl
    have HC := Lib.hid (rdask3 gr gp gx 3 r1 W' ⟨H12.out.1.rd, H12.out.1.p, H12.out.1.x, Chg.refl _ _ _⟩ HNE.out (Nat.le_trans HBX.out H12.out.1.chg.size) (by decide))
    have hfn := neq_fn 63 #[.pointer (some ⟨gp, 0, none⟩), .pointer (some ⟨gx, 0, none⟩)] W'
    go_wp2_with fail
    refine HC.out.mono ?_
    rintro e W13 ⟨s, rfl, hsx, hbx, hat, hfr, hchg⟩
    have HSX : Hid (s.x = StmM.readC b) := Lib.hid (hsx.trans (HRC.out.trans rfl).symm)
    have HT : Hid (Blk W13 gx 42 s.cells ∧ Blk W13 (g + 1) 42 #[.int .i64 0, .int .u64 0, .slice none 0 0, .slice none 0 0, .int .u64 0, .int .u64 0, .int .i64 0, .slice none 0 0, .slice none 0 0, .int .i64 0] ∧ Blk W13 g 22 #[.slice A b.length c] ∧ s.At W13 ∧ Row W13 A (bs b) ∧ Below g w W13 ∧ g ≤ w.heap.size) := Lib.hid ⟨hbx, hchg.blk H12.out.2.2 HNR.out.1 HNR.out.2.1, hchg.blk H12.out.2.1 HNR.out.2.2.1 HNR.out.2.2.2.1, hat, HR0.out.below (by rw [HG.out]; exact B12.out.trans (hchg.below HNR.out.2.2.2.2.1 HNR.out.2.2.2.2.2 B12s.out)), B12.out.trans (hchg.below HNR.out.2.2.2.2.1 HNR.out.2.2.2.2.2 B12s.out), Nat.le_of_eq HG.out.symm⟩
    have HFR : Hid (s.Fr w.heap.size) := Lib.hid (hfr.mono (by rw [HG.out]; exact B12s.out))
    have HAF : Hid (s.Fr (g + 2)) := Lib.hid (hfr.mono HG2'.out)
    clear hsx hbx hat hfr hchg d0 hlk HC
    have hbx := HT.out.1
    have hres := HT.out.2.1
    have hbb := HT.out.2.2.1
    go_upto_region 7 with fail
    go_wp2_with (first | (refine wpl_load_row rfl _ (.tmp 5) rfl gx (by go_simp) _ s.cells (0, 0) _ hbx Try.underlying42 rfl (by kernel_rfl) ?_))
    refine (ask_any s W13 HT.out.2.2.2.1).mono ?_
    rw [HSX.out]
    cases hm : StmM.may (StmM.readC b) with
    | false =>
      rintro e W14 ⟨rfl, hb⟩
      have hN : StmM.read b = none := if_neg (fun q => by rw [hm] at q; cases q.1)
      obtain rfl : RR = none := HRR.out.symm.trans hN
      have HB14 := Lib.hid (below_step HT.out.2.2.2.2.2.1 hb HT.out.2.2.2.2.2.2)
      have hres2 := hres.below hb hres.lt
      clear hb hbx hres hbb hm hN HT
      go_wp2_with (first | (refine wpList_store_row rfl _ (.tmp 2) (.tmp 46) rfl (g + 1) #[.int .i64 0, .int .u64 0, .slice none 0 0, .slice none 0 0, .int .u64 0, .int .u64 0, .int .i64 0, .slice none 0 0, .slice none 0 0, .int .i64 0] (by go_simp) (by go_simp) _ _ hres2 (by kernel_rfl) rfl (by simp [Value.oneCell']) ?_))
      refine ret_cell rfl (g + 1) #[.int .i64 0, .int .u64 0, .slice none 0 0, .slice none 0 0, .int .u64 0, .int .u64 0, .int .i64 0, .slice none 0 0, .slice none 0 0, .int .i64 0] _ rfl (hres2.setRow_ _) Try.underlying42 rfl (by kernel_rfl) rfl ?_
      exact ⟨rfl, by rw [HG.out]; exact below_grown HB14.out (grownBy_setRow _ _ _) (by have := hres2.lt; omega) (by omega)⟩
    | true =>
      rintro e W14 ⟨Aq, nq, cq, rfl, hn, hO, hb⟩
      obtain rfl : (StmM.form (StmM.readC b)).length = nq := hn.out
      have HB14 := Lib.hid (below_step HT.out.2.2.2.2.2.1 hb HT.out.2.2.2.2.2.2)
      have hres2 := hres.below hb hres.lt
      have hbx2 := hbx.below hb hbx.lt
      have c0 := (hbb.below hb hbb.lt).cell 0
      simp only [List.getElem?_toArray, List.getElem?_cons_zero] at c0
      have hAt := HT.out.2.2.2.1.below hb
      have HEQ := Lib.hid (equal8_any Aq A cq c (StmM.form (StmM.readC b)) b W14 hO.row (HT.out.2.2.2.2.1.below hb))
      have HAT := Lib.hid hAt
      clear hb hbx hres hbb hn hO HT hAt
      generalize hfm : StmM.form (StmM.readC b) = fm at *
      obtain ⟨nf, hnf⟩ : ∃ n, fm.length = n := ⟨_, rfl⟩
      rw [hnf] at HEQ
      simp only [hnf]
      go_wp2_with fail
      refine HEQ.out.mono ?_
      rintro e W15 ⟨rfl, rfl⟩
      by_cases hq : fm = b
      · have hY : StmM.read b = some (StmM.readC b) := if_pos ⟨hm, hfm.trans hq⟩
        obtain rfl : RR = some (StmM.readC b) := HRR.out.symm.trans hY
        rw [decide_eq_true hq]
        clear hY hq hfm hm HEQ c0
        have h1 : s.cells.all (·.oneCell') = true := by simp [Rqv.cells, rqC, Value.oneCell']
        go_wp2_with (first | (refine wpl_load_row rfl _ (.tmp 5) rfl gx (by go_simp) _ s.cells (0, 0) _ hbx2 Try.underlying42 rfl (by kernel_rfl) ?_) | (refine wpList_store_row rfl _ (.tmp 2) (.tmp 47) rfl (g + 1) s.cells (by go_simp) (by go_simp) _ _ hres2 (by kernel_rfl) rfl h1 ?_))
        refine ret_cell rfl (g + 1) s.cells _ rfl (hres2.setRow_ _) Try.underlying42 rfl (by kernel_rfl) rfl ?_
        refine ⟨s, rfl, HSX.out, ?_, HFR.out, by rw [HG.out]; exact below_grown HB14.out (grownBy_setRow _ _ _) (by have := hres2.lt; omega) (by omega)⟩
        exact at_res HAT.out HAF.out (grownBy_setRow _ _ _)
      · have hN : StmM.read b = none := if_neg (fun q => hq (hfm.symm.trans q.2))
        obtain rfl : RR = none := HRR.out.symm.trans hN
        rw [decide_eq_false hq]
        clear hN hq hfm hm HEQ c0
        go_wp2_with (first | (refine wpList_store_row rfl _ (.tmp 2) (.tmp 46) rfl (g + 1) #[.int .i64 0, .int .u64 0, .slice none 0 0, .slice none 0 0, .int .u64 0, .int .u64 0, .int .i64 0, .slice none 0 0, .slice none 0 0, .int .i64 0] (by go_simp) (by go_simp) _ _ hres2 (by kernel_rfl) rfl (by simp [Value.oneCell']) ?_))
        refine ret_cell rfl (g + 1) #[.int .i64 0, .int .u64 0, .slice none 0 0, .slice none 0 0, .int .u64 0, .int .u64 0, .int .i64 0, .slice none 0 0, .slice none 0 0, .int .i64 0] _ rfl (hres2.setRow_ _) Try.underlying42 rfl (by kernel_rfl) rfl ?_
        exact ⟨rfl, by rw [HG.out]; exact below_grown HB14.out (grownBy_setRow _ _ _) (by have := hres2.lt; omega) (by omega)⟩
  by_cases k4 : k = 4
  · subst k4
    as_aux_lemma =>
    have hlk : (Instr.lookup 100 (.map (some gm)) (.int .i64 4) false).run Try.prog W' = .ok (Value.func (.func 64) #[] #[.pointer (some ⟨gp, 0, none⟩), .pointer (some ⟨gx, 0, none⟩)]) W' := run_get Try.underlying100 Try.underlying39 HM.out 4 (4, (Value.func (.func 64) #[] #[.pointer (some ⟨gp, 0, none⟩), .pointer (some ⟨gx, 0, none⟩)])) rfl
    have HC := Lib.hid (rdask4 gr gp gx 4 r1 W' ⟨H12.out.1.rd, H12.out.1.p, H12.out.1.x, Chg.refl _ _ _⟩ HNE.out (Nat.le_trans HBX.out H12.out.1.chg.size) (by decide))
    have hfn := neq_fn 64 #[.pointer (some ⟨gp, 0, none⟩), .pointer (some ⟨gx, 0, none⟩)] W'
    go_wp2_with fail
    refine HC.out.mono ?_
    rintro e W13 ⟨s, rfl, hsx, hbx, hat, hfr, hchg⟩
    have HSX : Hid (s.x = StmM.readC b) := Lib.hid (hsx.trans (HRC.out.trans rfl).symm)
    have HT : Hid (Blk W13 gx 42 s.cells ∧ Blk W13 (g + 1) 42 #[.int .i64 0, .int .u64 0, .slice none 0 0, .slice none 0 0, .int .u64 0, .int .u64 0, .int .i64 0, .slice none 0 0, .slice none 0 0, .int .i64 0] ∧ Blk W13 g 22 #[.slice A b.length c] ∧ s.At W13 ∧ Row W13 A (bs b) ∧ Below g w W13 ∧ g ≤ w.heap.size) := Lib.hid ⟨hbx, hchg.blk H12.out.2.2 HNR.out.1 HNR.out.2.1, hchg.blk H12.out.2.1 HNR.out.2.2.1 HNR.out.2.2.2.1, hat, HR0.out.below (by rw [HG.out]; exact B12.out.trans (hchg.below HNR.out.2.2.2.2.1 HNR.out.2.2.2.2.2 B12s.out)), B12.out.trans (hchg.below HNR.out.2.2.2.2.1 HNR.out.2.2.2.2.2 B12s.out), Nat.le_of_eq HG.out.symm⟩
    have HFR : Hid (s.Fr w.heap.size) := Lib.hid (hfr.mono (by rw [HG.out]; exact B12s.out))
    have HAF : Hid (s.Fr (g + 2)) := Lib.hid (hfr.mono HG2'.out)
    clear hsx hbx hat hfr hchg d0 hlk HC
    have hbx := HT.out.1
    have hres := HT.out.2.1
    have hbb := HT.out.2.2.1
    go_upto_region 7 with fail
    go_wp2_with (first | (refine wpl_load_row rfl _ (.tmp 5) rfl gx (by go_simp) _ s.cells (0, 0) _ hbx Try.underlying42 rfl (by kernel_rfl) ?_))
    refine (ask_any s W13 HT.out.2.2.2.1).mono ?_
    rw [HSX.out]
    cases hm : StmM.may (StmM.readC b) with
    | false =>
      rintro e W14 ⟨rfl, hb⟩
      have hN : StmM.read b = none := if_neg (fun q => by rw [hm] at q; cases q.1)
      obtain rfl : RR = none := HRR.out.symm.trans hN
      have HB14 := Lib.hid (below_step HT.out.2.2.2.2.2.1 hb HT.out.2.2.2.2.2.2)
      have hres2 := hres.below hb hres.lt
      clear hb hbx hres hbb hm hN HT
      go_wp2_with (first | (refine wpList_store_row rfl _ (.tmp 2) (.tmp 46) rfl (g + 1) #[.int .i64 0, .int .u64 0, .slice none 0 0, .slice none 0 0, .int .u64 0, .int .u64 0, .int .i64 0, .slice none 0 0, .slice none 0 0, .int .i64 0] (by go_simp) (by go_simp) _ _ hres2 (by kernel_rfl) rfl (by simp [Value.oneCell']) ?_))
      refine ret_cell rfl (g + 1) #[.int .i64 0, .int .u64 0, .slice none 0 0, .slice none 0 0, .int .u64 0, .int .u64 0, .int .i64 0, .slice none 0 0, .slice none 0 0, .int .i64 0] _ rfl (hres2.setRow_ _) Try.underlying42 rfl (by kernel_rfl) rfl ?_
      exact ⟨rfl, by rw [HG.out]; exact below_grown HB14.out (grownBy_setRow _ _ _) (by have := hres2.lt; omega) (by omega)⟩
    | true =>
      rintro e W14 ⟨Aq, nq, cq, rfl, hn, hO, hb⟩
      obtain rfl : (StmM.form (StmM.readC b)).length = nq := hn.out
      have HB14 := Lib.hid (below_step HT.out.2.2.2.2.2.1 hb HT.out.2.2.2.2.2.2)
      have hres2 := hres.below hb hres.lt
      have hbx2 := hbx.below hb hbx.lt
      have c0 := (hbb.below hb hbb.lt).cell 0
      simp only [List.getElem?_toArray, List.getElem?_cons_zero] at c0
      have hAt := HT.out.2.2.2.1.below hb
      have HEQ := Lib.hid (equal8_any Aq A cq c (StmM.form (StmM.readC b)) b W14 hO.row (HT.out.2.2.2.2.1.below hb))
      have HAT := Lib.hid hAt
      clear hb hbx hres hbb hn hO HT hAt
      generalize hfm : StmM.form (StmM.readC b) = fm at *
      obtain ⟨nf, hnf⟩ : ∃ n, fm.length = n := ⟨_, rfl⟩
      rw [hnf] at HEQ
      simp only [hnf]
      go_wp2_with fail
      refine HEQ.out.mono ?_
      rintro e W15 ⟨rfl, rfl⟩
      by_cases hq : fm = b
      · have hY : StmM.read b = some (StmM.readC b) := if_pos ⟨hm, hfm.trans hq⟩
        obtain rfl : RR = some (StmM.readC b) := HRR.out.symm.trans hY
        rw [decide_eq_true hq]
        clear hY hq hfm hm HEQ c0
        have h1 : s.cells.all (·.oneCell') = true := by simp [Rqv.cells, rqC, Value.oneCell']
        go_wp2_with (first | (refine wpl_load_row rfl _ (.tmp 5) rfl gx (by go_simp) _ s.cells (0, 0) _ hbx2 Try.underlying42 rfl (by kernel_rfl) ?_) | (refine wpList_store_row rfl _ (.tmp 2) (.tmp 47) rfl (g + 1) s.cells (by go_simp) (by go_simp) _ _ hres2 (by kernel_rfl) rfl h1 ?_))
        refine ret_cell rfl (g + 1) s.cells _ rfl (hres2.setRow_ _) Try.underlying42 rfl (by kernel_rfl) rfl ?_
        refine ⟨s, rfl, HSX.out, ?_, HFR.out, by rw [HG.out]; exact below_grown HB14.out (grownBy_setRow _ _ _) (by have := hres2.lt; omega) (by omega)⟩
        exact at_res HAT.out HAF.out (grownBy_setRow _ _ _)
      · have hN : StmM.read b = none := if_neg (fun q => hq (hfm.symm.trans q.2))
        obtain rfl : RR = none := HRR.out.symm.trans hN
        rw [decide_eq_false hq]
        clear hN hq hfm hm HEQ c0
        go_wp2_with (first | (refine wpList_store_row rfl _ (.tmp 2) (.tmp 46) rfl (g + 1) #[.int .i64 0, .int .u64 0, .slice none 0 0, .slice none 0 0, .int .u64 0, .int .u64 0, .int .i64 0, .slice none 0 0, .slice none 0 0, .int .i64 0] (by go_simp) (by go_simp) _ _ hres2 (by kernel_rfl) rfl (by simp [Value.oneCell']) ?_))
        refine ret_cell rfl (g + 1) #[.int .i64 0, .int .u64 0, .slice none 0 0, .slice none 0 0, .int .u64 0, .int .u64 0, .int .i64 0, .slice none 0 0, .slice none 0 0, .int .i64 0] _ rfl (hres2.setRow_ _) Try.underlying42 rfl (by kernel_rfl) rfl ?_
        exact ⟨rfl, by rw [HG.out]; exact below_grown HB14.out (grownBy_setRow _ _ _) (by have := hres2.lt; omega) (by omega)⟩
  by_cases k5 : k = 5
  · subst k5
    as_aux_lemma =>
    have hlk : (Instr.lookup 100 (.map (some gm)) (.int .i64 5) false).run Try.prog W' = .ok (Value.func (.func 65) #[] #[.pointer (some ⟨gp, 0, none⟩), .pointer (some ⟨gx, 0, none⟩)]) W' := run_get Try.underlying100 Try.underlying39 HM.out 5 (5, (Value.func (.func 65) #[] #[.pointer (some ⟨gp, 0, none⟩), .pointer (some ⟨gx, 0, none⟩)])) rfl
    have HC := Lib.hid (rdask5 gr gp gx 5 r1 W' ⟨H12.out.1.rd, H12.out.1.p, H12.out.1.x, Chg.refl _ _ _⟩ HNE.out (Nat.le_trans HBX.out H12.out.1.chg.size) (by decide))
    have hfn := neq_fn 65 #[.pointer (some ⟨gp, 0, none⟩), .pointer (some ⟨gx, 0, none⟩)] W'
    go_wp2_with fail
    refine HC.out.mono ?_
    rintro e W13 ⟨s, rfl, hsx, hbx, hat, hfr, hchg⟩
    have HSX : Hid (s.x = StmM.readC b) := Lib.hid (hsx.trans (HRC.out.trans rfl).symm)
    have HT : Hid (Blk W13 gx 42 s.cells ∧ Blk W13 (g + 1) 42 #[.int .i64 0, .int .u64 0, .slice none 0 0, .slice none 0 0, .int .u64 0, .int .u64 0, .int .i64 0, .slice none 0 0, .slice none 0 0, .int .i64 0] ∧ Blk W13 g 22 #[.slice A b.length c] ∧ s.At W13 ∧ Row W13 A (bs b) ∧ Below g w W13 ∧ g ≤ w.heap.size) := Lib.hid ⟨hbx, hchg.blk H12.out.2.2 HNR.out.1 HNR.out.2.1, hchg.blk H12.out.2.1 HNR.out.2.2.1 HNR.out.2.2.2.1, hat, HR0.out.below (by rw [HG.out]; exact B12.out.trans (hchg.below HNR.out.2.2.2.2.1 HNR.out.2.2.2.2.2 B12s.out)), B12.out.trans (hchg.below HNR.out.2.2.2.2.1 HNR.out.2.2.2.2.2 B12s.out), Nat.le_of_eq HG.out.symm⟩
    have HFR : Hid (s.Fr w.heap.size) := Lib.hid (hfr.mono (by rw [HG.out]; exact B12s.out))
    have HAF : Hid (s.Fr (g + 2)) := Lib.hid (hfr.mono HG2'.out)
    clear hsx hbx hat hfr hchg d0 hlk HC
    have hbx := HT.out.1
    have hres := HT.out.2.1
    have hbb := HT.out.2.2.1
    go_upto_region 7 with fail
    go_wp2_with (first | (refine wpl_load_row rfl _ (.tmp 5) rfl gx (by go_simp) _ s.cells (0, 0) _ hbx Try.underlying42 rfl (by kernel_rfl) ?_))
    refine (ask_any s W13 HT.out.2.2.2.1).mono ?_
    rw [HSX.out]
    cases hm : StmM.may (StmM.readC b) with
    | false =>
      rintro e W14 ⟨rfl, hb⟩
      have hN : StmM.read b = none := if_neg (fun q => by rw [hm] at q; cases q.1)
      obtain rfl : RR = none := HRR.out.symm.trans hN
      have HB14 := Lib.hid (below_step HT.out.2.2.2.2.2.1 hb HT.out.2.2.2.2.2.2)
      have hres2 := hres.below hb hres.lt
      clear hb hbx hres hbb hm hN HT
      go_wp2_with (first | (refine wpList_store_row rfl _ (.tmp 2) (.tmp 46) rfl (g + 1) #[.int .i64 0, .int .u64 0, .slice none 0 0, .slice none 0 0, .int .u64 0, .int .u64 0, .int .i64 0, .slice none 0 0, .slice none 0 0, .int .i64 0] (by go_simp) (by go_simp) _ _ hres2 (by kernel_rfl) rfl (by simp [Value.oneCell']) ?_))
      refine ret_cell rfl (g + 1) #[.int .i64 0, .int .u64 0, .slice none 0 0, .slice none 0 0, .int .u64 0, .int .u64 0, .int .i64 0, .slice none 0 0, .slice none 0 0, .int .i64 0] _ rfl (hres2.setRow_ _) Try.underlying42 rfl (by kernel_rfl) rfl ?_
      exact ⟨rfl, by rw [HG.out]; exact below_grown HB14.out (grownBy_setRow _ _ _) (by have := hres2.lt; omega) (by omega)⟩
    | true =>
      rintro e W14 ⟨Aq, nq, cq, rfl, hn, hO, hb⟩
      obtain rfl : (StmM.form (StmM.readC b)).length = nq := hn.out
      have HB14 := Lib.hid (below_step HT.out.2.2.2.2.2.1 hb HT.out.2.2.2.2.2.2)
      have hres2 := hres.below hb hres.lt
      have hbx2 := hbx.below hb hbx.lt
      have c0 := (hbb.below hb hbb.lt).cell 0
      simp only [List.getElem?_toArray, List.getElem?_cons_zero] at c0
      have hAt := HT.out.2.2.2.1.below hb
      have HEQ := Lib.hid (equal8_any Aq A cq c (StmM.form (StmM.readC b)) b W14 hO.row (HT.out.2.2.2.2.1.below hb))
      have HAT := Lib.hid hAt
      clear hb hbx hres hbb hn hO HT hAt
      generalize hfm : StmM.form (StmM.readC b) = fm at *
      obtain ⟨nf, hnf⟩ : ∃ n, fm.length = n := ⟨_, rfl⟩
      rw [hnf] at HEQ
      simp only [hnf]
      go_wp2_with fail
      refine HEQ.out.mono ?_
      rintro e W15 ⟨rfl, rfl⟩
      by_cases hq : fm = b
      · have hY : StmM.read b = some (StmM.readC b) := if_pos ⟨hm, hfm.trans hq⟩
        obtain rfl : RR = some (StmM.readC b) := HRR.out.symm.trans hY
        rw [decide_eq_true hq]
        clear hY hq hfm hm HEQ c0
        have h1 : s.cells.all (·.oneCell') = true := by simp [Rqv.cells, rqC, Value.oneCell']
        go_wp2_with (first | (refine wpl_load_row rfl _ (.tmp 5) rfl gx (by go_simp) _ s.cells (0, 0) _ hbx2 Try.underlying42 rfl (by kernel_rfl) ?_) | (refine wpList_store_row rfl _ (.tmp 2) (.tmp 47) rfl (g + 1) s.cells (by go_simp) (by go_simp) _ _ hres2 (by kernel_rfl) rfl h1 ?_))
        refine ret_cell rfl (g + 1) s.cells _ rfl (hres2.setRow_ _) Try.underlying42 rfl (by kernel_rfl) rfl ?_
        refine ⟨s, rfl, HSX.out, ?_, HFR.out, by rw [HG.out]; exact below_grown HB14.out (grownBy_setRow _ _ _) (by have := hres2.lt; omega) (by omega)⟩
        exact at_res HAT.out HAF.out (grownBy_setRow _ _ _)
      · have hN : StmM.read b = none := if_neg (fun q => hq (hfm.symm.trans q.2))
        obtain rfl : RR = none := HRR.out.symm.trans hN
        rw [decide_eq_false hq]
        clear hN hq hfm hm HEQ c0
        go_wp2_with (first | (refine wpList_store_row rfl _ (.tmp 2) (.tmp 46) rfl (g + 1) #[.int .i64 0, .int .u64 0, .slice none 0 0, .slice none 0 0, .int .u64 0, .int .u64 0, .int .i64 0, .slice none 0 0, .slice none 0 0, .int .i64 0] (by go_simp) (by go_simp) _ _ hres2 (by kernel_rfl) rfl (by simp [Value.oneCell']) ?_))
        refine ret_cell rfl (g + 1) #[.int .i64 0, .int .u64 0, .slice none 0 0, .slice none 0 0, .int .u64 0, .int .u64 0, .int .i64 0, .slice none 0 0, .slice none 0 0, .int .i64 0] _ rfl (hres2.setRow_ _) Try.underlying42 rfl (by kernel_rfl) rfl ?_
        exact ⟨rfl, by rw [HG.out]; exact below_grown HB14.out (grownBy_setRow _ _ _) (by have := hres2.lt; omega) (by omega)⟩
  by_cases k6 : k = 6
  · subst k6
    as_aux_lemma =>
    have hlk : (Instr.lookup 100 (.map (some gm)) (.int .i64 6) false).run Try.prog W' = .ok (Value.func (.func 66) #[] #[.pointer (some ⟨gp, 0, none⟩), .pointer (some ⟨gx, 0, none⟩)]) W' := run_get Try.underlying100 Try.underlying39 HM.out 6 (6, (Value.func (.func 66) #[] #[.pointer (some ⟨gp, 0, none⟩), .pointer (some ⟨gx, 0, none⟩)])) rfl
    have HC := Lib.hid (rdask6 gr gp gx 6 r1 W' ⟨H12.out.1.rd, H12.out.1.p, H12.out.1.x, Chg.refl _ _ _⟩ HNE.out (Nat.le_trans HBX.out H12.out.1.chg.size) (by decide))
    have hfn := neq_fn 66 #[.pointer (some ⟨gp, 0, none⟩), .pointer (some ⟨gx, 0, none⟩)] W'
    go_wp2_with fail
    refine HC.out.mono ?_
    rintro e W13 ⟨s, rfl, hsx, hbx, hat, hfr, hchg⟩
    have HSX : Hid (s.x = StmM.readC b) := Lib.hid (hsx.trans (HRC.out.trans rfl).symm)
    have HT : Hid (Blk W13 gx 42 s.cells ∧ Blk W13 (g + 1) 42 #[.int .i64 0, .int .u64 0, .slice none 0 0, .slice none 0 0, .int .u64 0, .int .u64 0, .int .i64 0, .slice none 0 0, .slice none 0 0, .int .i64 0] ∧ Blk W13 g 22 #[.slice A b.length c] ∧ s.At W13 ∧ Row W13 A (bs b) ∧ Below g w W13 ∧ g ≤ w.heap.size) := Lib.hid ⟨hbx, hchg.blk H12.out.2.2 HNR.out.1 HNR.out.2.1, hchg.blk H12.out.2.1 HNR.out.2.2.1 HNR.out.2.2.2.1, hat, HR0.out.below (by rw [HG.out]; exact B12.out.trans (hchg.below HNR.out.2.2.2.2.1 HNR.out.2.2.2.2.2 B12s.out)), B12.out.trans (hchg.below HNR.out.2.2.2.2.1 HNR.out.2.2.2.2.2 B12s.out), Nat.le_of_eq HG.out.symm⟩
    have HFR : Hid (s.Fr w.heap.size) := Lib.hid (hfr.mono (by rw [HG.out]; exact B12s.out))
    have HAF : Hid (s.Fr (g + 2)) := Lib.hid (hfr.mono HG2'.out)
    clear hsx hbx hat hfr hchg d0 hlk HC
    have hbx := HT.out.1
    have hres := HT.out.2.1
    have hbb := HT.out.2.2.1
    go_upto_region 7 with fail
    go_wp2_with (first | (refine wpl_load_row rfl _ (.tmp 5) rfl gx (by go_simp) _ s.cells (0, 0) _ hbx Try.underlying42 rfl (by kernel_rfl) ?_))
    refine (ask_any s W13 HT.out.2.2.2.1).mono ?_
    rw [HSX.out]
    cases hm : StmM.may (StmM.readC b) with
    | false =>
      rintro e W14 ⟨rfl, hb⟩
      have hN : StmM.read b = none := if_neg (fun q => by rw [hm] at q; cases q.1)
      obtain rfl : RR = none := HRR.out.symm.trans hN
      have HB14 := Lib.hid (below_step HT.out.2.2.2.2.2.1 hb HT.out.2.2.2.2.2.2)
      have hres2 := hres.below hb hres.lt
      clear hb hbx hres hbb hm hN HT
      go_wp2_with (first | (refine wpList_store_row rfl _ (.tmp 2) (.tmp 46) rfl (g + 1) #[.int .i64 0, .int .u64 0, .slice none 0 0, .slice none 0 0, .int .u64 0, .int .u64 0, .int .i64 0, .slice none 0 0, .slice none 0 0, .int .i64 0] (by go_simp) (by go_simp) _ _ hres2 (by kernel_rfl) rfl (by simp [Value.oneCell']) ?_))
      refine ret_cell rfl (g + 1) #[.int .i64 0, .int .u64 0, .slice none 0 0, .slice none 0 0, .int .u64 0, .int .u64 0, .int .i64 0, .slice none 0 0, .slice none 0 0, .int .i64 0] _ rfl (hres2.setRow_ _) Try.underlying42 rfl (by kernel_rfl) rfl ?_
      exact ⟨rfl, by rw [HG.out]; exact below_grown HB14.out (grownBy_setRow _ _ _) (by have := hres2.lt; omega) (by omega)⟩
    | true =>
      rintro e W14 ⟨Aq, nq, cq, rfl, hn, hO, hb⟩
      obtain rfl : (StmM.form (StmM.readC b)).length = nq := hn.out
      have HB14 := Lib.hid (below_step HT.out.2.2.2.2.2.1 hb HT.out.2.2.2.2.2.2)
      have hres2 := hres.below hb hres.lt
      have hbx2 := hbx.below hb hbx.lt
      have c0 := (hbb.below hb hbb.lt).cell 0
      simp only [List.getElem?_toArray, List.getElem?_cons_zero] at c0
      have hAt := HT.out.2.2.2.1.below hb
      have HEQ := Lib.hid (equal8_any Aq A cq c (StmM.form (StmM.readC b)) b W14 hO.row (HT.out.2.2.2.2.1.below hb))
      have HAT := Lib.hid hAt
      clear hb hbx hres hbb hn hO HT hAt
      generalize hfm : StmM.form (StmM.readC b) = fm at *
      obtain ⟨nf, hnf⟩ : ∃ n, fm.length = n := ⟨_, rfl⟩
      rw [hnf] at HEQ
      simp only [hnf]
      go_wp2_with fail
      refine HEQ.out.mono ?_
      rintro e W15 ⟨rfl, rfl⟩
      by_cases hq : fm = b
      · have hY : StmM.read b = some (StmM.readC b) := if_pos ⟨hm, hfm.trans hq⟩
        obtain rfl : RR = some (StmM.readC b) := HRR.out.symm.trans hY
        rw [decide_eq_true hq]
        clear hY hq hfm hm HEQ c0
        have h1 : s.cells.all (·.oneCell') = true := by simp [Rqv.cells, rqC, Value.oneCell']
        go_wp2_with (first | (refine wpl_load_row rfl _ (.tmp 5) rfl gx (by go_simp) _ s.cells (0, 0) _ hbx2 Try.underlying42 rfl (by kernel_rfl) ?_) | (refine wpList_store_row rfl _ (.tmp 2) (.tmp 47) rfl (g + 1) s.cells (by go_simp) (by go_simp) _ _ hres2 (by kernel_rfl) rfl h1 ?_))
        refine ret_cell rfl (g + 1) s.cells _ rfl (hres2.setRow_ _) Try.underlying42 rfl (by kernel_rfl) rfl ?_
        refine ⟨s, rfl, HSX.out, ?_, HFR.out, by rw [HG.out]; exact below_grown HB14.out (grownBy_setRow _ _ _) (by have := hres2.lt; omega) (by omega)⟩
        exact at_res HAT.out HAF.out (grownBy_setRow _ _ _)
      · have hN : StmM.read b = none := if_neg (fun q => hq (hfm.symm.trans q.2))
        obtain rfl : RR = none := HRR.out.symm.trans hN
        rw [decide_eq_false hq]
        clear hN hq hfm hm HEQ c0
        go_wp2_with (first | (refine wpList_store_row rfl _ (.tmp 2) (.tmp 46) rfl (g + 1) #[.int .i64 0, .int .u64 0, .slice none 0 0, .slice none 0 0, .int .u64 0, .int .u64 0, .int .i64 0, .slice none 0 0, .slice none 0 0, .int .i64 0] (by go_simp) (by go_simp) _ _ hres2 (by kernel_rfl) rfl (by simp [Value.oneCell']) ?_))
        refine ret_cell rfl (g + 1) #[.int .i64 0, .int .u64 0, .slice none 0 0, .slice none 0 0, .int .u64 0, .int .u64 0, .int .i64 0, .slice none 0 0, .slice none 0 0, .int .i64 0] _ rfl (hres2.setRow_ _) Try.underlying42 rfl (by kernel_rfl) rfl ?_
        exact ⟨rfl, by rw [HG.out]; exact below_grown HB14.out (grownBy_setRow _ _ _) (by have := hres2.lt; omega) (by omega)⟩
  by_cases k10 : k = 10
  · subst k10
    as_aux_lemma =>
    have hlk : (Instr.lookup 100 (.map (some gm)) (.int .i64 10) false).run Try.prog W' = .ok (Value.func (.func 70) #[] #[.pointer (some ⟨gp, 0, none⟩), .pointer (some ⟨gx, 0, none⟩)]) W' := run_get Try.underlying100 Try.underlying39 HM.out 10 (10, (Value.func (.func 70) #[] #[.pointer (some ⟨gp, 0, none⟩), .pointer (some ⟨gx, 0, none⟩)])) rfl
    have HC := Lib.hid (rdask10 gr gp gx 10 r1 W' ⟨H12.out.1.rd, H12.out.1.p, H12.out.1.x, Chg.refl _ _ _⟩ HNE.out (Nat.le_trans HBX.out H12.out.1.chg.size) (by decide))
    have hfn := neq_fn 70 #[.pointer (some ⟨gp, 0, none⟩), .pointer (some ⟨gx, 0, none⟩)] W'
    go_wp2_with fail
    refine HC.out.mono ?_
    rintro e W13 ⟨s, rfl, hsx, hbx, hat, hfr, hchg⟩
    have HSX : Hid (s.x = StmM.readC b) := Lib.hid (hsx.trans (HRC.out.trans rfl).symm)
    have HT : Hid (Blk W13 gx 42 s.cells ∧ Blk W13 (g + 1) 42 #[.int .i64 0, .int .u64 0, .slice none 0 0, .slice none 0 0, .int .u64 0, .int .u64 0, .int .i64 0, .slice none 0 0, .slice none 0 0, .int .i64 0] ∧ Blk W13 g 22 #[.slice A b.length c] ∧ s.At W13 ∧ Row W13 A (bs b) ∧ Below g w W13 ∧ g ≤ w.heap.size) := Lib.hid ⟨hbx, hchg.blk H12.out.2.2 HNR.out.1 HNR.out.2.1, hchg.blk H12.out.2.1 HNR.out.2.2.1 HNR.out.2.2.2.1, hat, HR0.out.below (by rw [HG.out]; exact B12.out.trans (hchg.below HNR.out.2.2.2.2.1 HNR.out.2.2.2.2.2 B12s.out)), B12.out.trans (hchg.below HNR.out.2.2.2.2.1 HNR.out.2.2.2.2.2 B12s.out), Nat.le_of_eq HG.out.symm⟩
    have HFR : Hid (s.Fr w.heap.size) := Lib.hid (hfr.mono (by rw [HG.out]; exact B12s.out))
    have HAF : Hid (s.Fr (g + 2)) := Lib.hid (hfr.mono HG2'.out)
    clear hsx hbx hat hfr hchg d0 hlk HC
    have hbx := HT.out.1
    have hres := HT.out.2.1
    have hbb := HT.out.2.2.1
    go_upto_region 7 with fail
    go_wp2_with (first | (refine wpl_load_row rfl _ (.tmp 5) rfl gx (by go_simp) _ s.cells (0, 0) _ hbx Try.underlying42 rfl (by kernel_rfl) ?_))
    refine (ask_any s W13 HT.out.2.2.2.1).mono ?_
    rw [HSX.out]
    cases hm : StmM.may (StmM.readC b) with
    | false =>
      rintro e W14 ⟨rfl, hb⟩
      have hN : StmM.read b = none := if_neg (fun q => by rw [hm] at q; cases q.1)
      obtain rfl : RR = none := HRR.out.symm.trans hN
      have HB14 := Lib.hid (below_step HT.out.2.2.2.2.2.1 hb HT.out.2.2.2.2.2.2)
      have hres2 := hres.below hb hres.lt
      clear hb hbx hres hbb hm hN HT
      go_wp2_with (first | (refine wpList_store_row rfl _ (.tmp 2) (.tmp 46) rfl (g + 1) #[.int .i64 0, .int .u64 0, .slice none 0 0, .slice none 0 0, .int .u64 0, .int .u64 0, .int .i64 0, .slice none 0 0, .slice none 0 0, .int .i64 0] (by go_simp) (by go_simp) _ _ hres2 (by kernel_rfl) rfl (by simp [Value.oneCell']) ?_))
      refine ret_cell rfl (g + 1) #[.int .i64 0, .int .u64 0, .slice none 0 0, .slice none 0 0, .int .u64 0, .int .u64 0, .int .i64 0, .slice none 0 0, .slice none 0 0, .int .i64 0] _ rfl (hres2.setRow_ _) Try.underlying42 rfl (by kernel_rfl) rfl ?_
      exact ⟨rfl, by rw [HG.out]; exact below_grown HB14.out (grownBy_setRow _ _ _) (by have := hres2.lt; omega) (by omega)⟩
    | true =>
      rintro e W14 ⟨Aq, nq, cq, rfl, hn, hO, hb⟩
      obtain rfl : (StmM.form (StmM.readC b)).length = nq := hn.out
      have HB14 := Lib.hid (below_step HT.out.2.2.2.2.2.1 hb HT.out.2.2.2.2.2.2)
      have hres2 := hres.below hb hres.lt
      have hbx2 := hbx.below hb hbx.lt
      have c0 := (hbb.below hb hbb.lt).cell 0
      simp only [List.getElem?_toArray, List.getElem?_cons_zero] at c0
      have hAt := HT.out.2.2.2.1.below hb
      have HEQ := Lib.hid (equal8_any Aq A cq c (StmM.form (StmM.readC b)) b W14 hO.row (HT.out.2.2.2.2.1.below hb))
      have HAT := Lib.hid hAt
      clear hb hbx hres hbb hn hO HT hAt
      generalize hfm : StmM.form (StmM.readC b) = fm at *
      obtain ⟨nf, hnf⟩ : ∃ n, fm.length = n := ⟨_, rfl⟩
      rw [hnf] at HEQ
      simp only [hnf]
      go_wp2_with fail
      refine HEQ.out.mono ?_
      rintro e W15 ⟨rfl, rfl⟩
      by_cases hq : fm = b
      · have hY : StmM.read b = some (StmM.readC b) := if_pos ⟨hm, hfm.trans hq⟩
        obtain rfl : RR = some (StmM.readC b) := HRR.out.symm.trans hY
        rw [decide_eq_true hq]
        clear hY hq hfm hm HEQ c0
        have h1 : s.cells.all (·.oneCell') = true := by simp [Rqv.cells, rqC, Value.oneCell']
        go_wp2_with (first | (refine wpl_load_row rfl _ (.tmp 5) rfl gx (by go_simp) _ s.cells (0, 0) _ hbx2 Try.underlying42 rfl (by kernel_rfl) ?_) | (refine wpList_store_row rfl _ (.tmp 2) (.tmp 47) rfl (g + 1) s.cells (by go_simp) (by go_simp) _ _ hres2 (by kernel_rfl) rfl h1 ?_))
        refine ret_cell rfl (g + 1) s.cells _ rfl (hres2.setRow_ _) Try.underlying42 rfl (by kernel_rfl) rfl ?_
        refine ⟨s, rfl, HSX.out, ?_, HFR.out, by rw [HG.out]; exact below_grown HB14.out (grownBy_setRow _ _ _) (by have := hres2.lt; omega) (by omega)⟩
        exact at_res HAT.out HAF.out (grownBy_setRow _ _ _)
      · have hN : StmM.read b = none := if_neg (fun q => hq (hfm.symm.trans q.2))
        obtain rfl : RR = none := HRR.out.symm.trans hN
        rw [decide_eq_false hq]
        clear hN hq hfm hm HEQ c0
        go_wp2_with (first | (refine wpList_store_row rfl _ (.tmp 2) (.tmp 46) rfl (g + 1) #[.int .i64 0, .int .u64 0, .slice none 0 0, .slice none 0 0, .int .u64 0, .int .u64 0, .int .i64 0, .slice none 0 0, .slice none 0 0, .int .i64 0] (by go_simp) (by go_simp) _ _ hres2 (by kernel_rfl) rfl (by simp [Value.oneCell']) ?_))
        refine ret_cell rfl (g + 1) #[.int .i64 0, .int .u64 0, .slice none 0 0, .slice none 0 0, .int .u64 0, .int .u64 0, .int .i64 0, .slice none 0 0, .slice none 0 0, .int .i64 0] _ rfl (hres2.setRow_ _) Try.underlying42 rfl (by kernel_rfl) rfl ?_
        exact ⟨rfl, by rw [HG.out]; exact below_grown HB14.out (grownBy_setRow _ _ _) (by have := hres2.lt; omega) (by omega)⟩
  by_cases k11 : k = 11
  · subst k11
    as_aux_lemma =>
    have hlk : (Instr.lookup 100 (.map (some gm)) (.int .i64 11) false).run Try.prog W' = .ok (Value.func (.func 72) #[] #[.pointer (some ⟨gp, 0, none⟩), .pointer (some ⟨gx, 0, none⟩)]) W' := run_get Try.underlying100 Try.underlying39 HM.out 11 (11, (Value.func (.func 72) #[] #[.pointer (some ⟨gp, 0, none⟩), .pointer (some ⟨gx, 0, none⟩)])) rfl
    have HC := Lib.hid (rdask11 gr gp gx 11 r1 W' ⟨H12.out.1.rd, H12.out.1.p, H12.out.1.x, Chg.refl _ _ _⟩ HNE.out (Nat.le_trans HBX.out H12.out.1.chg.size) (by decide))
    have hfn := neq_fn 72 #[.pointer (some ⟨gp, 0, none⟩), .pointer (some ⟨gx, 0, none⟩)] W'
    go_wp2_with fail
    refine HC.out.mono ?_
    rintro e W13 ⟨s, rfl, hsx, hbx, hat, hfr, hchg⟩
    have HSX : Hid (s.x = StmM.readC b) := Lib.hid (hsx.trans (HRC.out.trans rfl).symm)
    have HT : Hid (Blk W13 gx 42 s.cells ∧ Blk W13 (g + 1) 42 #[.int .i64 0, .int .u64 0, .slice none 0 0, .slice none 0 0, .int .u64 0, .int .u64 0, .int .i64 0, .slice none 0 0, .slice none 0 0, .int .i64 0] ∧ Blk W13 g 22 #[.slice A b.length c] ∧ s.At W13 ∧ Row W13 A (bs b) ∧ Below g w W13 ∧ g ≤ w.heap.size) := Lib.hid ⟨hbx, hchg.blk H12.out.2.2 HNR.out.1 HNR.out.2.1, hchg.blk H12.out.2.1 HNR.out.2.2.1 HNR.out.2.2.2.1, hat, HR0.out.below (by rw [HG.out]; exact B12.out.trans (hchg.below HNR.out.2.2.2.2.1 HNR.out.2.2.2.2.2 B12s.out)), B12.out.trans (hchg.below HNR.out.2.2.2.2.1 HNR.out.2.2.2.2.2 B12s.out), Nat.le_of_eq HG.out.symm⟩
    have HFR : Hid (s.Fr w.heap.size) := Lib.hid (hfr.mono (by rw [HG.out]; exact B12s.out))
    have HAF : Hid (s.Fr (g + 2)) := Lib.hid (hfr.mono HG2'.out)
    clear hsx hbx hat hfr hchg d0 hlk HC
    have hbx := HT.out.1
    have hres := HT.out.2.1
    have hbb := HT.out.2.2.1
    go_upto_region 7 with fail
    go_wp2_with (first | (refine wpl_load_row rfl _ (.tmp 5) rfl gx (by go_simp) _ s.cells (0, 0) _ hbx Try.underlying42 rfl (by kernel_rfl) ?_))
    refine (ask_any s W13 HT.out.2.2.2.1).mono ?_
    rw [HSX.out]
    cases hm : StmM.may (StmM.readC b) with
    | false =>
      rintro e W14 ⟨rfl, hb⟩
      have hN : StmM.read b = none := if_neg (fun q => by rw [hm] at q; cases q.1)
      obtain rfl : RR = none := HRR.out.symm.trans hN
      have HB14 := Lib.hid (below_step HT.out.2.2.2.2.2.1 hb HT.out.2.2.2.2.2.2)
      have hres2 := hres.below hb hres.lt
      clear hb hbx hres hbb hm hN HT
      go_wp2_with (first | (refine wpList_store_row rfl _ (.tmp 2) (.tmp 46) rfl (g + 1) #[.int .i64 0, .int .u64 0, .slice none 0 0, .slice none 0 0, .int .u64 0, .int .u64 0, .int .i64 0, .slice none 0 0, .slice none 0 0, .int .i64 0] (by go_simp) (by go_simp) _ _ hres2 (by kernel_rfl) rfl (by simp [Value.oneCell']) ?_))
      refine ret_cell rfl (g + 1) #[.int .i64 0, .int .u64 0, .slice none 0 0, .slice none 0 0, .int .u64 0, .int .u64 0, .int .i64 0, .slice none 0 0, .slice none 0 0, .int .i64 0] _ rfl (hres2.setRow_ _) Try.underlying42 rfl (by kernel_rfl) rfl ?_
      exact ⟨rfl, by rw [HG.out]; exact below_grown HB14.out (grownBy_setRow _ _ _) (by have := hres2.lt; omega) (by omega)⟩
    | true =>
      rintro e W14 ⟨Aq, nq, cq, rfl, hn, hO, hb⟩
      obtain rfl : (StmM.form (StmM.readC b)).length = nq := hn.out
      have HB14 := Lib.hid (below_step HT.out.2.2.2.2.2.1 hb HT.out.2.2.2.2.2.2)
      have hres2 := hres.below hb hres.lt
      have hbx2 := hbx.below hb hbx.lt
      have c0 := (hbb.below hb hbb.lt).cell 0
      simp only [List.getElem?_toArray, List.getElem?_cons_zero] at c0
      have hAt := HT.out.2.2.2.1.below hb
      have HEQ := Lib.hid (equal8_any Aq A cq c (StmM.form (StmM.readC b)) b W14 hO.row (HT.out.2.2.2.2.1.below hb))
      have HAT := Lib.hid hAt
      clear hb hbx hres hbb hn hO HT hAt
      generalize hfm : StmM.form (StmM.readC b) = fm at *
      obtain ⟨nf, hnf⟩ : ∃ n, fm.length = n := ⟨_, rfl⟩
      rw [hnf] at HEQ
      simp only [hnf]
      go_wp2_with fail
      refine HEQ.out.mono ?_
      rintro e W15 ⟨rfl, rfl⟩
      by_cases hq : fm = b
      · have hY : StmM.read b = some (StmM.readC b) := if_pos ⟨hm, hfm.trans hq⟩
        obtain rfl : RR = some (StmM.readC b) := HRR.out.symm.trans hY
        rw [decide_eq_true hq]
        clear hY hq hfm hm HEQ c0
        have h1 : s.cells.all (·.oneCell') = true := by simp [Rqv.cells, rqC, Value.oneCell']
        go_wp2_with (first | (refine wpl_load_row rfl _ (.tmp 5) rfl gx (by go_simp) _ s.cells (0, 0) _ hbx2 Try.underlying42 rfl (by kernel_rfl) ?_) | (refine wpList_store_row rfl _ (.tmp 2) (.tmp 47) rfl (g + 1) s.cells (by go_simp) (by go_simp) _ _ hres2 (by kernel_rfl) rfl h1 ?_))
        refine ret_cell rfl (g + 1) s.cells _ rfl (hres2.setRow_ _) Try.underlying42 rfl (by kernel_rfl) rfl ?_
        refine ⟨s, rfl, HSX.out, ?_, HFR.out, by rw [HG.out]; exact below_grown HB14.out (grownBy_setRow _ _ _) (by have := hres2.lt; omega) (by omega)⟩
        exact at_res HAT.out HAF.out (grownBy_setRow _ _ _)
      · have hN : StmM.read b = none := if_neg (fun q => hq (hfm.symm.trans q.2))
        obtain rfl : RR = none := HRR.out.symm.trans hN
        rw [decide_eq_false hq]
        clear hN hq hfm hm HEQ c0
        go_wp2_with (first | (refine wpList_store_row rfl _ (.tmp 2) (.tmp 46) rfl (g + 1) #[.int .i64 0, .int .u64 0, .slice none 0 0, .slice none 0 0, .int .u64 0, .int .u64 0, .int .i64 0, .slice none 0 0, .slice none 0 0, .int .i64 0] (by go_simp) (by go_simp) _ _ hres2 (by kernel_rfl) rfl (by simp [Value.oneCell']) ?_))
        refine ret_cell rfl (g + 1) #[.int .i64 0, .int .u64 0, .slice none 0 0, .slice none 0 0, .int .u64 0, .int .u64 0, .int .i64 0, .slice none 0 0, .slice none 0 0, .int .i64 0] _ rfl (hres2.setRow_ _) Try.underlying42 rfl (by kernel_rfl) rfl ?_
        exact ⟨rfl, by rw [HG.out]; exact below_grown HB14.out (grownBy_setRow _ _ _) (by have := hres2.lt; omega) (by omega)⟩
  have hfind : [(2, (Value.func (.func 62) #[] #[.pointer (some ⟨g, 0, none⟩), .pointer (some ⟨gx, 0, none⟩)])), (3, (Value.func (.func 63) #[] #[.pointer (some ⟨gp, 0, none⟩), .pointer (some ⟨gx, 0, none⟩)])), (4, (Value.func (.func 64) #[] #[.pointer (some ⟨gp, 0, none⟩), .pointer (some ⟨gx, 0, none⟩)])), (5, (Value.func (.func 65) #[] #[.pointer (some ⟨gp, 0, none⟩), .pointer (some ⟨gx, 0, none⟩)])), (6, (Value.func (.func 66) #[] #[.pointer (some ⟨gp, 0, none⟩), .pointer (some ⟨gx, 0, none⟩)])), (10, (Value.func (.func 70) #[] #[.pointer (some ⟨gp, 0, none⟩), .pointer (some ⟨gx, 0, none⟩)])), (11, (Value.func (.func 72) #[] #[.pointer (some ⟨gp, 0, none⟩), .pointer (some ⟨gx, 0, none⟩)]))].find? (fun p => k == p.1) = none := by simp [k2, k3, k4, k5, k6, k10, k11]
  have hlk : (Instr.lookup 100 (.map (some gm)) (.int .i64 k) false).run Try.prog W' = .ok .nilFunc W' := run_miss Try.underlying100 Try.underlying39 (fun w => by go_simp) HM.out k hfind
  obtain ⟨s, hs⟩ : ∃ s : Rqv, s = ⟨StmM.nil k, none, 0, none, 0, none, 0, none, 0⟩ := ⟨_, rfl⟩
  have HSX : Hid (s.x = StmM.readC b) := Lib.hid (by
    rw [HRC.out, hs]
    unfold StmM.readK
    rw [if_neg k2, if_neg (by omega), if_neg k5, if_neg k6, if_neg k10, if_neg k11])
  have HT : Hid (Blk W' gx 42 s.cells ∧ Blk W' (g + 1) 42 #[.int .i64 0, .int .u64 0, .slice none 0 0, .slice none 0 0, .int .u64 0, .int .u64 0, .int .i64 0, .slice none 0 0, .slice none 0 0, .int .i64 0] ∧ Blk W' g 22 #[.slice A b.length c] ∧ s.At W' ∧ Row W' A (bs b) ∧ Below g w W' ∧ g ≤ w.heap.size) := Lib.hid ⟨by rw [hs]; exact H12.out.1.x, H12.out.2.2, H12.out.2.1, by rw [hs]; exact ⟨.inl rfl, .inl rfl, .inl rfl, .inl rfl, ⟨HKR.out, StmM.no_ok, by simp [StmM.nil], by simp [StmM.nil], by simp [StmM.nil], by simp [StmM.nil], by simp [StmM.nil], by simp [StmM.nil]⟩, Nat.le_refl _, Nat.le_refl _, Nat.le_refl _, Nat.le_refl _, Nat.zero_le _, Nat.zero_le _, Nat.zero_le _, Nat.zero_le _⟩, HR0.out.below (by rw [HG.out]; exact B12.out), B12.out, Nat.le_of_eq HG.out.symm⟩
  have HFR : Hid (s.Fr w.heap.size) := Lib.hid (by rw [hs]; exact ⟨Fresh.none, Fresh.none, Fresh.none, Fresh.none⟩)
  have HAF : Hid (s.Fr (g + 2)) := Lib.hid (by rw [hs]; exact ⟨Fresh.none, Fresh.none, Fresh.none, Fresh.none⟩)
  clear hs hfind k2 k3 k4 k5 k6 k10 k11 d0
  have d0 := H12.out.1.x.c10.1
  have hfn := neq_nil W'
  have hbx := HT.out.1
  have hres := HT.out.2.1
  have hbb := HT.out.2.2.1
  go_upto_region 7 with fail
  go_wp2_with (first | (refine wpl_load_row rfl _ (.tmp 5) rfl gx (by go_simp) _ s.cells (0, 0) _ hbx Try.underlying42 rfl (by kernel_rfl) ?_))
  refine (ask_any s W' HT.out.2.2.2.1).mono ?_
  rw [HSX.out]
  cases hm : StmM.may (StmM.readC b) with
  | false =>
    rintro e W14 ⟨rfl, hb⟩
    have hN : StmM.read b = none := if_neg (fun q => by rw [hm] at q; cases q.1)
    obtain rfl : RR = none := HRR.out.symm.trans hN
    have HB14 := Lib.hid (below_step HT.out.2.2.2.2.2.1 hb HT.out.2.2.2.2.2.2)
    have hres2 := hres.below hb hres.lt
    clear hb hbx hres hbb hm hN HT
    go_wp2_with (first | (refine wpList_store_row rfl _ (.tmp 2) (.tmp 46) rfl (g + 1) #[.int .i64 0, .int .u64 0, .slice none 0 0, .slice none 0 0, .int .u64 0, .int .u64 0, .int .i64 0, .slice none 0 0, .slice none 0 0, .int .i64 0] (by go_simp) (by go_simp) _ _ hres2 (by kernel_rfl) rfl (by simp [Value.oneCell']) ?_))
    refine ret_cell rfl (g + 1) #[.int .i64 0, .int .u64 0, .slice none 0 0, .slice none 0 0, .int .u64 0, .int .u64 0, .int .i64 0, .slice none 0 0, .slice none 0 0, .int .i64 0] _ rfl (hres2.setRow_ _) Try.underlying42 rfl (by kernel_rfl) rfl ?_
    exact ⟨rfl, by rw [HG.out]; exact below_grown HB14.out (grownBy_setRow _ _ _) (by have := hres2.lt; omega) (by omega)⟩
  | true =>
    rintro e W14 ⟨Aq, nq, cq, rfl, hn, hO, hb⟩
    obtain rfl : (StmM.form (StmM.readC b)).length = nq := hn.out
    have HB14 := Lib.hid (below_step HT.out.2.2.2.2.2.1 hb HT.out.2.2.2.2.2.2)
    have hres2 := hres.below hb hres.lt
    have hbx2 := hbx.below hb hbx.lt
    have c0 := (hbb.below hb hbb.lt).cell 0
    simp only [List.getElem?_toArray, List.getElem?_cons_zero] at c0
    have hAt := HT.out.2.2.2.1.below hb
    have HEQ := Lib.hid (equal8_any Aq A cq c (StmM.form (StmM.readC b)) b W14 hO.row (HT.out.2.2.2.2.1.below hb))
    have HAT := Lib.hid hAt
    clear hb hbx hres hbb hn hO HT hAt
    generalize hfm : StmM.form (StmM.readC b) = fm at *
    obtain ⟨nf, hnf⟩ : ∃ n, fm.length = n := ⟨_, rfl⟩
    rw [hnf] at HEQ
    simp only [hnf]
    go_wp2_with fail
    refine HEQ.out.mono ?_
    rintro e W15 ⟨rfl, rfl⟩
    by_cases hq : fm = b
    · have hY : StmM.read b = some (StmM.readC b) := if_pos ⟨hm, hfm.trans hq⟩
      obtain rfl : RR = some (StmM.readC b) := HRR.out.symm.trans hY
      rw [decide_eq_true hq]
      clear hY hq hfm hm HEQ c0
      have h1 : s.cells.all (·.oneCell') = true := by simp [Rqv.cells, rqC, Value.oneCell']
      go_wp2_with (first | (refine wpl_load_row rfl _ (.tmp 5) rfl gx (by go_simp) _ s.cells (0, 0) _ hbx2 Try.underlying42 rfl (by kernel_rfl) ?_) | (refine wpList_store_row rfl _ (.tmp 2) (.tmp 47) rfl (g + 1) s.cells (by go_simp) (by go_simp) _ _ hres2 (by kernel_rfl) rfl h1 ?_))
      refine ret_cell rfl (g + 1) s.cells _ rfl (hres2.setRow_ _) Try.underlying42 rfl (by kernel_rfl) rfl ?_
      refine ⟨s, rfl, HSX.out, ?_, HFR.out, by rw [HG.out]; exact below_grown HB14.out (grownBy_setRow _ _ _) (by have := hres2.lt; omega) (by omega)⟩
      exact at_res HAT.out HAF.out (grownBy_setRow _ _ _)
    · have hN : StmM.read b = none := if_neg (fun q => hq (hfm.symm.trans q.2))
      obtain rfl : RR = none := HRR.out.symm.trans hN
      rw [decide_eq_false hq]
      clear hN hq hfm hm HEQ c0
      go_wp2_with (first | (refine wpList_store_row rfl _ (.tmp 2) (.tmp 46) rfl (g + 1) #[.int .i64 0, .int .u64 0, .slice none 0 0, .slice none 0 0, .int .u64 0, .int .u64 0, .int .i64 0, .slice none 0 0, .slice none 0 0, .int .i64 0] (by go_simp) (by go_simp) _ _ hres2 (by kernel_rfl) rfl (by simp [Value.oneCell']) ?_))
      refine ret_cell rfl (g + 1) #[.int .i64 0, .int .u64 0, .slice none 0 0, .slice none 0 0, .int .u64 0, .int .u64 0, .int .i64 0, .slice none 0 0, .slice none 0 0, .int .i64 0] _ rfl (hres2.setRow_ _) Try.underlying42 rfl (by kernel_rfl) rfl ?_
      exact ⟨rfl, by rw [HG.out]; exact below_grown HB14.out (grownBy_setRow _ _ _) (by have := hres2.lt; omega) (by omega)⟩
end Go.Proofs.Ytaadfalklddhcaa
