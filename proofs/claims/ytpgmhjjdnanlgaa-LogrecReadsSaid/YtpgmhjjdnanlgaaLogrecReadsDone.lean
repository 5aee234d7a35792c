/-
  LogrecReads: for every input the law returns true, and each argument reads afterwards as it read before.
  Conditions: those of the given statement (the form's own reach).
-/
import Derived.Test.YtpgmhjjdnanlgaaFrame2
import Derived.Test.YtpgmhjjdnanlgaaLogW1
import Derived.Test.YtpgmhjjdnanlgaaLogR1
import Derived.Test.YtpgmhjjdnanlgaaLogS3
import Derived.Test.YtpgmhjjdnanlgaaLogD2
import Derived.Test.YtpgmhjjdnanlgaaFrame
/-! part -/
namespace Go.Proofs.Ytpgmhjjdnanlgaa
open Go.ChangeShapes Go.WideShapes Go.ChangeAt Go.RowKit Go.Deep
set_option linter.unusedVariables false
section
variable {H : Type} {enc : TypeId × Value → H} {w : World}
theorem rdl_u8 (fuel : Nat) (cs : List Value) (y : DataW H × List MemPlace) (h : DataW.trod enc Try.prog w 0 (fun _ => true) true fuel 5 cs = some y) : ∃ s : UInt8, cs = [B s] := by
  obtain ⟨a, i, _, w0⟩ := DataW.trod_int Try.underlying5 h
  have g1 : 0 ≤ a ∧ a ≤ 255 := by simpa [Lit.wf, IntKind.min, IntKind.max, IntKind.signed, IntKind.bits] using w0
  refine ⟨UInt8.ofNat a.toNat, ?_⟩
  rw [i]
  unfold B
  congr 2
  rw [UInt8.toNat_ofNat']
  omega
theorem bsl_flat (xs : List UInt8) : xs.flatMap (fun u => [B u]) = bs xs := by
  induction xs with
  | nil => rfl
  | cons a l ih => rw [List.flatMap_cons, ih]; rfl
abbrev ChS := { c : Nat × Nat × Nat // c.1 < 18446744073709551616 ∧ c.2.1 < 18446744073709551616 ∧ c.2.2 < 18446744073709551616 }
abbrev DtS := { d : Nat × Nat // d.1 < 4294967296 ∧ d.2 < 18446744073709551616 }
theorem chS_flat (xs : List ChS) : xs.flatMap (fun s : ChS => chC s.1) = (xs.map (·.1)).flatMap chC := by
  induction xs with
  | nil => rfl
  | cons a l ih => rw [List.flatMap_cons, ih, List.map_cons, List.flatMap_cons]
theorem dtS_flat (xs : List DtS) : xs.flatMap (fun s : DtS => dtC s.1) = (xs.map (·.1)).flatMap dtC := by
  induction xs with
  | nil => rfl
  | cons a l ih => rw [List.flatMap_cons, ih, List.map_cons, List.flatMap_cons]
theorem i64_nat2 {a : Int} {k : IntKind} {n : Nat} (h : 0 ≤ a ∧ a < n) : ∃ m : Nat, a = (m : Int) ∧ m < n := ⟨a.toNat, by omega, by omega⟩
theorem rdl_u64 {cs : List Value} {fuel : Nat} {y : DataW H × List MemPlace} (h : DataW.trod enc Try.prog w 0 (fun _ => true) true fuel 25 cs = some y) : ∃ m : Nat, cs = [.int .u64 (m : Int)] ∧ m < 18446744073709551616 := by
  obtain ⟨a, i, _, w0⟩ := DataW.trod_int Try.underlying25 h
  have g : 0 ≤ a ∧ a ≤ 18446744073709551615 := by simpa [Lit.wf, IntKind.min, IntKind.max, IntKind.signed, IntKind.bits] using w0
  exact ⟨a.toNat, by rw [i, Int.toNat_of_nonneg g.1], by omega⟩
theorem rdl_u32 {cs : List Value} {fuel : Nat} {y : DataW H × List MemPlace} (h : DataW.trod enc Try.prog w 0 (fun _ => true) true fuel 26 cs = some y) : ∃ m : Nat, cs = [.int .u32 (m : Int)] ∧ m < 4294967296 := by
  obtain ⟨a, i, _, w0⟩ := DataW.trod_int Try.underlying26 h
  have g : 0 ≤ a ∧ a ≤ 4294967295 := by simpa [Lit.wf, IntKind.min, IntKind.max, IntKind.signed, IntKind.bits] using w0
  exact ⟨a.toNat, by rw [i, Int.toNat_of_nonneg g.1], by omega⟩
theorem rdl_u16 {cs : List Value} {fuel : Nat} {y : DataW H × List MemPlace} (h : DataW.trod enc Try.prog w 0 (fun _ => true) true fuel 27 cs = some y) : ∃ m : Nat, cs = [.int .u16 (m : Int)] ∧ m < 65536 := by
  obtain ⟨a, i, _, w0⟩ := DataW.trod_int Try.underlying27 h
  have g : 0 ≤ a ∧ a ≤ 65535 := by simpa [Lit.wf, IntKind.min, IntKind.max, IntKind.signed, IntKind.bits] using w0
  exact ⟨a.toNat, by rw [i, Int.toNat_of_nonneg g.1], by omega⟩
theorem rdl_ch (fuel : Nat) (cs : List Value) (y : DataW H × List MemPlace) (h : DataW.trod enc Try.prog w 0 (fun _ => true) true fuel 54 cs = some y) : ∃ s : ChS, cs = chC s.1 := by
  obtain ⟨hl, n, hf⟩ := read_struct Try.underlying54 (by kernel_rfl) (by kernel_rfl) h
  obtain ⟨v0, z0, e0, h0⟩ := hf 0 _ rfl
  obtain ⟨v1, z1, e1, h1⟩ := hf 1 _ rfl
  obtain ⟨v2, z2, e2, h2⟩ := hf 2 _ rfl
  obtain ⟨k0, i0, b0⟩ := rdl_u64 h0
  obtain ⟨k1, i1, b1⟩ := rdl_u64 h1
  obtain ⟨k2, i2, b2⟩ := rdl_u64 h2
  simp only [List.cons.injEq, and_true] at i0 i1 i2
  subst i0 i1 i2
  match cs, hl with
  | [x0, x1, x2], _ =>
    simp at e0 e1 e2
    subst e0 e1 e2
    exact ⟨⟨(k0, k1, k2), b0, b1, b2⟩, rfl⟩
theorem rdl_dt (fuel : Nat) (cs : List Value) (y : DataW H × List MemPlace) (h : DataW.trod enc Try.prog w 0 (fun _ => true) true fuel 56 cs = some y) : ∃ s : DtS, cs = dtC s.1 := by
  obtain ⟨hl, n, hf⟩ := read_struct Try.underlying56 (by kernel_rfl) (by kernel_rfl) h
  obtain ⟨v0, z0, e0, h0⟩ := hf 0 _ rfl
  obtain ⟨v1, z1, e1, h1⟩ := hf 1 _ rfl
  obtain ⟨k0, i0, b0⟩ := rdl_u32 h0
  obtain ⟨k1, i1, b1⟩ := rdl_u64 h1
  simp only [List.cons.injEq, and_true] at i0 i1
  subst i0 i1
  match cs, hl with
  | [x0, x1], _ =>
    simp at e0 e1
    subst e0 e1
    exact ⟨⟨(k0, k1), b0, b1⟩, rfl⟩
theorem rdl_bytes {fuel : Nat} {cs : List Value} {y : DataW H × List MemPlace} (h : DataW.trod enc Try.prog w 0 (fun _ => true) true fuel 22 cs = some y) : ∃ (A : Option Addr) (c : Nat) (l : List UInt8), cs = [.slice A l.length c] ∧ Row w A (bs l) ∧ l.length ≤ c ∧ c ≤ maxLen := by
  obtain ⟨A, c, l, i, hr, hlc, hm, _⟩ := read_slice (cells := fun u => [B u]) (size := 1) (fun _ => rfl) (by omega) Try.underlying22 (by kernel_rfl) rdl_u8 h
  rw [bsl_flat] at hr
  exact ⟨A, c, l, i, hr, hlc, hm⟩
set_option maxRecDepth 100000 in
set_option maxHeartbeats 4000000 in
theorem rd_rec (fuel : Nat) (cs : List Value) (q : DataW H × List MemPlace) (h : DataW.trod enc Try.prog w 0 (fun _ => true) true fuel 31 cs = some q) : ∃ (s : Lrec) (y : Lsl), cs = (#[.int .i64 s.kind, .int .u64 (s.lsn : Int), .int .u32 (s.epoch : Int), .int .u64 (s.txn : Int), .int .u32 (s.page : Int), .int .u16 (s.off : Int), .slice y.oA y.on y.oc, .slice y.nA y.nn y.nc, .slice y.uA y.un y.uc, .int .u64 (s.prev : Int), .int .u64 (s.next : Int), .bool s.clr, .int .u64 (s.stamp : Int), .slice y.pA y.pn y.pc, .slice y.dA y.dn y.dc] : Array Value).toList ∧ LogAt w y s := by
  obtain ⟨hl, n, hf⟩ := read_struct Try.underlying31 (by kernel_rfl) (by kernel_rfl) h
  obtain ⟨v0, z0, e0, h0⟩ := hf 0 _ rfl
  obtain ⟨v1, z1, e1, h1⟩ := hf 1 _ rfl
  obtain ⟨v2, z2, e2, h2⟩ := hf 2 _ rfl
  obtain ⟨v3, z3, e3, h3⟩ := hf 3 _ rfl
  obtain ⟨v4, z4, e4, h4⟩ := hf 4 _ rfl
  obtain ⟨v5, z5, e5, h5⟩ := hf 5 _ rfl
  obtain ⟨v6, z6, e6, h6⟩ := hf 6 _ rfl
  obtain ⟨v7, z7, e7, h7⟩ := hf 7 _ rfl
  obtain ⟨v8, z8, e8, h8⟩ := hf 8 _ rfl
  obtain ⟨v9, z9, e9, h9⟩ := hf 9 _ rfl
  obtain ⟨v10, z10, e10, h10⟩ := hf 10 _ rfl
  obtain ⟨v11, z11, e11, h11⟩ := hf 11 _ rfl
  obtain ⟨v12, z12, e12, h12⟩ := hf 12 _ rfl
  obtain ⟨v13, z13, e13, h13⟩ := hf 13 _ rfl
  obtain ⟨v14, z14, e14, h14⟩ := hf 14 _ rfl
  obtain ⟨k0, i0, _, _⟩ := DataW.trod_int Try.underlying24 h0
  obtain ⟨k1, i1, b1⟩ := rdl_u64 h1
  obtain ⟨k2, i2, b2⟩ := rdl_u32 h2
  obtain ⟨k3, i3, b3⟩ := rdl_u64 h3
  obtain ⟨k4, i4, b4⟩ := rdl_u32 h4
  obtain ⟨k5, i5, b5⟩ := rdl_u16 h5
  obtain ⟨A6, c6, l6, i6, r6, lc6, m6⟩ := rdl_bytes h6
  obtain ⟨A7, c7, l7, i7, r7, lc7, m7⟩ := rdl_bytes h7
  obtain ⟨A8, c8, l8, i8, r8, lc8, m8⟩ := rdl_bytes h8
  obtain ⟨k9, i9, b9⟩ := rdl_u64 h9
  obtain ⟨k10, i10, b10⟩ := rdl_u64 h10
  obtain ⟨k11, i11, _⟩ := DataW.trod_bool Try.underlying4 h11
  obtain ⟨k12, i12, b12⟩ := rdl_u64 h12
  obtain ⟨A13, c13, l13, i13, r13, lc13, m13, _⟩ := read_slice (cells := fun s : ChS => chC s.1) (size := 3) (fun _ => rfl) (by omega) Try.underlying28 (by kernel_rfl) rdl_ch h13
  obtain ⟨A14, c14, l14, i14, r14, lc14, m14, _⟩ := read_slice (cells := fun s : DtS => dtC s.1) (size := 2) (fun _ => rfl) (by omega) Try.underlying29 (by kernel_rfl) rdl_dt h14
  rw [chS_flat] at r13
  rw [dtS_flat] at r14
  simp only [List.cons.injEq, and_true] at i0 i1 i2 i3 i4 i5 i6 i7 i8 i9 i10 i11 i12 i13 i14
  subst i0 i1 i2 i3 i4 i5 i6 i7 i8 i9 i10 i11 i12 i13 i14
  match cs, hl with
  | [x0, x1, x2, x3, x4, x5, x6, x7, x8, x9, x10, x11, x12, x13, x14], _ =>
    simp only [List.getElem?_cons_zero, List.getElem?_cons_succ, Option.some.injEq] at e0 e1 e2 e3 e4 e5 e6 e7 e8 e9 e10 e11 e12 e13 e14
    subst e0 e1 e2 e3 e4 e5 e6 e7 e8 e9 e10 e11 e12 e13 e14
    refine ⟨⟨k0, k1, k2, k3, k4, k5, l6, l7, l8, k9, k10, k11, k12, l13.map (·.1), l14.map (·.1)⟩, ⟨A6, l6.length, c6, A7, l7.length, c7, A8, l8.length, c8, A13, l13.length, c13, A14, l14.length, c14⟩, rfl,
      ⟨r6, r7, r8, r13, r14, rfl, rfl, rfl, List.length_map _, List.length_map _, ⟨lc6, m6⟩, ⟨lc7, m7⟩, ⟨lc8, m8⟩, ⟨lc13, m13⟩, ⟨lc14, m14⟩, ⟨b1, b2, b3, b4, b5, b9, b10, b12, ?_, ?_⟩⟩⟩
    · intro c hc
      obtain ⟨x, _, rfl⟩ := List.mem_map.1 hc
      exact x.2
    · intro c hc
      obtain ⟨x, _, rfl⟩ := List.mem_map.1 hc
      exact x.2
set_option maxRecDepth 100000 in
theorem read_rec {r : Reach} {b0 : Nat} {v : Value} {d : DataW H} {p : List MemPlace} (hv : Value.okWide Try.prog w r b0 31 v) (h : DataW.Trod enc Try.prog w 0 (fun _ => true) true 31 v d p) :
    ∃ (s : Lrec) (y : Lsl), v = .agg #[.int .i64 s.kind, .int .u64 (s.lsn : Int), .int .u32 (s.epoch : Int), .int .u64 (s.txn : Int), .int .u32 (s.page : Int), .int .u16 (s.off : Int), .slice y.oA y.on y.oc, .slice y.nA y.nn y.nc, .slice y.uA y.un y.uc, .int .u64 (s.prev : Int), .int .u64 (s.next : Int), .bool s.clr, .int .u64 (s.stamp : Int), .slice y.pA y.pn y.pc, .slice y.dA y.dn y.dc] ∧ LogAt w y s := by
  obtain ⟨cs, rfl, _⟩ := okWide_struct Try.underlying31 hv
  obtain ⟨fuel, hf⟩ := h
  obtain ⟨s, y, e, h1⟩ := rd_rec fuel _ _ hf
  have e' : cs.toList = (#[.int .i64 s.kind, .int .u64 (s.lsn : Int), .int .u32 (s.epoch : Int), .int .u64 (s.txn : Int), .int .u32 (s.page : Int), .int .u16 (s.off : Int), .slice y.oA y.on y.oc, .slice y.nA y.nn y.nc, .slice y.uA y.un y.uc, .int .u64 (s.prev : Int), .int .u64 (s.next : Int), .bool s.clr, .int .u64 (s.stamp : Int), .slice y.pA y.pn y.pc, .slice y.dA y.dn y.dc] : Array Value).toList := by simpa [Value.cells] using e
  refine ⟨s, y, ?_, h1⟩
  congr 1
  exact Array.ext' e'
end
end Go.Proofs.Ytpgmhjjdnanlgaa
/-! part -/
namespace Go.Proofs.Ytpgmhjjdnanlgaa
open Go.RowKit Go.Sort Go.Lib
set_option linter.unusedVariables false
set_option linter.unusedSimpArgs false
namespace LogM
def x0 : Lrec := ⟨4, 128, 0, 7, 0, 0, [], [], [], 0, 0, false, 0, [], []⟩
theorem x0_may : May x0 := by decide
theorem x0_fit : Fit x0 := ⟨by decide, by decide, by decide, by decide, by decide, by decide, by decide, by decide, nofun, nofun⟩
theorem x0_len : (form x0).length = 27 := by rw [form_length]; simp [tail, x0, CodeM.fx_length]
theorem x0_read : readI (form x0) = some (x0, 27) := by
  have := readI_form x0_may x0_fit []
  rwa [List.append_nil, x0_len] at this
end LogM
set_option maxRecDepth 100000 in
set_option maxHeartbeats 8000000 in
theorem known09_any (w : World) : Calls Try.prog 8 #[] w fun e w' => e = .returned (.bool true) ∧ Below w.heap.size w w' := by
  have HAT : Hid (∀ w', LogAt w' Lsl.z LogM.x0) := Lib.hid fun w' => (⟨Own.nil_ _ _, Own.nil_ _ _, Own.nil_ _ _, World.ownsRow_nil _ _ _ _, World.ownsRow_nil _ _ _ _, rfl, rfl, rfl, rfl, rfl⟩ : Lown w' 0 Lsl.z LogM.x0).at_ LogM.x0_fit
  go_enter Try.func8, Try.ntmps8
  have hx := Blk.new w 31 #[.int .i64 4, .int .u64 128, .int .u32 0, .int .u64 7, .int .u32 0, .int .u16 0, .slice none 0 0, .slice none 0 0, .slice none 0 0, .int .u64 0, .int .u64 0, .bool false, .int .u64 0, .slice none 0 0, .slice none 0 0]
  have hb : Below w.heap.size w (w.alloc (.cells #[.int .i64 4, .int .u64 128, .int .u32 0, .int .u64 7, .int .u32 0, .int .u16 0, .slice none 0 0, .slice none 0 0, .slice none 0 0, .int .u64 0, .int .u64 0, .bool false, .int .u64 0, .slice none 0 0, .slice none 0 0] 31)) := (Below.refl w.heap.size w).alloc (Nat.le_refl _) _
  go_upto_region 2 with fail
  generalize w.alloc (.cells #[.int .i64 4, .int .u64 128, .int .u32 0, .int .u64 7, .int .u32 0, .int .u16 0, .slice none 0 0, .slice none 0 0, .slice none 0 0, .int .u64 0, .int .u64 0, .bool false, .int .u64 0, .slice none 0 0, .slice none 0 0] 31) = V0 at *
  obtain ⟨g, hg⟩ : ∃ g, w.heap.size = g := ⟨_, rfl⟩
  rw [hg] at hx
  simp only [hg]
  have HG := Lib.hid hg
  clear hg
  go_wp2_with (refine wpl_load_row rfl _ (.tmp 1) rfl g (by go_simp) _ #[.int .i64 LogM.x0.kind, .int .u64 (LogM.x0.lsn : Int), .int .u32 (LogM.x0.epoch : Int), .int .u64 (LogM.x0.txn : Int), .int .u32 (LogM.x0.page : Int), .int .u16 (LogM.x0.off : Int), .slice Lsl.z.oA Lsl.z.on Lsl.z.oc, .slice Lsl.z.nA Lsl.z.nn Lsl.z.nc, .slice Lsl.z.uA Lsl.z.un Lsl.z.uc, .int .u64 (LogM.x0.prev : Int), .int .u64 (LogM.x0.next : Int), .bool LogM.x0.clr, .int .u64 (LogM.x0.stamp : Int), .slice Lsl.z.pA Lsl.z.pn Lsl.z.pc, .slice Lsl.z.dA Lsl.z.dn Lsl.z.dc] (0, 0) _ hx Try.underlying31 rfl (by kernel_rfl) ?_)
  go_wp2_with fail
  refine (bytes_any LogM.x0 Lsl.z V0 (HAT.out _)).mono ?_
  rintro e V1 (⟨_, A, n, c, rfl, hn, hO, hb1⟩ | ⟨hm, _, _⟩)
  rotate_left
  · exact absurd LogM.x0_may hm
  obtain rfl : 27 = n := by rw [← hn.out, LogM.x0_len]
  have hx1 := hx.below hb1 hx.lt
  have hB1 := below_step hb hb1 (Nat.le_refl _)
  have hle := hO.le
  rw [LogM.x0_len] at hle
  have hrd := read_any A 27 c (LogM.form LogM.x0) V1 hO.row LogM.x0_len hle.1 hle.2 (by omega)
  rw [LogM.x0_read] at hrd
  have HRD := Lib.hid hrd
  clear hrd hx hb hb1 hO hle hn
  go_wp2_with fail
  refine HRD.out.mono ?_
  rintro e V2 ⟨y, rfl, hl, hft, hb2⟩
  have hx2 := hx1.below hb2 hx1.lt
  have hB2 := below_step hB1 hb2 (Nat.le_refl _)
  have hy3 := Blk.new V2 31 #[.int .i64 LogM.x0.kind, .int .u64 (LogM.x0.lsn : Int), .int .u32 (LogM.x0.epoch : Int), .int .u64 (LogM.x0.txn : Int), .int .u32 (LogM.x0.page : Int), .int .u16 (LogM.x0.off : Int), .slice y.oA y.on y.oc, .slice y.nA y.nn y.nc, .slice y.uA y.un y.uc, .int .u64 (LogM.x0.prev : Int), .int .u64 (LogM.x0.next : Int), .bool LogM.x0.clr, .int .u64 (LogM.x0.stamp : Int), .slice y.pA y.pn y.pc, .slice y.dA y.dn y.dc]
  have hb3 : Below V2.heap.size V2 (V2.alloc (.cells #[.int .i64 LogM.x0.kind, .int .u64 (LogM.x0.lsn : Int), .int .u32 (LogM.x0.epoch : Int), .int .u64 (LogM.x0.txn : Int), .int .u32 (LogM.x0.page : Int), .int .u16 (LogM.x0.off : Int), .slice y.oA y.on y.oc, .slice y.nA y.nn y.nc, .slice y.uA y.un y.uc, .int .u64 (LogM.x0.prev : Int), .int .u64 (LogM.x0.next : Int), .bool LogM.x0.clr, .int .u64 (LogM.x0.stamp : Int), .slice y.pA y.pn y.pc, .slice y.dA y.dn y.dc] 31)) := (Below.refl _ _).alloc (Nat.le_refl _) _
  have hx3 := hx2.below hb3 hx2.lt
  have hB3 := below_step hB2 hb3 (Nat.le_refl _)
  have hat3 := (hl.below hb3).at_ hft
  go_upto_region 4 with fail
  generalize V2.alloc (.cells #[.int .i64 LogM.x0.kind, .int .u64 (LogM.x0.lsn : Int), .int .u32 (LogM.x0.epoch : Int), .int .u64 (LogM.x0.txn : Int), .int .u32 (LogM.x0.page : Int), .int .u16 (LogM.x0.off : Int), .slice y.oA y.on y.oc, .slice y.nA y.nn y.nc, .slice y.uA y.un y.uc, .int .u64 (LogM.x0.prev : Int), .int .u64 (LogM.x0.next : Int), .bool LogM.x0.clr, .int .u64 (LogM.x0.stamp : Int), .slice y.pA y.pn y.pc, .slice y.dA y.dn y.dc] 31) = V3 at *
  obtain ⟨gy, hgy⟩ : ∃ gy, V2.heap.size = gy := ⟨_, rfl⟩
  rw [hgy] at hy3
  simp only [hgy]
  clear hgy hx2 hB2 hb2 hb3 hl hft hx1 hB1 HRD
  have HA3 := Lib.hid hat3
  have HB3 := Lib.hid hB3
  clear hat3 hB3
  go_wp2_with (first | refine wpl_load_row rfl _ (.tmp 1) rfl g (by go_simp) _ #[.int .i64 LogM.x0.kind, .int .u64 (LogM.x0.lsn : Int), .int .u32 (LogM.x0.epoch : Int), .int .u64 (LogM.x0.txn : Int), .int .u32 (LogM.x0.page : Int), .int .u16 (LogM.x0.off : Int), .slice Lsl.z.oA Lsl.z.on Lsl.z.oc, .slice Lsl.z.nA Lsl.z.nn Lsl.z.nc, .slice Lsl.z.uA Lsl.z.un Lsl.z.uc, .int .u64 (LogM.x0.prev : Int), .int .u64 (LogM.x0.next : Int), .bool LogM.x0.clr, .int .u64 (LogM.x0.stamp : Int), .slice Lsl.z.pA Lsl.z.pn Lsl.z.pc, .slice Lsl.z.dA Lsl.z.dn Lsl.z.dc] (0, 0) _ hx3 Try.underlying31 rfl (by kernel_rfl) ?_ | refine wpl_load_row rfl _ (.tmp 4) rfl gy (by go_simp) _ #[.int .i64 LogM.x0.kind, .int .u64 (LogM.x0.lsn : Int), .int .u32 (LogM.x0.epoch : Int), .int .u64 (LogM.x0.txn : Int), .int .u32 (LogM.x0.page : Int), .int .u16 (LogM.x0.off : Int), .slice y.oA y.on y.oc, .slice y.nA y.nn y.nc, .slice y.uA y.un y.uc, .int .u64 (LogM.x0.prev : Int), .int .u64 (LogM.x0.next : Int), .bool LogM.x0.clr, .int .u64 (LogM.x0.stamp : Int), .slice y.pA y.pn y.pc, .slice y.dA y.dn y.dc] (0, 0) _ hy3 Try.underlying31 rfl (by kernel_rfl) ?_)
  refine (rsame_any LogM.x0 LogM.x0 Lsl.z y V3 (HAT.out _) HA3.out).mono ?_
  rintro e V4 ⟨r, rfl, HR, hb4⟩
  obtain rfl : r = true := HR.out.2 rfl
  go_wp2
  go_ret
  exact ⟨rfl, below_step HB3.out hb4 (Nat.le_refl _)⟩
end Go.Proofs.Ytpgmhjjdnanlgaa
/-! part -/
namespace Go.Proofs.Ytpgmhjjdnanlgaa
open Go.RowKit Go.Sort Go.Lib
set_option linter.unusedVariables false
set_option linter.unusedSimpArgs false
theorem add_u8l (u : UInt8) : IntKind.u8.wrap ((u.toNat : Int) + 1) = ((u + 1).toNat : Int) := by
  rw [IntKind.wrap_u8, UInt8.toNat_add]
  show _ = (((u.toNat + 1) % 256 : Nat) : Int)
  omega
/-- The bytes handed in, with a mark behind them. -/
theorem in_rowl {w : World} {g : Nat} {b : List UInt8} (h : Row w (some ⟨g, 0, none⟩) (bs (b ++ [77]))) : Row w (some ⟨g, 0, none⟩) (bs b) ∧ w.cell? ⟨g, b.length, none⟩ = some (.int .u8 77) := by
  refine ⟨?_, ?_⟩
  · have := h.take b.length
    rwa [← bs_length b, bs_append, List.take_left] at this
  · obtain ⟨bq, oq, eq, h77⟩ := h.byte (k := b.length) (by simp)
    cases eq
    rw [List.getElem_append_right (Nat.le_refl _)] at h77
    simpa using h77
theorem row_belowL {w w' : World} {A : Option Addr} {xs : List Value} {B : Nat} (h : Row w A xs) (hb : Below B w w') (hA : ∀ x : Addr, A = some x → x.block < B) : Row w' A xs := by
  rcases h with e | ⟨b, o, rfl, hc⟩
  · exact .inl e
  · exact .inr ⟨b, o, rfl, fun j u hu => (World.cell?_of_block (hb.block b (hA _ rfl))).trans (hc j u hu)⟩
/-- Bytes that may be written over. -/
def Cel (w : World) (base gx : Nat) (A : Option Addr) (n : Nat) : Prop := ∀ k, k < n → ∃ (g o : Nat) (u : UInt8), A = some ⟨g, o, none⟩ ∧ base ≤ g ∧ g ≠ gx ∧ w.cell? ⟨g, o + k, none⟩ = some (B u) ∧ w.frozen? ⟨g, o + k, none⟩ = false
theorem Cel.of {w : World} {base gx c : Nat} {A : Option Addr} {l : List UInt8} (h : Own w base A c l) (hx : ∀ k, (Value.slice A l.length c).ownBlock = some k → k ≠ gx) : Cel w base gx A l.length := by
  intro k hk
  rcases h.2 with ⟨hv, hn⟩ | ⟨g, cap, cur, hv, hb, hg, _⟩
  · omega
  · injection hv with e
    subst e
    obtain ⟨b, o, e, hc⟩ := Row.byte h.row hk
    cases e
    exact ⟨g, 0, l[k], rfl, hb, hx g rfl, hc, Blk.frozen (cs := cur) hg _⟩
theorem Cel.set {wr : World} {base gx n b i : Nat} {A : Option Addr} {u : UInt8} (h : Cel wr base gx A n) (hc : ∃ x, wr.cell? ⟨b, i, none⟩ = some x) : Cel (wr.setCell ⟨b, i, none⟩ (B u)) base gx A n := by
  obtain ⟨x0, hx0⟩ := hc
  intro j hj
  obtain ⟨b', o', u', hA, hge, hne, hcell, hfr⟩ := h j hj
  by_cases he : (⟨b, i, none⟩ : Addr) = ⟨b', o' + j, none⟩
  · refine ⟨b', o', u, hA, hge, hne, ?_, by rw [World.frozen?_setCell]; exact hfr⟩
    rw [← he]
    exact World.cell?_setCell_same _ _ _ hx0
  · refine ⟨b', o', u', hA, hge, hne, ?_, by rw [World.frozen?_setCell]; exact hfr⟩
    rw [World.cell?_setCell_other _ _ _ _ he]
    exact hcell
/-- While a record's bytes are written over. -/
structure Mv (V : World) (base gx : Nat) (cs : Array Value) (oA : Option Addr) (on : Nat) (nA : Option Addr) (nn : Nat) (uA : Option Addr) (un : Nat) (wr : World) : Prop where
  bel : Below base V wr
  bx : Blk wr gx 31 cs
  co : Cel wr base gx oA on
  cn : Cel wr base gx nA nn
  cu : Cel wr base gx uA un
theorem Mv.set {V wr : World} {base gx on nn un b i : Nat} {cs : Array Value} {oA nA uA : Option Addr} {u : UInt8} (h : Mv V base gx cs oA on nA nn uA un wr) (hb : base ≤ b) (h4 : b ≠ gx) (hc : ∃ x, wr.cell? ⟨b, i, none⟩ = some x) : Mv V base gx cs oA on nA nn uA un (wr.setCell ⟨b, i, none⟩ (B u)) := by
  have gg := grownBy_setCell wr b i (B u)
  have hs : V.heap.size ≤ wr.heap.size := h.bel.size
  exact ⟨⟨gg.os.trans h.bel.os, gg.tape.trans h.bel.tape, gg.output.trans h.bel.output, Nat.le_trans hs gg.size, fun k hk => (Below.heap_setCell wr ⟨b, i, none⟩ (B u) k (by show k ≠ b; omega)).trans (h.bel.block k hk)⟩, h.bx.grown gg (fun q => by injection q with q; omega), h.co.set hc, h.cn.set hc, h.cu.set hc⟩
/-- What is read, and how it ends. -/
def rS (l : List UInt8) : Lrec := match LogM.readI l with | some (s, _) => s | none => LogM.zr 0 0 0
def rM (l : List UInt8) : Nat := match LogM.readI l with | some (_, m) => m | none => 0
def rE (l : List UInt8) : Nat := match LogM.readI l with | some _ => 0 | none => 4
theorem zr_fit0 : LogM.Fit (LogM.zr 0 0 0) := LogM.zr_fit (by decide) (by decide)
theorem rS_fit (l : List UInt8) : LogM.Fit (rS l) := by
  unfold rS
  cases h : LogM.readI l with
  | none => exact zr_fit0
  | some p => obtain ⟨s, m⟩ := p; exact (LogM.readI_some h).2.1
theorem may_len {s : Lrec} (h : LogM.May s) : s.old.length = s.new.length := by
  obtain ⟨hn, hk⟩ := h
  unfold LogM.mayK at hk
  by_cases h1 : s.kind = 1
  · rw [if_pos h1] at hk; exact hk.1
  · rcases hn.1 with h2 | h2
    · exact absurd h2 h1
    · rw [h2.2.2.1, h2.2.2.2]
theorem rS_len (l : List UInt8) : (rS l).old.length = (rS l).new.length := by
  unfold rS
  cases h : LogM.readI l with
  | none => rfl
  | some p => obtain ⟨s, m⟩ := p; exact may_len (LogM.readI_some h).1
def Rd3 (l : List UInt8) (w : World) (e : Ending) (w' : World) : Prop := ∃ y : Lsl, e = .returned (.tuple #[recD (rS l) y, .int .i64 (rM l : Int), .int .i64 (rE l : Int)]) ∧ Lown w' w.heap.size y (rS l) ∧ Below w.heap.size w w'
theorem lown_zr (w : World) (b : Nat) : Lown w b Lsl.z (LogM.zr 0 0 0) := ⟨Own.nil_ _ _, Own.nil_ _ _, Own.nil_ _ _, World.ownsRow_nil _ _ _ _, World.ownsRow_nil _ _ _ _, rfl, rfl, rfl, rfl, rfl⟩
theorem read3 {l : List UInt8} {w w' : World} {e : Ending} (h : ReadPost (LogM.readI l) w e w') : Rd3 l w e w' := by
  unfold Rd3 rS rM rE
  cases hI : LogM.readI l with
  | none =>
    rw [hI] at h
    exact ⟨Lsl.z, h.1, lown_zr _ _, h.2⟩
  | some p =>
    obtain ⟨s, m⟩ := p
    rw [hI] at h
    obtain ⟨y, h1, h2, h3, h4⟩ := h
    exact ⟨y, h1, h2, h4⟩
theorem rread3 {l : List UInt8} {w w' : World} {e : Ending} (h : RRPost (LogM.readR l) w e w') : Rd3 l w e w' := by
  rw [← LogM.read_same] at h
  unfold Rd3 rS rM rE
  cases hI : LogM.readI l with
  | none =>
    rw [hI] at h
    exact ⟨Lsl.z, h.1, lown_zr _ _, h.2⟩
  | some p =>
    obtain ⟨s, m⟩ := p
    rw [hI] at h
    obtain ⟨y, h1, h2, h3, h4⟩ := h
    exact ⟨y, h1, h2, h4⟩
set_option maxRecDepth 100000 in
set_option maxHeartbeats 16000000 in
theorem logrecReads_walk (A : Option Addr) (cb : Nat) (l : List UInt8) (w : World) (hr : Row w A (bs l)) (hlc : l.length ≤ cb) (hcm : cb ≤ maxLen) (hl7 : l.length ≤ 140737488355328) :
    Calls Try.prog 3 #[.slice A l.length cb] w fun e w' => e = .returned (.bool true) ∧ Below w.heap.size w w' := by
  have hcm' := Lib.hid hcm
  unfold maxLen at hcm
  have hrh := Lib.hid hr
  go_enter Try.func3, Try.ntmps3
  by_cases hbig : 5000 < l.length
  · go_wp2_with fail
    refine (known09_any _).mono ?_
    rintro e wz ⟨rfl, hb⟩
    go_wp2
    go_ret
    exact ⟨rfl, hb⟩
  · go_wp2_with (at_builtin; refine wpl_app _ rfl (.tmp 16) (.tmp 17) rfl w.heap.size (some ⟨w.heap.size, 0, none⟩) 0 [] rfl (Own.made w #[] 0 (Nat.le_refl _) (by unfold maxLen; omega) rfl) A cb l rfl (hr.alloc _) ?_ ?_ ?_)
    · simp; omega
    · simp
    intro A1 c1 w1 h1 hg1 _
    have hb1 : Below w.heap.size w w1 := ((Below.refl w.heap.size w).alloc (Nat.le_refl _) (.cells #[] 5)).grown hg1 (by simp) (by intro k hk; simp [Value.ownBlock] at hk; omega)
    have hs1 := hb1.size
    go_wp2_with (at_builtin; refine wpl_app _ rfl (.tmp 18) (.tmp 19) rfl w.heap.size A1 c1 l rfl (h1.alloc _) (some ⟨w1.heap.size, 0, none⟩) 1 [77] rfl (row_lit w1 [77] _ _ _ rfl) ?_ ?_ ?_)
    · simp; omega
    · simp; omega
    intro A2 c2 w2 h2 hg2 _
    obtain ⟨gi, rfl, hge, hgl⟩ := h2.some_ (by simp)
    have hle := h2.le
    simp only [List.length_append, List.length_cons, List.length_nil] at hle
    have hb2 : Below w.heap.size w w2 := by
      refine Own.grown_below (h1.alloc (.cells #[.int .u8 77] 5)) rfl hg2 (hb1.alloc hs1 _) (Nat.le_refl _) (by simp; omega)
    clear h1 hg1 hb1 hs1 hg2
    obtain ⟨n, hn⟩ : ∃ n, l.length = n := ⟨_, rfl⟩
    have hlen : ((n : Nat) : Int) ≤ c2 := by omega
    have hn1 : n + 1 ≤ c2 := by omega
    have hc2m := hle.2
    have hc2M := Lib.hid hle.2
    unfold maxLen at hc2m
    have HN := Lib.hid hn
    have hn2 : n ≤ 5000 := by omega
    have hncb : n ≤ cb := by omega
    clear hle hbig hl7
    have hrow2 : Row w2 (some ⟨gi, 0, none⟩) (bs l) := by
      have h := h2.row.take l.length
      rw [bs_append, ← bs_length l, List.take_left] at h
      exact h
    have hrd := Lib.hid ((read_any (some ⟨gi, 0, none⟩) n c2 l w2 hrow2 hn (by omega) hc2M.out (by omega)).mono fun e w' h => read3 h)
    rw [hn] at hlc ⊢
    clear hn hrow2
    obtain ⟨s, hs⟩ : ∃ s, rS l = s := ⟨_, rfl⟩
    obtain ⟨m, hm⟩ : ∃ m, rM l = m := ⟨_, rfl⟩
    obtain ⟨ec, hec⟩ : ∃ ec, rE l = ec := ⟨_, rfl⟩
    have HS := Lib.hid hs
    have HM := Lib.hid hm
    have HE := Lib.hid hec
    have HFT : Hid (LogM.Fit s) := Lib.hid (by rw [← hs]; exact rS_fit l)
    have HLE : Hid (s.old.length = s.new.length) := Lib.hid (by rw [← hs]; exact rS_len l)
    clear hs hm hec
    go_wp2_with fail
    refine hrd.out.mono ?_
    unfold Rd3
    rw [HS.out, HM.out, HE.out]
    rintro e w3 ⟨y, rfl, hl3, b3⟩
    have hx4 := Blk.new w3 31 #[.int .i64 s.kind, .int .u64 (s.lsn : Int), .int .u32 (s.epoch : Int), .int .u64 (s.txn : Int), .int .u32 (s.page : Int), .int .u16 (s.off : Int), .slice y.oA y.on y.oc, .slice y.nA y.nn y.nc, .slice y.uA y.un y.uc, .int .u64 (s.prev : Int), .int .u64 (s.next : Int), .bool s.clr, .int .u64 (s.stamp : Int), .slice y.pA y.pn y.pc, .slice y.dA y.dn y.dc]
    have ba : Below w3.heap.size w3 (w3.alloc (.cells #[.int .i64 s.kind, .int .u64 (s.lsn : Int), .int .u32 (s.epoch : Int), .int .u64 (s.txn : Int), .int .u32 (s.page : Int), .int .u16 (s.off : Int), .slice y.oA y.on y.oc, .slice y.nA y.nn y.nc, .slice y.uA y.un y.uc, .int .u64 (s.prev : Int), .int .u64 (s.next : Int), .bool s.clr, .int .u64 (s.stamp : Int), .slice y.pA y.pn y.pc, .slice y.dA y.dn y.dc] 31)) := (Below.refl w3.heap.size w3).alloc (Nat.le_refl _) _
    clear hrd
    unfold recD
    go_upto_region 5 with fail
    generalize w3.alloc (.cells #[.int .i64 s.kind, .int .u64 (s.lsn : Int), .int .u32 (s.epoch : Int), .int .u64 (s.txn : Int), .int .u32 (s.page : Int), .int .u16 (s.off : Int), .slice y.oA y.on y.oc, .slice y.nA y.nn y.nc, .slice y.uA y.un y.uc, .int .u64 (s.prev : Int), .int .u64 (s.next : Int), .bool s.clr, .int .u64 (s.stamp : Int), .slice y.pA y.pn y.pc, .slice y.dA y.dn y.dc] 31) = w4 at *
    obtain ⟨gx, hgx⟩ : ∃ gx, w3.heap.size = gx := ⟨_, rfl⟩
    have HLT : Hid ((∀ k, (Value.slice y.oA s.old.length y.oc).ownBlock = some k → k ≠ gx) ∧ (∀ k, (Value.slice y.nA s.new.length y.nc).ownBlock = some k → k ≠ gx) ∧ (∀ k, (Value.slice y.uA s.undo.length y.uc).ownBlock = some k → k ≠ gx)) := Lib.hid (by
      rw [← hgx]
      exact ⟨fun k hk => Nat.ne_of_lt (World.ownsRow.lt hl3.o k hk).2, fun k hk => Nat.ne_of_lt (World.ownsRow.lt hl3.n k hk).2, fun k hk => Nat.ne_of_lt (World.ownsRow.lt hl3.u k hk).2⟩)
    have hB4 := below_step (below_step hb2 b3 (Nat.le_refl _)) ba (Nat.le_refl _)
    have h24 := below_step b3 ba (Nat.le_refl _)
    have hl4 := hl3.below ba
    have hr4 := hrh.out.below hB4
    have hi4 := h2.below h24
    rw [hgx] at hx4
    simp only [hgx]
    have hgxw : w2.heap.size ≤ gx := by rw [← hgx]; exact b3.size
    clear hl3 b3 ba hgx hb2
    clear w3
    have hrf := Lib.hid ((rread_any A n cb l w4 hr4 HN.out hncb hcm'.out (by omega)).mono fun e w' h => rread3 h)
    go_wp2_with fail
    refine hrf.out.mono ?_
    unfold Rd3
    rw [HS.out, HM.out, HE.out]
    rintro e w5 ⟨z, rfl, hl5, b5⟩
    have hy6 := Blk.new w5 31 #[.int .i64 s.kind, .int .u64 (s.lsn : Int), .int .u32 (s.epoch : Int), .int .u64 (s.txn : Int), .int .u32 (s.page : Int), .int .u16 (s.off : Int), .slice z.oA z.on z.oc, .slice z.nA z.nn z.nc, .slice z.uA z.un z.uc, .int .u64 (s.prev : Int), .int .u64 (s.next : Int), .bool s.clr, .int .u64 (s.stamp : Int), .slice z.pA z.pn z.pc, .slice z.dA z.dn z.dc]
    have ba : Below w5.heap.size w5 (w5.alloc (.cells #[.int .i64 s.kind, .int .u64 (s.lsn : Int), .int .u32 (s.epoch : Int), .int .u64 (s.txn : Int), .int .u32 (s.page : Int), .int .u16 (s.off : Int), .slice z.oA z.on z.oc, .slice z.nA z.nn z.nc, .slice z.uA z.un z.uc, .int .u64 (s.prev : Int), .int .u64 (s.next : Int), .bool s.clr, .int .u64 (s.stamp : Int), .slice z.pA z.pn z.pc, .slice z.dA z.dn z.dc] 31)) := (Below.refl w5.heap.size w5).alloc (Nat.le_refl _) _
    clear hrf
    unfold recD
    go_upto_region 6 with fail
    generalize w5.alloc (.cells #[.int .i64 s.kind, .int .u64 (s.lsn : Int), .int .u32 (s.epoch : Int), .int .u64 (s.txn : Int), .int .u32 (s.page : Int), .int .u16 (s.off : Int), .slice z.oA z.on z.oc, .slice z.nA z.nn z.nc, .slice z.uA z.un z.uc, .int .u64 (s.prev : Int), .int .u64 (s.next : Int), .bool s.clr, .int .u64 (s.stamp : Int), .slice z.pA z.pn z.pc, .slice z.dA z.dn z.dc] 31) = w6 at *
    obtain ⟨gy, hgy⟩ : ∃ gy, w5.heap.size = gy := ⟨_, rfl⟩
    have h46 := below_step b5 ba (Nat.le_refl _)
    have hB6 := below_step hB4 h46 (Nat.le_refl _)
    have h26 := below_step h24 h46 (Nat.le_refl _)
    have hl6 := hl4.below h46
    have hx6 := hx4.below h46 hx4.lt
    have hi6 := hi4.below h46
    have hz6 := hl5.below ba
    rw [hgy] at hy6
    simp only [hgy]
    clear hl5 b5 ba hgy h46 hB4 hx4 hi4 hr4 h24 hl4
    clear w5
    have HA6 := Lib.hid (hl6.at_ HFT.out)
    have HZ6 := Lib.hid (hz6.at_ HFT.out)
    go_wp2_with (first | refine wpl_load_row rfl _ (.tmp 4) rfl gx (by go_simp) _ #[.int .i64 s.kind, .int .u64 (s.lsn : Int), .int .u32 (s.epoch : Int), .int .u64 (s.txn : Int), .int .u32 (s.page : Int), .int .u16 (s.off : Int), .slice y.oA y.on y.oc, .slice y.nA y.nn y.nc, .slice y.uA y.un y.uc, .int .u64 (s.prev : Int), .int .u64 (s.next : Int), .bool s.clr, .int .u64 (s.stamp : Int), .slice y.pA y.pn y.pc, .slice y.dA y.dn y.dc] (0, 0) _ hx6 Try.underlying31 rfl (by kernel_rfl) ?_ | refine wpl_load_row rfl _ (.tmp 7) rfl gy (by go_simp) _ #[.int .i64 s.kind, .int .u64 (s.lsn : Int), .int .u32 (s.epoch : Int), .int .u64 (s.txn : Int), .int .u32 (s.page : Int), .int .u16 (s.off : Int), .slice z.oA z.on z.oc, .slice z.nA z.nn z.nc, .slice z.uA z.un z.uc, .int .u64 (s.prev : Int), .int .u64 (s.next : Int), .bool s.clr, .int .u64 (s.stamp : Int), .slice z.pA z.pn z.pc, .slice z.dA z.dn z.dc] (0, 0) _ hy6 Try.underlying31 rfl (by kernel_rfl) ?_)
    refine (rsame_any s s y z w6 HA6.out HZ6.out).mono ?_
    rintro e V ⟨r, rfl, hr7, b7⟩
    obtain rfl := hr7.out.2 rfl
    have hBV := below_step hB6 b7 (Nat.le_refl _)
    have hiV := hi6.below b7
    have hlV := hl6.below b7
    have hxV := hx6.below b7 hx6.lt
    clear hr7 b7 hB6 hi6 hx6 hy6 hl6 hz6 HA6 HZ6 h26
    have hco := Cel.of hlV.o HLT.out.1
    have hcn := Cel.of hlV.n HLT.out.2.1
    have hcu := Cel.of hlV.u HLT.out.2.2
    have hon := hlV.lo
    have hnn := hlV.ln
    have hun := hlV.lu
    have hle2 := HLE.out
    rw [hon] at hco hle2
    rw [hnn] at hcn hle2
    rw [hun] at hcu
    have HCB : Hid (y.on ≤ 9223372036854775807 ∧ y.un ≤ 9223372036854775807) := Lib.hid (by
      have h1 := hlV.o.le; have h2 := hlV.u.le
      rw [hon] at h1; rw [hun] at h2
      unfold maxLen at h1 h2
      omega)
    obtain ⟨kind, lsn, epoch, txn, page, off, old, new, undo, prev, next, clr, stamp, opn, dirty⟩ := s
    obtain ⟨oA, on, oc, nA, nn, nc, uA, un, uc, pA, pn, pc, dA, dn, dc⟩ := y
    dsimp only at hle2 hco hcn hcu
    have hcb := HCB.out
    dsimp only at hcb
    obtain ⟨hcb1, hcb2⟩ := hcb
    have HLEQ := Lib.hid hle2
    clear hle2
    have hM0 : Mv V w2.heap.size gx #[.int .i64 kind, .int .u64 (lsn : Int), .int .u32 (epoch : Int), .int .u64 (txn : Int), .int .u32 (page : Int), .int .u16 (off : Int), .slice oA on oc, .slice nA nn nc, .slice uA un uc, .int .u64 (prev : Int), .int .u64 (next : Int), .bool clr, .int .u64 (stamp : Int), .slice pA pn pc, .slice dA dn dc] oA on nA nn uA un V := ⟨Below.refl _ _, hxV, hco, hcn, hcu⟩
    clear hco hcn hcu hlV hxV hon hnn hun HLT HLE HFT HS HCB
    go_wp2
    go_loopw [10] (fun i wr => ∃ q : Nat, i = .int .i64 (q : Int) ∧ q ≤ on ∧ Mv V w2.heap.size gx #[.int .i64 kind, .int .u64 (lsn : Int), .int .u32 (epoch : Int), .int .u64 (txn : Int), .int .u32 (page : Int), .int .u16 (off : Int), .slice oA on oc, .slice nA nn nc, .slice uA un uc, .int .u64 (prev : Int), .int .u64 (next : Int), .bool clr, .int .u64 (stamp : Int), .slice pA pn pc, .slice dA dn dc] oA on nA nn uA un wr) (fun i _ => on - (RowKit.intOf i).toNat)
    case atStart => exact ⟨0, rfl, by omega, hM0⟩
    case round =>
      clear hM0
      obtain ⟨q, rfl, hq, hM⟩ := hrel
      by_cases hlt : q < on
      · as_aux_lemma =>
        obtain ⟨pb, po, u, hA, hgb, hnb, hcell0, hfz⟩ := hM.co q hlt
        obtain rfl : oA = some ⟨pb, po, none⟩ := hA
        have hcell : wr.cell? ⟨pb, po + q, none⟩ = some (.int .u8 (u.toNat : Int)) := hcell0
        clear hcell0
        have xx := add_u8l u
        obtain ⟨v, hv⟩ : ∃ v, u + 1 = v := ⟨_, rfl⟩
        rw [hv] at xx
        clear hv
        obtain ⟨d0, d1, d2, d3, d4, d5, d6, d7, d8, d9, d10, d11, d12, d13, d14⟩ := hM.bx.c15
        clear d0 d1 d2 d3 d4 d5 d7 d8 d9 d10 d11 d12 d13 d14
        have HMV := Lib.hid hM
        clear hM
        go_upto_region 12 with fail
        have hM1 := HMV.out.set (b := pb) (i := po + q) (u := v) hgb hnb ⟨_, hcell⟩
        unfold B at hM1
        generalize wr.setCell ⟨pb, po + q, none⟩ (.int .u8 (v.toNat : Int)) = wr1 at *
        clear hcell hfz xx d6 HMV
        have hltn : q < nn := by have := HLEQ.out; omega
        obtain ⟨pb2, po2, u2, hA2, hgb2, hnb2, hcell0, hfz2⟩ := hM1.cn q hltn
        obtain rfl : nA = some ⟨pb2, po2, none⟩ := hA2
        have hcell2 : wr1.cell? ⟨pb2, po2 + q, none⟩ = some (.int .u8 (u2.toNat : Int)) := hcell0
        clear hcell0
        have xx := add_u8l u2
        obtain ⟨v2, hv⟩ : ∃ v, u2 + 1 = v := ⟨_, rfl⟩
        rw [hv] at xx
        clear hv
        obtain ⟨d0, d1, d2, d3, d4, d5, d6, d7, d8, d9, d10, d11, d12, d13, d14⟩ := hM1.bx.c15
        clear d0 d1 d2 d3 d4 d5 d6 d8 d9 d10 d11 d12 d13 d14
        have HMV := Lib.hid hM1
        clear hM1
        go_wp2
        go_roundw
        case rel => exact ⟨q + 1, by go_num, by omega, HMV.out.set (b := pb2) (i := po2 + q) (u := v2) hgb2 hnb2 ⟨_, hcell2⟩⟩
        case measure => simp [RowKit.intOf]; omega
      · obtain rfl : on = q := by omega
        obtain ⟨d0, d1, d2, d3, d4, d5, d6, d7, d8, d9, d10, d11, d12, d13, d14⟩ := hM.bx.c15
        clear d0 d1 d2 d3 d4 d5 d7 d8 d9 d10 d11 d12 d13 d14
        go_wp2
        clear d6
        go_loopw [11] (fun i wr => ∃ k : Nat, i = .int .i64 (k : Int) ∧ k ≤ un ∧ Mv V w2.heap.size gx #[.int .i64 kind, .int .u64 (lsn : Int), .int .u32 (epoch : Int), .int .u64 (txn : Int), .int .u32 (page : Int), .int .u16 (off : Int), .slice oA on oc, .slice nA nn nc, .slice uA un uc, .int .u64 (prev : Int), .int .u64 (next : Int), .bool clr, .int .u64 (stamp : Int), .slice pA pn pc, .slice dA dn dc] oA on nA nn uA un wr) (fun i _ => un - (RowKit.intOf i).toNat)
        case atStart => exact ⟨0, rfl, by omega, hM⟩
        case round =>
          clear hM
          obtain ⟨k, rfl, hk, hM⟩ := hrel
          by_cases hlt2 : k < un
          · as_aux_lemma =>
            obtain ⟨pb, po, u, hA, hgb, hnb, hcell0, hfz⟩ := hM.cu k hlt2
            obtain rfl : uA = some ⟨pb, po, none⟩ := hA
            have hcell : wr.cell? ⟨pb, po + k, none⟩ = some (.int .u8 (u.toNat : Int)) := hcell0
            clear hcell0
            have xx := add_u8l u
            obtain ⟨v, hv⟩ : ∃ v, u + 1 = v := ⟨_, rfl⟩
            rw [hv] at xx
            clear hv
            obtain ⟨d0, d1, d2, d3, d4, d5, d6, d7, d8, d9, d10, d11, d12, d13, d14⟩ := hM.bx.c15
            clear d0 d1 d2 d3 d4 d5 d6 d7 d9 d10 d11 d12 d13 d14
            have HMV := Lib.hid hM
            clear hM
            go_wp2
            go_roundw
            case rel => exact ⟨k + 1, by go_num, by omega, HMV.out.set (b := pb) (i := po + k) (u := v) hgb hnb ⟨_, hcell⟩⟩
            case measure => simp [RowKit.intOf]; omega
          · obtain rfl : un = k := by omega
            obtain ⟨d0, d1, d2, d3, d4, d5, d6, d7, d8, d9, d10, d11, d12, d13, d14⟩ := hM.bx.c15
            clear d0 d1 d2 d3 d4 d5 d6 d7 d9 d10 d11 d12 d13 d14
            have hbV := hM.bel
            clear hM
            have r1 : Row wr (some ⟨gi, 0, none⟩) (bs (l ++ [77])) := row_belowL hiV.row hbV (fun x hx => by cases hx; exact hgl)
            obtain ⟨r2, h77⟩ := in_rowl r1
            have hBW := hBV.trans (hbV.mono (Nat.le_trans hge (Nat.le_of_lt hgl)))
            have r3 : Row wr A (bs l) := hrh.out.below hBW
            have s1 := str_len wr (some ⟨gi, 0, none⟩) n c2 l HN.out r2
            have s2 := str_len wr A n cb l HN.out r3
            have hse := str_beq l l
            have hsf : ((str l).toList == (str l).toList) = true := by rw [hse]; simp
            rw [HN.out] at h77
            have hn64 : IntKind.i64.wrap ((n : Int) + 1) = ((n + 1 : Nat) : Int) := by rw [IntKind.wrap_i64]; omega
            clear r1 r2 r3 hse hbV
            go_wp2_with fail
            refine (known09_any _).mono ?_
            rintro e wz ⟨rfl, hbz9⟩
            go_wp2
            go_ret
            exact ⟨rfl, below_step hBW hbz9 (Nat.le_refl _)⟩
end Go.Proofs.Ytpgmhjjdnanlgaa
/-! part -/
namespace Go.Proofs.Ytpgmhjjdnanlgaa.logrecReads
open Go.ChangeShapes Go.WideShapes Go.ChangeAt Go.RowKit
set_option linter.unusedVariables false
set_option maxRecDepth 100000 in
theorem lifted (os : Os) (started : os.Started) (H : Type) (enc : TypeId × Value → H) :
    ReturnsInHanded {} Try.checked os 3 .any (Rows.logrecReadsSpec.pre6 enc Try.prog Try.f3 Rows.logrecReadsRow.domain false) (Rows.logrecReadsSpec.post enc Try.prog Try.f3 false true false false) := by
  refine returnsInHanded_of_change_sized (C := Try.checked) own started (by kernel_rfl) Try.func3
    (ChangeSpec.witness6 (enc := enc) (C := Try.checked) false ⟨#[], #[.slice none 0 0], []⟩ 8 (by kernel_rfl) (by kernel_rfl) (by kernel_rfl) (by kernel_rfl)) ?_
  intro W base args ds gs before hval0 hW _ hsz0 _
  have hsz : (DataW.weightsEach Try.prog (Try.f3.params.toList ++ Rows.logrecReadsSpec.plain.varTypes Try.prog) (ds ++ gs)).all (· ≤ reachBytes) = true := hsz0
  clear hsz0
  have hval : ∀ (j : Nat) t v, Try.f3.params[j]? = some t → args[j]? = some v → Value.okWide Try.prog W .any base t v := hval0
  have hW' := hW
  obtain ⟨p, q, hA0, hV, rfl, hfz, hnd⟩ := hW
  have hA : DataW.TrodAll enc Try.prog W 0 (fun _ => true) true Try.f3.params.toList args.toList ds p := hA0
  rw [Try.params3] at hA hval hsz
  obtain ⟨v0, vs0, d0, ds0, p0, q0, hargs, rfl, rfl, h0, r_0⟩ := trodAll_cons hA
  obtain ⟨rfl, rfl, rfl⟩ := trodAll_nil r_0
  obtain rfl : args = #[v0] := by cases args; simp_all
  obtain ⟨rfl, rfl⟩ := trodVars_none hV
  have k0 := h0
  have lt0 : ∀ x ∈ p0, x.block < W.heap.size := by obtain ⟨m, hm⟩ := k0; exact DataW.trod_lt m _ _ _ hm
  obtain ⟨A0, c0, l0, rfl, r0, hc0, hcx0, hz0⟩ := read_bytes Try.underlying22 Try.underlying5 (by kernel_rfl) (hval 0 22 v0 rfl rfl) h0
  have hm0 := reach_slice hsz (j := 0) (bytes := 1) rfl rfl Try.underlying22 (by kernel_rfl) hz0
  clear hA0 hval0
  refine (logrecReads_walk A0 c0 l0 W r0 hc0 hcx0 (by omega)).mono fun e W' ⟨he, bel⟩ => ?_
  subst he
  exact ⟨_, rfl, _, _, _, [], _, [], hW', trodAll_mk1 (shut_bool Try.underlying4 _), (trodAll_cons_mk (Below.trod laidOut (by kernel_rfl) (of_decide_eq_true (by kernel_rfl)) k0 bel lt0) trodAll_mk0), rfl, bel.frame _, fun h => by cases h⟩

theorem over : Rows.logrecReadsRow.holds Try.pinned (OpenSpec.ofChange Rows.logrecReadsSpec) :=
  OpenClaim.holds_of_wide 3 Try.f3 rfl rfl rfl rfl rfl rfl rfl ⟨rfl, rfl, rfl, rfl, rfl⟩ rfl rfl rfl rfl rfl (by kernel_rfl) Try.func3 (by kernel_rfl)
    (of_decide_eq_true (by kernel_rfl)) (by unfold Func.isWrapper; rw [if_neg (of_decide_eq_false (by kernel_rfl))]; exact ⟨rfl, rfl⟩)
    (fun os started H enc _ => lifted os started H enc)

/-- The statement. -/
theorem proved : Rows.LogrecReadsSaid := over
#print axioms proved
end Go.Proofs.Ytpgmhjjdnanlgaa.logrecReads
