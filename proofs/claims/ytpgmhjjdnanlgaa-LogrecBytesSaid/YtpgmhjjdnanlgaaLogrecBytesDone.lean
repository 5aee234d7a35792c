/-
  LogrecBytes: for every input the law returns true, and each argument reads afterwards as it read before.
  Conditions: those of the given statement (the form's own reach).
-/
import Derived.Test.YtpgmhjjdnanlgaaFrame2
import Derived.Test.YtpgmhjjdnanlgaaLogW1
import Derived.Test.YtpgmhjjdnanlgaaLogR1
import Derived.Test.YtpgmhjjdnanlgaaLogS3
import Derived.Test.YtpgmhjjdnanlgaaLogD2
import Derived.Test.YtpgmhjjdnanlgaaLogC1
import Derived.Test.YtpgmhjjdnanlgaaLogB2
import Derived.Test.YtpgmhjjdnanlgaaFrame
/-! part -/
namespace Go.Proofs.Ytpgmhjjdnanlgaa
open Go.ChangeShapes Go.WideShapes Go.ChangeAt Go.RowKit Go.Deep
set_option linter.unusedVariables false
section
variable {H : Type} {enc : TypeId × Value → H} {w : World}
theorem rdl_u8 (fuel : Nat) (cs : List Value) (y : DataW H × List MemPlace) (h : DataW.trod enc Try.prog w 0 (fun _ => true) true fuel 5 cs = some y) : ∃ s : UInt8, cs = [B s] := by
  obtain ⟨a, i, _, w0⟩ := DataW.trod_int Try.underlying5 h
  have g1 : 0 ≤ a ∧ a ≤ 255 := by simpa [Lit.wf, IntKind.min, IntKind.max, IntKind.signed, IntKind.bits] using w0
  refine ⟨UInt8.ofNat a.toNat, ?_⟩
  rw [i]
  unfold B
  congr 2
  rw [UInt8.toNat_ofNat']
  omega
theorem bsl_flat (xs : List UInt8) : xs.flatMap (fun u => [B u]) = bs xs := by
  induction xs with
  | nil => rfl
  | cons a l ih => rw [List.flatMap_cons, ih]; rfl
abbrev ChS := { c : Nat × Nat × Nat // c.1 < 18446744073709551616 ∧ c.2.1 < 18446744073709551616 ∧ c.2.2 < 18446744073709551616 }
abbrev DtS := { d : Nat × Nat // d.1 < 4294967296 ∧ d.2 < 18446744073709551616 }
theorem chS_flat (xs : List ChS) : xs.flatMap (fun s : ChS => chC s.1) = (xs.map (·.1)).flatMap chC := by
  induction xs with
  | nil => rfl
  | cons a l ih => rw [List.flatMap_cons, ih, List.map_cons, List.flatMap_cons]
theorem dtS_flat (xs : List DtS) : xs.flatMap (fun s : DtS => dtC s.1) = (xs.map (·.1)).flatMap dtC := by
  induction xs with
  | nil => rfl
  | cons a l ih => rw [List.flatMap_cons, ih, List.map_cons, List.flatMap_cons]
theorem i64_nat2 {a : Int} {k : IntKind} {n : Nat} (h : 0 ≤ a ∧ a < n) : ∃ m : Nat, a = (m : Int) ∧ m < n := ⟨a.toNat, by omega, by omega⟩
theorem rdl_u64 {cs : List Value} {fuel : Nat} {y : DataW H × List MemPlace} (h : DataW.trod enc Try.prog w 0 (fun _ => true) true fuel 25 cs = some y) : ∃ m : Nat, cs = [.int .u64 (m : Int)] ∧ m < 18446744073709551616 := by
  obtain ⟨a, i, _, w0⟩ := DataW.trod_int Try.underlying25 h
  have g : 0 ≤ a ∧ a ≤ 18446744073709551615 := by simpa [Lit.wf, IntKind.min, IntKind.max, IntKind.signed, IntKind.bits] using w0
  exact ⟨a.toNat, by rw [i, Int.toNat_of_nonneg g.1], by omega⟩
theorem rdl_u32 {cs : List Value} {fuel : Nat} {y : DataW H × List MemPlace} (h : DataW.trod enc Try.prog w 0 (fun _ => true) true fuel 26 cs = some y) : ∃ m : Nat, cs = [.int .u32 (m : Int)] ∧ m < 4294967296 := by
  obtain ⟨a, i, _, w0⟩ := DataW.trod_int Try.underlying26 h
  have g : 0 ≤ a ∧ a ≤ 4294967295 := by simpa [Lit.wf, IntKind.min, IntKind.max, IntKind.signed, IntKind.bits] using w0
  exact ⟨a.toNat, by rw [i, Int.toNat_of_nonneg g.1], by omega⟩
theorem rdl_u16 {cs : List Value} {fuel : Nat} {y : DataW H × List MemPlace} (h : DataW.trod enc Try.prog w 0 (fun _ => true) true fuel 27 cs = some y) : ∃ m : Nat, cs = [.int .u16 (m : Int)] ∧ m < 65536 := by
  obtain ⟨a, i, _, w0⟩ := DataW.trod_int Try.underlying27 h
  have g : 0 ≤ a ∧ a ≤ 65535 := by simpa [Lit.wf, IntKind.min, IntKind.max, IntKind.signed, IntKind.bits] using w0
  exact ⟨a.toNat, by rw [i, Int.toNat_of_nonneg g.1], by omega⟩
theorem rdl_ch (fuel : Nat) (cs : List Value) (y : DataW H × List MemPlace) (h : DataW.trod enc Try.prog w 0 (fun _ => true) true fuel 54 cs = some y) : ∃ s : ChS, cs = chC s.1 := by
  obtain ⟨hl, n, hf⟩ := read_struct Try.underlying54 (by kernel_rfl) (by kernel_rfl) h
  obtain ⟨v0, z0, e0, h0⟩ := hf 0 _ rfl
  obtain ⟨v1, z1, e1, h1⟩ := hf 1 _ rfl
  obtain ⟨v2, z2, e2, h2⟩ := hf 2 _ rfl
  obtain ⟨k0, i0, b0⟩ := rdl_u64 h0
  obtain ⟨k1, i1, b1⟩ := rdl_u64 h1
  obtain ⟨k2, i2, b2⟩ := rdl_u64 h2
  simp only [List.cons.injEq, and_true] at i0 i1 i2
  subst i0 i1 i2
  match cs, hl with
  | [x0, x1, x2], _ =>
    simp at e0 e1 e2
    subst e0 e1 e2
    exact ⟨⟨(k0, k1, k2), b0, b1, b2⟩, rfl⟩
theorem rdl_dt (fuel : Nat) (cs : List Value) (y : DataW H × List MemPlace) (h : DataW.trod enc Try.prog w 0 (fun _ => true) true fuel 56 cs = some y) : ∃ s : DtS, cs = dtC s.1 := by
  obtain ⟨hl, n, hf⟩ := read_struct Try.underlying56 (by kernel_rfl) (by kernel_rfl) h
  obtain ⟨v0, z0, e0, h0⟩ := hf 0 _ rfl
  obtain ⟨v1, z1, e1, h1⟩ := hf 1 _ rfl
  obtain ⟨k0, i0, b0⟩ := rdl_u32 h0
  obtain ⟨k1, i1, b1⟩ := rdl_u64 h1
  simp only [List.cons.injEq, and_true] at i0 i1
  subst i0 i1
  match cs, hl with
  | [x0, x1], _ =>
    simp at e0 e1
    subst e0 e1
    exact ⟨⟨(k0, k1), b0, b1⟩, rfl⟩
theorem rdl_bytes {fuel : Nat} {cs : List Value} {y : DataW H × List MemPlace} (h : DataW.trod enc Try.prog w 0 (fun _ => true) true fuel 22 cs = some y) : ∃ (A : Option Addr) (c : Nat) (l : List UInt8), cs = [.slice A l.length c] ∧ Row w A (bs l) ∧ l.length ≤ c ∧ c ≤ maxLen := by
  obtain ⟨A, c, l, i, hr, hlc, hm, _⟩ := read_slice (cells := fun u => [B u]) (size := 1) (fun _ => rfl) (by omega) Try.underlying22 (by kernel_rfl) rdl_u8 h
  rw [bsl_flat] at hr
  exact ⟨A, c, l, i, hr, hlc, hm⟩
set_option maxRecDepth 100000 in
set_option maxHeartbeats 4000000 in
theorem rd_rec (fuel : Nat) (cs : List Value) (q : DataW H × List MemPlace) (h : DataW.trod enc Try.prog w 0 (fun _ => true) true fuel 31 cs = some q) : ∃ (s : Lrec) (y : Lsl), cs = (#[.int .i64 s.kind, .int .u64 (s.lsn : Int), .int .u32 (s.epoch : Int), .int .u64 (s.txn : Int), .int .u32 (s.page : Int), .int .u16 (s.off : Int), .slice y.oA y.on y.oc, .slice y.nA y.nn y.nc, .slice y.uA y.un y.uc, .int .u64 (s.prev : Int), .int .u64 (s.next : Int), .bool s.clr, .int .u64 (s.stamp : Int), .slice y.pA y.pn y.pc, .slice y.dA y.dn y.dc] : Array Value).toList ∧ LogAt w y s := by
  obtain ⟨hl, n, hf⟩ := read_struct Try.underlying31 (by kernel_rfl) (by kernel_rfl) h
  obtain ⟨v0, z0, e0, h0⟩ := hf 0 _ rfl
  obtain ⟨v1, z1, e1, h1⟩ := hf 1 _ rfl
  obtain ⟨v2, z2, e2, h2⟩ := hf 2 _ rfl
  obtain ⟨v3, z3, e3, h3⟩ := hf 3 _ rfl
  obtain ⟨v4, z4, e4, h4⟩ := hf 4 _ rfl
  obtain ⟨v5, z5, e5, h5⟩ := hf 5 _ rfl
  obtain ⟨v6, z6, e6, h6⟩ := hf 6 _ rfl
  obtain ⟨v7, z7, e7, h7⟩ := hf 7 _ rfl
  obtain ⟨v8, z8, e8, h8⟩ := hf 8 _ rfl
  obtain ⟨v9, z9, e9, h9⟩ := hf 9 _ rfl
  obtain ⟨v10, z10, e10, h10⟩ := hf 10 _ rfl
  obtain ⟨v11, z11, e11, h11⟩ := hf 11 _ rfl
  obtain ⟨v12, z12, e12, h12⟩ := hf 12 _ rfl
  obtain ⟨v13, z13, e13, h13⟩ := hf 13 _ rfl
  obtain ⟨v14, z14, e14, h14⟩ := hf 14 _ rfl
  obtain ⟨k0, i0, _, _⟩ := DataW.trod_int Try.underlying24 h0
  obtain ⟨k1, i1, b1⟩ := rdl_u64 h1
  obtain ⟨k2, i2, b2⟩ := rdl_u32 h2
  obtain ⟨k3, i3, b3⟩ := rdl_u64 h3
  obtain ⟨k4, i4, b4⟩ := rdl_u32 h4
  obtain ⟨k5, i5, b5⟩ := rdl_u16 h5
  obtain ⟨A6, c6, l6, i6, r6, lc6, m6⟩ := rdl_bytes h6
  obtain ⟨A7, c7, l7, i7, r7, lc7, m7⟩ := rdl_bytes h7
  obtain ⟨A8, c8, l8, i8, r8, lc8, m8⟩ := rdl_bytes h8
  obtain ⟨k9, i9, b9⟩ := rdl_u64 h9
  obtain ⟨k10, i10, b10⟩ := rdl_u64 h10
  obtain ⟨k11, i11, _⟩ := DataW.trod_bool Try.underlying4 h11
  obtain ⟨k12, i12, b12⟩ := rdl_u64 h12
  obtain ⟨A13, c13, l13, i13, r13, lc13, m13, _⟩ := read_slice (cells := fun s : ChS => chC s.1) (size := 3) (fun _ => rfl) (by omega) Try.underlying28 (by kernel_rfl) rdl_ch h13
  obtain ⟨A14, c14, l14, i14, r14, lc14, m14, _⟩ := read_slice (cells := fun s : DtS => dtC s.1) (size := 2) (fun _ => rfl) (by omega) Try.underlying29 (by kernel_rfl) rdl_dt h14
  rw [chS_flat] at r13
  rw [dtS_flat] at r14
  simp only [List.cons.injEq, and_true] at i0 i1 i2 i3 i4 i5 i6 i7 i8 i9 i10 i11 i12 i13 i14
  subst i0 i1 i2 i3 i4 i5 i6 i7 i8 i9 i10 i11 i12 i13 i14
  match cs, hl with
  | [x0, x1, x2, x3, x4, x5, x6, x7, x8, x9, x10, x11, x12, x13, x14], _ =>
    simp only [List.getElem?_cons_zero, List.getElem?_cons_succ, Option.some.injEq] at e0 e1 e2 e3 e4 e5 e6 e7 e8 e9 e10 e11 e12 e13 e14
    subst e0 e1 e2 e3 e4 e5 e6 e7 e8 e9 e10 e11 e12 e13 e14
    refine ⟨⟨k0, k1, k2, k3, k4, k5, l6, l7, l8, k9, k10, k11, k12, l13.map (·.1), l14.map (·.1)⟩, ⟨A6, l6.length, c6, A7, l7.length, c7, A8, l8.length, c8, A13, l13.length, c13, A14, l14.length, c14⟩, rfl,
      ⟨r6, r7, r8, r13, r14, rfl, rfl, rfl, List.length_map _, List.length_map _, ⟨lc6, m6⟩, ⟨lc7, m7⟩, ⟨lc8, m8⟩, ⟨lc13, m13⟩, ⟨lc14, m14⟩, ⟨b1, b2, b3, b4, b5, b9, b10, b12, ?_, ?_⟩⟩⟩
    · intro c hc
      obtain ⟨x, _, rfl⟩ := List.mem_map.1 hc
      exact x.2
    · intro c hc
      obtain ⟨x, _, rfl⟩ := List.mem_map.1 hc
      exact x.2
set_option maxRecDepth 100000 in
theorem read_rec {r : Reach} {b0 : Nat} {v : Value} {d : DataW H} {p : List MemPlace} (hv : Value.okWide Try.prog w r b0 31 v) (h : DataW.Trod enc Try.prog w 0 (fun _ => true) true 31 v d p) :
    ∃ (s : Lrec) (y : Lsl), v = .agg #[.int .i64 s.kind, .int .u64 (s.lsn : Int), .int .u32 (s.epoch : Int), .int .u64 (s.txn : Int), .int .u32 (s.page : Int), .int .u16 (s.off : Int), .slice y.oA y.on y.oc, .slice y.nA y.nn y.nc, .slice y.uA y.un y.uc, .int .u64 (s.prev : Int), .int .u64 (s.next : Int), .bool s.clr, .int .u64 (s.stamp : Int), .slice y.pA y.pn y.pc, .slice y.dA y.dn y.dc] ∧ LogAt w y s := by
  obtain ⟨cs, rfl, _⟩ := okWide_struct Try.underlying31 hv
  obtain ⟨fuel, hf⟩ := h
  obtain ⟨s, y, e, h1⟩ := rd_rec fuel _ _ hf
  have e' : cs.toList = (#[.int .i64 s.kind, .int .u64 (s.lsn : Int), .int .u32 (s.epoch : Int), .int .u64 (s.txn : Int), .int .u32 (s.page : Int), .int .u16 (s.off : Int), .slice y.oA y.on y.oc, .slice y.nA y.nn y.nc, .slice y.uA y.un y.uc, .int .u64 (s.prev : Int), .int .u64 (s.next : Int), .bool s.clr, .int .u64 (s.stamp : Int), .slice y.pA y.pn y.pc, .slice y.dA y.dn y.dc] : Array Value).toList := by simpa [Value.cells] using e
  refine ⟨s, y, ?_, h1⟩
  congr 1
  exact Array.ext' e'
end
end Go.Proofs.Ytpgmhjjdnanlgaa
/-! part -/
namespace Go.Proofs.Ytpgmhjjdnanlgaa
open Go.RowKit Go.Sort Go.Lib
set_option linter.unusedVariables false
set_option linter.unusedSimpArgs false
namespace LogM
def x0 : Lrec := ⟨4, 128, 0, 7, 0, 0, [], [], [], 0, 0, false, 0, [], []⟩
theorem x0_may : May x0 := by decide
theorem x0_fit : Fit x0 := ⟨by decide, by decide, by decide, by decide, by decide, by decide, by decide, by decide, nofun, nofun⟩
theorem x0_len : (form x0).length = 27 := by rw [form_length]; simp [tail, x0, CodeM.fx_length]
theorem x0_read : readI (form x0) = some (x0, 27) := by
  have := readI_form x0_may x0_fit []
  rwa [List.append_nil, x0_len] at this
end LogM
set_option maxRecDepth 100000 in
set_option maxHeartbeats 8000000 in
theorem known09_any (w : World) : Calls Try.prog 8 #[] w fun e w' => e = .returned (.bool true) ∧ Below w.heap.size w w' := by
  have HAT : Hid (∀ w', LogAt w' Lsl.z LogM.x0) := Lib.hid fun w' => (⟨Own.nil_ _ _, Own.nil_ _ _, Own.nil_ _ _, World.ownsRow_nil _ _ _ _, World.ownsRow_nil _ _ _ _, rfl, rfl, rfl, rfl, rfl⟩ : Lown w' 0 Lsl.z LogM.x0).at_ LogM.x0_fit
  go_enter Try.func8, Try.ntmps8
  have hx := Blk.new w 31 #[.int .i64 4, .int .u64 128, .int .u32 0, .int .u64 7, .int .u32 0, .int .u16 0, .slice none 0 0, .slice none 0 0, .slice none 0 0, .int .u64 0, .int .u64 0, .bool false, .int .u64 0, .slice none 0 0, .slice none 0 0]
  have hb : Below w.heap.size w (w.alloc (.cells #[.int .i64 4, .int .u64 128, .int .u32 0, .int .u64 7, .int .u32 0, .int .u16 0, .slice none 0 0, .slice none 0 0, .slice none 0 0, .int .u64 0, .int .u64 0, .bool false, .int .u64 0, .slice none 0 0, .slice none 0 0] 31)) := (Below.refl w.heap.size w).alloc (Nat.le_refl _) _
  go_upto_region 2 with fail
  generalize w.alloc (.cells #[.int .i64 4, .int .u64 128, .int .u32 0, .int .u64 7, .int .u32 0, .int .u16 0, .slice none 0 0, .slice none 0 0, .slice none 0 0, .int .u64 0, .int .u64 0, .bool false, .int .u64 0, .slice none 0 0, .slice none 0 0] 31) = V0 at *
  obtain ⟨g, hg⟩ : ∃ g, w.heap.size = g := ⟨_, rfl⟩
  rw [hg] at hx
  simp only [hg]
  have HG := Lib.hid hg
  clear hg
  go_wp2_with (refine wpl_load_row rfl _ (.tmp 1) rfl g (by go_simp) _ #[.int .i64 LogM.x0.kind, .int .u64 (LogM.x0.lsn : Int), .int .u32 (LogM.x0.epoch : Int), .int .u64 (LogM.x0.txn : Int), .int .u32 (LogM.x0.page : Int), .int .u16 (LogM.x0.off : Int), .slice Lsl.z.oA Lsl.z.on Lsl.z.oc, .slice Lsl.z.nA Lsl.z.nn Lsl.z.nc, .slice Lsl.z.uA Lsl.z.un Lsl.z.uc, .int .u64 (LogM.x0.prev : Int), .int .u64 (LogM.x0.next : Int), .bool LogM.x0.clr, .int .u64 (LogM.x0.stamp : Int), .slice Lsl.z.pA Lsl.z.pn Lsl.z.pc, .slice Lsl.z.dA Lsl.z.dn Lsl.z.dc] (0, 0) _ hx Try.underlying31 rfl (by kernel_rfl) ?_)
  go_wp2_with fail
  refine (bytes_any LogM.x0 Lsl.z V0 (HAT.out _)).mono ?_
  rintro e V1 (⟨_, A, n, c, rfl, hn, hO, hb1⟩ | ⟨hm, _, _⟩)
  rotate_left
  · exact absurd LogM.x0_may hm
  obtain rfl : 27 = n := by rw [← hn.out, LogM.x0_len]
  have hx1 := hx.below hb1 hx.lt
  have hB1 := below_step hb hb1 (Nat.le_refl _)
  have hle := hO.le
  rw [LogM.x0_len] at hle
  have hrd := read_any A 27 c (LogM.form LogM.x0) V1 hO.row LogM.x0_len hle.1 hle.2 (by omega)
  rw [LogM.x0_read] at hrd
  have HRD := Lib.hid hrd
  clear hrd hx hb hb1 hO hle hn
  go_wp2_with fail
  refine HRD.out.mono ?_
  rintro e V2 ⟨y, rfl, hl, hft, hb2⟩
  have hx2 := hx1.below hb2 hx1.lt
  have hB2 := below_step hB1 hb2 (Nat.le_refl _)
  have hy3 := Blk.new V2 31 #[.int .i64 LogM.x0.kind, .int .u64 (LogM.x0.lsn : Int), .int .u32 (LogM.x0.epoch : Int), .int .u64 (LogM.x0.txn : Int), .int .u32 (LogM.x0.page : Int), .int .u16 (LogM.x0.off : Int), .slice y.oA y.on y.oc, .slice y.nA y.nn y.nc, .slice y.uA y.un y.uc, .int .u64 (LogM.x0.prev : Int), .int .u64 (LogM.x0.next : Int), .bool LogM.x0.clr, .int .u64 (LogM.x0.stamp : Int), .slice y.pA y.pn y.pc, .slice y.dA y.dn y.dc]
  have hb3 : Below V2.heap.size V2 (V2.alloc (.cells #[.int .i64 LogM.x0.kind, .int .u64 (LogM.x0.lsn : Int), .int .u32 (LogM.x0.epoch : Int), .int .u64 (LogM.x0.txn : Int), .int .u32 (LogM.x0.page : Int), .int .u16 (LogM.x0.off : Int), .slice y.oA y.on y.oc, .slice y.nA y.nn y.nc, .slice y.uA y.un y.uc, .int .u64 (LogM.x0.prev : Int), .int .u64 (LogM.x0.next : Int), .bool LogM.x0.clr, .int .u64 (LogM.x0.stamp : Int), .slice y.pA y.pn y.pc, .slice y.dA y.dn y.dc] 31)) := (Below.refl _ _).alloc (Nat.le_refl _) _
  have hx3 := hx2.below hb3 hx2.lt
  have hB3 := below_step hB2 hb3 (Nat.le_refl _)
  have hat3 := (hl.below hb3).at_ hft
  go_upto_region 4 with fail
  generalize V2.alloc (.cells #[.int .i64 LogM.x0.kind, .int .u64 (LogM.x0.lsn : Int), .int .u32 (LogM.x0.epoch : Int), .int .u64 (LogM.x0.txn : Int), .int .u32 (LogM.x0.page : Int), .int .u16 (LogM.x0.off : Int), .slice y.oA y.on y.oc, .slice y.nA y.nn y.nc, .slice y.uA y.un y.uc, .int .u64 (LogM.x0.prev : Int), .int .u64 (LogM.x0.next : Int), .bool LogM.x0.clr, .int .u64 (LogM.x0.stamp : Int), .slice y.pA y.pn y.pc, .slice y.dA y.dn y.dc] 31) = V3 at *
  obtain ⟨gy, hgy⟩ : ∃ gy, V2.heap.size = gy := ⟨_, rfl⟩
  rw [hgy] at hy3
  simp only [hgy]
  clear hgy hx2 hB2 hb2 hb3 hl hft hx1 hB1 HRD
  have HA3 := Lib.hid hat3
  have HB3 := Lib.hid hB3
  clear hat3 hB3
  go_wp2_with (first | refine wpl_load_row rfl _ (.tmp 1) rfl g (by go_simp) _ #[.int .i64 LogM.x0.kind, .int .u64 (LogM.x0.lsn : Int), .int .u32 (LogM.x0.epoch : Int), .int .u64 (LogM.x0.txn : Int), .int .u32 (LogM.x0.page : Int), .int .u16 (LogM.x0.off : Int), .slice Lsl.z.oA Lsl.z.on Lsl.z.oc, .slice Lsl.z.nA Lsl.z.nn Lsl.z.nc, .slice Lsl.z.uA Lsl.z.un Lsl.z.uc, .int .u64 (LogM.x0.prev : Int), .int .u64 (LogM.x0.next : Int), .bool LogM.x0.clr, .int .u64 (LogM.x0.stamp : Int), .slice Lsl.z.pA Lsl.z.pn Lsl.z.pc, .slice Lsl.z.dA Lsl.z.dn Lsl.z.dc] (0, 0) _ hx3 Try.underlying31 rfl (by kernel_rfl) ?_ | refine wpl_load_row rfl _ (.tmp 4) rfl gy (by go_simp) _ #[.int .i64 LogM.x0.kind, .int .u64 (LogM.x0.lsn : Int), .int .u32 (LogM.x0.epoch : Int), .int .u64 (LogM.x0.txn : Int), .int .u32 (LogM.x0.page : Int), .int .u16 (LogM.x0.off : Int), .slice y.oA y.on y.oc, .slice y.nA y.nn y.nc, .slice y.uA y.un y.uc, .int .u64 (LogM.x0.prev : Int), .int .u64 (LogM.x0.next : Int), .bool LogM.x0.clr, .int .u64 (LogM.x0.stamp : Int), .slice y.pA y.pn y.pc, .slice y.dA y.dn y.dc] (0, 0) _ hy3 Try.underlying31 rfl (by kernel_rfl) ?_)
  refine (rsame_any LogM.x0 LogM.x0 Lsl.z y V3 (HAT.out _) HA3.out).mono ?_
  rintro e V4 ⟨r, rfl, HR, hb4⟩
  obtain rfl : r = true := HR.out.2 rfl
  go_wp2
  go_ret
  exact ⟨rfl, below_step HB3.out hb4 (Nat.le_refl _)⟩
end Go.Proofs.Ytpgmhjjdnanlgaa
/-! part -/
namespace Go.Proofs.Ytpgmhjjdnanlgaa
open Go.RowKit Go.Sort Go.Lib
set_option linter.unusedVariables false
set_option linter.unusedSimpArgs false
theorem add_u8b (u : UInt8) : IntKind.u8.wrap ((u.toNat : Int) + 1) = ((u + 1).toNat : Int) := by
  rw [IntKind.wrap_u8, UInt8.toNat_add]
  show _ = (((u.toNat + 1) % 256 : Nat) : Int)
  omega
def lb6YP (s : Lrec) (y zc : Lsl) : List (Nat × Nat × Value) := [(0, 23, (.agg #[.int .i64 s.kind, .int .u64 (s.lsn : Int), .int .u32 (s.epoch : Int), .int .u64 (s.txn : Int), .int .u32 (s.page : Int), .int .u16 (s.off : Int), .slice zc.oA zc.on zc.oc, .slice zc.nA zc.nn zc.nc, .slice zc.uA zc.un zc.uc, .int .u64 (s.prev : Int), .int .u64 (s.next : Int), .bool s.clr, .int .u64 (s.stamp : Int), .slice zc.pA zc.pn zc.pc, .slice zc.dA zc.dn zc.dc])), (1, 24, (.bool true)), (2, 25, (.agg #[.int .i64 s.kind, .int .u64 (s.lsn : Int), .int .u32 (s.epoch : Int), .int .u64 (s.txn : Int), .int .u32 (s.page : Int), .int .u16 (s.off : Int), .slice y.oA y.on y.oc, .slice y.nA y.nn y.nc, .slice y.uA y.un y.uc, .int .u64 (s.prev : Int), .int .u64 (s.next : Int), .bool s.clr, .int .u64 (s.stamp : Int), .slice y.pA y.pn y.pc, .slice y.dA y.dn y.dc])), (3, 26, (.bool true)), (4, 27, (.bool false))]
def lb6YM (s : Lrec) (y zc : Lsl) : List Mk := []
def lb6YC : List Cp := []
def lb6NP (s : Lrec) (y zc : Lsl) : List (Nat × Nat × Value) := [(0, 23, (.agg #[.int .i64 s.kind, .int .u64 (s.lsn : Int), .int .u32 (s.epoch : Int), .int .u64 (s.txn : Int), .int .u32 (s.page : Int), .int .u16 (s.off : Int), .slice zc.oA zc.on zc.oc, .slice zc.nA zc.nn zc.nc, .slice zc.uA zc.un zc.uc, .int .u64 (s.prev : Int), .int .u64 (s.next : Int), .bool s.clr, .int .u64 (s.stamp : Int), .slice zc.pA zc.pn zc.pc, .slice zc.dA zc.dn zc.dc])), (1, 24, (.bool false)), (2, 25, (.agg #[.int .i64 s.kind, .int .u64 (s.lsn : Int), .int .u32 (s.epoch : Int), .int .u64 (s.txn : Int), .int .u32 (s.page : Int), .int .u16 (s.off : Int), .slice y.oA y.on y.oc, .slice y.nA y.nn y.nc, .slice y.uA y.un y.uc, .int .u64 (s.prev : Int), .int .u64 (s.next : Int), .bool s.clr, .int .u64 (s.stamp : Int), .slice y.pA y.pn y.pc, .slice y.dA y.dn y.dc])), (3, 26, (.bool false)), (4, 27, (.bool false))]
def lb6NM (s : Lrec) (y zc : Lsl) : List Mk := []
def lb6NC : List Cp := []
def lb11P (s : Lrec) (y yr : Lsl) (gb m fc : Nat) : List (Nat × Nat × Value) := [(0, 56, (.int .i64 0)), (1, 57, (.bool false)), (2, 58, (.bool false)), (3, 59, (.int .i64 0)), (4, 60, (.bool false)), (5, 61, (.bool false)), (6, 62, (.bool false)), (7, 63, (.int .i64 (m : Int))), (8, 64, (.slice (some ⟨gb, 0, none⟩) m fc)), (9, 65, (.int .i64 (m : Int))), (10, 66, (.bool false)), (11, 67, (.bool false)), (12, 68, (.bool false)), (13, 69, (.int .i64 (m : Int))), (14, 70, (.int .i64 (m : Int))), (15, 71, (.bool false)), (16, 72, (.bool false)), (17, 73, (.bool false)), (18, 74, (.int .i64 (m : Int))), (19, 75, (.bool false)), (20, 76, (.bool false)), (21, 77, (.bool false)), (22, 78, (.slice (some ⟨gb, 0, none⟩) m fc)), (23, 79, (.string (str (LogM.form s)))), (24, 80, (.agg #[.int .i64 s.kind, .int .u64 (s.lsn : Int), .int .u32 (s.epoch : Int), .int .u64 (s.txn : Int), .int .u32 (s.page : Int), .int .u16 (s.off : Int), .slice y.oA y.on y.oc, .slice y.nA y.nn y.nc, .slice y.uA y.un y.uc, .int .u64 (s.prev : Int), .int .u64 (s.next : Int), .bool s.clr, .int .u64 (s.stamp : Int), .slice y.pA y.pn y.pc, .slice y.dA y.dn y.dc])), (26, 82, (.string (str (LogM.form s)))), (27, 83, (.bool false)), (28, 84, (.bool false)), (29, 85, (.bool false)), (30, 86, (.agg #[.int .i64 s.kind, .int .u64 (s.lsn : Int), .int .u32 (s.epoch : Int), .int .u64 (s.txn : Int), .int .u32 (s.page : Int), .int .u16 (s.off : Int), .slice y.oA y.on y.oc, .slice y.nA y.nn y.nc, .slice y.uA y.un y.uc, .int .u64 (s.prev : Int), .int .u64 (s.next : Int), .bool s.clr, .int .u64 (s.stamp : Int), .slice y.pA y.pn y.pc, .slice y.dA y.dn y.dc])), (31, 87, (.agg #[.int .i64 s.kind, .int .u64 (s.lsn : Int), .int .u32 (s.epoch : Int), .int .u64 (s.txn : Int), .int .u32 (s.page : Int), .int .u16 (s.off : Int), .slice yr.oA yr.on yr.oc, .slice yr.nA yr.nn yr.nc, .slice yr.uA yr.un yr.uc, .int .u64 (s.prev : Int), .int .u64 (s.next : Int), .bool s.clr, .int .u64 (s.stamp : Int), .slice yr.pA yr.pn yr.pc, .slice yr.dA yr.dn yr.dc])), (32, 88, (.bool true)), (33, 89, (.bool false)), (34, 90, (.bool false))]
def lb11M (s : Lrec) (y yr : Lsl) (gb m fc : Nat) : List Mk := [⟨25, 81, LogM.form s, none⟩]
def lb11C : List Cp := []
set_option maxRecDepth 100000 in
set_option maxHeartbeats 16000000 in
theorem logrecBytes_walk (s : Lrec) (y : Lsl) (w : World) (hs : LogAt w y s) :
    Calls Try.prog 4 #[(.agg #[.int .i64 s.kind, .int .u64 (s.lsn : Int), .int .u32 (s.epoch : Int), .int .u64 (s.txn : Int), .int .u32 (s.page : Int), .int .u16 (s.off : Int), .slice y.oA y.on y.oc, .slice y.nA y.nn y.nc, .slice y.uA y.un y.uc, .int .u64 (s.prev : Int), .int .u64 (s.next : Int), .bool s.clr, .int .u64 (s.stamp : Int), .slice y.pA y.pn y.pc, .slice y.dA y.dn y.dc])] w fun e w' => e = .returned (.bool true) ∧ Below w.heap.size w w' := by
  have HS0 := Lib.hid hs
  clear hs
  go_enter Try.func4, Try.ntmps4
  have hx := Blk.new w 31 #[.int .i64 s.kind, .int .u64 (s.lsn : Int), .int .u32 (s.epoch : Int), .int .u64 (s.txn : Int), .int .u32 (s.page : Int), .int .u16 (s.off : Int), .slice y.oA y.on y.oc, .slice y.nA y.nn y.nc, .slice y.uA y.un y.uc, .int .u64 (s.prev : Int), .int .u64 (s.next : Int), .bool s.clr, .int .u64 (s.stamp : Int), .slice y.pA y.pn y.pc, .slice y.dA y.dn y.dc]
  have hb0 : Below w.heap.size w (w.alloc (.cells #[.int .i64 s.kind, .int .u64 (s.lsn : Int), .int .u32 (s.epoch : Int), .int .u64 (s.txn : Int), .int .u32 (s.page : Int), .int .u16 (s.off : Int), .slice y.oA y.on y.oc, .slice y.nA y.nn y.nc, .slice y.uA y.un y.uc, .int .u64 (s.prev : Int), .int .u64 (s.next : Int), .bool s.clr, .int .u64 (s.stamp : Int), .slice y.pA y.pn y.pc, .slice y.dA y.dn y.dc] 31)) := (Below.refl w.heap.size w).alloc (Nat.le_refl _) _
  go_upto_region 1 with fail
  generalize w.alloc (.cells #[.int .i64 s.kind, .int .u64 (s.lsn : Int), .int .u32 (s.epoch : Int), .int .u64 (s.txn : Int), .int .u32 (s.page : Int), .int .u16 (s.off : Int), .slice y.oA y.on y.oc, .slice y.nA y.nn y.nc, .slice y.uA y.un y.uc, .int .u64 (s.prev : Int), .int .u64 (s.next : Int), .bool s.clr, .int .u64 (s.stamp : Int), .slice y.pA y.pn y.pc, .slice y.dA y.dn y.dc] 31) = V0 at *
  obtain ⟨g1, hg1⟩ : ∃ g1, w.heap.size = g1 := ⟨_, rfl⟩
  rw [hg1] at hx
  simp only [hg1]
  have HX0 := Lib.hid (HS0.out.below hb0)
  clear hg1 HS0
  go_wp2_with (first | (refine wpl_load_row rfl _ (.tmp 1) rfl g1 (by go_simp) _ #[.int .i64 s.kind, .int .u64 (s.lsn : Int), .int .u32 (s.epoch : Int), .int .u64 (s.txn : Int), .int .u32 (s.page : Int), .int .u16 (s.off : Int), .slice y.oA y.on y.oc, .slice y.nA y.nn y.nc, .slice y.uA y.un y.uc, .int .u64 (s.prev : Int), .int .u64 (s.next : Int), .bool s.clr, .int .u64 (s.stamp : Int), .slice y.pA y.pn y.pc, .slice y.dA y.dn y.dc] (0, 0) _ hx Try.underlying31 rfl (by kernel_rfl) ?_))
  refine (large_any s y V0 HX0.out).mono ?_
  rintro e V1 ⟨r1, rfl, HR1, hb1⟩
  have hxa := hx.below hb1 hx.lt
  have hB1 := below_step hb0 hb1 (Nat.le_refl _)
  have HXa := Lib.hid (HX0.out.below hb1)
  clear hx hb0 hb1 HX0
  clear V0
  cases r1 with
  | true =>
    go_wp2_with fail
    refine (known09_any _).mono ?_
    rintro e wz ⟨rfl, hbz⟩
    go_wp2
    go_ret
    exact ⟨rfl, below_step hB1 hbz (Nat.le_refl _)⟩
  | false =>
    have HLG : Hid (y.on ≤ 2000 ∧ y.nn ≤ 2000 ∧ y.un ≤ 2000 ∧ y.pn ≤ 2000 ∧ y.dn ≤ 2000) := Lib.hid (by
      have h : ¬ Large y := fun q => by have := HR1.out.2 q; cases this
      unfold Large at h
      omega)
    clear HR1
    go_wp2_with (first | (refine wpl_load_row rfl _ (.tmp 1) rfl g1 (by go_simp) _ #[.int .i64 s.kind, .int .u64 (s.lsn : Int), .int .u32 (s.epoch : Int), .int .u64 (s.txn : Int), .int .u32 (s.page : Int), .int .u16 (s.off : Int), .slice y.oA y.on y.oc, .slice y.nA y.nn y.nc, .slice y.uA y.un y.uc, .int .u64 (s.prev : Int), .int .u64 (s.next : Int), .bool s.clr, .int .u64 (s.stamp : Int), .slice y.pA y.pn y.pc, .slice y.dA y.dn y.dc] (0, 0) _ hxa Try.underlying31 rfl (by kernel_rfl) ?_))
    refine (copy_any s y V1 HXa.out HLG.out).mono ?_
    rintro e V2 ⟨zc, rfl, hl2, hb2⟩
    have hxb := hxa.below hb2 hxa.lt
    have hB2 := below_step hB1 hb2 (Nat.le_refl _)
    have hi3 := Blk.new V2 31 #[.int .i64 s.kind, .int .u64 (s.lsn : Int), .int .u32 (s.epoch : Int), .int .u64 (s.txn : Int), .int .u32 (s.page : Int), .int .u16 (s.off : Int), .slice zc.oA zc.on zc.oc, .slice zc.nA zc.nn zc.nc, .slice zc.uA zc.un zc.uc, .int .u64 (s.prev : Int), .int .u64 (s.next : Int), .bool s.clr, .int .u64 (s.stamp : Int), .slice zc.pA zc.pn zc.pc, .slice zc.dA zc.dn zc.dc]
    have hba : Below V2.heap.size V2 (V2.alloc (.cells #[.int .i64 s.kind, .int .u64 (s.lsn : Int), .int .u32 (s.epoch : Int), .int .u64 (s.txn : Int), .int .u32 (s.page : Int), .int .u16 (s.off : Int), .slice zc.oA zc.on zc.oc, .slice zc.nA zc.nn zc.nc, .slice zc.uA zc.un zc.uc, .int .u64 (s.prev : Int), .int .u64 (s.next : Int), .bool s.clr, .int .u64 (s.stamp : Int), .slice zc.pA zc.pn zc.pc, .slice zc.dA zc.dn zc.dc] 31)) := (Below.refl _ _).alloc (Nat.le_refl _) _
    have hx1 := hxb.below hba hxb.lt
    have hB3 := below_step hB2 hba (Nat.le_refl _)
    have hl3 := hl2.below hba
    have HXb := Lib.hid ((HXa.out.below hb2).below hba)
    go_upto_region 4 with fail
    generalize V2.alloc (.cells #[.int .i64 s.kind, .int .u64 (s.lsn : Int), .int .u32 (s.epoch : Int), .int .u64 (s.txn : Int), .int .u32 (s.page : Int), .int .u16 (s.off : Int), .slice zc.oA zc.on zc.oc, .slice zc.nA zc.nn zc.nc, .slice zc.uA zc.un zc.uc, .int .u64 (s.prev : Int), .int .u64 (s.next : Int), .bool s.clr, .int .u64 (s.stamp : Int), .slice zc.pA zc.pn zc.pc, .slice zc.dA zc.dn zc.dc] 31) = V3 at *
    obtain ⟨g3, hg3⟩ : ∃ g3, V2.heap.size = g3 := ⟨_, rfl⟩
    rw [hg3] at hi3
    simp only [hg3]
    have HIb := Lib.hid (hl3.at_ HXb.out.fit)
    clear hxa hxb hb2 hB1 hB2 hba hl2 hl3 HXa hg3
    clear V1 V2
    go_wp2_with (first | (refine wpl_load_row rfl _ (.tmp 3) rfl g3 (by go_simp) _ #[.int .i64 s.kind, .int .u64 (s.lsn : Int), .int .u32 (s.epoch : Int), .int .u64 (s.txn : Int), .int .u32 (s.page : Int), .int .u16 (s.off : Int), .slice zc.oA zc.on zc.oc, .slice zc.nA zc.nn zc.nc, .slice zc.uA zc.un zc.uc, .int .u64 (s.prev : Int), .int .u64 (s.next : Int), .bool s.clr, .int .u64 (s.stamp : Int), .slice zc.pA zc.pn zc.pc, .slice zc.dA zc.dn zc.dc] (0, 0) _ hi3 Try.underlying31 rfl (by kernel_rfl) ?_))
    refine (bytes_any s zc V3 HIb.out).mono ?_
    by_cases hmay : LogM.May s
    rotate_left
    · as_aux_lemma =>
      have HMAY := Lib.hid hmay
      rintro e V4 (⟨hm, _⟩ | ⟨_, rfl, hb4⟩)
      · exact absurd hm hmay
      have hx1' := hx1.below hb4 hx1.lt
      have hi3' := hi3.below hb4 hi3.lt
      have hB4 := below_step hB3 hb4 (Nat.le_refl _)
      have HX4 := Lib.hid (HXb.out.below hb4)
      have HI4 := Lib.hid (HIb.out.below hb4)
      clear hx1 hi3 hB3 hb4 HXb HIb hmay
      clear V3
      go_wp2_with (first | (refine wpl_load_row rfl _ (.tmp 3) rfl g3 (by go_simp) _ #[.int .i64 s.kind, .int .u64 (s.lsn : Int), .int .u32 (s.epoch : Int), .int .u64 (s.txn : Int), .int .u32 (s.page : Int), .int .u16 (s.off : Int), .slice zc.oA zc.on zc.oc, .slice zc.nA zc.nn zc.nc, .slice zc.uA zc.un zc.uc, .int .u64 (s.prev : Int), .int .u64 (s.next : Int), .bool s.clr, .int .u64 (s.stamp : Int), .slice zc.pA zc.pn zc.pc, .slice zc.dA zc.dn zc.dc] (0, 0) _ hi3' Try.underlying31 rfl (by kernel_rfl) ?_))
      refine (size_any s zc V4 HI4.out).mono ?_
      rintro e V5 ⟨he, hb5⟩
      rw [if_neg HMAY.out] at he
      subst he
      have hx1 := hx1'.below hb5 hx1'.lt
      have hx3 := hi3'.below hb5 hi3'.lt
      have hB5 := below_step hB4 hb5 (Nat.le_refl _)
      have HAX := Lib.hid (HX4.out.below hb5)
      have HAI := Lib.hid (HI4.out.below hb5)
      clear hx1' hi3' hB4 hb5 HX4 HI4
      clear V4
      go_upto_region 6 with fail
      have hB0 : Below V5.heap.size V5 V5 := Below.refl _ _
      have hbV : V5.heap.size ≤ V5.heap.size := Nat.le_refl _
      have hOb : Own V5 V5.heap.size (⟨none, 0, 0⟩ : Rs).A (⟨none, 0, 0⟩ : Rs).c [] := Own.nil_ _ _
      refine wp_named fun a0 ha0 => ?_
      have z1 : a0.tmps.getD 1 undef = (.pointer (some ⟨g1, 0, none⟩)) := by rw [ha0.out]; rfl
      have z3 : a0.tmps.getD 3 undef = (.pointer (some ⟨g3, 0, none⟩)) := by rw [ha0.out]; rfl
      have hsz0 : a0.tmps.size = 114 := by rw [ha0.out]; rfl
      refine wp_region_invB _ (by kernel_rfl) (fun L a wv => ∃ R, Ch a0 [23, 24, 25, 26, 27] (lb6NP s y zc) (lb6NM s y zc) lb6NC V5.heap.size V5 V5.heap.size (⟨none, 0, 0⟩ : Rs) ([]) 99 [] 0 999 R L a wv) (by kernel_rfl) ?_ ?_ ?_
      · exact ⟨fun _ => ⟨none, 0, 0⟩, Ch.start hbV ⟨rfl, rfl, rfl, Nat.le_refl _, fun _ _ => rfl⟩ hOb⟩
      rotate_left
      · as_aux_lemma =>
        refine ⟨?_, ?_, ?_, ?_, ?_, trivial⟩
        · intro L a w1 hI hi hd
          obtain ⟨R, hC⟩ := hI
          have hi : L 0 = false := hi
          have hp := hC.pif
          have t3 := hp.at_ 3 _ rfl z3
          have t3' := t3
          rw [Array.getD_eq_getD_getElem?] at t3'
          exact rstep_valW (wanted_none rfl _) (.agg #[.int .i64 s.kind, .int .u64 (s.lsn : Int), .int .u32 (s.epoch : Int), .int .u64 (s.txn : Int), .int .u32 (s.page : Int), .int .u16 (s.off : Int), .slice zc.oA zc.on zc.oc, .slice zc.nA zc.nn zc.nc, .slice zc.uA zc.un zc.uc, .int .u64 (s.prev : Int), .int .u64 (s.next : Int), .bool s.clr, .int .u64 (s.stamp : Int), .slice zc.pA zc.pn zc.pc, .slice zc.dA zc.dn zc.dc]) w1 (exec_load_row _ (.tmp 3) rfl g3 t3 _ _ _ (hx3.below (hB0.trans hC.bel) hx3.lt) Try.underlying31 rfl (by kernel_rfl)) ⟨R, hC.pure 0 23 (.agg #[.int .i64 s.kind, .int .u64 (s.lsn : Int), .int .u32 (s.epoch : Int), .int .u64 (s.txn : Int), .int .u32 (s.page : Int), .int .u16 (s.off : Int), .slice zc.oA zc.on zc.oc, .slice zc.nA zc.nn zc.nc, .slice zc.uA zc.un zc.uc, .int .u64 (s.prev : Int), .int .u64 (s.next : Int), .bool s.clr, .int .u64 (s.stamp : Int), .slice zc.pA zc.pn zc.pc, .slice zc.dA zc.dn zc.dc]) (by simp [rows, lb6NP, lb6NM, lb6NC, setR]) (by simp [rows, lb6NP, lb6NM, lb6NC, setR]) (by simp [lb6NM]) (by simp [lb6NC]) rfl (by rw [hsz0]; exact (by decide : 23 < 114)) (by decide) (by simp) (by simp)⟩
        · intro L a w1 hI hi hd
          obtain ⟨R, hC⟩ := hI
          have hi : L 1 = false := hi
          have hp := hC.pif
          simp [Region.binds] at hd
          have e0 : a.tmps.getD 23 undef = (.agg #[.int .i64 s.kind, .int .u64 (s.lsn : Int), .int .u32 (s.epoch : Int), .int .u64 (s.txn : Int), .int .u32 (s.page : Int), .int .u16 (s.off : Int), .slice zc.oA zc.on zc.oc, .slice zc.nA zc.nn zc.nc, .slice zc.uA zc.un zc.uc, .int .u64 (s.prev : Int), .int .u64 (s.next : Int), .bool s.clr, .int .u64 (s.stamp : Int), .slice zc.pA zc.pn zc.pc, .slice zc.dA zc.dn zc.dc]) := hp.pu (0, 23, (.agg #[.int .i64 s.kind, .int .u64 (s.lsn : Int), .int .u32 (s.epoch : Int), .int .u64 (s.txn : Int), .int .u32 (s.page : Int), .int .u16 (s.off : Int), .slice zc.oA zc.on zc.oc, .slice zc.nA zc.nn zc.nc, .slice zc.uA zc.un zc.uc, .int .u64 (s.prev : Int), .int .u64 (s.next : Int), .bool s.clr, .int .u64 (s.stamp : Int), .slice zc.pA zc.pn zc.pc, .slice zc.dA zc.dn zc.dc])) (by simp [rows, lb6NP, lb6NM, lb6NC, setR]) (by simp [hd])
          have f0 : a.tmps[23]?.getD undef = (.agg #[.int .i64 s.kind, .int .u64 (s.lsn : Int), .int .u32 (s.epoch : Int), .int .u64 (s.txn : Int), .int .u32 (s.page : Int), .int .u16 (s.off : Int), .slice zc.oA zc.on zc.oc, .slice zc.nA zc.nn zc.nc, .slice zc.uA zc.un zc.uc, .int .u64 (s.prev : Int), .int .u64 (s.next : Int), .bool s.clr, .int .u64 (s.stamp : Int), .slice zc.pA zc.pn zc.pc, .slice zc.dA zc.dn zc.dc]) := by rw [← Array.getD_eq_getD_getElem?]; exact e0
          refine rstep_callW (wanted_none rfl _) 16 #[.agg #[.int .i64 s.kind, .int .u64 (s.lsn : Int), .int .u32 (s.epoch : Int), .int .u64 (s.txn : Int), .int .u32 (s.page : Int), .int .u16 (s.off : Int), .slice zc.oA zc.on zc.oc, .slice zc.nA zc.nn zc.nc, .slice zc.uA zc.un zc.uc, .int .u64 (s.prev : Int), .int .u64 (s.next : Int), .bool s.clr, .int .u64 (s.stamp : Int), .slice zc.pA zc.pn zc.pc, .slice zc.dA zc.dn zc.dc]] (by go_simp) ?_
          refine (may_any s zc w1 (HAI.out.below hC.bel)).mono ?_
          rintro e w2 ⟨r, rfl, HR1, hb⟩
          obtain rfl : r = false := by cases r with | false => rfl | true => exact absurd (HR1.out.1 rfl) HMAY.out
          exact ⟨R, hC.pureW hb 1 24 (.bool false) (by simp [rows, lb6NP, lb6NM, lb6NC, setR]) (by simp [rows, lb6NP, lb6NM, lb6NC, setR]) (by simp [lb6NM]) (by simp [lb6NC]) rfl (by rw [hsz0]; exact (by decide : 24 < 114)) (by decide) (by simp) (by simp)⟩
        · intro L a w1 hI hi hd
          obtain ⟨R, hC⟩ := hI
          have hi : L 2 = false := hi
          have hp := hC.pif
          have t1 := hp.at_ 1 _ rfl z1
          have t1' := t1
          rw [Array.getD_eq_getD_getElem?] at t1'
          exact rstep_valW (wanted_none rfl _) (.agg #[.int .i64 s.kind, .int .u64 (s.lsn : Int), .int .u32 (s.epoch : Int), .int .u64 (s.txn : Int), .int .u32 (s.page : Int), .int .u16 (s.off : Int), .slice y.oA y.on y.oc, .slice y.nA y.nn y.nc, .slice y.uA y.un y.uc, .int .u64 (s.prev : Int), .int .u64 (s.next : Int), .bool s.clr, .int .u64 (s.stamp : Int), .slice y.pA y.pn y.pc, .slice y.dA y.dn y.dc]) w1 (exec_load_row _ (.tmp 1) rfl g1 t1 _ _ _ (hx1.below (hB0.trans hC.bel) hx1.lt) Try.underlying31 rfl (by kernel_rfl)) ⟨R, hC.pure 2 25 (.agg #[.int .i64 s.kind, .int .u64 (s.lsn : Int), .int .u32 (s.epoch : Int), .int .u64 (s.txn : Int), .int .u32 (s.page : Int), .int .u16 (s.off : Int), .slice y.oA y.on y.oc, .slice y.nA y.nn y.nc, .slice y.uA y.un y.uc, .int .u64 (s.prev : Int), .int .u64 (s.next : Int), .bool s.clr, .int .u64 (s.stamp : Int), .slice y.pA y.pn y.pc, .slice y.dA y.dn y.dc]) (by simp [rows, lb6NP, lb6NM, lb6NC, setR]) (by simp [rows, lb6NP, lb6NM, lb6NC, setR]) (by simp [lb6NM]) (by simp [lb6NC]) rfl (by rw [hsz0]; exact (by decide : 25 < 114)) (by decide) (by simp) (by simp)⟩
        · intro L a w1 hI hi hd
          obtain ⟨R, hC⟩ := hI
          have hi : L 3 = false := hi
          have hp := hC.pif
          simp [Region.binds] at hd
          have e2 : a.tmps.getD 25 undef = (.agg #[.int .i64 s.kind, .int .u64 (s.lsn : Int), .int .u32 (s.epoch : Int), .int .u64 (s.txn : Int), .int .u32 (s.page : Int), .int .u16 (s.off : Int), .slice y.oA y.on y.oc, .slice y.nA y.nn y.nc, .slice y.uA y.un y.uc, .int .u64 (s.prev : Int), .int .u64 (s.next : Int), .bool s.clr, .int .u64 (s.stamp : Int), .slice y.pA y.pn y.pc, .slice y.dA y.dn y.dc]) := hp.pu (2, 25, (.agg #[.int .i64 s.kind, .int .u64 (s.lsn : Int), .int .u32 (s.epoch : Int), .int .u64 (s.txn : Int), .int .u32 (s.page : Int), .int .u16 (s.off : Int), .slice y.oA y.on y.oc, .slice y.nA y.nn y.nc, .slice y.uA y.un y.uc, .int .u64 (s.prev : Int), .int .u64 (s.next : Int), .bool s.clr, .int .u64 (s.stamp : Int), .slice y.pA y.pn y.pc, .slice y.dA y.dn y.dc])) (by simp [rows, lb6NP, lb6NM, lb6NC, setR]) (by simp [hd])
          have f2 : a.tmps[25]?.getD undef = (.agg #[.int .i64 s.kind, .int .u64 (s.lsn : Int), .int .u32 (s.epoch : Int), .int .u64 (s.txn : Int), .int .u32 (s.page : Int), .int .u16 (s.off : Int), .slice y.oA y.on y.oc, .slice y.nA y.nn y.nc, .slice y.uA y.un y.uc, .int .u64 (s.prev : Int), .int .u64 (s.next : Int), .bool s.clr, .int .u64 (s.stamp : Int), .slice y.pA y.pn y.pc, .slice y.dA y.dn y.dc]) := by rw [← Array.getD_eq_getD_getElem?]; exact e2
          refine rstep_callW (wanted_none rfl _) 17 #[.agg #[.int .i64 s.kind, .int .u64 (s.lsn : Int), .int .u32 (s.epoch : Int), .int .u64 (s.txn : Int), .int .u32 (s.page : Int), .int .u16 (s.off : Int), .slice y.oA y.on y.oc, .slice y.nA y.nn y.nc, .slice y.uA y.un y.uc, .int .u64 (s.prev : Int), .int .u64 (s.next : Int), .bool s.clr, .int .u64 (s.stamp : Int), .slice y.pA y.pn y.pc, .slice y.dA y.dn y.dc]] (by go_simp) ?_
          refine (rmay_any s y w1 (HAX.out.below hC.bel)).mono ?_
          rintro e w2 ⟨r, rfl, HR1, hb⟩
          obtain rfl : r = false := by cases r with | false => rfl | true => exact absurd (HR1.out.1 rfl) HMAY.out
          exact ⟨R, hC.pureW hb 3 26 (.bool false) (by simp [rows, lb6NP, lb6NM, lb6NC, setR]) (by simp [rows, lb6NP, lb6NM, lb6NC, setR]) (by simp [lb6NM]) (by simp [lb6NC]) rfl (by rw [hsz0]; exact (by decide : 26 < 114)) (by decide) (by simp) (by simp)⟩
        · intro L a w1 hI hi hd
          obtain ⟨R, hC⟩ := hI
          have hi : L 4 = false := hi
          have hp := hC.pif
          simp [Region.binds] at hd
          have e1 : a.tmps.getD 24 undef = (.bool false) := hp.pu (1, 24, (.bool false)) (by simp [rows, lb6NP, lb6NM, lb6NC, setR]) (by simp [hd])
          have f1 : a.tmps[24]?.getD undef = (.bool false) := by rw [← Array.getD_eq_getD_getElem?]; exact e1
          have e3 : a.tmps.getD 26 undef = (.bool false) := hp.pu (3, 26, (.bool false)) (by simp [rows, lb6NP, lb6NM, lb6NC, setR]) (by simp [hd])
          have f3 : a.tmps[26]?.getD undef = (.bool false) := by rw [← Array.getD_eq_getD_getElem?]; exact e3
          exact rstep_valW (wanted_none rfl _) (.bool false) w1 (by go_simp) ⟨R, hC.pure 4 27 (.bool false) (by simp [rows, lb6NP, lb6NM, lb6NC, setR]) (by simp [rows, lb6NP, lb6NM, lb6NC, setR]) (by simp [lb6NM]) (by simp [lb6NC]) rfl (by rw [hsz0]; exact (by decide : 27 < 114)) (by decide) (by simp) (by simp)⟩
      rintro L a W ⟨R, hC⟩ hL
      have hp := hC.pif
      have e4 : a.tmps.getD 27 undef = (.bool false) := hp.pu (4, 27, (.bool false)) (by simp [rows, lb6NP, lb6NM, lb6NC, setR]) (hL 4 (by simp))
      have hBW := hC.bel
      rw [hp.eq]
      refine of_assigns (P := Try.prog) _ _ _ _ ?_
      rw [ha0.out]
      simp only [asgs, List.map, e4]
      generalize a.tmps.getD 23 undef = u23
      generalize a.tmps.getD 24 undef = u24
      generalize a.tmps.getD 25 undef = u25
      generalize a.tmps.getD 26 undef = u26
      clear hp hL e4 ha0 z1 z3 hsz0 hC
      clear a0 a L R
      have hx1W := hx1.below hBW hx1.lt
      have hx3W := hx3.below hBW hx3.lt
      have hBB := below_step hB5 hBW (Nat.le_refl _)
      have HXW := Lib.hid (HAX.out.below hBW)
      have HIW := Lib.hid (HAI.out.below hBW)
      clear hBW hOb hbV hB0 hx1 hx3 hB5 HAX HAI
      go_wp2_with (first | (refine wpl_load_row rfl _ (.tmp 1) rfl g1 (by go_simp) _ #[.int .i64 s.kind, .int .u64 (s.lsn : Int), .int .u32 (s.epoch : Int), .int .u64 (s.txn : Int), .int .u32 (s.page : Int), .int .u16 (s.off : Int), .slice y.oA y.on y.oc, .slice y.nA y.nn y.nc, .slice y.uA y.un y.uc, .int .u64 (s.prev : Int), .int .u64 (s.next : Int), .bool s.clr, .int .u64 (s.stamp : Int), .slice y.pA y.pn y.pc, .slice y.dA y.dn y.dc] (0, 0) _ hx1W Try.underlying31 rfl (by kernel_rfl) ?_) | (refine wp_cond_true (by go_simp) ?_) | (refine wp_cond_false (by go_simp) ?_))
      refine (rmay_any s y W HXW.out).mono ?_
      rintro e V8 ⟨r, rfl, HR1, hb8⟩
      obtain rfl : r = false := by cases r with | false => rfl | true => exact absurd (HR1.out.1 rfl) HMAY.out
      have hx1 := hx1W.below hb8 hx1W.lt
      have hx3 := hx3W.below hb8 hx3W.lt
      have hB8 := below_step hBB hb8 (Nat.le_refl _)
      have HAX := Lib.hid (HXW.out.below hb8)
      have HAI := Lib.hid (HIW.out.below hb8)
      clear hx1W hx3W hBB hb8 HXW HIW HR1
      clear W
      go_wp2_with (first | (refine wpl_load_row rfl _ (.tmp 1) rfl g1 (by go_simp) _ #[.int .i64 s.kind, .int .u64 (s.lsn : Int), .int .u32 (s.epoch : Int), .int .u64 (s.txn : Int), .int .u32 (s.page : Int), .int .u16 (s.off : Int), .slice y.oA y.on y.oc, .slice y.nA y.nn y.nc, .slice y.uA y.un y.uc, .int .u64 (s.prev : Int), .int .u64 (s.next : Int), .bool s.clr, .int .u64 (s.stamp : Int), .slice y.pA y.pn y.pc, .slice y.dA y.dn y.dc] (0, 0) _ hx1 Try.underlying31 rfl (by kernel_rfl) ?_) | (refine wpl_load_row rfl _ (.tmp 3) rfl g3 (by go_simp) _ #[.int .i64 s.kind, .int .u64 (s.lsn : Int), .int .u32 (s.epoch : Int), .int .u64 (s.txn : Int), .int .u32 (s.page : Int), .int .u16 (s.off : Int), .slice zc.oA zc.on zc.oc, .slice zc.nA zc.nn zc.nc, .slice zc.uA zc.un zc.uc, .int .u64 (s.prev : Int), .int .u64 (s.next : Int), .bool s.clr, .int .u64 (s.stamp : Int), .slice zc.pA zc.pn zc.pc, .slice zc.dA zc.dn zc.dc] (0, 0) _ hx3 Try.underlying31 rfl (by kernel_rfl) ?_) | (refine wp_cond_true (by go_simp) ?_) | (refine wp_cond_false (by go_simp) ?_))
      refine (rsame_any s s zc y V8 HAI.out HAX.out).mono ?_
      rintro e V9 ⟨r, rfl, HR1, hb9⟩
      obtain rfl : r = true := HR1.out.2 rfl
      have hB9 := below_step hB8 hb9 (Nat.le_refl _)
      clear hx1 hx3 hB8 hb9
      go_wp2_with fail
      refine (known09_any _).mono ?_
      rintro e wz ⟨rfl, hbz⟩
      go_wp2
      go_ret
      exact ⟨rfl, below_step hB9 hbz (Nat.le_refl _)⟩
    have HMAY := Lib.hid hmay
    rintro e V4 (⟨_, fA, fn, fc, rfl, hfn, hfO, hb4⟩ | ⟨hm, _, _⟩)
    rotate_left
    · exact absurd hmay hm
    obtain ⟨m, hm⟩ : ∃ m, (LogM.form s).length = m := ⟨_, rfl⟩
    obtain rfl : m = fn := hm.symm.trans hfn.out
    have HML := Lib.hid hm
    have hm19 : 19 ≤ m := by have := LogM.form_length s; omega
    have hm16 : m ≤ 1600 := by have h1 := LogM.form_length s; have h2 := LogM.tail_le hmay; omega
    obtain ⟨gb, rfl, hgbl, hgbh⟩ := hfO.some_ (by intro q; rw [q] at hm; simp at hm; omega)
    have hB3s := hB3.size
    have hfle := hfO.le
    rw [hm] at hfle
    have hfcm := Lib.hid hfle.2
    have hx1' := hx1.below hb4 hx1.lt
    have hi3' := hi3.below hb4 hi3.lt
    have hB4 := below_step hB3 hb4 (Nat.le_refl _)
    have HX4 := Lib.hid (HXb.out.below hb4)
    have HI4 := Lib.hid (HIb.out.below hb4)
    have hg1b : g1 < gb := Nat.lt_of_lt_of_le hx1.lt hgbl
    have hg3b : g3 < gb := Nat.lt_of_lt_of_le hi3.lt hgbl
    have hwgb : w.heap.size ≤ gb := Nat.le_trans hB3s hgbl
    have H34 := Lib.hid hb4
    have H3B := Lib.hid hgbl
    have HX3 := HXb
    have HI3 := HIb
    have HB3 := Lib.hid hB3
    clear hx1 hi3 hB3 hb4 hmay hm hgbl hB3s
    go_wp2_with (first | (refine wpl_load_row rfl _ (.tmp 3) rfl g3 (by go_simp) _ #[.int .i64 s.kind, .int .u64 (s.lsn : Int), .int .u32 (s.epoch : Int), .int .u64 (s.txn : Int), .int .u32 (s.page : Int), .int .u16 (s.off : Int), .slice zc.oA zc.on zc.oc, .slice zc.nA zc.nn zc.nc, .slice zc.uA zc.un zc.uc, .int .u64 (s.prev : Int), .int .u64 (s.next : Int), .bool s.clr, .int .u64 (s.stamp : Int), .slice zc.pA zc.pn zc.pc, .slice zc.dA zc.dn zc.dc] (0, 0) _ hi3' Try.underlying31 rfl (by kernel_rfl) ?_))
    refine (size_any s zc V4 HI4.out).mono ?_
    rintro e V5 ⟨he, hb5⟩
    rw [if_pos HMAY.out, HML.out] at he
    subst he
    have hx1 := hx1'.below hb5 hx1'.lt
    have hx3 := hi3'.below hb5 hi3'.lt
    have hB5 := below_step hB4 hb5 (Nat.le_refl _)
    have HAX := Lib.hid (HX4.out.below hb5)
    have HAI := Lib.hid (HI4.out.below hb5)
    have hfO5 := hfO.below hb5
    have hgb5 : gb < V5.heap.size := Nat.lt_of_lt_of_le hgbh hb5.size
    have H35 := Lib.hid (below_step H34.out hb5 (Nat.le_refl _))
    clear hx1' hi3' hB4 hb5 HX4 HI4 hfO hgbh hfn H34
    clear V4
    go_upto_region 6 with fail
    have hB0 : Below V5.heap.size V5 V5 := Below.refl _ _
    have hbV : V5.heap.size ≤ V5.heap.size := Nat.le_refl _
    have hOb : Own V5 V5.heap.size (⟨none, 0, 0⟩ : Rs).A (⟨none, 0, 0⟩ : Rs).c [] := Own.nil_ _ _
    refine wp_named fun a0 ha0 => ?_
    have z1 : a0.tmps.getD 1 undef = (.pointer (some ⟨g1, 0, none⟩)) := by rw [ha0.out]; rfl
    have z3 : a0.tmps.getD 3 undef = (.pointer (some ⟨g3, 0, none⟩)) := by rw [ha0.out]; rfl
    have hsz0 : a0.tmps.size = 114 := by rw [ha0.out]; rfl
    refine wp_region_invB _ (by kernel_rfl) (fun L a wv => ∃ R, Ch a0 [23, 24, 25, 26, 27] (lb6YP s y zc) (lb6YM s y zc) lb6YC V5.heap.size V5 V5.heap.size (⟨none, 0, 0⟩ : Rs) ([]) 99 [] 0 999 R L a wv) (by kernel_rfl) ?_ ?_ ?_
    · exact ⟨fun _ => ⟨none, 0, 0⟩, Ch.start hbV ⟨rfl, rfl, rfl, Nat.le_refl _, fun _ _ => rfl⟩ hOb⟩
    rotate_left
    · as_aux_lemma =>
      refine ⟨?_, ?_, ?_, ?_, ?_, trivial⟩
      · intro L a w1 hI hi hd
        obtain ⟨R, hC⟩ := hI
        have hi : L 0 = false := hi
        have hp := hC.pif
        have t3 := hp.at_ 3 _ rfl z3
        have t3' := t3
        rw [Array.getD_eq_getD_getElem?] at t3'
        exact rstep_valW (wanted_none rfl _) (.agg #[.int .i64 s.kind, .int .u64 (s.lsn : Int), .int .u32 (s.epoch : Int), .int .u64 (s.txn : Int), .int .u32 (s.page : Int), .int .u16 (s.off : Int), .slice zc.oA zc.on zc.oc, .slice zc.nA zc.nn zc.nc, .slice zc.uA zc.un zc.uc, .int .u64 (s.prev : Int), .int .u64 (s.next : Int), .bool s.clr, .int .u64 (s.stamp : Int), .slice zc.pA zc.pn zc.pc, .slice zc.dA zc.dn zc.dc]) w1 (exec_load_row _ (.tmp 3) rfl g3 t3 _ _ _ (hx3.below (hB0.trans hC.bel) hx3.lt) Try.underlying31 rfl (by kernel_rfl)) ⟨R, hC.pure 0 23 (.agg #[.int .i64 s.kind, .int .u64 (s.lsn : Int), .int .u32 (s.epoch : Int), .int .u64 (s.txn : Int), .int .u32 (s.page : Int), .int .u16 (s.off : Int), .slice zc.oA zc.on zc.oc, .slice zc.nA zc.nn zc.nc, .slice zc.uA zc.un zc.uc, .int .u64 (s.prev : Int), .int .u64 (s.next : Int), .bool s.clr, .int .u64 (s.stamp : Int), .slice zc.pA zc.pn zc.pc, .slice zc.dA zc.dn zc.dc]) (by simp [rows, lb6YP, lb6YM, lb6YC, setR]) (by simp [rows, lb6YP, lb6YM, lb6YC, setR]) (by simp [lb6YM]) (by simp [lb6YC]) rfl (by rw [hsz0]; exact (by decide : 23 < 114)) (by decide) (by simp) (by simp)⟩
      · intro L a w1 hI hi hd
        obtain ⟨R, hC⟩ := hI
        have hi : L 1 = false := hi
        have hp := hC.pif
        simp [Region.binds] at hd
        have e0 : a.tmps.getD 23 undef = (.agg #[.int .i64 s.kind, .int .u64 (s.lsn : Int), .int .u32 (s.epoch : Int), .int .u64 (s.txn : Int), .int .u32 (s.page : Int), .int .u16 (s.off : Int), .slice zc.oA zc.on zc.oc, .slice zc.nA zc.nn zc.nc, .slice zc.uA zc.un zc.uc, .int .u64 (s.prev : Int), .int .u64 (s.next : Int), .bool s.clr, .int .u64 (s.stamp : Int), .slice zc.pA zc.pn zc.pc, .slice zc.dA zc.dn zc.dc]) := hp.pu (0, 23, (.agg #[.int .i64 s.kind, .int .u64 (s.lsn : Int), .int .u32 (s.epoch : Int), .int .u64 (s.txn : Int), .int .u32 (s.page : Int), .int .u16 (s.off : Int), .slice zc.oA zc.on zc.oc, .slice zc.nA zc.nn zc.nc, .slice zc.uA zc.un zc.uc, .int .u64 (s.prev : Int), .int .u64 (s.next : Int), .bool s.clr, .int .u64 (s.stamp : Int), .slice zc.pA zc.pn zc.pc, .slice zc.dA zc.dn zc.dc])) (by simp [rows, lb6YP, lb6YM, lb6YC, setR]) (by simp [hd])
        have f0 : a.tmps[23]?.getD undef = (.agg #[.int .i64 s.kind, .int .u64 (s.lsn : Int), .int .u32 (s.epoch : Int), .int .u64 (s.txn : Int), .int .u32 (s.page : Int), .int .u16 (s.off : Int), .slice zc.oA zc.on zc.oc, .slice zc.nA zc.nn zc.nc, .slice zc.uA zc.un zc.uc, .int .u64 (s.prev : Int), .int .u64 (s.next : Int), .bool s.clr, .int .u64 (s.stamp : Int), .slice zc.pA zc.pn zc.pc, .slice zc.dA zc.dn zc.dc]) := by rw [← Array.getD_eq_getD_getElem?]; exact e0
        refine rstep_callW (wanted_none rfl _) 16 #[.agg #[.int .i64 s.kind, .int .u64 (s.lsn : Int), .int .u32 (s.epoch : Int), .int .u64 (s.txn : Int), .int .u32 (s.page : Int), .int .u16 (s.off : Int), .slice zc.oA zc.on zc.oc, .slice zc.nA zc.nn zc.nc, .slice zc.uA zc.un zc.uc, .int .u64 (s.prev : Int), .int .u64 (s.next : Int), .bool s.clr, .int .u64 (s.stamp : Int), .slice zc.pA zc.pn zc.pc, .slice zc.dA zc.dn zc.dc]] (by go_simp) ?_
        refine (may_any s zc w1 (HAI.out.below hC.bel)).mono ?_
        rintro e w2 ⟨r, rfl, HR1, hb⟩
        obtain rfl : r = true := HR1.out.2 HMAY.out
        exact ⟨R, hC.pureW hb 1 24 (.bool true) (by simp [rows, lb6YP, lb6YM, lb6YC, setR]) (by simp [rows, lb6YP, lb6YM, lb6YC, setR]) (by simp [lb6YM]) (by simp [lb6YC]) rfl (by rw [hsz0]; exact (by decide : 24 < 114)) (by decide) (by simp) (by simp)⟩
      · intro L a w1 hI hi hd
        obtain ⟨R, hC⟩ := hI
        have hi : L 2 = false := hi
        have hp := hC.pif
        have t1 := hp.at_ 1 _ rfl z1
        have t1' := t1
        rw [Array.getD_eq_getD_getElem?] at t1'
        exact rstep_valW (wanted_none rfl _) (.agg #[.int .i64 s.kind, .int .u64 (s.lsn : Int), .int .u32 (s.epoch : Int), .int .u64 (s.txn : Int), .int .u32 (s.page : Int), .int .u16 (s.off : Int), .slice y.oA y.on y.oc, .slice y.nA y.nn y.nc, .slice y.uA y.un y.uc, .int .u64 (s.prev : Int), .int .u64 (s.next : Int), .bool s.clr, .int .u64 (s.stamp : Int), .slice y.pA y.pn y.pc, .slice y.dA y.dn y.dc]) w1 (exec_load_row _ (.tmp 1) rfl g1 t1 _ _ _ (hx1.below (hB0.trans hC.bel) hx1.lt) Try.underlying31 rfl (by kernel_rfl)) ⟨R, hC.pure 2 25 (.agg #[.int .i64 s.kind, .int .u64 (s.lsn : Int), .int .u32 (s.epoch : Int), .int .u64 (s.txn : Int), .int .u32 (s.page : Int), .int .u16 (s.off : Int), .slice y.oA y.on y.oc, .slice y.nA y.nn y.nc, .slice y.uA y.un y.uc, .int .u64 (s.prev : Int), .int .u64 (s.next : Int), .bool s.clr, .int .u64 (s.stamp : Int), .slice y.pA y.pn y.pc, .slice y.dA y.dn y.dc]) (by simp [rows, lb6YP, lb6YM, lb6YC, setR]) (by simp [rows, lb6YP, lb6YM, lb6YC, setR]) (by simp [lb6YM]) (by simp [lb6YC]) rfl (by rw [hsz0]; exact (by decide : 25 < 114)) (by decide) (by simp) (by simp)⟩
      · intro L a w1 hI hi hd
        obtain ⟨R, hC⟩ := hI
        have hi : L 3 = false := hi
        have hp := hC.pif
        simp [Region.binds] at hd
        have e2 : a.tmps.getD 25 undef = (.agg #[.int .i64 s.kind, .int .u64 (s.lsn : Int), .int .u32 (s.epoch : Int), .int .u64 (s.txn : Int), .int .u32 (s.page : Int), .int .u16 (s.off : Int), .slice y.oA y.on y.oc, .slice y.nA y.nn y.nc, .slice y.uA y.un y.uc, .int .u64 (s.prev : Int), .int .u64 (s.next : Int), .bool s.clr, .int .u64 (s.stamp : Int), .slice y.pA y.pn y.pc, .slice y.dA y.dn y.dc]) := hp.pu (2, 25, (.agg #[.int .i64 s.kind, .int .u64 (s.lsn : Int), .int .u32 (s.epoch : Int), .int .u64 (s.txn : Int), .int .u32 (s.page : Int), .int .u16 (s.off : Int), .slice y.oA y.on y.oc, .slice y.nA y.nn y.nc, .slice y.uA y.un y.uc, .int .u64 (s.prev : Int), .int .u64 (s.next : Int), .bool s.clr, .int .u64 (s.stamp : Int), .slice y.pA y.pn y.pc, .slice y.dA y.dn y.dc])) (by simp [rows, lb6YP, lb6YM, lb6YC, setR]) (by simp [hd])
        have f2 : a.tmps[25]?.getD undef = (.agg #[.int .i64 s.kind, .int .u64 (s.lsn : Int), .int .u32 (s.epoch : Int), .int .u64 (s.txn : Int), .int .u32 (s.page : Int), .int .u16 (s.off : Int), .slice y.oA y.on y.oc, .slice y.nA y.nn y.nc, .slice y.uA y.un y.uc, .int .u64 (s.prev : Int), .int .u64 (s.next : Int), .bool s.clr, .int .u64 (s.stamp : Int), .slice y.pA y.pn y.pc, .slice y.dA y.dn y.dc]) := by rw [← Array.getD_eq_getD_getElem?]; exact e2
        refine rstep_callW (wanted_none rfl _) 17 #[.agg #[.int .i64 s.kind, .int .u64 (s.lsn : Int), .int .u32 (s.epoch : Int), .int .u64 (s.txn : Int), .int .u32 (s.page : Int), .int .u16 (s.off : Int), .slice y.oA y.on y.oc, .slice y.nA y.nn y.nc, .slice y.uA y.un y.uc, .int .u64 (s.prev : Int), .int .u64 (s.next : Int), .bool s.clr, .int .u64 (s.stamp : Int), .slice y.pA y.pn y.pc, .slice y.dA y.dn y.dc]] (by go_simp) ?_
        refine (rmay_any s y w1 (HAX.out.below hC.bel)).mono ?_
        rintro e w2 ⟨r, rfl, HR1, hb⟩
        obtain rfl : r = true := HR1.out.2 HMAY.out
        exact ⟨R, hC.pureW hb 3 26 (.bool true) (by simp [rows, lb6YP, lb6YM, lb6YC, setR]) (by simp [rows, lb6YP, lb6YM, lb6YC, setR]) (by simp [lb6YM]) (by simp [lb6YC]) rfl (by rw [hsz0]; exact (by decide : 26 < 114)) (by decide) (by simp) (by simp)⟩
      · intro L a w1 hI hi hd
        obtain ⟨R, hC⟩ := hI
        have hi : L 4 = false := hi
        have hp := hC.pif
        simp [Region.binds] at hd
        have e1 : a.tmps.getD 24 undef = (.bool true) := hp.pu (1, 24, (.bool true)) (by simp [rows, lb6YP, lb6YM, lb6YC, setR]) (by simp [hd])
        have f1 : a.tmps[24]?.getD undef = (.bool true) := by rw [← Array.getD_eq_getD_getElem?]; exact e1
        have e3 : a.tmps.getD 26 undef = (.bool true) := hp.pu (3, 26, (.bool true)) (by simp [rows, lb6YP, lb6YM, lb6YC, setR]) (by simp [hd])
        have f3 : a.tmps[26]?.getD undef = (.bool true) := by rw [← Array.getD_eq_getD_getElem?]; exact e3
        exact rstep_valW (wanted_none rfl _) (.bool false) w1 (by go_simp) ⟨R, hC.pure 4 27 (.bool false) (by simp [rows, lb6YP, lb6YM, lb6YC, setR]) (by simp [rows, lb6YP, lb6YM, lb6YC, setR]) (by simp [lb6YM]) (by simp [lb6YC]) rfl (by rw [hsz0]; exact (by decide : 27 < 114)) (by decide) (by simp) (by simp)⟩
    rintro L a W ⟨R, hC⟩ hL
    have hp := hC.pif
    have e4 : a.tmps.getD 27 undef = (.bool false) := hp.pu (4, 27, (.bool false)) (by simp [rows, lb6YP, lb6YM, lb6YC, setR]) (hL 4 (by simp))
    have hBW := hC.bel
    rw [hp.eq]
    refine of_assigns (P := Try.prog) _ _ _ _ ?_
    rw [ha0.out]
    simp only [asgs, List.map, e4]
    generalize a.tmps.getD 23 undef = u23
    generalize a.tmps.getD 24 undef = u24
    generalize a.tmps.getD 25 undef = u25
    generalize a.tmps.getD 26 undef = u26
    clear hp hL e4 ha0 z1 z3 hsz0 hC
    clear a0 a L R
    have hx1W := hx1.below hBW hx1.lt
    have hx3W := hx3.below hBW hx3.lt
    have hBB := below_step hB5 hBW (Nat.le_refl _)
    have HXW := Lib.hid (HAX.out.below hBW)
    have hfW := hfO5.below hBW
    have H3W := Lib.hid (below_step H35.out hBW (Nat.le_refl _))
    have hgbW : gb < W.heap.size := Nat.lt_of_lt_of_le hgb5 hBW.size
    clear hBW hOb hbV hB0 hx1 hx3 hB5 HAX HAI hfO5 hgb5 H35
    go_wp2_with (first | (refine wpl_load_row rfl _ (.tmp 1) rfl g1 (by go_simp) _ #[.int .i64 s.kind, .int .u64 (s.lsn : Int), .int .u32 (s.epoch : Int), .int .u64 (s.txn : Int), .int .u32 (s.page : Int), .int .u16 (s.off : Int), .slice y.oA y.on y.oc, .slice y.nA y.nn y.nc, .slice y.uA y.un y.uc, .int .u64 (s.prev : Int), .int .u64 (s.next : Int), .bool s.clr, .int .u64 (s.stamp : Int), .slice y.pA y.pn y.pc, .slice y.dA y.dn y.dc] (0, 0) _ hx1W Try.underlying31 rfl (by kernel_rfl) ?_) | (refine wp_cond_true (by go_simp) ?_) | (refine wp_cond_false (by go_simp) ?_))
    refine (rmay_any s y W HXW.out).mono ?_
    rintro e V6 ⟨r, rfl, HR1, hb6⟩
    obtain rfl : r = true := HR1.out.2 HMAY.out
    have hx1 := hx1W.below hb6 hx1W.lt
    have hx3 := hx3W.below hb6 hx3W.lt
    have hB6 := below_step hBB hb6 (Nat.le_refl _)
    have hf6 := hfW.below hb6
    have HAXa := Lib.hid (HXW.out.below hb6)
    have H36 := Lib.hid (below_step H3W.out hb6 (Nat.le_refl _))
    have hgb6 : gb < V6.heap.size := Nat.lt_of_lt_of_le hgbW hb6.size
    have HRD := Lib.hid (read_any (some ⟨gb, 0, none⟩) m fc (LogM.form s) V6 hf6.row HML.out hfle.1 hfcm.out (by omega))
    have hri := LogM.readI_form HMAY.out HAXa.out.fit []
    rw [List.append_nil, HML.out] at hri
    rw [hri] at HRD
    clear hx1W hx3W hBB hb6 HXW HR1 hfW H3W hgbW hri
    clear W
    go_wp2_with (first | (refine wp_cond_true (by go_simp) ?_) | (refine wp_cond_false (by go_simp) ?_))
    refine HRD.out.mono ?_
    rintro e V7 ⟨yr, rfl, hl7, hft, hb7⟩
    clear HRD
    have hy0 := Blk.new V7 31 #[.int .i64 s.kind, .int .u64 (s.lsn : Int), .int .u32 (s.epoch : Int), .int .u64 (s.txn : Int), .int .u32 (s.page : Int), .int .u16 (s.off : Int), .slice yr.oA yr.on yr.oc, .slice yr.nA yr.nn yr.nc, .slice yr.uA yr.un yr.uc, .int .u64 (s.prev : Int), .int .u64 (s.next : Int), .bool s.clr, .int .u64 (s.stamp : Int), .slice yr.pA yr.pn yr.pc, .slice yr.dA yr.dn yr.dc]
    have hba : Below V7.heap.size V7 (V7.alloc (.cells #[.int .i64 s.kind, .int .u64 (s.lsn : Int), .int .u32 (s.epoch : Int), .int .u64 (s.txn : Int), .int .u32 (s.page : Int), .int .u16 (s.off : Int), .slice yr.oA yr.on yr.oc, .slice yr.nA yr.nn yr.nc, .slice yr.uA yr.un yr.uc, .int .u64 (s.prev : Int), .int .u64 (s.next : Int), .bool s.clr, .int .u64 (s.stamp : Int), .slice yr.pA yr.pn yr.pc, .slice yr.dA yr.dn yr.dc] 31)) := (Below.refl _ _).alloc (Nat.le_refl _) _
    have h67 := below_step hb7 hba (Nat.le_refl _)
    have hl8 := hl7.below hba
    go_upto_region 11 with fail
    generalize V7.alloc (.cells #[.int .i64 s.kind, .int .u64 (s.lsn : Int), .int .u32 (s.epoch : Int), .int .u64 (s.txn : Int), .int .u32 (s.page : Int), .int .u16 (s.off : Int), .slice yr.oA yr.on yr.oc, .slice yr.nA yr.nn yr.nc, .slice yr.uA yr.un yr.uc, .int .u64 (s.prev : Int), .int .u64 (s.next : Int), .bool s.clr, .int .u64 (s.stamp : Int), .slice yr.pA yr.pn yr.pc, .slice yr.dA yr.dn yr.dc] 31) = V8 at *
    obtain ⟨gy, hgy⟩ : ∃ gy, V7.heap.size = gy := ⟨_, rfl⟩
    rw [hgy] at hy0
    simp only [hgy]
    have hy := hy0
    have hgby : gb < gy := by rw [← hgy]; exact Nat.lt_of_lt_of_le hgb6 hb7.size
    have hx1b := hx1.below h67 hx1.lt
    have hx3b := hx3.below h67 hx3.lt
    have hB8 := below_step hB6 h67 (Nat.le_refl _)
    have hf8 := hf6.below h67
    have HAX := Lib.hid (HAXa.out.below h67)
    have H38 := Lib.hid (below_step H36.out h67 (Nat.le_refl _))
    have HAY := Lib.hid (hl8.at_ hft)
    have HFR := Lib.hid hf8.row
    have HSB : Hid (((str (LogM.form s)).toList == (str (LogM.form s)).toList) = true) := Lib.hid (by simp)
    clear hx1 hx3 hB6 hf6 H36 hb7 hba h67 hl7 hy0 hgy HAXa
    clear V7
    have hx1 := hx1b
    clear hx1b
    have hB0 : Below V8.heap.size V8 V8 := Below.refl _ _
    have hbV : V8.heap.size ≤ V8.heap.size := Nat.le_refl _
    have hOb : Own V8 V8.heap.size (⟨none, 0, 0⟩ : Rs).A (⟨none, 0, 0⟩ : Rs).c [] := Own.nil_ _ _
    refine wp_named fun a0 ha0 => ?_
    have z1 : a0.tmps.getD 1 undef = (.pointer (some ⟨g1, 0, none⟩)) := by rw [ha0.out]; rfl
    have z4 : a0.tmps.getD 4 undef = (.slice (some ⟨gb, 0, none⟩) m fc) := by rw [ha0.out]; rfl
    have z5 : a0.tmps.getD 5 undef = (.int .i64 0) := by rw [ha0.out]; rfl
    have z6 : a0.tmps.getD 6 undef = (.int .i64 (m : Int)) := by rw [ha0.out]; rfl
    have z7 : a0.tmps.getD 7 undef = (.pointer (some ⟨gy, 0, none⟩)) := by rw [ha0.out]; rfl
    have z8 : a0.tmps.getD 8 undef = (.int .i64 (m : Int)) := by rw [ha0.out]; rfl
    have z9 : a0.tmps.getD 9 undef = (.int .i64 0) := by rw [ha0.out]; rfl
    have hsz0 : a0.tmps.size = 114 := by rw [ha0.out]; rfl
    refine wp_region_invB _ (by kernel_rfl) (fun L a wv => ∃ R, Ch a0 [56, 57, 58, 59, 60, 61, 62, 63, 64, 65, 66, 67, 68, 69, 70, 71, 72, 73, 74, 75, 76, 77, 78, 79, 80, 81, 82, 83, 84, 85, 86, 87, 88, 89, 90] (lb11P s y yr gb m fc) (lb11M s y yr gb m fc) lb11C V8.heap.size V8 V8.heap.size (⟨none, 0, 0⟩ : Rs) ([]) 99 [] 0 999 R L a wv) (by kernel_rfl) ?_ ?_ ?_
    · exact ⟨fun _ => ⟨none, 0, 0⟩, Ch.start hbV ⟨rfl, rfl, rfl, Nat.le_refl _, fun _ _ => rfl⟩ hOb⟩
    rotate_left
    · as_aux_lemma =>
      refine ⟨?_, ?_, ?_, ?_, ?_, ?_, ?_, ?_, ?_, ?_, ?_, ?_, ?_, ?_, ?_, ?_, ?_, ?_, ?_, ?_, ?_, ?_, ?_, ?_, ?_, ?_, ?_, ?_, ?_, ?_, ?_, ?_, ?_, ?_, ?_, trivial⟩
      · intro L a w1 hI hi hd
        obtain ⟨R, hC⟩ := hI
        have hi : L 0 = false := hi
        have hp := hC.pif
        have t5 := hp.at_ 5 _ rfl z5
        have t5' := t5
        rw [Array.getD_eq_getD_getElem?] at t5'
        exact rstep_valW (wanted_none rfl _) (.int .i64 0) w1 (by go_simp) ⟨R, hC.pure 0 56 (.int .i64 0) (by simp [rows, lb11P, lb11M, lb11C, setR]) (by simp [rows, lb11P, lb11M, lb11C, setR]) (by simp [lb11M]) (by simp [lb11C]) rfl (by rw [hsz0]; exact (by decide : 56 < 114)) (by decide) (by simp) (by simp)⟩
      · intro L a w1 hI hi hd
        obtain ⟨R, hC⟩ := hI
        have hi : L 1 = false := hi
        have hp := hC.pif
        simp [Region.binds] at hd
        have e0 : a.tmps.getD 56 undef = (.int .i64 0) := hp.pu (0, 56, (.int .i64 0)) (by simp [rows, lb11P, lb11M, lb11C, setR]) (by simp [hd])
        have f0 : a.tmps[56]?.getD undef = (.int .i64 0) := by rw [← Array.getD_eq_getD_getElem?]; exact e0
        exact rstep_valW (wanted_none rfl _) (.bool false) w1 (by go_simp) ⟨R, hC.pure 1 57 (.bool false) (by simp [rows, lb11P, lb11M, lb11C, setR]) (by simp [rows, lb11P, lb11M, lb11C, setR]) (by simp [lb11M]) (by simp [lb11C]) rfl (by rw [hsz0]; exact (by decide : 57 < 114)) (by decide) (by simp) (by simp)⟩
      · intro L a w1 hI hi hd
        obtain ⟨R, hC⟩ := hI
        have hi : L 2 = false := hi
        have hp := hC.pif
        simp [Region.binds] at hd
        have e1 : a.tmps.getD 57 undef = (.bool false) := hp.pu (1, 57, (.bool false)) (by simp [rows, lb11P, lb11M, lb11C, setR]) (by simp [hd])
        have f1 : a.tmps[57]?.getD undef = (.bool false) := by rw [← Array.getD_eq_getD_getElem?]; exact e1
        exact rstep_valW (wanted_none rfl _) (.bool false) w1 (by go_simp) ⟨R, hC.pure 2 58 (.bool false) (by simp [rows, lb11P, lb11M, lb11C, setR]) (by simp [rows, lb11P, lb11M, lb11C, setR]) (by simp [lb11M]) (by simp [lb11C]) rfl (by rw [hsz0]; exact (by decide : 58 < 114)) (by decide) (by simp) (by simp)⟩
      · intro L a w1 hI hi hd
        obtain ⟨R, hC⟩ := hI
        have hi : L 3 = false := hi
        have hp := hC.pif
        simp [Region.binds] at hd
        have e2 : a.tmps.getD 58 undef = (.bool false) := hp.pu (2, 58, (.bool false)) (by simp [rows, lb11P, lb11M, lb11C, setR]) (by simp [hd])
        have f2 : a.tmps[58]?.getD undef = (.bool false) := by rw [← Array.getD_eq_getD_getElem?]; exact e2
        have t9 := hp.at_ 9 _ rfl z9
        have t9' := t9
        rw [Array.getD_eq_getD_getElem?] at t9'
        exact rstep_valW (wanted_of 2 58 false rfl rfl e2) (.int .i64 0) w1 (by go_simp) ⟨R, hC.pure 3 59 (.int .i64 0) (by simp [rows, lb11P, lb11M, lb11C, setR]) (by simp [rows, lb11P, lb11M, lb11C, setR]) (by simp [lb11M]) (by simp [lb11C]) rfl (by rw [hsz0]; exact (by decide : 59 < 114)) (by decide) (by simp) (by simp)⟩
      · intro L a w1 hI hi hd
        obtain ⟨R, hC⟩ := hI
        have hi : L 4 = false := hi
        have hp := hC.pif
        simp [Region.binds] at hd
        have e2 : a.tmps.getD 58 undef = (.bool false) := hp.pu (2, 58, (.bool false)) (by simp [rows, lb11P, lb11M, lb11C, setR]) (by simp [hd])
        have f2 : a.tmps[58]?.getD undef = (.bool false) := by rw [← Array.getD_eq_getD_getElem?]; exact e2
        have e3 : a.tmps.getD 59 undef = (.int .i64 0) := hp.pu (3, 59, (.int .i64 0)) (by simp [rows, lb11P, lb11M, lb11C, setR]) (by simp [hd])
        have f3 : a.tmps[59]?.getD undef = (.int .i64 0) := by rw [← Array.getD_eq_getD_getElem?]; exact e3
        exact rstep_valW (wanted_of 2 58 false rfl rfl e2) (.bool false) w1 (by go_simp) ⟨R, hC.pure 4 60 (.bool false) (by simp [rows, lb11P, lb11M, lb11C, setR]) (by simp [rows, lb11P, lb11M, lb11C, setR]) (by simp [lb11M]) (by simp [lb11C]) rfl (by rw [hsz0]; exact (by decide : 60 < 114)) (by decide) (by simp) (by simp)⟩
      · intro L a w1 hI hi hd
        obtain ⟨R, hC⟩ := hI
        have hi : L 5 = false := hi
        have hp := hC.pif
        simp [Region.binds] at hd
        have e2 : a.tmps.getD 58 undef = (.bool false) := hp.pu (2, 58, (.bool false)) (by simp [rows, lb11P, lb11M, lb11C, setR]) (by simp [hd])
        have f2 : a.tmps[58]?.getD undef = (.bool false) := by rw [← Array.getD_eq_getD_getElem?]; exact e2
        have e4 : a.tmps.getD 60 undef = (.bool false) := hp.pu (4, 60, (.bool false)) (by simp [rows, lb11P, lb11M, lb11C, setR]) (by simp [hd])
        have f4 : a.tmps[60]?.getD undef = (.bool false) := by rw [← Array.getD_eq_getD_getElem?]; exact e4
        exact rstep_valW (wanted_none rfl _) (.bool false) w1 (by go_simp) ⟨R, hC.pure 5 61 (.bool false) (by simp [rows, lb11P, lb11M, lb11C, setR]) (by simp [rows, lb11P, lb11M, lb11C, setR]) (by simp [lb11M]) (by simp [lb11C]) rfl (by rw [hsz0]; exact (by decide : 61 < 114)) (by decide) (by simp) (by simp)⟩
      · intro L a w1 hI hi hd
        obtain ⟨R, hC⟩ := hI
        have hi : L 6 = false := hi
        have hp := hC.pif
        simp [Region.binds] at hd
        have e5 : a.tmps.getD 61 undef = (.bool false) := hp.pu (5, 61, (.bool false)) (by simp [rows, lb11P, lb11M, lb11C, setR]) (by simp [hd])
        have f5 : a.tmps[61]?.getD undef = (.bool false) := by rw [← Array.getD_eq_getD_getElem?]; exact e5
        exact rstep_valW (wanted_none rfl _) (.bool false) w1 (by go_simp) ⟨R, hC.pure 6 62 (.bool false) (by simp [rows, lb11P, lb11M, lb11C, setR]) (by simp [rows, lb11P, lb11M, lb11C, setR]) (by simp [lb11M]) (by simp [lb11C]) rfl (by rw [hsz0]; exact (by decide : 62 < 114)) (by decide) (by simp) (by simp)⟩
      · intro L a w1 hI hi hd
        obtain ⟨R, hC⟩ := hI
        have hi : L 7 = false := hi
        have hp := hC.pif
        simp [Region.binds] at hd
        have e6 : a.tmps.getD 62 undef = (.bool false) := hp.pu (6, 62, (.bool false)) (by simp [rows, lb11P, lb11M, lb11C, setR]) (by simp [hd])
        have f6 : a.tmps[62]?.getD undef = (.bool false) := by rw [← Array.getD_eq_getD_getElem?]; exact e6
        have t6 := hp.at_ 6 _ rfl z6
        have t6' := t6
        rw [Array.getD_eq_getD_getElem?] at t6'
        exact rstep_valW (wanted_of 6 62 false rfl rfl e6) (.int .i64 (m : Int)) w1 (by go_simp) ⟨R, hC.pure 7 63 (.int .i64 (m : Int)) (by simp [rows, lb11P, lb11M, lb11C, setR]) (by simp [rows, lb11P, lb11M, lb11C, setR]) (by simp [lb11M]) (by simp [lb11C]) rfl (by rw [hsz0]; exact (by decide : 63 < 114)) (by decide) (by simp) (by simp)⟩
      · intro L a w1 hI hi hd
        obtain ⟨R, hC⟩ := hI
        have hi : L 8 = false := hi
        have hp := hC.pif
        simp [Region.binds] at hd
        have e6 : a.tmps.getD 62 undef = (.bool false) := hp.pu (6, 62, (.bool false)) (by simp [rows, lb11P, lb11M, lb11C, setR]) (by simp [hd])
        have f6 : a.tmps[62]?.getD undef = (.bool false) := by rw [← Array.getD_eq_getD_getElem?]; exact e6
        have t4 := hp.at_ 4 _ rfl z4
        have t4' := t4
        rw [Array.getD_eq_getD_getElem?] at t4'
        exact rstep_valW (wanted_of 6 62 false rfl rfl e6) (.slice (some ⟨gb, 0, none⟩) m fc) w1 (by go_simp) ⟨R, hC.pure 8 64 (.slice (some ⟨gb, 0, none⟩) m fc) (by simp [rows, lb11P, lb11M, lb11C, setR]) (by simp [rows, lb11P, lb11M, lb11C, setR]) (by simp [lb11M]) (by simp [lb11C]) rfl (by rw [hsz0]; exact (by decide : 64 < 114)) (by decide) (by simp) (by simp)⟩
      · intro L a w1 hI hi hd
        obtain ⟨R, hC⟩ := hI
        have hi : L 9 = false := hi
        have hp := hC.pif
        simp [Region.binds] at hd
        have e6 : a.tmps.getD 62 undef = (.bool false) := hp.pu (6, 62, (.bool false)) (by simp [rows, lb11P, lb11M, lb11C, setR]) (by simp [hd])
        have f6 : a.tmps[62]?.getD undef = (.bool false) := by rw [← Array.getD_eq_getD_getElem?]; exact e6
        have e8 : a.tmps.getD 64 undef = (.slice (some ⟨gb, 0, none⟩) m fc) := hp.pu (8, 64, (.slice (some ⟨gb, 0, none⟩) m fc)) (by simp [rows, lb11P, lb11M, lb11C, setR]) (by simp [hd])
        have f8 : a.tmps[64]?.getD undef = (.slice (some ⟨gb, 0, none⟩) m fc) := by rw [← Array.getD_eq_getD_getElem?]; exact e8
        exact rstep_valW (wanted_of 6 62 false rfl rfl e6) (.int .i64 (m : Int)) w1 (by go_simp) ⟨R, hC.pure 9 65 (.int .i64 (m : Int)) (by simp [rows, lb11P, lb11M, lb11C, setR]) (by simp [rows, lb11P, lb11M, lb11C, setR]) (by simp [lb11M]) (by simp [lb11C]) rfl (by rw [hsz0]; exact (by decide : 65 < 114)) (by decide) (by simp) (by simp)⟩
      · intro L a w1 hI hi hd
        obtain ⟨R, hC⟩ := hI
        have hi : L 10 = false := hi
        have hp := hC.pif
        simp [Region.binds] at hd
        have e6 : a.tmps.getD 62 undef = (.bool false) := hp.pu (6, 62, (.bool false)) (by simp [rows, lb11P, lb11M, lb11C, setR]) (by simp [hd])
        have f6 : a.tmps[62]?.getD undef = (.bool false) := by rw [← Array.getD_eq_getD_getElem?]; exact e6
        have e7 : a.tmps.getD 63 undef = (.int .i64 (m : Int)) := hp.pu (7, 63, (.int .i64 (m : Int))) (by simp [rows, lb11P, lb11M, lb11C, setR]) (by simp [hd])
        have f7 : a.tmps[63]?.getD undef = (.int .i64 (m : Int)) := by rw [← Array.getD_eq_getD_getElem?]; exact e7
        have e9 : a.tmps.getD 65 undef = (.int .i64 (m : Int)) := hp.pu (9, 65, (.int .i64 (m : Int))) (by simp [rows, lb11P, lb11M, lb11C, setR]) (by simp [hd])
        have f9 : a.tmps[65]?.getD undef = (.int .i64 (m : Int)) := by rw [← Array.getD_eq_getD_getElem?]; exact e9
        exact rstep_valW (wanted_of 6 62 false rfl rfl e6) (.bool false) w1 (by go_simp) ⟨R, hC.pure 10 66 (.bool false) (by simp [rows, lb11P, lb11M, lb11C, setR]) (by simp [rows, lb11P, lb11M, lb11C, setR]) (by simp [lb11M]) (by simp [lb11C]) rfl (by rw [hsz0]; exact (by decide : 66 < 114)) (by decide) (by simp) (by simp)⟩
      · intro L a w1 hI hi hd
        obtain ⟨R, hC⟩ := hI
        have hi : L 11 = false := hi
        have hp := hC.pif
        simp [Region.binds] at hd
        have e6 : a.tmps.getD 62 undef = (.bool false) := hp.pu (6, 62, (.bool false)) (by simp [rows, lb11P, lb11M, lb11C, setR]) (by simp [hd])
        have f6 : a.tmps[62]?.getD undef = (.bool false) := by rw [← Array.getD_eq_getD_getElem?]; exact e6
        have e10 : a.tmps.getD 66 undef = (.bool false) := hp.pu (10, 66, (.bool false)) (by simp [rows, lb11P, lb11M, lb11C, setR]) (by simp [hd])
        have f10 : a.tmps[66]?.getD undef = (.bool false) := by rw [← Array.getD_eq_getD_getElem?]; exact e10
        exact rstep_valW (wanted_none rfl _) (.bool false) w1 (by go_simp) ⟨R, hC.pure 11 67 (.bool false) (by simp [rows, lb11P, lb11M, lb11C, setR]) (by simp [rows, lb11P, lb11M, lb11C, setR]) (by simp [lb11M]) (by simp [lb11C]) rfl (by rw [hsz0]; exact (by decide : 67 < 114)) (by decide) (by simp) (by simp)⟩
      · intro L a w1 hI hi hd
        obtain ⟨R, hC⟩ := hI
        have hi : L 12 = false := hi
        have hp := hC.pif
        simp [Region.binds] at hd
        have e11 : a.tmps.getD 67 undef = (.bool false) := hp.pu (11, 67, (.bool false)) (by simp [rows, lb11P, lb11M, lb11C, setR]) (by simp [hd])
        have f11 : a.tmps[67]?.getD undef = (.bool false) := by rw [← Array.getD_eq_getD_getElem?]; exact e11
        exact rstep_valW (wanted_none rfl _) (.bool false) w1 (by go_simp) ⟨R, hC.pure 12 68 (.bool false) (by simp [rows, lb11P, lb11M, lb11C, setR]) (by simp [rows, lb11P, lb11M, lb11C, setR]) (by simp [lb11M]) (by simp [lb11C]) rfl (by rw [hsz0]; exact (by decide : 68 < 114)) (by decide) (by simp) (by simp)⟩
      · intro L a w1 hI hi hd
        obtain ⟨R, hC⟩ := hI
        have hi : L 13 = false := hi
        have hp := hC.pif
        simp [Region.binds] at hd
        have e12 : a.tmps.getD 68 undef = (.bool false) := hp.pu (12, 68, (.bool false)) (by simp [rows, lb11P, lb11M, lb11C, setR]) (by simp [hd])
        have f12 : a.tmps[68]?.getD undef = (.bool false) := by rw [← Array.getD_eq_getD_getElem?]; exact e12
        have t8 := hp.at_ 8 _ rfl z8
        have t8' := t8
        rw [Array.getD_eq_getD_getElem?] at t8'
        exact rstep_valW (wanted_of 12 68 false rfl rfl e12) (.int .i64 (m : Int)) w1 (by go_simp) ⟨R, hC.pure 13 69 (.int .i64 (m : Int)) (by simp [rows, lb11P, lb11M, lb11C, setR]) (by simp [rows, lb11P, lb11M, lb11C, setR]) (by simp [lb11M]) (by simp [lb11C]) rfl (by rw [hsz0]; exact (by decide : 69 < 114)) (by decide) (by simp) (by simp)⟩
      · intro L a w1 hI hi hd
        obtain ⟨R, hC⟩ := hI
        have hi : L 14 = false := hi
        have hp := hC.pif
        simp [Region.binds] at hd
        have e12 : a.tmps.getD 68 undef = (.bool false) := hp.pu (12, 68, (.bool false)) (by simp [rows, lb11P, lb11M, lb11C, setR]) (by simp [hd])
        have f12 : a.tmps[68]?.getD undef = (.bool false) := by rw [← Array.getD_eq_getD_getElem?]; exact e12
        have t6 := hp.at_ 6 _ rfl z6
        have t6' := t6
        rw [Array.getD_eq_getD_getElem?] at t6'
        exact rstep_valW (wanted_of 12 68 false rfl rfl e12) (.int .i64 (m : Int)) w1 (by go_simp) ⟨R, hC.pure 14 70 (.int .i64 (m : Int)) (by simp [rows, lb11P, lb11M, lb11C, setR]) (by simp [rows, lb11P, lb11M, lb11C, setR]) (by simp [lb11M]) (by simp [lb11C]) rfl (by rw [hsz0]; exact (by decide : 70 < 114)) (by decide) (by simp) (by simp)⟩
      · intro L a w1 hI hi hd
        obtain ⟨R, hC⟩ := hI
        have hi : L 15 = false := hi
        have hp := hC.pif
        simp [Region.binds] at hd
        have e12 : a.tmps.getD 68 undef = (.bool false) := hp.pu (12, 68, (.bool false)) (by simp [rows, lb11P, lb11M, lb11C, setR]) (by simp [hd])
        have f12 : a.tmps[68]?.getD undef = (.bool false) := by rw [← Array.getD_eq_getD_getElem?]; exact e12
        have e13 : a.tmps.getD 69 undef = (.int .i64 (m : Int)) := hp.pu (13, 69, (.int .i64 (m : Int))) (by simp [rows, lb11P, lb11M, lb11C, setR]) (by simp [hd])
        have f13 : a.tmps[69]?.getD undef = (.int .i64 (m : Int)) := by rw [← Array.getD_eq_getD_getElem?]; exact e13
        have e14 : a.tmps.getD 70 undef = (.int .i64 (m : Int)) := hp.pu (14, 70, (.int .i64 (m : Int))) (by simp [rows, lb11P, lb11M, lb11C, setR]) (by simp [hd])
        have f14 : a.tmps[70]?.getD undef = (.int .i64 (m : Int)) := by rw [← Array.getD_eq_getD_getElem?]; exact e14
        exact rstep_valW (wanted_of 12 68 false rfl rfl e12) (.bool false) w1 (by go_simp) ⟨R, hC.pure 15 71 (.bool false) (by simp [rows, lb11P, lb11M, lb11C, setR]) (by simp [rows, lb11P, lb11M, lb11C, setR]) (by simp [lb11M]) (by simp [lb11C]) rfl (by rw [hsz0]; exact (by decide : 71 < 114)) (by decide) (by simp) (by simp)⟩
      · intro L a w1 hI hi hd
        obtain ⟨R, hC⟩ := hI
        have hi : L 16 = false := hi
        have hp := hC.pif
        simp [Region.binds] at hd
        have e12 : a.tmps.getD 68 undef = (.bool false) := hp.pu (12, 68, (.bool false)) (by simp [rows, lb11P, lb11M, lb11C, setR]) (by simp [hd])
        have f12 : a.tmps[68]?.getD undef = (.bool false) := by rw [← Array.getD_eq_getD_getElem?]; exact e12
        have e15 : a.tmps.getD 71 undef = (.bool false) := hp.pu (15, 71, (.bool false)) (by simp [rows, lb11P, lb11M, lb11C, setR]) (by simp [hd])
        have f15 : a.tmps[71]?.getD undef = (.bool false) := by rw [← Array.getD_eq_getD_getElem?]; exact e15
        exact rstep_valW (wanted_none rfl _) (.bool false) w1 (by go_simp) ⟨R, hC.pure 16 72 (.bool false) (by simp [rows, lb11P, lb11M, lb11C, setR]) (by simp [rows, lb11P, lb11M, lb11C, setR]) (by simp [lb11M]) (by simp [lb11C]) rfl (by rw [hsz0]; exact (by decide : 72 < 114)) (by decide) (by simp) (by simp)⟩
      · intro L a w1 hI hi hd
        obtain ⟨R, hC⟩ := hI
        have hi : L 17 = false := hi
        have hp := hC.pif
        simp [Region.binds] at hd
        have e16 : a.tmps.getD 72 undef = (.bool false) := hp.pu (16, 72, (.bool false)) (by simp [rows, lb11P, lb11M, lb11C, setR]) (by simp [hd])
        have f16 : a.tmps[72]?.getD undef = (.bool false) := by rw [← Array.getD_eq_getD_getElem?]; exact e16
        exact rstep_valW (wanted_none rfl _) (.bool false) w1 (by go_simp) ⟨R, hC.pure 17 73 (.bool false) (by simp [rows, lb11P, lb11M, lb11C, setR]) (by simp [rows, lb11P, lb11M, lb11C, setR]) (by simp [lb11M]) (by simp [lb11C]) rfl (by rw [hsz0]; exact (by decide : 73 < 114)) (by decide) (by simp) (by simp)⟩
      · intro L a w1 hI hi hd
        obtain ⟨R, hC⟩ := hI
        have hi : L 18 = false := hi
        have hp := hC.pif
        simp [Region.binds] at hd
        have e17 : a.tmps.getD 73 undef = (.bool false) := hp.pu (17, 73, (.bool false)) (by simp [rows, lb11P, lb11M, lb11C, setR]) (by simp [hd])
        have f17 : a.tmps[73]?.getD undef = (.bool false) := by rw [← Array.getD_eq_getD_getElem?]; exact e17
        have t6 := hp.at_ 6 _ rfl z6
        have t6' := t6
        rw [Array.getD_eq_getD_getElem?] at t6'
        exact rstep_valW (wanted_of 17 73 false rfl rfl e17) (.int .i64 (m : Int)) w1 (by go_simp) ⟨R, hC.pure 18 74 (.int .i64 (m : Int)) (by simp [rows, lb11P, lb11M, lb11C, setR]) (by simp [rows, lb11P, lb11M, lb11C, setR]) (by simp [lb11M]) (by simp [lb11C]) rfl (by rw [hsz0]; exact (by decide : 74 < 114)) (by decide) (by simp) (by simp)⟩
      · intro L a w1 hI hi hd
        obtain ⟨R, hC⟩ := hI
        have hi : L 19 = false := hi
        have hp := hC.pif
        simp [Region.binds] at hd
        have e17 : a.tmps.getD 73 undef = (.bool false) := hp.pu (17, 73, (.bool false)) (by simp [rows, lb11P, lb11M, lb11C, setR]) (by simp [hd])
        have f17 : a.tmps[73]?.getD undef = (.bool false) := by rw [← Array.getD_eq_getD_getElem?]; exact e17
        have e18 : a.tmps.getD 74 undef = (.int .i64 (m : Int)) := hp.pu (18, 74, (.int .i64 (m : Int))) (by simp [rows, lb11P, lb11M, lb11C, setR]) (by simp [hd])
        have f18 : a.tmps[74]?.getD undef = (.int .i64 (m : Int)) := by rw [← Array.getD_eq_getD_getElem?]; exact e18
        have hm16 : ¬ (1600 : Int) < (m : Int) := by omega
        exact rstep_valW (wanted_of 17 73 false rfl rfl e17) (.bool false) w1 (by go_simp) ⟨R, hC.pure 19 75 (.bool false) (by simp [rows, lb11P, lb11M, lb11C, setR]) (by simp [rows, lb11P, lb11M, lb11C, setR]) (by simp [lb11M]) (by simp [lb11C]) rfl (by rw [hsz0]; exact (by decide : 75 < 114)) (by decide) (by simp) (by simp)⟩
      · intro L a w1 hI hi hd
        obtain ⟨R, hC⟩ := hI
        have hi : L 20 = false := hi
        have hp := hC.pif
        simp [Region.binds] at hd
        have e17 : a.tmps.getD 73 undef = (.bool false) := hp.pu (17, 73, (.bool false)) (by simp [rows, lb11P, lb11M, lb11C, setR]) (by simp [hd])
        have f17 : a.tmps[73]?.getD undef = (.bool false) := by rw [← Array.getD_eq_getD_getElem?]; exact e17
        have e19 : a.tmps.getD 75 undef = (.bool false) := hp.pu (19, 75, (.bool false)) (by simp [rows, lb11P, lb11M, lb11C, setR]) (by simp [hd])
        have f19 : a.tmps[75]?.getD undef = (.bool false) := by rw [← Array.getD_eq_getD_getElem?]; exact e19
        exact rstep_valW (wanted_none rfl _) (.bool false) w1 (by go_simp) ⟨R, hC.pure 20 76 (.bool false) (by simp [rows, lb11P, lb11M, lb11C, setR]) (by simp [rows, lb11P, lb11M, lb11C, setR]) (by simp [lb11M]) (by simp [lb11C]) rfl (by rw [hsz0]; exact (by decide : 76 < 114)) (by decide) (by simp) (by simp)⟩
      · intro L a w1 hI hi hd
        obtain ⟨R, hC⟩ := hI
        have hi : L 21 = false := hi
        have hp := hC.pif
        simp [Region.binds] at hd
        have e20 : a.tmps.getD 76 undef = (.bool false) := hp.pu (20, 76, (.bool false)) (by simp [rows, lb11P, lb11M, lb11C, setR]) (by simp [hd])
        have f20 : a.tmps[76]?.getD undef = (.bool false) := by rw [← Array.getD_eq_getD_getElem?]; exact e20
        exact rstep_valW (wanted_none rfl _) (.bool false) w1 (by go_simp) ⟨R, hC.pure 21 77 (.bool false) (by simp [rows, lb11P, lb11M, lb11C, setR]) (by simp [rows, lb11P, lb11M, lb11C, setR]) (by simp [lb11M]) (by simp [lb11C]) rfl (by rw [hsz0]; exact (by decide : 77 < 114)) (by decide) (by simp) (by simp)⟩
      · intro L a w1 hI hi hd
        obtain ⟨R, hC⟩ := hI
        have hi : L 22 = false := hi
        have hp := hC.pif
        simp [Region.binds] at hd
        have e21 : a.tmps.getD 77 undef = (.bool false) := hp.pu (21, 77, (.bool false)) (by simp [rows, lb11P, lb11M, lb11C, setR]) (by simp [hd])
        have f21 : a.tmps[77]?.getD undef = (.bool false) := by rw [← Array.getD_eq_getD_getElem?]; exact e21
        have t4 := hp.at_ 4 _ rfl z4
        have t4' := t4
        rw [Array.getD_eq_getD_getElem?] at t4'
        exact rstep_valW (wanted_of 21 77 false rfl rfl e21) (.slice (some ⟨gb, 0, none⟩) m fc) w1 (by go_simp) ⟨R, hC.pure 22 78 (.slice (some ⟨gb, 0, none⟩) m fc) (by simp [rows, lb11P, lb11M, lb11C, setR]) (by simp [rows, lb11P, lb11M, lb11C, setR]) (by simp [lb11M]) (by simp [lb11C]) rfl (by rw [hsz0]; exact (by decide : 78 < 114)) (by decide) (by simp) (by simp)⟩
      · intro L a w1 hI hi hd
        obtain ⟨R, hC⟩ := hI
        have hi : L 23 = false := hi
        have hp := hC.pif
        simp [Region.binds] at hd
        have e21 : a.tmps.getD 77 undef = (.bool false) := hp.pu (21, 77, (.bool false)) (by simp [rows, lb11P, lb11M, lb11C, setR]) (by simp [hd])
        have f21 : a.tmps[77]?.getD undef = (.bool false) := by rw [← Array.getD_eq_getD_getElem?]; exact e21
        have e22 : a.tmps.getD 78 undef = (.slice (some ⟨gb, 0, none⟩) m fc) := hp.pu (22, 78, (.slice (some ⟨gb, 0, none⟩) m fc)) (by simp [rows, lb11P, lb11M, lb11C, setR]) (by simp [hd])
        have f22 : a.tmps[78]?.getD undef = (.slice (some ⟨gb, 0, none⟩) m fc) := by rw [← Array.getD_eq_getD_getElem?]; exact e22
        have s1 := str_len w1 (some ⟨gb, 0, none⟩) m fc (LogM.form s) HML.out (HFR.out.below hC.bel)
        exact rstep_valW (wanted_of 21 77 false rfl rfl e21) (.string (str (LogM.form s))) w1 (by go_simp) ⟨R, hC.pure 23 79 (.string (str (LogM.form s))) (by simp [rows, lb11P, lb11M, lb11C, setR]) (by simp [rows, lb11P, lb11M, lb11C, setR]) (by simp [lb11M]) (by simp [lb11C]) rfl (by rw [hsz0]; exact (by decide : 79 < 114)) (by decide) (by simp) (by simp)⟩
      · intro L a w1 hI hi hd
        obtain ⟨R, hC⟩ := hI
        have hi : L 24 = false := hi
        have hp := hC.pif
        simp [Region.binds] at hd
        have e21 : a.tmps.getD 77 undef = (.bool false) := hp.pu (21, 77, (.bool false)) (by simp [rows, lb11P, lb11M, lb11C, setR]) (by simp [hd])
        have f21 : a.tmps[77]?.getD undef = (.bool false) := by rw [← Array.getD_eq_getD_getElem?]; exact e21
        have t1 := hp.at_ 1 _ rfl z1
        have t1' := t1
        rw [Array.getD_eq_getD_getElem?] at t1'
        exact rstep_valW (wanted_of 21 77 false rfl rfl e21) (.agg #[.int .i64 s.kind, .int .u64 (s.lsn : Int), .int .u32 (s.epoch : Int), .int .u64 (s.txn : Int), .int .u32 (s.page : Int), .int .u16 (s.off : Int), .slice y.oA y.on y.oc, .slice y.nA y.nn y.nc, .slice y.uA y.un y.uc, .int .u64 (s.prev : Int), .int .u64 (s.next : Int), .bool s.clr, .int .u64 (s.stamp : Int), .slice y.pA y.pn y.pc, .slice y.dA y.dn y.dc]) w1 (exec_load_row _ (.tmp 1) rfl g1 t1 _ _ _ (hx1.below (hB0.trans hC.bel) hx1.lt) Try.underlying31 rfl (by kernel_rfl)) ⟨R, hC.pure 24 80 (.agg #[.int .i64 s.kind, .int .u64 (s.lsn : Int), .int .u32 (s.epoch : Int), .int .u64 (s.txn : Int), .int .u32 (s.page : Int), .int .u16 (s.off : Int), .slice y.oA y.on y.oc, .slice y.nA y.nn y.nc, .slice y.uA y.un y.uc, .int .u64 (s.prev : Int), .int .u64 (s.next : Int), .bool s.clr, .int .u64 (s.stamp : Int), .slice y.pA y.pn y.pc, .slice y.dA y.dn y.dc]) (by simp [rows, lb11P, lb11M, lb11C, setR]) (by simp [rows, lb11P, lb11M, lb11C, setR]) (by simp [lb11M]) (by simp [lb11C]) rfl (by rw [hsz0]; exact (by decide : 80 < 114)) (by decide) (by simp) (by simp)⟩
      · intro L a w1 hI hi hd
        obtain ⟨R, hC⟩ := hI
        have hi : L 25 = false := hi
        have hp := hC.pif
        simp [Region.binds] at hd
        have e21 : a.tmps.getD 77 undef = (.bool false) := hp.pu (21, 77, (.bool false)) (by simp [rows, lb11P, lb11M, lb11C, setR]) (by simp [hd])
        have f21 : a.tmps[77]?.getD undef = (.bool false) := by rw [← Array.getD_eq_getD_getElem?]; exact e21
        have e24 : a.tmps.getD 80 undef = (.agg #[.int .i64 s.kind, .int .u64 (s.lsn : Int), .int .u32 (s.epoch : Int), .int .u64 (s.txn : Int), .int .u32 (s.page : Int), .int .u16 (s.off : Int), .slice y.oA y.on y.oc, .slice y.nA y.nn y.nc, .slice y.uA y.un y.uc, .int .u64 (s.prev : Int), .int .u64 (s.next : Int), .bool s.clr, .int .u64 (s.stamp : Int), .slice y.pA y.pn y.pc, .slice y.dA y.dn y.dc]) := hp.pu (24, 80, (.agg #[.int .i64 s.kind, .int .u64 (s.lsn : Int), .int .u32 (s.epoch : Int), .int .u64 (s.txn : Int), .int .u32 (s.page : Int), .int .u16 (s.off : Int), .slice y.oA y.on y.oc, .slice y.nA y.nn y.nc, .slice y.uA y.un y.uc, .int .u64 (s.prev : Int), .int .u64 (s.next : Int), .bool s.clr, .int .u64 (s.stamp : Int), .slice y.pA y.pn y.pc, .slice y.dA y.dn y.dc])) (by simp [rows, lb11P, lb11M, lb11C, setR]) (by simp [hd])
        have f24 : a.tmps[80]?.getD undef = (.agg #[.int .i64 s.kind, .int .u64 (s.lsn : Int), .int .u32 (s.epoch : Int), .int .u64 (s.txn : Int), .int .u32 (s.page : Int), .int .u16 (s.off : Int), .slice y.oA y.on y.oc, .slice y.nA y.nn y.nc, .slice y.uA y.un y.uc, .int .u64 (s.prev : Int), .int .u64 (s.next : Int), .bool s.clr, .int .u64 (s.stamp : Int), .slice y.pA y.pn y.pc, .slice y.dA y.dn y.dc]) := by rw [← Array.getD_eq_getD_getElem?]; exact e24
        refine rstep_callW (wanted_of 21 77 false rfl rfl e21) 18 #[.agg #[.int .i64 s.kind, .int .u64 (s.lsn : Int), .int .u32 (s.epoch : Int), .int .u64 (s.txn : Int), .int .u32 (s.page : Int), .int .u16 (s.off : Int), .slice y.oA y.on y.oc, .slice y.nA y.nn y.nc, .slice y.uA y.un y.uc, .int .u64 (s.prev : Int), .int .u64 (s.next : Int), .bool s.clr, .int .u64 (s.stamp : Int), .slice y.pA y.pn y.pc, .slice y.dA y.dn y.dc]] (by go_simp) ?_
        refine (rform_any s y w1 (HAX.out.below hC.bel) HMAY.out).mono ?_
        rintro e w2 ⟨A', n', c', rfl, hn', hO, hb⟩
        exact ⟨_, hC.call ⟨25, 81, LogM.form s, none⟩ (by simp [lb11M]) ⟨A', n', c'⟩ hi hO hn'.out hb (by simp [lb11M]) (by simp [lb11P]) (by simp [rows, lb11P, lb11M, lb11C, setR]) (by simp [rows, lb11P, lb11M, lb11C, setR]) (by simp [lb11C]) rfl (by rw [hsz0]; exact (by decide : 81 < 114)) (by simp) (by simp)⟩
      · intro L a w1 hI hi hd
        obtain ⟨R, hC⟩ := hI
        have hi : L 26 = false := hi
        have hp := hC.pif
        simp [Region.binds] at hd
        have e21 : a.tmps.getD 77 undef = (.bool false) := hp.pu (21, 77, (.bool false)) (by simp [rows, lb11P, lb11M, lb11C, setR]) (by simp [hd])
        have f21 : a.tmps[77]?.getD undef = (.bool false) := by rw [← Array.getD_eq_getD_getElem?]; exact e21
        have e25 : a.tmps.getD 81 undef = (.slice (R 25).A (R 25).n (R 25).c) := hp.pu (25, 81, (R 25).v) (by simp [rows, lb11P, lb11M, lb11C, setR]) (by simp [hd])
        have f25 : a.tmps[81]?.getD undef = (.slice (R 25).A (R 25).n (R 25).c) := by rw [← Array.getD_eq_getD_getElem?]; exact e25
        have hO0 := hC.own ⟨25, 81, LogM.form s, none⟩ (by simp [lb11M]) (by simp [hd]) nofun
        have hN0 := hC.len ⟨25, 81, LogM.form s, none⟩ (by simp [lb11M]) (by simp [hd])
        dsimp only at hO0 hN0
        have s2 := str_len w1 (R 25).A (R 25).n (R 25).c (LogM.form s) hN0 hO0.row
        exact rstep_valW (wanted_of 21 77 false rfl rfl e21) (.string (str (LogM.form s))) w1 (by go_simp) ⟨R, hC.pure 26 82 (.string (str (LogM.form s))) (by simp [rows, lb11P, lb11M, lb11C, setR]) (by simp [rows, lb11P, lb11M, lb11C, setR]) (by simp [lb11M]) (by simp [lb11C]) rfl (by rw [hsz0]; exact (by decide : 82 < 114)) (by decide) (by simp) (by simp)⟩
      · intro L a w1 hI hi hd
        obtain ⟨R, hC⟩ := hI
        have hi : L 27 = false := hi
        have hp := hC.pif
        simp [Region.binds] at hd
        have e21 : a.tmps.getD 77 undef = (.bool false) := hp.pu (21, 77, (.bool false)) (by simp [rows, lb11P, lb11M, lb11C, setR]) (by simp [hd])
        have f21 : a.tmps[77]?.getD undef = (.bool false) := by rw [← Array.getD_eq_getD_getElem?]; exact e21
        have e23 : a.tmps.getD 79 undef = (.string (str (LogM.form s))) := hp.pu (23, 79, (.string (str (LogM.form s)))) (by simp [rows, lb11P, lb11M, lb11C, setR]) (by simp [hd])
        have f23 : a.tmps[79]?.getD undef = (.string (str (LogM.form s))) := by rw [← Array.getD_eq_getD_getElem?]; exact e23
        have e26 : a.tmps.getD 82 undef = (.string (str (LogM.form s))) := hp.pu (26, 82, (.string (str (LogM.form s)))) (by simp [rows, lb11P, lb11M, lb11C, setR]) (by simp [hd])
        have f26 : a.tmps[82]?.getD undef = (.string (str (LogM.form s))) := by rw [← Array.getD_eq_getD_getElem?]; exact e26
        have sb := HSB.out
        exact rstep_valW (wanted_of 21 77 false rfl rfl e21) (.bool false) w1 (by go_simp) ⟨R, hC.pure 27 83 (.bool false) (by simp [rows, lb11P, lb11M, lb11C, setR]) (by simp [rows, lb11P, lb11M, lb11C, setR]) (by simp [lb11M]) (by simp [lb11C]) rfl (by rw [hsz0]; exact (by decide : 83 < 114)) (by decide) (by simp) (by simp)⟩
      · intro L a w1 hI hi hd
        obtain ⟨R, hC⟩ := hI
        have hi : L 28 = false := hi
        have hp := hC.pif
        simp [Region.binds] at hd
        have e21 : a.tmps.getD 77 undef = (.bool false) := hp.pu (21, 77, (.bool false)) (by simp [rows, lb11P, lb11M, lb11C, setR]) (by simp [hd])
        have f21 : a.tmps[77]?.getD undef = (.bool false) := by rw [← Array.getD_eq_getD_getElem?]; exact e21
        have e27 : a.tmps.getD 83 undef = (.bool false) := hp.pu (27, 83, (.bool false)) (by simp [rows, lb11P, lb11M, lb11C, setR]) (by simp [hd])
        have f27 : a.tmps[83]?.getD undef = (.bool false) := by rw [← Array.getD_eq_getD_getElem?]; exact e27
        exact rstep_valW (wanted_none rfl _) (.bool false) w1 (by go_simp) ⟨R, hC.pure 28 84 (.bool false) (by simp [rows, lb11P, lb11M, lb11C, setR]) (by simp [rows, lb11P, lb11M, lb11C, setR]) (by simp [lb11M]) (by simp [lb11C]) rfl (by rw [hsz0]; exact (by decide : 84 < 114)) (by decide) (by simp) (by simp)⟩
      · intro L a w1 hI hi hd
        obtain ⟨R, hC⟩ := hI
        have hi : L 29 = false := hi
        have hp := hC.pif
        simp [Region.binds] at hd
        have e28 : a.tmps.getD 84 undef = (.bool false) := hp.pu (28, 84, (.bool false)) (by simp [rows, lb11P, lb11M, lb11C, setR]) (by simp [hd])
        have f28 : a.tmps[84]?.getD undef = (.bool false) := by rw [← Array.getD_eq_getD_getElem?]; exact e28
        exact rstep_valW (wanted_none rfl _) (.bool false) w1 (by go_simp) ⟨R, hC.pure 29 85 (.bool false) (by simp [rows, lb11P, lb11M, lb11C, setR]) (by simp [rows, lb11P, lb11M, lb11C, setR]) (by simp [lb11M]) (by simp [lb11C]) rfl (by rw [hsz0]; exact (by decide : 85 < 114)) (by decide) (by simp) (by simp)⟩
      · intro L a w1 hI hi hd
        obtain ⟨R, hC⟩ := hI
        have hi : L 30 = false := hi
        have hp := hC.pif
        simp [Region.binds] at hd
        have e29 : a.tmps.getD 85 undef = (.bool false) := hp.pu (29, 85, (.bool false)) (by simp [rows, lb11P, lb11M, lb11C, setR]) (by simp [hd])
        have f29 : a.tmps[85]?.getD undef = (.bool false) := by rw [← Array.getD_eq_getD_getElem?]; exact e29
        have t1 := hp.at_ 1 _ rfl z1
        have t1' := t1
        rw [Array.getD_eq_getD_getElem?] at t1'
        exact rstep_valW (wanted_of 29 85 false rfl rfl e29) (.agg #[.int .i64 s.kind, .int .u64 (s.lsn : Int), .int .u32 (s.epoch : Int), .int .u64 (s.txn : Int), .int .u32 (s.page : Int), .int .u16 (s.off : Int), .slice y.oA y.on y.oc, .slice y.nA y.nn y.nc, .slice y.uA y.un y.uc, .int .u64 (s.prev : Int), .int .u64 (s.next : Int), .bool s.clr, .int .u64 (s.stamp : Int), .slice y.pA y.pn y.pc, .slice y.dA y.dn y.dc]) w1 (exec_load_row _ (.tmp 1) rfl g1 t1 _ _ _ (hx1.below (hB0.trans hC.bel) hx1.lt) Try.underlying31 rfl (by kernel_rfl)) ⟨R, hC.pure 30 86 (.agg #[.int .i64 s.kind, .int .u64 (s.lsn : Int), .int .u32 (s.epoch : Int), .int .u64 (s.txn : Int), .int .u32 (s.page : Int), .int .u16 (s.off : Int), .slice y.oA y.on y.oc, .slice y.nA y.nn y.nc, .slice y.uA y.un y.uc, .int .u64 (s.prev : Int), .int .u64 (s.next : Int), .bool s.clr, .int .u64 (s.stamp : Int), .slice y.pA y.pn y.pc, .slice y.dA y.dn y.dc]) (by simp [rows, lb11P, lb11M, lb11C, setR]) (by simp [rows, lb11P, lb11M, lb11C, setR]) (by simp [lb11M]) (by simp [lb11C]) rfl (by rw [hsz0]; exact (by decide : 86 < 114)) (by decide) (by simp) (by simp)⟩
      · intro L a w1 hI hi hd
        obtain ⟨R, hC⟩ := hI
        have hi : L 31 = false := hi
        have hp := hC.pif
        simp [Region.binds] at hd
        have e29 : a.tmps.getD 85 undef = (.bool false) := hp.pu (29, 85, (.bool false)) (by simp [rows, lb11P, lb11M, lb11C, setR]) (by simp [hd])
        have f29 : a.tmps[85]?.getD undef = (.bool false) := by rw [← Array.getD_eq_getD_getElem?]; exact e29
        have t7 := hp.at_ 7 _ rfl z7
        have t7' := t7
        rw [Array.getD_eq_getD_getElem?] at t7'
        exact rstep_valW (wanted_of 29 85 false rfl rfl e29) (.agg #[.int .i64 s.kind, .int .u64 (s.lsn : Int), .int .u32 (s.epoch : Int), .int .u64 (s.txn : Int), .int .u32 (s.page : Int), .int .u16 (s.off : Int), .slice yr.oA yr.on yr.oc, .slice yr.nA yr.nn yr.nc, .slice yr.uA yr.un yr.uc, .int .u64 (s.prev : Int), .int .u64 (s.next : Int), .bool s.clr, .int .u64 (s.stamp : Int), .slice yr.pA yr.pn yr.pc, .slice yr.dA yr.dn yr.dc]) w1 (exec_load_row _ (.tmp 7) rfl gy t7 _ _ _ (hy.below (hB0.trans hC.bel) hy.lt) Try.underlying31 rfl (by kernel_rfl)) ⟨R, hC.pure 31 87 (.agg #[.int .i64 s.kind, .int .u64 (s.lsn : Int), .int .u32 (s.epoch : Int), .int .u64 (s.txn : Int), .int .u32 (s.page : Int), .int .u16 (s.off : Int), .slice yr.oA yr.on yr.oc, .slice yr.nA yr.nn yr.nc, .slice yr.uA yr.un yr.uc, .int .u64 (s.prev : Int), .int .u64 (s.next : Int), .bool s.clr, .int .u64 (s.stamp : Int), .slice yr.pA yr.pn yr.pc, .slice yr.dA yr.dn yr.dc]) (by simp [rows, lb11P, lb11M, lb11C, setR]) (by simp [rows, lb11P, lb11M, lb11C, setR]) (by simp [lb11M]) (by simp [lb11C]) rfl (by rw [hsz0]; exact (by decide : 87 < 114)) (by decide) (by simp) (by simp)⟩
      · intro L a w1 hI hi hd
        obtain ⟨R, hC⟩ := hI
        have hi : L 32 = false := hi
        have hp := hC.pif
        simp [Region.binds] at hd
        have e29 : a.tmps.getD 85 undef = (.bool false) := hp.pu (29, 85, (.bool false)) (by simp [rows, lb11P, lb11M, lb11C, setR]) (by simp [hd])
        have f29 : a.tmps[85]?.getD undef = (.bool false) := by rw [← Array.getD_eq_getD_getElem?]; exact e29
        have e30 : a.tmps.getD 86 undef = (.agg #[.int .i64 s.kind, .int .u64 (s.lsn : Int), .int .u32 (s.epoch : Int), .int .u64 (s.txn : Int), .int .u32 (s.page : Int), .int .u16 (s.off : Int), .slice y.oA y.on y.oc, .slice y.nA y.nn y.nc, .slice y.uA y.un y.uc, .int .u64 (s.prev : Int), .int .u64 (s.next : Int), .bool s.clr, .int .u64 (s.stamp : Int), .slice y.pA y.pn y.pc, .slice y.dA y.dn y.dc]) := hp.pu (30, 86, (.agg #[.int .i64 s.kind, .int .u64 (s.lsn : Int), .int .u32 (s.epoch : Int), .int .u64 (s.txn : Int), .int .u32 (s.page : Int), .int .u16 (s.off : Int), .slice y.oA y.on y.oc, .slice y.nA y.nn y.nc, .slice y.uA y.un y.uc, .int .u64 (s.prev : Int), .int .u64 (s.next : Int), .bool s.clr, .int .u64 (s.stamp : Int), .slice y.pA y.pn y.pc, .slice y.dA y.dn y.dc])) (by simp [rows, lb11P, lb11M, lb11C, setR]) (by simp [hd])
        have f30 : a.tmps[86]?.getD undef = (.agg #[.int .i64 s.kind, .int .u64 (s.lsn : Int), .int .u32 (s.epoch : Int), .int .u64 (s.txn : Int), .int .u32 (s.page : Int), .int .u16 (s.off : Int), .slice y.oA y.on y.oc, .slice y.nA y.nn y.nc, .slice y.uA y.un y.uc, .int .u64 (s.prev : Int), .int .u64 (s.next : Int), .bool s.clr, .int .u64 (s.stamp : Int), .slice y.pA y.pn y.pc, .slice y.dA y.dn y.dc]) := by rw [← Array.getD_eq_getD_getElem?]; exact e30
        have e31 : a.tmps.getD 87 undef = (.agg #[.int .i64 s.kind, .int .u64 (s.lsn : Int), .int .u32 (s.epoch : Int), .int .u64 (s.txn : Int), .int .u32 (s.page : Int), .int .u16 (s.off : Int), .slice yr.oA yr.on yr.oc, .slice yr.nA yr.nn yr.nc, .slice yr.uA yr.un yr.uc, .int .u64 (s.prev : Int), .int .u64 (s.next : Int), .bool s.clr, .int .u64 (s.stamp : Int), .slice yr.pA yr.pn yr.pc, .slice yr.dA yr.dn yr.dc]) := hp.pu (31, 87, (.agg #[.int .i64 s.kind, .int .u64 (s.lsn : Int), .int .u32 (s.epoch : Int), .int .u64 (s.txn : Int), .int .u32 (s.page : Int), .int .u16 (s.off : Int), .slice yr.oA yr.on yr.oc, .slice yr.nA yr.nn yr.nc, .slice yr.uA yr.un yr.uc, .int .u64 (s.prev : Int), .int .u64 (s.next : Int), .bool s.clr, .int .u64 (s.stamp : Int), .slice yr.pA yr.pn yr.pc, .slice yr.dA yr.dn yr.dc])) (by simp [rows, lb11P, lb11M, lb11C, setR]) (by simp [hd])
        have f31 : a.tmps[87]?.getD undef = (.agg #[.int .i64 s.kind, .int .u64 (s.lsn : Int), .int .u32 (s.epoch : Int), .int .u64 (s.txn : Int), .int .u32 (s.page : Int), .int .u16 (s.off : Int), .slice yr.oA yr.on yr.oc, .slice yr.nA yr.nn yr.nc, .slice yr.uA yr.un yr.uc, .int .u64 (s.prev : Int), .int .u64 (s.next : Int), .bool s.clr, .int .u64 (s.stamp : Int), .slice yr.pA yr.pn yr.pc, .slice yr.dA yr.dn yr.dc]) := by rw [← Array.getD_eq_getD_getElem?]; exact e31
        refine rstep_callW (wanted_of 29 85 false rfl rfl e29) 11 #[.agg #[.int .i64 s.kind, .int .u64 (s.lsn : Int), .int .u32 (s.epoch : Int), .int .u64 (s.txn : Int), .int .u32 (s.page : Int), .int .u16 (s.off : Int), .slice y.oA y.on y.oc, .slice y.nA y.nn y.nc, .slice y.uA y.un y.uc, .int .u64 (s.prev : Int), .int .u64 (s.next : Int), .bool s.clr, .int .u64 (s.stamp : Int), .slice y.pA y.pn y.pc, .slice y.dA y.dn y.dc], .agg #[.int .i64 s.kind, .int .u64 (s.lsn : Int), .int .u32 (s.epoch : Int), .int .u64 (s.txn : Int), .int .u32 (s.page : Int), .int .u16 (s.off : Int), .slice yr.oA yr.on yr.oc, .slice yr.nA yr.nn yr.nc, .slice yr.uA yr.un yr.uc, .int .u64 (s.prev : Int), .int .u64 (s.next : Int), .bool s.clr, .int .u64 (s.stamp : Int), .slice yr.pA yr.pn yr.pc, .slice yr.dA yr.dn yr.dc]] (by go_simp) ?_
        refine (rsame_any s s y yr w1 (HAX.out.below hC.bel) (HAY.out.below hC.bel)).mono ?_
        rintro e w2 ⟨r, rfl, HR1, hb⟩
        obtain rfl : r = true := HR1.out.2 rfl
        exact ⟨R, hC.pureW hb 32 88 (.bool true) (by simp [rows, lb11P, lb11M, lb11C, setR]) (by simp [rows, lb11P, lb11M, lb11C, setR]) (by simp [lb11M]) (by simp [lb11C]) rfl (by rw [hsz0]; exact (by decide : 88 < 114)) (by decide) (by simp) (by simp)⟩
      · intro L a w1 hI hi hd
        obtain ⟨R, hC⟩ := hI
        have hi : L 33 = false := hi
        have hp := hC.pif
        simp [Region.binds] at hd
        have e29 : a.tmps.getD 85 undef = (.bool false) := hp.pu (29, 85, (.bool false)) (by simp [rows, lb11P, lb11M, lb11C, setR]) (by simp [hd])
        have f29 : a.tmps[85]?.getD undef = (.bool false) := by rw [← Array.getD_eq_getD_getElem?]; exact e29
        have e32 : a.tmps.getD 88 undef = (.bool true) := hp.pu (32, 88, (.bool true)) (by simp [rows, lb11P, lb11M, lb11C, setR]) (by simp [hd])
        have f32 : a.tmps[88]?.getD undef = (.bool true) := by rw [← Array.getD_eq_getD_getElem?]; exact e32
        exact rstep_valW (wanted_of 29 85 false rfl rfl e29) (.bool false) w1 (by go_simp) ⟨R, hC.pure 33 89 (.bool false) (by simp [rows, lb11P, lb11M, lb11C, setR]) (by simp [rows, lb11P, lb11M, lb11C, setR]) (by simp [lb11M]) (by simp [lb11C]) rfl (by rw [hsz0]; exact (by decide : 89 < 114)) (by decide) (by simp) (by simp)⟩
      · intro L a w1 hI hi hd
        obtain ⟨R, hC⟩ := hI
        have hi : L 34 = false := hi
        have hp := hC.pif
        simp [Region.binds] at hd
        have e29 : a.tmps.getD 85 undef = (.bool false) := hp.pu (29, 85, (.bool false)) (by simp [rows, lb11P, lb11M, lb11C, setR]) (by simp [hd])
        have f29 : a.tmps[85]?.getD undef = (.bool false) := by rw [← Array.getD_eq_getD_getElem?]; exact e29
        have e33 : a.tmps.getD 89 undef = (.bool false) := hp.pu (33, 89, (.bool false)) (by simp [rows, lb11P, lb11M, lb11C, setR]) (by simp [hd])
        have f33 : a.tmps[89]?.getD undef = (.bool false) := by rw [← Array.getD_eq_getD_getElem?]; exact e33
        exact rstep_valW (wanted_none rfl _) (.bool false) w1 (by go_simp) ⟨R, hC.pure 34 90 (.bool false) (by simp [rows, lb11P, lb11M, lb11C, setR]) (by simp [rows, lb11P, lb11M, lb11C, setR]) (by simp [lb11M]) (by simp [lb11C]) rfl (by rw [hsz0]; exact (by decide : 90 < 114)) (by decide) (by simp) (by simp)⟩
    rintro L a W ⟨R, hC⟩ hL
    have hp := hC.pif
    have e34 : a.tmps.getD 90 undef = (.bool false) := hp.pu (34, 90, (.bool false)) (by simp [rows, lb11P, lb11M, lb11C, setR]) (hL 34 (by simp))
    have hBW := hC.bel
    rw [hp.eq]
    refine of_assigns (P := Try.prog) _ _ _ _ ?_
    rw [ha0.out]
    simp only [asgs, List.map, e34]
    generalize a.tmps.getD 56 undef = u56
    generalize a.tmps.getD 57 undef = u57
    generalize a.tmps.getD 58 undef = u58
    generalize a.tmps.getD 59 undef = u59
    generalize a.tmps.getD 60 undef = u60
    generalize a.tmps.getD 61 undef = u61
    generalize a.tmps.getD 62 undef = u62
    generalize a.tmps.getD 63 undef = u63
    generalize a.tmps.getD 64 undef = u64
    generalize a.tmps.getD 65 undef = u65
    generalize a.tmps.getD 66 undef = u66
    generalize a.tmps.getD 67 undef = u67
    generalize a.tmps.getD 68 undef = u68
    generalize a.tmps.getD 69 undef = u69
    generalize a.tmps.getD 70 undef = u70
    generalize a.tmps.getD 71 undef = u71
    generalize a.tmps.getD 72 undef = u72
    generalize a.tmps.getD 73 undef = u73
    generalize a.tmps.getD 74 undef = u74
    generalize a.tmps.getD 75 undef = u75
    generalize a.tmps.getD 76 undef = u76
    generalize a.tmps.getD 77 undef = u77
    generalize a.tmps.getD 78 undef = u78
    generalize a.tmps.getD 79 undef = u79
    generalize a.tmps.getD 80 undef = u80
    generalize a.tmps.getD 81 undef = u81
    generalize a.tmps.getD 82 undef = u82
    generalize a.tmps.getD 83 undef = u83
    generalize a.tmps.getD 84 undef = u84
    generalize a.tmps.getD 85 undef = u85
    generalize a.tmps.getD 86 undef = u86
    generalize a.tmps.getD 87 undef = u87
    generalize a.tmps.getD 88 undef = u88
    generalize a.tmps.getD 89 undef = u89
    clear hp hL e34 ha0 z1 z4 z5 z6 z7 z8 z9 hsz0 hC
    clear a0 a L R
    have hx1W := hx1.below hBW hx1.lt
    have hx3W := hx3b.below hBW hx3b.lt
    have hyW := hy.below hBW hy.lt
    have hBB := below_step hB8 hBW (Nat.le_refl _)
    have hfW := hf8.below hBW
    have hlW := hl8.below hBW
    have H3W := Lib.hid (below_step H38.out hBW (Nat.le_refl _))
    clear hBW hOb hbV hB0 hx1 hx3b hB8 hf8 hl8 H38 HAX HAY HFR hy
    go_wp2_with (first | (refine wp_cond_true (by go_simp) ?_) | (refine wp_cond_false (by go_simp) ?_))
    go_loopw [10] (fun i wr => ∃ (q : Nat) (lf : List UInt8), i = .int .i64 (q : Int) ∧ q ≤ m ∧ lf.length = m ∧ Own wr V3.heap.size (some ⟨gb, 0, none⟩) fc lf ∧ W.grownBy wr (some gb)) (fun i _ => m - (RowKit.intOf i).toNat)
    case atStart => exact ⟨0, LogM.form s, rfl, by omega, HML.out, hfW, World.grownBy.refl _ _⟩
    case round =>
      clear hfW
      obtain ⟨q, lf, rfl, hq, hlf, hO, hg⟩ := hrel
      by_cases hlt : q < m
      · obtain ⟨u, hu⟩ : ∃ u, lf[q]? = some u := ⟨_, List.getElem?_eq_getElem (by omega)⟩
        have hcell := hO.cell hu
        have hfz := hO.frozen q
        have xx := add_u8b u
        obtain ⟨v, hv⟩ : ∃ v, u + 1 = v := ⟨_, rfl⟩
        rw [hv] at xx
        clear hv
        have HO := Lib.hid (And.intro hO hg)
        have HLF := Lib.hid hlf
        clear hO hg hlf hu
        go_wp2
        go_roundw
        case rel => exact ⟨q + 1, lf.set q v, by go_num, by omega, by rw [List.length_set]; exact HLF.out, HO.out.1.set_ q v, HO.out.2.trans (grownBy_setCell wr gb q _)⟩
        case measure => simp [RowKit.intOf]; omega
      · obtain rfl : m = q := by omega
        have hne : ∀ k, k < gb → some k ≠ some gb := fun k hk q => by injection q with q; omega
        have hx1 := hx1W.grown hg (hne g1 hg1b)
        have hx3 := hx3W.grown hg (hne g3 hg3b)
        have hy := hyW.grown hg (fun q => by injection q with q; omega)
        have hBr := below_grown hBB hg hBB.size hwgb
        have h3r := below_grown H3W.out hg H3W.out.size H3B.out
        have HAX := Lib.hid (HX3.out.below h3r)
        have HAI := Lib.hid (HI3.out.below h3r)
        have HAY := Lib.hid ((hlW.kept hg hgb6).at_ hft)
        clear hx1W hx3W hyW hBB h3r hO hg hne
        go_wp2_with (first | (refine wpl_load_row rfl _ (.tmp 1) rfl g1 (by go_simp) _ #[.int .i64 s.kind, .int .u64 (s.lsn : Int), .int .u32 (s.epoch : Int), .int .u64 (s.txn : Int), .int .u32 (s.page : Int), .int .u16 (s.off : Int), .slice y.oA y.on y.oc, .slice y.nA y.nn y.nc, .slice y.uA y.un y.uc, .int .u64 (s.prev : Int), .int .u64 (s.next : Int), .bool s.clr, .int .u64 (s.stamp : Int), .slice y.pA y.pn y.pc, .slice y.dA y.dn y.dc] (0, 0) _ hx1 Try.underlying31 rfl (by kernel_rfl) ?_) | (refine wpl_load_row rfl _ (.tmp 7) rfl gy (by go_simp) _ #[.int .i64 s.kind, .int .u64 (s.lsn : Int), .int .u32 (s.epoch : Int), .int .u64 (s.txn : Int), .int .u32 (s.page : Int), .int .u16 (s.off : Int), .slice yr.oA yr.on yr.oc, .slice yr.nA yr.nn yr.nc, .slice yr.uA yr.un yr.uc, .int .u64 (s.prev : Int), .int .u64 (s.next : Int), .bool s.clr, .int .u64 (s.stamp : Int), .slice yr.pA yr.pn yr.pc, .slice yr.dA yr.dn yr.dc] (0, 0) _ hy Try.underlying31 rfl (by kernel_rfl) ?_) | (refine wp_cond_true (by go_simp) ?_) | (refine wp_cond_false (by go_simp) ?_))
        refine (rsame_any s s y yr wr HAX.out HAY.out).mono ?_
        rintro e Va ⟨r, rfl, HR1, hba⟩
        obtain rfl : r = true := HR1.out.2 rfl
        have hx1a := hx1.below hba hx1.lt
        have hx3a := hx3.below hba hx3.lt
        have hBa := below_step hBr hba (Nat.le_refl _)
        have HAXb := Lib.hid (HAX.out.below hba)
        have HAIb := Lib.hid (HAI.out.below hba)
        clear hx1 hx3 hy hBr hba HR1
        go_wp2_with (first | (refine wpl_load_row rfl _ (.tmp 1) rfl g1 (by go_simp) _ #[.int .i64 s.kind, .int .u64 (s.lsn : Int), .int .u32 (s.epoch : Int), .int .u64 (s.txn : Int), .int .u32 (s.page : Int), .int .u16 (s.off : Int), .slice y.oA y.on y.oc, .slice y.nA y.nn y.nc, .slice y.uA y.un y.uc, .int .u64 (s.prev : Int), .int .u64 (s.next : Int), .bool s.clr, .int .u64 (s.stamp : Int), .slice y.pA y.pn y.pc, .slice y.dA y.dn y.dc] (0, 0) _ hx1a Try.underlying31 rfl (by kernel_rfl) ?_) | (refine wpl_load_row rfl _ (.tmp 3) rfl g3 (by go_simp) _ #[.int .i64 s.kind, .int .u64 (s.lsn : Int), .int .u32 (s.epoch : Int), .int .u64 (s.txn : Int), .int .u32 (s.page : Int), .int .u16 (s.off : Int), .slice zc.oA zc.on zc.oc, .slice zc.nA zc.nn zc.nc, .slice zc.uA zc.un zc.uc, .int .u64 (s.prev : Int), .int .u64 (s.next : Int), .bool s.clr, .int .u64 (s.stamp : Int), .slice zc.pA zc.pn zc.pc, .slice zc.dA zc.dn zc.dc] (0, 0) _ hx3a Try.underlying31 rfl (by kernel_rfl) ?_) | (refine wp_cond_true (by go_simp) ?_) | (refine wp_cond_false (by go_simp) ?_))
        refine (rsame_any s s zc y Va HAIb.out HAXb.out).mono ?_
        rintro e Vb ⟨r, rfl, HR1, hbb⟩
        obtain rfl : r = true := HR1.out.2 rfl
        have hBb := below_step hBa hbb (Nat.le_refl _)
        clear hx1a hx3a hBa hbb HR1
        go_wp2_with fail
        refine (known09_any _).mono ?_
        rintro e wz ⟨rfl, hbz⟩
        go_wp2
        go_ret
        exact ⟨rfl, below_step hBb hbz (Nat.le_refl _)⟩
end Go.Proofs.Ytpgmhjjdnanlgaa
/-! part -/
namespace Go.Proofs.Ytpgmhjjdnanlgaa.logrecBytes
open Go.ChangeShapes Go.WideShapes Go.ChangeAt Go.RowKit
set_option linter.unusedVariables false
set_option maxRecDepth 100000 in
theorem lifted (os : Os) (started : os.Started) (H : Type) (enc : TypeId × Value → H) :
    ReturnsInHanded {} Try.checked os 4 .any (Rows.logrecBytesSpec.pre6 enc Try.prog Try.f4 Rows.logrecBytesRow.domain false) (Rows.logrecBytesSpec.post enc Try.prog Try.f4 false true false false) := by
  refine returnsInHanded_of_change_sized (C := Try.checked) own started (by kernel_rfl) Try.func4
    (ChangeSpec.witness6 (enc := enc) (C := Try.checked) false ⟨#[], #[.agg #[.int .i64 0, .int .u64 0, .int .u32 0, .int .u64 0, .int .u32 0, .int .u16 0, .slice none 0 0, .slice none 0 0, .slice none 0 0, .int .u64 0, .int .u64 0, .bool false, .int .u64 0, .slice none 0 0, .slice none 0 0]], []⟩ 8 (by kernel_rfl) (by kernel_rfl) (by kernel_rfl) (by kernel_rfl)) ?_
  intro W base args ds gs before hval0 hW _ hsz0 _
  have hsz : (DataW.weightsEach Try.prog (Try.f4.params.toList ++ Rows.logrecBytesSpec.plain.varTypes Try.prog) (ds ++ gs)).all (· ≤ reachBytes) = true := hsz0
  clear hsz0
  have hval : ∀ (j : Nat) t v, Try.f4.params[j]? = some t → args[j]? = some v → Value.okWide Try.prog W .any base t v := hval0
  have hW' := hW
  obtain ⟨p, q, hA0, hV, rfl, hfz, hnd⟩ := hW
  have hA : DataW.TrodAll enc Try.prog W 0 (fun _ => true) true Try.f4.params.toList args.toList ds p := hA0
  rw [Try.params4] at hA hval hsz
  obtain ⟨v0, vs0, d0, ds0, p0, q0, hargs, rfl, rfl, h0, r_0⟩ := trodAll_cons hA
  obtain ⟨rfl, rfl, rfl⟩ := trodAll_nil r_0
  obtain rfl : args = #[v0] := by cases args; simp_all
  obtain ⟨rfl, rfl⟩ := trodVars_none hV
  have k0 := h0
  have lt0 : ∀ x ∈ p0, x.block < W.heap.size := by obtain ⟨m, hm⟩ := k0; exact DataW.trod_lt m _ _ _ hm
  obtain ⟨s0, y0, rfl, a0⟩ := read_rec (hval 0 31 v0 rfl rfl) h0
  clear hA0 hval0
  refine (logrecBytes_walk s0 y0 W a0).mono fun e W' ⟨he, bel⟩ => ?_
  subst he
  exact ⟨_, rfl, _, _, _, [], _, [], hW', trodAll_mk1 (shut_bool Try.underlying4 _), (trodAll_cons_mk (Below.trod laidOut (by kernel_rfl) (of_decide_eq_true (by kernel_rfl)) k0 bel lt0) trodAll_mk0), rfl, bel.frame _, fun h => by cases h⟩

theorem over : Rows.logrecBytesRow.holds Try.pinned (OpenSpec.ofChange Rows.logrecBytesSpec) :=
  OpenClaim.holds_of_wide 4 Try.f4 rfl rfl rfl rfl rfl rfl rfl ⟨rfl, rfl, rfl, rfl, rfl⟩ rfl rfl rfl rfl rfl (by kernel_rfl) Try.func4 (by kernel_rfl)
    (of_decide_eq_true (by kernel_rfl)) (by unfold Func.isWrapper; rw [if_neg (of_decide_eq_false (by kernel_rfl))]; exact ⟨rfl, rfl⟩)
    (fun os started H enc _ => lifted os started H enc)

/-- The statement. -/
theorem proved : Rows.LogrecBytesSaid := over
#print axioms proved
end Go.Proofs.Ytpgmhjjdnanlgaa.logrecBytes
