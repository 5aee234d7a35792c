/-
  LogrecOnce: for every input the law returns true, and each argument reads afterwards as it read before.
  Conditions: those of the given statement (the form's own reach).
-/
import Derived.Test.YtpgmhjjdnanlgaaFrame2
import Derived.Test.YtpgmhjjdnanlgaaLogW1
import Derived.Test.YtpgmhjjdnanlgaaLogR1
import Derived.Test.YtpgmhjjdnanlgaaLogS3
import Derived.Test.YtpgmhjjdnanlgaaLogD2
import Derived.Test.YtpgmhjjdnanlgaaLogF2
import Derived.Test.YtpgmhjjdnanlgaaFrame
/-! part -/
namespace Go.Proofs.Ytpgmhjjdnanlgaa
open Go.ChangeShapes Go.WideShapes Go.ChangeAt Go.RowKit Go.Deep
set_option linter.unusedVariables false
section
variable {H : Type} {enc : TypeId × Value → H} {w : World}
theorem rdl_u8 (fuel : Nat) (cs : List Value) (y : DataW H × List MemPlace) (h : DataW.trod enc Try.prog w 0 (fun _ => true) true fuel 5 cs = some y) : ∃ s : UInt8, cs = [B s] := by
  obtain ⟨a, i, _, w0⟩ := DataW.trod_int Try.underlying5 h
  have g1 : 0 ≤ a ∧ a ≤ 255 := by simpa [Lit.wf, IntKind.min, IntKind.max, IntKind.signed, IntKind.bits] using w0
  refine ⟨UInt8.ofNat a.toNat, ?_⟩
  rw [i]
  unfold B
  congr 2
  rw [UInt8.toNat_ofNat']
  omega
theorem bsl_flat (xs : List UInt8) : xs.flatMap (fun u => [B u]) = bs xs := by
  induction xs with
  | nil => rfl
  | cons a l ih => rw [List.flatMap_cons, ih]; rfl
abbrev ChS := { c : Nat × Nat × Nat // c.1 < 18446744073709551616 ∧ c.2.1 < 18446744073709551616 ∧ c.2.2 < 18446744073709551616 }
abbrev DtS := { d : Nat × Nat // d.1 < 4294967296 ∧ d.2 < 18446744073709551616 }
theorem chS_flat (xs : List ChS) : xs.flatMap (fun s : ChS => chC s.1) = (xs.map (·.1)).flatMap chC := by
  induction xs with
  | nil => rfl
  | cons a l ih => rw [List.flatMap_cons, ih, List.map_cons, List.flatMap_cons]
theorem dtS_flat (xs : List DtS) : xs.flatMap (fun s : DtS => dtC s.1) = (xs.map (·.1)).flatMap dtC := by
  induction xs with
  | nil => rfl
  | cons a l ih => rw [List.flatMap_cons, ih, List.map_cons, List.flatMap_cons]
theorem i64_nat2 {a : Int} {k : IntKind} {n : Nat} (h : 0 ≤ a ∧ a < n) : ∃ m : Nat, a = (m : Int) ∧ m < n := ⟨a.toNat, by omega, by omega⟩
theorem rdl_u64 {cs : List Value} {fuel : Nat} {y : DataW H × List MemPlace} (h : DataW.trod enc Try.prog w 0 (fun _ => true) true fuel 25 cs = some y) : ∃ m : Nat, cs = [.int .u64 (m : Int)] ∧ m < 18446744073709551616 := by
  obtain ⟨a, i, _, w0⟩ := DataW.trod_int Try.underlying25 h
  have g : 0 ≤ a ∧ a ≤ 18446744073709551615 := by simpa [Lit.wf, IntKind.min, IntKind.max, IntKind.signed, IntKind.bits] using w0
  exact ⟨a.toNat, by rw [i, Int.toNat_of_nonneg g.1], by omega⟩
theorem rdl_u32 {cs : List Value} {fuel : Nat} {y : DataW H × List MemPlace} (h : DataW.trod enc Try.prog w 0 (fun _ => true) true fuel 26 cs = some y) : ∃ m : Nat, cs = [.int .u32 (m : Int)] ∧ m < 4294967296 := by
  obtain ⟨a, i, _, w0⟩ := DataW.trod_int Try.underlying26 h
  have g : 0 ≤ a ∧ a ≤ 4294967295 := by simpa [Lit.wf, IntKind.min, IntKind.max, IntKind.signed, IntKind.bits] using w0
  exact ⟨a.toNat, by rw [i, Int.toNat_of_nonneg g.1], by omega⟩
theorem rdl_u16 {cs : List Value} {fuel : Nat} {y : DataW H × List MemPlace} (h : DataW.trod enc Try.prog w 0 (fun _ => true) true fuel 27 cs = some y) : ∃ m : Nat, cs = [.int .u16 (m : Int)] ∧ m < 65536 := by
  obtain ⟨a, i, _, w0⟩ := DataW.trod_int Try.underlying27 h
  have g : 0 ≤ a ∧ a ≤ 65535 := by simpa [Lit.wf, IntKind.min, IntKind.max, IntKind.signed, IntKind.bits] using w0
  exact ⟨a.toNat, by rw [i, Int.toNat_of_nonneg g.1], by omega⟩
theorem rdl_ch (fuel : Nat) (cs : List Value) (y : DataW H × List MemPlace) (h : DataW.trod enc Try.prog w 0 (fun _ => true) true fuel 54 cs = some y) : ∃ s : ChS, cs = chC s.1 := by
  obtain ⟨hl, n, hf⟩ := read_struct Try.underlying54 (by kernel_rfl) (by kernel_rfl) h
  obtain ⟨v0, z0, e0, h0⟩ := hf 0 _ rfl
  obtain ⟨v1, z1, e1, h1⟩ := hf 1 _ rfl
  obtain ⟨v2, z2, e2, h2⟩ := hf 2 _ rfl
  obtain ⟨k0, i0, b0⟩ := rdl_u64 h0
  obtain ⟨k1, i1, b1⟩ := rdl_u64 h1
  obtain ⟨k2, i2, b2⟩ := rdl_u64 h2
  simp only [List.cons.injEq, and_true] at i0 i1 i2
  subst i0 i1 i2
  match cs, hl with
  | [x0, x1, x2], _ =>
    simp at e0 e1 e2
    subst e0 e1 e2
    exact ⟨⟨(k0, k1, k2), b0, b1, b2⟩, rfl⟩
theorem rdl_dt (fuel : Nat) (cs : List Value) (y : DataW H × List MemPlace) (h : DataW.trod enc Try.prog w 0 (fun _ => true) true fuel 56 cs = some y) : ∃ s : DtS, cs = dtC s.1 := by
  obtain ⟨hl, n, hf⟩ := read_struct Try.underlying56 (by kernel_rfl) (by kernel_rfl) h
  obtain ⟨v0, z0, e0, h0⟩ := hf 0 _ rfl
  obtain ⟨v1, z1, e1, h1⟩ := hf 1 _ rfl
  obtain ⟨k0, i0, b0⟩ := rdl_u32 h0
  obtain ⟨k1, i1, b1⟩ := rdl_u64 h1
  simp only [List.cons.injEq, and_true] at i0 i1
  subst i0 i1
  match cs, hl with
  | [x0, x1], _ =>
    simp at e0 e1
    subst e0 e1
    exact ⟨⟨(k0, k1), b0, b1⟩, rfl⟩
theorem rdl_bytes {fuel : Nat} {cs : List Value} {y : DataW H × List MemPlace} (h : DataW.trod enc Try.prog w 0 (fun _ => true) true fuel 22 cs = some y) : ∃ (A : Option Addr) (c : Nat) (l : List UInt8), cs = [.slice A l.length c] ∧ Row w A (bs l) ∧ l.length ≤ c ∧ c ≤ maxLen := by
  obtain ⟨A, c, l, i, hr, hlc, hm, _⟩ := read_slice (cells := fun u => [B u]) (size := 1) (fun _ => rfl) (by omega) Try.underlying22 (by kernel_rfl) rdl_u8 h
  rw [bsl_flat] at hr
  exact ⟨A, c, l, i, hr, hlc, hm⟩
set_option maxRecDepth 100000 in
set_option maxHeartbeats 4000000 in
theorem rd_rec (fuel : Nat) (cs : List Value) (q : DataW H × List MemPlace) (h : DataW.trod enc Try.prog w 0 (fun _ => true) true fuel 31 cs = some q) : ∃ (s : Lrec) (y : Lsl), cs = (#[.int .i64 s.kind, .int .u64 (s.lsn : Int), .int .u32 (s.epoch : Int), .int .u64 (s.txn : Int), .int .u32 (s.page : Int), .int .u16 (s.off : Int), .slice y.oA y.on y.oc, .slice y.nA y.nn y.nc, .slice y.uA y.un y.uc, .int .u64 (s.prev : Int), .int .u64 (s.next : Int), .bool s.clr, .int .u64 (s.stamp : Int), .slice y.pA y.pn y.pc, .slice y.dA y.dn y.dc] : Array Value).toList ∧ LogAt w y s := by
  obtain ⟨hl, n, hf⟩ := read_struct Try.underlying31 (by kernel_rfl) (by kernel_rfl) h
  obtain ⟨v0, z0, e0, h0⟩ := hf 0 _ rfl
  obtain ⟨v1, z1, e1, h1⟩ := hf 1 _ rfl
  obtain ⟨v2, z2, e2, h2⟩ := hf 2 _ rfl
  obtain ⟨v3, z3, e3, h3⟩ := hf 3 _ rfl
  obtain ⟨v4, z4, e4, h4⟩ := hf 4 _ rfl
  obtain ⟨v5, z5, e5, h5⟩ := hf 5 _ rfl
  obtain ⟨v6, z6, e6, h6⟩ := hf 6 _ rfl
  obtain ⟨v7, z7, e7, h7⟩ := hf 7 _ rfl
  obtain ⟨v8, z8, e8, h8⟩ := hf 8 _ rfl
  obtain ⟨v9, z9, e9, h9⟩ := hf 9 _ rfl
  obtain ⟨v10, z10, e10, h10⟩ := hf 10 _ rfl
  obtain ⟨v11, z11, e11, h11⟩ := hf 11 _ rfl
  obtain ⟨v12, z12, e12, h12⟩ := hf 12 _ rfl
  obtain ⟨v13, z13, e13, h13⟩ := hf 13 _ rfl
  obtain ⟨v14, z14, e14, h14⟩ := hf 14 _ rfl
  obtain ⟨k0, i0, _, _⟩ := DataW.trod_int Try.underlying24 h0
  obtain ⟨k1, i1, b1⟩ := rdl_u64 h1
  obtain ⟨k2, i2, b2⟩ := rdl_u32 h2
  obtain ⟨k3, i3, b3⟩ := rdl_u64 h3
  obtain ⟨k4, i4, b4⟩ := rdl_u32 h4
  obtain ⟨k5, i5, b5⟩ := rdl_u16 h5
  obtain ⟨A6, c6, l6, i6, r6, lc6, m6⟩ := rdl_bytes h6
  obtain ⟨A7, c7, l7, i7, r7, lc7, m7⟩ := rdl_bytes h7
  obtain ⟨A8, c8, l8, i8, r8, lc8, m8⟩ := rdl_bytes h8
  obtain ⟨k9, i9, b9⟩ := rdl_u64 h9
  obtain ⟨k10, i10, b10⟩ := rdl_u64 h10
  obtain ⟨k11, i11, _⟩ := DataW.trod_bool Try.underlying4 h11
  obtain ⟨k12, i12, b12⟩ := rdl_u64 h12
  obtain ⟨A13, c13, l13, i13, r13, lc13, m13, _⟩ := read_slice (cells := fun s : ChS => chC s.1) (size := 3) (fun _ => rfl) (by omega) Try.underlying28 (by kernel_rfl) rdl_ch h13
  obtain ⟨A14, c14, l14, i14, r14, lc14, m14, _⟩ := read_slice (cells := fun s : DtS => dtC s.1) (size := 2) (fun _ => rfl) (by omega) Try.underlying29 (by kernel_rfl) rdl_dt h14
  rw [chS_flat] at r13
  rw [dtS_flat] at r14
  simp only [List.cons.injEq, and_true] at i0 i1 i2 i3 i4 i5 i6 i7 i8 i9 i10 i11 i12 i13 i14
  subst i0 i1 i2 i3 i4 i5 i6 i7 i8 i9 i10 i11 i12 i13 i14
  match cs, hl with
  | [x0, x1, x2, x3, x4, x5, x6, x7, x8, x9, x10, x11, x12, x13, x14], _ =>
    simp only [List.getElem?_cons_zero, List.getElem?_cons_succ, Option.some.injEq] at e0 e1 e2 e3 e4 e5 e6 e7 e8 e9 e10 e11 e12 e13 e14
    subst e0 e1 e2 e3 e4 e5 e6 e7 e8 e9 e10 e11 e12 e13 e14
    refine ⟨⟨k0, k1, k2, k3, k4, k5, l6, l7, l8, k9, k10, k11, k12, l13.map (·.1), l14.map (·.1)⟩, ⟨A6, l6.length, c6, A7, l7.length, c7, A8, l8.length, c8, A13, l13.length, c13, A14, l14.length, c14⟩, rfl,
      ⟨r6, r7, r8, r13, r14, rfl, rfl, rfl, List.length_map _, List.length_map _, ⟨lc6, m6⟩, ⟨lc7, m7⟩, ⟨lc8, m8⟩, ⟨lc13, m13⟩, ⟨lc14, m14⟩, ⟨b1, b2, b3, b4, b5, b9, b10, b12, ?_, ?_⟩⟩⟩
    · intro c hc
      obtain ⟨x, _, rfl⟩ := List.mem_map.1 hc
      exact x.2
    · intro c hc
      obtain ⟨x, _, rfl⟩ := List.mem_map.1 hc
      exact x.2
set_option maxRecDepth 100000 in
theorem read_rec {r : Reach} {b0 : Nat} {v : Value} {d : DataW H} {p : List MemPlace} (hv : Value.okWide Try.prog w r b0 31 v) (h : DataW.Trod enc Try.prog w 0 (fun _ => true) true 31 v d p) :
    ∃ (s : Lrec) (y : Lsl), v = .agg #[.int .i64 s.kind, .int .u64 (s.lsn : Int), .int .u32 (s.epoch : Int), .int .u64 (s.txn : Int), .int .u32 (s.page : Int), .int .u16 (s.off : Int), .slice y.oA y.on y.oc, .slice y.nA y.nn y.nc, .slice y.uA y.un y.uc, .int .u64 (s.prev : Int), .int .u64 (s.next : Int), .bool s.clr, .int .u64 (s.stamp : Int), .slice y.pA y.pn y.pc, .slice y.dA y.dn y.dc] ∧ LogAt w y s := by
  obtain ⟨cs, rfl, _⟩ := okWide_struct Try.underlying31 hv
  obtain ⟨fuel, hf⟩ := h
  obtain ⟨s, y, e, h1⟩ := rd_rec fuel _ _ hf
  have e' : cs.toList = (#[.int .i64 s.kind, .int .u64 (s.lsn : Int), .int .u32 (s.epoch : Int), .int .u64 (s.txn : Int), .int .u32 (s.page : Int), .int .u16 (s.off : Int), .slice y.oA y.on y.oc, .slice y.nA y.nn y.nc, .slice y.uA y.un y.uc, .int .u64 (s.prev : Int), .int .u64 (s.next : Int), .bool s.clr, .int .u64 (s.stamp : Int), .slice y.pA y.pn y.pc, .slice y.dA y.dn y.dc] : Array Value).toList := by simpa [Value.cells] using e
  refine ⟨s, y, ?_, h1⟩
  congr 1
  exact Array.ext' e'
end
end Go.Proofs.Ytpgmhjjdnanlgaa
/-! part -/
namespace Go.Proofs.Ytpgmhjjdnanlgaa
open Go.RowKit Go.Sort Go.Lib
set_option linter.unusedVariables false
set_option linter.unusedSimpArgs false
namespace LogM
def x0 : Lrec := ⟨4, 128, 0, 7, 0, 0, [], [], [], 0, 0, false, 0, [], []⟩
theorem x0_may : May x0 := by decide
theorem x0_fit : Fit x0 := ⟨by decide, by decide, by decide, by decide, by decide, by decide, by decide, by decide, nofun, nofun⟩
theorem x0_len : (form x0).length = 27 := by rw [form_length]; simp [tail, x0, CodeM.fx_length]
theorem x0_read : readI (form x0) = some (x0, 27) := by
  have := readI_form x0_may x0_fit []
  rwa [List.append_nil, x0_len] at this
end LogM
set_option maxRecDepth 100000 in
set_option maxHeartbeats 8000000 in
theorem known09_any (w : World) : Calls Try.prog 8 #[] w fun e w' => e = .returned (.bool true) ∧ Below w.heap.size w w' := by
  have HAT : Hid (∀ w', LogAt w' Lsl.z LogM.x0) := Lib.hid fun w' => (⟨Own.nil_ _ _, Own.nil_ _ _, Own.nil_ _ _, World.ownsRow_nil _ _ _ _, World.ownsRow_nil _ _ _ _, rfl, rfl, rfl, rfl, rfl⟩ : Lown w' 0 Lsl.z LogM.x0).at_ LogM.x0_fit
  go_enter Try.func8, Try.ntmps8
  have hx := Blk.new w 31 #[.int .i64 4, .int .u64 128, .int .u32 0, .int .u64 7, .int .u32 0, .int .u16 0, .slice none 0 0, .slice none 0 0, .slice none 0 0, .int .u64 0, .int .u64 0, .bool false, .int .u64 0, .slice none 0 0, .slice none 0 0]
  have hb : Below w.heap.size w (w.alloc (.cells #[.int .i64 4, .int .u64 128, .int .u32 0, .int .u64 7, .int .u32 0, .int .u16 0, .slice none 0 0, .slice none 0 0, .slice none 0 0, .int .u64 0, .int .u64 0, .bool false, .int .u64 0, .slice none 0 0, .slice none 0 0] 31)) := (Below.refl w.heap.size w).alloc (Nat.le_refl _) _
  go_upto_region 2 with fail
  generalize w.alloc (.cells #[.int .i64 4, .int .u64 128, .int .u32 0, .int .u64 7, .int .u32 0, .int .u16 0, .slice none 0 0, .slice none 0 0, .slice none 0 0, .int .u64 0, .int .u64 0, .bool false, .int .u64 0, .slice none 0 0, .slice none 0 0] 31) = V0 at *
  obtain ⟨g, hg⟩ : ∃ g, w.heap.size = g := ⟨_, rfl⟩
  rw [hg] at hx
  simp only [hg]
  have HG := Lib.hid hg
  clear hg
  go_wp2_with (refine wpl_load_row rfl _ (.tmp 1) rfl g (by go_simp) _ #[.int .i64 LogM.x0.kind, .int .u64 (LogM.x0.lsn : Int), .int .u32 (LogM.x0.epoch : Int), .int .u64 (LogM.x0.txn : Int), .int .u32 (LogM.x0.page : Int), .int .u16 (LogM.x0.off : Int), .slice Lsl.z.oA Lsl.z.on Lsl.z.oc, .slice Lsl.z.nA Lsl.z.nn Lsl.z.nc, .slice Lsl.z.uA Lsl.z.un Lsl.z.uc, .int .u64 (LogM.x0.prev : Int), .int .u64 (LogM.x0.next : Int), .bool LogM.x0.clr, .int .u64 (LogM.x0.stamp : Int), .slice Lsl.z.pA Lsl.z.pn Lsl.z.pc, .slice Lsl.z.dA Lsl.z.dn Lsl.z.dc] (0, 0) _ hx Try.underlying31 rfl (by kernel_rfl) ?_)
  go_wp2_with fail
  refine (bytes_any LogM.x0 Lsl.z V0 (HAT.out _)).mono ?_
  rintro e V1 (⟨_, A, n, c, rfl, hn, hO, hb1⟩ | ⟨hm, _, _⟩)
  rotate_left
  · exact absurd LogM.x0_may hm
  obtain rfl : 27 = n := by rw [← hn.out, LogM.x0_len]
  have hx1 := hx.below hb1 hx.lt
  have hB1 := below_step hb hb1 (Nat.le_refl _)
  have hle := hO.le
  rw [LogM.x0_len] at hle
  have hrd := read_any A 27 c (LogM.form LogM.x0) V1 hO.row LogM.x0_len hle.1 hle.2 (by omega)
  rw [LogM.x0_read] at hrd
  have HRD := Lib.hid hrd
  clear hrd hx hb hb1 hO hle hn
  go_wp2_with fail
  refine HRD.out.mono ?_
  rintro e V2 ⟨y, rfl, hl, hft, hb2⟩
  have hx2 := hx1.below hb2 hx1.lt
  have hB2 := below_step hB1 hb2 (Nat.le_refl _)
  have hy3 := Blk.new V2 31 #[.int .i64 LogM.x0.kind, .int .u64 (LogM.x0.lsn : Int), .int .u32 (LogM.x0.epoch : Int), .int .u64 (LogM.x0.txn : Int), .int .u32 (LogM.x0.page : Int), .int .u16 (LogM.x0.off : Int), .slice y.oA y.on y.oc, .slice y.nA y.nn y.nc, .slice y.uA y.un y.uc, .int .u64 (LogM.x0.prev : Int), .int .u64 (LogM.x0.next : Int), .bool LogM.x0.clr, .int .u64 (LogM.x0.stamp : Int), .slice y.pA y.pn y.pc, .slice y.dA y.dn y.dc]
  have hb3 : Below V2.heap.size V2 (V2.alloc (.cells #[.int .i64 LogM.x0.kind, .int .u64 (LogM.x0.lsn : Int), .int .u32 (LogM.x0.epoch : Int), .int .u64 (LogM.x0.txn : Int), .int .u32 (LogM.x0.page : Int), .int .u16 (LogM.x0.off : Int), .slice y.oA y.on y.oc, .slice y.nA y.nn y.nc, .slice y.uA y.un y.uc, .int .u64 (LogM.x0.prev : Int), .int .u64 (LogM.x0.next : Int), .bool LogM.x0.clr, .int .u64 (LogM.x0.stamp : Int), .slice y.pA y.pn y.pc, .slice y.dA y.dn y.dc] 31)) := (Below.refl _ _).alloc (Nat.le_refl _) _
  have hx3 := hx2.below hb3 hx2.lt
  have hB3 := below_step hB2 hb3 (Nat.le_refl _)
  have hat3 := (hl.below hb3).at_ hft
  go_upto_region 4 with fail
  generalize V2.alloc (.cells #[.int .i64 LogM.x0.kind, .int .u64 (LogM.x0.lsn : Int), .int .u32 (LogM.x0.epoch : Int), .int .u64 (LogM.x0.txn : Int), .int .u32 (LogM.x0.page : Int), .int .u16 (LogM.x0.off : Int), .slice y.oA y.on y.oc, .slice y.nA y.nn y.nc, .slice y.uA y.un y.uc, .int .u64 (LogM.x0.prev : Int), .int .u64 (LogM.x0.next : Int), .bool LogM.x0.clr, .int .u64 (LogM.x0.stamp : Int), .slice y.pA y.pn y.pc, .slice y.dA y.dn y.dc] 31) = V3 at *
  obtain ⟨gy, hgy⟩ : ∃ gy, V2.heap.size = gy := ⟨_, rfl⟩
  rw [hgy] at hy3
  simp only [hgy]
  clear hgy hx2 hB2 hb2 hb3 hl hft hx1 hB1 HRD
  have HA3 := Lib.hid hat3
  have HB3 := Lib.hid hB3
  clear hat3 hB3
  go_wp2_with (first | refine wpl_load_row rfl _ (.tmp 1) rfl g (by go_simp) _ #[.int .i64 LogM.x0.kind, .int .u64 (LogM.x0.lsn : Int), .int .u32 (LogM.x0.epoch : Int), .int .u64 (LogM.x0.txn : Int), .int .u32 (LogM.x0.page : Int), .int .u16 (LogM.x0.off : Int), .slice Lsl.z.oA Lsl.z.on Lsl.z.oc, .slice Lsl.z.nA Lsl.z.nn Lsl.z.nc, .slice Lsl.z.uA Lsl.z.un Lsl.z.uc, .int .u64 (LogM.x0.prev : Int), .int .u64 (LogM.x0.next : Int), .bool LogM.x0.clr, .int .u64 (LogM.x0.stamp : Int), .slice Lsl.z.pA Lsl.z.pn Lsl.z.pc, .slice Lsl.z.dA Lsl.z.dn Lsl.z.dc] (0, 0) _ hx3 Try.underlying31 rfl (by kernel_rfl) ?_ | refine wpl_load_row rfl _ (.tmp 4) rfl gy (by go_simp) _ #[.int .i64 LogM.x0.kind, .int .u64 (LogM.x0.lsn : Int), .int .u32 (LogM.x0.epoch : Int), .int .u64 (LogM.x0.txn : Int), .int .u32 (LogM.x0.page : Int), .int .u16 (LogM.x0.off : Int), .slice y.oA y.on y.oc, .slice y.nA y.nn y.nc, .slice y.uA y.un y.uc, .int .u64 (LogM.x0.prev : Int), .int .u64 (LogM.x0.next : Int), .bool LogM.x0.clr, .int .u64 (LogM.x0.stamp : Int), .slice y.pA y.pn y.pc, .slice y.dA y.dn y.dc] (0, 0) _ hy3 Try.underlying31 rfl (by kernel_rfl) ?_)
  refine (rsame_any LogM.x0 LogM.x0 Lsl.z y V3 (HAT.out _) HA3.out).mono ?_
  rintro e V4 ⟨r, rfl, HR, hb4⟩
  obtain rfl : r = true := HR.out.2 rfl
  go_wp2
  go_ret
  exact ⟨rfl, below_step HB3.out hb4 (Nat.le_refl _)⟩
end Go.Proofs.Ytpgmhjjdnanlgaa
/-! part -/
namespace Go.Proofs.Ytpgmhjjdnanlgaa
open Go.RowKit Go.Sort Go.Lib
set_option linter.unusedVariables false
set_option linter.unusedSimpArgs false
def loP (fA : Option Addr) (m fc n c : Nat) (s : Lrec) (y : Lsl) (ab ao : Nat) : List (Nat × Nat × Value) := [(0, 34, (.int .i64 0)), (1, 35, (.bool true)), (2, 36, (.bool true)), (3, 37, (.slice fA m fc)), (4, 38, (.int .i64 (m : Int))), (5, 39, (.int .i64 (m : Int))), (6, 40, (.bool true)), (7, 41, (.bool true)), (8, 42, (.bool true)), (9, 43, (.agg #[.int .i64 s.kind, .int .u64 (s.lsn : Int), .int .u32 (s.epoch : Int), .int .u64 (s.txn : Int), .int .u32 (s.page : Int), .int .u16 (s.off : Int), .slice y.oA y.on y.oc, .slice y.nA y.nn y.nc, .slice y.uA y.un y.uc, .int .u64 (s.prev : Int), .int .u64 (s.next : Int), .bool s.clr, .int .u64 (s.stamp : Int), .slice y.pA y.pn y.pc, .slice y.dA y.dn y.dc])), (10, 44, (.int .i64 (m : Int))), (11, 45, (.int .i64 (m : Int))), (12, 46, (.bool true)), (13, 47, (.bool true)), (14, 48, (.bool true)), (15, 49, (.int .i64 (m : Int))), (16, 50, (.slice (some ⟨ab, ao, none⟩) n c)), (17, 51, (.int .i64 (n : Int))), (18, 52, (.bool true)), (19, 53, (.bool true)), (20, 54, (.bool true)), (21, 55, (.slice fA m fc)), (22, 56, (.string (str (LogM.form s)))), (23, 57, (.slice (some ⟨ab, ao, none⟩) n c)), (24, 58, (.int .i64 (m : Int))), (25, 59, (.slice (some ⟨ab, ao, none⟩) m c)), (26, 60, (.string (str (LogM.form s)))), (27, 61, (.bool true)), (28, 62, (.bool true)), (29, 63, (.bool true)), (30, 64, (.bool true)), (31, 65, (.bool true)), (32, 2, (.bool true))]
def loM (fA : Option Addr) (m fc n c : Nat) (s : Lrec) (y : Lsl) (ab ao : Nat) : List Mk := []
def loC : List Cp := []
set_option maxRecDepth 100000 in
set_option maxHeartbeats 16000000 in
theorem logrecOnce_walk (A : Option Addr) (c : Nat) (l : List UInt8) (w : World) (hr : Row w A (bs l)) (hnc : l.length ≤ c) (hcm : c ≤ maxLen) (hmx : l.length ≤ 140737488355328) :
    Calls Try.prog 5 #[.slice A l.length c] w fun e w' => e = .returned (.bool true) ∧ Below w.heap.size w w' := by
  obtain ⟨n, hn⟩ : ∃ n, l.length = n := ⟨_, rfl⟩
  rw [hn] at hnc hmx ⊢
  have HCM := Lib.hid hcm
  have HN := Lib.hid hn
  have hcM := hcm
  unfold maxLen at hcM
  clear hn hcm
  have HRW := Lib.hid hr
  clear hr
  go_enter Try.func5, Try.ntmps5
  by_cases hbig : 5000 < n
  · as_aux_lemma =>
    skip
    go_wp2_with fail
    refine (known09_any _).mono ?_
    rintro e wz ⟨rfl, hbz⟩
    go_wp2
    go_ret
    exact ⟨rfl, hbz⟩
  have HC0 := Lib.hid (read_any A n c l w HRW.out HN.out hnc HCM.out hmx)
  cases hI : LogM.readI l with
  | none =>
    rw [hI] at HC0
    go_wp2_with fail
    refine HC0.out.mono ?_
    rintro e V1 ⟨rfl, hb1⟩
    clear HC0
    have hz := Blk.new V1 31 #[.int .i64 0, .int .u64 0, .int .u32 0, .int .u64 0, .int .u32 0, .int .u16 0, .slice none 0 0, .slice none 0 0, .slice none 0 0, .int .u64 0, .int .u64 0, .bool false, .int .u64 0, .slice none 0 0, .slice none 0 0]
    have hba : Below V1.heap.size V1 (V1.alloc (.cells #[.int .i64 0, .int .u64 0, .int .u32 0, .int .u64 0, .int .u32 0, .int .u16 0, .slice none 0 0, .slice none 0 0, .slice none 0 0, .int .u64 0, .int .u64 0, .bool false, .int .u64 0, .slice none 0 0, .slice none 0 0] 31)) := (Below.refl _ _).alloc (Nat.le_refl _) _
    have hB1 := below_step hb1 hba (Nat.le_refl _)
    go_upto_region 4 with fail
    generalize V1.alloc (.cells #[.int .i64 0, .int .u64 0, .int .u32 0, .int .u64 0, .int .u32 0, .int .u16 0, .slice none 0 0, .slice none 0 0, .slice none 0 0, .int .u64 0, .int .u64 0, .bool false, .int .u64 0, .slice none 0 0, .slice none 0 0] 31) = V2 at *
    clear hba hz hb1
    go_wp2_with fail
    refine (known09_any _).mono ?_
    rintro e wz ⟨rfl, hbz⟩
    go_wp2
    go_ret
    exact ⟨rfl, below_step hB1 hbz (Nat.le_refl _)⟩
  | some p =>
    obtain ⟨s, m⟩ := p
    obtain ⟨hmay, hfit, hform, hm, hml⟩ := LogM.readI_some hI
    rw [hI] at HC0
    have HFT := Lib.hid hfit
    have HMAY := Lib.hid hmay
    have HML : Hid ((LogM.form s).length = m) := Lib.hid hm.symm
    have hmn : m ≤ n := by rw [← HN.out]; exact hml
    have HTK := Lib.hid hform
    clear hfit hmay hm hml hform hI
    go_wp2_with fail
    refine HC0.out.mono ?_
    rintro e V1 ⟨y, rfl, hl1, hft, hb1⟩
    clear HC0
    have hx1 := Blk.new V1 31 #[.int .i64 s.kind, .int .u64 (s.lsn : Int), .int .u32 (s.epoch : Int), .int .u64 (s.txn : Int), .int .u32 (s.page : Int), .int .u16 (s.off : Int), .slice y.oA y.on y.oc, .slice y.nA y.nn y.nc, .slice y.uA y.un y.uc, .int .u64 (s.prev : Int), .int .u64 (s.next : Int), .bool s.clr, .int .u64 (s.stamp : Int), .slice y.pA y.pn y.pc, .slice y.dA y.dn y.dc]
    have hba : Below V1.heap.size V1 (V1.alloc (.cells #[.int .i64 s.kind, .int .u64 (s.lsn : Int), .int .u32 (s.epoch : Int), .int .u64 (s.txn : Int), .int .u32 (s.page : Int), .int .u16 (s.off : Int), .slice y.oA y.on y.oc, .slice y.nA y.nn y.nc, .slice y.uA y.un y.uc, .int .u64 (s.prev : Int), .int .u64 (s.next : Int), .bool s.clr, .int .u64 (s.stamp : Int), .slice y.pA y.pn y.pc, .slice y.dA y.dn y.dc] 31)) := (Below.refl _ _).alloc (Nat.le_refl _) _
    have hB1 := below_step hb1 hba (Nat.le_refl _)
    have hat := (hl1.below hba).at_ hft
    go_upto_region 4 with fail
    generalize V1.alloc (.cells #[.int .i64 s.kind, .int .u64 (s.lsn : Int), .int .u32 (s.epoch : Int), .int .u64 (s.txn : Int), .int .u32 (s.page : Int), .int .u16 (s.off : Int), .slice y.oA y.on y.oc, .slice y.nA y.nn y.nc, .slice y.uA y.un y.uc, .int .u64 (s.prev : Int), .int .u64 (s.next : Int), .bool s.clr, .int .u64 (s.stamp : Int), .slice y.pA y.pn y.pc, .slice y.dA y.dn y.dc] 31) = V2 at *
    obtain ⟨gx, hgx⟩ : ∃ gx, V1.heap.size = gx := ⟨_, rfl⟩
    rw [hgx] at hx1
    simp only [hgx]
    have HAT2 := Lib.hid hat
    clear hgx hba hb1 hl1 hft hat
    clear V1
    go_wp2_with (refine wpl_load_row rfl _ (.tmp 3) rfl gx (by go_simp) _ #[.int .i64 s.kind, .int .u64 (s.lsn : Int), .int .u32 (s.epoch : Int), .int .u64 (s.txn : Int), .int .u32 (s.page : Int), .int .u16 (s.off : Int), .slice y.oA y.on y.oc, .slice y.nA y.nn y.nc, .slice y.uA y.un y.uc, .int .u64 (s.prev : Int), .int .u64 (s.next : Int), .bool s.clr, .int .u64 (s.stamp : Int), .slice y.pA y.pn y.pc, .slice y.dA y.dn y.dc] (0, 0) _ hx1 Try.underlying31 rfl (by kernel_rfl) ?_)
    refine (bytes_any s y V2 HAT2.out).mono ?_
    rintro e V5 (⟨_, fA, fn, fc, rfl, hfn, hfO, hb5⟩ | ⟨hm, _, _⟩)
    rotate_left
    · exact absurd HMAY.out hm
    obtain rfl : m = fn := HML.out.symm.trans hfn.out
    have hx := hx1.below hb5 hx1.lt
    have hB5 := below_step hB1 hb5 (Nat.le_refl _)
    have HAT := Lib.hid (HAT2.out.below hb5)
    have HFR := Lib.hid hfO.row
    have hfle := hfO.le
    rw [hfn.out] at hfle
    have hfm := hfle.2
    unfold maxLen at hfm
    have hn0 : 0 < n := by have h1 := LogM.form_length s; have h2 := hfn.out; omega
    have hr5 : Row V5 A (bs l) := HRW.out.below hB5
    obtain ⟨ab, ao, rfl, _⟩ := hr5.byte (k := 0) (by have := HN.out; omega)
    have HTR : Hid (Row V5 (some ⟨ab, ao, none⟩) (bs (LogM.form s))) := Lib.hid (by rw [HTK.out, bs_take]; exact hr5.take m)
    clear hx1 hb5 hB1 HAT2 hfO hfn hr5 HRW HTK
    clear V2
    go_upto_region 7 with fail
    have hB0 : Below V5.heap.size V5 V5 := Below.refl _ _
    have hbV : V5.heap.size ≤ V5.heap.size := Nat.le_refl _
    have hOb : Own V5 V5.heap.size (⟨none, 0, 0⟩ : Rs).A (⟨none, 0, 0⟩ : Rs).c [] := Own.nil_ _ _
    refine wp_named fun a0 ha0 => ?_
    have z0 : a0.tmps.getD 0 undef = (.slice (some ⟨ab, ao, none⟩) n c) := by rw [ha0.out]; rfl
    have z3 : a0.tmps.getD 3 undef = (.pointer (some ⟨gx, 0, none⟩)) := by rw [ha0.out]; rfl
    have z4 : a0.tmps.getD 4 undef = (.int .i64 (m : Int)) := by rw [ha0.out]; rfl
    have z6 : a0.tmps.getD 6 undef = (.slice fA m fc) := by rw [ha0.out]; rfl
    have z7 : a0.tmps.getD 7 undef = (.int .i64 0) := by rw [ha0.out]; rfl
    have hsz0 : a0.tmps.size = 66 := by rw [ha0.out]; rfl
    refine wp_region_invB _ (by kernel_rfl) (fun L a wv => ∃ R, Ch a0 [34, 35, 36, 37, 38, 39, 40, 41, 42, 43, 44, 45, 46, 47, 48, 49, 50, 51, 52, 53, 54, 55, 56, 57, 58, 59, 60, 61, 62, 63, 64, 65, 2] (loP fA m fc n c s y ab ao) (loM fA m fc n c s y ab ao) loC V5.heap.size V5 V5.heap.size (⟨none, 0, 0⟩ : Rs) ([]) 99 [] 0 999 R L a wv) (by kernel_rfl) ?_ ?_ ?_
    · exact ⟨fun _ => ⟨none, 0, 0⟩, Ch.start hbV ⟨rfl, rfl, rfl, Nat.le_refl _, fun _ _ => rfl⟩ hOb⟩
    rotate_left
    · as_aux_lemma =>
      refine ⟨?_, ?_, ?_, ?_, ?_, ?_, ?_, ?_, ?_, ?_, ?_, ?_, ?_, ?_, ?_, ?_, ?_, ?_, ?_, ?_, ?_, ?_, ?_, ?_, ?_, ?_, ?_, ?_, ?_, ?_, ?_, ?_, ?_, trivial⟩
      · intro L a w1 hI hi hd
        obtain ⟨R, hC⟩ := hI
        have hi : L 0 = false := hi
        have hp := hC.pif
        have t7 := hp.at_ 7 _ rfl z7
        have t7' := t7
        rw [Array.getD_eq_getD_getElem?] at t7'
        exact rstep_valW (wanted_none rfl _) (.int .i64 0) w1 (by go_simp) ⟨R, hC.pure 0 34 (.int .i64 0) (by simp [rows, loP, loM, loC, setR]) (by simp [rows, loP, loM, loC, setR]) (by simp [loM]) (by simp [loC]) rfl (by rw [hsz0]; exact (by decide : 34 < 66)) (by decide) (by simp) (by simp)⟩
      · intro L a w1 hI hi hd
        obtain ⟨R, hC⟩ := hI
        have hi : L 1 = false := hi
        have hp := hC.pif
        simp [Region.binds] at hd
        have e0 : a.tmps.getD 34 undef = (.int .i64 0) := hp.pu (0, 34, (.int .i64 0)) (by simp [rows, loP, loM, loC, setR]) (by simp [hd])
        have f0 : a.tmps[34]?.getD undef = (.int .i64 0) := by rw [← Array.getD_eq_getD_getElem?]; exact e0
        exact rstep_valW (wanted_none rfl _) (.bool true) w1 (by go_simp) ⟨R, hC.pure 1 35 (.bool true) (by simp [rows, loP, loM, loC, setR]) (by simp [rows, loP, loM, loC, setR]) (by simp [loM]) (by simp [loC]) rfl (by rw [hsz0]; exact (by decide : 35 < 66)) (by decide) (by simp) (by simp)⟩
      · intro L a w1 hI hi hd
        obtain ⟨R, hC⟩ := hI
        have hi : L 2 = false := hi
        have hp := hC.pif
        simp [Region.binds] at hd
        have e1 : a.tmps.getD 35 undef = (.bool true) := hp.pu (1, 35, (.bool true)) (by simp [rows, loP, loM, loC, setR]) (by simp [hd])
        have f1 : a.tmps[35]?.getD undef = (.bool true) := by rw [← Array.getD_eq_getD_getElem?]; exact e1
        exact rstep_valW (wanted_none rfl _) (.bool true) w1 (by go_simp) ⟨R, hC.pure 2 36 (.bool true) (by simp [rows, loP, loM, loC, setR]) (by simp [rows, loP, loM, loC, setR]) (by simp [loM]) (by simp [loC]) rfl (by rw [hsz0]; exact (by decide : 36 < 66)) (by decide) (by simp) (by simp)⟩
      · intro L a w1 hI hi hd
        obtain ⟨R, hC⟩ := hI
        have hi : L 3 = false := hi
        have hp := hC.pif
        simp [Region.binds] at hd
        have e2 : a.tmps.getD 36 undef = (.bool true) := hp.pu (2, 36, (.bool true)) (by simp [rows, loP, loM, loC, setR]) (by simp [hd])
        have f2 : a.tmps[36]?.getD undef = (.bool true) := by rw [← Array.getD_eq_getD_getElem?]; exact e2
        have t6 := hp.at_ 6 _ rfl z6
        have t6' := t6
        rw [Array.getD_eq_getD_getElem?] at t6'
        exact rstep_valW (wanted_of 2 36 true rfl rfl e2) (.slice fA m fc) w1 (by go_simp) ⟨R, hC.pure 3 37 (.slice fA m fc) (by simp [rows, loP, loM, loC, setR]) (by simp [rows, loP, loM, loC, setR]) (by simp [loM]) (by simp [loC]) rfl (by rw [hsz0]; exact (by decide : 37 < 66)) (by decide) (by simp) (by simp)⟩
      · intro L a w1 hI hi hd
        obtain ⟨R, hC⟩ := hI
        have hi : L 4 = false := hi
        have hp := hC.pif
        simp [Region.binds] at hd
        have e2 : a.tmps.getD 36 undef = (.bool true) := hp.pu (2, 36, (.bool true)) (by simp [rows, loP, loM, loC, setR]) (by simp [hd])
        have f2 : a.tmps[36]?.getD undef = (.bool true) := by rw [← Array.getD_eq_getD_getElem?]; exact e2
        have e3 : a.tmps.getD 37 undef = (.slice fA m fc) := hp.pu (3, 37, (.slice fA m fc)) (by simp [rows, loP, loM, loC, setR]) (by simp [hd])
        have f3 : a.tmps[37]?.getD undef = (.slice fA m fc) := by rw [← Array.getD_eq_getD_getElem?]; exact e3
        exact rstep_valW (wanted_of 2 36 true rfl rfl e2) (.int .i64 (m : Int)) w1 (by go_simp) ⟨R, hC.pure 4 38 (.int .i64 (m : Int)) (by simp [rows, loP, loM, loC, setR]) (by simp [rows, loP, loM, loC, setR]) (by simp [loM]) (by simp [loC]) rfl (by rw [hsz0]; exact (by decide : 38 < 66)) (by decide) (by simp) (by simp)⟩
      · intro L a w1 hI hi hd
        obtain ⟨R, hC⟩ := hI
        have hi : L 5 = false := hi
        have hp := hC.pif
        simp [Region.binds] at hd
        have e2 : a.tmps.getD 36 undef = (.bool true) := hp.pu (2, 36, (.bool true)) (by simp [rows, loP, loM, loC, setR]) (by simp [hd])
        have f2 : a.tmps[36]?.getD undef = (.bool true) := by rw [← Array.getD_eq_getD_getElem?]; exact e2
        have t4 := hp.at_ 4 _ rfl z4
        have t4' := t4
        rw [Array.getD_eq_getD_getElem?] at t4'
        exact rstep_valW (wanted_of 2 36 true rfl rfl e2) (.int .i64 (m : Int)) w1 (by go_simp) ⟨R, hC.pure 5 39 (.int .i64 (m : Int)) (by simp [rows, loP, loM, loC, setR]) (by simp [rows, loP, loM, loC, setR]) (by simp [loM]) (by simp [loC]) rfl (by rw [hsz0]; exact (by decide : 39 < 66)) (by decide) (by simp) (by simp)⟩
      · intro L a w1 hI hi hd
        obtain ⟨R, hC⟩ := hI
        have hi : L 6 = false := hi
        have hp := hC.pif
        simp [Region.binds] at hd
        have e2 : a.tmps.getD 36 undef = (.bool true) := hp.pu (2, 36, (.bool true)) (by simp [rows, loP, loM, loC, setR]) (by simp [hd])
        have f2 : a.tmps[36]?.getD undef = (.bool true) := by rw [← Array.getD_eq_getD_getElem?]; exact e2
        have e4 : a.tmps.getD 38 undef = (.int .i64 (m : Int)) := hp.pu (4, 38, (.int .i64 (m : Int))) (by simp [rows, loP, loM, loC, setR]) (by simp [hd])
        have f4 : a.tmps[38]?.getD undef = (.int .i64 (m : Int)) := by rw [← Array.getD_eq_getD_getElem?]; exact e4
        have e5 : a.tmps.getD 39 undef = (.int .i64 (m : Int)) := hp.pu (5, 39, (.int .i64 (m : Int))) (by simp [rows, loP, loM, loC, setR]) (by simp [hd])
        have f5 : a.tmps[39]?.getD undef = (.int .i64 (m : Int)) := by rw [← Array.getD_eq_getD_getElem?]; exact e5
        exact rstep_valW (wanted_of 2 36 true rfl rfl e2) (.bool true) w1 (by go_simp) ⟨R, hC.pure 6 40 (.bool true) (by simp [rows, loP, loM, loC, setR]) (by simp [rows, loP, loM, loC, setR]) (by simp [loM]) (by simp [loC]) rfl (by rw [hsz0]; exact (by decide : 40 < 66)) (by decide) (by simp) (by simp)⟩
      · intro L a w1 hI hi hd
        obtain ⟨R, hC⟩ := hI
        have hi : L 7 = false := hi
        have hp := hC.pif
        simp [Region.binds] at hd
        have e2 : a.tmps.getD 36 undef = (.bool true) := hp.pu (2, 36, (.bool true)) (by simp [rows, loP, loM, loC, setR]) (by simp [hd])
        have f2 : a.tmps[36]?.getD undef = (.bool true) := by rw [← Array.getD_eq_getD_getElem?]; exact e2
        have e6 : a.tmps.getD 40 undef = (.bool true) := hp.pu (6, 40, (.bool true)) (by simp [rows, loP, loM, loC, setR]) (by simp [hd])
        have f6 : a.tmps[40]?.getD undef = (.bool true) := by rw [← Array.getD_eq_getD_getElem?]; exact e6
        exact rstep_valW (wanted_none rfl _) (.bool true) w1 (by go_simp) ⟨R, hC.pure 7 41 (.bool true) (by simp [rows, loP, loM, loC, setR]) (by simp [rows, loP, loM, loC, setR]) (by simp [loM]) (by simp [loC]) rfl (by rw [hsz0]; exact (by decide : 41 < 66)) (by decide) (by simp) (by simp)⟩
      · intro L a w1 hI hi hd
        obtain ⟨R, hC⟩ := hI
        have hi : L 8 = false := hi
        have hp := hC.pif
        simp [Region.binds] at hd
        have e7 : a.tmps.getD 41 undef = (.bool true) := hp.pu (7, 41, (.bool true)) (by simp [rows, loP, loM, loC, setR]) (by simp [hd])
        have f7 : a.tmps[41]?.getD undef = (.bool true) := by rw [← Array.getD_eq_getD_getElem?]; exact e7
        exact rstep_valW (wanted_none rfl _) (.bool true) w1 (by go_simp) ⟨R, hC.pure 8 42 (.bool true) (by simp [rows, loP, loM, loC, setR]) (by simp [rows, loP, loM, loC, setR]) (by simp [loM]) (by simp [loC]) rfl (by rw [hsz0]; exact (by decide : 42 < 66)) (by decide) (by simp) (by simp)⟩
      · intro L a w1 hI hi hd
        obtain ⟨R, hC⟩ := hI
        have hi : L 9 = false := hi
        have hp := hC.pif
        simp [Region.binds] at hd
        have e8 : a.tmps.getD 42 undef = (.bool true) := hp.pu (8, 42, (.bool true)) (by simp [rows, loP, loM, loC, setR]) (by simp [hd])
        have f8 : a.tmps[42]?.getD undef = (.bool true) := by rw [← Array.getD_eq_getD_getElem?]; exact e8
        have t3 := hp.at_ 3 _ rfl z3
        have t3' := t3
        rw [Array.getD_eq_getD_getElem?] at t3'
        exact rstep_valW (wanted_of 8 42 true rfl rfl e8) (.agg #[.int .i64 s.kind, .int .u64 (s.lsn : Int), .int .u32 (s.epoch : Int), .int .u64 (s.txn : Int), .int .u32 (s.page : Int), .int .u16 (s.off : Int), .slice y.oA y.on y.oc, .slice y.nA y.nn y.nc, .slice y.uA y.un y.uc, .int .u64 (s.prev : Int), .int .u64 (s.next : Int), .bool s.clr, .int .u64 (s.stamp : Int), .slice y.pA y.pn y.pc, .slice y.dA y.dn y.dc]) w1 (exec_load_row _ (.tmp 3) rfl gx t3 _ _ _ (hx.below (hB0.trans hC.bel) hx.lt) Try.underlying31 rfl (by kernel_rfl)) ⟨R, hC.pure 9 43 (.agg #[.int .i64 s.kind, .int .u64 (s.lsn : Int), .int .u32 (s.epoch : Int), .int .u64 (s.txn : Int), .int .u32 (s.page : Int), .int .u16 (s.off : Int), .slice y.oA y.on y.oc, .slice y.nA y.nn y.nc, .slice y.uA y.un y.uc, .int .u64 (s.prev : Int), .int .u64 (s.next : Int), .bool s.clr, .int .u64 (s.stamp : Int), .slice y.pA y.pn y.pc, .slice y.dA y.dn y.dc]) (by simp [rows, loP, loM, loC, setR]) (by simp [rows, loP, loM, loC, setR]) (by simp [loM]) (by simp [loC]) rfl (by rw [hsz0]; exact (by decide : 43 < 66)) (by decide) (by simp) (by simp)⟩
      · intro L a w1 hI hi hd
        obtain ⟨R, hC⟩ := hI
        have hi : L 10 = false := hi
        have hp := hC.pif
        simp [Region.binds] at hd
        have e8 : a.tmps.getD 42 undef = (.bool true) := hp.pu (8, 42, (.bool true)) (by simp [rows, loP, loM, loC, setR]) (by simp [hd])
        have f8 : a.tmps[42]?.getD undef = (.bool true) := by rw [← Array.getD_eq_getD_getElem?]; exact e8
        have e9 : a.tmps.getD 43 undef = (.agg #[.int .i64 s.kind, .int .u64 (s.lsn : Int), .int .u32 (s.epoch : Int), .int .u64 (s.txn : Int), .int .u32 (s.page : Int), .int .u16 (s.off : Int), .slice y.oA y.on y.oc, .slice y.nA y.nn y.nc, .slice y.uA y.un y.uc, .int .u64 (s.prev : Int), .int .u64 (s.next : Int), .bool s.clr, .int .u64 (s.stamp : Int), .slice y.pA y.pn y.pc, .slice y.dA y.dn y.dc]) := hp.pu (9, 43, (.agg #[.int .i64 s.kind, .int .u64 (s.lsn : Int), .int .u32 (s.epoch : Int), .int .u64 (s.txn : Int), .int .u32 (s.page : Int), .int .u16 (s.off : Int), .slice y.oA y.on y.oc, .slice y.nA y.nn y.nc, .slice y.uA y.un y.uc, .int .u64 (s.prev : Int), .int .u64 (s.next : Int), .bool s.clr, .int .u64 (s.stamp : Int), .slice y.pA y.pn y.pc, .slice y.dA y.dn y.dc])) (by simp [rows, loP, loM, loC, setR]) (by simp [hd])
        have f9 : a.tmps[43]?.getD undef = (.agg #[.int .i64 s.kind, .int .u64 (s.lsn : Int), .int .u32 (s.epoch : Int), .int .u64 (s.txn : Int), .int .u32 (s.page : Int), .int .u16 (s.off : Int), .slice y.oA y.on y.oc, .slice y.nA y.nn y.nc, .slice y.uA y.un y.uc, .int .u64 (s.prev : Int), .int .u64 (s.next : Int), .bool s.clr, .int .u64 (s.stamp : Int), .slice y.pA y.pn y.pc, .slice y.dA y.dn y.dc]) := by rw [← Array.getD_eq_getD_getElem?]; exact e9
        refine rstep_callW (wanted_of 8 42 true rfl rfl e8) 15 #[.agg #[.int .i64 s.kind, .int .u64 (s.lsn : Int), .int .u32 (s.epoch : Int), .int .u64 (s.txn : Int), .int .u32 (s.page : Int), .int .u16 (s.off : Int), .slice y.oA y.on y.oc, .slice y.nA y.nn y.nc, .slice y.uA y.un y.uc, .int .u64 (s.prev : Int), .int .u64 (s.next : Int), .bool s.clr, .int .u64 (s.stamp : Int), .slice y.pA y.pn y.pc, .slice y.dA y.dn y.dc]] (by go_simp) ?_
        refine (size_any s y w1 (HAT.out.below hC.bel)).mono ?_
        rintro e w2 ⟨he, hb⟩
        rw [if_pos HMAY.out, HML.out] at he
        subst he
        exact ⟨R, hC.pureW hb 10 44 (.int .i64 (m : Int)) (by simp [rows, loP, loM, loC, setR]) (by simp [rows, loP, loM, loC, setR]) (by simp [loM]) (by simp [loC]) rfl (by rw [hsz0]; exact (by decide : 44 < 66)) (by decide) (by simp) (by simp)⟩
      · intro L a w1 hI hi hd
        obtain ⟨R, hC⟩ := hI
        have hi : L 11 = false := hi
        have hp := hC.pif
        simp [Region.binds] at hd
        have e8 : a.tmps.getD 42 undef = (.bool true) := hp.pu (8, 42, (.bool true)) (by simp [rows, loP, loM, loC, setR]) (by simp [hd])
        have f8 : a.tmps[42]?.getD undef = (.bool true) := by rw [← Array.getD_eq_getD_getElem?]; exact e8
        have t4 := hp.at_ 4 _ rfl z4
        have t4' := t4
        rw [Array.getD_eq_getD_getElem?] at t4'
        exact rstep_valW (wanted_of 8 42 true rfl rfl e8) (.int .i64 (m : Int)) w1 (by go_simp) ⟨R, hC.pure 11 45 (.int .i64 (m : Int)) (by simp [rows, loP, loM, loC, setR]) (by simp [rows, loP, loM, loC, setR]) (by simp [loM]) (by simp [loC]) rfl (by rw [hsz0]; exact (by decide : 45 < 66)) (by decide) (by simp) (by simp)⟩
      · intro L a w1 hI hi hd
        obtain ⟨R, hC⟩ := hI
        have hi : L 12 = false := hi
        have hp := hC.pif
        simp [Region.binds] at hd
        have e8 : a.tmps.getD 42 undef = (.bool true) := hp.pu (8, 42, (.bool true)) (by simp [rows, loP, loM, loC, setR]) (by simp [hd])
        have f8 : a.tmps[42]?.getD undef = (.bool true) := by rw [← Array.getD_eq_getD_getElem?]; exact e8
        have e10 : a.tmps.getD 44 undef = (.int .i64 (m : Int)) := hp.pu (10, 44, (.int .i64 (m : Int))) (by simp [rows, loP, loM, loC, setR]) (by simp [hd])
        have f10 : a.tmps[44]?.getD undef = (.int .i64 (m : Int)) := by rw [← Array.getD_eq_getD_getElem?]; exact e10
        have e11 : a.tmps.getD 45 undef = (.int .i64 (m : Int)) := hp.pu (11, 45, (.int .i64 (m : Int))) (by simp [rows, loP, loM, loC, setR]) (by simp [hd])
        have f11 : a.tmps[45]?.getD undef = (.int .i64 (m : Int)) := by rw [← Array.getD_eq_getD_getElem?]; exact e11
        exact rstep_valW (wanted_of 8 42 true rfl rfl e8) (.bool true) w1 (by go_simp) ⟨R, hC.pure 12 46 (.bool true) (by simp [rows, loP, loM, loC, setR]) (by simp [rows, loP, loM, loC, setR]) (by simp [loM]) (by simp [loC]) rfl (by rw [hsz0]; exact (by decide : 46 < 66)) (by decide) (by simp) (by simp)⟩
      · intro L a w1 hI hi hd
        obtain ⟨R, hC⟩ := hI
        have hi : L 13 = false := hi
        have hp := hC.pif
        simp [Region.binds] at hd
        have e8 : a.tmps.getD 42 undef = (.bool true) := hp.pu (8, 42, (.bool true)) (by simp [rows, loP, loM, loC, setR]) (by simp [hd])
        have f8 : a.tmps[42]?.getD undef = (.bool true) := by rw [← Array.getD_eq_getD_getElem?]; exact e8
        have e12 : a.tmps.getD 46 undef = (.bool true) := hp.pu (12, 46, (.bool true)) (by simp [rows, loP, loM, loC, setR]) (by simp [hd])
        have f12 : a.tmps[46]?.getD undef = (.bool true) := by rw [← Array.getD_eq_getD_getElem?]; exact e12
        exact rstep_valW (wanted_none rfl _) (.bool true) w1 (by go_simp) ⟨R, hC.pure 13 47 (.bool true) (by simp [rows, loP, loM, loC, setR]) (by simp [rows, loP, loM, loC, setR]) (by simp [loM]) (by simp [loC]) rfl (by rw [hsz0]; exact (by decide : 47 < 66)) (by decide) (by simp) (by simp)⟩
      · intro L a w1 hI hi hd
        obtain ⟨R, hC⟩ := hI
        have hi : L 14 = false := hi
        have hp := hC.pif
        simp [Region.binds] at hd
        have e13 : a.tmps.getD 47 undef = (.bool true) := hp.pu (13, 47, (.bool true)) (by simp [rows, loP, loM, loC, setR]) (by simp [hd])
        have f13 : a.tmps[47]?.getD undef = (.bool true) := by rw [← Array.getD_eq_getD_getElem?]; exact e13
        exact rstep_valW (wanted_none rfl _) (.bool true) w1 (by go_simp) ⟨R, hC.pure 14 48 (.bool true) (by simp [rows, loP, loM, loC, setR]) (by simp [rows, loP, loM, loC, setR]) (by simp [loM]) (by simp [loC]) rfl (by rw [hsz0]; exact (by decide : 48 < 66)) (by decide) (by simp) (by simp)⟩
      · intro L a w1 hI hi hd
        obtain ⟨R, hC⟩ := hI
        have hi : L 15 = false := hi
        have hp := hC.pif
        simp [Region.binds] at hd
        have e14 : a.tmps.getD 48 undef = (.bool true) := hp.pu (14, 48, (.bool true)) (by simp [rows, loP, loM, loC, setR]) (by simp [hd])
        have f14 : a.tmps[48]?.getD undef = (.bool true) := by rw [← Array.getD_eq_getD_getElem?]; exact e14
        have t4 := hp.at_ 4 _ rfl z4
        have t4' := t4
        rw [Array.getD_eq_getD_getElem?] at t4'
        exact rstep_valW (wanted_of 14 48 true rfl rfl e14) (.int .i64 (m : Int)) w1 (by go_simp) ⟨R, hC.pure 15 49 (.int .i64 (m : Int)) (by simp [rows, loP, loM, loC, setR]) (by simp [rows, loP, loM, loC, setR]) (by simp [loM]) (by simp [loC]) rfl (by rw [hsz0]; exact (by decide : 49 < 66)) (by decide) (by simp) (by simp)⟩
      · intro L a w1 hI hi hd
        obtain ⟨R, hC⟩ := hI
        have hi : L 16 = false := hi
        have hp := hC.pif
        simp [Region.binds] at hd
        have e14 : a.tmps.getD 48 undef = (.bool true) := hp.pu (14, 48, (.bool true)) (by simp [rows, loP, loM, loC, setR]) (by simp [hd])
        have f14 : a.tmps[48]?.getD undef = (.bool true) := by rw [← Array.getD_eq_getD_getElem?]; exact e14
        have t0 := hp.at_ 0 _ rfl z0
        have t0' := t0
        rw [Array.getD_eq_getD_getElem?] at t0'
        exact rstep_valW (wanted_of 14 48 true rfl rfl e14) (.slice (some ⟨ab, ao, none⟩) n c) w1 (by go_simp) ⟨R, hC.pure 16 50 (.slice (some ⟨ab, ao, none⟩) n c) (by simp [rows, loP, loM, loC, setR]) (by simp [rows, loP, loM, loC, setR]) (by simp [loM]) (by simp [loC]) rfl (by rw [hsz0]; exact (by decide : 50 < 66)) (by decide) (by simp) (by simp)⟩
      · intro L a w1 hI hi hd
        obtain ⟨R, hC⟩ := hI
        have hi : L 17 = false := hi
        have hp := hC.pif
        simp [Region.binds] at hd
        have e14 : a.tmps.getD 48 undef = (.bool true) := hp.pu (14, 48, (.bool true)) (by simp [rows, loP, loM, loC, setR]) (by simp [hd])
        have f14 : a.tmps[48]?.getD undef = (.bool true) := by rw [← Array.getD_eq_getD_getElem?]; exact e14
        have e16 : a.tmps.getD 50 undef = (.slice (some ⟨ab, ao, none⟩) n c) := hp.pu (16, 50, (.slice (some ⟨ab, ao, none⟩) n c)) (by simp [rows, loP, loM, loC, setR]) (by simp [hd])
        have f16 : a.tmps[50]?.getD undef = (.slice (some ⟨ab, ao, none⟩) n c) := by rw [← Array.getD_eq_getD_getElem?]; exact e16
        exact rstep_valW (wanted_of 14 48 true rfl rfl e14) (.int .i64 (n : Int)) w1 (by go_simp) ⟨R, hC.pure 17 51 (.int .i64 (n : Int)) (by simp [rows, loP, loM, loC, setR]) (by simp [rows, loP, loM, loC, setR]) (by simp [loM]) (by simp [loC]) rfl (by rw [hsz0]; exact (by decide : 51 < 66)) (by decide) (by simp) (by simp)⟩
      · intro L a w1 hI hi hd
        obtain ⟨R, hC⟩ := hI
        have hi : L 18 = false := hi
        have hp := hC.pif
        simp [Region.binds] at hd
        have e14 : a.tmps.getD 48 undef = (.bool true) := hp.pu (14, 48, (.bool true)) (by simp [rows, loP, loM, loC, setR]) (by simp [hd])
        have f14 : a.tmps[48]?.getD undef = (.bool true) := by rw [← Array.getD_eq_getD_getElem?]; exact e14
        have e15 : a.tmps.getD 49 undef = (.int .i64 (m : Int)) := hp.pu (15, 49, (.int .i64 (m : Int))) (by simp [rows, loP, loM, loC, setR]) (by simp [hd])
        have f15 : a.tmps[49]?.getD undef = (.int .i64 (m : Int)) := by rw [← Array.getD_eq_getD_getElem?]; exact e15
        have e17 : a.tmps.getD 51 undef = (.int .i64 (n : Int)) := hp.pu (17, 51, (.int .i64 (n : Int))) (by simp [rows, loP, loM, loC, setR]) (by simp [hd])
        have f17 : a.tmps[51]?.getD undef = (.int .i64 (n : Int)) := by rw [← Array.getD_eq_getD_getElem?]; exact e17
        have hmn : (m : Int) ≤ (n : Int) := by omega
        exact rstep_valW (wanted_of 14 48 true rfl rfl e14) (.bool true) w1 (by go_simp) ⟨R, hC.pure 18 52 (.bool true) (by simp [rows, loP, loM, loC, setR]) (by simp [rows, loP, loM, loC, setR]) (by simp [loM]) (by simp [loC]) rfl (by rw [hsz0]; exact (by decide : 52 < 66)) (by decide) (by simp) (by simp)⟩
      · intro L a w1 hI hi hd
        obtain ⟨R, hC⟩ := hI
        have hi : L 19 = false := hi
        have hp := hC.pif
        simp [Region.binds] at hd
        have e14 : a.tmps.getD 48 undef = (.bool true) := hp.pu (14, 48, (.bool true)) (by simp [rows, loP, loM, loC, setR]) (by simp [hd])
        have f14 : a.tmps[48]?.getD undef = (.bool true) := by rw [← Array.getD_eq_getD_getElem?]; exact e14
        have e18 : a.tmps.getD 52 undef = (.bool true) := hp.pu (18, 52, (.bool true)) (by simp [rows, loP, loM, loC, setR]) (by simp [hd])
        have f18 : a.tmps[52]?.getD undef = (.bool true) := by rw [← Array.getD_eq_getD_getElem?]; exact e18
        exact rstep_valW (wanted_none rfl _) (.bool true) w1 (by go_simp) ⟨R, hC.pure 19 53 (.bool true) (by simp [rows, loP, loM, loC, setR]) (by simp [rows, loP, loM, loC, setR]) (by simp [loM]) (by simp [loC]) rfl (by rw [hsz0]; exact (by decide : 53 < 66)) (by decide) (by simp) (by simp)⟩
      · intro L a w1 hI hi hd
        obtain ⟨R, hC⟩ := hI
        have hi : L 20 = false := hi
        have hp := hC.pif
        simp [Region.binds] at hd
        have e19 : a.tmps.getD 53 undef = (.bool true) := hp.pu (19, 53, (.bool true)) (by simp [rows, loP, loM, loC, setR]) (by simp [hd])
        have f19 : a.tmps[53]?.getD undef = (.bool true) := by rw [← Array.getD_eq_getD_getElem?]; exact e19
        exact rstep_valW (wanted_none rfl _) (.bool true) w1 (by go_simp) ⟨R, hC.pure 20 54 (.bool true) (by simp [rows, loP, loM, loC, setR]) (by simp [rows, loP, loM, loC, setR]) (by simp [loM]) (by simp [loC]) rfl (by rw [hsz0]; exact (by decide : 54 < 66)) (by decide) (by simp) (by simp)⟩
      · intro L a w1 hI hi hd
        obtain ⟨R, hC⟩ := hI
        have hi : L 21 = false := hi
        have hp := hC.pif
        simp [Region.binds] at hd
        have e20 : a.tmps.getD 54 undef = (.bool true) := hp.pu (20, 54, (.bool true)) (by simp [rows, loP, loM, loC, setR]) (by simp [hd])
        have f20 : a.tmps[54]?.getD undef = (.bool true) := by rw [← Array.getD_eq_getD_getElem?]; exact e20
        have t6 := hp.at_ 6 _ rfl z6
        have t6' := t6
        rw [Array.getD_eq_getD_getElem?] at t6'
        exact rstep_valW (wanted_of 20 54 true rfl rfl e20) (.slice fA m fc) w1 (by go_simp) ⟨R, hC.pure 21 55 (.slice fA m fc) (by simp [rows, loP, loM, loC, setR]) (by simp [rows, loP, loM, loC, setR]) (by simp [loM]) (by simp [loC]) rfl (by rw [hsz0]; exact (by decide : 55 < 66)) (by decide) (by simp) (by simp)⟩
      · intro L a w1 hI hi hd
        obtain ⟨R, hC⟩ := hI
        have hi : L 22 = false := hi
        have hp := hC.pif
        simp [Region.binds] at hd
        have e20 : a.tmps.getD 54 undef = (.bool true) := hp.pu (20, 54, (.bool true)) (by simp [rows, loP, loM, loC, setR]) (by simp [hd])
        have f20 : a.tmps[54]?.getD undef = (.bool true) := by rw [← Array.getD_eq_getD_getElem?]; exact e20
        have e21 : a.tmps.getD 55 undef = (.slice fA m fc) := hp.pu (21, 55, (.slice fA m fc)) (by simp [rows, loP, loM, loC, setR]) (by simp [hd])
        have f21 : a.tmps[55]?.getD undef = (.slice fA m fc) := by rw [← Array.getD_eq_getD_getElem?]; exact e21
        have s1 := str_len w1 fA m fc (LogM.form s) HML.out (HFR.out.below hC.bel)
        exact rstep_valW (wanted_of 20 54 true rfl rfl e20) (.string (str (LogM.form s))) w1 (by go_simp) ⟨R, hC.pure 22 56 (.string (str (LogM.form s))) (by simp [rows, loP, loM, loC, setR]) (by simp [rows, loP, loM, loC, setR]) (by simp [loM]) (by simp [loC]) rfl (by rw [hsz0]; exact (by decide : 56 < 66)) (by decide) (by simp) (by simp)⟩
      · intro L a w1 hI hi hd
        obtain ⟨R, hC⟩ := hI
        have hi : L 23 = false := hi
        have hp := hC.pif
        simp [Region.binds] at hd
        have e20 : a.tmps.getD 54 undef = (.bool true) := hp.pu (20, 54, (.bool true)) (by simp [rows, loP, loM, loC, setR]) (by simp [hd])
        have f20 : a.tmps[54]?.getD undef = (.bool true) := by rw [← Array.getD_eq_getD_getElem?]; exact e20
        have t0 := hp.at_ 0 _ rfl z0
        have t0' := t0
        rw [Array.getD_eq_getD_getElem?] at t0'
        exact rstep_valW (wanted_of 20 54 true rfl rfl e20) (.slice (some ⟨ab, ao, none⟩) n c) w1 (by go_simp) ⟨R, hC.pure 23 57 (.slice (some ⟨ab, ao, none⟩) n c) (by simp [rows, loP, loM, loC, setR]) (by simp [rows, loP, loM, loC, setR]) (by simp [loM]) (by simp [loC]) rfl (by rw [hsz0]; exact (by decide : 57 < 66)) (by decide) (by simp) (by simp)⟩
      · intro L a w1 hI hi hd
        obtain ⟨R, hC⟩ := hI
        have hi : L 24 = false := hi
        have hp := hC.pif
        simp [Region.binds] at hd
        have e20 : a.tmps.getD 54 undef = (.bool true) := hp.pu (20, 54, (.bool true)) (by simp [rows, loP, loM, loC, setR]) (by simp [hd])
        have f20 : a.tmps[54]?.getD undef = (.bool true) := by rw [← Array.getD_eq_getD_getElem?]; exact e20
        have t4 := hp.at_ 4 _ rfl z4
        have t4' := t4
        rw [Array.getD_eq_getD_getElem?] at t4'
        exact rstep_valW (wanted_of 20 54 true rfl rfl e20) (.int .i64 (m : Int)) w1 (by go_simp) ⟨R, hC.pure 24 58 (.int .i64 (m : Int)) (by simp [rows, loP, loM, loC, setR]) (by simp [rows, loP, loM, loC, setR]) (by simp [loM]) (by simp [loC]) rfl (by rw [hsz0]; exact (by decide : 58 < 66)) (by decide) (by simp) (by simp)⟩
      · intro L a w1 hI hi hd
        obtain ⟨R, hC⟩ := hI
        have hi : L 25 = false := hi
        have hp := hC.pif
        simp [Region.binds] at hd
        have e20 : a.tmps.getD 54 undef = (.bool true) := hp.pu (20, 54, (.bool true)) (by simp [rows, loP, loM, loC, setR]) (by simp [hd])
        have f20 : a.tmps[54]?.getD undef = (.bool true) := by rw [← Array.getD_eq_getD_getElem?]; exact e20
        have e23 : a.tmps.getD 57 undef = (.slice (some ⟨ab, ao, none⟩) n c) := hp.pu (23, 57, (.slice (some ⟨ab, ao, none⟩) n c)) (by simp [rows, loP, loM, loC, setR]) (by simp [hd])
        have f23 : a.tmps[57]?.getD undef = (.slice (some ⟨ab, ao, none⟩) n c) := by rw [← Array.getD_eq_getD_getElem?]; exact e23
        have e24 : a.tmps.getD 58 undef = (.int .i64 (m : Int)) := hp.pu (24, 58, (.int .i64 (m : Int))) (by simp [rows, loP, loM, loC, setR]) (by simp [hd])
        have f24 : a.tmps[58]?.getD undef = (.int .i64 (m : Int)) := by rw [← Array.getD_eq_getD_getElem?]; exact e24
        have hmc : ¬ c < m := by omega
        exact rstep_valW (wanted_of 20 54 true rfl rfl e20) (.slice (some ⟨ab, ao, none⟩) m c) w1 (by go_simp) ⟨R, hC.pure 25 59 (.slice (some ⟨ab, ao, none⟩) m c) (by simp [rows, loP, loM, loC, setR]) (by simp [rows, loP, loM, loC, setR]) (by simp [loM]) (by simp [loC]) rfl (by rw [hsz0]; exact (by decide : 59 < 66)) (by decide) (by simp) (by simp)⟩
      · intro L a w1 hI hi hd
        obtain ⟨R, hC⟩ := hI
        have hi : L 26 = false := hi
        have hp := hC.pif
        simp [Region.binds] at hd
        have e20 : a.tmps.getD 54 undef = (.bool true) := hp.pu (20, 54, (.bool true)) (by simp [rows, loP, loM, loC, setR]) (by simp [hd])
        have f20 : a.tmps[54]?.getD undef = (.bool true) := by rw [← Array.getD_eq_getD_getElem?]; exact e20
        have e25 : a.tmps.getD 59 undef = (.slice (some ⟨ab, ao, none⟩) m c) := hp.pu (25, 59, (.slice (some ⟨ab, ao, none⟩) m c)) (by simp [rows, loP, loM, loC, setR]) (by simp [hd])
        have f25 : a.tmps[59]?.getD undef = (.slice (some ⟨ab, ao, none⟩) m c) := by rw [← Array.getD_eq_getD_getElem?]; exact e25
        have s2 := str_len w1 (some ⟨ab, ao, none⟩) m c (LogM.form s) HML.out (HTR.out.below hC.bel)
        exact rstep_valW (wanted_of 20 54 true rfl rfl e20) (.string (str (LogM.form s))) w1 (by go_simp) ⟨R, hC.pure 26 60 (.string (str (LogM.form s))) (by simp [rows, loP, loM, loC, setR]) (by simp [rows, loP, loM, loC, setR]) (by simp [loM]) (by simp [loC]) rfl (by rw [hsz0]; exact (by decide : 60 < 66)) (by decide) (by simp) (by simp)⟩
      · intro L a w1 hI hi hd
        obtain ⟨R, hC⟩ := hI
        have hi : L 27 = false := hi
        have hp := hC.pif
        simp [Region.binds] at hd
        have e20 : a.tmps.getD 54 undef = (.bool true) := hp.pu (20, 54, (.bool true)) (by simp [rows, loP, loM, loC, setR]) (by simp [hd])
        have f20 : a.tmps[54]?.getD undef = (.bool true) := by rw [← Array.getD_eq_getD_getElem?]; exact e20
        have e22 : a.tmps.getD 56 undef = (.string (str (LogM.form s))) := hp.pu (22, 56, (.string (str (LogM.form s)))) (by simp [rows, loP, loM, loC, setR]) (by simp [hd])
        have f22 : a.tmps[56]?.getD undef = (.string (str (LogM.form s))) := by rw [← Array.getD_eq_getD_getElem?]; exact e22
        have e26 : a.tmps.getD 60 undef = (.string (str (LogM.form s))) := hp.pu (26, 60, (.string (str (LogM.form s)))) (by simp [rows, loP, loM, loC, setR]) (by simp [hd])
        have f26 : a.tmps[60]?.getD undef = (.string (str (LogM.form s))) := by rw [← Array.getD_eq_getD_getElem?]; exact e26
        exact rstep_valW (wanted_of 20 54 true rfl rfl e20) (.bool true) w1 (by go_simp) ⟨R, hC.pure 27 61 (.bool true) (by simp [rows, loP, loM, loC, setR]) (by simp [rows, loP, loM, loC, setR]) (by simp [loM]) (by simp [loC]) rfl (by rw [hsz0]; exact (by decide : 61 < 66)) (by decide) (by simp) (by simp)⟩
      · intro L a w1 hI hi hd
        obtain ⟨R, hC⟩ := hI
        have hi : L 28 = false := hi
        have hp := hC.pif
        simp [Region.binds] at hd
        have e20 : a.tmps.getD 54 undef = (.bool true) := hp.pu (20, 54, (.bool true)) (by simp [rows, loP, loM, loC, setR]) (by simp [hd])
        have f20 : a.tmps[54]?.getD undef = (.bool true) := by rw [← Array.getD_eq_getD_getElem?]; exact e20
        have e27 : a.tmps.getD 61 undef = (.bool true) := hp.pu (27, 61, (.bool true)) (by simp [rows, loP, loM, loC, setR]) (by simp [hd])
        have f27 : a.tmps[61]?.getD undef = (.bool true) := by rw [← Array.getD_eq_getD_getElem?]; exact e27
        exact rstep_valW (wanted_none rfl _) (.bool true) w1 (by go_simp) ⟨R, hC.pure 28 62 (.bool true) (by simp [rows, loP, loM, loC, setR]) (by simp [rows, loP, loM, loC, setR]) (by simp [loM]) (by simp [loC]) rfl (by rw [hsz0]; exact (by decide : 62 < 66)) (by decide) (by simp) (by simp)⟩
      · intro L a w1 hI hi hd
        obtain ⟨R, hC⟩ := hI
        have hi : L 29 = false := hi
        have hp := hC.pif
        simp [Region.binds] at hd
        have e28 : a.tmps.getD 62 undef = (.bool true) := hp.pu (28, 62, (.bool true)) (by simp [rows, loP, loM, loC, setR]) (by simp [hd])
        have f28 : a.tmps[62]?.getD undef = (.bool true) := by rw [← Array.getD_eq_getD_getElem?]; exact e28
        exact rstep_valW (wanted_none rfl _) (.bool true) w1 (by go_simp) ⟨R, hC.pure 29 63 (.bool true) (by simp [rows, loP, loM, loC, setR]) (by simp [rows, loP, loM, loC, setR]) (by simp [loM]) (by simp [loC]) rfl (by rw [hsz0]; exact (by decide : 63 < 66)) (by decide) (by simp) (by simp)⟩
      · intro L a w1 hI hi hd
        obtain ⟨R, hC⟩ := hI
        have hi : L 30 = false := hi
        have hp := hC.pif
        simp [Region.binds] at hd
        have e29 : a.tmps.getD 63 undef = (.bool true) := hp.pu (29, 63, (.bool true)) (by simp [rows, loP, loM, loC, setR]) (by simp [hd])
        have f29 : a.tmps[63]?.getD undef = (.bool true) := by rw [← Array.getD_eq_getD_getElem?]; exact e29
        refine rstep_callW (wanted_of 29 63 true rfl rfl e29) 8 #[] (by go_simp) ?_
        refine (known09_any w1).mono ?_
        rintro e w2 ⟨rfl, hb⟩
        exact ⟨R, hC.pureW hb 30 64 (.bool true) (by simp [rows, loP, loM, loC, setR]) (by simp [rows, loP, loM, loC, setR]) (by simp [loM]) (by simp [loC]) rfl (by rw [hsz0]; exact (by decide : 64 < 66)) (by decide) (by simp) (by simp)⟩
      · intro L a w1 hI hi hd
        obtain ⟨R, hC⟩ := hI
        have hi : L 31 = false := hi
        have hp := hC.pif
        simp [Region.binds] at hd
        have e29 : a.tmps.getD 63 undef = (.bool true) := hp.pu (29, 63, (.bool true)) (by simp [rows, loP, loM, loC, setR]) (by simp [hd])
        have f29 : a.tmps[63]?.getD undef = (.bool true) := by rw [← Array.getD_eq_getD_getElem?]; exact e29
        have e30 : a.tmps.getD 64 undef = (.bool true) := hp.pu (30, 64, (.bool true)) (by simp [rows, loP, loM, loC, setR]) (by simp [hd])
        have f30 : a.tmps[64]?.getD undef = (.bool true) := by rw [← Array.getD_eq_getD_getElem?]; exact e30
        exact rstep_valW (wanted_none rfl _) (.bool true) w1 (by go_simp) ⟨R, hC.pure 31 65 (.bool true) (by simp [rows, loP, loM, loC, setR]) (by simp [rows, loP, loM, loC, setR]) (by simp [loM]) (by simp [loC]) rfl (by rw [hsz0]; exact (by decide : 65 < 66)) (by decide) (by simp) (by simp)⟩
      · intro L a w1 hI hi hd
        obtain ⟨R, hC⟩ := hI
        have hi : L 32 = false := hi
        have hp := hC.pif
        simp [Region.binds] at hd
        have e31 : a.tmps.getD 65 undef = (.bool true) := hp.pu (31, 65, (.bool true)) (by simp [rows, loP, loM, loC, setR]) (by simp [hd])
        have f31 : a.tmps[65]?.getD undef = (.bool true) := by rw [← Array.getD_eq_getD_getElem?]; exact e31
        exact rstep_valW (wanted_none rfl _) (.bool true) w1 (by go_simp) ⟨R, hC.pure 32 2 (.bool true) (by simp [rows, loP, loM, loC, setR]) (by simp [rows, loP, loM, loC, setR]) (by simp [loM]) (by simp [loC]) rfl (by rw [hsz0]; exact (by decide : 2 < 66)) (by decide) (by simp) (by simp)⟩
    rintro L a W ⟨R, hC⟩ hL
    have hp := hC.pif
    have e32 : a.tmps.getD 2 undef = (.bool true) := hp.pu (32, 2, (.bool true)) (by simp [rows, loP, loM, loC, setR]) (hL 32 (by simp))
    have hBW := hC.bel
    rw [hp.eq]
    refine of_assigns (P := Try.prog) _ _ _ _ ?_
    rw [ha0.out]
    simp only [asgs, List.map, e32]
    generalize a.tmps.getD 34 undef = u34
    generalize a.tmps.getD 35 undef = u35
    generalize a.tmps.getD 36 undef = u36
    generalize a.tmps.getD 37 undef = u37
    generalize a.tmps.getD 38 undef = u38
    generalize a.tmps.getD 39 undef = u39
    generalize a.tmps.getD 40 undef = u40
    generalize a.tmps.getD 41 undef = u41
    generalize a.tmps.getD 42 undef = u42
    generalize a.tmps.getD 43 undef = u43
    generalize a.tmps.getD 44 undef = u44
    generalize a.tmps.getD 45 undef = u45
    generalize a.tmps.getD 46 undef = u46
    generalize a.tmps.getD 47 undef = u47
    generalize a.tmps.getD 48 undef = u48
    generalize a.tmps.getD 49 undef = u49
    generalize a.tmps.getD 50 undef = u50
    generalize a.tmps.getD 51 undef = u51
    generalize a.tmps.getD 52 undef = u52
    generalize a.tmps.getD 53 undef = u53
    generalize a.tmps.getD 54 undef = u54
    generalize a.tmps.getD 55 undef = u55
    generalize a.tmps.getD 56 undef = u56
    generalize a.tmps.getD 57 undef = u57
    generalize a.tmps.getD 58 undef = u58
    generalize a.tmps.getD 59 undef = u59
    generalize a.tmps.getD 60 undef = u60
    generalize a.tmps.getD 61 undef = u61
    generalize a.tmps.getD 62 undef = u62
    generalize a.tmps.getD 63 undef = u63
    generalize a.tmps.getD 64 undef = u64
    generalize a.tmps.getD 65 undef = u65
    clear hp hL e32 ha0 z0 z3 z4 z6 z7 hsz0 hC
    clear a0 a L R
    have HBB := Lib.hid (below_step hB5 hBW (Nat.le_refl _))
    clear hBW hOb hbV hB0 hx hB5
    go_wp2
    go_ret
    exact ⟨rfl, HBB.out⟩
end Go.Proofs.Ytpgmhjjdnanlgaa
/-! part -/
namespace Go.Proofs.Ytpgmhjjdnanlgaa.logrecOnce
open Go.ChangeShapes Go.WideShapes Go.ChangeAt Go.RowKit
set_option linter.unusedVariables false
set_option maxRecDepth 100000 in
theorem lifted (os : Os) (started : os.Started) (H : Type) (enc : TypeId × Value → H) :
    ReturnsInHanded {} Try.checked os 5 .any (Rows.logrecOnceSpec.pre6 enc Try.prog Try.f5 Rows.logrecOnceRow.domain false) (Rows.logrecOnceSpec.post enc Try.prog Try.f5 false true false false) := by
  refine returnsInHanded_of_change_sized (C := Try.checked) own started (by kernel_rfl) Try.func5
    (ChangeSpec.witness6 (enc := enc) (C := Try.checked) false ⟨#[], #[.slice none 0 0], []⟩ 8 (by kernel_rfl) (by kernel_rfl) (by kernel_rfl) (by kernel_rfl)) ?_
  intro W base args ds gs before hval0 hW _ hsz0 _
  have hsz : (DataW.weightsEach Try.prog (Try.f5.params.toList ++ Rows.logrecOnceSpec.plain.varTypes Try.prog) (ds ++ gs)).all (· ≤ reachBytes) = true := hsz0
  clear hsz0
  have hval : ∀ (j : Nat) t v, Try.f5.params[j]? = some t → args[j]? = some v → Value.okWide Try.prog W .any base t v := hval0
  have hW' := hW
  obtain ⟨p, q, hA0, hV, rfl, hfz, hnd⟩ := hW
  have hA : DataW.TrodAll enc Try.prog W 0 (fun _ => true) true Try.f5.params.toList args.toList ds p := hA0
  rw [Try.params5] at hA hval hsz
  obtain ⟨v0, vs0, d0, ds0, p0, q0, hargs, rfl, rfl, h0, r_0⟩ := trodAll_cons hA
  obtain ⟨rfl, rfl, rfl⟩ := trodAll_nil r_0
  obtain rfl : args = #[v0] := by cases args; simp_all
  obtain ⟨rfl, rfl⟩ := trodVars_none hV
  have k0 := h0
  have lt0 : ∀ x ∈ p0, x.block < W.heap.size := by obtain ⟨m, hm⟩ := k0; exact DataW.trod_lt m _ _ _ hm
  obtain ⟨A0, c0, l0, rfl, r0, hc0, hcx0, hz0⟩ := read_bytes Try.underlying22 Try.underlying5 (by kernel_rfl) (hval 0 22 v0 rfl rfl) h0
  have hm0 := reach_slice hsz (j := 0) (bytes := 1) rfl rfl Try.underlying22 (by kernel_rfl) hz0
  clear hA0 hval0
  refine (logrecOnce_walk A0 c0 l0 W r0 hc0 hcx0 (by omega)).mono fun e W' ⟨he, bel⟩ => ?_
  subst he
  exact ⟨_, rfl, _, _, _, [], _, [], hW', trodAll_mk1 (shut_bool Try.underlying4 _), (trodAll_cons_mk (Below.trod laidOut (by kernel_rfl) (of_decide_eq_true (by kernel_rfl)) k0 bel lt0) trodAll_mk0), rfl, bel.frame _, fun h => by cases h⟩

theorem over : Rows.logrecOnceRow.holds Try.pinned (OpenSpec.ofChange Rows.logrecOnceSpec) :=
  OpenClaim.holds_of_wide 5 Try.f5 rfl rfl rfl rfl rfl rfl rfl ⟨rfl, rfl, rfl, rfl, rfl⟩ rfl rfl rfl rfl rfl (by kernel_rfl) Try.func5 (by kernel_rfl)
    (of_decide_eq_true (by kernel_rfl)) (by unfold Func.isWrapper; rw [if_neg (of_decide_eq_false (by kernel_rfl))]; exact ⟨rfl, rfl⟩)
    (fun os started H enc _ => lifted os started H enc)

/-- The statement. -/
theorem proved : Rows.LogrecOnceSaid := over
#print axioms proved
end Go.Proofs.Ytpgmhjjdnanlgaa.logrecOnce
