/-
  The program's reading of a record.
  Conditions: the bytes lie in memory as a list; their number is bounded.
-/
import Derived.Test.YtpgmhjjdnanlgaaLogR2
import Derived.Test.YtpgmhjjdnanlgaaLogW4
import Derived.Test.YtpgmhjjdnanlgaaRow
namespace Go.Proofs.Ytpgmhjjdnanlgaa
open Go.RowKit Go.Sort Go.Lib
set_option linter.unusedVariables false
set_option linter.unusedSimpArgs false
/-- A record that was read, in memory of its own. -/
def ReadPost (r : Option (Lrec × Nat)) (w : World) (e : Ending) (w' : World) : Prop := match r with
  | none => e = .returned (.tuple #[.agg #[.int .i64 0, .int .u64 0, .int .u32 0, .int .u64 0, .int .u32 0, .int .u16 0, .slice none 0 0, .slice none 0 0, .slice none 0 0, .int .u64 0, .int .u64 0, .bool false, .int .u64 0, .slice none 0 0, .slice none 0 0], .int .i64 0, .int .i64 4]) ∧ Below w.heap.size w w'
  | some (s, m) => ∃ y : Lsl, e = .returned (.tuple #[.agg #[.int .i64 s.kind, .int .u64 (s.lsn : Int), .int .u32 (s.epoch : Int), .int .u64 (s.txn : Int), .int .u32 (s.page : Int), .int .u16 (s.off : Int), .slice y.oA y.on y.oc, .slice y.nA y.nn y.nc, .slice y.uA y.un y.uc, .int .u64 (s.prev : Int), .int .u64 (s.next : Int), .bool s.clr, .int .u64 (s.stamp : Int), .slice y.pA y.pn y.pc, .slice y.dA y.dn y.dc], .int .i64 (m : Int), .int .i64 0]) ∧ Lown w' w.heap.size y s ∧ LogM.Fit s ∧ Below w.heap.size w w'
theorem i64_or_small (a b : Nat) (ha : a < 65536) (hb : b < 65536) : bits .or .i64 (a : Int) (b : Int) = ((a ||| b : Nat) : Int) := by
  have hx : a ||| b < 2 ^ 16 := Nat.or_lt_two_pow (by omega) (by omega)
  show IntKind.i64.wrap ((BitVec.ofInt 64 (a : Int) ||| BitVec.ofInt 64 (b : Int)).toNat : Int) = _
  rw [BitVec.toNat_or, ofInt_u64 a (by omega), ofInt_u64 b (by omega), IntKind.wrap_i64]
  omega
theorem or_size (a b : Nat) (ha : a < 256) (hb : b < 256) : bits .or .i64 (a : Int) ((b : Int) * 256) = ((a + 256 * b : Nat) : Int) := by
  rw [show ((b : Int) * 256) = ((b * 256 : Nat) : Int) by omega, i64_or_small _ _ (by omega) (by omega), Nat.or_comm, show b * 256 = b * 2 ^ 8 from rfl, ← Nat.shiftLeft_eq, ← Nat.shiftLeft_add_eq_or_of_lt (by omega), Nat.add_comm, Nat.shiftLeft_eq, Nat.mul_comm]
theorem results_cell_tmp2 {fn : Func} {p u v : Tmp} {ty : TypeId} (h : fn.results = #[.cell p ty, .tmp u, .tmp v]) (tmps : Array Value) (P : Program) (w : World) :
    (results fn tmps).run P w =
      ((asAddr (tmps.getD p undef)).run P w).andThen fun a w₁ => ((loadVar ty a).run P w₁).andThen fun x w₂ => .ok (.tuple #[x, tmps.getD u undef, tmps.getD v undef]) w₂ := by
  simp only [results, h]
  simp [Sem.run_bind, Result.andThen]
theorem grown15 (w : World) (g : Nat) (v0 v1 v2 v3 v4 v5 v6 v7 v8 v9 v10 v11 v12 v13 v14 : Value) : w.grownBy ((((((((((((((((w.setCell ⟨g, 0, none⟩ v0).setCell ⟨g, 1, none⟩ v1).setCell ⟨g, 2, none⟩ v2).setCell ⟨g, 3, none⟩ v3).setCell ⟨g, 4, none⟩ v4).setCell ⟨g, 5, none⟩ v5).setCell ⟨g, 6, none⟩ v6).setCell ⟨g, 7, none⟩ v7).setCell ⟨g, 8, none⟩ v8).setCell ⟨g, 9, none⟩ v9).setCell ⟨g, 10, none⟩ v10).setCell ⟨g, 11, none⟩ v11).setCell ⟨g, 12, none⟩ v12).setCell ⟨g, 13, none⟩ v13).setCell ⟨g, 14, none⟩ v14)) (some g) :=
  grownBy_setB (grownBy_setB (grownBy_setB (grownBy_setB (grownBy_setB (grownBy_setB (grownBy_setB (grownBy_setB (grownBy_setB (grownBy_setB (grownBy_setB (grownBy_setB (grownBy_setB (grownBy_setB (grownBy_setB (World.grownBy.refl w (some g)) 0 v0) 1 v1) 2 v2) 3 v3) 4 v4) 5 v5) 6 v6) 7 v7) 8 v8) 9 v9) 10 v10) 11 v11) 12 v12) 13 v13) 14 v14
theorem Blk.set15 {w : World} {g : Nat} {t : TypeId} {u0 u1 u2 u3 u4 u5 u6 u7 u8 u9 u10 u11 u12 u13 u14 : Value} (h : Blk w g t #[u0, u1, u2, u3, u4, u5, u6, u7, u8, u9, u10, u11, u12, u13, u14]) (v0 v1 v2 v3 v4 v5 v6 v7 v8 v9 v10 v11 v12 v13 v14 : Value) : Blk ((((((((((((((((w.setCell ⟨g, 0, none⟩ v0).setCell ⟨g, 1, none⟩ v1).setCell ⟨g, 2, none⟩ v2).setCell ⟨g, 3, none⟩ v3).setCell ⟨g, 4, none⟩ v4).setCell ⟨g, 5, none⟩ v5).setCell ⟨g, 6, none⟩ v6).setCell ⟨g, 7, none⟩ v7).setCell ⟨g, 8, none⟩ v8).setCell ⟨g, 9, none⟩ v9).setCell ⟨g, 10, none⟩ v10).setCell ⟨g, 11, none⟩ v11).setCell ⟨g, 12, none⟩ v12).setCell ⟨g, 13, none⟩ v13).setCell ⟨g, 14, none⟩ v14)) g t #[v0, v1, v2, v3, v4, v5, v6, v7, v8, v9, v10, v11, v12, v13, v14] := by
  have := (((((((((((((((h.set_ 0 v0).set_ 1 v1).set_ 2 v2).set_ 3 v3).set_ 4 v4).set_ 5 v5).set_ 6 v6).set_ 7 v7).set_ 8 v8).set_ 9 v9).set_ 10 v10).set_ 11 v11).set_ 12 v12).set_ 13 v13).set_ 14 v14)
  simp only [List.setIfInBounds_toArray, List.set_cons_succ, List.set_cons_zero] at this
  exact this
theorem le_two {l : List UInt8} {a b : UInt8} (h4 : l[4]? = some a) (h5 : l[5]? = some b) : CodeM.le ((l.drop 4).take 2) = a.toNat + 256 * b.toNat := by
  have h : (l.drop 4).take 2 = [a, b] := by
    apply List.ext_getElem?
    intro i
    rw [List.getElem?_take]
    match i with
    | 0 => rw [if_pos (by decide), List.getElem?_drop, h4]; rfl
    | 1 => rw [if_pos (by decide), List.getElem?_drop, h5]; rfl
    | i + 2 => rw [if_neg (by omega)]; rfl
  rw [h]; simp [CodeM.le]
theorem ret_cell3 {P : Program} {fn : Func} {R : Ending → World → Prop} {a : Act} {w : World} {p u v : Tmp} {ty : TypeId} (h : fn.results = #[.cell p ty, .tmp u, .tmp v]) (g : Nat) (cs : Array Value) (d : TypeDesc)
    (hp : a.tmps.getD p undef = .pointer (some ⟨g, 0, none⟩)) (hB : Blk w g ty cs) (hu : P.underlying ty = some d) (hd : (match d with | .struct _ | .array _ _ => true | _ => false) = true) (hi : (P.info? ty).map (·.size) = some cs.size)
    (hdf : a.defers = []) (hR : R (.returned (.tuple #[.agg cs, a.tmps.getD u undef, a.tmps.getD v undef])) w) : bodyPost P fn R .ret a w := by
  refine bodyPost_ret ?_ hdf hR
  rw [results_cell_tmp2 h, hp]
  simp [asAddr, run_loadVar_row w g ty ty cs (0, 0) d hB hu hd hi, Result.andThen]
namespace LogM
theorem fK_1 (a b : Nat) (r : CodeM.Rd) : fK (zr ((1 : Nat) : Int) a b) r = fW (zr ((1 : Nat) : Int) a b) r := by unfold fK; exact if_pos rfl
theorem fK_2 (a b : Nat) (r : CodeM.Rd) : fK (zr ((2 : Nat) : Int) a b) r = fE (zr ((2 : Nat) : Int) a b) r := by unfold fK; exact (if_neg (by show ¬ ((2 : Nat) : Int) = 1; decide)).trans (if_pos rfl)
theorem fK_3 (a b : Nat) (r : CodeM.Rd) : fK (zr ((3 : Nat) : Int) a b) r = fC (zr ((3 : Nat) : Int) a b) r := by unfold fK; exact (if_neg (by show ¬ ((3 : Nat) : Int) = 1; decide)).trans ((if_neg (by show ¬ ((3 : Nat) : Int) = 2; decide)).trans (if_pos rfl))
theorem fK_4 (a b : Nat) (r : CodeM.Rd) : fK (zr ((4 : Nat) : Int) a b) r = fD (zr ((4 : Nat) : Int) a b) r := by unfold fK; exact (if_neg (by show ¬ ((4 : Nat) : Int) = 1; decide)).trans ((if_neg (by show ¬ ((4 : Nat) : Int) = 2; decide)).trans ((if_neg (by show ¬ ((4 : Nat) : Int) = 3; decide)).trans (if_pos rfl)))
theorem fK_5 (a b : Nat) (r : CodeM.Rd) : fK (zr ((5 : Nat) : Int) a b) r = fP (zr ((5 : Nat) : Int) a b) r := by unfold fK; exact (if_neg (by show ¬ ((5 : Nat) : Int) = 1; decide)).trans ((if_neg (by show ¬ ((5 : Nat) : Int) = 2; decide)).trans ((if_neg (by show ¬ ((5 : Nat) : Int) = 3; decide)).trans ((if_neg (by show ¬ ((5 : Nat) : Int) = 4; decide)).trans (if_pos rfl))))
theorem fK_0 {k : Nat} (a b : Nat) (r : CodeM.Rd) (h1 : ¬ k = 1) (h2 : ¬ k = 2) (h3 : ¬ k = 3) (h4 : ¬ k = 4) (h5 : ¬ k = 5) : fK (zr (k : Int) a b) r = (zr (k : Int) a b, r) := by
  have h : (zr (k : Int) a b).kind = (k : Int) := rfl
  unfold fK
  rw [h, if_neg (by omega), if_neg (by omega), if_neg (by omega), if_neg (by omega), if_neg (by omega)]
end LogM
def rcP (gx gr : Nat) (pA : Option Addr) (q pc u1 u2 u3 g9 : Nat) (Aq : Option Addr) (cq : Nat) : List (Nat × Nat × Value) := [(0, 114, (.pointer (some ⟨gx, 13, none⟩))), (1, 115, (.slice pA q pc)), (2, 116, (.pointer (some ⟨gr, 0, none⟩))), (3, 117, (.int .u64 (u1 : Int))), (4, 118, (.pointer (some ⟨gr, 0, none⟩))), (5, 119, (.int .u64 (u2 : Int))), (6, 120, (.pointer (some ⟨gr, 0, none⟩))), (7, 121, (.int .u64 (u3 : Int))), (8, 122, (.agg #[.int .u64 (u1 : Int), .int .u64 (u2 : Int), .int .u64 (u3 : Int)])), (9, 123, (.slice (some ⟨g9, 0, none⟩) 1 1)), (10, 124, (.slice Aq (q + 1) cq)), (11, 125, (.pointer (some ⟨gx, 13, none⟩)))]
def rdP (gx gr : Nat) (dA : Option Addr) (z dc u1 u2 g9 : Nat) (Aq : Option Addr) (cq : Nat) : List (Nat × Nat × Value) := [(0, 132, (.pointer (some ⟨gx, 14, none⟩))), (1, 133, (.slice dA z dc)), (2, 134, (.pointer (some ⟨gr, 0, none⟩))), (3, 135, (.int .u32 (u1 : Int))), (4, 136, (.pointer (some ⟨gr, 0, none⟩))), (5, 137, (.int .u64 (u2 : Int))), (6, 138, (.agg #[.int .u32 (u1 : Int), .int .u64 (u2 : Int)])), (7, 139, (.slice (some ⟨g9, 0, none⟩) 1 1)), (8, 140, (.slice Aq (z + 1) cq)), (9, 141, (.pointer (some ⟨gx, 14, none⟩)))]
theorem info_chC : (Try.prog.info? 54).map (fun i => (i.zero, i.size, i.bytes)) = some (some (.agg #[.int .u64 0, .int .u64 0, .int .u64 0]), 3, 24) := by kernel_rfl
theorem info_dtC : (Try.prog.info? 56).map (fun i => (i.zero, i.size, i.bytes)) = some (some (.agg #[.int .u32 0, .int .u64 0]), 2, 16) := by kernel_rfl
theorem one_chC (c : Nat × Nat × Nat) : ∀ u ∈ chC c, u.oneCell' = true := by intro u hu; simp only [chC, List.mem_cons, List.not_mem_nil, or_false] at hu; rcases hu with rfl | rfl | rfl <;> rfl
theorem one_dtC (c : Nat × Nat) : ∀ u ∈ dtC c, u.oneCell' = true := by intro u hu; simp only [dtC, List.mem_cons, List.not_mem_nil, or_false] at hu; rcases hu with rfl | rfl <;> rfl
theorem newreader_at (A : Option Addr) (c n : Nat) (l : List UInt8) (w : World) (hr : Row w A (bs l)) (hn : l.length = n) (hc : n ≤ 140737488355328) :
    Calls Try.prog 20 #[.slice A n c] w (NewR 68 ⟨l, 0⟩ w) := by subst hn; exact newreader_any A c l w hr hc
def rEP (s' : Lrec) (r' : CodeM.Rd) (y : Lsl) (gr ab ao n sz c : Nat) : List (Nat × Nat × Value) := [(0, 143, (.pointer (some ⟨gr, 0, none⟩))), (1, 144, (.int .i64 (r'.e : Int))), (2, 145, (.bool true)), (3, 146, (.bool true)), (4, 147, undef), (5, 148, undef), (6, 149, undef), (7, 150, (.bool true)), (8, 151, (.bool true)), (9, 152, undef), (10, 153, undef), (11, 154, undef), (12, 155, undef), (13, 156, undef), (14, 157, undef), (15, 158, undef), (16, 159, (.bool true))]
def rEM (s' : Lrec) (r' : CodeM.Rd) (y : Lsl) (gr ab ao n sz c : Nat) : List Mk := []
def rEC : List Cp := []
def rMP (s' : Lrec) (r' : CodeM.Rd) (y : Lsl) (gr ab ao n sz c : Nat) : List (Nat × Nat × Value) := [(0, 143, (.pointer (some ⟨gr, 0, none⟩))), (1, 144, (.int .i64 (r'.e : Int))), (2, 145, (.bool false)), (3, 146, (.bool false)), (4, 147, (.agg #[.int .i64 s'.kind, .int .u64 (s'.lsn : Int), .int .u32 (s'.epoch : Int), .int .u64 (s'.txn : Int), .int .u32 (s'.page : Int), .int .u16 (s'.off : Int), .slice y.oA y.on y.oc, .slice y.nA y.nn y.nc, .slice y.uA y.un y.uc, .int .u64 (s'.prev : Int), .int .u64 (s'.next : Int), .bool s'.clr, .int .u64 (s'.stamp : Int), .slice y.pA y.pn y.pc, .slice y.dA y.dn y.dc])), (5, 148, (.bool false)), (6, 149, (.bool true)), (7, 150, (.bool true)), (8, 151, (.bool true)), (9, 152, undef), (10, 153, undef), (11, 154, undef), (12, 155, undef), (13, 156, undef), (14, 157, undef), (15, 158, undef), (16, 159, (.bool true))]
def rMM (s' : Lrec) (r' : CodeM.Rd) (y : Lsl) (gr ab ao n sz c : Nat) : List Mk := []
def rMC : List Cp := []
def rFP (s' : Lrec) (r' : CodeM.Rd) (y : Lsl) (gr ab ao n sz c : Nat) : List (Nat × Nat × Value) := [(0, 143, (.pointer (some ⟨gr, 0, none⟩))), (1, 144, (.int .i64 (r'.e : Int))), (2, 145, (.bool false)), (3, 146, (.bool false)), (4, 147, (.agg #[.int .i64 s'.kind, .int .u64 (s'.lsn : Int), .int .u32 (s'.epoch : Int), .int .u64 (s'.txn : Int), .int .u32 (s'.page : Int), .int .u16 (s'.off : Int), .slice y.oA y.on y.oc, .slice y.nA y.nn y.nc, .slice y.uA y.un y.uc, .int .u64 (s'.prev : Int), .int .u64 (s'.next : Int), .bool s'.clr, .int .u64 (s'.stamp : Int), .slice y.pA y.pn y.pc, .slice y.dA y.dn y.dc])), (5, 148, (.bool true)), (6, 149, (.bool false)), (7, 150, (.bool false)), (8, 151, (.bool false)), (9, 152, (.agg #[.int .i64 s'.kind, .int .u64 (s'.lsn : Int), .int .u32 (s'.epoch : Int), .int .u64 (s'.txn : Int), .int .u32 (s'.page : Int), .int .u16 (s'.off : Int), .slice y.oA y.on y.oc, .slice y.nA y.nn y.nc, .slice y.uA y.un y.uc, .int .u64 (s'.prev : Int), .int .u64 (s'.next : Int), .bool s'.clr, .int .u64 (s'.stamp : Int), .slice y.pA y.pn y.pc, .slice y.dA y.dn y.dc])), (11, 154, (.slice (some ⟨ab, ao, none⟩) n c)), (12, 155, (.int .i64 (sz : Int))), (13, 156, (.slice (some ⟨ab, ao, none⟩) sz c)), (14, 157, (.bool false)), (15, 158, (.bool true)), (16, 159, (.bool true))]
def rFM (s' : Lrec) (r' : CodeM.Rd) (y : Lsl) (gr ab ao n sz c : Nat) : List Mk := [⟨10, 153, LogM.form s', none⟩]
def rFC : List Cp := []
def rTP (s' : Lrec) (r' : CodeM.Rd) (y : Lsl) (gr ab ao n sz c : Nat) : List (Nat × Nat × Value) := [(0, 143, (.pointer (some ⟨gr, 0, none⟩))), (1, 144, (.int .i64 (r'.e : Int))), (2, 145, (.bool false)), (3, 146, (.bool false)), (4, 147, (.agg #[.int .i64 s'.kind, .int .u64 (s'.lsn : Int), .int .u32 (s'.epoch : Int), .int .u64 (s'.txn : Int), .int .u32 (s'.page : Int), .int .u16 (s'.off : Int), .slice y.oA y.on y.oc, .slice y.nA y.nn y.nc, .slice y.uA y.un y.uc, .int .u64 (s'.prev : Int), .int .u64 (s'.next : Int), .bool s'.clr, .int .u64 (s'.stamp : Int), .slice y.pA y.pn y.pc, .slice y.dA y.dn y.dc])), (5, 148, (.bool true)), (6, 149, (.bool false)), (7, 150, (.bool false)), (8, 151, (.bool false)), (9, 152, (.agg #[.int .i64 s'.kind, .int .u64 (s'.lsn : Int), .int .u32 (s'.epoch : Int), .int .u64 (s'.txn : Int), .int .u32 (s'.page : Int), .int .u16 (s'.off : Int), .slice y.oA y.on y.oc, .slice y.nA y.nn y.nc, .slice y.uA y.un y.uc, .int .u64 (s'.prev : Int), .int .u64 (s'.next : Int), .bool s'.clr, .int .u64 (s'.stamp : Int), .slice y.pA y.pn y.pc, .slice y.dA y.dn y.dc])), (11, 154, (.slice (some ⟨ab, ao, none⟩) n c)), (12, 155, (.int .i64 (sz : Int))), (13, 156, (.slice (some ⟨ab, ao, none⟩) sz c)), (14, 157, (.bool true)), (15, 158, (.bool false)), (16, 159, (.bool false))]
def rTM (s' : Lrec) (r' : CodeM.Rd) (y : Lsl) (gr ab ao n sz c : Nat) : List Mk := [⟨10, 153, LogM.form s', none⟩]
def rTC : List Cp := []
set_option maxRecDepth 100000 in
set_option maxHeartbeats 400000000 in
theorem read_any (A : Option Addr) (n c : Nat) (l : List UInt8) (w : World) (hr : Row w A (bs l)) (hn : l.length = n) (hnc : n ≤ c) (hcm : c ≤ maxLen) (hmx : n ≤ 140737488355328) :
    Calls Try.prog 9 #[.slice A n c] w (ReadPost (LogM.readI l) w) := by
  have HN := Lib.hid hn
  have hcM := hcm
  unfold maxLen at hcM
  by_cases h6 : n < 6
  · have HR : Hid (LogM.readI l = none) := Lib.hid (by unfold LogM.readI; rw [if_pos (by omega)])
    go_enter Try.func9, Try.ntmps9
    have hz := Blk.new w 31 #[.int .i64 0, .int .u64 0, .int .u32 0, .int .u64 0, .int .u32 0, .int .u16 0, .slice none 0 0, .slice none 0 0, .slice none 0 0, .int .u64 0, .int .u64 0, .bool false, .int .u64 0, .slice none 0 0, .slice none 0 0]
    have hb0 : Below w.heap.size w (w.alloc (.cells #[.int .i64 0, .int .u64 0, .int .u32 0, .int .u64 0, .int .u32 0, .int .u16 0, .slice none 0 0, .slice none 0 0, .slice none 0 0, .int .u64 0, .int .u64 0, .bool false, .int .u64 0, .slice none 0 0, .slice none 0 0] 31)) := (Below.refl w.heap.size w).alloc (Nat.le_refl _) _
    have k0 := hz.frozen
    go_upto_region 1 with fail
    generalize w.alloc (.cells #[.int .i64 0, .int .u64 0, .int .u32 0, .int .u64 0, .int .u32 0, .int .u16 0, .slice none 0 0, .slice none 0 0, .slice none 0 0, .int .u64 0, .int .u64 0, .bool false, .int .u64 0, .slice none 0 0, .slice none 0 0] 31) = V0 at *
    obtain ⟨gz, hgz⟩ : ∃ gz, w.heap.size = gz := ⟨_, rfl⟩
    rw [hgz] at hz k0
    simp only [hgz]
    have HG := Lib.hid hgz
    clear hgz hr
    obtain ⟨d0, d1, d2, d3, d4, d5, d6, d7, d8, d9, d10, d11, d12, d13, d14⟩ := hz.c15
    go_wp2_with (first | (refine wp_cond_true (by go_simp) ?_) | (refine wp_cond_false (by go_simp) ?_))
    refine ret_cell3 rfl gz #[.int .i64 0, .int .u64 0, .int .u32 0, .int .u64 0, .int .u32 0, .int .u16 0, .slice none 0 0, .slice none 0 0, .slice none 0 0, .int .u64 0, .int .u64 0, .bool false, .int .u64 0, .slice none 0 0, .slice none 0 0] _ rfl (hz.set15 _ _ _ _ _ _ _ _ _ _ _ _ _ _ _) Try.underlying31 rfl (by kernel_rfl) rfl ?_
    rw [HR.out]
    exact ⟨rfl, below_grown hb0 (grown15 _ _ _ _ _ _ _ _ _ _ _ _ _ _ _ _ _) (by rw [HG.out]; exact Nat.le_of_lt hz.lt) (by rw [HG.out]; exact Nat.le_refl _)⟩
  · have h4l : 4 < l.length := by omega
    have h5l : 5 < l.length := by omega
    obtain ⟨a, hga⟩ : ∃ a, l[4]? = some a := ⟨_, List.getElem?_eq_getElem h4l⟩
    obtain ⟨b, hgb⟩ : ∃ b, l[5]? = some b := ⟨_, List.getElem?_eq_getElem h5l⟩
    obtain ⟨sz, hsz⟩ : ∃ sz, CodeM.le ((l.drop 4).take 2) = sz := ⟨_, rfl⟩
    have hsz2 := (le_two hga hgb).symm.trans hsz
    have HR0 : Hid (LogM.readI l = if sz < 6 ∨ n < sz ∨ 1600 < sz then none
        else if CodeM.le ((l.take sz).take 4) ≠ (CrcM.sum ((l.take sz).drop 4)).toNat then none
        else if (LogM.fields ⟨(l.take sz).drop 6, 0⟩).2.e ≠ 0 ∨ ¬ LogM.May (LogM.fields ⟨(l.take sz).drop 6, 0⟩).1 ∨ LogM.form (LogM.fields ⟨(l.take sz).drop 6, 0⟩).1 ≠ l.take sz then none
        else some ((LogM.fields ⟨(l.take sz).drop 6, 0⟩).1, sz)) := Lib.hid (by unfold LogM.readI; rw [if_neg (by omega), hsz, hn])
    have hal := a.toNat_lt
    have hbl := b.toNat_lt
    have hor := or_size a.toNat b.toNat (by omega) (by omega)
    rw [hsz2] at hor
    have hsh : IntKind.i64.wrap ((b.toNat : Int) * 256) = (b.toNat : Int) * 256 := by rw [IntKind.wrap_i64]; omega
    have hz := Blk.new w 31 #[.int .i64 0, .int .u64 0, .int .u32 0, .int .u64 0, .int .u32 0, .int .u16 0, .slice none 0 0, .slice none 0 0, .slice none 0 0, .int .u64 0, .int .u64 0, .bool false, .int .u64 0, .slice none 0 0, .slice none 0 0]
    have hb0 : Below w.heap.size w (w.alloc (.cells #[.int .i64 0, .int .u64 0, .int .u32 0, .int .u64 0, .int .u32 0, .int .u16 0, .slice none 0 0, .slice none 0 0, .slice none 0 0, .int .u64 0, .int .u64 0, .bool false, .int .u64 0, .slice none 0 0, .slice none 0 0] 31)) := (Below.refl w.heap.size w).alloc (Nat.le_refl _) _
    have hr0 := hr.alloc (.cells #[.int .i64 0, .int .u64 0, .int .u32 0, .int .u64 0, .int .u32 0, .int .u16 0, .slice none 0 0, .slice none 0 0, .slice none 0 0, .int .u64 0, .int .u64 0, .bool false, .int .u64 0, .slice none 0 0, .slice none 0 0] 31)
    go_enter Try.func9, Try.ntmps9
    go_upto_region 1 with fail
    generalize w.alloc (.cells #[.int .i64 0, .int .u64 0, .int .u32 0, .int .u64 0, .int .u32 0, .int .u16 0, .slice none 0 0, .slice none 0 0, .slice none 0 0, .int .u64 0, .int .u64 0, .bool false, .int .u64 0, .slice none 0 0, .slice none 0 0] 31) = V0 at *
    obtain ⟨gz, hgz⟩ : ∃ gz, w.heap.size = gz := ⟨_, rfl⟩
    rw [hgz] at hz
    simp only [hgz]
    have HG := Lib.hid hgz
    clear hgz hr
    obtain ⟨ab, ao, rfl, ca⟩ := hr0.byte h4l
    obtain ⟨ab', ao', hab, cb⟩ := hr0.byte h5l
    cases hab
    rw [show l[4] = a from by rw [List.getElem?_eq_getElem h4l] at hga; injection hga] at ca
    rw [show l[5] = b from by rw [List.getElem?_eq_getElem h5l] at hgb; injection hgb] at cb
    have HGA := Lib.hid (And.intro hga (And.intro hgb (And.intro hsz hsz2)))
    have hsz65 : sz < 65536 := by omega
    clear hga hgb hsz hsz2 h4l h5l
    go_upto_region 3 with fail
    go_quiet (fail)
    have hbd : Below V0.heap.size V0 (V0.drewN nq) := ⟨rfl, rfl, rfl, Nat.le_refl _, fun _ _ => rfl⟩
    have hgzl : w.heap.size ≤ gz := Nat.le_of_eq HG.out
    have hz1 := hz.below hbd hz.lt
    have hr1 := hr0.below hbd
    have hB1 := below_step hb0 hbd (Nat.le_refl _)
    have hgV := hz1.lt
    generalize V0.drewN nq = V1 at *
    clear hz hr0 hb0 hbd ca cb hor hsh HG
    clear V0
    by_cases hs6 : sz < 6
    · have HR : Hid (LogM.readI l = none) := Lib.hid (by rw [HR0.out, if_pos (.inl hs6)])
      have hzq := hz1.setRow_ #[.int .i64 0, .int .u64 0, .int .u32 0, .int .u64 0, .int .u32 0, .int .u16 0, .slice none 0 0, .slice none 0 0, .slice none 0 0, .int .u64 0, .int .u64 0, .bool false, .int .u64 0, .slice none 0 0, .slice none 0 0]
      have hBq := below_grown hB1 (grownBy_setRow _ gz #[.int .i64 0, .int .u64 0, .int .u32 0, .int .u64 0, .int .u32 0, .int .u16 0, .slice none 0 0, .slice none 0 0, .slice none 0 0, .int .u64 0, .int .u64 0, .bool false, .int .u64 0, .slice none 0 0, .slice none 0 0]) hB1.size hgzl
      go_wp2_with (first | (refine wp_cond_true (by go_simp) ?_) | (refine wp_cond_false (by go_simp) ?_) | (refine wpList_store_row rfl _ (.tmp 2) (.tmp 36) rfl gz #[.int .i64 0, .int .u64 0, .int .u32 0, .int .u64 0, .int .u32 0, .int .u16 0, .slice none 0 0, .slice none 0 0, .slice none 0 0, .int .u64 0, .int .u64 0, .bool false, .int .u64 0, .slice none 0 0, .slice none 0 0] (by go_simp) (by go_simp) _ _ hz1 (by kernel_rfl) rfl (by simp [Value.oneCell']) ?_) | (refine ret_cell3 rfl gz #[.int .i64 0, .int .u64 0, .int .u32 0, .int .u64 0, .int .u32 0, .int .u16 0, .slice none 0 0, .slice none 0 0, .slice none 0 0, .int .u64 0, .int .u64 0, .bool false, .int .u64 0, .slice none 0 0, .slice none 0 0] _ rfl hzq Try.underlying31 rfl (by kernel_rfl) rfl ?_; rw [HR.out]; exact ⟨rfl, hBq⟩))
    by_cases hsn : n < sz
    · have HR : Hid (LogM.readI l = none) := Lib.hid (by rw [HR0.out, if_pos (.inr (.inl hsn))])
      have hzq := hz1.setRow_ #[.int .i64 0, .int .u64 0, .int .u32 0, .int .u64 0, .int .u32 0, .int .u16 0, .slice none 0 0, .slice none 0 0, .slice none 0 0, .int .u64 0, .int .u64 0, .bool false, .int .u64 0, .slice none 0 0, .slice none 0 0]
      have hBq := below_grown hB1 (grownBy_setRow _ gz #[.int .i64 0, .int .u64 0, .int .u32 0, .int .u64 0, .int .u32 0, .int .u16 0, .slice none 0 0, .slice none 0 0, .slice none 0 0, .int .u64 0, .int .u64 0, .bool false, .int .u64 0, .slice none 0 0, .slice none 0 0]) hB1.size hgzl
      go_wp2_with (first | (refine wp_cond_true (by go_simp) ?_) | (refine wp_cond_false (by go_simp) ?_) | (refine wpList_store_row rfl _ (.tmp 2) (.tmp 36) rfl gz #[.int .i64 0, .int .u64 0, .int .u32 0, .int .u64 0, .int .u32 0, .int .u16 0, .slice none 0 0, .slice none 0 0, .slice none 0 0, .int .u64 0, .int .u64 0, .bool false, .int .u64 0, .slice none 0 0, .slice none 0 0] (by go_simp) (by go_simp) _ _ hz1 (by kernel_rfl) rfl (by simp [Value.oneCell']) ?_) | (refine ret_cell3 rfl gz #[.int .i64 0, .int .u64 0, .int .u32 0, .int .u64 0, .int .u32 0, .int .u16 0, .slice none 0 0, .slice none 0 0, .slice none 0 0, .int .u64 0, .int .u64 0, .bool false, .int .u64 0, .slice none 0 0, .slice none 0 0] _ rfl hzq Try.underlying31 rfl (by kernel_rfl) rfl ?_; rw [HR.out]; exact ⟨rfl, hBq⟩))
    by_cases hs16 : 1600 < sz
    · have HR : Hid (LogM.readI l = none) := Lib.hid (by rw [HR0.out, if_pos (.inr (.inr hs16))])
      have hzq := hz1.setRow_ #[.int .i64 0, .int .u64 0, .int .u32 0, .int .u64 0, .int .u32 0, .int .u16 0, .slice none 0 0, .slice none 0 0, .slice none 0 0, .int .u64 0, .int .u64 0, .bool false, .int .u64 0, .slice none 0 0, .slice none 0 0]
      have hBq := below_grown hB1 (grownBy_setRow _ gz #[.int .i64 0, .int .u64 0, .int .u32 0, .int .u64 0, .int .u32 0, .int .u16 0, .slice none 0 0, .slice none 0 0, .slice none 0 0, .int .u64 0, .int .u64 0, .bool false, .int .u64 0, .slice none 0 0, .slice none 0 0]) hB1.size hgzl
      go_wp2_with (first | (refine wp_cond_true (by go_simp) ?_) | (refine wp_cond_false (by go_simp) ?_) | (refine wpList_store_row rfl _ (.tmp 2) (.tmp 36) rfl gz #[.int .i64 0, .int .u64 0, .int .u32 0, .int .u64 0, .int .u32 0, .int .u16 0, .slice none 0 0, .slice none 0 0, .slice none 0 0, .int .u64 0, .int .u64 0, .bool false, .int .u64 0, .slice none 0 0, .slice none 0 0] (by go_simp) (by go_simp) _ _ hz1 (by kernel_rfl) rfl (by simp [Value.oneCell']) ?_) | (refine ret_cell3 rfl gz #[.int .i64 0, .int .u64 0, .int .u32 0, .int .u64 0, .int .u32 0, .int .u16 0, .slice none 0 0, .slice none 0 0, .slice none 0 0, .int .u64 0, .int .u64 0, .bool false, .int .u64 0, .slice none 0 0, .slice none 0 0] _ rfl hzq Try.underlying31 rfl (by kernel_rfl) rfl ?_; rw [HR.out]; exact ⟨rfl, hBq⟩))
    rw [if_neg (by omega)] at HR0
    have hml : (l.take sz).length = sz := by rw [List.length_take]; omega
    have hmr : Row V1 (some ⟨ab, ao, none⟩) (bs (l.take sz)) := by
      have := hr1.take sz
      unfold bs at this ⊢
      rwa [List.map_take]
    have hsr : Row V1 (some ⟨ab, ao + 4, none⟩) (bs ((l.take sz).drop 4)) := row_drop hmr 4
    have hsl : ((l.take sz).drop 4).length = sz - 4 := by rw [List.length_drop, hml]
    obtain ⟨m, hm⟩ : ∃ m, l.take sz = m := ⟨_, rfl⟩
    rw [hm] at hml hmr hsr hsl HR0
    have HM := Lib.hid hm
    clear hm
    have HNR := Lib.hid (newreader_at (some ⟨ab, ao, none⟩) c sz m V1 hmr hml (by omega))
    have HML := Lib.hid hml
    have HSL := Lib.hid hsl
    clear hml hsl
    go_wp2_with (first | (refine wp_cond_true (by go_simp) ?_) | (refine wp_cond_false (by go_simp) ?_))
    refine HNR.out.mono ?_
    rintro e V2 ⟨gr, rfl, hgr, hrd2, hb2⟩
    clear HNR
    have hz2 := hz1.below hb2 hz1.lt
    have hr2 := hsr.below hb2
    have hm2 := hmr.below hb2
    have hB2 := below_step hB1 hb2 (Nat.le_refl _)
    have hgz2 : gr ≠ gz := by omega
    have hgrl : w.heap.size ≤ gr := by omega
    clear hz1 hsr hmr hr1 hB1 hb2 hgV hgr
    have hf1 : (⟨m, 0⟩ : CodeM.Rd).fixed 4 = (CodeM.le (m.take 4), ⟨m.drop 4, 0⟩) := CodeM.fixed_ok (by have := HML.out; show ¬ m.length < 4; omega)
    have hf2 : (⟨m.drop 4, 0⟩ : CodeM.Rd).fixed 2 = (CodeM.le ((m.drop 4).take 2), ⟨(m.drop 4).drop 2, 0⟩) := CodeM.fixed_ok (by have := HSL.out; show ¬ (m.drop 4).length < 2; omega)
    rw [List.drop_drop] at hf2
    have hq1 := u32_any gr ⟨m, 0⟩ V2 hrd2
    rw [hf1] at hq1
    obtain ⟨v1, hv1⟩ : ∃ v1, CodeM.le (m.take 4) = v1 := ⟨_, rfl⟩
    obtain ⟨v2, hv2⟩ : ∃ v2, CodeM.le ((m.drop 4).take 2) = v2 := ⟨_, rfl⟩
    rw [hv1] at hq1 HR0
    rw [hv2] at hf2
    have HQ1 := Lib.hid hq1
    have HF2 := Lib.hid hf2
    clear hq1 hf1 hf2 hv1 hv2
    go_wp2_with (first | (refine wp_cond_true (by go_simp) ?_) | (refine wp_cond_false (by go_simp) ?_))
    refine HQ1.out.mono ?_
    rintro e V3 ⟨rfl, hrd3, hg3⟩
    clear HQ1
    have hz3 := hz2.grown hg3 (fun q => hgz2 (by injection q with q; omega))
    have hr3 := hrd2.row hg3 hr2
    have hm3 := hrd2.row hg3 hm2
    have hB3 := below_grown hB2 hg3 hB2.size hgrl
    try dsimp only at hrd3
    have hq2 := u16_any gr ⟨m.drop 4, 0⟩ V3 hrd3
    rw [HF2.out] at hq2
    have HQ2 := Lib.hid hq2
    clear hq2 hz2 hr2 hm2 hB2 hg3 hrd2
    go_wp2_with (first | (refine wp_cond_true (by go_simp) ?_) | (refine wp_cond_false (by go_simp) ?_))
    refine HQ2.out.mono ?_
    rintro e V4 ⟨rfl, hrd4, hg4⟩
    clear HQ2 HF2
    have hz4 := hz3.grown hg4 (fun q => hgz2 (by injection q with q; omega))
    have hr4 := hrd3.row hg4 hr3
    have hm4 := hrd3.row hg4 hm3
    have hB4 := below_grown hB3 hg4 hB3.size hgrl
    try dsimp only at hrd4
    have hc := sum_at (some ⟨ab, ao + 4, none⟩) (c - 4) (sz - 4) (m.drop 4) V4 hr4 HSL.out.symm (by omega)
    obtain ⟨sm, hsm⟩ : ∃ sm, (CrcM.sum (m.drop 4)).toNat = sm := ⟨_, rfl⟩
    rw [hsm] at hc HR0
    have HC := Lib.hid hc
    have hc4 : ((sz : Int) - 4) = ((sz - 4 : Nat) : Int) := by omega
    clear hc hsm hz3 hr3 hm3 hB3 hg4 hrd3
    go_wp2_with (first | (refine wp_cond_true (by go_simp) ?_) | (refine wp_cond_false (by go_simp) ?_))
    refine HC.out.mono ?_
    rintro e V5 ⟨rfl, hb5⟩
    have hz5 := hz4.below hb5 hz4.lt
    have hm5 := hm4.below hb5
    have hB5 := below_step hB4 hb5 (Nat.le_refl _)
    have hrd5 := hrd4.below hb5
    clear HC hz4 hr4 hm4 hB4 hb5 hc4 hrd4
    by_cases hvs : v1 = sm
    rotate_left
    · have HR : Hid (LogM.readI l = none) := Lib.hid (by rw [HR0.out, if_pos hvs])
      have hzq := hz5.setRow_ #[.int .i64 0, .int .u64 0, .int .u32 0, .int .u64 0, .int .u32 0, .int .u16 0, .slice none 0 0, .slice none 0 0, .slice none 0 0, .int .u64 0, .int .u64 0, .bool false, .int .u64 0, .slice none 0 0, .slice none 0 0]
      have hBq := below_grown hB5 (grownBy_setRow _ gz #[.int .i64 0, .int .u64 0, .int .u32 0, .int .u64 0, .int .u32 0, .int .u16 0, .slice none 0 0, .slice none 0 0, .slice none 0 0, .int .u64 0, .int .u64 0, .bool false, .int .u64 0, .slice none 0 0, .slice none 0 0]) hB5.size hgzl
      go_wp2_with (first | (refine wp_cond_true (by go_simp) ?_) | (refine wp_cond_false (by go_simp) ?_) | (refine wpList_store_row rfl _ (.tmp 2) (.tmp 51) rfl gz #[.int .i64 0, .int .u64 0, .int .u32 0, .int .u64 0, .int .u32 0, .int .u16 0, .slice none 0 0, .slice none 0 0, .slice none 0 0, .int .u64 0, .int .u64 0, .bool false, .int .u64 0, .slice none 0 0, .slice none 0 0] (by go_simp) (by go_simp) _ _ hz5 (by kernel_rfl) rfl (by simp [Value.oneCell']) ?_) | (refine ret_cell3 rfl gz #[.int .i64 0, .int .u64 0, .int .u32 0, .int .u64 0, .int .u32 0, .int .u16 0, .slice none 0 0, .slice none 0 0, .slice none 0 0, .int .u64 0, .int .u64 0, .bool false, .int .u64 0, .slice none 0 0, .slice none 0 0] _ rfl hzq Try.underlying31 rfl (by kernel_rfl) rfl ?_; rw [HR.out]; exact ⟨rfl, hBq⟩))
    rw [if_neg (fun q => q hvs)] at HR0
    subst hvs
    obtain ⟨q1, hQ1⟩ : ∃ q, (⟨m.drop 6, 0⟩ : CodeM.Rd).fixed 8 = q := ⟨_, rfl⟩
    obtain ⟨lsn, r1⟩ := q1
    obtain ⟨q2, hQ2⟩ : ∃ q, r1.fixed 4 = q := ⟨_, rfl⟩
    obtain ⟨epoch, r2⟩ := q2
    obtain ⟨q3, hQ3⟩ : ∃ q, r2.fixed 1 = q := ⟨_, rfl⟩
    obtain ⟨kd, r3⟩ := q3
    have hk8 : kd < 256 := by have := CodeM.fixed_lt 1 r2; rw [hQ3] at this; exact this
    have hwk : IntKind.i64.wrap (kd : Int) = (kd : Int) := by rw [IntKind.wrap_i64]; omega
    obtain ⟨q4, hQ4⟩ : ∃ q, LogM.fK (LogM.zr (kd : Int) lsn epoch) r3 = q := ⟨_, rfl⟩
    obtain ⟨s', r'⟩ := q4
    have HFD : Hid (LogM.fields ⟨m.drop 6, 0⟩ = (s', r')) := Lib.hid (by unfold LogM.fields; simp only [hQ1, hQ2, hQ3]; exact hQ4)
    have HFK := Lib.hid hQ4
    rw [HFD.out] at HR0
    have hq := u64_any gr ⟨m.drop 6, 0⟩ V5 hrd5
    rw [hQ1] at hq
    try dsimp only at hq
    have HQ := Lib.hid hq
    have HQ2 := Lib.hid hQ2
    have HQ3 := Lib.hid hQ3
    clear hq hQ1 hQ2 hQ3 hQ4
    go_wp2_with (first | (refine wp_cond_true (by go_simp) ?_) | (refine wp_cond_false (by go_simp) ?_))
    refine HQ.out.mono ?_
    rintro e V6 ⟨rfl, hrd6, hg6⟩
    have hz6 := hz5.grown hg6 (fun q => hgz2 (by injection q with q; omega))
    have hm6 := hrd5.row hg6 hm5
    have hB6 := below_grown hB5 hg6 hB5.size hgrl
    have hq := u32_any gr r1 V6 hrd6
    rw [HQ2.out] at hq
    try dsimp only at hq
    have HQ' := Lib.hid hq
    clear hq HQ hz5 hm5 hB5 hg6 hrd5
    go_wp2_with (first | (refine wp_cond_true (by go_simp) ?_) | (refine wp_cond_false (by go_simp) ?_))
    refine HQ'.out.mono ?_
    rintro e V7 ⟨rfl, hrd7, hg7⟩
    have hz7 := hz6.grown hg7 (fun q => hgz2 (by injection q with q; omega))
    have hm7 := hrd6.row hg7 hm6
    have hB7 := below_grown hB6 hg7 hB6.size hgrl
    have hq := u8_any gr r2 V7 hrd7
    rw [HQ3.out] at hq
    try dsimp only at hq
    have HQ := Lib.hid hq
    clear hq HQ' hz6 hm6 hB6 hg7 hrd6
    go_wp2_with (first | (refine wp_cond_true (by go_simp) ?_) | (refine wp_cond_false (by go_simp) ?_))
    refine HQ.out.mono ?_
    rintro e V8 ⟨rfl, hrd8, hg8⟩
    have hz8 := hz7.grown hg8 (fun q => hgz2 (by injection q with q; omega))
    have hm8 := hrd7.row hg8 hm7
    have hB8 := below_grown hB7 hg8 hB7.size hgrl
    clear HQ hz7 hm7 hB7 hg8 hrd7
    go_upto_block 0 with fail
    have hx9 := Blk.new V8 31 #[.int .i64 (kd : Int), .int .u64 (lsn : Int), .int .u32 (epoch : Int), .int .u64 0, .int .u32 0, .int .u16 0, .slice none 0 0, .slice none 0 0, .slice none 0 0, .int .u64 0, .int .u64 0, .bool false, .int .u64 0, .slice none 0 0, .slice none 0 0]
    have hba : Below V8.heap.size V8 (V8.alloc (.cells #[.int .i64 (kd : Int), .int .u64 (lsn : Int), .int .u32 (epoch : Int), .int .u64 0, .int .u32 0, .int .u16 0, .slice none 0 0, .slice none 0 0, .slice none 0 0, .int .u64 0, .int .u64 0, .bool false, .int .u64 0, .slice none 0 0, .slice none 0 0] 31)) := (Below.refl _ _).alloc (Nat.le_refl _) _
    have hz9 := hz8.below hba hz8.lt
    have hm9 := hm8.below hba
    have hB9 := below_step hB8 hba (Nat.le_refl _)
    have hrd9 := hrd8.below hba
    have hgr8 := hrd8.lt
    have hgz8 := hz8.lt
    have hB8s := hB8.size
    have hszs : V8.heap.size < (V8.alloc (.cells #[.int .i64 (kd : Int), .int .u64 (lsn : Int), .int .u32 (epoch : Int), .int .u64 0, .int .u32 0, .int .u16 0, .slice none 0 0, .slice none 0 0, .slice none 0 0, .int .u64 0, .int .u64 0, .bool false, .int .u64 0, .slice none 0 0, .slice none 0 0] 31)).heap.size := by simp
    generalize V8.alloc (.cells #[.int .i64 (kd : Int), .int .u64 (lsn : Int), .int .u32 (epoch : Int), .int .u64 0, .int .u32 0, .int .u16 0, .slice none 0 0, .slice none 0 0, .slice none 0 0, .int .u64 0, .int .u64 0, .bool false, .int .u64 0, .slice none 0 0, .slice none 0 0] 31) = V9 at *
    obtain ⟨gx, hgx⟩ : ∃ gx, V8.heap.size = gx := ⟨_, rfl⟩
    rw [hgx] at hx9 hgr8 hgz8 hB8s hszs
    simp only [hgx]
    have hab9 : ab < V9.heap.size := by
      obtain ⟨b', o', e', hc'⟩ := hm9.byte (k := 0) (by have := HML.out; omega)
      cases e'
      exact World.block_lt_of_cell? _ _ hc'
    obtain ⟨base, hbase⟩ : ∃ base, V9.heap.size = base := ⟨_, rfl⟩
    rw [hbase] at hab9
    have hst : RSt w.heap.size base w gr gx gz (some ⟨ab, ao, none⟩) m r3 (LogM.zr (kd : Int) lsn epoch) Lsl.z V9 :=
      ⟨hrd9.in_ (Nat.le_of_eq hbase), hx9, hz9, Lown.zr _ _ _ _ _, hB9, Nat.le_of_eq hbase.symm, hm9, fun a ha => (by injection ha with ha; subst ha; exact hab9), ⟨hgrl, by omega, hB8s, by omega, by omega, by omega, by omega, by omega, by omega⟩⟩
    clear hx9 hba hz9 hm9 hB9 hrd9 hgr8 hgz8 hB8s hszs hz8 hm8 hB8 hrd8 hgx hbase
    clear V8
    go_cut [9] from 60 (fun v9 wc => v9 = .pointer (some ⟨gx, 0, none⟩) ∧ ∃ y, RSt w.heap.size base w gr gx gz (some ⟨ab, ao, none⟩) m r' s' y wc)
    case first =>
      have hfr : kd = kd := rfl
      by_cases k1 : kd = 1
      · as_aux_lemma =>
        subst k1
        obtain ⟨qa, hQa⟩ : ∃ q, r3.fixed 4 = q := ⟨_, rfl⟩
        obtain ⟨pa, ra⟩ := qa
        obtain ⟨qb, hQb⟩ : ∃ q, ra.fixed 2 = q := ⟨_, rfl⟩
        obtain ⟨pb, rb⟩ := qb
        obtain ⟨qc, hQc⟩ : ∃ q, rb.text 500 = q := ⟨_, rfl⟩
        obtain ⟨tc, rc⟩ := qc
        obtain ⟨qd, hQd⟩ : ∃ q, rc.text 500 = q := ⟨_, rfl⟩
        obtain ⟨td, rd⟩ := qd
        have HE : Hid ((s', r') = ((⟨1, lsn, epoch, 0, pa, pb, tc, td, [], 0, 0, false, 0, [], []⟩ : Lrec), rd)) := Lib.hid (by rw [← HFK.out]; rw [LogM.fK_1]; unfold LogM.fW; simp only [hQa, hQb, hQc, hQd]; rfl)
        have HA := Lib.hid hQa
        have HB := Lib.hid hQb
        have HC := Lib.hid hQc
        have HD := Lib.hid hQd
        clear hQa hQb hQc hQd hfr
        obtain ⟨d0, d1, d2, d3, d4, d5, d6, d7, d8, d9, d10, d11, d12, d13, d14⟩ := hst.x.c15
        clear d1 d2 d3 d4 d5 d6 d7 d8 d9 d10 d11 d12 d13 d14
        have hq := u32I_any gr r3 V9 hst.rd
        rw [HA.out] at hq
        try dsimp only at hq
        have HQ := Lib.hid hq
        clear hq
        go_wp2_with (first | (refine wp_cond_true (by go_simp) ?_) | (refine wp_cond_false (by go_simp) ?_))
        try clear d0
        refine HQ.out.mono ?_
        rintro e V9x1 ⟨rfl, hrd, hg⟩
        have hstx1 := hst.step hrd hg
        clear HQ hrd hg hst
        have hq := u16I_any gr ra V9x1 hstx1.rd
        rw [HB.out] at hq
        try dsimp only at hq
        have HQ := Lib.hid hq
        clear hq
        go_wp2_with (first | (refine wp_cond_true (by go_simp) ?_) | (refine wp_cond_false (by go_simp) ?_))
        refine HQ.out.mono ?_
        rintro e V9x2 ⟨rfl, hrd, hg⟩
        have hstx2 := hstx1.step hrd hg
        clear HQ hrd hg hstx1
        have hq := textI_any gr rb 500 V9x2 hstx2.rd (by omega) (by omega)
        rw [HC.out] at hq
        try dsimp only at hq
        have HQ := Lib.hid hq
        clear hq
        go_wp2_with (first | (refine wp_cond_true (by go_simp) ?_) | (refine wp_cond_false (by go_simp) ?_))
        refine HQ.out.mono ?_
        rintro e V9x3 ⟨T3A, T3n, T3c, rfl, hTn3, hTO3, hrd, hg⟩
        have hTO3 := hTO3.base_ hstx2.sz
        have hstx3 := hstx2.step hrd hg
        clear HQ hrd hg hstx2
        have hq := textI_any gr rc 500 V9x3 hstx3.rd (by omega) (by omega)
        rw [HD.out] at hq
        try dsimp only at hq
        have HQ := Lib.hid hq
        clear hq
        go_wp2_with (first | (refine wp_cond_true (by go_simp) ?_) | (refine wp_cond_false (by go_simp) ?_))
        refine HQ.out.mono ?_
        rintro e V9x4 ⟨T4A, T4n, T4c, rfl, hTn4, hTO4, hrd, hg⟩
        have hTO4 := hTO4.base_ hstx3.sz
        have hstx4 := hstx3.step hrd hg
        have hTO3 := hTO3.kept hg hstx3.ord.2.1
        clear HQ hrd hg hstx3
        have k0 := hstx4.x.frozen
        obtain ⟨d0, d1, d2, d3, d4, d5, d6, d7, d8, d9, d10, d11, d12, d13, d14⟩ := hstx4.x.c15
        have hbx := ((((hstx4.x.set_ 4 (.int .u32 (pa : Int))).set_ 5 (.int .u16 (pb : Int))).set_ 6 (.slice T3A T3n T3c)).set_ 7 (.slice T4A T4n T4c))
        simp only [List.setIfInBounds_toArray, List.set_cons_succ, List.set_cons_zero] at hbx
        have hbg : V9x4.grownBy _ (some gx) := grownBy_setB (grownBy_setB (grownBy_setB (grownBy_setB (World.grownBy.refl _ (some gx)) 4 (.int .u32 (pa : Int))) 5 (.int .u16 (pb : Int))) 6 (.slice T3A T3n T3c)) 7 (.slice T4A T4n T4c)
        have hfin := hstx4.fill (s' := ⟨1, lsn, epoch, 0, pa, pb, tc, td, [], 0, 0, false, 0, [], []⟩) (y' := ⟨T3A, T3n, T3c, T4A, T4n, T4c, none, 0, 0, none, 0, 0, none, 0, 0⟩) hbx hbg ⟨hTO3, hTO4, Own.nil_ _ _, World.ownsRow_nil _ _ _ _, World.ownsRow_nil _ _ _ _, hTn3.out, hTn4.out, rfl, rfl, rfl⟩
        have HFIN := Lib.hid hfin
        clear hbx hbg hfin
        go_wp2_with (first | (refine wp_cond_true (by go_simp) ?_) | (refine wp_cond_false (by go_simp) ?_))
        go_meet
        case rel =>
          have he := HE.out
          injection he with he1 he2
          subst he1 he2
          exact ⟨rfl, _, HFIN.out⟩
      by_cases k2 : kd = 2
      · as_aux_lemma =>
        subst k2
        obtain ⟨qa, hQa⟩ : ∃ q, r3.fixed 8 = q := ⟨_, rfl⟩
        obtain ⟨pa, ra⟩ := qa
        obtain ⟨qb, hQb⟩ : ∃ q, ra.fixed 8 = q := ⟨_, rfl⟩
        obtain ⟨pb, rb⟩ := qb
        obtain ⟨qc, hQc⟩ : ∃ q, rb.fixed 8 = q := ⟨_, rfl⟩
        obtain ⟨pc, rc⟩ := qc
        obtain ⟨qd, hQd⟩ : ∃ q, rc.fixed 1 = q := ⟨_, rfl⟩
        obtain ⟨pd, rd⟩ := qd
        obtain ⟨qu, hQu⟩ : ∃ q, rd.text 64 = q := ⟨_, rfl⟩
        obtain ⟨pu, ru⟩ := qu
        have HE : Hid ((s', r') = ((⟨2, lsn, epoch, pa, 0, 0, [], [], pu, pb, pc, decide (pd = 1), 0, [], []⟩ : Lrec), ru)) := Lib.hid (by rw [← HFK.out, LogM.fK_2]; unfold LogM.fE; simp only [hQa, hQb, hQc, hQd, hQu]; rfl)
        have HQa := Lib.hid hQa
        have HQb := Lib.hid hQb
        have HQc := Lib.hid hQc
        have HQd := Lib.hid hQd
        have HQu := Lib.hid hQu
        clear hQa hQb hQc hQd hQu
        obtain ⟨d0, d1, d2, d3, d4, d5, d6, d7, d8, d9, d10, d11, d12, d13, d14⟩ := hst.x.c15
        clear d1 d2 d3 d4 d5 d6 d7 d8 d9 d10 d11 d12 d13 d14
        have hq := u64I_any gr r3 V9 hst.rd
        rw [HQa.out] at hq
        try dsimp only at hq
        have HQ := Lib.hid hq
        clear hq
        go_wp2_with (first | (refine wp_cond_true (by go_simp) ?_) | (refine wp_cond_false (by go_simp) ?_))
        try clear d0
        refine HQ.out.mono ?_
        rintro e V9x1 ⟨rfl, hrd, hg⟩
        have hstx1 := hst.step hrd hg
        clear HQ hrd hg hst
        have hq := u64I_any gr ra V9x1 hstx1.rd
        rw [HQb.out] at hq
        try dsimp only at hq
        have HQ := Lib.hid hq
        clear hq
        go_wp2_with (first | (refine wp_cond_true (by go_simp) ?_) | (refine wp_cond_false (by go_simp) ?_))
        refine HQ.out.mono ?_
        rintro e V9x2 ⟨rfl, hrd, hg⟩
        have hstx2 := hstx1.step hrd hg
        clear HQ hrd hg hstx1
        have hq := u64I_any gr rb V9x2 hstx2.rd
        rw [HQc.out] at hq
        try dsimp only at hq
        have HQ := Lib.hid hq
        clear hq
        go_wp2_with (first | (refine wp_cond_true (by go_simp) ?_) | (refine wp_cond_false (by go_simp) ?_))
        refine HQ.out.mono ?_
        rintro e V9x3 ⟨rfl, hrd, hg⟩
        have hstx3 := hstx2.step hrd hg
        clear HQ hrd hg hstx2
        have hq := u8I_any gr rc V9x3 hstx3.rd
        rw [HQd.out] at hq
        try dsimp only at hq
        have HQ := Lib.hid hq
        clear hq
        go_wp2_with (first | (refine wp_cond_true (by go_simp) ?_) | (refine wp_cond_false (by go_simp) ?_))
        refine HQ.out.mono ?_
        rintro e V9x4 ⟨rfl, hrd, hg⟩
        have hstx4 := hstx3.step hrd hg
        clear HQ hrd hg hstx3
        by_cases hd1 : pd = 1
        · have hdd : decide (pd = 1) = true := decide_eq_true hd1
          rw [hdd] at HE
          subst hd1
          have hq := textI_any gr rd 64 V9x4 hstx4.rd (by omega) (by omega)
          rw [HQu.out] at hq
          try dsimp only at hq
          have HQ := Lib.hid hq
          clear hq
          go_wp2_with (first | (refine wp_cond_true (by go_simp) ?_) | (refine wp_cond_false (by go_simp) ?_))
          refine HQ.out.mono ?_
          rintro e V9x5 ⟨T5A, T5n, T5c, rfl, hTn5, hTO5, hrd, hg⟩
          have hTO5 := hTO5.base_ hstx4.sz
          have hstx5 := hstx4.step hrd hg
          clear HQ hrd hg hstx4
          have k0 := hstx5.x.frozen
          obtain ⟨d0, d1, d2, d3, d4, d5, d6, d7, d8, d9, d10, d11, d12, d13, d14⟩ := hstx5.x.c15
          have hbx := (((((hstx5.x.set_ 3 (.int .u64 (pa : Int))).set_ 9 (.int .u64 (pb : Int))).set_ 10 (.int .u64 (pc : Int))).set_ 11 (.bool true)).set_ 8 (.slice T5A T5n T5c))
          simp only [List.setIfInBounds_toArray, List.set_cons_succ, List.set_cons_zero] at hbx
          have hbg : V9x5.grownBy _ (some gx) := grownBy_setB (grownBy_setB (grownBy_setB (grownBy_setB (grownBy_setB (World.grownBy.refl _ (some gx)) 3 (.int .u64 (pa : Int))) 9 (.int .u64 (pb : Int))) 10 (.int .u64 (pc : Int))) 11 (.bool true)) 8 (.slice T5A T5n T5c)
          have hfin := hstx5.fill (s' := ⟨2, lsn, epoch, pa, 0, 0, [], [], pu, pb, pc, true, 0, [], []⟩) (y' := ⟨none, 0, 0, none, 0, 0, T5A, T5n, T5c, none, 0, 0, none, 0, 0⟩) hbx hbg ⟨Own.nil_ _ _, Own.nil_ _ _, hTO5, World.ownsRow_nil _ _ _ _, World.ownsRow_nil _ _ _ _, rfl, rfl, hTn5.out, rfl, rfl⟩
          have HFIN := Lib.hid hfin
          clear hbx hbg hfin
          go_wp2_with (first | (refine wp_cond_true (by go_simp) ?_) | (refine wp_cond_false (by go_simp) ?_))
          go_meet
          case rel =>
            have he := HE.out
            injection he with he1 he2
            subst he1 he2
            exact ⟨rfl, _, HFIN.out⟩
        · have hdd : decide (pd = 1) = ((pd : Int) == 1) := by rw [decide_eq_false hd1]; exact (beq_eq_false_iff_ne.2 (by omega)).symm
          rw [hdd] at HE
          have hq := textI_any gr rd 64 V9x4 hstx4.rd (by omega) (by omega)
          rw [HQu.out] at hq
          try dsimp only at hq
          have HQ := Lib.hid hq
          clear hq
          go_wp2_with (first | (refine wp_cond_true (by go_simp) ?_) | (refine wp_cond_false (by go_simp) ?_))
          refine HQ.out.mono ?_
          rintro e V9x5 ⟨T5A, T5n, T5c, rfl, hTn5, hTO5, hrd, hg⟩
          have hTO5 := hTO5.base_ hstx4.sz
          have hstx5 := hstx4.step hrd hg
          clear HQ hrd hg hstx4
          have k0 := hstx5.x.frozen
          obtain ⟨d0, d1, d2, d3, d4, d5, d6, d7, d8, d9, d10, d11, d12, d13, d14⟩ := hstx5.x.c15
          have hbx := (((((hstx5.x.set_ 3 (.int .u64 (pa : Int))).set_ 9 (.int .u64 (pb : Int))).set_ 10 (.int .u64 (pc : Int))).set_ 11 (.bool ((pd : Int) == 1))).set_ 8 (.slice T5A T5n T5c))
          simp only [List.setIfInBounds_toArray, List.set_cons_succ, List.set_cons_zero] at hbx
          have hbg : V9x5.grownBy _ (some gx) := grownBy_setB (grownBy_setB (grownBy_setB (grownBy_setB (grownBy_setB (World.grownBy.refl _ (some gx)) 3 (.int .u64 (pa : Int))) 9 (.int .u64 (pb : Int))) 10 (.int .u64 (pc : Int))) 11 (.bool ((pd : Int) == 1))) 8 (.slice T5A T5n T5c)
          have hfin := hstx5.fill (s' := ⟨2, lsn, epoch, pa, 0, 0, [], [], pu, pb, pc, ((pd : Int) == 1), 0, [], []⟩) (y' := ⟨none, 0, 0, none, 0, 0, T5A, T5n, T5c, none, 0, 0, none, 0, 0⟩) hbx hbg ⟨Own.nil_ _ _, Own.nil_ _ _, hTO5, World.ownsRow_nil _ _ _ _, World.ownsRow_nil _ _ _ _, rfl, rfl, hTn5.out, rfl, rfl⟩
          have HFIN := Lib.hid hfin
          clear hbx hbg hfin
          go_wp2_with (first | (refine wp_cond_true (by go_simp) ?_) | (refine wp_cond_false (by go_simp) ?_))
          go_meet
          case rel =>
            have he := HE.out
            injection he with he1 he2
            subst he1 he2
            exact ⟨rfl, _, HFIN.out⟩
      by_cases k3 : kd = 3
      · as_aux_lemma =>
        subst k3
        obtain ⟨qa, hQa⟩ : ∃ q, r3.fixed 8 = q := ⟨_, rfl⟩
        obtain ⟨pa, ra⟩ := qa
        obtain ⟨qb, hQb⟩ : ∃ q, ra.fixed 8 = q := ⟨_, rfl⟩
        obtain ⟨pb, rb⟩ := qb
        have HE : Hid ((s', r') = ((⟨3, lsn, epoch, pa, 0, 0, [], [], [], 0, 0, false, pb, [], []⟩ : Lrec), rb)) := Lib.hid (by rw [← HFK.out, LogM.fK_3]; unfold LogM.fC; simp only [hQa, hQb]; rfl)
        have HQa := Lib.hid hQa
        have HQb := Lib.hid hQb
        clear hQa hQb
        obtain ⟨d0, d1, d2, d3, d4, d5, d6, d7, d8, d9, d10, d11, d12, d13, d14⟩ := hst.x.c15
        clear d1 d2 d3 d4 d5 d6 d7 d8 d9 d10 d11 d12 d13 d14
        have hq := u64I_any gr r3 V9 hst.rd
        rw [HQa.out] at hq
        try dsimp only at hq
        have HQ := Lib.hid hq
        clear hq
        go_wp2_with (first | (refine wp_cond_true (by go_simp) ?_) | (refine wp_cond_false (by go_simp) ?_))
        try clear d0
        refine HQ.out.mono ?_
        rintro e V9x1 ⟨rfl, hrd, hg⟩
        have hstx1 := hst.step hrd hg
        clear HQ hrd hg hst
        have hq := u64I_any gr ra V9x1 hstx1.rd
        rw [HQb.out] at hq
        try dsimp only at hq
        have HQ := Lib.hid hq
        clear hq
        go_wp2_with (first | (refine wp_cond_true (by go_simp) ?_) | (refine wp_cond_false (by go_simp) ?_))
        refine HQ.out.mono ?_
        rintro e V9x2 ⟨rfl, hrd, hg⟩
        have hstx2 := hstx1.step hrd hg
        clear HQ hrd hg hstx1
        have k0 := hstx2.x.frozen
        obtain ⟨d0, d1, d2, d3, d4, d5, d6, d7, d8, d9, d10, d11, d12, d13, d14⟩ := hstx2.x.c15
        have hbx := ((hstx2.x.set_ 3 (.int .u64 (pa : Int))).set_ 12 (.int .u64 (pb : Int)))
        simp only [List.setIfInBounds_toArray, List.set_cons_succ, List.set_cons_zero] at hbx
        have hbg : V9x2.grownBy _ (some gx) := grownBy_setB (grownBy_setB (World.grownBy.refl _ (some gx)) 3 (.int .u64 (pa : Int))) 12 (.int .u64 (pb : Int))
        have hfin := hstx2.fill (s' := ⟨3, lsn, epoch, pa, 0, 0, [], [], [], 0, 0, false, pb, [], []⟩) (y' := Lsl.z) hbx hbg ⟨Own.nil_ _ _, Own.nil_ _ _, Own.nil_ _ _, World.ownsRow_nil _ _ _ _, World.ownsRow_nil _ _ _ _, rfl, rfl, rfl, rfl, rfl⟩
        have HFIN := Lib.hid hfin
        clear hbx hbg hfin
        go_wp2_with (first | (refine wp_cond_true (by go_simp) ?_) | (refine wp_cond_false (by go_simp) ?_))
        go_meet
        case rel =>
          have he := HE.out
          injection he with he1 he2
          subst he1 he2
          exact ⟨rfl, _, HFIN.out⟩
      by_cases k4 : kd = 4
      · as_aux_lemma =>
        subst k4
        obtain ⟨qa, hQa⟩ : ∃ q, r3.fixed 8 = q := ⟨_, rfl⟩
        obtain ⟨pa, ra⟩ := qa
        have HE : Hid ((s', r') = ((⟨4, lsn, epoch, pa, 0, 0, [], [], [], 0, 0, false, 0, [], []⟩ : Lrec), ra)) := Lib.hid (by rw [← HFK.out, LogM.fK_4]; unfold LogM.fD; simp only [hQa]; rfl)
        have HQa := Lib.hid hQa
        clear hQa
        obtain ⟨d0, d1, d2, d3, d4, d5, d6, d7, d8, d9, d10, d11, d12, d13, d14⟩ := hst.x.c15
        clear d1 d2 d3 d4 d5 d6 d7 d8 d9 d10 d11 d12 d13 d14
        have hq := u64I_any gr r3 V9 hst.rd
        rw [HQa.out] at hq
        try dsimp only at hq
        have HQ := Lib.hid hq
        clear hq
        go_wp2_with (first | (refine wp_cond_true (by go_simp) ?_) | (refine wp_cond_false (by go_simp) ?_))
        try clear d0
        refine HQ.out.mono ?_
        rintro e V9x1 ⟨rfl, hrd, hg⟩
        have hstx1 := hst.step hrd hg
        clear HQ hrd hg hst
        have k0 := hstx1.x.frozen
        obtain ⟨d0, d1, d2, d3, d4, d5, d6, d7, d8, d9, d10, d11, d12, d13, d14⟩ := hstx1.x.c15
        have hbx := (hstx1.x.set_ 3 (.int .u64 (pa : Int)))
        simp only [List.setIfInBounds_toArray, List.set_cons_succ, List.set_cons_zero] at hbx
        have hbg : V9x1.grownBy _ (some gx) := grownBy_setB (World.grownBy.refl _ (some gx)) 3 (.int .u64 (pa : Int))
        have hfin := hstx1.fill (s' := ⟨4, lsn, epoch, pa, 0, 0, [], [], [], 0, 0, false, 0, [], []⟩) (y' := Lsl.z) hbx hbg ⟨Own.nil_ _ _, Own.nil_ _ _, Own.nil_ _ _, World.ownsRow_nil _ _ _ _, World.ownsRow_nil _ _ _ _, rfl, rfl, rfl, rfl, rfl⟩
        have HFIN := Lib.hid hfin
        clear hbx hbg hfin
        go_wp2_with (first | (refine wp_cond_true (by go_simp) ?_) | (refine wp_cond_false (by go_simp) ?_))
        go_meet
        case rel =>
          have he := HE.out
          injection he with he1 he2
          subst he1 he2
          exact ⟨rfl, _, HFIN.out⟩
      by_cases k5 : kd = 5
      · as_aux_lemma =>
        subst k5
        obtain ⟨qa, hQa⟩ : ∃ q, r3.uv = q := ⟨_, rfl⟩
        obtain ⟨n1, rn⟩ := qa
        obtain ⟨mm, hmm⟩ : ∃ mm, min n1 17 = mm := ⟨_, rfl⟩
        obtain ⟨qb, hQb⟩ : ∃ q, LogM.many LogM.ch1 mm rn = q := ⟨_, rfl⟩
        obtain ⟨xs, rp⟩ := qb
        obtain ⟨qc, hQc⟩ : ∃ q, rp.uv = q := ⟨_, rfl⟩
        obtain ⟨n2, rm⟩ := qc
        obtain ⟨kk, hkk⟩ : ∃ kk, min n2 65 = kk := ⟨_, rfl⟩
        obtain ⟨qd, hQd⟩ : ∃ q, LogM.many LogM.dt1 kk rm = q := ⟨_, rfl⟩
        obtain ⟨ys, re⟩ := qd
        have HE : Hid ((s', r') = ((⟨5, lsn, epoch, 0, 0, 0, [], [], [], 0, 0, false, 0, xs, ys⟩ : Lrec), re)) := Lib.hid (by rw [← HFK.out, LogM.fK_5]; unfold LogM.fP; simp only [hQa, hmm, hQb, hQc, hkk, hQd]; rfl)
        have hm17 : mm ≤ 17 := by rw [← hmm]; exact Nat.min_le_right _ _
        have hk65 : kk ≤ 65 := by rw [← hkk]; exact Nat.min_le_right _ _
        have HMIN1 : Hid ((if (17 : Int) < (n1 : Int) then (17 : Int) else (n1 : Int)) = (mm : Int)) := Lib.hid (by rw [← hmm]; split <;> omega)
        have HMIN2 : Hid ((if (65 : Int) < (n2 : Int) then (65 : Int) else (n2 : Int)) = (kk : Int)) := Lib.hid (by rw [← hkk]; split <;> omega)
        have HQb := Lib.hid hQb
        have HQc := Lib.hid hQc
        have HQd := Lib.hid hQd
        have hq := uvI_any gr r3 V9 hst.rd
        rw [hQa] at hq
        try dsimp only at hq
        have HQ := Lib.hid hq
        clear hq hQa hmm hQb hQc hkk hQd
        obtain ⟨d0, d1, d2, d3, d4, d5, d6, d7, d8, d9, d10, d11, d12, d13, d14⟩ := hst.x.c15
        clear d1 d2 d3 d4 d5 d6 d7 d8 d9 d10 d11 d12 d13 d14
        go_wp2_with (first | (refine wp_cond_true (by go_simp) ?_) | (refine wp_cond_false (by go_simp) ?_))
        refine HQ.out.mono ?_
        rintro e V9a ⟨rfl, hrd, hg⟩
        have hst1 := hst.step hrd hg
        clear HQ hrd hg hst d0
        have hmin := HMIN1.out
        go_wp2_with (first | (refine wp_cond_true (by go_simp) ?_) | (refine wp_cond_false (by go_simp) ?_))
        clear hmin
        go_loopw [112] (fun i wr => ∃ (q pc : Nat) (pA : Option Addr), i = .int .u64 (q : Int) ∧ q ≤ mm ∧ RSt w.heap.size base w gr gx gz (some ⟨ab, ao, none⟩) m (LogM.many LogM.ch1 q rn).2 (⟨5, lsn, epoch, 0, 0, 0, [], [], [], 0, 0, false, 0, (LogM.many LogM.ch1 q rn).1, []⟩ : Lrec) (⟨none, 0, 0, none, 0, 0, none, 0, 0, pA, q, pc, none, 0, 0⟩ : Lsl) wr) (fun i _ => mm - (RowKit.intOf i).toNat)
        case atStart => exact ⟨0, 0, none, rfl, Nat.zero_le _, hst1⟩
        case round =>
          clear hst1
          obtain ⟨q, pc, pA, rfl, hq, hI⟩ := hrel
          by_cases hlt : q < mm
          · obtain ⟨qq, hqq⟩ : ∃ p, LogM.many LogM.ch1 q rn = p := ⟨_, rfl⟩
            obtain ⟨lx, rq⟩ := qq
            obtain ⟨w1_, hU1⟩ : ∃ p, rq.fixed 8 = p := ⟨_, rfl⟩
            obtain ⟨u1, ra⟩ := w1_
            obtain ⟨w2_, hU2⟩ : ∃ p, ra.fixed 8 = p := ⟨_, rfl⟩
            obtain ⟨u2, rb⟩ := w2_
            obtain ⟨w3_, hU3⟩ : ∃ p, rb.fixed 8 = p := ⟨_, rfl⟩
            obtain ⟨u3, rc⟩ := w3_
            have HNX : Hid (LogM.many LogM.ch1 (q + 1) rn = (lx ++ [(u1, u2, u3)], rc)) := Lib.hid (by unfold LogM.many; rw [hqq]; unfold LogM.ch1; simp only [hU1, hU2, hU3])
            have HLX : Hid (lx.length = q) := Lib.hid (by have := LogM.many_length LogM.ch1 q rn; rw [hqq] at this; exact this)
            rw [hqq] at hI
            have HU1 := Lib.hid hU1
            have HU2 := Lib.hid hU2
            have HU3 := Lib.hid hU3
            clear hU1 hU2 hU3 hqq
            have hG : Go_ w.heap.size base base gr gx gz (some ⟨ab, ao, none⟩) (fun v : Value => (#[.int .i64 5, .int .u64 (lsn : Int), .int .u32 (epoch : Int), .int .u64 0, .int .u32 0, .int .u16 0, .slice none 0 0, .slice none 0 0, .slice none 0 0, .int .u64 0, .int .u64 0, .bool false, .int .u64 0, v, .slice none 0 0] : Array Value)) (fun _ : World => True) := ⟨Nat.le_refl _, hI.ia, by
              intro v hv u hu c
              simp only [List.mem_cons, List.not_mem_nil, or_false] at hu
              rcases hu with rfl | rfl | rfl | rfl | rfl | rfl | rfl | rfl | rfl | rfl | rfl | rfl | rfl | rfl | rfl <;> first | exact hv c | simp [B], hI.ord, fun _ _ _ _ => trivial, fun _ _ _ _ => trivial, fun _ _ _ _ => trivial, fun _ _ _ _ _ _ => trivial⟩
            have hGr0 : Gr 54 3 w.heap.size base base w gr gx gz (some ⟨ab, ao, none⟩) m rq ra rb rc (fun v : Value => (#[.int .i64 5, .int .u64 (lsn : Int), .int .u32 (epoch : Int), .int .u64 0, .int .u32 0, .int .u16 0, .slice none 0 0, .slice none 0 0, .slice none 0 0, .int .u64 0, .int .u64 0, .bool false, .int .u64 0, v, .slice none 0 0] : Array Value)) (fun _ : World => True) pA q pc (lx.flatMap chC) (chC (u1, u2, u3)) 0 none 0 false false false false false false wr := Gr.start hI.rd hI.x hI.z hI.bel hI.sz hI.inp hI.ow.p trivial
            have hgo := hI.ow
            clear hI
            go_upto_region 23 with fail
            refine wp_named fun a0 ha0 => ?_
            have z6 : a0.tmps.getD 6 undef = (.pointer (some ⟨gr, 0, none⟩)) := by rw [ha0.out]; rfl
            have z9 : a0.tmps.getD 9 undef = (.pointer (some ⟨gx, 0, none⟩)) := by rw [ha0.out]; rfl
            have hsz0 : a0.tmps.size = 163 := by rw [ha0.out]; rfl
            refine wp_region_invB _ (by kernel_rfl) (fun L a wv => ∃ g9 Aq cq, PIF a0 [114, 115, 116, 117, 118, 119, 120, 121, 122, 123, 124, 125] (rcP gx gr pA q pc u1 u2 u3 g9 Aq cq) L a ∧ Gr 54 3 w.heap.size base base w gr gx gz (some ⟨ab, ao, none⟩) m rq ra rb rc (fun v : Value => (#[.int .i64 5, .int .u64 (lsn : Int), .int .u32 (epoch : Int), .int .u64 0, .int .u32 0, .int .u16 0, .slice none 0 0, .slice none 0 0, .slice none 0 0, .int .u64 0, .int .u64 0, .bool false, .int .u64 0, v, .slice none 0 0] : Array Value)) (fun _ : World => True) pA q pc (lx.flatMap chC) (chC (u1, u2, u3)) g9 Aq cq (L 3) (L 5) (L 7) (L 9) (L 10) (L 12) wv ∧ ((L 10 = true → L 1 = true) ∧ (L 8 = true → L 7 = true))) (by kernel_rfl) ?_ ?_ ?_
            · exact ⟨0, none, 0, PIF.start _ _ _, hGr0.drew (fun h => h), ⟨nofun, nofun⟩⟩
            rotate_left
            · as_aux_lemma =>
              refine ⟨?_, ?_, ?_, ?_, ?_, ?_, ?_, ?_, ?_, ?_, ?_, ?_, ?_, trivial⟩
              · intro L a w1 hI hi hd
                obtain ⟨g9, Aq, cq, hp, hw, hps⟩ := hI
                have t9 := hp.at_ 9 _ rfl z9
                have t9' := t9
                rw [Array.getD_eq_getD_getElem?] at t9'
                exact rstep_valW (wanted_none rfl _) (.pointer (some ⟨gx, 13, none⟩)) w1 (by go_simp) ⟨g9, Aq, cq, (hp.put 0 114 (.pointer (some ⟨gx, 13, none⟩)) (by simp [rcP]) (by simp [rcP]) rfl (by rw [hsz0]; decide)), hw, hps⟩
              · intro L a w1 hI hi hd
                obtain ⟨g9, Aq, cq, hp, hw, hps⟩ := hI
                simp [Region.binds] at hd
                have e0 := hp.pu (0, 114, (.pointer (some ⟨gx, 13, none⟩))) (by simp [rcP]) (by simp [hd])
                simp only at e0
                have f0 : a.tmps[114]?.getD undef = (.pointer (some ⟨gx, 13, none⟩)) := by rw [← Array.getD_eq_getD_getElem?]; exact e0
                have hi : L 1 = false := hi
                have n10 : L 10 = false := by cases h : L 10 with | false => rfl | true => have := hps.1 h; rw [hi] at this; cases this
                have n12 := hw.no.2.2.2.2 n10
                have hx : Blk w1 gx 31 ((fun v : Value => (#[.int .i64 5, .int .u64 (lsn : Int), .int .u32 (epoch : Int), .int .u64 0, .int .u32 0, .int .u16 0, .slice none 0 0, .slice none 0 0, .slice none 0 0, .int .u64 0, .int .u64 0, .bool false, .int .u64 0, v, .slice none 0 0] : Array Value)) (.slice pA q pc)) := by have := hw.x; rw [n12] at this; exact this
                obtain ⟨d0, d1, d2, d3, d4, d5, d6, d7, d8, d9, d10, d11, d12, d13, d14⟩ := hx.c15
                exact rstep_valW (wanted_none rfl _) (.slice pA q pc) w1 (by go_simp) ⟨g9, Aq, cq, PIF.put hp 1 115 (.slice pA q pc) (by simp [rcP]) (by simp [rcP]) rfl (by rw [hsz0]; decide), hw, ⟨fun q => (by have q : L 10 = true := q; rw [n10] at q; cases q), hps.2⟩⟩
              · intro L a w1 hI hi hd
                obtain ⟨g9, Aq, cq, hp, hw, hps⟩ := hI
                have t6 := hp.at_ 6 _ rfl z6
                have t6' := t6
                rw [Array.getD_eq_getD_getElem?] at t6'
                exact rstep_valW (wanted_none rfl _) (.pointer (some ⟨gr, 0, none⟩)) w1 (by go_simp) ⟨g9, Aq, cq, (hp.put 2 116 (.pointer (some ⟨gr, 0, none⟩)) (by simp [rcP]) (by simp [rcP]) rfl (by rw [hsz0]; decide)), hw, hps⟩
              · intro L a w1 hI hi hd
                obtain ⟨g9, Aq, cq, hp, hw, hps⟩ := hI
                simp [Region.binds] at hd
                have e2 := hp.pu (2, 116, (.pointer (some ⟨gr, 0, none⟩))) (by simp [rcP]) (by simp [hd])
                simp only at e2
                have f2 : a.tmps[116]?.getD undef = (.pointer (some ⟨gr, 0, none⟩)) := by rw [← Array.getD_eq_getD_getElem?]; exact e2
                have hi : L 3 = false := hi
                have hn := hw.no
                have n5 := hn.1 hi
                have n7 := hn.2.1 n5
                have n9 := hn.2.2.1 n7
                have hrd := hw.rd
                rw [hi, n5, n7] at hrd
                have q := u64I_any gr rq w1 hrd
                rw [HU1.out] at q
                try dsimp only at q
                refine rstep_callW (wanted_none rfl _) 24 #[.pointer (some ⟨gr, 0, none⟩)] (by go_simp) ?_
                refine q.mono ?_
                rintro e w2 ⟨rfl, hrd2, hg⟩
                exact ⟨g9, Aq, cq, PIF.put hp 3 117 (.int .u64 (u1 : Int)) (by simp [rcP]) (by simp [rcP]) rfl (by rw [hsz0]; decide), hw.step (c3 := true) (c5 := L 5) (c7 := L 7) hG n9 (by rw [n5, n7]; exact hrd2) hg (fun _ => rfl) (fun q => by rw [n7] at q; cases q), hps⟩
              · intro L a w1 hI hi hd
                obtain ⟨g9, Aq, cq, hp, hw, hps⟩ := hI
                have t6 := hp.at_ 6 _ rfl z6
                have t6' := t6
                rw [Array.getD_eq_getD_getElem?] at t6'
                exact rstep_valW (wanted_none rfl _) (.pointer (some ⟨gr, 0, none⟩)) w1 (by go_simp) ⟨g9, Aq, cq, (hp.put 4 118 (.pointer (some ⟨gr, 0, none⟩)) (by simp [rcP]) (by simp [rcP]) rfl (by rw [hsz0]; decide)), hw, hps⟩
              · intro L a w1 hI hi hd
                obtain ⟨g9, Aq, cq, hp, hw, hps⟩ := hI
                simp [Region.binds] at hd
                have e4 := hp.pu (4, 118, (.pointer (some ⟨gr, 0, none⟩))) (by simp [rcP]) (by simp [hd])
                simp only at e4
                have f4 : a.tmps[118]?.getD undef = (.pointer (some ⟨gr, 0, none⟩)) := by rw [← Array.getD_eq_getD_getElem?]; exact e4
                have hi : L 5 = false := hi
                have hn := hw.no
                have h3 : L 3 = true := by simp [hd]
                have n7 := hn.2.1 hi
                have n9 := hn.2.2.1 n7
                have hrd := hw.rd
                rw [hi, h3, n7] at hrd
                have q := u64I_any gr ra w1 hrd
                rw [HU2.out] at q
                try dsimp only at q
                refine rstep_callW (wanted_none rfl _) 24 #[.pointer (some ⟨gr, 0, none⟩)] (by go_simp) ?_
                refine q.mono ?_
                rintro e w2 ⟨rfl, hrd2, hg⟩
                exact ⟨g9, Aq, cq, PIF.put hp 5 119 (.int .u64 (u2 : Int)) (by simp [rcP]) (by simp [rcP]) rfl (by rw [hsz0]; decide), hw.step (c3 := L 3) (c5 := true) (c7 := L 7) hG n9 (by rw [h3, n7]; exact hrd2) hg (fun _ => h3) (fun _ => rfl), hps⟩
              · intro L a w1 hI hi hd
                obtain ⟨g9, Aq, cq, hp, hw, hps⟩ := hI
                have t6 := hp.at_ 6 _ rfl z6
                have t6' := t6
                rw [Array.getD_eq_getD_getElem?] at t6'
                exact rstep_valW (wanted_none rfl _) (.pointer (some ⟨gr, 0, none⟩)) w1 (by go_simp) ⟨g9, Aq, cq, (hp.put 6 120 (.pointer (some ⟨gr, 0, none⟩)) (by simp [rcP]) (by simp [rcP]) rfl (by rw [hsz0]; decide)), hw, hps⟩
              · intro L a w1 hI hi hd
                obtain ⟨g9, Aq, cq, hp, hw, hps⟩ := hI
                simp [Region.binds] at hd
                have e6 := hp.pu (6, 120, (.pointer (some ⟨gr, 0, none⟩))) (by simp [rcP]) (by simp [hd])
                simp only at e6
                have f6 : a.tmps[120]?.getD undef = (.pointer (some ⟨gr, 0, none⟩)) := by rw [← Array.getD_eq_getD_getElem?]; exact e6
                have hi : L 7 = false := hi
                have hn := hw.no
                have h5 : L 5 = true := by simp [hd]
                have h3 := hw.k5 h5
                have n9 := hn.2.2.1 hi
                have hrd := hw.rd
                rw [hi, h3, h5] at hrd
                have q := u64I_any gr rb w1 hrd
                rw [HU3.out] at q
                try dsimp only at q
                refine rstep_callW (wanted_none rfl _) 24 #[.pointer (some ⟨gr, 0, none⟩)] (by go_simp) ?_
                refine q.mono ?_
                rintro e w2 ⟨rfl, hrd2, hg⟩
                exact ⟨g9, Aq, cq, PIF.put hp 7 121 (.int .u64 (u3 : Int)) (by simp [rcP]) (by simp [rcP]) rfl (by rw [hsz0]; decide), hw.step (c3 := L 3) (c5 := L 5) (c7 := true) hG n9 (by rw [h3, h5]; exact hrd2) hg (fun _ => h3) (fun _ => h5), ⟨hps.1, fun _ => rfl⟩⟩
              · intro L a w1 hI hi hd
                obtain ⟨g9, Aq, cq, hp, hw, hps⟩ := hI
                simp [Region.binds] at hd
                have e3 := hp.pu (3, 117, (.int .u64 (u1 : Int))) (by simp [rcP]) (by simp [hd])
                simp only at e3
                have f3 : a.tmps[117]?.getD undef = (.int .u64 (u1 : Int)) := by rw [← Array.getD_eq_getD_getElem?]; exact e3
                have e5 := hp.pu (5, 119, (.int .u64 (u2 : Int))) (by simp [rcP]) (by simp [hd])
                simp only at e5
                have f5 : a.tmps[119]?.getD undef = (.int .u64 (u2 : Int)) := by rw [← Array.getD_eq_getD_getElem?]; exact e5
                have e7 := hp.pu (7, 121, (.int .u64 (u3 : Int))) (by simp [rcP]) (by simp [hd])
                simp only at e7
                have f7 : a.tmps[121]?.getD undef = (.int .u64 (u3 : Int)) := by rw [← Array.getD_eq_getD_getElem?]; exact e7
                exact rstep_valW (wanted_none rfl _) (.agg #[.int .u64 (u1 : Int), .int .u64 (u2 : Int), .int .u64 (u3 : Int)]) w1 (by go_simp) ⟨g9, Aq, cq, (hp.put 8 122 (.agg #[.int .u64 (u1 : Int), .int .u64 (u2 : Int), .int .u64 (u3 : Int)]) (by simp [rcP]) (by simp [rcP]) rfl (by rw [hsz0]; decide)), hw, ⟨hps.1, fun _ => (show L 7 = true by simp [hd])⟩⟩
              · intro L a w1 hI hi hd
                obtain ⟨g9, Aq, cq, hp, hw, hps⟩ := hI
                simp [Region.binds] at hd
                have e8 := hp.pu (8, 122, (.agg #[.int .u64 (u1 : Int), .int .u64 (u2 : Int), .int .u64 (u3 : Int)])) (by simp [rcP]) (by simp [hd])
                simp only at e8
                have f8 : a.tmps[122]?.getD undef = (.agg #[.int .u64 (u1 : Int), .int .u64 (u2 : Int), .int .u64 (u3 : Int)]) := by rw [← Array.getD_eq_getD_getElem?]; exact e8
                have hi : L 9 = false := hi
                have h7 : L 7 = true := hps.2 (by simp [hd])
                refine rstep_valW (wanted_none rfl _) (.slice (some ⟨w1.heap.size, 0, none⟩) 1 1) (w1.alloc (.cells #[.int .u64 (u1 : Int), .int .u64 (u2 : Int), .int .u64 (u3 : Int)] 54)) (by go_simp) ⟨w1.heap.size, Aq, cq, PIF.put (PIF.swap (p2 := (rcP gx gr pA q pc u1 u2 u3 w1.heap.size Aq cq)) hp (by intro q hq hL; simp only [rcP, List.mem_cons, List.not_mem_nil, or_false] at hq; rcases hq with rfl | rfl | rfl | rfl | rfl | rfl | rfl | rfl | rfl | rfl | rfl | rfl <;> first | (simp [rcP]; done) | exact absurd hL (by show ¬ L 9 = true; rw [hi]; simp))) 9 123 (.slice (some ⟨w1.heap.size, 0, none⟩) 1 1) (by simp [rcP]) (by simp [rcP]) rfl (by rw [hsz0]; decide), ?_, hps⟩
                exact hw.lit hi h7 hG
              · intro L a w1 hI hi hd
                obtain ⟨g9, Aq, cq, hp, hw, hps⟩ := hI
                simp [Region.binds] at hd
                have e1 := hp.pu (1, 115, (.slice pA q pc)) (by simp [rcP]) (by simp [hd])
                simp only at e1
                have f1 : a.tmps[115]?.getD undef = (.slice pA q pc) := by rw [← Array.getD_eq_getD_getElem?]; exact e1
                have e9 := hp.pu (9, 123, (.slice (some ⟨g9, 0, none⟩) 1 1)) (by simp [rcP]) (by simp [hd])
                simp only at e9
                have f9 : a.tmps[123]?.getD undef = (.slice (some ⟨g9, 0, none⟩) 1 1) := by rw [← Array.getD_eq_getD_getElem?]; exact e9
                have hi : L 10 = false := hi
                have h9 : L 9 = true := by simp [hd]
                have h1' : L 1 = true := by simp [hd]
                have hO := hw.o0 hi
                have ho9 := (hw.o9 h9 hi).1
                obtain ⟨i0, hi0, hz0, hz1, hz2⟩ := info_parts info_chC
                refine rstep_wp rfl (wp_append_row w1 (.tmp 115) (.tmp 123) _ rfl base 54 i0 _ 3 24 Try.underlying28 hi0 hz0 hz1 hz2 rfl (by omega) (.slice pA q pc) q (lx.flatMap chC) e1 hO (some ⟨g9, 0, none⟩) 1 1 (chC (u1, u2, u3)) e9 rfl ho9 (one_chC _) (by unfold maxLen; omega) (by omega) hw.sz fun A2 c2 w2 h1 h2 h3 => ?_)
                refine ⟨g9, A2, c2, PIF.put (PIF.swap (p2 := (rcP gx gr pA q pc u1 u2 u3 g9 A2 c2)) hp (by intro q hq hL; simp only [rcP, List.mem_cons, List.not_mem_nil, or_false] at hq; rcases hq with rfl | rfl | rfl | rfl | rfl | rfl | rfl | rfl | rfl | rfl | rfl | rfl <;> first | (simp [rcP]; done) | exact absurd hL (by show ¬ L 10 = true; rw [hi]; simp))) 10 124 (.slice A2 (q + 1) c2) (by simp [rcP]) (by simp [rcP]) rfl (by rw [hsz0]; decide), ?_, ⟨fun _ => h1', hps.2⟩⟩
                exact hw.app hi h9 hG h1 h2
              · intro L a w1 hI hi hd
                obtain ⟨g9, Aq, cq, hp, hw, hps⟩ := hI
                have t9 := hp.at_ 9 _ rfl z9
                have t9' := t9
                rw [Array.getD_eq_getD_getElem?] at t9'
                exact rstep_valW (wanted_none rfl _) (.pointer (some ⟨gx, 13, none⟩)) w1 (by go_simp) ⟨g9, Aq, cq, (hp.put 11 125 (.pointer (some ⟨gx, 13, none⟩)) (by simp [rcP]) (by simp [rcP]) rfl (by rw [hsz0]; decide)), hw, hps⟩
              · intro L a w1 hI hi hd
                obtain ⟨g9, Aq, cq, hp, hw, hps⟩ := hI
                simp [Region.binds] at hd
                have e10 := hp.pu (10, 124, (.slice Aq (q + 1) cq)) (by simp [rcP]) (by simp [hd])
                simp only at e10
                have f10 : a.tmps[124]?.getD undef = (.slice Aq (q + 1) cq) := by rw [← Array.getD_eq_getD_getElem?]; exact e10
                have e11 := hp.pu (11, 125, (.pointer (some ⟨gx, 13, none⟩))) (by simp [rcP]) (by simp [hd])
                simp only at e11
                have f11 : a.tmps[125]?.getD undef = (.pointer (some ⟨gx, 13, none⟩)) := by rw [← Array.getD_eq_getD_getElem?]; exact e11
                have hi : L 12 = false := hi
                have h10 : L 10 = true := by simp [hd]
                have hx : Blk w1 gx 31 ((fun v : Value => (#[.int .i64 5, .int .u64 (lsn : Int), .int .u32 (epoch : Int), .int .u64 0, .int .u32 0, .int .u16 0, .slice none 0 0, .slice none 0 0, .slice none 0 0, .int .u64 0, .int .u64 0, .bool false, .int .u64 0, v, .slice none 0 0] : Array Value)) (.slice pA q pc)) := by have := hw.x; rw [hi] at this; exact this
                have k13 := hx.frozen 13
                obtain ⟨d0, d1, d2, d3, d4, d5, d6, d7, d8, d9, d10, d11, d12, d13, d14⟩ := hx.c15
                refine rstep_skip rfl (w1.setCell ⟨gx, 13, none⟩ (.slice Aq (q + 1) cq)) (by go_simp) ⟨g9, Aq, cq, (hp.skip 12 undef (by simp [rcP])), ?_, hps⟩
                exact hw.sto hi h10 hG 13 (fun u v => rfl)
            rintro L a W ⟨g9, Aq, cq, hp, hw, hps⟩ hL
            have hGW : Gr 54 3 w.heap.size base base w gr gx gz (some ⟨ab, ao, none⟩) m rq ra rb rc (fun v : Value => (#[.int .i64 5, .int .u64 (lsn : Int), .int .u32 (epoch : Int), .int .u64 0, .int .u32 0, .int .u16 0, .slice none 0 0, .slice none 0 0, .slice none 0 0, .int .u64 0, .int .u64 0, .bool false, .int .u64 0, v, .slice none 0 0] : Array Value)) (fun _ : World => True) pA q pc (lx.flatMap chC) (chC (u1, u2, u3)) g9 Aq cq true true true true true true W := by
              have h := hw
              rw [hL 3 (by simp), hL 5 (by simp), hL 7 (by simp), hL 9 (by simp), hL 10 (by simp), hL 12 (by simp)] at h
              exact h
            rw [hp.eq]
            refine of_assigns (P := Try.prog) _ _ _ _ ?_
            rw [ha0.out]
            simp only [asgs, List.map]
            generalize a.tmps.getD 114 undef = u114
            generalize a.tmps.getD 115 undef = u115
            generalize a.tmps.getD 116 undef = u116
            generalize a.tmps.getD 117 undef = u117
            generalize a.tmps.getD 118 undef = u118
            generalize a.tmps.getD 119 undef = u119
            generalize a.tmps.getD 120 undef = u120
            generalize a.tmps.getD 121 undef = u121
            generalize a.tmps.getD 122 undef = u122
            generalize a.tmps.getD 123 undef = u123
            generalize a.tmps.getD 124 undef = u124
            generalize a.tmps.getD 125 undef = u125
            clear hp hL hw hps ha0 z6 z9 hsz0 hGr0
            clear a0 a L
            have hnew : RSt w.heap.size base w gr gx gz (some ⟨ab, ao, none⟩) m rc (⟨5, lsn, epoch, 0, 0, 0, [], [], [], 0, 0, false, 0, lx ++ [(u1, u2, u3)], []⟩ : Lrec) (⟨none, 0, 0, none, 0, 0, none, 0, 0, Aq, q + 1, cq, none, 0, 0⟩ : Lsl) W :=
              ⟨hGW.rd, hGW.x, hGW.z, ⟨Own.nil_ _ _, Own.nil_ _ _, Own.nil_ _ _, by have := hGW.o1 rfl; rw [List.flatMap_append, List.flatMap_cons, List.flatMap_nil, List.append_nil]; exact this, World.ownsRow_nil _ _ _ _, rfl, rfl, rfl, by rw [List.length_append, HLX.out]; rfl, rfl⟩, hGW.bel, hGW.sz, hGW.inp, hG.ia, hG.ord⟩
            have HNEW := Lib.hid hnew
            clear hnew hGW hG hgo
            go_wp2_with (first | (refine wp_cond_true (by go_simp) ?_) | (refine wp_cond_false (by go_simp) ?_))
            go_roundw
            case rel => exact ⟨q + 1, cq, Aq, by go_num, by omega, by rw [HNX.out]; exact HNEW.out⟩
            case measure => simp [RowKit.intOf]; omega
          · obtain rfl : q = mm := by omega
            rw [HQb.out] at hI
            have hq := uvI_any gr rp wr hI.rd
            rw [HQc.out] at hq
            try dsimp only at hq
            have HQ := Lib.hid hq
            clear hq
            go_wp2_with (first | (refine wp_cond_true (by go_simp) ?_) | (refine wp_cond_false (by go_simp) ?_))
            refine HQ.out.mono ?_
            rintro e V9b ⟨rfl, hrd, hg⟩
            have hst2 := hI.step hrd hg
            clear HQ hrd hg hI
            obtain ⟨base2, hbase2⟩ : ∃ base2, V9b.heap.size = base2 := ⟨_, rfl⟩
            have hb2 : base ≤ base2 := by rw [← hbase2]; exact hst2.sz
            have hpB : ∀ k, (Value.slice pA q pc).ownBlock = some k → k < base2 := fun k hk => by rw [← hbase2]; exact (hst2.ow.p.lt k hk).2
            have hs2 : base2 ≤ V9b.heap.size := Nat.le_of_eq hbase2.symm
            clear hbase2
            have hmin := HMIN2.out
            go_wp2_with (first | (refine wp_cond_true (by go_simp) ?_) | (refine wp_cond_false (by go_simp) ?_))
            clear hmin
            go_loopw [130] (fun i wr => ∃ (z dc : Nat) (dA : Option Addr), i = .int .u64 (z : Int) ∧ z ≤ kk ∧ (RSt w.heap.size base w gr gx gz (some ⟨ab, ao, none⟩) m (LogM.many LogM.dt1 z rm).2 (⟨5, lsn, epoch, 0, 0, 0, [], [], [], 0, 0, false, 0, xs, (LogM.many LogM.dt1 z rm).1⟩ : Lrec) (⟨none, 0, 0, none, 0, 0, none, 0, 0, pA, q, pc, dA, z, dc⟩ : Lsl) wr ∧ wr.ownsRow base2 56 2 (.slice dA z dc) z ((LogM.many LogM.dt1 z rm).1.flatMap dtC) ∧ base2 ≤ wr.heap.size)) (fun i _ => kk - (RowKit.intOf i).toNat)
            case atStart => exact ⟨0, 0, none, rfl, Nat.zero_le _, hst2, World.ownsRow_nil _ _ _ _, hs2⟩
            case round =>
              clear hst2 hs2
              obtain ⟨z, dc, dA, rfl, hz, hI, hdO, hsz2⟩ := hrel
              by_cases hlt2 : z < kk
              · obtain ⟨qq, hqq⟩ : ∃ p, LogM.many LogM.dt1 z rm = p := ⟨_, rfl⟩
                obtain ⟨lx, rq⟩ := qq
                obtain ⟨w1_, hU1⟩ : ∃ p, rq.fixed 4 = p := ⟨_, rfl⟩
                obtain ⟨u1, ra⟩ := w1_
                obtain ⟨w2_, hU2⟩ : ∃ p, ra.fixed 8 = p := ⟨_, rfl⟩
                obtain ⟨u2, rb⟩ := w2_
                have HNX : Hid (LogM.many LogM.dt1 (z + 1) rm = (lx ++ [(u1, u2)], rb)) := Lib.hid (by unfold LogM.many; rw [hqq]; unfold LogM.dt1; simp only [hU1, hU2])
                have HLX : Hid (lx.length = z) := Lib.hid (by have := LogM.many_length LogM.dt1 z rm; rw [hqq] at this; exact this)
                rw [hqq] at hI hdO
                have HU1 := Lib.hid hU1
                have HU2 := Lib.hid hU2
                clear hU1 hU2 hqq
                have ord2 : w.heap.size ≤ gr ∧ gr < base2 ∧ w.heap.size ≤ gx ∧ gx < base2 ∧ gz < base2 ∧ gr ≠ gx ∧ gr ≠ gz ∧ gx ≠ gz ∧ w.heap.size ≤ base2 := by
                  obtain ⟨o1, o2, o3, o4, o5, o6, o7, o8, o9⟩ := hI.ord
                  exact ⟨o1, by omega, o3, by omega, by omega, o6, o7, o8, by omega⟩
                have HIA := Lib.hid hI.ia
                have HORD := Lib.hid hI.ord
                have HLP := Lib.hid hI.ow.lp
                have hG : Go_ w.heap.size base2 base gr gx gz (some ⟨ab, ao, none⟩) (fun v : Value => (#[.int .i64 5, .int .u64 (lsn : Int), .int .u32 (epoch : Int), .int .u64 0, .int .u32 0, .int .u16 0, .slice none 0 0, .slice none 0 0, .slice none 0 0, .int .u64 0, .int .u64 0, .bool false, .int .u64 0, .slice pA q pc, v] : Array Value)) (fun w : World => w.ownsRow base 54 3 (.slice pA q pc) q (xs.flatMap chC)) := ⟨hb2, fun a ha => Nat.lt_of_lt_of_le (hI.ia a ha) hb2, by
                  intro v hv u hu c
                  simp only [List.mem_cons, List.not_mem_nil, or_false] at hu
                  rcases hu with rfl | rfl | rfl | rfl | rfl | rfl | rfl | rfl | rfl | rfl | rfl | rfl | rfl | rfl | rfl <;> first | exact hv c | simp [B], ord2, fun _ _ h hg => owns_kept h hg hI.ord.2.1, fun _ _ h hg => owns_kept h hg hI.ord.2.2.2.1, fun _ _ h hb => owns_below h hb, fun _ _ _ h hg hk => owns_apart h hg hk hpB⟩
                have hGr0 : Gr 56 2 w.heap.size base2 base w gr gx gz (some ⟨ab, ao, none⟩) m rq ra rb rb (fun v : Value => (#[.int .i64 5, .int .u64 (lsn : Int), .int .u32 (epoch : Int), .int .u64 0, .int .u32 0, .int .u16 0, .slice none 0 0, .slice none 0 0, .slice none 0 0, .int .u64 0, .int .u64 0, .bool false, .int .u64 0, .slice pA q pc, v] : Array Value)) (fun w : World => w.ownsRow base 54 3 (.slice pA q pc) q (xs.flatMap chC)) dA z dc (lx.flatMap dtC) (dtC (u1, u2)) 0 none 0 false false false false false false wr := Gr.start hI.rd hI.x hI.z hI.bel hsz2 hI.inp hdO hI.ow.p
                have hgo := hI.ow
                clear hI
                go_upto_region 27 with fail
                refine wp_named fun a0 ha0 => ?_
                have z6 : a0.tmps.getD 6 undef = (.pointer (some ⟨gr, 0, none⟩)) := by rw [ha0.out]; rfl
                have z9 : a0.tmps.getD 9 undef = (.pointer (some ⟨gx, 0, none⟩)) := by rw [ha0.out]; rfl
                have hsz0 : a0.tmps.size = 163 := by rw [ha0.out]; rfl
                refine wp_region_invB _ (by kernel_rfl) (fun L a wv => ∃ g9 Aq cq, PIF a0 [132, 133, 134, 135, 136, 137, 138, 139, 140, 141] (rdP gx gr dA z dc u1 u2 g9 Aq cq) L a ∧ Gr 56 2 w.heap.size base2 base w gr gx gz (some ⟨ab, ao, none⟩) m rq ra rb rb (fun v : Value => (#[.int .i64 5, .int .u64 (lsn : Int), .int .u32 (epoch : Int), .int .u64 0, .int .u32 0, .int .u16 0, .slice none 0 0, .slice none 0 0, .slice none 0 0, .int .u64 0, .int .u64 0, .bool false, .int .u64 0, .slice pA q pc, v] : Array Value)) (fun w : World => w.ownsRow base 54 3 (.slice pA q pc) q (xs.flatMap chC)) dA z dc (lx.flatMap dtC) (dtC (u1, u2)) g9 Aq cq (L 3) (L 5) (L 5) (L 7) (L 8) (L 10) wv ∧ ((L 8 = true → L 1 = true) ∧ (L 6 = true → L 5 = true))) (by kernel_rfl) ?_ ?_ ?_
                · exact ⟨0, none, 0, PIF.start _ _ _, hGr0.drew (fun h => h), ⟨nofun, nofun⟩⟩
                rotate_left
                · as_aux_lemma =>
                  refine ⟨?_, ?_, ?_, ?_, ?_, ?_, ?_, ?_, ?_, ?_, ?_, trivial⟩
                  · intro L a w1 hI hi hd
                    obtain ⟨g9, Aq, cq, hp, hw, hps⟩ := hI
                    have t9 := hp.at_ 9 _ rfl z9
                    have t9' := t9
                    rw [Array.getD_eq_getD_getElem?] at t9'
                    exact rstep_valW (wanted_none rfl _) (.pointer (some ⟨gx, 14, none⟩)) w1 (by go_simp) ⟨g9, Aq, cq, (hp.put 0 132 (.pointer (some ⟨gx, 14, none⟩)) (by simp [rdP]) (by simp [rdP]) rfl (by rw [hsz0]; decide)), hw, hps⟩
                  · intro L a w1 hI hi hd
                    obtain ⟨g9, Aq, cq, hp, hw, hps⟩ := hI
                    simp [Region.binds] at hd
                    have e0 := hp.pu (0, 132, (.pointer (some ⟨gx, 14, none⟩))) (by simp [rdP]) (by simp [hd])
                    simp only at e0
                    have f0 : a.tmps[132]?.getD undef = (.pointer (some ⟨gx, 14, none⟩)) := by rw [← Array.getD_eq_getD_getElem?]; exact e0
                    have hi : L 1 = false := hi
                    have n10 : L 8 = false := by cases h : L 8 with | false => rfl | true => have := hps.1 h; rw [hi] at this; cases this
                    have n12 := hw.no.2.2.2.2 n10
                    have hx : Blk w1 gx 31 ((fun v : Value => (#[.int .i64 5, .int .u64 (lsn : Int), .int .u32 (epoch : Int), .int .u64 0, .int .u32 0, .int .u16 0, .slice none 0 0, .slice none 0 0, .slice none 0 0, .int .u64 0, .int .u64 0, .bool false, .int .u64 0, .slice pA q pc, v] : Array Value)) (.slice dA z dc)) := by have := hw.x; rw [n12] at this; exact this
                    obtain ⟨d0, d1, d2, d3, d4, d5, d6, d7, d8, d9, d10, d11, d12, d13, d14⟩ := hx.c15
                    exact rstep_valW (wanted_none rfl _) (.slice dA z dc) w1 (by go_simp) ⟨g9, Aq, cq, PIF.put hp 1 133 (.slice dA z dc) (by simp [rdP]) (by simp [rdP]) rfl (by rw [hsz0]; decide), hw, ⟨fun q => (by have q : L 8 = true := q; rw [n10] at q; cases q), hps.2⟩⟩
                  · intro L a w1 hI hi hd
                    obtain ⟨g9, Aq, cq, hp, hw, hps⟩ := hI
                    have t6 := hp.at_ 6 _ rfl z6
                    have t6' := t6
                    rw [Array.getD_eq_getD_getElem?] at t6'
                    exact rstep_valW (wanted_none rfl _) (.pointer (some ⟨gr, 0, none⟩)) w1 (by go_simp) ⟨g9, Aq, cq, (hp.put 2 134 (.pointer (some ⟨gr, 0, none⟩)) (by simp [rdP]) (by simp [rdP]) rfl (by rw [hsz0]; decide)), hw, hps⟩
                  · intro L a w1 hI hi hd
                    obtain ⟨g9, Aq, cq, hp, hw, hps⟩ := hI
                    simp [Region.binds] at hd
                    have e2 := hp.pu (2, 134, (.pointer (some ⟨gr, 0, none⟩))) (by simp [rdP]) (by simp [hd])
                    simp only at e2
                    have f2 : a.tmps[134]?.getD undef = (.pointer (some ⟨gr, 0, none⟩)) := by rw [← Array.getD_eq_getD_getElem?]; exact e2
                    have hi : L 3 = false := hi
                    have hn := hw.no
                    have n5 := hn.1 hi
                    have n9 := hn.2.2.1 n5
                    have hrd := hw.rd
                    rw [hi, n5] at hrd
                    have q := u32I_any gr rq w1 hrd
                    rw [HU1.out] at q
                    try dsimp only at q
                    refine rstep_callW (wanted_none rfl _) 21 #[.pointer (some ⟨gr, 0, none⟩)] (by go_simp) ?_
                    refine q.mono ?_
                    rintro e w2 ⟨rfl, hrd2, hg⟩
                    exact ⟨g9, Aq, cq, PIF.put hp 3 135 (.int .u32 (u1 : Int)) (by simp [rdP]) (by simp [rdP]) rfl (by rw [hsz0]; decide), hw.step (c3 := true) (c5 := L 5) (c7 := L 5) hG n9 (by rw [n5]; exact hrd2) hg (fun _ => rfl) (fun q => q), hps⟩
                  · intro L a w1 hI hi hd
                    obtain ⟨g9, Aq, cq, hp, hw, hps⟩ := hI
                    have t6 := hp.at_ 6 _ rfl z6
                    have t6' := t6
                    rw [Array.getD_eq_getD_getElem?] at t6'
                    exact rstep_valW (wanted_none rfl _) (.pointer (some ⟨gr, 0, none⟩)) w1 (by go_simp) ⟨g9, Aq, cq, (hp.put 4 136 (.pointer (some ⟨gr, 0, none⟩)) (by simp [rdP]) (by simp [rdP]) rfl (by rw [hsz0]; decide)), hw, hps⟩
                  · intro L a w1 hI hi hd
                    obtain ⟨g9, Aq, cq, hp, hw, hps⟩ := hI
                    simp [Region.binds] at hd
                    have e4 := hp.pu (4, 136, (.pointer (some ⟨gr, 0, none⟩))) (by simp [rdP]) (by simp [hd])
                    simp only at e4
                    have f4 : a.tmps[136]?.getD undef = (.pointer (some ⟨gr, 0, none⟩)) := by rw [← Array.getD_eq_getD_getElem?]; exact e4
                    have hi : L 5 = false := hi
                    have hn := hw.no
                    have h3 : L 3 = true := by simp [hd]
                    have n9 := hn.2.2.1 hi
                    have hrd := hw.rd
                    rw [hi, h3] at hrd
                    have q := u64I_any gr ra w1 hrd
                    rw [HU2.out] at q
                    try dsimp only at q
                    refine rstep_callW (wanted_none rfl _) 24 #[.pointer (some ⟨gr, 0, none⟩)] (by go_simp) ?_
                    refine q.mono ?_
                    rintro e w2 ⟨rfl, hrd2, hg⟩
                    exact ⟨g9, Aq, cq, PIF.put hp 5 137 (.int .u64 (u2 : Int)) (by simp [rdP]) (by simp [rdP]) rfl (by rw [hsz0]; decide), hw.step (c3 := L 3) (c5 := true) (c7 := true) hG n9 (by rw [h3]; exact hrd2) hg (fun _ => h3) (fun _ => rfl), ⟨hps.1, fun _ => rfl⟩⟩
                  · intro L a w1 hI hi hd
                    obtain ⟨g9, Aq, cq, hp, hw, hps⟩ := hI
                    simp [Region.binds] at hd
                    have e3 := hp.pu (3, 135, (.int .u32 (u1 : Int))) (by simp [rdP]) (by simp [hd])
                    simp only at e3
                    have f3 : a.tmps[135]?.getD undef = (.int .u32 (u1 : Int)) := by rw [← Array.getD_eq_getD_getElem?]; exact e3
                    have e5 := hp.pu (5, 137, (.int .u64 (u2 : Int))) (by simp [rdP]) (by simp [hd])
                    simp only at e5
                    have f5 : a.tmps[137]?.getD undef = (.int .u64 (u2 : Int)) := by rw [← Array.getD_eq_getD_getElem?]; exact e5
                    exact rstep_valW (wanted_none rfl _) (.agg #[.int .u32 (u1 : Int), .int .u64 (u2 : Int)]) w1 (by go_simp) ⟨g9, Aq, cq, (hp.put 6 138 (.agg #[.int .u32 (u1 : Int), .int .u64 (u2 : Int)]) (by simp [rdP]) (by simp [rdP]) rfl (by rw [hsz0]; decide)), hw, ⟨hps.1, fun _ => (show L 5 = true by simp [hd])⟩⟩
                  · intro L a w1 hI hi hd
                    obtain ⟨g9, Aq, cq, hp, hw, hps⟩ := hI
                    simp [Region.binds] at hd
                    have e6 := hp.pu (6, 138, (.agg #[.int .u32 (u1 : Int), .int .u64 (u2 : Int)])) (by simp [rdP]) (by simp [hd])
                    simp only at e6
                    have f6 : a.tmps[138]?.getD undef = (.agg #[.int .u32 (u1 : Int), .int .u64 (u2 : Int)]) := by rw [← Array.getD_eq_getD_getElem?]; exact e6
                    have hi : L 7 = false := hi
                    have h7 : L 5 = true := hps.2 (by simp [hd])
                    refine rstep_valW (wanted_none rfl _) (.slice (some ⟨w1.heap.size, 0, none⟩) 1 1) (w1.alloc (.cells #[.int .u32 (u1 : Int), .int .u64 (u2 : Int)] 56)) (by go_simp) ⟨w1.heap.size, Aq, cq, PIF.put (PIF.swap (p2 := (rdP gx gr dA z dc u1 u2 w1.heap.size Aq cq)) hp (by intro q hq hL; simp only [rdP, List.mem_cons, List.not_mem_nil, or_false] at hq; rcases hq with rfl | rfl | rfl | rfl | rfl | rfl | rfl | rfl | rfl | rfl <;> first | (simp [rdP]; done) | exact absurd hL (by show ¬ L 7 = true; rw [hi]; simp))) 7 139 (.slice (some ⟨w1.heap.size, 0, none⟩) 1 1) (by simp [rdP]) (by simp [rdP]) rfl (by rw [hsz0]; decide), ?_, hps⟩
                    exact hw.lit hi h7 hG
                  · intro L a w1 hI hi hd
                    obtain ⟨g9, Aq, cq, hp, hw, hps⟩ := hI
                    simp [Region.binds] at hd
                    have e1 := hp.pu (1, 133, (.slice dA z dc)) (by simp [rdP]) (by simp [hd])
                    simp only at e1
                    have f1 : a.tmps[133]?.getD undef = (.slice dA z dc) := by rw [← Array.getD_eq_getD_getElem?]; exact e1
                    have e7 := hp.pu (7, 139, (.slice (some ⟨g9, 0, none⟩) 1 1)) (by simp [rdP]) (by simp [hd])
                    simp only at e7
                    have f7 : a.tmps[139]?.getD undef = (.slice (some ⟨g9, 0, none⟩) 1 1) := by rw [← Array.getD_eq_getD_getElem?]; exact e7
                    have hi : L 8 = false := hi
                    have h9 : L 7 = true := by simp [hd]
                    have h1' : L 1 = true := by simp [hd]
                    have hO := hw.o0 hi
                    have ho9 := (hw.o9 h9 hi).1
                    obtain ⟨i0, hi0, hz0, hz1, hz2⟩ := info_parts info_dtC
                    refine rstep_wp rfl (wp_append_row w1 (.tmp 133) (.tmp 139) _ rfl base2 56 i0 _ 2 16 Try.underlying29 hi0 hz0 hz1 hz2 rfl (by omega) (.slice dA z dc) z (lx.flatMap dtC) e1 hO (some ⟨g9, 0, none⟩) 1 1 (dtC (u1, u2)) e7 rfl ho9 (one_dtC _) (by unfold maxLen; omega) (by omega) hw.sz fun A2 c2 w2 h1 h2 h3 => ?_)
                    refine ⟨g9, A2, c2, PIF.put (PIF.swap (p2 := (rdP gx gr dA z dc u1 u2 g9 A2 c2)) hp (by intro q hq hL; simp only [rdP, List.mem_cons, List.not_mem_nil, or_false] at hq; rcases hq with rfl | rfl | rfl | rfl | rfl | rfl | rfl | rfl | rfl | rfl <;> first | (simp [rdP]; done) | exact absurd hL (by show ¬ L 8 = true; rw [hi]; simp))) 8 140 (.slice A2 (z + 1) c2) (by simp [rdP]) (by simp [rdP]) rfl (by rw [hsz0]; decide), ?_, ⟨fun _ => h1', hps.2⟩⟩
                    exact hw.app hi h9 hG h1 h2
                  · intro L a w1 hI hi hd
                    obtain ⟨g9, Aq, cq, hp, hw, hps⟩ := hI
                    have t9 := hp.at_ 9 _ rfl z9
                    have t9' := t9
                    rw [Array.getD_eq_getD_getElem?] at t9'
                    exact rstep_valW (wanted_none rfl _) (.pointer (some ⟨gx, 14, none⟩)) w1 (by go_simp) ⟨g9, Aq, cq, (hp.put 9 141 (.pointer (some ⟨gx, 14, none⟩)) (by simp [rdP]) (by simp [rdP]) rfl (by rw [hsz0]; decide)), hw, hps⟩
                  · intro L a w1 hI hi hd
                    obtain ⟨g9, Aq, cq, hp, hw, hps⟩ := hI
                    simp [Region.binds] at hd
                    have e8 := hp.pu (8, 140, (.slice Aq (z + 1) cq)) (by simp [rdP]) (by simp [hd])
                    simp only at e8
                    have f8 : a.tmps[140]?.getD undef = (.slice Aq (z + 1) cq) := by rw [← Array.getD_eq_getD_getElem?]; exact e8
                    have e9 := hp.pu (9, 141, (.pointer (some ⟨gx, 14, none⟩))) (by simp [rdP]) (by simp [hd])
                    simp only at e9
                    have f9 : a.tmps[141]?.getD undef = (.pointer (some ⟨gx, 14, none⟩)) := by rw [← Array.getD_eq_getD_getElem?]; exact e9
                    have hi : L 10 = false := hi
                    have h10 : L 8 = true := by simp [hd]
                    have hx : Blk w1 gx 31 ((fun v : Value => (#[.int .i64 5, .int .u64 (lsn : Int), .int .u32 (epoch : Int), .int .u64 0, .int .u32 0, .int .u16 0, .slice none 0 0, .slice none 0 0, .slice none 0 0, .int .u64 0, .int .u64 0, .bool false, .int .u64 0, .slice pA q pc, v] : Array Value)) (.slice dA z dc)) := by have := hw.x; rw [hi] at this; exact this
                    have k13 := hx.frozen 14
                    obtain ⟨d0, d1, d2, d3, d4, d5, d6, d7, d8, d9, d10, d11, d12, d13, d14⟩ := hx.c15
                    refine rstep_skip rfl (w1.setCell ⟨gx, 14, none⟩ (.slice Aq (z + 1) cq)) (by go_simp) ⟨g9, Aq, cq, (hp.skip 10 undef (by simp [rdP])), ?_, hps⟩
                    exact hw.sto hi h10 hG 14 (fun u v => rfl)
                rintro L a W ⟨g9, Aq, cq, hp, hw, hps⟩ hL
                have hGW : Gr 56 2 w.heap.size base2 base w gr gx gz (some ⟨ab, ao, none⟩) m rq ra rb rb (fun v : Value => (#[.int .i64 5, .int .u64 (lsn : Int), .int .u32 (epoch : Int), .int .u64 0, .int .u32 0, .int .u16 0, .slice none 0 0, .slice none 0 0, .slice none 0 0, .int .u64 0, .int .u64 0, .bool false, .int .u64 0, .slice pA q pc, v] : Array Value)) (fun w : World => w.ownsRow base 54 3 (.slice pA q pc) q (xs.flatMap chC)) dA z dc (lx.flatMap dtC) (dtC (u1, u2)) g9 Aq cq true true true true true true W := by
                  have h := hw
                  rw [hL 3 (by simp), hL 5 (by simp), hL 7 (by simp), hL 8 (by simp), hL 10 (by simp)] at h
                  exact h
                rw [hp.eq]
                refine of_assigns (P := Try.prog) _ _ _ _ ?_
                rw [ha0.out]
                simp only [asgs, List.map]
                generalize a.tmps.getD 132 undef = u132
                generalize a.tmps.getD 133 undef = u133
                generalize a.tmps.getD 134 undef = u134
                generalize a.tmps.getD 135 undef = u135
                generalize a.tmps.getD 136 undef = u136
                generalize a.tmps.getD 137 undef = u137
                generalize a.tmps.getD 138 undef = u138
                generalize a.tmps.getD 139 undef = u139
                generalize a.tmps.getD 140 undef = u140
                generalize a.tmps.getD 141 undef = u141
                clear hp hL hw hps ha0 z6 z9 hsz0 hGr0
                clear a0 a L
                have hnew : RSt w.heap.size base w gr gx gz (some ⟨ab, ao, none⟩) m rb (⟨5, lsn, epoch, 0, 0, 0, [], [], [], 0, 0, false, 0, xs, lx ++ [(u1, u2)]⟩ : Lrec) (⟨none, 0, 0, none, 0, 0, none, 0, 0, pA, q, pc, Aq, z + 1, cq⟩ : Lsl) W := by
                  have hd2 : W.ownsRow base2 56 2 (.slice Aq (z + 1) cq) (z + 1) ((lx ++ [(u1, u2)]).flatMap dtC) := by have := hGW.o1 rfl; rw [List.flatMap_append, List.flatMap_cons, List.flatMap_nil, List.append_nil]; exact this
                  exact ⟨hGW.rd, hGW.x, hGW.z, ⟨Own.nil_ _ _, Own.nil_ _ _, Own.nil_ _ _, hGW.ot, owns_base hd2 hb2, rfl, rfl, rfl, HLP.out, by rw [List.length_append, HLX.out]; rfl⟩, hGW.bel, Nat.le_trans hb2 hGW.sz, hGW.inp, HIA.out, HORD.out⟩
                have hd2 : W.ownsRow base2 56 2 (.slice Aq (z + 1) cq) (z + 1) ((lx ++ [(u1, u2)]).flatMap dtC) := by have := hGW.o1 rfl; rw [List.flatMap_append, List.flatMap_cons, List.flatMap_nil, List.append_nil]; exact this
                have HNEW := Lib.hid (And.intro hnew (And.intro hd2 hGW.sz))
                clear hnew hd2 hGW hG hgo
                go_wp2_with (first | (refine wp_cond_true (by go_simp) ?_) | (refine wp_cond_false (by go_simp) ?_))
                go_roundw
                case rel => exact ⟨z + 1, cq, Aq, by go_num, by omega, by rw [HNX.out]; exact HNEW.out.1, by rw [HNX.out]; exact HNEW.out.2.1, HNEW.out.2.2⟩
                case measure => simp [RowKit.intOf]; omega
              · obtain rfl : z = kk := by omega
                rw [HQd.out] at hI
                have HI := Lib.hid hI
                clear hI hdO
                go_wp2_with (first | (refine wp_cond_true (by go_simp) ?_) | (refine wp_cond_false (by go_simp) ?_))
                go_meet
                case rel =>
                  have he := HE.out
                  injection he with he1 he2
                  subst he1 he2
                  exact ⟨rfl, _, HI.out⟩
      have HE : Hid ((s', r') = (LogM.zr (kd : Int) lsn epoch, r3)) := Lib.hid (by rw [← HFK.out, LogM.fK_0 _ _ _ k1 k2 k3 k4 k5])
      obtain ⟨d0, d1, d2, d3, d4, d5, d6, d7, d8, d9, d10, d11, d12, d13, d14⟩ := hst.x.c15
      clear d1 d2 d3 d4 d5 d6 d7 d8 d9 d10 d11 d12 d13 d14
      go_wp2_with (first | (refine wp_cond_true (by go_simp) ?_) | (refine wp_cond_false (by go_simp) ?_))
      go_meet
      case rel =>
        have he := HE.out
        injection he with he1 he2
        subst he1 he2
        exact ⟨rfl, _, hst⟩
    case rest =>
      obtain ⟨rfl, y, hst⟩ := hcut
      have hfit : LogM.Fit s' := by
        have := LogM.fields_fit ⟨m.drop 6, 0⟩
        rw [HFD.out] at this; exact this
      have HAT := Lib.hid (hst.ow.at_ hfit)
      have HFT := Lib.hid hfit
      clear hfit
      by_cases he : r'.e = 0
      rotate_left
      · as_aux_lemma =>
        skip
        have HR : Hid (LogM.readI l = none) := Lib.hid (by rw [HR0.out, if_pos (.inl he)])
        go_upto_region 29 with fail
        have hB0 : Below wc.heap.size wc wc := Below.refl _ _
        have hbV : wc.heap.size ≤ wc.heap.size := Nat.le_refl _
        have hOb : Own wc wc.heap.size (⟨none, 0, 0⟩ : Rs).A (⟨none, 0, 0⟩ : Rs).c [] := Own.nil_ _ _
        refine wp_named fun a0 ha0 => ?_
        have z0 : a0.tmps.getD 0 undef = (.slice (some ⟨ab, ao, none⟩) n c) := by rw [ha0.out]; rfl
        have z5 : a0.tmps.getD 5 undef = (.int .i64 (sz : Int)) := by rw [ha0.out]; rfl
        have z6 : a0.tmps.getD 6 undef = (.pointer (some ⟨gr, 0, none⟩)) := by rw [ha0.out]; rfl
        have z9 : a0.tmps.getD 9 undef = (.pointer (some ⟨gx, 0, none⟩)) := by rw [ha0.out]; rfl
        have hsz0 : a0.tmps.size = 163 := by rw [ha0.out]; rfl
        refine wp_region_invB _ (by kernel_rfl) (fun L a wv => ∃ R, Ch a0 [143, 144, 145, 146, 147, 148, 149, 150, 151, 152, 153, 154, 155, 156, 157, 158, 159] (rEP s' r' y gr ab ao n sz c) (rEM s' r' y gr ab ao n sz c) rEC wc.heap.size wc wc.heap.size (⟨none, 0, 0⟩ : Rs) ([]) 99 [] 0 999 R L a wv) (by kernel_rfl) ?_ ?_ ?_
        · exact ⟨fun _ => ⟨none, 0, 0⟩, Ch.start hbV ⟨rfl, rfl, rfl, Nat.le_refl _, fun _ _ => rfl⟩ hOb⟩
        rotate_left
        · as_aux_lemma =>
          refine ⟨?_, ?_, ?_, ?_, ?_, ?_, ?_, ?_, ?_, ?_, ?_, ?_, ?_, ?_, ?_, ?_, ?_, trivial⟩
          · intro L a w1 hI hi hd
            obtain ⟨R, hC⟩ := hI
            have hi : L 0 = false := hi
            have hp := hC.pif
            have t6 := hp.at_ 6 _ rfl z6
            have t6' := t6
            rw [Array.getD_eq_getD_getElem?] at t6'
            exact rstep_valW (wanted_none rfl _) (.pointer (some ⟨gr, 0, none⟩)) w1 (by go_simp) ⟨R, hC.pure 0 143 (.pointer (some ⟨gr, 0, none⟩)) (by simp [rows, rEP, rEM, rEC, setR]) (by simp [rows, rEP, rEM, rEC, setR]) (by simp [rEM]) (by simp [rEC]) rfl (by rw [hsz0]; exact (by decide : 143 < 163)) (by decide) (by simp) (by simp)⟩
          · intro L a w1 hI hi hd
            obtain ⟨R, hC⟩ := hI
            have hi : L 1 = false := hi
            have hp := hC.pif
            simp [Region.binds] at hd
            have e0 : a.tmps.getD 143 undef = (.pointer (some ⟨gr, 0, none⟩)) := hp.pu (0, 143, (.pointer (some ⟨gr, 0, none⟩))) (by simp [rows, rEP, rEM, rEC, setR]) (by simp [hd])
            have f0 : a.tmps[143]?.getD undef = (.pointer (some ⟨gr, 0, none⟩)) := by rw [← Array.getD_eq_getD_getElem?]; exact e0
            refine rstep_callW (wanted_none rfl _) 28 #[.pointer (some ⟨gr, 0, none⟩)] (by go_simp) ?_
            refine (err_any gr r' w1 (hst.rd.below hC.bel).at_).mono ?_
            rintro e w2 ⟨rfl, rfl⟩
            have hb : Below w1.heap.size w1 w1 := Below.refl _ _
            exact ⟨R, hC.pureW hb 1 144 (.int .i64 (r'.e : Int)) (by simp [rows, rEP, rEM, rEC, setR]) (by simp [rows, rEP, rEM, rEC, setR]) (by simp [rEM]) (by simp [rEC]) rfl (by rw [hsz0]; exact (by decide : 144 < 163)) (by decide) (by simp) (by simp)⟩
          · intro L a w1 hI hi hd
            obtain ⟨R, hC⟩ := hI
            have hi : L 2 = false := hi
            have hp := hC.pif
            simp [Region.binds] at hd
            have e1 : a.tmps.getD 144 undef = (.int .i64 (r'.e : Int)) := hp.pu (1, 144, (.int .i64 (r'.e : Int))) (by simp [rows, rEP, rEM, rEC, setR]) (by simp [hd])
            have f1 : a.tmps[144]?.getD undef = (.int .i64 (r'.e : Int)) := by rw [← Array.getD_eq_getD_getElem?]; exact e1
            have he' : ¬ (r'.e : Int) = 0 := by omega
            exact rstep_valW (wanted_none rfl _) (.bool true) w1 (by go_simp) ⟨R, hC.pure 2 145 (.bool true) (by simp [rows, rEP, rEM, rEC, setR]) (by simp [rows, rEP, rEM, rEC, setR]) (by simp [rEM]) (by simp [rEC]) rfl (by rw [hsz0]; exact (by decide : 145 < 163)) (by decide) (by simp) (by simp)⟩
          · intro L a w1 hI hi hd
            obtain ⟨R, hC⟩ := hI
            have hi : L 3 = false := hi
            have hp := hC.pif
            simp [Region.binds] at hd
            have e2 : a.tmps.getD 145 undef = (.bool true) := hp.pu (2, 145, (.bool true)) (by simp [rows, rEP, rEM, rEC, setR]) (by simp [hd])
            have f2 : a.tmps[145]?.getD undef = (.bool true) := by rw [← Array.getD_eq_getD_getElem?]; exact e2
            exact rstep_valW (wanted_none rfl _) (.bool true) w1 (by go_simp) ⟨R, hC.pure 3 146 (.bool true) (by simp [rows, rEP, rEM, rEC, setR]) (by simp [rows, rEP, rEM, rEC, setR]) (by simp [rEM]) (by simp [rEC]) rfl (by rw [hsz0]; exact (by decide : 146 < 163)) (by decide) (by simp) (by simp)⟩
          · intro L a w1 hI hi hd
            obtain ⟨R, hC⟩ := hI
            have hi : L 4 = false := hi
            have hp := hC.pif
            simp [Region.binds] at hd
            have e3 : a.tmps.getD 146 undef = (.bool true) := hp.pu (3, 146, (.bool true)) (by simp [rows, rEP, rEM, rEC, setR]) (by simp [hd])
            have f3 : a.tmps[146]?.getD undef = (.bool true) := by rw [← Array.getD_eq_getD_getElem?]; exact e3
            exact rstep_un (unwanted_of 3 146 false true (by decide) rfl rfl e3) ⟨R, hC.pure 4 147 undef (by simp [rows, rEP, rEM, rEC, setR]) (by simp [rows, rEP, rEM, rEC, setR]) (by simp [rEM]) (by simp [rEC]) rfl (by rw [hsz0]; exact (by decide : 147 < 163)) (by decide) (by simp) (by simp)⟩
          · intro L a w1 hI hi hd
            obtain ⟨R, hC⟩ := hI
            have hi : L 5 = false := hi
            have hp := hC.pif
            simp [Region.binds] at hd
            have e3 : a.tmps.getD 146 undef = (.bool true) := hp.pu (3, 146, (.bool true)) (by simp [rows, rEP, rEM, rEC, setR]) (by simp [hd])
            have f3 : a.tmps[146]?.getD undef = (.bool true) := by rw [← Array.getD_eq_getD_getElem?]; exact e3
            exact rstep_un (unwanted_of 3 146 false true (by decide) rfl rfl e3) ⟨R, hC.pure 5 148 undef (by simp [rows, rEP, rEM, rEC, setR]) (by simp [rows, rEP, rEM, rEC, setR]) (by simp [rEM]) (by simp [rEC]) rfl (by rw [hsz0]; exact (by decide : 148 < 163)) (by decide) (by simp) (by simp)⟩
          · intro L a w1 hI hi hd
            obtain ⟨R, hC⟩ := hI
            have hi : L 6 = false := hi
            have hp := hC.pif
            simp [Region.binds] at hd
            have e3 : a.tmps.getD 146 undef = (.bool true) := hp.pu (3, 146, (.bool true)) (by simp [rows, rEP, rEM, rEC, setR]) (by simp [hd])
            have f3 : a.tmps[146]?.getD undef = (.bool true) := by rw [← Array.getD_eq_getD_getElem?]; exact e3
            exact rstep_un (unwanted_of 3 146 false true (by decide) rfl rfl e3) ⟨R, hC.pure 6 149 undef (by simp [rows, rEP, rEM, rEC, setR]) (by simp [rows, rEP, rEM, rEC, setR]) (by simp [rEM]) (by simp [rEC]) rfl (by rw [hsz0]; exact (by decide : 149 < 163)) (by decide) (by simp) (by simp)⟩
          · intro L a w1 hI hi hd
            obtain ⟨R, hC⟩ := hI
            have hi : L 7 = false := hi
            have hp := hC.pif
            simp [Region.binds] at hd
            have e3 : a.tmps.getD 146 undef = (.bool true) := hp.pu (3, 146, (.bool true)) (by simp [rows, rEP, rEM, rEC, setR]) (by simp [hd])
            have f3 : a.tmps[146]?.getD undef = (.bool true) := by rw [← Array.getD_eq_getD_getElem?]; exact e3
            exact rstep_valW (wanted_none rfl _) (.bool true) w1 (by go_simp) ⟨R, hC.pure 7 150 (.bool true) (by simp [rows, rEP, rEM, rEC, setR]) (by simp [rows, rEP, rEM, rEC, setR]) (by simp [rEM]) (by simp [rEC]) rfl (by rw [hsz0]; exact (by decide : 150 < 163)) (by decide) (by simp) (by simp)⟩
          · intro L a w1 hI hi hd
            obtain ⟨R, hC⟩ := hI
            have hi : L 8 = false := hi
            have hp := hC.pif
            simp [Region.binds] at hd
            have e7 : a.tmps.getD 150 undef = (.bool true) := hp.pu (7, 150, (.bool true)) (by simp [rows, rEP, rEM, rEC, setR]) (by simp [hd])
            have f7 : a.tmps[150]?.getD undef = (.bool true) := by rw [← Array.getD_eq_getD_getElem?]; exact e7
            exact rstep_valW (wanted_none rfl _) (.bool true) w1 (by go_simp) ⟨R, hC.pure 8 151 (.bool true) (by simp [rows, rEP, rEM, rEC, setR]) (by simp [rows, rEP, rEM, rEC, setR]) (by simp [rEM]) (by simp [rEC]) rfl (by rw [hsz0]; exact (by decide : 151 < 163)) (by decide) (by simp) (by simp)⟩
          · intro L a w1 hI hi hd
            obtain ⟨R, hC⟩ := hI
            have hi : L 9 = false := hi
            have hp := hC.pif
            simp [Region.binds] at hd
            have e8 : a.tmps.getD 151 undef = (.bool true) := hp.pu (8, 151, (.bool true)) (by simp [rows, rEP, rEM, rEC, setR]) (by simp [hd])
            have f8 : a.tmps[151]?.getD undef = (.bool true) := by rw [← Array.getD_eq_getD_getElem?]; exact e8
            exact rstep_un (unwanted_of 8 151 false true (by decide) rfl rfl e8) ⟨R, hC.pure 9 152 undef (by simp [rows, rEP, rEM, rEC, setR]) (by simp [rows, rEP, rEM, rEC, setR]) (by simp [rEM]) (by simp [rEC]) rfl (by rw [hsz0]; exact (by decide : 152 < 163)) (by decide) (by simp) (by simp)⟩
          · intro L a w1 hI hi hd
            obtain ⟨R, hC⟩ := hI
            have hi : L 10 = false := hi
            have hp := hC.pif
            simp [Region.binds] at hd
            have e8 : a.tmps.getD 151 undef = (.bool true) := hp.pu (8, 151, (.bool true)) (by simp [rows, rEP, rEM, rEC, setR]) (by simp [hd])
            have f8 : a.tmps[151]?.getD undef = (.bool true) := by rw [← Array.getD_eq_getD_getElem?]; exact e8
            exact rstep_un (unwanted_of 8 151 false true (by decide) rfl rfl e8) ⟨R, hC.pure 10 153 undef (by simp [rows, rEP, rEM, rEC, setR]) (by simp [rows, rEP, rEM, rEC, setR]) (by simp [rEM]) (by simp [rEC]) rfl (by rw [hsz0]; exact (by decide : 153 < 163)) (by decide) (by simp) (by simp)⟩
          · intro L a w1 hI hi hd
            obtain ⟨R, hC⟩ := hI
            have hi : L 11 = false := hi
            have hp := hC.pif
            simp [Region.binds] at hd
            have e8 : a.tmps.getD 151 undef = (.bool true) := hp.pu (8, 151, (.bool true)) (by simp [rows, rEP, rEM, rEC, setR]) (by simp [hd])
            have f8 : a.tmps[151]?.getD undef = (.bool true) := by rw [← Array.getD_eq_getD_getElem?]; exact e8
            exact rstep_un (unwanted_of 8 151 false true (by decide) rfl rfl e8) ⟨R, hC.pure 11 154 undef (by simp [rows, rEP, rEM, rEC, setR]) (by simp [rows, rEP, rEM, rEC, setR]) (by simp [rEM]) (by simp [rEC]) rfl (by rw [hsz0]; exact (by decide : 154 < 163)) (by decide) (by simp) (by simp)⟩
          · intro L a w1 hI hi hd
            obtain ⟨R, hC⟩ := hI
            have hi : L 12 = false := hi
            have hp := hC.pif
            simp [Region.binds] at hd
            have e8 : a.tmps.getD 151 undef = (.bool true) := hp.pu (8, 151, (.bool true)) (by simp [rows, rEP, rEM, rEC, setR]) (by simp [hd])
            have f8 : a.tmps[151]?.getD undef = (.bool true) := by rw [← Array.getD_eq_getD_getElem?]; exact e8
            exact rstep_un (unwanted_of 8 151 false true (by decide) rfl rfl e8) ⟨R, hC.pure 12 155 undef (by simp [rows, rEP, rEM, rEC, setR]) (by simp [rows, rEP, rEM, rEC, setR]) (by simp [rEM]) (by simp [rEC]) rfl (by rw [hsz0]; exact (by decide : 155 < 163)) (by decide) (by simp) (by simp)⟩
          · intro L a w1 hI hi hd
            obtain ⟨R, hC⟩ := hI
            have hi : L 13 = false := hi
            have hp := hC.pif
            simp [Region.binds] at hd
            have e8 : a.tmps.getD 151 undef = (.bool true) := hp.pu (8, 151, (.bool true)) (by simp [rows, rEP, rEM, rEC, setR]) (by simp [hd])
            have f8 : a.tmps[151]?.getD undef = (.bool true) := by rw [← Array.getD_eq_getD_getElem?]; exact e8
            exact rstep_un (unwanted_of 8 151 false true (by decide) rfl rfl e8) ⟨R, hC.pure 13 156 undef (by simp [rows, rEP, rEM, rEC, setR]) (by simp [rows, rEP, rEM, rEC, setR]) (by simp [rEM]) (by simp [rEC]) rfl (by rw [hsz0]; exact (by decide : 156 < 163)) (by decide) (by simp) (by simp)⟩
          · intro L a w1 hI hi hd
            obtain ⟨R, hC⟩ := hI
            have hi : L 14 = false := hi
            have hp := hC.pif
            simp [Region.binds] at hd
            have e8 : a.tmps.getD 151 undef = (.bool true) := hp.pu (8, 151, (.bool true)) (by simp [rows, rEP, rEM, rEC, setR]) (by simp [hd])
            have f8 : a.tmps[151]?.getD undef = (.bool true) := by rw [← Array.getD_eq_getD_getElem?]; exact e8
            exact rstep_un (unwanted_of 8 151 false true (by decide) rfl rfl e8) ⟨R, hC.pure 14 157 undef (by simp [rows, rEP, rEM, rEC, setR]) (by simp [rows, rEP, rEM, rEC, setR]) (by simp [rEM]) (by simp [rEC]) rfl (by rw [hsz0]; exact (by decide : 157 < 163)) (by decide) (by simp) (by simp)⟩
          · intro L a w1 hI hi hd
            obtain ⟨R, hC⟩ := hI
            have hi : L 15 = false := hi
            have hp := hC.pif
            simp [Region.binds] at hd
            have e8 : a.tmps.getD 151 undef = (.bool true) := hp.pu (8, 151, (.bool true)) (by simp [rows, rEP, rEM, rEC, setR]) (by simp [hd])
            have f8 : a.tmps[151]?.getD undef = (.bool true) := by rw [← Array.getD_eq_getD_getElem?]; exact e8
            exact rstep_un (unwanted_of 8 151 false true (by decide) rfl rfl e8) ⟨R, hC.pure 15 158 undef (by simp [rows, rEP, rEM, rEC, setR]) (by simp [rows, rEP, rEM, rEC, setR]) (by simp [rEM]) (by simp [rEC]) rfl (by rw [hsz0]; exact (by decide : 158 < 163)) (by decide) (by simp) (by simp)⟩
          · intro L a w1 hI hi hd
            obtain ⟨R, hC⟩ := hI
            have hi : L 16 = false := hi
            have hp := hC.pif
            simp [Region.binds] at hd
            have e8 : a.tmps.getD 151 undef = (.bool true) := hp.pu (8, 151, (.bool true)) (by simp [rows, rEP, rEM, rEC, setR]) (by simp [hd])
            have f8 : a.tmps[151]?.getD undef = (.bool true) := by rw [← Array.getD_eq_getD_getElem?]; exact e8
            exact rstep_valW (wanted_none rfl _) (.bool true) w1 (by go_simp) ⟨R, hC.pure 16 159 (.bool true) (by simp [rows, rEP, rEM, rEC, setR]) (by simp [rows, rEP, rEM, rEC, setR]) (by simp [rEM]) (by simp [rEC]) rfl (by rw [hsz0]; exact (by decide : 159 < 163)) (by decide) (by simp) (by simp)⟩
        rintro L a W ⟨R, hC⟩ hL
        have hp := hC.pif
        have e16 : a.tmps.getD 159 undef = (.bool true) := hp.pu (16, 159, (.bool true)) (by simp [rows, rEP, rEM, rEC, setR]) (hL 16 (by simp))
        have hBW := hC.bel
        rw [hp.eq]
        refine of_assigns (P := Try.prog) _ _ _ _ ?_
        rw [ha0.out]
        simp only [asgs, List.map, e16]
        generalize a.tmps.getD 143 undef = u143
        generalize a.tmps.getD 144 undef = u144
        generalize a.tmps.getD 145 undef = u145
        generalize a.tmps.getD 146 undef = u146
        generalize a.tmps.getD 147 undef = u147
        generalize a.tmps.getD 148 undef = u148
        generalize a.tmps.getD 149 undef = u149
        generalize a.tmps.getD 150 undef = u150
        generalize a.tmps.getD 151 undef = u151
        generalize a.tmps.getD 152 undef = u152
        generalize a.tmps.getD 153 undef = u153
        generalize a.tmps.getD 154 undef = u154
        generalize a.tmps.getD 155 undef = u155
        generalize a.tmps.getD 156 undef = u156
        generalize a.tmps.getD 157 undef = u157
        generalize a.tmps.getD 158 undef = u158
        clear hp hL e16 ha0 z0 z5 z6 z9 hsz0 hC
        clear a0 a L R
        have hzW := hst.z.below hBW hst.z.lt
        have hBB := below_step hst.bel hBW (Nat.le_refl _)
        clear hBW hOb hbV hB0 hst
        have hzq := hzW.setRow_ #[.int .i64 0, .int .u64 0, .int .u32 0, .int .u64 0, .int .u32 0, .int .u16 0, .slice none 0 0, .slice none 0 0, .slice none 0 0, .int .u64 0, .int .u64 0, .bool false, .int .u64 0, .slice none 0 0, .slice none 0 0]
        have hBq := below_grown hBB (grownBy_setRow _ gz #[.int .i64 0, .int .u64 0, .int .u32 0, .int .u64 0, .int .u32 0, .int .u16 0, .slice none 0 0, .slice none 0 0, .slice none 0 0, .int .u64 0, .int .u64 0, .bool false, .int .u64 0, .slice none 0 0, .slice none 0 0]) hBB.size hgzl
        go_wp2_with (first | (refine wp_cond_true (by go_simp) ?_) | (refine wp_cond_false (by go_simp) ?_) | (refine wpList_store_row rfl _ (.tmp 2) (.tmp 160) rfl gz #[.int .i64 0, .int .u64 0, .int .u32 0, .int .u64 0, .int .u32 0, .int .u16 0, .slice none 0 0, .slice none 0 0, .slice none 0 0, .int .u64 0, .int .u64 0, .bool false, .int .u64 0, .slice none 0 0, .slice none 0 0] (by go_simp) (by go_simp) _ _ hzW (by kernel_rfl) rfl (by simp [Value.oneCell']) ?_) | (refine ret_cell3 rfl gz #[.int .i64 0, .int .u64 0, .int .u32 0, .int .u64 0, .int .u32 0, .int .u16 0, .slice none 0 0, .slice none 0 0, .slice none 0 0, .int .u64 0, .int .u64 0, .bool false, .int .u64 0, .slice none 0 0, .slice none 0 0] _ rfl hzq Try.underlying31 rfl (by kernel_rfl) rfl ?_; rw [HR.out]; exact ⟨rfl, hBq⟩))
      by_cases hmay : LogM.May s'
      rotate_left
      · as_aux_lemma =>
        skip
        have HR : Hid (LogM.readI l = none) := Lib.hid (by rw [HR0.out, if_pos (.inr (.inl hmay))])
        go_upto_region 29 with fail
        have hB0 : Below wc.heap.size wc wc := Below.refl _ _
        have hbV : wc.heap.size ≤ wc.heap.size := Nat.le_refl _
        have hOb : Own wc wc.heap.size (⟨none, 0, 0⟩ : Rs).A (⟨none, 0, 0⟩ : Rs).c [] := Own.nil_ _ _
        refine wp_named fun a0 ha0 => ?_
        have z0 : a0.tmps.getD 0 undef = (.slice (some ⟨ab, ao, none⟩) n c) := by rw [ha0.out]; rfl
        have z5 : a0.tmps.getD 5 undef = (.int .i64 (sz : Int)) := by rw [ha0.out]; rfl
        have z6 : a0.tmps.getD 6 undef = (.pointer (some ⟨gr, 0, none⟩)) := by rw [ha0.out]; rfl
        have z9 : a0.tmps.getD 9 undef = (.pointer (some ⟨gx, 0, none⟩)) := by rw [ha0.out]; rfl
        have hsz0 : a0.tmps.size = 163 := by rw [ha0.out]; rfl
        refine wp_region_invB _ (by kernel_rfl) (fun L a wv => ∃ R, Ch a0 [143, 144, 145, 146, 147, 148, 149, 150, 151, 152, 153, 154, 155, 156, 157, 158, 159] (rMP s' r' y gr ab ao n sz c) (rMM s' r' y gr ab ao n sz c) rMC wc.heap.size wc wc.heap.size (⟨none, 0, 0⟩ : Rs) ([]) 99 [] 0 999 R L a wv) (by kernel_rfl) ?_ ?_ ?_
        · exact ⟨fun _ => ⟨none, 0, 0⟩, Ch.start hbV ⟨rfl, rfl, rfl, Nat.le_refl _, fun _ _ => rfl⟩ hOb⟩
        rotate_left
        · as_aux_lemma =>
          refine ⟨?_, ?_, ?_, ?_, ?_, ?_, ?_, ?_, ?_, ?_, ?_, ?_, ?_, ?_, ?_, ?_, ?_, trivial⟩
          · intro L a w1 hI hi hd
            obtain ⟨R, hC⟩ := hI
            have hi : L 0 = false := hi
            have hp := hC.pif
            have t6 := hp.at_ 6 _ rfl z6
            have t6' := t6
            rw [Array.getD_eq_getD_getElem?] at t6'
            exact rstep_valW (wanted_none rfl _) (.pointer (some ⟨gr, 0, none⟩)) w1 (by go_simp) ⟨R, hC.pure 0 143 (.pointer (some ⟨gr, 0, none⟩)) (by simp [rows, rMP, rMM, rMC, setR]) (by simp [rows, rMP, rMM, rMC, setR]) (by simp [rMM]) (by simp [rMC]) rfl (by rw [hsz0]; exact (by decide : 143 < 163)) (by decide) (by simp) (by simp)⟩
          · intro L a w1 hI hi hd
            obtain ⟨R, hC⟩ := hI
            have hi : L 1 = false := hi
            have hp := hC.pif
            simp [Region.binds] at hd
            have e0 : a.tmps.getD 143 undef = (.pointer (some ⟨gr, 0, none⟩)) := hp.pu (0, 143, (.pointer (some ⟨gr, 0, none⟩))) (by simp [rows, rMP, rMM, rMC, setR]) (by simp [hd])
            have f0 : a.tmps[143]?.getD undef = (.pointer (some ⟨gr, 0, none⟩)) := by rw [← Array.getD_eq_getD_getElem?]; exact e0
            refine rstep_callW (wanted_none rfl _) 28 #[.pointer (some ⟨gr, 0, none⟩)] (by go_simp) ?_
            refine (err_any gr r' w1 (hst.rd.below hC.bel).at_).mono ?_
            rintro e w2 ⟨rfl, rfl⟩
            have hb : Below w1.heap.size w1 w1 := Below.refl _ _
            exact ⟨R, hC.pureW hb 1 144 (.int .i64 (r'.e : Int)) (by simp [rows, rMP, rMM, rMC, setR]) (by simp [rows, rMP, rMM, rMC, setR]) (by simp [rMM]) (by simp [rMC]) rfl (by rw [hsz0]; exact (by decide : 144 < 163)) (by decide) (by simp) (by simp)⟩
          · intro L a w1 hI hi hd
            obtain ⟨R, hC⟩ := hI
            have hi : L 2 = false := hi
            have hp := hC.pif
            simp [Region.binds] at hd
            have e1 : a.tmps.getD 144 undef = (.int .i64 (r'.e : Int)) := hp.pu (1, 144, (.int .i64 (r'.e : Int))) (by simp [rows, rMP, rMM, rMC, setR]) (by simp [hd])
            have f1 : a.tmps[144]?.getD undef = (.int .i64 (r'.e : Int)) := by rw [← Array.getD_eq_getD_getElem?]; exact e1
            have he' :  (r'.e : Int) = 0 := by omega
            exact rstep_valW (wanted_none rfl _) (.bool false) w1 (by go_simp) ⟨R, hC.pure 2 145 (.bool false) (by simp [rows, rMP, rMM, rMC, setR]) (by simp [rows, rMP, rMM, rMC, setR]) (by simp [rMM]) (by simp [rMC]) rfl (by rw [hsz0]; exact (by decide : 145 < 163)) (by decide) (by simp) (by simp)⟩
          · intro L a w1 hI hi hd
            obtain ⟨R, hC⟩ := hI
            have hi : L 3 = false := hi
            have hp := hC.pif
            simp [Region.binds] at hd
            have e2 : a.tmps.getD 145 undef = (.bool false) := hp.pu (2, 145, (.bool false)) (by simp [rows, rMP, rMM, rMC, setR]) (by simp [hd])
            have f2 : a.tmps[145]?.getD undef = (.bool false) := by rw [← Array.getD_eq_getD_getElem?]; exact e2
            exact rstep_valW (wanted_none rfl _) (.bool false) w1 (by go_simp) ⟨R, hC.pure 3 146 (.bool false) (by simp [rows, rMP, rMM, rMC, setR]) (by simp [rows, rMP, rMM, rMC, setR]) (by simp [rMM]) (by simp [rMC]) rfl (by rw [hsz0]; exact (by decide : 146 < 163)) (by decide) (by simp) (by simp)⟩
          · intro L a w1 hI hi hd
            obtain ⟨R, hC⟩ := hI
            have hi : L 4 = false := hi
            have hp := hC.pif
            simp [Region.binds] at hd
            have e3 : a.tmps.getD 146 undef = (.bool false) := hp.pu (3, 146, (.bool false)) (by simp [rows, rMP, rMM, rMC, setR]) (by simp [hd])
            have f3 : a.tmps[146]?.getD undef = (.bool false) := by rw [← Array.getD_eq_getD_getElem?]; exact e3
            have t9 := hp.at_ 9 _ rfl z9
            have t9' := t9
            rw [Array.getD_eq_getD_getElem?] at t9'
            exact rstep_valW (wanted_of 3 146 false rfl rfl e3) (.agg #[.int .i64 s'.kind, .int .u64 (s'.lsn : Int), .int .u32 (s'.epoch : Int), .int .u64 (s'.txn : Int), .int .u32 (s'.page : Int), .int .u16 (s'.off : Int), .slice y.oA y.on y.oc, .slice y.nA y.nn y.nc, .slice y.uA y.un y.uc, .int .u64 (s'.prev : Int), .int .u64 (s'.next : Int), .bool s'.clr, .int .u64 (s'.stamp : Int), .slice y.pA y.pn y.pc, .slice y.dA y.dn y.dc]) w1 (exec_load_row _ (.tmp 9) rfl gx t9 _ _ _ (hst.x.below (hB0.trans hC.bel) hst.x.lt) Try.underlying31 rfl (by kernel_rfl)) ⟨R, hC.pure 4 147 (.agg #[.int .i64 s'.kind, .int .u64 (s'.lsn : Int), .int .u32 (s'.epoch : Int), .int .u64 (s'.txn : Int), .int .u32 (s'.page : Int), .int .u16 (s'.off : Int), .slice y.oA y.on y.oc, .slice y.nA y.nn y.nc, .slice y.uA y.un y.uc, .int .u64 (s'.prev : Int), .int .u64 (s'.next : Int), .bool s'.clr, .int .u64 (s'.stamp : Int), .slice y.pA y.pn y.pc, .slice y.dA y.dn y.dc]) (by simp [rows, rMP, rMM, rMC, setR]) (by simp [rows, rMP, rMM, rMC, setR]) (by simp [rMM]) (by simp [rMC]) rfl (by rw [hsz0]; exact (by decide : 147 < 163)) (by decide) (by simp) (by simp)⟩
          · intro L a w1 hI hi hd
            obtain ⟨R, hC⟩ := hI
            have hi : L 5 = false := hi
            have hp := hC.pif
            simp [Region.binds] at hd
            have e3 : a.tmps.getD 146 undef = (.bool false) := hp.pu (3, 146, (.bool false)) (by simp [rows, rMP, rMM, rMC, setR]) (by simp [hd])
            have f3 : a.tmps[146]?.getD undef = (.bool false) := by rw [← Array.getD_eq_getD_getElem?]; exact e3
            have e4 : a.tmps.getD 147 undef = (.agg #[.int .i64 s'.kind, .int .u64 (s'.lsn : Int), .int .u32 (s'.epoch : Int), .int .u64 (s'.txn : Int), .int .u32 (s'.page : Int), .int .u16 (s'.off : Int), .slice y.oA y.on y.oc, .slice y.nA y.nn y.nc, .slice y.uA y.un y.uc, .int .u64 (s'.prev : Int), .int .u64 (s'.next : Int), .bool s'.clr, .int .u64 (s'.stamp : Int), .slice y.pA y.pn y.pc, .slice y.dA y.dn y.dc]) := hp.pu (4, 147, (.agg #[.int .i64 s'.kind, .int .u64 (s'.lsn : Int), .int .u32 (s'.epoch : Int), .int .u64 (s'.txn : Int), .int .u32 (s'.page : Int), .int .u16 (s'.off : Int), .slice y.oA y.on y.oc, .slice y.nA y.nn y.nc, .slice y.uA y.un y.uc, .int .u64 (s'.prev : Int), .int .u64 (s'.next : Int), .bool s'.clr, .int .u64 (s'.stamp : Int), .slice y.pA y.pn y.pc, .slice y.dA y.dn y.dc])) (by simp [rows, rMP, rMM, rMC, setR]) (by simp [hd])
            have f4 : a.tmps[147]?.getD undef = (.agg #[.int .i64 s'.kind, .int .u64 (s'.lsn : Int), .int .u32 (s'.epoch : Int), .int .u64 (s'.txn : Int), .int .u32 (s'.page : Int), .int .u16 (s'.off : Int), .slice y.oA y.on y.oc, .slice y.nA y.nn y.nc, .slice y.uA y.un y.uc, .int .u64 (s'.prev : Int), .int .u64 (s'.next : Int), .bool s'.clr, .int .u64 (s'.stamp : Int), .slice y.pA y.pn y.pc, .slice y.dA y.dn y.dc]) := by rw [← Array.getD_eq_getD_getElem?]; exact e4
            refine rstep_callW (wanted_of 3 146 false rfl rfl e3) 16 #[.agg #[.int .i64 s'.kind, .int .u64 (s'.lsn : Int), .int .u32 (s'.epoch : Int), .int .u64 (s'.txn : Int), .int .u32 (s'.page : Int), .int .u16 (s'.off : Int), .slice y.oA y.on y.oc, .slice y.nA y.nn y.nc, .slice y.uA y.un y.uc, .int .u64 (s'.prev : Int), .int .u64 (s'.next : Int), .bool s'.clr, .int .u64 (s'.stamp : Int), .slice y.pA y.pn y.pc, .slice y.dA y.dn y.dc]] (by go_simp) ?_
            refine (may_any s' y w1 (HAT.out.below hC.bel)).mono ?_
            rintro e w2 ⟨r, rfl, HR1, hb⟩
            obtain rfl : r = false := by cases r with | false => rfl | true => exact absurd (HR1.out.1 rfl) hmay
            exact ⟨R, hC.pureW hb 5 148 (.bool false) (by simp [rows, rMP, rMM, rMC, setR]) (by simp [rows, rMP, rMM, rMC, setR]) (by simp [rMM]) (by simp [rMC]) rfl (by rw [hsz0]; exact (by decide : 148 < 163)) (by decide) (by simp) (by simp)⟩
          · intro L a w1 hI hi hd
            obtain ⟨R, hC⟩ := hI
            have hi : L 6 = false := hi
            have hp := hC.pif
            simp [Region.binds] at hd
            have e3 : a.tmps.getD 146 undef = (.bool false) := hp.pu (3, 146, (.bool false)) (by simp [rows, rMP, rMM, rMC, setR]) (by simp [hd])
            have f3 : a.tmps[146]?.getD undef = (.bool false) := by rw [← Array.getD_eq_getD_getElem?]; exact e3
            have e5 : a.tmps.getD 148 undef = (.bool false) := hp.pu (5, 148, (.bool false)) (by simp [rows, rMP, rMM, rMC, setR]) (by simp [hd])
            have f5 : a.tmps[148]?.getD undef = (.bool false) := by rw [← Array.getD_eq_getD_getElem?]; exact e5
            exact rstep_valW (wanted_of 3 146 false rfl rfl e3) (.bool true) w1 (by go_simp) ⟨R, hC.pure 6 149 (.bool true) (by simp [rows, rMP, rMM, rMC, setR]) (by simp [rows, rMP, rMM, rMC, setR]) (by simp [rMM]) (by simp [rMC]) rfl (by rw [hsz0]; exact (by decide : 149 < 163)) (by decide) (by simp) (by simp)⟩
          · intro L a w1 hI hi hd
            obtain ⟨R, hC⟩ := hI
            have hi : L 7 = false := hi
            have hp := hC.pif
            simp [Region.binds] at hd
            have e3 : a.tmps.getD 146 undef = (.bool false) := hp.pu (3, 146, (.bool false)) (by simp [rows, rMP, rMM, rMC, setR]) (by simp [hd])
            have f3 : a.tmps[146]?.getD undef = (.bool false) := by rw [← Array.getD_eq_getD_getElem?]; exact e3
            have e6 : a.tmps.getD 149 undef = (.bool true) := hp.pu (6, 149, (.bool true)) (by simp [rows, rMP, rMM, rMC, setR]) (by simp [hd])
            have f6 : a.tmps[149]?.getD undef = (.bool true) := by rw [← Array.getD_eq_getD_getElem?]; exact e6
            exact rstep_valW (wanted_none rfl _) (.bool true) w1 (by go_simp) ⟨R, hC.pure 7 150 (.bool true) (by simp [rows, rMP, rMM, rMC, setR]) (by simp [rows, rMP, rMM, rMC, setR]) (by simp [rMM]) (by simp [rMC]) rfl (by rw [hsz0]; exact (by decide : 150 < 163)) (by decide) (by simp) (by simp)⟩
          · intro L a w1 hI hi hd
            obtain ⟨R, hC⟩ := hI
            have hi : L 8 = false := hi
            have hp := hC.pif
            simp [Region.binds] at hd
            have e7 : a.tmps.getD 150 undef = (.bool true) := hp.pu (7, 150, (.bool true)) (by simp [rows, rMP, rMM, rMC, setR]) (by simp [hd])
            have f7 : a.tmps[150]?.getD undef = (.bool true) := by rw [← Array.getD_eq_getD_getElem?]; exact e7
            exact rstep_valW (wanted_none rfl _) (.bool true) w1 (by go_simp) ⟨R, hC.pure 8 151 (.bool true) (by simp [rows, rMP, rMM, rMC, setR]) (by simp [rows, rMP, rMM, rMC, setR]) (by simp [rMM]) (by simp [rMC]) rfl (by rw [hsz0]; exact (by decide : 151 < 163)) (by decide) (by simp) (by simp)⟩
          · intro L a w1 hI hi hd
            obtain ⟨R, hC⟩ := hI
            have hi : L 9 = false := hi
            have hp := hC.pif
            simp [Region.binds] at hd
            have e8 : a.tmps.getD 151 undef = (.bool true) := hp.pu (8, 151, (.bool true)) (by simp [rows, rMP, rMM, rMC, setR]) (by simp [hd])
            have f8 : a.tmps[151]?.getD undef = (.bool true) := by rw [← Array.getD_eq_getD_getElem?]; exact e8
            exact rstep_un (unwanted_of 8 151 false true (by decide) rfl rfl e8) ⟨R, hC.pure 9 152 undef (by simp [rows, rMP, rMM, rMC, setR]) (by simp [rows, rMP, rMM, rMC, setR]) (by simp [rMM]) (by simp [rMC]) rfl (by rw [hsz0]; exact (by decide : 152 < 163)) (by decide) (by simp) (by simp)⟩
          · intro L a w1 hI hi hd
            obtain ⟨R, hC⟩ := hI
            have hi : L 10 = false := hi
            have hp := hC.pif
            simp [Region.binds] at hd
            have e8 : a.tmps.getD 151 undef = (.bool true) := hp.pu (8, 151, (.bool true)) (by simp [rows, rMP, rMM, rMC, setR]) (by simp [hd])
            have f8 : a.tmps[151]?.getD undef = (.bool true) := by rw [← Array.getD_eq_getD_getElem?]; exact e8
            exact rstep_un (unwanted_of 8 151 false true (by decide) rfl rfl e8) ⟨R, hC.pure 10 153 undef (by simp [rows, rMP, rMM, rMC, setR]) (by simp [rows, rMP, rMM, rMC, setR]) (by simp [rMM]) (by simp [rMC]) rfl (by rw [hsz0]; exact (by decide : 153 < 163)) (by decide) (by simp) (by simp)⟩
          · intro L a w1 hI hi hd
            obtain ⟨R, hC⟩ := hI
            have hi : L 11 = false := hi
            have hp := hC.pif
            simp [Region.binds] at hd
            have e8 : a.tmps.getD 151 undef = (.bool true) := hp.pu (8, 151, (.bool true)) (by simp [rows, rMP, rMM, rMC, setR]) (by simp [hd])
            have f8 : a.tmps[151]?.getD undef = (.bool true) := by rw [← Array.getD_eq_getD_getElem?]; exact e8
            exact rstep_un (unwanted_of 8 151 false true (by decide) rfl rfl e8) ⟨R, hC.pure 11 154 undef (by simp [rows, rMP, rMM, rMC, setR]) (by simp [rows, rMP, rMM, rMC, setR]) (by simp [rMM]) (by simp [rMC]) rfl (by rw [hsz0]; exact (by decide : 154 < 163)) (by decide) (by simp) (by simp)⟩
          · intro L a w1 hI hi hd
            obtain ⟨R, hC⟩ := hI
            have hi : L 12 = false := hi
            have hp := hC.pif
            simp [Region.binds] at hd
            have e8 : a.tmps.getD 151 undef = (.bool true) := hp.pu (8, 151, (.bool true)) (by simp [rows, rMP, rMM, rMC, setR]) (by simp [hd])
            have f8 : a.tmps[151]?.getD undef = (.bool true) := by rw [← Array.getD_eq_getD_getElem?]; exact e8
            exact rstep_un (unwanted_of 8 151 false true (by decide) rfl rfl e8) ⟨R, hC.pure 12 155 undef (by simp [rows, rMP, rMM, rMC, setR]) (by simp [rows, rMP, rMM, rMC, setR]) (by simp [rMM]) (by simp [rMC]) rfl (by rw [hsz0]; exact (by decide : 155 < 163)) (by decide) (by simp) (by simp)⟩
          · intro L a w1 hI hi hd
            obtain ⟨R, hC⟩ := hI
            have hi : L 13 = false := hi
            have hp := hC.pif
            simp [Region.binds] at hd
            have e8 : a.tmps.getD 151 undef = (.bool true) := hp.pu (8, 151, (.bool true)) (by simp [rows, rMP, rMM, rMC, setR]) (by simp [hd])
            have f8 : a.tmps[151]?.getD undef = (.bool true) := by rw [← Array.getD_eq_getD_getElem?]; exact e8
            exact rstep_un (unwanted_of 8 151 false true (by decide) rfl rfl e8) ⟨R, hC.pure 13 156 undef (by simp [rows, rMP, rMM, rMC, setR]) (by simp [rows, rMP, rMM, rMC, setR]) (by simp [rMM]) (by simp [rMC]) rfl (by rw [hsz0]; exact (by decide : 156 < 163)) (by decide) (by simp) (by simp)⟩
          · intro L a w1 hI hi hd
            obtain ⟨R, hC⟩ := hI
            have hi : L 14 = false := hi
            have hp := hC.pif
            simp [Region.binds] at hd
            have e8 : a.tmps.getD 151 undef = (.bool true) := hp.pu (8, 151, (.bool true)) (by simp [rows, rMP, rMM, rMC, setR]) (by simp [hd])
            have f8 : a.tmps[151]?.getD undef = (.bool true) := by rw [← Array.getD_eq_getD_getElem?]; exact e8
            exact rstep_un (unwanted_of 8 151 false true (by decide) rfl rfl e8) ⟨R, hC.pure 14 157 undef (by simp [rows, rMP, rMM, rMC, setR]) (by simp [rows, rMP, rMM, rMC, setR]) (by simp [rMM]) (by simp [rMC]) rfl (by rw [hsz0]; exact (by decide : 157 < 163)) (by decide) (by simp) (by simp)⟩
          · intro L a w1 hI hi hd
            obtain ⟨R, hC⟩ := hI
            have hi : L 15 = false := hi
            have hp := hC.pif
            simp [Region.binds] at hd
            have e8 : a.tmps.getD 151 undef = (.bool true) := hp.pu (8, 151, (.bool true)) (by simp [rows, rMP, rMM, rMC, setR]) (by simp [hd])
            have f8 : a.tmps[151]?.getD undef = (.bool true) := by rw [← Array.getD_eq_getD_getElem?]; exact e8
            exact rstep_un (unwanted_of 8 151 false true (by decide) rfl rfl e8) ⟨R, hC.pure 15 158 undef (by simp [rows, rMP, rMM, rMC, setR]) (by simp [rows, rMP, rMM, rMC, setR]) (by simp [rMM]) (by simp [rMC]) rfl (by rw [hsz0]; exact (by decide : 158 < 163)) (by decide) (by simp) (by simp)⟩
          · intro L a w1 hI hi hd
            obtain ⟨R, hC⟩ := hI
            have hi : L 16 = false := hi
            have hp := hC.pif
            simp [Region.binds] at hd
            have e8 : a.tmps.getD 151 undef = (.bool true) := hp.pu (8, 151, (.bool true)) (by simp [rows, rMP, rMM, rMC, setR]) (by simp [hd])
            have f8 : a.tmps[151]?.getD undef = (.bool true) := by rw [← Array.getD_eq_getD_getElem?]; exact e8
            exact rstep_valW (wanted_none rfl _) (.bool true) w1 (by go_simp) ⟨R, hC.pure 16 159 (.bool true) (by simp [rows, rMP, rMM, rMC, setR]) (by simp [rows, rMP, rMM, rMC, setR]) (by simp [rMM]) (by simp [rMC]) rfl (by rw [hsz0]; exact (by decide : 159 < 163)) (by decide) (by simp) (by simp)⟩
        rintro L a W ⟨R, hC⟩ hL
        have hp := hC.pif
        have e16 : a.tmps.getD 159 undef = (.bool true) := hp.pu (16, 159, (.bool true)) (by simp [rows, rMP, rMM, rMC, setR]) (hL 16 (by simp))
        have hBW := hC.bel
        rw [hp.eq]
        refine of_assigns (P := Try.prog) _ _ _ _ ?_
        rw [ha0.out]
        simp only [asgs, List.map, e16]
        generalize a.tmps.getD 143 undef = u143
        generalize a.tmps.getD 144 undef = u144
        generalize a.tmps.getD 145 undef = u145
        generalize a.tmps.getD 146 undef = u146
        generalize a.tmps.getD 147 undef = u147
        generalize a.tmps.getD 148 undef = u148
        generalize a.tmps.getD 149 undef = u149
        generalize a.tmps.getD 150 undef = u150
        generalize a.tmps.getD 151 undef = u151
        generalize a.tmps.getD 152 undef = u152
        generalize a.tmps.getD 153 undef = u153
        generalize a.tmps.getD 154 undef = u154
        generalize a.tmps.getD 155 undef = u155
        generalize a.tmps.getD 156 undef = u156
        generalize a.tmps.getD 157 undef = u157
        generalize a.tmps.getD 158 undef = u158
        clear hp hL e16 ha0 z0 z5 z6 z9 hsz0 hC
        clear a0 a L R
        have hzW := hst.z.below hBW hst.z.lt
        have hBB := below_step hst.bel hBW (Nat.le_refl _)
        clear hBW hOb hbV hB0 hst
        have hzq := hzW.setRow_ #[.int .i64 0, .int .u64 0, .int .u32 0, .int .u64 0, .int .u32 0, .int .u16 0, .slice none 0 0, .slice none 0 0, .slice none 0 0, .int .u64 0, .int .u64 0, .bool false, .int .u64 0, .slice none 0 0, .slice none 0 0]
        have hBq := below_grown hBB (grownBy_setRow _ gz #[.int .i64 0, .int .u64 0, .int .u32 0, .int .u64 0, .int .u32 0, .int .u16 0, .slice none 0 0, .slice none 0 0, .slice none 0 0, .int .u64 0, .int .u64 0, .bool false, .int .u64 0, .slice none 0 0, .slice none 0 0]) hBB.size hgzl
        go_wp2_with (first | (refine wp_cond_true (by go_simp) ?_) | (refine wp_cond_false (by go_simp) ?_) | (refine wpList_store_row rfl _ (.tmp 2) (.tmp 160) rfl gz #[.int .i64 0, .int .u64 0, .int .u32 0, .int .u64 0, .int .u32 0, .int .u16 0, .slice none 0 0, .slice none 0 0, .slice none 0 0, .int .u64 0, .int .u64 0, .bool false, .int .u64 0, .slice none 0 0, .slice none 0 0] (by go_simp) (by go_simp) _ _ hzW (by kernel_rfl) rfl (by simp [Value.oneCell']) ?_) | (refine ret_cell3 rfl gz #[.int .i64 0, .int .u64 0, .int .u32 0, .int .u64 0, .int .u32 0, .int .u16 0, .slice none 0 0, .slice none 0 0, .slice none 0 0, .int .u64 0, .int .u64 0, .bool false, .int .u64 0, .slice none 0 0, .slice none 0 0] _ rfl hzq Try.underlying31 rfl (by kernel_rfl) rfl ?_; rw [HR.out]; exact ⟨rfl, hBq⟩))
      by_cases hfm : LogM.form s' = m
      rotate_left
      · as_aux_lemma =>
        skip
        have HR : Hid (LogM.readI l = none) := Lib.hid (by rw [HR0.out, if_pos (.inr (.inr hfm))])
        go_upto_region 29 with fail
        have hB0 : Below wc.heap.size wc wc := Below.refl _ _
        have hbV : wc.heap.size ≤ wc.heap.size := Nat.le_refl _
        have hOb : Own wc wc.heap.size (⟨none, 0, 0⟩ : Rs).A (⟨none, 0, 0⟩ : Rs).c [] := Own.nil_ _ _
        refine wp_named fun a0 ha0 => ?_
        have z0 : a0.tmps.getD 0 undef = (.slice (some ⟨ab, ao, none⟩) n c) := by rw [ha0.out]; rfl
        have z5 : a0.tmps.getD 5 undef = (.int .i64 (sz : Int)) := by rw [ha0.out]; rfl
        have z6 : a0.tmps.getD 6 undef = (.pointer (some ⟨gr, 0, none⟩)) := by rw [ha0.out]; rfl
        have z9 : a0.tmps.getD 9 undef = (.pointer (some ⟨gx, 0, none⟩)) := by rw [ha0.out]; rfl
        have hsz0 : a0.tmps.size = 163 := by rw [ha0.out]; rfl
        refine wp_region_invB _ (by kernel_rfl) (fun L a wv => ∃ R, Ch a0 [143, 144, 145, 146, 147, 148, 149, 150, 151, 152, 153, 154, 155, 156, 157, 158, 159] (rFP s' r' y gr ab ao n sz c) (rFM s' r' y gr ab ao n sz c) rFC wc.heap.size wc wc.heap.size (⟨none, 0, 0⟩ : Rs) ([]) 99 [] 0 999 R L a wv) (by kernel_rfl) ?_ ?_ ?_
        · exact ⟨fun _ => ⟨none, 0, 0⟩, Ch.start hbV ⟨rfl, rfl, rfl, Nat.le_refl _, fun _ _ => rfl⟩ hOb⟩
        rotate_left
        · as_aux_lemma =>
          refine ⟨?_, ?_, ?_, ?_, ?_, ?_, ?_, ?_, ?_, ?_, ?_, ?_, ?_, ?_, ?_, ?_, ?_, trivial⟩
          · intro L a w1 hI hi hd
            obtain ⟨R, hC⟩ := hI
            have hi : L 0 = false := hi
            have hp := hC.pif
            have t6 := hp.at_ 6 _ rfl z6
            have t6' := t6
            rw [Array.getD_eq_getD_getElem?] at t6'
            exact rstep_valW (wanted_none rfl _) (.pointer (some ⟨gr, 0, none⟩)) w1 (by go_simp) ⟨R, hC.pure 0 143 (.pointer (some ⟨gr, 0, none⟩)) (by simp [rows, rFP, rFM, rFC, setR]) (by simp [rows, rFP, rFM, rFC, setR]) (by simp [rFM]) (by simp [rFC]) rfl (by rw [hsz0]; exact (by decide : 143 < 163)) (by decide) (by simp) (by simp)⟩
          · intro L a w1 hI hi hd
            obtain ⟨R, hC⟩ := hI
            have hi : L 1 = false := hi
            have hp := hC.pif
            simp [Region.binds] at hd
            have e0 : a.tmps.getD 143 undef = (.pointer (some ⟨gr, 0, none⟩)) := hp.pu (0, 143, (.pointer (some ⟨gr, 0, none⟩))) (by simp [rows, rFP, rFM, rFC, setR]) (by simp [hd])
            have f0 : a.tmps[143]?.getD undef = (.pointer (some ⟨gr, 0, none⟩)) := by rw [← Array.getD_eq_getD_getElem?]; exact e0
            refine rstep_callW (wanted_none rfl _) 28 #[.pointer (some ⟨gr, 0, none⟩)] (by go_simp) ?_
            refine (err_any gr r' w1 (hst.rd.below hC.bel).at_).mono ?_
            rintro e w2 ⟨rfl, rfl⟩
            have hb : Below w1.heap.size w1 w1 := Below.refl _ _
            exact ⟨R, hC.pureW hb 1 144 (.int .i64 (r'.e : Int)) (by simp [rows, rFP, rFM, rFC, setR]) (by simp [rows, rFP, rFM, rFC, setR]) (by simp [rFM]) (by simp [rFC]) rfl (by rw [hsz0]; exact (by decide : 144 < 163)) (by decide) (by simp) (by simp)⟩
          · intro L a w1 hI hi hd
            obtain ⟨R, hC⟩ := hI
            have hi : L 2 = false := hi
            have hp := hC.pif
            simp [Region.binds] at hd
            have e1 : a.tmps.getD 144 undef = (.int .i64 (r'.e : Int)) := hp.pu (1, 144, (.int .i64 (r'.e : Int))) (by simp [rows, rFP, rFM, rFC, setR]) (by simp [hd])
            have f1 : a.tmps[144]?.getD undef = (.int .i64 (r'.e : Int)) := by rw [← Array.getD_eq_getD_getElem?]; exact e1
            have he' :  (r'.e : Int) = 0 := by omega
            exact rstep_valW (wanted_none rfl _) (.bool false) w1 (by go_simp) ⟨R, hC.pure 2 145 (.bool false) (by simp [rows, rFP, rFM, rFC, setR]) (by simp [rows, rFP, rFM, rFC, setR]) (by simp [rFM]) (by simp [rFC]) rfl (by rw [hsz0]; exact (by decide : 145 < 163)) (by decide) (by simp) (by simp)⟩
          · intro L a w1 hI hi hd
            obtain ⟨R, hC⟩ := hI
            have hi : L 3 = false := hi
            have hp := hC.pif
            simp [Region.binds] at hd
            have e2 : a.tmps.getD 145 undef = (.bool false) := hp.pu (2, 145, (.bool false)) (by simp [rows, rFP, rFM, rFC, setR]) (by simp [hd])
            have f2 : a.tmps[145]?.getD undef = (.bool false) := by rw [← Array.getD_eq_getD_getElem?]; exact e2
            exact rstep_valW (wanted_none rfl _) (.bool false) w1 (by go_simp) ⟨R, hC.pure 3 146 (.bool false) (by simp [rows, rFP, rFM, rFC, setR]) (by simp [rows, rFP, rFM, rFC, setR]) (by simp [rFM]) (by simp [rFC]) rfl (by rw [hsz0]; exact (by decide : 146 < 163)) (by decide) (by simp) (by simp)⟩
          · intro L a w1 hI hi hd
            obtain ⟨R, hC⟩ := hI
            have hi : L 4 = false := hi
            have hp := hC.pif
            simp [Region.binds] at hd
            have e3 : a.tmps.getD 146 undef = (.bool false) := hp.pu (3, 146, (.bool false)) (by simp [rows, rFP, rFM, rFC, setR]) (by simp [hd])
            have f3 : a.tmps[146]?.getD undef = (.bool false) := by rw [← Array.getD_eq_getD_getElem?]; exact e3
            have t9 := hp.at_ 9 _ rfl z9
            have t9' := t9
            rw [Array.getD_eq_getD_getElem?] at t9'
            exact rstep_valW (wanted_of 3 146 false rfl rfl e3) (.agg #[.int .i64 s'.kind, .int .u64 (s'.lsn : Int), .int .u32 (s'.epoch : Int), .int .u64 (s'.txn : Int), .int .u32 (s'.page : Int), .int .u16 (s'.off : Int), .slice y.oA y.on y.oc, .slice y.nA y.nn y.nc, .slice y.uA y.un y.uc, .int .u64 (s'.prev : Int), .int .u64 (s'.next : Int), .bool s'.clr, .int .u64 (s'.stamp : Int), .slice y.pA y.pn y.pc, .slice y.dA y.dn y.dc]) w1 (exec_load_row _ (.tmp 9) rfl gx t9 _ _ _ (hst.x.below (hB0.trans hC.bel) hst.x.lt) Try.underlying31 rfl (by kernel_rfl)) ⟨R, hC.pure 4 147 (.agg #[.int .i64 s'.kind, .int .u64 (s'.lsn : Int), .int .u32 (s'.epoch : Int), .int .u64 (s'.txn : Int), .int .u32 (s'.page : Int), .int .u16 (s'.off : Int), .slice y.oA y.on y.oc, .slice y.nA y.nn y.nc, .slice y.uA y.un y.uc, .int .u64 (s'.prev : Int), .int .u64 (s'.next : Int), .bool s'.clr, .int .u64 (s'.stamp : Int), .slice y.pA y.pn y.pc, .slice y.dA y.dn y.dc]) (by simp [rows, rFP, rFM, rFC, setR]) (by simp [rows, rFP, rFM, rFC, setR]) (by simp [rFM]) (by simp [rFC]) rfl (by rw [hsz0]; exact (by decide : 147 < 163)) (by decide) (by simp) (by simp)⟩
          · intro L a w1 hI hi hd
            obtain ⟨R, hC⟩ := hI
            have hi : L 5 = false := hi
            have hp := hC.pif
            simp [Region.binds] at hd
            have e3 : a.tmps.getD 146 undef = (.bool false) := hp.pu (3, 146, (.bool false)) (by simp [rows, rFP, rFM, rFC, setR]) (by simp [hd])
            have f3 : a.tmps[146]?.getD undef = (.bool false) := by rw [← Array.getD_eq_getD_getElem?]; exact e3
            have e4 : a.tmps.getD 147 undef = (.agg #[.int .i64 s'.kind, .int .u64 (s'.lsn : Int), .int .u32 (s'.epoch : Int), .int .u64 (s'.txn : Int), .int .u32 (s'.page : Int), .int .u16 (s'.off : Int), .slice y.oA y.on y.oc, .slice y.nA y.nn y.nc, .slice y.uA y.un y.uc, .int .u64 (s'.prev : Int), .int .u64 (s'.next : Int), .bool s'.clr, .int .u64 (s'.stamp : Int), .slice y.pA y.pn y.pc, .slice y.dA y.dn y.dc]) := hp.pu (4, 147, (.agg #[.int .i64 s'.kind, .int .u64 (s'.lsn : Int), .int .u32 (s'.epoch : Int), .int .u64 (s'.txn : Int), .int .u32 (s'.page : Int), .int .u16 (s'.off : Int), .slice y.oA y.on y.oc, .slice y.nA y.nn y.nc, .slice y.uA y.un y.uc, .int .u64 (s'.prev : Int), .int .u64 (s'.next : Int), .bool s'.clr, .int .u64 (s'.stamp : Int), .slice y.pA y.pn y.pc, .slice y.dA y.dn y.dc])) (by simp [rows, rFP, rFM, rFC, setR]) (by simp [hd])
            have f4 : a.tmps[147]?.getD undef = (.agg #[.int .i64 s'.kind, .int .u64 (s'.lsn : Int), .int .u32 (s'.epoch : Int), .int .u64 (s'.txn : Int), .int .u32 (s'.page : Int), .int .u16 (s'.off : Int), .slice y.oA y.on y.oc, .slice y.nA y.nn y.nc, .slice y.uA y.un y.uc, .int .u64 (s'.prev : Int), .int .u64 (s'.next : Int), .bool s'.clr, .int .u64 (s'.stamp : Int), .slice y.pA y.pn y.pc, .slice y.dA y.dn y.dc]) := by rw [← Array.getD_eq_getD_getElem?]; exact e4
            refine rstep_callW (wanted_of 3 146 false rfl rfl e3) 16 #[.agg #[.int .i64 s'.kind, .int .u64 (s'.lsn : Int), .int .u32 (s'.epoch : Int), .int .u64 (s'.txn : Int), .int .u32 (s'.page : Int), .int .u16 (s'.off : Int), .slice y.oA y.on y.oc, .slice y.nA y.nn y.nc, .slice y.uA y.un y.uc, .int .u64 (s'.prev : Int), .int .u64 (s'.next : Int), .bool s'.clr, .int .u64 (s'.stamp : Int), .slice y.pA y.pn y.pc, .slice y.dA y.dn y.dc]] (by go_simp) ?_
            refine (may_any s' y w1 (HAT.out.below hC.bel)).mono ?_
            rintro e w2 ⟨r, rfl, HR1, hb⟩
            obtain rfl : r = true := HR1.out.2 hmay
            exact ⟨R, hC.pureW hb 5 148 (.bool true) (by simp [rows, rFP, rFM, rFC, setR]) (by simp [rows, rFP, rFM, rFC, setR]) (by simp [rFM]) (by simp [rFC]) rfl (by rw [hsz0]; exact (by decide : 148 < 163)) (by decide) (by simp) (by simp)⟩
          · intro L a w1 hI hi hd
            obtain ⟨R, hC⟩ := hI
            have hi : L 6 = false := hi
            have hp := hC.pif
            simp [Region.binds] at hd
            have e3 : a.tmps.getD 146 undef = (.bool false) := hp.pu (3, 146, (.bool false)) (by simp [rows, rFP, rFM, rFC, setR]) (by simp [hd])
            have f3 : a.tmps[146]?.getD undef = (.bool false) := by rw [← Array.getD_eq_getD_getElem?]; exact e3
            have e5 : a.tmps.getD 148 undef = (.bool true) := hp.pu (5, 148, (.bool true)) (by simp [rows, rFP, rFM, rFC, setR]) (by simp [hd])
            have f5 : a.tmps[148]?.getD undef = (.bool true) := by rw [← Array.getD_eq_getD_getElem?]; exact e5
            exact rstep_valW (wanted_of 3 146 false rfl rfl e3) (.bool false) w1 (by go_simp) ⟨R, hC.pure 6 149 (.bool false) (by simp [rows, rFP, rFM, rFC, setR]) (by simp [rows, rFP, rFM, rFC, setR]) (by simp [rFM]) (by simp [rFC]) rfl (by rw [hsz0]; exact (by decide : 149 < 163)) (by decide) (by simp) (by simp)⟩
          · intro L a w1 hI hi hd
            obtain ⟨R, hC⟩ := hI
            have hi : L 7 = false := hi
            have hp := hC.pif
            simp [Region.binds] at hd
            have e3 : a.tmps.getD 146 undef = (.bool false) := hp.pu (3, 146, (.bool false)) (by simp [rows, rFP, rFM, rFC, setR]) (by simp [hd])
            have f3 : a.tmps[146]?.getD undef = (.bool false) := by rw [← Array.getD_eq_getD_getElem?]; exact e3
            have e6 : a.tmps.getD 149 undef = (.bool false) := hp.pu (6, 149, (.bool false)) (by simp [rows, rFP, rFM, rFC, setR]) (by simp [hd])
            have f6 : a.tmps[149]?.getD undef = (.bool false) := by rw [← Array.getD_eq_getD_getElem?]; exact e6
            exact rstep_valW (wanted_none rfl _) (.bool false) w1 (by go_simp) ⟨R, hC.pure 7 150 (.bool false) (by simp [rows, rFP, rFM, rFC, setR]) (by simp [rows, rFP, rFM, rFC, setR]) (by simp [rFM]) (by simp [rFC]) rfl (by rw [hsz0]; exact (by decide : 150 < 163)) (by decide) (by simp) (by simp)⟩
          · intro L a w1 hI hi hd
            obtain ⟨R, hC⟩ := hI
            have hi : L 8 = false := hi
            have hp := hC.pif
            simp [Region.binds] at hd
            have e7 : a.tmps.getD 150 undef = (.bool false) := hp.pu (7, 150, (.bool false)) (by simp [rows, rFP, rFM, rFC, setR]) (by simp [hd])
            have f7 : a.tmps[150]?.getD undef = (.bool false) := by rw [← Array.getD_eq_getD_getElem?]; exact e7
            exact rstep_valW (wanted_none rfl _) (.bool false) w1 (by go_simp) ⟨R, hC.pure 8 151 (.bool false) (by simp [rows, rFP, rFM, rFC, setR]) (by simp [rows, rFP, rFM, rFC, setR]) (by simp [rFM]) (by simp [rFC]) rfl (by rw [hsz0]; exact (by decide : 151 < 163)) (by decide) (by simp) (by simp)⟩
          · intro L a w1 hI hi hd
            obtain ⟨R, hC⟩ := hI
            have hi : L 9 = false := hi
            have hp := hC.pif
            simp [Region.binds] at hd
            have e8 : a.tmps.getD 151 undef = (.bool false) := hp.pu (8, 151, (.bool false)) (by simp [rows, rFP, rFM, rFC, setR]) (by simp [hd])
            have f8 : a.tmps[151]?.getD undef = (.bool false) := by rw [← Array.getD_eq_getD_getElem?]; exact e8
            have t9 := hp.at_ 9 _ rfl z9
            have t9' := t9
            rw [Array.getD_eq_getD_getElem?] at t9'
            exact rstep_valW (wanted_of 8 151 false rfl rfl e8) (.agg #[.int .i64 s'.kind, .int .u64 (s'.lsn : Int), .int .u32 (s'.epoch : Int), .int .u64 (s'.txn : Int), .int .u32 (s'.page : Int), .int .u16 (s'.off : Int), .slice y.oA y.on y.oc, .slice y.nA y.nn y.nc, .slice y.uA y.un y.uc, .int .u64 (s'.prev : Int), .int .u64 (s'.next : Int), .bool s'.clr, .int .u64 (s'.stamp : Int), .slice y.pA y.pn y.pc, .slice y.dA y.dn y.dc]) w1 (exec_load_row _ (.tmp 9) rfl gx t9 _ _ _ (hst.x.below (hB0.trans hC.bel) hst.x.lt) Try.underlying31 rfl (by kernel_rfl)) ⟨R, hC.pure 9 152 (.agg #[.int .i64 s'.kind, .int .u64 (s'.lsn : Int), .int .u32 (s'.epoch : Int), .int .u64 (s'.txn : Int), .int .u32 (s'.page : Int), .int .u16 (s'.off : Int), .slice y.oA y.on y.oc, .slice y.nA y.nn y.nc, .slice y.uA y.un y.uc, .int .u64 (s'.prev : Int), .int .u64 (s'.next : Int), .bool s'.clr, .int .u64 (s'.stamp : Int), .slice y.pA y.pn y.pc, .slice y.dA y.dn y.dc]) (by simp [rows, rFP, rFM, rFC, setR]) (by simp [rows, rFP, rFM, rFC, setR]) (by simp [rFM]) (by simp [rFC]) rfl (by rw [hsz0]; exact (by decide : 152 < 163)) (by decide) (by simp) (by simp)⟩
          · intro L a w1 hI hi hd
            obtain ⟨R, hC⟩ := hI
            have hi : L 10 = false := hi
            have hp := hC.pif
            simp [Region.binds] at hd
            have e8 : a.tmps.getD 151 undef = (.bool false) := hp.pu (8, 151, (.bool false)) (by simp [rows, rFP, rFM, rFC, setR]) (by simp [hd])
            have f8 : a.tmps[151]?.getD undef = (.bool false) := by rw [← Array.getD_eq_getD_getElem?]; exact e8
            have e9 : a.tmps.getD 152 undef = (.agg #[.int .i64 s'.kind, .int .u64 (s'.lsn : Int), .int .u32 (s'.epoch : Int), .int .u64 (s'.txn : Int), .int .u32 (s'.page : Int), .int .u16 (s'.off : Int), .slice y.oA y.on y.oc, .slice y.nA y.nn y.nc, .slice y.uA y.un y.uc, .int .u64 (s'.prev : Int), .int .u64 (s'.next : Int), .bool s'.clr, .int .u64 (s'.stamp : Int), .slice y.pA y.pn y.pc, .slice y.dA y.dn y.dc]) := hp.pu (9, 152, (.agg #[.int .i64 s'.kind, .int .u64 (s'.lsn : Int), .int .u32 (s'.epoch : Int), .int .u64 (s'.txn : Int), .int .u32 (s'.page : Int), .int .u16 (s'.off : Int), .slice y.oA y.on y.oc, .slice y.nA y.nn y.nc, .slice y.uA y.un y.uc, .int .u64 (s'.prev : Int), .int .u64 (s'.next : Int), .bool s'.clr, .int .u64 (s'.stamp : Int), .slice y.pA y.pn y.pc, .slice y.dA y.dn y.dc])) (by simp [rows, rFP, rFM, rFC, setR]) (by simp [hd])
            have f9 : a.tmps[152]?.getD undef = (.agg #[.int .i64 s'.kind, .int .u64 (s'.lsn : Int), .int .u32 (s'.epoch : Int), .int .u64 (s'.txn : Int), .int .u32 (s'.page : Int), .int .u16 (s'.off : Int), .slice y.oA y.on y.oc, .slice y.nA y.nn y.nc, .slice y.uA y.un y.uc, .int .u64 (s'.prev : Int), .int .u64 (s'.next : Int), .bool s'.clr, .int .u64 (s'.stamp : Int), .slice y.pA y.pn y.pc, .slice y.dA y.dn y.dc]) := by rw [← Array.getD_eq_getD_getElem?]; exact e9
            refine rstep_callW (wanted_of 8 151 false rfl rfl e8) 30 #[.agg #[.int .i64 s'.kind, .int .u64 (s'.lsn : Int), .int .u32 (s'.epoch : Int), .int .u64 (s'.txn : Int), .int .u32 (s'.page : Int), .int .u16 (s'.off : Int), .slice y.oA y.on y.oc, .slice y.nA y.nn y.nc, .slice y.uA y.un y.uc, .int .u64 (s'.prev : Int), .int .u64 (s'.next : Int), .bool s'.clr, .int .u64 (s'.stamp : Int), .slice y.pA y.pn y.pc, .slice y.dA y.dn y.dc]] (by go_simp) ?_
            refine (form_any s' y w1 (HAT.out.below hC.bel) hmay).mono ?_
            rintro e w2 ⟨A', n', c', rfl, hn', hO, hb⟩
            exact ⟨_, hC.call ⟨10, 153, LogM.form s', none⟩ (by simp [rFM]) ⟨A', n', c'⟩ hi hO hn'.out hb (by simp [rFM]) (by simp [rFP]) (by simp [rows, rFP, rFM, rFC, setR]) (by simp [rows, rFP, rFM, rFC, setR]) (by simp [rFC]) rfl (by rw [hsz0]; exact (by decide : 153 < 163)) (by simp) (by simp)⟩
          · intro L a w1 hI hi hd
            obtain ⟨R, hC⟩ := hI
            have hi : L 11 = false := hi
            have hp := hC.pif
            simp [Region.binds] at hd
            have e8 : a.tmps.getD 151 undef = (.bool false) := hp.pu (8, 151, (.bool false)) (by simp [rows, rFP, rFM, rFC, setR]) (by simp [hd])
            have f8 : a.tmps[151]?.getD undef = (.bool false) := by rw [← Array.getD_eq_getD_getElem?]; exact e8
            have t0 := hp.at_ 0 _ rfl z0
            have t0' := t0
            rw [Array.getD_eq_getD_getElem?] at t0'
            exact rstep_valW (wanted_of 8 151 false rfl rfl e8) (.slice (some ⟨ab, ao, none⟩) n c) w1 (by go_simp) ⟨R, hC.pure 11 154 (.slice (some ⟨ab, ao, none⟩) n c) (by simp [rows, rFP, rFM, rFC, setR]) (by simp [rows, rFP, rFM, rFC, setR]) (by simp [rFM]) (by simp [rFC]) rfl (by rw [hsz0]; exact (by decide : 154 < 163)) (by decide) (by simp) (by simp)⟩
          · intro L a w1 hI hi hd
            obtain ⟨R, hC⟩ := hI
            have hi : L 12 = false := hi
            have hp := hC.pif
            simp [Region.binds] at hd
            have e8 : a.tmps.getD 151 undef = (.bool false) := hp.pu (8, 151, (.bool false)) (by simp [rows, rFP, rFM, rFC, setR]) (by simp [hd])
            have f8 : a.tmps[151]?.getD undef = (.bool false) := by rw [← Array.getD_eq_getD_getElem?]; exact e8
            have t5 := hp.at_ 5 _ rfl z5
            have t5' := t5
            rw [Array.getD_eq_getD_getElem?] at t5'
            exact rstep_valW (wanted_of 8 151 false rfl rfl e8) (.int .i64 (sz : Int)) w1 (by go_simp) ⟨R, hC.pure 12 155 (.int .i64 (sz : Int)) (by simp [rows, rFP, rFM, rFC, setR]) (by simp [rows, rFP, rFM, rFC, setR]) (by simp [rFM]) (by simp [rFC]) rfl (by rw [hsz0]; exact (by decide : 155 < 163)) (by decide) (by simp) (by simp)⟩
          · intro L a w1 hI hi hd
            obtain ⟨R, hC⟩ := hI
            have hi : L 13 = false := hi
            have hp := hC.pif
            simp [Region.binds] at hd
            have e8 : a.tmps.getD 151 undef = (.bool false) := hp.pu (8, 151, (.bool false)) (by simp [rows, rFP, rFM, rFC, setR]) (by simp [hd])
            have f8 : a.tmps[151]?.getD undef = (.bool false) := by rw [← Array.getD_eq_getD_getElem?]; exact e8
            have e11 : a.tmps.getD 154 undef = (.slice (some ⟨ab, ao, none⟩) n c) := hp.pu (11, 154, (.slice (some ⟨ab, ao, none⟩) n c)) (by simp [rows, rFP, rFM, rFC, setR]) (by simp [hd])
            have f11 : a.tmps[154]?.getD undef = (.slice (some ⟨ab, ao, none⟩) n c) := by rw [← Array.getD_eq_getD_getElem?]; exact e11
            have e12 : a.tmps.getD 155 undef = (.int .i64 (sz : Int)) := hp.pu (12, 155, (.int .i64 (sz : Int))) (by simp [rows, rFP, rFM, rFC, setR]) (by simp [hd])
            have f12 : a.tmps[155]?.getD undef = (.int .i64 (sz : Int)) := by rw [← Array.getD_eq_getD_getElem?]; exact e12
            have hszc : ¬ c < sz := by omega
            exact rstep_valW (wanted_of 8 151 false rfl rfl e8) (.slice (some ⟨ab, ao, none⟩) sz c) w1 (by go_simp) ⟨R, hC.pure 13 156 (.slice (some ⟨ab, ao, none⟩) sz c) (by simp [rows, rFP, rFM, rFC, setR]) (by simp [rows, rFP, rFM, rFC, setR]) (by simp [rFM]) (by simp [rFC]) rfl (by rw [hsz0]; exact (by decide : 156 < 163)) (by decide) (by simp) (by simp)⟩
          · intro L a w1 hI hi hd
            obtain ⟨R, hC⟩ := hI
            have hi : L 14 = false := hi
            have hp := hC.pif
            simp [Region.binds] at hd
            have e8 : a.tmps.getD 151 undef = (.bool false) := hp.pu (8, 151, (.bool false)) (by simp [rows, rFP, rFM, rFC, setR]) (by simp [hd])
            have f8 : a.tmps[151]?.getD undef = (.bool false) := by rw [← Array.getD_eq_getD_getElem?]; exact e8
            have e10 : a.tmps.getD 153 undef = (.slice (R 10).A (R 10).n (R 10).c) := hp.pu (10, 153, (R 10).v) (by simp [rows, rFP, rFM, rFC, setR]) (by simp [hd])
            have f10 : a.tmps[153]?.getD undef = (.slice (R 10).A (R 10).n (R 10).c) := by rw [← Array.getD_eq_getD_getElem?]; exact e10
            have e13 : a.tmps.getD 156 undef = (.slice (some ⟨ab, ao, none⟩) sz c) := hp.pu (13, 156, (.slice (some ⟨ab, ao, none⟩) sz c)) (by simp [rows, rFP, rFM, rFC, setR]) (by simp [hd])
            have f13 : a.tmps[156]?.getD undef = (.slice (some ⟨ab, ao, none⟩) sz c) := by rw [← Array.getD_eq_getD_getElem?]; exact e13
            have hO0 := hC.own ⟨10, 153, LogM.form s', none⟩ (by simp [rFM]) (by simp [hd]) nofun
            have hN0 := hC.len ⟨10, 153, LogM.form s', none⟩ (by simp [rFM]) (by simp [hd])
            dsimp only at hO0 hN0
            have q := equal8_any (R 10).A (some ⟨ab, ao, none⟩) (R 10).n sz (R 10).c c (LogM.form s') m w1 hO0.row hN0 (hst.inp.below hC.bel) HML.out
            rw [decide_eq_false hfm] at q
            refine rstep_callW (wanted_of 8 151 false rfl rfl e8) 29 #[.slice (R 10).A (R 10).n (R 10).c, .slice (some ⟨ab, ao, none⟩) sz c] (by go_simp) ?_
            refine q.mono ?_
            rintro e w2 ⟨rfl, rfl⟩
            have hb : Below w1.heap.size w1 w1 := Below.refl _ _
            exact ⟨R, hC.pureW hb 14 157 (.bool false) (by simp [rows, rFP, rFM, rFC, setR]) (by simp [rows, rFP, rFM, rFC, setR]) (by simp [rFM]) (by simp [rFC]) rfl (by rw [hsz0]; exact (by decide : 157 < 163)) (by decide) (by simp) (by simp)⟩
          · intro L a w1 hI hi hd
            obtain ⟨R, hC⟩ := hI
            have hi : L 15 = false := hi
            have hp := hC.pif
            simp [Region.binds] at hd
            have e8 : a.tmps.getD 151 undef = (.bool false) := hp.pu (8, 151, (.bool false)) (by simp [rows, rFP, rFM, rFC, setR]) (by simp [hd])
            have f8 : a.tmps[151]?.getD undef = (.bool false) := by rw [← Array.getD_eq_getD_getElem?]; exact e8
            have e14 : a.tmps.getD 157 undef = (.bool false) := hp.pu (14, 157, (.bool false)) (by simp [rows, rFP, rFM, rFC, setR]) (by simp [hd])
            have f14 : a.tmps[157]?.getD undef = (.bool false) := by rw [← Array.getD_eq_getD_getElem?]; exact e14
            exact rstep_valW (wanted_of 8 151 false rfl rfl e8) (.bool true) w1 (by go_simp) ⟨R, hC.pure 15 158 (.bool true) (by simp [rows, rFP, rFM, rFC, setR]) (by simp [rows, rFP, rFM, rFC, setR]) (by simp [rFM]) (by simp [rFC]) rfl (by rw [hsz0]; exact (by decide : 158 < 163)) (by decide) (by simp) (by simp)⟩
          · intro L a w1 hI hi hd
            obtain ⟨R, hC⟩ := hI
            have hi : L 16 = false := hi
            have hp := hC.pif
            simp [Region.binds] at hd
            have e8 : a.tmps.getD 151 undef = (.bool false) := hp.pu (8, 151, (.bool false)) (by simp [rows, rFP, rFM, rFC, setR]) (by simp [hd])
            have f8 : a.tmps[151]?.getD undef = (.bool false) := by rw [← Array.getD_eq_getD_getElem?]; exact e8
            have e15 : a.tmps.getD 158 undef = (.bool true) := hp.pu (15, 158, (.bool true)) (by simp [rows, rFP, rFM, rFC, setR]) (by simp [hd])
            have f15 : a.tmps[158]?.getD undef = (.bool true) := by rw [← Array.getD_eq_getD_getElem?]; exact e15
            exact rstep_valW (wanted_none rfl _) (.bool true) w1 (by go_simp) ⟨R, hC.pure 16 159 (.bool true) (by simp [rows, rFP, rFM, rFC, setR]) (by simp [rows, rFP, rFM, rFC, setR]) (by simp [rFM]) (by simp [rFC]) rfl (by rw [hsz0]; exact (by decide : 159 < 163)) (by decide) (by simp) (by simp)⟩
        rintro L a W ⟨R, hC⟩ hL
        have hp := hC.pif
        have e16 : a.tmps.getD 159 undef = (.bool true) := hp.pu (16, 159, (.bool true)) (by simp [rows, rFP, rFM, rFC, setR]) (hL 16 (by simp))
        have hBW := hC.bel
        rw [hp.eq]
        refine of_assigns (P := Try.prog) _ _ _ _ ?_
        rw [ha0.out]
        simp only [asgs, List.map, e16]
        generalize a.tmps.getD 143 undef = u143
        generalize a.tmps.getD 144 undef = u144
        generalize a.tmps.getD 145 undef = u145
        generalize a.tmps.getD 146 undef = u146
        generalize a.tmps.getD 147 undef = u147
        generalize a.tmps.getD 148 undef = u148
        generalize a.tmps.getD 149 undef = u149
        generalize a.tmps.getD 150 undef = u150
        generalize a.tmps.getD 151 undef = u151
        generalize a.tmps.getD 152 undef = u152
        generalize a.tmps.getD 153 undef = u153
        generalize a.tmps.getD 154 undef = u154
        generalize a.tmps.getD 155 undef = u155
        generalize a.tmps.getD 156 undef = u156
        generalize a.tmps.getD 157 undef = u157
        generalize a.tmps.getD 158 undef = u158
        clear hp hL e16 ha0 z0 z5 z6 z9 hsz0 hC
        clear a0 a L R
        have hzW := hst.z.below hBW hst.z.lt
        have hBB := below_step hst.bel hBW (Nat.le_refl _)
        clear hBW hOb hbV hB0 hst
        have hzq := hzW.setRow_ #[.int .i64 0, .int .u64 0, .int .u32 0, .int .u64 0, .int .u32 0, .int .u16 0, .slice none 0 0, .slice none 0 0, .slice none 0 0, .int .u64 0, .int .u64 0, .bool false, .int .u64 0, .slice none 0 0, .slice none 0 0]
        have hBq := below_grown hBB (grownBy_setRow _ gz #[.int .i64 0, .int .u64 0, .int .u32 0, .int .u64 0, .int .u32 0, .int .u16 0, .slice none 0 0, .slice none 0 0, .slice none 0 0, .int .u64 0, .int .u64 0, .bool false, .int .u64 0, .slice none 0 0, .slice none 0 0]) hBB.size hgzl
        go_wp2_with (first | (refine wp_cond_true (by go_simp) ?_) | (refine wp_cond_false (by go_simp) ?_) | (refine wpList_store_row rfl _ (.tmp 2) (.tmp 160) rfl gz #[.int .i64 0, .int .u64 0, .int .u32 0, .int .u64 0, .int .u32 0, .int .u16 0, .slice none 0 0, .slice none 0 0, .slice none 0 0, .int .u64 0, .int .u64 0, .bool false, .int .u64 0, .slice none 0 0, .slice none 0 0] (by go_simp) (by go_simp) _ _ hzW (by kernel_rfl) rfl (by simp [Value.oneCell']) ?_) | (refine ret_cell3 rfl gz #[.int .i64 0, .int .u64 0, .int .u32 0, .int .u64 0, .int .u32 0, .int .u16 0, .slice none 0 0, .slice none 0 0, .slice none 0 0, .int .u64 0, .int .u64 0, .bool false, .int .u64 0, .slice none 0 0, .slice none 0 0] _ rfl hzq Try.underlying31 rfl (by kernel_rfl) rfl ?_; rw [HR.out]; exact ⟨rfl, hBq⟩))
      have HR : Hid (LogM.readI l = some (s', sz)) := Lib.hid (by rw [HR0.out, if_neg (by simp [he, hmay, hfm])])
      go_upto_region 29 with fail
      have hB0 : Below wc.heap.size wc wc := Below.refl _ _
      have hbV : wc.heap.size ≤ wc.heap.size := Nat.le_refl _
      have hOb : Own wc wc.heap.size (⟨none, 0, 0⟩ : Rs).A (⟨none, 0, 0⟩ : Rs).c [] := Own.nil_ _ _
      refine wp_named fun a0 ha0 => ?_
      have z0 : a0.tmps.getD 0 undef = (.slice (some ⟨ab, ao, none⟩) n c) := by rw [ha0.out]; rfl
      have z5 : a0.tmps.getD 5 undef = (.int .i64 (sz : Int)) := by rw [ha0.out]; rfl
      have z6 : a0.tmps.getD 6 undef = (.pointer (some ⟨gr, 0, none⟩)) := by rw [ha0.out]; rfl
      have z9 : a0.tmps.getD 9 undef = (.pointer (some ⟨gx, 0, none⟩)) := by rw [ha0.out]; rfl
      have hsz0 : a0.tmps.size = 163 := by rw [ha0.out]; rfl
      refine wp_region_invB _ (by kernel_rfl) (fun L a wv => ∃ R, Ch a0 [143, 144, 145, 146, 147, 148, 149, 150, 151, 152, 153, 154, 155, 156, 157, 158, 159] (rTP s' r' y gr ab ao n sz c) (rTM s' r' y gr ab ao n sz c) rTC wc.heap.size wc wc.heap.size (⟨none, 0, 0⟩ : Rs) ([]) 99 [] 0 999 R L a wv) (by kernel_rfl) ?_ ?_ ?_
      · exact ⟨fun _ => ⟨none, 0, 0⟩, Ch.start hbV ⟨rfl, rfl, rfl, Nat.le_refl _, fun _ _ => rfl⟩ hOb⟩
      rotate_left
      · as_aux_lemma =>
        refine ⟨?_, ?_, ?_, ?_, ?_, ?_, ?_, ?_, ?_, ?_, ?_, ?_, ?_, ?_, ?_, ?_, ?_, trivial⟩
        · intro L a w1 hI hi hd
          obtain ⟨R, hC⟩ := hI
          have hi : L 0 = false := hi
          have hp := hC.pif
          have t6 := hp.at_ 6 _ rfl z6
          have t6' := t6
          rw [Array.getD_eq_getD_getElem?] at t6'
          exact rstep_valW (wanted_none rfl _) (.pointer (some ⟨gr, 0, none⟩)) w1 (by go_simp) ⟨R, hC.pure 0 143 (.pointer (some ⟨gr, 0, none⟩)) (by simp [rows, rTP, rTM, rTC, setR]) (by simp [rows, rTP, rTM, rTC, setR]) (by simp [rTM]) (by simp [rTC]) rfl (by rw [hsz0]; exact (by decide : 143 < 163)) (by decide) (by simp) (by simp)⟩
        · intro L a w1 hI hi hd
          obtain ⟨R, hC⟩ := hI
          have hi : L 1 = false := hi
          have hp := hC.pif
          simp [Region.binds] at hd
          have e0 : a.tmps.getD 143 undef = (.pointer (some ⟨gr, 0, none⟩)) := hp.pu (0, 143, (.pointer (some ⟨gr, 0, none⟩))) (by simp [rows, rTP, rTM, rTC, setR]) (by simp [hd])
          have f0 : a.tmps[143]?.getD undef = (.pointer (some ⟨gr, 0, none⟩)) := by rw [← Array.getD_eq_getD_getElem?]; exact e0
          refine rstep_callW (wanted_none rfl _) 28 #[.pointer (some ⟨gr, 0, none⟩)] (by go_simp) ?_
          refine (err_any gr r' w1 (hst.rd.below hC.bel).at_).mono ?_
          rintro e w2 ⟨rfl, rfl⟩
          have hb : Below w1.heap.size w1 w1 := Below.refl _ _
          exact ⟨R, hC.pureW hb 1 144 (.int .i64 (r'.e : Int)) (by simp [rows, rTP, rTM, rTC, setR]) (by simp [rows, rTP, rTM, rTC, setR]) (by simp [rTM]) (by simp [rTC]) rfl (by rw [hsz0]; exact (by decide : 144 < 163)) (by decide) (by simp) (by simp)⟩
        · intro L a w1 hI hi hd
          obtain ⟨R, hC⟩ := hI
          have hi : L 2 = false := hi
          have hp := hC.pif
          simp [Region.binds] at hd
          have e1 : a.tmps.getD 144 undef = (.int .i64 (r'.e : Int)) := hp.pu (1, 144, (.int .i64 (r'.e : Int))) (by simp [rows, rTP, rTM, rTC, setR]) (by simp [hd])
          have f1 : a.tmps[144]?.getD undef = (.int .i64 (r'.e : Int)) := by rw [← Array.getD_eq_getD_getElem?]; exact e1
          have he' :  (r'.e : Int) = 0 := by omega
          exact rstep_valW (wanted_none rfl _) (.bool false) w1 (by go_simp) ⟨R, hC.pure 2 145 (.bool false) (by simp [rows, rTP, rTM, rTC, setR]) (by simp [rows, rTP, rTM, rTC, setR]) (by simp [rTM]) (by simp [rTC]) rfl (by rw [hsz0]; exact (by decide : 145 < 163)) (by decide) (by simp) (by simp)⟩
        · intro L a w1 hI hi hd
          obtain ⟨R, hC⟩ := hI
          have hi : L 3 = false := hi
          have hp := hC.pif
          simp [Region.binds] at hd
          have e2 : a.tmps.getD 145 undef = (.bool false) := hp.pu (2, 145, (.bool false)) (by simp [rows, rTP, rTM, rTC, setR]) (by simp [hd])
          have f2 : a.tmps[145]?.getD undef = (.bool false) := by rw [← Array.getD_eq_getD_getElem?]; exact e2
          exact rstep_valW (wanted_none rfl _) (.bool false) w1 (by go_simp) ⟨R, hC.pure 3 146 (.bool false) (by simp [rows, rTP, rTM, rTC, setR]) (by simp [rows, rTP, rTM, rTC, setR]) (by simp [rTM]) (by simp [rTC]) rfl (by rw [hsz0]; exact (by decide : 146 < 163)) (by decide) (by simp) (by simp)⟩
        · intro L a w1 hI hi hd
          obtain ⟨R, hC⟩ := hI
          have hi : L 4 = false := hi
          have hp := hC.pif
          simp [Region.binds] at hd
          have e3 : a.tmps.getD 146 undef = (.bool false) := hp.pu (3, 146, (.bool false)) (by simp [rows, rTP, rTM, rTC, setR]) (by simp [hd])
          have f3 : a.tmps[146]?.getD undef = (.bool false) := by rw [← Array.getD_eq_getD_getElem?]; exact e3
          have t9 := hp.at_ 9 _ rfl z9
          have t9' := t9
          rw [Array.getD_eq_getD_getElem?] at t9'
          exact rstep_valW (wanted_of 3 146 false rfl rfl e3) (.agg #[.int .i64 s'.kind, .int .u64 (s'.lsn : Int), .int .u32 (s'.epoch : Int), .int .u64 (s'.txn : Int), .int .u32 (s'.page : Int), .int .u16 (s'.off : Int), .slice y.oA y.on y.oc, .slice y.nA y.nn y.nc, .slice y.uA y.un y.uc, .int .u64 (s'.prev : Int), .int .u64 (s'.next : Int), .bool s'.clr, .int .u64 (s'.stamp : Int), .slice y.pA y.pn y.pc, .slice y.dA y.dn y.dc]) w1 (exec_load_row _ (.tmp 9) rfl gx t9 _ _ _ (hst.x.below (hB0.trans hC.bel) hst.x.lt) Try.underlying31 rfl (by kernel_rfl)) ⟨R, hC.pure 4 147 (.agg #[.int .i64 s'.kind, .int .u64 (s'.lsn : Int), .int .u32 (s'.epoch : Int), .int .u64 (s'.txn : Int), .int .u32 (s'.page : Int), .int .u16 (s'.off : Int), .slice y.oA y.on y.oc, .slice y.nA y.nn y.nc, .slice y.uA y.un y.uc, .int .u64 (s'.prev : Int), .int .u64 (s'.next : Int), .bool s'.clr, .int .u64 (s'.stamp : Int), .slice y.pA y.pn y.pc, .slice y.dA y.dn y.dc]) (by simp [rows, rTP, rTM, rTC, setR]) (by simp [rows, rTP, rTM, rTC, setR]) (by simp [rTM]) (by simp [rTC]) rfl (by rw [hsz0]; exact (by decide : 147 < 163)) (by decide) (by simp) (by simp)⟩
        · intro L a w1 hI hi hd
          obtain ⟨R, hC⟩ := hI
          have hi : L 5 = false := hi
          have hp := hC.pif
          simp [Region.binds] at hd
          have e3 : a.tmps.getD 146 undef = (.bool false) := hp.pu (3, 146, (.bool false)) (by simp [rows, rTP, rTM, rTC, setR]) (by simp [hd])
          have f3 : a.tmps[146]?.getD undef = (.bool false) := by rw [← Array.getD_eq_getD_getElem?]; exact e3
          have e4 : a.tmps.getD 147 undef = (.agg #[.int .i64 s'.kind, .int .u64 (s'.lsn : Int), .int .u32 (s'.epoch : Int), .int .u64 (s'.txn : Int), .int .u32 (s'.page : Int), .int .u16 (s'.off : Int), .slice y.oA y.on y.oc, .slice y.nA y.nn y.nc, .slice y.uA y.un y.uc, .int .u64 (s'.prev : Int), .int .u64 (s'.next : Int), .bool s'.clr, .int .u64 (s'.stamp : Int), .slice y.pA y.pn y.pc, .slice y.dA y.dn y.dc]) := hp.pu (4, 147, (.agg #[.int .i64 s'.kind, .int .u64 (s'.lsn : Int), .int .u32 (s'.epoch : Int), .int .u64 (s'.txn : Int), .int .u32 (s'.page : Int), .int .u16 (s'.off : Int), .slice y.oA y.on y.oc, .slice y.nA y.nn y.nc, .slice y.uA y.un y.uc, .int .u64 (s'.prev : Int), .int .u64 (s'.next : Int), .bool s'.clr, .int .u64 (s'.stamp : Int), .slice y.pA y.pn y.pc, .slice y.dA y.dn y.dc])) (by simp [rows, rTP, rTM, rTC, setR]) (by simp [hd])
          have f4 : a.tmps[147]?.getD undef = (.agg #[.int .i64 s'.kind, .int .u64 (s'.lsn : Int), .int .u32 (s'.epoch : Int), .int .u64 (s'.txn : Int), .int .u32 (s'.page : Int), .int .u16 (s'.off : Int), .slice y.oA y.on y.oc, .slice y.nA y.nn y.nc, .slice y.uA y.un y.uc, .int .u64 (s'.prev : Int), .int .u64 (s'.next : Int), .bool s'.clr, .int .u64 (s'.stamp : Int), .slice y.pA y.pn y.pc, .slice y.dA y.dn y.dc]) := by rw [← Array.getD_eq_getD_getElem?]; exact e4
          refine rstep_callW (wanted_of 3 146 false rfl rfl e3) 16 #[.agg #[.int .i64 s'.kind, .int .u64 (s'.lsn : Int), .int .u32 (s'.epoch : Int), .int .u64 (s'.txn : Int), .int .u32 (s'.page : Int), .int .u16 (s'.off : Int), .slice y.oA y.on y.oc, .slice y.nA y.nn y.nc, .slice y.uA y.un y.uc, .int .u64 (s'.prev : Int), .int .u64 (s'.next : Int), .bool s'.clr, .int .u64 (s'.stamp : Int), .slice y.pA y.pn y.pc, .slice y.dA y.dn y.dc]] (by go_simp) ?_
          refine (may_any s' y w1 (HAT.out.below hC.bel)).mono ?_
          rintro e w2 ⟨r, rfl, HR1, hb⟩
          obtain rfl : r = true := HR1.out.2 hmay
          exact ⟨R, hC.pureW hb 5 148 (.bool true) (by simp [rows, rTP, rTM, rTC, setR]) (by simp [rows, rTP, rTM, rTC, setR]) (by simp [rTM]) (by simp [rTC]) rfl (by rw [hsz0]; exact (by decide : 148 < 163)) (by decide) (by simp) (by simp)⟩
        · intro L a w1 hI hi hd
          obtain ⟨R, hC⟩ := hI
          have hi : L 6 = false := hi
          have hp := hC.pif
          simp [Region.binds] at hd
          have e3 : a.tmps.getD 146 undef = (.bool false) := hp.pu (3, 146, (.bool false)) (by simp [rows, rTP, rTM, rTC, setR]) (by simp [hd])
          have f3 : a.tmps[146]?.getD undef = (.bool false) := by rw [← Array.getD_eq_getD_getElem?]; exact e3
          have e5 : a.tmps.getD 148 undef = (.bool true) := hp.pu (5, 148, (.bool true)) (by simp [rows, rTP, rTM, rTC, setR]) (by simp [hd])
          have f5 : a.tmps[148]?.getD undef = (.bool true) := by rw [← Array.getD_eq_getD_getElem?]; exact e5
          exact rstep_valW (wanted_of 3 146 false rfl rfl e3) (.bool false) w1 (by go_simp) ⟨R, hC.pure 6 149 (.bool false) (by simp [rows, rTP, rTM, rTC, setR]) (by simp [rows, rTP, rTM, rTC, setR]) (by simp [rTM]) (by simp [rTC]) rfl (by rw [hsz0]; exact (by decide : 149 < 163)) (by decide) (by simp) (by simp)⟩
        · intro L a w1 hI hi hd
          obtain ⟨R, hC⟩ := hI
          have hi : L 7 = false := hi
          have hp := hC.pif
          simp [Region.binds] at hd
          have e3 : a.tmps.getD 146 undef = (.bool false) := hp.pu (3, 146, (.bool false)) (by simp [rows, rTP, rTM, rTC, setR]) (by simp [hd])
          have f3 : a.tmps[146]?.getD undef = (.bool false) := by rw [← Array.getD_eq_getD_getElem?]; exact e3
          have e6 : a.tmps.getD 149 undef = (.bool false) := hp.pu (6, 149, (.bool false)) (by simp [rows, rTP, rTM, rTC, setR]) (by simp [hd])
          have f6 : a.tmps[149]?.getD undef = (.bool false) := by rw [← Array.getD_eq_getD_getElem?]; exact e6
          exact rstep_valW (wanted_none rfl _) (.bool false) w1 (by go_simp) ⟨R, hC.pure 7 150 (.bool false) (by simp [rows, rTP, rTM, rTC, setR]) (by simp [rows, rTP, rTM, rTC, setR]) (by simp [rTM]) (by simp [rTC]) rfl (by rw [hsz0]; exact (by decide : 150 < 163)) (by decide) (by simp) (by simp)⟩
        · intro L a w1 hI hi hd
          obtain ⟨R, hC⟩ := hI
          have hi : L 8 = false := hi
          have hp := hC.pif
          simp [Region.binds] at hd
          have e7 : a.tmps.getD 150 undef = (.bool false) := hp.pu (7, 150, (.bool false)) (by simp [rows, rTP, rTM, rTC, setR]) (by simp [hd])
          have f7 : a.tmps[150]?.getD undef = (.bool false) := by rw [← Array.getD_eq_getD_getElem?]; exact e7
          exact rstep_valW (wanted_none rfl _) (.bool false) w1 (by go_simp) ⟨R, hC.pure 8 151 (.bool false) (by simp [rows, rTP, rTM, rTC, setR]) (by simp [rows, rTP, rTM, rTC, setR]) (by simp [rTM]) (by simp [rTC]) rfl (by rw [hsz0]; exact (by decide : 151 < 163)) (by decide) (by simp) (by simp)⟩
        · intro L a w1 hI hi hd
          obtain ⟨R, hC⟩ := hI
          have hi : L 9 = false := hi
          have hp := hC.pif
          simp [Region.binds] at hd
          have e8 : a.tmps.getD 151 undef = (.bool false) := hp.pu (8, 151, (.bool false)) (by simp [rows, rTP, rTM, rTC, setR]) (by simp [hd])
          have f8 : a.tmps[151]?.getD undef = (.bool false) := by rw [← Array.getD_eq_getD_getElem?]; exact e8
          have t9 := hp.at_ 9 _ rfl z9
          have t9' := t9
          rw [Array.getD_eq_getD_getElem?] at t9'
          exact rstep_valW (wanted_of 8 151 false rfl rfl e8) (.agg #[.int .i64 s'.kind, .int .u64 (s'.lsn : Int), .int .u32 (s'.epoch : Int), .int .u64 (s'.txn : Int), .int .u32 (s'.page : Int), .int .u16 (s'.off : Int), .slice y.oA y.on y.oc, .slice y.nA y.nn y.nc, .slice y.uA y.un y.uc, .int .u64 (s'.prev : Int), .int .u64 (s'.next : Int), .bool s'.clr, .int .u64 (s'.stamp : Int), .slice y.pA y.pn y.pc, .slice y.dA y.dn y.dc]) w1 (exec_load_row _ (.tmp 9) rfl gx t9 _ _ _ (hst.x.below (hB0.trans hC.bel) hst.x.lt) Try.underlying31 rfl (by kernel_rfl)) ⟨R, hC.pure 9 152 (.agg #[.int .i64 s'.kind, .int .u64 (s'.lsn : Int), .int .u32 (s'.epoch : Int), .int .u64 (s'.txn : Int), .int .u32 (s'.page : Int), .int .u16 (s'.off : Int), .slice y.oA y.on y.oc, .slice y.nA y.nn y.nc, .slice y.uA y.un y.uc, .int .u64 (s'.prev : Int), .int .u64 (s'.next : Int), .bool s'.clr, .int .u64 (s'.stamp : Int), .slice y.pA y.pn y.pc, .slice y.dA y.dn y.dc]) (by simp [rows, rTP, rTM, rTC, setR]) (by simp [rows, rTP, rTM, rTC, setR]) (by simp [rTM]) (by simp [rTC]) rfl (by rw [hsz0]; exact (by decide : 152 < 163)) (by decide) (by simp) (by simp)⟩
        · intro L a w1 hI hi hd
          obtain ⟨R, hC⟩ := hI
          have hi : L 10 = false := hi
          have hp := hC.pif
          simp [Region.binds] at hd
          have e8 : a.tmps.getD 151 undef = (.bool false) := hp.pu (8, 151, (.bool false)) (by simp [rows, rTP, rTM, rTC, setR]) (by simp [hd])
          have f8 : a.tmps[151]?.getD undef = (.bool false) := by rw [← Array.getD_eq_getD_getElem?]; exact e8
          have e9 : a.tmps.getD 152 undef = (.agg #[.int .i64 s'.kind, .int .u64 (s'.lsn : Int), .int .u32 (s'.epoch : Int), .int .u64 (s'.txn : Int), .int .u32 (s'.page : Int), .int .u16 (s'.off : Int), .slice y.oA y.on y.oc, .slice y.nA y.nn y.nc, .slice y.uA y.un y.uc, .int .u64 (s'.prev : Int), .int .u64 (s'.next : Int), .bool s'.clr, .int .u64 (s'.stamp : Int), .slice y.pA y.pn y.pc, .slice y.dA y.dn y.dc]) := hp.pu (9, 152, (.agg #[.int .i64 s'.kind, .int .u64 (s'.lsn : Int), .int .u32 (s'.epoch : Int), .int .u64 (s'.txn : Int), .int .u32 (s'.page : Int), .int .u16 (s'.off : Int), .slice y.oA y.on y.oc, .slice y.nA y.nn y.nc, .slice y.uA y.un y.uc, .int .u64 (s'.prev : Int), .int .u64 (s'.next : Int), .bool s'.clr, .int .u64 (s'.stamp : Int), .slice y.pA y.pn y.pc, .slice y.dA y.dn y.dc])) (by simp [rows, rTP, rTM, rTC, setR]) (by simp [hd])
          have f9 : a.tmps[152]?.getD undef = (.agg #[.int .i64 s'.kind, .int .u64 (s'.lsn : Int), .int .u32 (s'.epoch : Int), .int .u64 (s'.txn : Int), .int .u32 (s'.page : Int), .int .u16 (s'.off : Int), .slice y.oA y.on y.oc, .slice y.nA y.nn y.nc, .slice y.uA y.un y.uc, .int .u64 (s'.prev : Int), .int .u64 (s'.next : Int), .bool s'.clr, .int .u64 (s'.stamp : Int), .slice y.pA y.pn y.pc, .slice y.dA y.dn y.dc]) := by rw [← Array.getD_eq_getD_getElem?]; exact e9
          refine rstep_callW (wanted_of 8 151 false rfl rfl e8) 30 #[.agg #[.int .i64 s'.kind, .int .u64 (s'.lsn : Int), .int .u32 (s'.epoch : Int), .int .u64 (s'.txn : Int), .int .u32 (s'.page : Int), .int .u16 (s'.off : Int), .slice y.oA y.on y.oc, .slice y.nA y.nn y.nc, .slice y.uA y.un y.uc, .int .u64 (s'.prev : Int), .int .u64 (s'.next : Int), .bool s'.clr, .int .u64 (s'.stamp : Int), .slice y.pA y.pn y.pc, .slice y.dA y.dn y.dc]] (by go_simp) ?_
          refine (form_any s' y w1 (HAT.out.below hC.bel) hmay).mono ?_
          rintro e w2 ⟨A', n', c', rfl, hn', hO, hb⟩
          exact ⟨_, hC.call ⟨10, 153, LogM.form s', none⟩ (by simp [rTM]) ⟨A', n', c'⟩ hi hO hn'.out hb (by simp [rTM]) (by simp [rTP]) (by simp [rows, rTP, rTM, rTC, setR]) (by simp [rows, rTP, rTM, rTC, setR]) (by simp [rTC]) rfl (by rw [hsz0]; exact (by decide : 153 < 163)) (by simp) (by simp)⟩
        · intro L a w1 hI hi hd
          obtain ⟨R, hC⟩ := hI
          have hi : L 11 = false := hi
          have hp := hC.pif
          simp [Region.binds] at hd
          have e8 : a.tmps.getD 151 undef = (.bool false) := hp.pu (8, 151, (.bool false)) (by simp [rows, rTP, rTM, rTC, setR]) (by simp [hd])
          have f8 : a.tmps[151]?.getD undef = (.bool false) := by rw [← Array.getD_eq_getD_getElem?]; exact e8
          have t0 := hp.at_ 0 _ rfl z0
          have t0' := t0
          rw [Array.getD_eq_getD_getElem?] at t0'
          exact rstep_valW (wanted_of 8 151 false rfl rfl e8) (.slice (some ⟨ab, ao, none⟩) n c) w1 (by go_simp) ⟨R, hC.pure 11 154 (.slice (some ⟨ab, ao, none⟩) n c) (by simp [rows, rTP, rTM, rTC, setR]) (by simp [rows, rTP, rTM, rTC, setR]) (by simp [rTM]) (by simp [rTC]) rfl (by rw [hsz0]; exact (by decide : 154 < 163)) (by decide) (by simp) (by simp)⟩
        · intro L a w1 hI hi hd
          obtain ⟨R, hC⟩ := hI
          have hi : L 12 = false := hi
          have hp := hC.pif
          simp [Region.binds] at hd
          have e8 : a.tmps.getD 151 undef = (.bool false) := hp.pu (8, 151, (.bool false)) (by simp [rows, rTP, rTM, rTC, setR]) (by simp [hd])
          have f8 : a.tmps[151]?.getD undef = (.bool false) := by rw [← Array.getD_eq_getD_getElem?]; exact e8
          have t5 := hp.at_ 5 _ rfl z5
          have t5' := t5
          rw [Array.getD_eq_getD_getElem?] at t5'
          exact rstep_valW (wanted_of 8 151 false rfl rfl e8) (.int .i64 (sz : Int)) w1 (by go_simp) ⟨R, hC.pure 12 155 (.int .i64 (sz : Int)) (by simp [rows, rTP, rTM, rTC, setR]) (by simp [rows, rTP, rTM, rTC, setR]) (by simp [rTM]) (by simp [rTC]) rfl (by rw [hsz0]; exact (by decide : 155 < 163)) (by decide) (by simp) (by simp)⟩
        · intro L a w1 hI hi hd
          obtain ⟨R, hC⟩ := hI
          have hi : L 13 = false := hi
          have hp := hC.pif
          simp [Region.binds] at hd
          have e8 : a.tmps.getD 151 undef = (.bool false) := hp.pu (8, 151, (.bool false)) (by simp [rows, rTP, rTM, rTC, setR]) (by simp [hd])
          have f8 : a.tmps[151]?.getD undef = (.bool false) := by rw [← Array.getD_eq_getD_getElem?]; exact e8
          have e11 : a.tmps.getD 154 undef = (.slice (some ⟨ab, ao, none⟩) n c) := hp.pu (11, 154, (.slice (some ⟨ab, ao, none⟩) n c)) (by simp [rows, rTP, rTM, rTC, setR]) (by simp [hd])
          have f11 : a.tmps[154]?.getD undef = (.slice (some ⟨ab, ao, none⟩) n c) := by rw [← Array.getD_eq_getD_getElem?]; exact e11
          have e12 : a.tmps.getD 155 undef = (.int .i64 (sz : Int)) := hp.pu (12, 155, (.int .i64 (sz : Int))) (by simp [rows, rTP, rTM, rTC, setR]) (by simp [hd])
          have f12 : a.tmps[155]?.getD undef = (.int .i64 (sz : Int)) := by rw [← Array.getD_eq_getD_getElem?]; exact e12
          have hszc : ¬ c < sz := by omega
          exact rstep_valW (wanted_of 8 151 false rfl rfl e8) (.slice (some ⟨ab, ao, none⟩) sz c) w1 (by go_simp) ⟨R, hC.pure 13 156 (.slice (some ⟨ab, ao, none⟩) sz c) (by simp [rows, rTP, rTM, rTC, setR]) (by simp [rows, rTP, rTM, rTC, setR]) (by simp [rTM]) (by simp [rTC]) rfl (by rw [hsz0]; exact (by decide : 156 < 163)) (by decide) (by simp) (by simp)⟩
        · intro L a w1 hI hi hd
          obtain ⟨R, hC⟩ := hI
          have hi : L 14 = false := hi
          have hp := hC.pif
          simp [Region.binds] at hd
          have e8 : a.tmps.getD 151 undef = (.bool false) := hp.pu (8, 151, (.bool false)) (by simp [rows, rTP, rTM, rTC, setR]) (by simp [hd])
          have f8 : a.tmps[151]?.getD undef = (.bool false) := by rw [← Array.getD_eq_getD_getElem?]; exact e8
          have e10 : a.tmps.getD 153 undef = (.slice (R 10).A (R 10).n (R 10).c) := hp.pu (10, 153, (R 10).v) (by simp [rows, rTP, rTM, rTC, setR]) (by simp [hd])
          have f10 : a.tmps[153]?.getD undef = (.slice (R 10).A (R 10).n (R 10).c) := by rw [← Array.getD_eq_getD_getElem?]; exact e10
          have e13 : a.tmps.getD 156 undef = (.slice (some ⟨ab, ao, none⟩) sz c) := hp.pu (13, 156, (.slice (some ⟨ab, ao, none⟩) sz c)) (by simp [rows, rTP, rTM, rTC, setR]) (by simp [hd])
          have f13 : a.tmps[156]?.getD undef = (.slice (some ⟨ab, ao, none⟩) sz c) := by rw [← Array.getD_eq_getD_getElem?]; exact e13
          have hO0 := hC.own ⟨10, 153, LogM.form s', none⟩ (by simp [rTM]) (by simp [hd]) nofun
          have hN0 := hC.len ⟨10, 153, LogM.form s', none⟩ (by simp [rTM]) (by simp [hd])
          dsimp only at hO0 hN0
          have q := equal8_any (R 10).A (some ⟨ab, ao, none⟩) (R 10).n sz (R 10).c c (LogM.form s') m w1 hO0.row hN0 (hst.inp.below hC.bel) HML.out
          rw [decide_eq_true hfm] at q
          refine rstep_callW (wanted_of 8 151 false rfl rfl e8) 29 #[.slice (R 10).A (R 10).n (R 10).c, .slice (some ⟨ab, ao, none⟩) sz c] (by go_simp) ?_
          refine q.mono ?_
          rintro e w2 ⟨rfl, rfl⟩
          have hb : Below w1.heap.size w1 w1 := Below.refl _ _
          exact ⟨R, hC.pureW hb 14 157 (.bool true) (by simp [rows, rTP, rTM, rTC, setR]) (by simp [rows, rTP, rTM, rTC, setR]) (by simp [rTM]) (by simp [rTC]) rfl (by rw [hsz0]; exact (by decide : 157 < 163)) (by decide) (by simp) (by simp)⟩
        · intro L a w1 hI hi hd
          obtain ⟨R, hC⟩ := hI
          have hi : L 15 = false := hi
          have hp := hC.pif
          simp [Region.binds] at hd
          have e8 : a.tmps.getD 151 undef = (.bool false) := hp.pu (8, 151, (.bool false)) (by simp [rows, rTP, rTM, rTC, setR]) (by simp [hd])
          have f8 : a.tmps[151]?.getD undef = (.bool false) := by rw [← Array.getD_eq_getD_getElem?]; exact e8
          have e14 : a.tmps.getD 157 undef = (.bool true) := hp.pu (14, 157, (.bool true)) (by simp [rows, rTP, rTM, rTC, setR]) (by simp [hd])
          have f14 : a.tmps[157]?.getD undef = (.bool true) := by rw [← Array.getD_eq_getD_getElem?]; exact e14
          exact rstep_valW (wanted_of 8 151 false rfl rfl e8) (.bool false) w1 (by go_simp) ⟨R, hC.pure 15 158 (.bool false) (by simp [rows, rTP, rTM, rTC, setR]) (by simp [rows, rTP, rTM, rTC, setR]) (by simp [rTM]) (by simp [rTC]) rfl (by rw [hsz0]; exact (by decide : 158 < 163)) (by decide) (by simp) (by simp)⟩
        · intro L a w1 hI hi hd
          obtain ⟨R, hC⟩ := hI
          have hi : L 16 = false := hi
          have hp := hC.pif
          simp [Region.binds] at hd
          have e8 : a.tmps.getD 151 undef = (.bool false) := hp.pu (8, 151, (.bool false)) (by simp [rows, rTP, rTM, rTC, setR]) (by simp [hd])
          have f8 : a.tmps[151]?.getD undef = (.bool false) := by rw [← Array.getD_eq_getD_getElem?]; exact e8
          have e15 : a.tmps.getD 158 undef = (.bool false) := hp.pu (15, 158, (.bool false)) (by simp [rows, rTP, rTM, rTC, setR]) (by simp [hd])
          have f15 : a.tmps[158]?.getD undef = (.bool false) := by rw [← Array.getD_eq_getD_getElem?]; exact e15
          exact rstep_valW (wanted_none rfl _) (.bool false) w1 (by go_simp) ⟨R, hC.pure 16 159 (.bool false) (by simp [rows, rTP, rTM, rTC, setR]) (by simp [rows, rTP, rTM, rTC, setR]) (by simp [rTM]) (by simp [rTC]) rfl (by rw [hsz0]; exact (by decide : 159 < 163)) (by decide) (by simp) (by simp)⟩
      rintro L a W ⟨R, hC⟩ hL
      have hp := hC.pif
      have e16 : a.tmps.getD 159 undef = (.bool false) := hp.pu (16, 159, (.bool false)) (by simp [rows, rTP, rTM, rTC, setR]) (hL 16 (by simp))
      have hBW := hC.bel
      rw [hp.eq]
      refine of_assigns (P := Try.prog) _ _ _ _ ?_
      rw [ha0.out]
      simp only [asgs, List.map, e16]
      generalize a.tmps.getD 143 undef = u143
      generalize a.tmps.getD 144 undef = u144
      generalize a.tmps.getD 145 undef = u145
      generalize a.tmps.getD 146 undef = u146
      generalize a.tmps.getD 147 undef = u147
      generalize a.tmps.getD 148 undef = u148
      generalize a.tmps.getD 149 undef = u149
      generalize a.tmps.getD 150 undef = u150
      generalize a.tmps.getD 151 undef = u151
      generalize a.tmps.getD 152 undef = u152
      generalize a.tmps.getD 153 undef = u153
      generalize a.tmps.getD 154 undef = u154
      generalize a.tmps.getD 155 undef = u155
      generalize a.tmps.getD 156 undef = u156
      generalize a.tmps.getD 157 undef = u157
      generalize a.tmps.getD 158 undef = u158
      clear hp hL e16 ha0 z0 z5 z6 z9 hsz0 hC
      clear a0 a L R
      have hzW := hst.z.below hBW hst.z.lt
      have hBB := below_step hst.bel hBW (Nat.le_refl _)
      clear he hmay hfm HFD HFK HAT
      obtain ⟨kind, lsn, epoch, txn, page, off, old, new, undo, prev, next, clr, stamp, opn, dirty⟩ := s'
      obtain ⟨oA, on, oc, nA, nn, nc, uA, un, uc, pA, pn, pc, dA, dn, dc⟩ := y
      have hxW : Blk W gx 31 #[.int .i64 kind, .int .u64 (lsn : Int), .int .u32 (epoch : Int), .int .u64 (txn : Int), .int .u32 (page : Int), .int .u16 (off : Int), .slice oA on oc, .slice nA nn nc, .slice uA un uc, .int .u64 (prev : Int), .int .u64 (next : Int), .bool clr, .int .u64 (stamp : Int), .slice pA pn pc, .slice dA dn dc] := hst.x.below hBW hst.x.lt
      have hOW := (hst.ow.below hBW).kept (grownBy_setRow W gz #[.int .i64 kind, .int .u64 (lsn : Int), .int .u32 (epoch : Int), .int .u64 (txn : Int), .int .u32 (page : Int), .int .u16 (off : Int), .slice oA on oc, .slice nA nn nc, .slice uA un uc, .int .u64 (prev : Int), .int .u64 (next : Int), .bool clr, .int .u64 (stamp : Int), .slice pA pn pc, .slice dA dn dc]) hst.ord.2.2.2.2.1
      have HOW := Lib.hid (hOW.base_ hst.ord.2.2.2.2.2.2.2.2)
      clear hBW hOb hbV hB0 hst hOW
      have hzq := hzW.setRow_ #[.int .i64 kind, .int .u64 (lsn : Int), .int .u32 (epoch : Int), .int .u64 (txn : Int), .int .u32 (page : Int), .int .u16 (off : Int), .slice oA on oc, .slice nA nn nc, .slice uA un uc, .int .u64 (prev : Int), .int .u64 (next : Int), .bool clr, .int .u64 (stamp : Int), .slice pA pn pc, .slice dA dn dc]
      have hBq := below_grown hBB (grownBy_setRow W gz #[.int .i64 kind, .int .u64 (lsn : Int), .int .u32 (epoch : Int), .int .u64 (txn : Int), .int .u32 (page : Int), .int .u16 (off : Int), .slice oA on oc, .slice nA nn nc, .slice uA un uc, .int .u64 (prev : Int), .int .u64 (next : Int), .bool clr, .int .u64 (stamp : Int), .slice pA pn pc, .slice dA dn dc]) hBB.size hgzl
      go_wp2_with (first | (refine wp_cond_true (by go_simp) ?_) | (refine wp_cond_false (by go_simp) ?_) | (refine wpList_load_row rfl _ (.tmp 9) rfl gx (by go_simp) _ #[.int .i64 kind, .int .u64 (lsn : Int), .int .u32 (epoch : Int), .int .u64 (txn : Int), .int .u32 (page : Int), .int .u16 (off : Int), .slice oA on oc, .slice nA nn nc, .slice uA un uc, .int .u64 (prev : Int), .int .u64 (next : Int), .bool clr, .int .u64 (stamp : Int), .slice pA pn pc, .slice dA dn dc] (0, 0) _ hxW Try.underlying31 rfl (by kernel_rfl) ?_) | (refine wpList_store_row rfl _ (.tmp 2) (.tmp 161) rfl gz #[.int .i64 kind, .int .u64 (lsn : Int), .int .u32 (epoch : Int), .int .u64 (txn : Int), .int .u32 (page : Int), .int .u16 (off : Int), .slice oA on oc, .slice nA nn nc, .slice uA un uc, .int .u64 (prev : Int), .int .u64 (next : Int), .bool clr, .int .u64 (stamp : Int), .slice pA pn pc, .slice dA dn dc] (by go_simp) (by go_simp) _ _ hzW (by kernel_rfl) rfl (by simp [Value.oneCell']) ?_) | (refine ret_cell3 rfl gz #[.int .i64 kind, .int .u64 (lsn : Int), .int .u32 (epoch : Int), .int .u64 (txn : Int), .int .u32 (page : Int), .int .u16 (off : Int), .slice oA on oc, .slice nA nn nc, .slice uA un uc, .int .u64 (prev : Int), .int .u64 (next : Int), .bool clr, .int .u64 (stamp : Int), .slice pA pn pc, .slice dA dn dc] _ rfl hzq Try.underlying31 rfl (by kernel_rfl) rfl ?_; rw [HR.out]; exact ⟨⟨oA, on, oc, nA, nn, nc, uA, un, uc, pA, pn, pc, dA, dn, dc⟩, rfl, HOW.out, HFT.out, hBq⟩))
end Go.Proofs.Ytpgmhjjdnanlgaa
