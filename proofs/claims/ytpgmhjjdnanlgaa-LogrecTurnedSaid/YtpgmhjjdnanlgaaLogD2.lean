/-
  The document's reading of a record.
  Conditions: the bytes lie in memory as a list; their number is bounded.
-/
import Derived.Test.YtpgmhjjdnanlgaaLogD1
import Derived.Test.YtpgmhjjdnanlgaaLogB2
import Derived.Test.YtpgmhjjdnanlgaaLogG1
namespace Go.Proofs.Ytpgmhjjdnanlgaa
open Go.RowKit Go.Sort Go.Lib
set_option linter.unusedVariables false
set_option linter.unusedSimpArgs false
def zeroR : Value := .agg #[.int .i64 0, .int .u64 0, .int .u32 0, .int .u64 0, .int .u32 0, .int .u16 0, .slice none 0 0, .slice none 0 0, .slice none 0 0, .int .u64 0, .int .u64 0, .bool false, .int .u64 0, .slice none 0 0, .slice none 0 0]
/-- What the document's Read hands back. -/
def RRPost (r : Option (Lrec × Nat)) (w : World) (e : Ending) (w' : World) : Prop := match r with
  | none => e = .returned (.tuple #[zeroR, .int .i64 0, .int .i64 4]) ∧ Below w.heap.size w w'
  | some (s, n) => ∃ y : Lsl, e = .returned (.tuple #[recD s y, .int .i64 (n : Int), .int .i64 0]) ∧ Lown w' w.heap.size y s ∧ LogM.Fit s ∧ Below w.heap.size w w'
theorem results_cell_tmp2b {fn : Func} {p u v : Tmp} {ty : TypeId} (h : fn.results = #[.cell p ty, .tmp u, .tmp v]) (tmps : Array Value) (P : Program) (w : World) :
    (results fn tmps).run P w =
      ((asAddr (tmps.getD p undef)).run P w).andThen fun a w₁ => ((loadVar ty a).run P w₁).andThen fun x w₂ => .ok (.tuple #[x, tmps.getD u undef, tmps.getD v undef]) w₂ := by
  simp only [results, h]
  simp [Sem.run_bind, Result.andThen]
theorem ret_cell3b {P : Program} {fn : Func} {R : Ending → World → Prop} {a : Act} {w : World} {p u v : Tmp} {ty : TypeId} (h : fn.results = #[.cell p ty, .tmp u, .tmp v]) (g : Nat) (cs : Array Value) (d : TypeDesc)
    (hp : a.tmps.getD p undef = .pointer (some ⟨g, 0, none⟩)) (hB : Blk w g ty cs) (hu : P.underlying ty = some d) (hd : (match d with | .struct _ | .array _ _ => true | _ => false) = true) (hi : (P.info? ty).map (·.size) = some cs.size)
    (hdf : a.defers = []) (hR : R (.returned (.tuple #[.agg cs, a.tmps.getD u undef, a.tmps.getD v undef])) w) : bodyPost P fn R .ret a w := by
  refine bodyPost_ret ?_ hdf hR
  rw [results_cell_tmp2b h, hp]
  simp [asAddr, run_loadVar_row w g ty ty cs (0, 0) d hB hu hd hi, Result.andThen]
theorem wpl_load_row {P : Program} {ops : Array Oper} {rest : List Oper} {o : Oper} {a : Act} {w : World} {Q : Exit → Act → World → Prop} (hgd : Region.wanted o (yielded ops a.tmps) = true) (ty : TypeId) (x : Operand) (ho : o.op = .load ty x)
    (g : Nat) (hx : a.eval x = .pointer (some ⟨g, 0, none⟩)) (t : TypeId) (cs : Array Value) (fr : Nat × Nat) (d : TypeDesc) (hg : w.heap[g]? = some (.cells cs t fr))
    (hu : P.underlying ty = some d) (hd : (match d with | .struct _ | .array _ _ => true | _ => false) = true) (hi : (P.info? ty).map (·.size) = some cs.size)
    (h : wpList P ops Q rest (a.put o.dst (.agg cs)) w) : wpList P ops Q (o :: rest) a w :=
  wpList_step fun _ hK => by
    rw [if_pos hgd]
    exact wp_load_row ty x ho g hx t cs fr d hg hu hd hi (hK _ _ h)
def rrSP (fA : Option Addr) (fn fc n c : Nat) (s' : Lrec) (l : List UInt8) (A : Option Addr) : List (Nat × Nat × Value) := [(0, 23, (.slice fA fn fc)), (1, 24, (.int .i64 (fn : Int))), (2, 25, (.slice A n c)), (3, 26, (.int .i64 (n : Int))), (4, 27, (.bool true)), (5, 28, (.bool true)), (6, 29, undef), (7, 30, undef), (8, 31, undef), (9, 32, undef), (10, 33, undef), (11, 34, undef), (12, 35, undef), (13, 36, undef), (14, 37, (.bool true))]
def rrSM (fA : Option Addr) (fn fc n c : Nat) (s' : Lrec) (l : List UInt8) (A : Option Addr) : List Mk := []
def rrSC : List Cp := []
def rrNP (fA : Option Addr) (fn fc n c : Nat) (s' : Lrec) (l : List UInt8) (ab ao : Nat) : List (Nat × Nat × Value) := [(0, 23, (.slice fA fn fc)), (1, 24, (.int .i64 (fn : Int))), (2, 25, (.slice (some ⟨ab, ao, none⟩) n c)), (3, 26, (.int .i64 (n : Int))), (4, 27, (.bool false)), (5, 28, (.bool false)), (6, 29, (.slice fA fn fc)), (7, 30, (.string (str (LogM.form s')))), (8, 31, (.slice (some ⟨ab, ao, none⟩) n c)), (9, 32, (.slice fA fn fc)), (10, 33, (.int .i64 (fn : Int))), (11, 34, (.slice (some ⟨ab, ao, none⟩) fn c)), (12, 35, (.string (str (l.take fn)))), (13, 36, (.bool true)), (14, 37, (.bool true))]
def rrNM (fA : Option Addr) (fn fc n c : Nat) (s' : Lrec) (l : List UInt8) (ab ao : Nat) : List Mk := []
def rrNC : List Cp := []
def rrYP (fA : Option Addr) (fn fc n c : Nat) (s' : Lrec) (l : List UInt8) (ab ao : Nat) : List (Nat × Nat × Value) := [(0, 23, (.slice fA fn fc)), (1, 24, (.int .i64 (fn : Int))), (2, 25, (.slice (some ⟨ab, ao, none⟩) n c)), (3, 26, (.int .i64 (n : Int))), (4, 27, (.bool false)), (5, 28, (.bool false)), (6, 29, (.slice fA fn fc)), (7, 30, (.string (str (LogM.form s')))), (8, 31, (.slice (some ⟨ab, ao, none⟩) n c)), (9, 32, (.slice fA fn fc)), (10, 33, (.int .i64 (fn : Int))), (11, 34, (.slice (some ⟨ab, ao, none⟩) fn c)), (12, 35, (.string (str (l.take fn)))), (13, 36, (.bool false)), (14, 37, (.bool false))]
def rrYM (fA : Option Addr) (fn fc n c : Nat) (s' : Lrec) (l : List UInt8) (ab ao : Nat) : List Mk := []
def rrYC : List Cp := []
set_option maxRecDepth 100000 in
set_option maxHeartbeats 40000000 in
theorem rread_any (A : Option Addr) (n c : Nat) (l : List UInt8) (w : World) (hr : Row w A (bs l)) (hn : l.length = n) (hnc : n ≤ c) (hcm : c ≤ maxLen) (hmx : n ≤ 140737488355328) :
    Calls Try.prog 10 #[.slice A n c] w (RRPost (LogM.readR l) w) := by
  obtain ⟨p, hp⟩ : ∃ p, LogM.fields (((⟨l, 0⟩ : CodeM.Rd).fixed 4).2.fixed 2).2 = p := ⟨_, rfl⟩
  obtain ⟨s', r'⟩ := p
  have HR0 : Hid (LogM.readR l = if r'.e ≠ 0 ∨ ¬ LogM.May s' then none else if n < (LogM.form s').length ∨ LogM.form s' ≠ l.take (LogM.form s').length then none else some (s', (LogM.form s').length)) := Lib.hid (by unfold LogM.readR; simp only [hp, hn])
  have hfit : LogM.Fit s' := by have := LogM.fields_fit (((⟨l, 0⟩ : CodeM.Rd).fixed 4).2.fixed 2).2; rw [hp] at this; exact this
  have HFT := Lib.hid hfit
  have HP := Lib.hid hp
  have HN := Lib.hid hn
  have hcM := hcm
  unfold maxLen at hcM
  clear hp hfit
  go_enter Try.func10, Try.ntmps10
  have hz := Blk.new w 31 #[.int .i64 0, .int .u64 0, .int .u32 0, .int .u64 0, .int .u32 0, .int .u16 0, .slice none 0 0, .slice none 0 0, .slice none 0 0, .int .u64 0, .int .u64 0, .bool false, .int .u64 0, .slice none 0 0, .slice none 0 0]
  have hb0 : Below w.heap.size w (w.alloc (.cells #[.int .i64 0, .int .u64 0, .int .u32 0, .int .u64 0, .int .u32 0, .int .u16 0, .slice none 0 0, .slice none 0 0, .slice none 0 0, .int .u64 0, .int .u64 0, .bool false, .int .u64 0, .slice none 0 0, .slice none 0 0] 31)) := (Below.refl w.heap.size w).alloc (Nat.le_refl _) _
  have hr0 := hr.alloc (.cells #[.int .i64 0, .int .u64 0, .int .u32 0, .int .u64 0, .int .u32 0, .int .u16 0, .slice none 0 0, .slice none 0 0, .slice none 0 0, .int .u64 0, .int .u64 0, .bool false, .int .u64 0, .slice none 0 0, .slice none 0 0] 31)
  go_upto_region 1 with fail
  generalize w.alloc (.cells #[.int .i64 0, .int .u64 0, .int .u32 0, .int .u64 0, .int .u32 0, .int .u16 0, .slice none 0 0, .slice none 0 0, .slice none 0 0, .int .u64 0, .int .u64 0, .bool false, .int .u64 0, .slice none 0 0, .slice none 0 0] 31) = V0 at *
  obtain ⟨gz, hgz⟩ : ∃ gz, w.heap.size = gz := ⟨_, rfl⟩
  rw [hgz] at hz
  simp only [hgz]
  have hgzl : w.heap.size ≤ gz := Nat.le_of_eq hgz
  have HC0 := Lib.hid (fields_any A n c l V0 hr0 hn hnc hcm hmx)
  clear hr hgz hn hcm
  go_wp2_with fail
  refine HC0.out.mono ?_
  rw [HP.out]
  rintro e V1 ⟨y, rfl, hl1, hb1⟩
  have hz1 := hz.below hb1 hz.lt
  have hr1 := hr0.below hb1
  have hB1 := below_step hb0 hb1 (Nat.le_refl _)
  dsimp only
  dsimp only at hl1
  obtain ⟨bz, hbz⟩ : ∃ bz, V0.heap.size = bz := ⟨_, rfl⟩
  have HGZB : Hid (gz < bz) := Lib.hid (by rw [← hbz]; exact hz.lt)
  have HGWB : Hid (w.heap.size ≤ bz) := Lib.hid (by have := HGZB.out; omega)
  rw [hbz] at hl1
  clear hbz
  clear HC0 hz hr0 hb0 hb1
  clear V0
  have hx2 := Blk.new V1 31 #[.int .i64 s'.kind, .int .u64 (s'.lsn : Int), .int .u32 (s'.epoch : Int), .int .u64 (s'.txn : Int), .int .u32 (s'.page : Int), .int .u16 (s'.off : Int), .slice y.oA y.on y.oc, .slice y.nA y.nn y.nc, .slice y.uA y.un y.uc, .int .u64 (s'.prev : Int), .int .u64 (s'.next : Int), .bool s'.clr, .int .u64 (s'.stamp : Int), .slice y.pA y.pn y.pc, .slice y.dA y.dn y.dc]
  have hba : Below V1.heap.size V1 (V1.alloc (.cells #[.int .i64 s'.kind, .int .u64 (s'.lsn : Int), .int .u32 (s'.epoch : Int), .int .u64 (s'.txn : Int), .int .u32 (s'.page : Int), .int .u16 (s'.off : Int), .slice y.oA y.on y.oc, .slice y.nA y.nn y.nc, .slice y.uA y.un y.uc, .int .u64 (s'.prev : Int), .int .u64 (s'.next : Int), .bool s'.clr, .int .u64 (s'.stamp : Int), .slice y.pA y.pn y.pc, .slice y.dA y.dn y.dc] 31)) := (Below.refl _ _).alloc (Nat.le_refl _) _
  have hz2 := hz1.below hba hz1.lt
  have hr2 := hr1.below hba
  have hB2 := below_step hB1 hba (Nat.le_refl _)
  have hl2 := hl1.below hba
  have hgzx := hz1.lt
  unfold recD
  go_upto_region 2 with fail
  generalize V1.alloc (.cells #[.int .i64 s'.kind, .int .u64 (s'.lsn : Int), .int .u32 (s'.epoch : Int), .int .u64 (s'.txn : Int), .int .u32 (s'.page : Int), .int .u16 (s'.off : Int), .slice y.oA y.on y.oc, .slice y.nA y.nn y.nc, .slice y.uA y.un y.uc, .int .u64 (s'.prev : Int), .int .u64 (s'.next : Int), .bool s'.clr, .int .u64 (s'.stamp : Int), .slice y.pA y.pn y.pc, .slice y.dA y.dn y.dc] 31) = V2 at *
  obtain ⟨gx, hgx⟩ : ∃ gx, V1.heap.size = gx := ⟨_, rfl⟩
  rw [hgx] at hx2 hgzx
  simp only [hgx]
  clear hz1 hr1 hB1 hl1 hba hgx
  clear V1
  by_cases he : r'.e = 0
  rotate_left
  · as_aux_lemma =>
    have HR : Hid (LogM.readR l = none) := Lib.hid (by rw [HR0.out]; exact if_pos (.inl he))
    have heI : ¬ (r'.e : Int) = 0 := by omega
    have heB : ((r'.e : Int) == 0) = false := beq_eq_false_iff_ne.2 heI
    clear hx2 hl2 hr2
    go_wp2_with (refine wpList_store_row rfl _ (.tmp 2) (.tmp 20) rfl gz #[.int .i64 0, .int .u64 0, .int .u32 0, .int .u64 0, .int .u32 0, .int .u16 0, .slice none 0 0, .slice none 0 0, .slice none 0 0, .int .u64 0, .int .u64 0, .bool false, .int .u64 0, .slice none 0 0, .slice none 0 0] rfl rfl _ _ hz2 (by kernel_rfl) rfl (by simp [Value.oneCell']) ?_)
    have hzq := hz2.setRow_ #[.int .i64 0, .int .u64 0, .int .u32 0, .int .u64 0, .int .u32 0, .int .u16 0, .slice none 0 0, .slice none 0 0, .slice none 0 0, .int .u64 0, .int .u64 0, .bool false, .int .u64 0, .slice none 0 0, .slice none 0 0]
    have hBq := below_grown hB2 (grownBy_setRow _ gz #[.int .i64 0, .int .u64 0, .int .u32 0, .int .u64 0, .int .u32 0, .int .u16 0, .slice none 0 0, .slice none 0 0, .slice none 0 0, .int .u64 0, .int .u64 0, .bool false, .int .u64 0, .slice none 0 0, .slice none 0 0]) hB2.size hgzl
    go_wp2
    refine ret_cell3b rfl gz #[.int .i64 0, .int .u64 0, .int .u32 0, .int .u64 0, .int .u32 0, .int .u16 0, .slice none 0 0, .slice none 0 0, .slice none 0 0, .int .u64 0, .int .u64 0, .bool false, .int .u64 0, .slice none 0 0, .slice none 0 0] _ rfl hzq Try.underlying31 rfl (by kernel_rfl) rfl ?_
    rw [HR.out]
    exact ⟨rfl, hBq⟩
  have heB : ((r'.e : Int) == 0) = true := by rw [he]; rfl
  have HAT := Lib.hid (hl2.at_ HFT.out)
  go_wp2_with (refine wpl_load_row rfl _ (.tmp 5) rfl gx rfl _ #[.int .i64 s'.kind, .int .u64 (s'.lsn : Int), .int .u32 (s'.epoch : Int), .int .u64 (s'.txn : Int), .int .u32 (s'.page : Int), .int .u16 (s'.off : Int), .slice y.oA y.on y.oc, .slice y.nA y.nn y.nc, .slice y.uA y.un y.uc, .int .u64 (s'.prev : Int), .int .u64 (s'.next : Int), .bool s'.clr, .int .u64 (s'.stamp : Int), .slice y.pA y.pn y.pc, .slice y.dA y.dn y.dc] (0, 0) _ hx2 Try.underlying31 rfl (by kernel_rfl) ?_)
  go_wp2_with fail
  refine (rmay_any s' y V2 HAT.out).mono ?_
  rintro e V3 ⟨m, rfl, HM, hb3⟩
  have hx3 := hx2.below hb3 hx2.lt
  have hz3 := hz2.below hb3 hz2.lt
  have hr3 := hr2.below hb3
  have hB3 := below_step hB2 hb3 (Nat.le_refl _)
  have hl3 := hl2.below hb3
  have HAT3 := Lib.hid (HAT.out.below hb3)
  clear hx2 hz2 hr2 hB2 hl2 hb3 HAT
  clear V2
  by_cases hmay : LogM.May s'
  rotate_left
  · as_aux_lemma =>
    obtain rfl : m = false := by cases m with | false => rfl | true => exact absurd (HM.out.1 rfl) hmay
    have HR : Hid (LogM.readR l = none) := Lib.hid (by rw [HR0.out]; exact if_pos (.inr hmay))
    clear hx3 hl3 hr3 hmay HM
    go_wp2_with (refine wpList_store_row rfl _ (.tmp 2) (.tmp 20) rfl gz #[.int .i64 0, .int .u64 0, .int .u32 0, .int .u64 0, .int .u32 0, .int .u16 0, .slice none 0 0, .slice none 0 0, .slice none 0 0, .int .u64 0, .int .u64 0, .bool false, .int .u64 0, .slice none 0 0, .slice none 0 0] rfl rfl _ _ hz3 (by kernel_rfl) rfl (by simp [Value.oneCell']) ?_)
    have hzq := hz3.setRow_ #[.int .i64 0, .int .u64 0, .int .u32 0, .int .u64 0, .int .u32 0, .int .u16 0, .slice none 0 0, .slice none 0 0, .slice none 0 0, .int .u64 0, .int .u64 0, .bool false, .int .u64 0, .slice none 0 0, .slice none 0 0]
    have hBq := below_grown hB3 (grownBy_setRow _ gz #[.int .i64 0, .int .u64 0, .int .u32 0, .int .u64 0, .int .u32 0, .int .u16 0, .slice none 0 0, .slice none 0 0, .slice none 0 0, .int .u64 0, .int .u64 0, .bool false, .int .u64 0, .slice none 0 0, .slice none 0 0]) hB3.size hgzl
    go_wp2
    refine ret_cell3b rfl gz #[.int .i64 0, .int .u64 0, .int .u32 0, .int .u64 0, .int .u32 0, .int .u16 0, .slice none 0 0, .slice none 0 0, .slice none 0 0, .int .u64 0, .int .u64 0, .bool false, .int .u64 0, .slice none 0 0, .slice none 0 0] _ rfl hzq Try.underlying31 rfl (by kernel_rfl) rfl ?_
    rw [HR.out]
    exact ⟨rfl, hBq⟩
  obtain rfl : m = true := HM.out.2 hmay
  have HMAY := Lib.hid hmay
  clear HM hmay heB
  go_wp2_with (refine wpl_load_row rfl _ (.tmp 5) rfl gx rfl _ #[.int .i64 s'.kind, .int .u64 (s'.lsn : Int), .int .u32 (s'.epoch : Int), .int .u64 (s'.txn : Int), .int .u32 (s'.page : Int), .int .u16 (s'.off : Int), .slice y.oA y.on y.oc, .slice y.nA y.nn y.nc, .slice y.uA y.un y.uc, .int .u64 (s'.prev : Int), .int .u64 (s'.next : Int), .bool s'.clr, .int .u64 (s'.stamp : Int), .slice y.pA y.pn y.pc, .slice y.dA y.dn y.dc] (0, 0) _ hx3 Try.underlying31 rfl (by kernel_rfl) ?_)
  go_wp2_with fail
  refine (rform_any s' y V3 HAT3.out HMAY.out).mono ?_
  rintro e V5 ⟨fA, fn, fc, rfl, hfn, hfO, hb5⟩
  have hx := hx3.below hb5 hx3.lt
  have hz5 := hz3.below hb5 hz3.lt
  have hr5 := hr3.below hb5
  have hB5 := below_step hB3 hb5 (Nat.le_refl _)
  have hl5 := hl3.below hb5
  have HFN := hfn
  have HFR := Lib.hid hfO.row
  have hfle := hfO.le
  rw [HFN.out] at hfle
  have hfm := hfle.2
  unfold maxLen at hfm
  clear hx3 hz3 hr3 hB3 hl3 hb5 hfO hfn HAT3
  clear V3
  rw [HFN.out] at HR0
  rw [if_neg (by rintro (h | h); exact h he; exact h HMAY.out)] at HR0
  go_upto_region 5 with fail
  by_cases hsh : n < fn
  · as_aux_lemma =>
    skip
    have hB0 : Below V5.heap.size V5 V5 := Below.refl _ _
    have hbV : V5.heap.size ≤ V5.heap.size := Nat.le_refl _
    have hOb : Own V5 V5.heap.size (⟨none, 0, 0⟩ : Rs).A (⟨none, 0, 0⟩ : Rs).c [] := Own.nil_ _ _
    refine wp_named fun a0 ha0 => ?_
    have z0 : a0.tmps.getD 0 undef = (.slice A n c) := by rw [ha0.out]; rfl
    have z7 : a0.tmps.getD 7 undef = (.slice fA fn fc) := by rw [ha0.out]; rfl
    have hsz0 : a0.tmps.size = 42 := by rw [ha0.out]; rfl
    refine wp_region_invB _ (by kernel_rfl) (fun L a wv => ∃ R, Ch a0 [23, 24, 25, 26, 27, 28, 29, 30, 31, 32, 33, 34, 35, 36, 37] (rrSP fA fn fc n c s' l A) (rrSM fA fn fc n c s' l A) rrSC V5.heap.size V5 V5.heap.size (⟨none, 0, 0⟩ : Rs) ([]) 99 [] 0 999 R L a wv) (by kernel_rfl) ?_ ?_ ?_
    · exact ⟨fun _ => ⟨none, 0, 0⟩, Ch.start hbV ⟨rfl, rfl, rfl, Nat.le_refl _, fun _ _ => rfl⟩ hOb⟩
    rotate_left
    · as_aux_lemma =>
      refine ⟨?_, ?_, ?_, ?_, ?_, ?_, ?_, ?_, ?_, ?_, ?_, ?_, ?_, ?_, ?_, trivial⟩
      · intro L a w1 hI hi hd
        obtain ⟨R, hC⟩ := hI
        have hi : L 0 = false := hi
        have hp := hC.pif
        have t7 := hp.at_ 7 _ rfl z7
        have t7' := t7
        rw [Array.getD_eq_getD_getElem?] at t7'
        exact rstep_valW (wanted_none rfl _) (.slice fA fn fc) w1 (by go_simp) ⟨R, hC.pure 0 23 (.slice fA fn fc) (by simp [rows, rrSP, rrSM, rrSC, setR]) (by simp [rows, rrSP, rrSM, rrSC, setR]) (by simp [rrSM]) (by simp [rrSC]) rfl (by rw [hsz0]; exact (by decide : 23 < 42)) (by decide) (by simp) (by simp)⟩
      · intro L a w1 hI hi hd
        obtain ⟨R, hC⟩ := hI
        have hi : L 1 = false := hi
        have hp := hC.pif
        simp [Region.binds] at hd
        have e0 : a.tmps.getD 23 undef = (.slice fA fn fc) := hp.pu (0, 23, (.slice fA fn fc)) (by simp [rows, rrSP, rrSM, rrSC, setR]) (by simp [hd])
        have f0 : a.tmps[23]?.getD undef = (.slice fA fn fc) := by rw [← Array.getD_eq_getD_getElem?]; exact e0
        exact rstep_valW (wanted_none rfl _) (.int .i64 (fn : Int)) w1 (by go_simp) ⟨R, hC.pure 1 24 (.int .i64 (fn : Int)) (by simp [rows, rrSP, rrSM, rrSC, setR]) (by simp [rows, rrSP, rrSM, rrSC, setR]) (by simp [rrSM]) (by simp [rrSC]) rfl (by rw [hsz0]; exact (by decide : 24 < 42)) (by decide) (by simp) (by simp)⟩
      · intro L a w1 hI hi hd
        obtain ⟨R, hC⟩ := hI
        have hi : L 2 = false := hi
        have hp := hC.pif
        have t0 := hp.at_ 0 _ rfl z0
        have t0' := t0
        rw [Array.getD_eq_getD_getElem?] at t0'
        exact rstep_valW (wanted_none rfl _) (.slice A n c) w1 (by go_simp) ⟨R, hC.pure 2 25 (.slice A n c) (by simp [rows, rrSP, rrSM, rrSC, setR]) (by simp [rows, rrSP, rrSM, rrSC, setR]) (by simp [rrSM]) (by simp [rrSC]) rfl (by rw [hsz0]; exact (by decide : 25 < 42)) (by decide) (by simp) (by simp)⟩
      · intro L a w1 hI hi hd
        obtain ⟨R, hC⟩ := hI
        have hi : L 3 = false := hi
        have hp := hC.pif
        simp [Region.binds] at hd
        have e2 : a.tmps.getD 25 undef = (.slice A n c) := hp.pu (2, 25, (.slice A n c)) (by simp [rows, rrSP, rrSM, rrSC, setR]) (by simp [hd])
        have f2 : a.tmps[25]?.getD undef = (.slice A n c) := by rw [← Array.getD_eq_getD_getElem?]; exact e2
        exact rstep_valW (wanted_none rfl _) (.int .i64 (n : Int)) w1 (by go_simp) ⟨R, hC.pure 3 26 (.int .i64 (n : Int)) (by simp [rows, rrSP, rrSM, rrSC, setR]) (by simp [rows, rrSP, rrSM, rrSC, setR]) (by simp [rrSM]) (by simp [rrSC]) rfl (by rw [hsz0]; exact (by decide : 26 < 42)) (by decide) (by simp) (by simp)⟩
      · intro L a w1 hI hi hd
        obtain ⟨R, hC⟩ := hI
        have hi : L 4 = false := hi
        have hp := hC.pif
        simp [Region.binds] at hd
        have e1 : a.tmps.getD 24 undef = (.int .i64 (fn : Int)) := hp.pu (1, 24, (.int .i64 (fn : Int))) (by simp [rows, rrSP, rrSM, rrSC, setR]) (by simp [hd])
        have f1 : a.tmps[24]?.getD undef = (.int .i64 (fn : Int)) := by rw [← Array.getD_eq_getD_getElem?]; exact e1
        have e3 : a.tmps.getD 26 undef = (.int .i64 (n : Int)) := hp.pu (3, 26, (.int .i64 (n : Int))) (by simp [rows, rrSP, rrSM, rrSC, setR]) (by simp [hd])
        have f3 : a.tmps[26]?.getD undef = (.int .i64 (n : Int)) := by rw [← Array.getD_eq_getD_getElem?]; exact e3
        exact rstep_valW (wanted_none rfl _) (.bool true) w1 (by go_simp) ⟨R, hC.pure 4 27 (.bool true) (by simp [rows, rrSP, rrSM, rrSC, setR]) (by simp [rows, rrSP, rrSM, rrSC, setR]) (by simp [rrSM]) (by simp [rrSC]) rfl (by rw [hsz0]; exact (by decide : 27 < 42)) (by decide) (by simp) (by simp)⟩
      · intro L a w1 hI hi hd
        obtain ⟨R, hC⟩ := hI
        have hi : L 5 = false := hi
        have hp := hC.pif
        simp [Region.binds] at hd
        have e4 : a.tmps.getD 27 undef = (.bool true) := hp.pu (4, 27, (.bool true)) (by simp [rows, rrSP, rrSM, rrSC, setR]) (by simp [hd])
        have f4 : a.tmps[27]?.getD undef = (.bool true) := by rw [← Array.getD_eq_getD_getElem?]; exact e4
        exact rstep_valW (wanted_none rfl _) (.bool true) w1 (by go_simp) ⟨R, hC.pure 5 28 (.bool true) (by simp [rows, rrSP, rrSM, rrSC, setR]) (by simp [rows, rrSP, rrSM, rrSC, setR]) (by simp [rrSM]) (by simp [rrSC]) rfl (by rw [hsz0]; exact (by decide : 28 < 42)) (by decide) (by simp) (by simp)⟩
      · intro L a w1 hI hi hd
        obtain ⟨R, hC⟩ := hI
        have hi : L 6 = false := hi
        have hp := hC.pif
        simp [Region.binds] at hd
        have e5 : a.tmps.getD 28 undef = (.bool true) := hp.pu (5, 28, (.bool true)) (by simp [rows, rrSP, rrSM, rrSC, setR]) (by simp [hd])
        have f5 : a.tmps[28]?.getD undef = (.bool true) := by rw [← Array.getD_eq_getD_getElem?]; exact e5
        exact rstep_un (unwanted_of 5 28 false true (by decide) rfl rfl e5) ⟨R, hC.pure 6 29 undef (by simp [rows, rrSP, rrSM, rrSC, setR]) (by simp [rows, rrSP, rrSM, rrSC, setR]) (by simp [rrSM]) (by simp [rrSC]) rfl (by rw [hsz0]; exact (by decide : 29 < 42)) (by decide) (by simp) (by simp)⟩
      · intro L a w1 hI hi hd
        obtain ⟨R, hC⟩ := hI
        have hi : L 7 = false := hi
        have hp := hC.pif
        simp [Region.binds] at hd
        have e5 : a.tmps.getD 28 undef = (.bool true) := hp.pu (5, 28, (.bool true)) (by simp [rows, rrSP, rrSM, rrSC, setR]) (by simp [hd])
        have f5 : a.tmps[28]?.getD undef = (.bool true) := by rw [← Array.getD_eq_getD_getElem?]; exact e5
        exact rstep_un (unwanted_of 5 28 false true (by decide) rfl rfl e5) ⟨R, hC.pure 7 30 undef (by simp [rows, rrSP, rrSM, rrSC, setR]) (by simp [rows, rrSP, rrSM, rrSC, setR]) (by simp [rrSM]) (by simp [rrSC]) rfl (by rw [hsz0]; exact (by decide : 30 < 42)) (by decide) (by simp) (by simp)⟩
      · intro L a w1 hI hi hd
        obtain ⟨R, hC⟩ := hI
        have hi : L 8 = false := hi
        have hp := hC.pif
        simp [Region.binds] at hd
        have e5 : a.tmps.getD 28 undef = (.bool true) := hp.pu (5, 28, (.bool true)) (by simp [rows, rrSP, rrSM, rrSC, setR]) (by simp [hd])
        have f5 : a.tmps[28]?.getD undef = (.bool true) := by rw [← Array.getD_eq_getD_getElem?]; exact e5
        exact rstep_un (unwanted_of 5 28 false true (by decide) rfl rfl e5) ⟨R, hC.pure 8 31 undef (by simp [rows, rrSP, rrSM, rrSC, setR]) (by simp [rows, rrSP, rrSM, rrSC, setR]) (by simp [rrSM]) (by simp [rrSC]) rfl (by rw [hsz0]; exact (by decide : 31 < 42)) (by decide) (by simp) (by simp)⟩
      · intro L a w1 hI hi hd
        obtain ⟨R, hC⟩ := hI
        have hi : L 9 = false := hi
        have hp := hC.pif
        simp [Region.binds] at hd
        have e5 : a.tmps.getD 28 undef = (.bool true) := hp.pu (5, 28, (.bool true)) (by simp [rows, rrSP, rrSM, rrSC, setR]) (by simp [hd])
        have f5 : a.tmps[28]?.getD undef = (.bool true) := by rw [← Array.getD_eq_getD_getElem?]; exact e5
        exact rstep_un (unwanted_of 5 28 false true (by decide) rfl rfl e5) ⟨R, hC.pure 9 32 undef (by simp [rows, rrSP, rrSM, rrSC, setR]) (by simp [rows, rrSP, rrSM, rrSC, setR]) (by simp [rrSM]) (by simp [rrSC]) rfl (by rw [hsz0]; exact (by decide : 32 < 42)) (by decide) (by simp) (by simp)⟩
      · intro L a w1 hI hi hd
        obtain ⟨R, hC⟩ := hI
        have hi : L 10 = false := hi
        have hp := hC.pif
        simp [Region.binds] at hd
        have e5 : a.tmps.getD 28 undef = (.bool true) := hp.pu (5, 28, (.bool true)) (by simp [rows, rrSP, rrSM, rrSC, setR]) (by simp [hd])
        have f5 : a.tmps[28]?.getD undef = (.bool true) := by rw [← Array.getD_eq_getD_getElem?]; exact e5
        exact rstep_un (unwanted_of 5 28 false true (by decide) rfl rfl e5) ⟨R, hC.pure 10 33 undef (by simp [rows, rrSP, rrSM, rrSC, setR]) (by simp [rows, rrSP, rrSM, rrSC, setR]) (by simp [rrSM]) (by simp [rrSC]) rfl (by rw [hsz0]; exact (by decide : 33 < 42)) (by decide) (by simp) (by simp)⟩
      · intro L a w1 hI hi hd
        obtain ⟨R, hC⟩ := hI
        have hi : L 11 = false := hi
        have hp := hC.pif
        simp [Region.binds] at hd
        have e5 : a.tmps.getD 28 undef = (.bool true) := hp.pu (5, 28, (.bool true)) (by simp [rows, rrSP, rrSM, rrSC, setR]) (by simp [hd])
        have f5 : a.tmps[28]?.getD undef = (.bool true) := by rw [← Array.getD_eq_getD_getElem?]; exact e5
        exact rstep_un (unwanted_of 5 28 false true (by decide) rfl rfl e5) ⟨R, hC.pure 11 34 undef (by simp [rows, rrSP, rrSM, rrSC, setR]) (by simp [rows, rrSP, rrSM, rrSC, setR]) (by simp [rrSM]) (by simp [rrSC]) rfl (by rw [hsz0]; exact (by decide : 34 < 42)) (by decide) (by simp) (by simp)⟩
      · intro L a w1 hI hi hd
        obtain ⟨R, hC⟩ := hI
        have hi : L 12 = false := hi
        have hp := hC.pif
        simp [Region.binds] at hd
        have e5 : a.tmps.getD 28 undef = (.bool true) := hp.pu (5, 28, (.bool true)) (by simp [rows, rrSP, rrSM, rrSC, setR]) (by simp [hd])
        have f5 : a.tmps[28]?.getD undef = (.bool true) := by rw [← Array.getD_eq_getD_getElem?]; exact e5
        exact rstep_un (unwanted_of 5 28 false true (by decide) rfl rfl e5) ⟨R, hC.pure 12 35 undef (by simp [rows, rrSP, rrSM, rrSC, setR]) (by simp [rows, rrSP, rrSM, rrSC, setR]) (by simp [rrSM]) (by simp [rrSC]) rfl (by rw [hsz0]; exact (by decide : 35 < 42)) (by decide) (by simp) (by simp)⟩
      · intro L a w1 hI hi hd
        obtain ⟨R, hC⟩ := hI
        have hi : L 13 = false := hi
        have hp := hC.pif
        simp [Region.binds] at hd
        have e5 : a.tmps.getD 28 undef = (.bool true) := hp.pu (5, 28, (.bool true)) (by simp [rows, rrSP, rrSM, rrSC, setR]) (by simp [hd])
        have f5 : a.tmps[28]?.getD undef = (.bool true) := by rw [← Array.getD_eq_getD_getElem?]; exact e5
        exact rstep_un (unwanted_of 5 28 false true (by decide) rfl rfl e5) ⟨R, hC.pure 13 36 undef (by simp [rows, rrSP, rrSM, rrSC, setR]) (by simp [rows, rrSP, rrSM, rrSC, setR]) (by simp [rrSM]) (by simp [rrSC]) rfl (by rw [hsz0]; exact (by decide : 36 < 42)) (by decide) (by simp) (by simp)⟩
      · intro L a w1 hI hi hd
        obtain ⟨R, hC⟩ := hI
        have hi : L 14 = false := hi
        have hp := hC.pif
        simp [Region.binds] at hd
        have e5 : a.tmps.getD 28 undef = (.bool true) := hp.pu (5, 28, (.bool true)) (by simp [rows, rrSP, rrSM, rrSC, setR]) (by simp [hd])
        have f5 : a.tmps[28]?.getD undef = (.bool true) := by rw [← Array.getD_eq_getD_getElem?]; exact e5
        exact rstep_valW (wanted_none rfl _) (.bool true) w1 (by go_simp) ⟨R, hC.pure 14 37 (.bool true) (by simp [rows, rrSP, rrSM, rrSC, setR]) (by simp [rows, rrSP, rrSM, rrSC, setR]) (by simp [rrSM]) (by simp [rrSC]) rfl (by rw [hsz0]; exact (by decide : 37 < 42)) (by decide) (by simp) (by simp)⟩
    rintro L a W ⟨R, hC⟩ hL
    have hp := hC.pif
    have e14 : a.tmps.getD 37 undef = (.bool true) := hp.pu (14, 37, (.bool true)) (by simp [rows, rrSP, rrSM, rrSC, setR]) (hL 14 (by simp))
    have hBW := hC.bel
    rw [hp.eq]
    refine of_assigns (P := Try.prog) _ _ _ _ ?_
    rw [ha0.out]
    simp only [asgs, List.map, e14]
    generalize a.tmps.getD 23 undef = u23
    generalize a.tmps.getD 24 undef = u24
    generalize a.tmps.getD 25 undef = u25
    generalize a.tmps.getD 26 undef = u26
    generalize a.tmps.getD 27 undef = u27
    generalize a.tmps.getD 28 undef = u28
    generalize a.tmps.getD 29 undef = u29
    generalize a.tmps.getD 30 undef = u30
    generalize a.tmps.getD 31 undef = u31
    generalize a.tmps.getD 32 undef = u32
    generalize a.tmps.getD 33 undef = u33
    generalize a.tmps.getD 34 undef = u34
    generalize a.tmps.getD 35 undef = u35
    generalize a.tmps.getD 36 undef = u36
    clear hp hL e14 ha0 z0 z7 hsz0 hC
    clear a0 a L R
    have hzW := hz5.below hBW hz5.lt
    have hBB := below_step hB5 hBW (Nat.le_refl _)
    have HR : Hid (LogM.readR l = none) := Lib.hid (by rw [HR0.out]; exact if_pos (.inl hsh))
    clear hBW hOb hbV hB0 hx hz5 hB5 hl5
    go_wp2_with (refine wpList_store_row rfl _ (.tmp 2) (.tmp 38) rfl gz #[.int .i64 0, .int .u64 0, .int .u32 0, .int .u64 0, .int .u32 0, .int .u16 0, .slice none 0 0, .slice none 0 0, .slice none 0 0, .int .u64 0, .int .u64 0, .bool false, .int .u64 0, .slice none 0 0, .slice none 0 0] rfl rfl _ _ hzW (by kernel_rfl) rfl (by simp [Value.oneCell']) ?_)
    have hzq := hzW.setRow_ #[.int .i64 0, .int .u64 0, .int .u32 0, .int .u64 0, .int .u32 0, .int .u16 0, .slice none 0 0, .slice none 0 0, .slice none 0 0, .int .u64 0, .int .u64 0, .bool false, .int .u64 0, .slice none 0 0, .slice none 0 0]
    have hBq := below_grown hBB (grownBy_setRow _ gz #[.int .i64 0, .int .u64 0, .int .u32 0, .int .u64 0, .int .u32 0, .int .u16 0, .slice none 0 0, .slice none 0 0, .slice none 0 0, .int .u64 0, .int .u64 0, .bool false, .int .u64 0, .slice none 0 0, .slice none 0 0]) hBB.size hgzl
    go_wp2
    refine ret_cell3b rfl gz #[.int .i64 0, .int .u64 0, .int .u32 0, .int .u64 0, .int .u32 0, .int .u16 0, .slice none 0 0, .slice none 0 0, .slice none 0 0, .int .u64 0, .int .u64 0, .bool false, .int .u64 0, .slice none 0 0, .slice none 0 0] _ rfl hzq Try.underlying31 rfl (by kernel_rfl) rfl ?_
    rw [HR.out]
    exact ⟨rfl, hBq⟩
  have hn0 : 0 < n := by have h1 := LogM.form_length s'; have h2 := HFN.out; omega
  obtain ⟨ab, ao, rfl, _⟩ := hr5.byte (k := 0) (by have := HN.out; omega)
  have HTN : Hid ((l.take fn).length = fn) := Lib.hid (by have := HN.out; rw [List.length_take]; omega)
  have HTR : Hid (Row V5 (some ⟨ab, ao, none⟩) (bs (l.take fn))) := Lib.hid (by rw [bs_take]; exact hr5.take fn)
  clear hr5
  by_cases hfe : LogM.form s' = l.take fn
  rotate_left
  · as_aux_lemma =>
    have HSB : Hid (((str (LogM.form s')).toList == (str (l.take fn)).toList) = false) := Lib.hid (by rw [str_beq]; exact decide_eq_false hfe)
    have HFE := Lib.hid hfe
    clear hfe
    have hB0 : Below V5.heap.size V5 V5 := Below.refl _ _
    have hbV : V5.heap.size ≤ V5.heap.size := Nat.le_refl _
    have hOb : Own V5 V5.heap.size (⟨none, 0, 0⟩ : Rs).A (⟨none, 0, 0⟩ : Rs).c [] := Own.nil_ _ _
    refine wp_named fun a0 ha0 => ?_
    have z0 : a0.tmps.getD 0 undef = (.slice (some ⟨ab, ao, none⟩) n c) := by rw [ha0.out]; rfl
    have z7 : a0.tmps.getD 7 undef = (.slice fA fn fc) := by rw [ha0.out]; rfl
    have hsz0 : a0.tmps.size = 42 := by rw [ha0.out]; rfl
    refine wp_region_invB _ (by kernel_rfl) (fun L a wv => ∃ R, Ch a0 [23, 24, 25, 26, 27, 28, 29, 30, 31, 32, 33, 34, 35, 36, 37] (rrNP fA fn fc n c s' l ab ao) (rrNM fA fn fc n c s' l ab ao) rrNC V5.heap.size V5 V5.heap.size (⟨none, 0, 0⟩ : Rs) ([]) 99 [] 0 999 R L a wv) (by kernel_rfl) ?_ ?_ ?_
    · exact ⟨fun _ => ⟨none, 0, 0⟩, Ch.start hbV ⟨rfl, rfl, rfl, Nat.le_refl _, fun _ _ => rfl⟩ hOb⟩
    rotate_left
    · as_aux_lemma =>
      refine ⟨?_, ?_, ?_, ?_, ?_, ?_, ?_, ?_, ?_, ?_, ?_, ?_, ?_, ?_, ?_, trivial⟩
      · intro L a w1 hI hi hd
        obtain ⟨R, hC⟩ := hI
        have hi : L 0 = false := hi
        have hp := hC.pif
        have t7 := hp.at_ 7 _ rfl z7
        have t7' := t7
        rw [Array.getD_eq_getD_getElem?] at t7'
        exact rstep_valW (wanted_none rfl _) (.slice fA fn fc) w1 (by go_simp) ⟨R, hC.pure 0 23 (.slice fA fn fc) (by simp [rows, rrNP, rrNM, rrNC, setR]) (by simp [rows, rrNP, rrNM, rrNC, setR]) (by simp [rrNM]) (by simp [rrNC]) rfl (by rw [hsz0]; exact (by decide : 23 < 42)) (by decide) (by simp) (by simp)⟩
      · intro L a w1 hI hi hd
        obtain ⟨R, hC⟩ := hI
        have hi : L 1 = false := hi
        have hp := hC.pif
        simp [Region.binds] at hd
        have e0 : a.tmps.getD 23 undef = (.slice fA fn fc) := hp.pu (0, 23, (.slice fA fn fc)) (by simp [rows, rrNP, rrNM, rrNC, setR]) (by simp [hd])
        have f0 : a.tmps[23]?.getD undef = (.slice fA fn fc) := by rw [← Array.getD_eq_getD_getElem?]; exact e0
        exact rstep_valW (wanted_none rfl _) (.int .i64 (fn : Int)) w1 (by go_simp) ⟨R, hC.pure 1 24 (.int .i64 (fn : Int)) (by simp [rows, rrNP, rrNM, rrNC, setR]) (by simp [rows, rrNP, rrNM, rrNC, setR]) (by simp [rrNM]) (by simp [rrNC]) rfl (by rw [hsz0]; exact (by decide : 24 < 42)) (by decide) (by simp) (by simp)⟩
      · intro L a w1 hI hi hd
        obtain ⟨R, hC⟩ := hI
        have hi : L 2 = false := hi
        have hp := hC.pif
        have t0 := hp.at_ 0 _ rfl z0
        have t0' := t0
        rw [Array.getD_eq_getD_getElem?] at t0'
        exact rstep_valW (wanted_none rfl _) (.slice (some ⟨ab, ao, none⟩) n c) w1 (by go_simp) ⟨R, hC.pure 2 25 (.slice (some ⟨ab, ao, none⟩) n c) (by simp [rows, rrNP, rrNM, rrNC, setR]) (by simp [rows, rrNP, rrNM, rrNC, setR]) (by simp [rrNM]) (by simp [rrNC]) rfl (by rw [hsz0]; exact (by decide : 25 < 42)) (by decide) (by simp) (by simp)⟩
      · intro L a w1 hI hi hd
        obtain ⟨R, hC⟩ := hI
        have hi : L 3 = false := hi
        have hp := hC.pif
        simp [Region.binds] at hd
        have e2 : a.tmps.getD 25 undef = (.slice (some ⟨ab, ao, none⟩) n c) := hp.pu (2, 25, (.slice (some ⟨ab, ao, none⟩) n c)) (by simp [rows, rrNP, rrNM, rrNC, setR]) (by simp [hd])
        have f2 : a.tmps[25]?.getD undef = (.slice (some ⟨ab, ao, none⟩) n c) := by rw [← Array.getD_eq_getD_getElem?]; exact e2
        exact rstep_valW (wanted_none rfl _) (.int .i64 (n : Int)) w1 (by go_simp) ⟨R, hC.pure 3 26 (.int .i64 (n : Int)) (by simp [rows, rrNP, rrNM, rrNC, setR]) (by simp [rows, rrNP, rrNM, rrNC, setR]) (by simp [rrNM]) (by simp [rrNC]) rfl (by rw [hsz0]; exact (by decide : 26 < 42)) (by decide) (by simp) (by simp)⟩
      · intro L a w1 hI hi hd
        obtain ⟨R, hC⟩ := hI
        have hi : L 4 = false := hi
        have hp := hC.pif
        simp [Region.binds] at hd
        have e1 : a.tmps.getD 24 undef = (.int .i64 (fn : Int)) := hp.pu (1, 24, (.int .i64 (fn : Int))) (by simp [rows, rrNP, rrNM, rrNC, setR]) (by simp [hd])
        have f1 : a.tmps[24]?.getD undef = (.int .i64 (fn : Int)) := by rw [← Array.getD_eq_getD_getElem?]; exact e1
        have e3 : a.tmps.getD 26 undef = (.int .i64 (n : Int)) := hp.pu (3, 26, (.int .i64 (n : Int))) (by simp [rows, rrNP, rrNM, rrNC, setR]) (by simp [hd])
        have f3 : a.tmps[26]?.getD undef = (.int .i64 (n : Int)) := by rw [← Array.getD_eq_getD_getElem?]; exact e3
        exact rstep_valW (wanted_none rfl _) (.bool false) w1 (by go_simp) ⟨R, hC.pure 4 27 (.bool false) (by simp [rows, rrNP, rrNM, rrNC, setR]) (by simp [rows, rrNP, rrNM, rrNC, setR]) (by simp [rrNM]) (by simp [rrNC]) rfl (by rw [hsz0]; exact (by decide : 27 < 42)) (by decide) (by simp) (by simp)⟩
      · intro L a w1 hI hi hd
        obtain ⟨R, hC⟩ := hI
        have hi : L 5 = false := hi
        have hp := hC.pif
        simp [Region.binds] at hd
        have e4 : a.tmps.getD 27 undef = (.bool false) := hp.pu (4, 27, (.bool false)) (by simp [rows, rrNP, rrNM, rrNC, setR]) (by simp [hd])
        have f4 : a.tmps[27]?.getD undef = (.bool false) := by rw [← Array.getD_eq_getD_getElem?]; exact e4
        exact rstep_valW (wanted_none rfl _) (.bool false) w1 (by go_simp) ⟨R, hC.pure 5 28 (.bool false) (by simp [rows, rrNP, rrNM, rrNC, setR]) (by simp [rows, rrNP, rrNM, rrNC, setR]) (by simp [rrNM]) (by simp [rrNC]) rfl (by rw [hsz0]; exact (by decide : 28 < 42)) (by decide) (by simp) (by simp)⟩
      · intro L a w1 hI hi hd
        obtain ⟨R, hC⟩ := hI
        have hi : L 6 = false := hi
        have hp := hC.pif
        simp [Region.binds] at hd
        have e5 : a.tmps.getD 28 undef = (.bool false) := hp.pu (5, 28, (.bool false)) (by simp [rows, rrNP, rrNM, rrNC, setR]) (by simp [hd])
        have f5 : a.tmps[28]?.getD undef = (.bool false) := by rw [← Array.getD_eq_getD_getElem?]; exact e5
        have t7 := hp.at_ 7 _ rfl z7
        have t7' := t7
        rw [Array.getD_eq_getD_getElem?] at t7'
        exact rstep_valW (wanted_of 5 28 false rfl rfl e5) (.slice fA fn fc) w1 (by go_simp) ⟨R, hC.pure 6 29 (.slice fA fn fc) (by simp [rows, rrNP, rrNM, rrNC, setR]) (by simp [rows, rrNP, rrNM, rrNC, setR]) (by simp [rrNM]) (by simp [rrNC]) rfl (by rw [hsz0]; exact (by decide : 29 < 42)) (by decide) (by simp) (by simp)⟩
      · intro L a w1 hI hi hd
        obtain ⟨R, hC⟩ := hI
        have hi : L 7 = false := hi
        have hp := hC.pif
        simp [Region.binds] at hd
        have e5 : a.tmps.getD 28 undef = (.bool false) := hp.pu (5, 28, (.bool false)) (by simp [rows, rrNP, rrNM, rrNC, setR]) (by simp [hd])
        have f5 : a.tmps[28]?.getD undef = (.bool false) := by rw [← Array.getD_eq_getD_getElem?]; exact e5
        have e6 : a.tmps.getD 29 undef = (.slice fA fn fc) := hp.pu (6, 29, (.slice fA fn fc)) (by simp [rows, rrNP, rrNM, rrNC, setR]) (by simp [hd])
        have f6 : a.tmps[29]?.getD undef = (.slice fA fn fc) := by rw [← Array.getD_eq_getD_getElem?]; exact e6
        have s1 := str_len w1 fA fn fc (LogM.form s') HFN.out (HFR.out.below hC.bel)
        exact rstep_valW (wanted_of 5 28 false rfl rfl e5) (.string (str (LogM.form s'))) w1 (by go_simp) ⟨R, hC.pure 7 30 (.string (str (LogM.form s'))) (by simp [rows, rrNP, rrNM, rrNC, setR]) (by simp [rows, rrNP, rrNM, rrNC, setR]) (by simp [rrNM]) (by simp [rrNC]) rfl (by rw [hsz0]; exact (by decide : 30 < 42)) (by decide) (by simp) (by simp)⟩
      · intro L a w1 hI hi hd
        obtain ⟨R, hC⟩ := hI
        have hi : L 8 = false := hi
        have hp := hC.pif
        simp [Region.binds] at hd
        have e5 : a.tmps.getD 28 undef = (.bool false) := hp.pu (5, 28, (.bool false)) (by simp [rows, rrNP, rrNM, rrNC, setR]) (by simp [hd])
        have f5 : a.tmps[28]?.getD undef = (.bool false) := by rw [← Array.getD_eq_getD_getElem?]; exact e5
        have t0 := hp.at_ 0 _ rfl z0
        have t0' := t0
        rw [Array.getD_eq_getD_getElem?] at t0'
        exact rstep_valW (wanted_of 5 28 false rfl rfl e5) (.slice (some ⟨ab, ao, none⟩) n c) w1 (by go_simp) ⟨R, hC.pure 8 31 (.slice (some ⟨ab, ao, none⟩) n c) (by simp [rows, rrNP, rrNM, rrNC, setR]) (by simp [rows, rrNP, rrNM, rrNC, setR]) (by simp [rrNM]) (by simp [rrNC]) rfl (by rw [hsz0]; exact (by decide : 31 < 42)) (by decide) (by simp) (by simp)⟩
      · intro L a w1 hI hi hd
        obtain ⟨R, hC⟩ := hI
        have hi : L 9 = false := hi
        have hp := hC.pif
        simp [Region.binds] at hd
        have e5 : a.tmps.getD 28 undef = (.bool false) := hp.pu (5, 28, (.bool false)) (by simp [rows, rrNP, rrNM, rrNC, setR]) (by simp [hd])
        have f5 : a.tmps[28]?.getD undef = (.bool false) := by rw [← Array.getD_eq_getD_getElem?]; exact e5
        have t7 := hp.at_ 7 _ rfl z7
        have t7' := t7
        rw [Array.getD_eq_getD_getElem?] at t7'
        exact rstep_valW (wanted_of 5 28 false rfl rfl e5) (.slice fA fn fc) w1 (by go_simp) ⟨R, hC.pure 9 32 (.slice fA fn fc) (by simp [rows, rrNP, rrNM, rrNC, setR]) (by simp [rows, rrNP, rrNM, rrNC, setR]) (by simp [rrNM]) (by simp [rrNC]) rfl (by rw [hsz0]; exact (by decide : 32 < 42)) (by decide) (by simp) (by simp)⟩
      · intro L a w1 hI hi hd
        obtain ⟨R, hC⟩ := hI
        have hi : L 10 = false := hi
        have hp := hC.pif
        simp [Region.binds] at hd
        have e5 : a.tmps.getD 28 undef = (.bool false) := hp.pu (5, 28, (.bool false)) (by simp [rows, rrNP, rrNM, rrNC, setR]) (by simp [hd])
        have f5 : a.tmps[28]?.getD undef = (.bool false) := by rw [← Array.getD_eq_getD_getElem?]; exact e5
        have e9 : a.tmps.getD 32 undef = (.slice fA fn fc) := hp.pu (9, 32, (.slice fA fn fc)) (by simp [rows, rrNP, rrNM, rrNC, setR]) (by simp [hd])
        have f9 : a.tmps[32]?.getD undef = (.slice fA fn fc) := by rw [← Array.getD_eq_getD_getElem?]; exact e9
        exact rstep_valW (wanted_of 5 28 false rfl rfl e5) (.int .i64 (fn : Int)) w1 (by go_simp) ⟨R, hC.pure 10 33 (.int .i64 (fn : Int)) (by simp [rows, rrNP, rrNM, rrNC, setR]) (by simp [rows, rrNP, rrNM, rrNC, setR]) (by simp [rrNM]) (by simp [rrNC]) rfl (by rw [hsz0]; exact (by decide : 33 < 42)) (by decide) (by simp) (by simp)⟩
      · intro L a w1 hI hi hd
        obtain ⟨R, hC⟩ := hI
        have hi : L 11 = false := hi
        have hp := hC.pif
        simp [Region.binds] at hd
        have e5 : a.tmps.getD 28 undef = (.bool false) := hp.pu (5, 28, (.bool false)) (by simp [rows, rrNP, rrNM, rrNC, setR]) (by simp [hd])
        have f5 : a.tmps[28]?.getD undef = (.bool false) := by rw [← Array.getD_eq_getD_getElem?]; exact e5
        have e8 : a.tmps.getD 31 undef = (.slice (some ⟨ab, ao, none⟩) n c) := hp.pu (8, 31, (.slice (some ⟨ab, ao, none⟩) n c)) (by simp [rows, rrNP, rrNM, rrNC, setR]) (by simp [hd])
        have f8 : a.tmps[31]?.getD undef = (.slice (some ⟨ab, ao, none⟩) n c) := by rw [← Array.getD_eq_getD_getElem?]; exact e8
        have e10 : a.tmps.getD 33 undef = (.int .i64 (fn : Int)) := hp.pu (10, 33, (.int .i64 (fn : Int))) (by simp [rows, rrNP, rrNM, rrNC, setR]) (by simp [hd])
        have f10 : a.tmps[33]?.getD undef = (.int .i64 (fn : Int)) := by rw [← Array.getD_eq_getD_getElem?]; exact e10
        have hfc : ¬ c < fn := by omega
        exact rstep_valW (wanted_of 5 28 false rfl rfl e5) (.slice (some ⟨ab, ao, none⟩) fn c) w1 (by go_simp) ⟨R, hC.pure 11 34 (.slice (some ⟨ab, ao, none⟩) fn c) (by simp [rows, rrNP, rrNM, rrNC, setR]) (by simp [rows, rrNP, rrNM, rrNC, setR]) (by simp [rrNM]) (by simp [rrNC]) rfl (by rw [hsz0]; exact (by decide : 34 < 42)) (by decide) (by simp) (by simp)⟩
      · intro L a w1 hI hi hd
        obtain ⟨R, hC⟩ := hI
        have hi : L 12 = false := hi
        have hp := hC.pif
        simp [Region.binds] at hd
        have e5 : a.tmps.getD 28 undef = (.bool false) := hp.pu (5, 28, (.bool false)) (by simp [rows, rrNP, rrNM, rrNC, setR]) (by simp [hd])
        have f5 : a.tmps[28]?.getD undef = (.bool false) := by rw [← Array.getD_eq_getD_getElem?]; exact e5
        have e11 : a.tmps.getD 34 undef = (.slice (some ⟨ab, ao, none⟩) fn c) := hp.pu (11, 34, (.slice (some ⟨ab, ao, none⟩) fn c)) (by simp [rows, rrNP, rrNM, rrNC, setR]) (by simp [hd])
        have f11 : a.tmps[34]?.getD undef = (.slice (some ⟨ab, ao, none⟩) fn c) := by rw [← Array.getD_eq_getD_getElem?]; exact e11
        have s2 := str_len w1 (some ⟨ab, ao, none⟩) fn c (l.take fn) HTN.out (HTR.out.below hC.bel)
        exact rstep_valW (wanted_of 5 28 false rfl rfl e5) (.string (str (l.take fn))) w1 (by go_simp) ⟨R, hC.pure 12 35 (.string (str (l.take fn))) (by simp [rows, rrNP, rrNM, rrNC, setR]) (by simp [rows, rrNP, rrNM, rrNC, setR]) (by simp [rrNM]) (by simp [rrNC]) rfl (by rw [hsz0]; exact (by decide : 35 < 42)) (by decide) (by simp) (by simp)⟩
      · intro L a w1 hI hi hd
        obtain ⟨R, hC⟩ := hI
        have hi : L 13 = false := hi
        have hp := hC.pif
        simp [Region.binds] at hd
        have e5 : a.tmps.getD 28 undef = (.bool false) := hp.pu (5, 28, (.bool false)) (by simp [rows, rrNP, rrNM, rrNC, setR]) (by simp [hd])
        have f5 : a.tmps[28]?.getD undef = (.bool false) := by rw [← Array.getD_eq_getD_getElem?]; exact e5
        have e7 : a.tmps.getD 30 undef = (.string (str (LogM.form s'))) := hp.pu (7, 30, (.string (str (LogM.form s')))) (by simp [rows, rrNP, rrNM, rrNC, setR]) (by simp [hd])
        have f7 : a.tmps[30]?.getD undef = (.string (str (LogM.form s'))) := by rw [← Array.getD_eq_getD_getElem?]; exact e7
        have e12 : a.tmps.getD 35 undef = (.string (str (l.take fn))) := hp.pu (12, 35, (.string (str (l.take fn)))) (by simp [rows, rrNP, rrNM, rrNC, setR]) (by simp [hd])
        have f12 : a.tmps[35]?.getD undef = (.string (str (l.take fn))) := by rw [← Array.getD_eq_getD_getElem?]; exact e12
        have sb := HSB.out
        exact rstep_valW (wanted_of 5 28 false rfl rfl e5) (.bool true) w1 (by go_simp) ⟨R, hC.pure 13 36 (.bool true) (by simp [rows, rrNP, rrNM, rrNC, setR]) (by simp [rows, rrNP, rrNM, rrNC, setR]) (by simp [rrNM]) (by simp [rrNC]) rfl (by rw [hsz0]; exact (by decide : 36 < 42)) (by decide) (by simp) (by simp)⟩
      · intro L a w1 hI hi hd
        obtain ⟨R, hC⟩ := hI
        have hi : L 14 = false := hi
        have hp := hC.pif
        simp [Region.binds] at hd
        have e5 : a.tmps.getD 28 undef = (.bool false) := hp.pu (5, 28, (.bool false)) (by simp [rows, rrNP, rrNM, rrNC, setR]) (by simp [hd])
        have f5 : a.tmps[28]?.getD undef = (.bool false) := by rw [← Array.getD_eq_getD_getElem?]; exact e5
        have e13 : a.tmps.getD 36 undef = (.bool true) := hp.pu (13, 36, (.bool true)) (by simp [rows, rrNP, rrNM, rrNC, setR]) (by simp [hd])
        have f13 : a.tmps[36]?.getD undef = (.bool true) := by rw [← Array.getD_eq_getD_getElem?]; exact e13
        exact rstep_valW (wanted_none rfl _) (.bool true) w1 (by go_simp) ⟨R, hC.pure 14 37 (.bool true) (by simp [rows, rrNP, rrNM, rrNC, setR]) (by simp [rows, rrNP, rrNM, rrNC, setR]) (by simp [rrNM]) (by simp [rrNC]) rfl (by rw [hsz0]; exact (by decide : 37 < 42)) (by decide) (by simp) (by simp)⟩
    rintro L a W ⟨R, hC⟩ hL
    have hp := hC.pif
    have e14 : a.tmps.getD 37 undef = (.bool true) := hp.pu (14, 37, (.bool true)) (by simp [rows, rrNP, rrNM, rrNC, setR]) (hL 14 (by simp))
    have hBW := hC.bel
    rw [hp.eq]
    refine of_assigns (P := Try.prog) _ _ _ _ ?_
    rw [ha0.out]
    simp only [asgs, List.map, e14]
    generalize a.tmps.getD 23 undef = u23
    generalize a.tmps.getD 24 undef = u24
    generalize a.tmps.getD 25 undef = u25
    generalize a.tmps.getD 26 undef = u26
    generalize a.tmps.getD 27 undef = u27
    generalize a.tmps.getD 28 undef = u28
    generalize a.tmps.getD 29 undef = u29
    generalize a.tmps.getD 30 undef = u30
    generalize a.tmps.getD 31 undef = u31
    generalize a.tmps.getD 32 undef = u32
    generalize a.tmps.getD 33 undef = u33
    generalize a.tmps.getD 34 undef = u34
    generalize a.tmps.getD 35 undef = u35
    generalize a.tmps.getD 36 undef = u36
    clear hp hL e14 ha0 z0 z7 hsz0 hC
    clear a0 a L R
    have hzW := hz5.below hBW hz5.lt
    have hBB := below_step hB5 hBW (Nat.le_refl _)
    have HR : Hid (LogM.readR l = none) := Lib.hid (by rw [HR0.out]; exact if_pos (.inr HFE.out))
    clear hBW hOb hbV hB0 hx hz5 hB5 hl5
    go_wp2_with (refine wpList_store_row rfl _ (.tmp 2) (.tmp 38) rfl gz #[.int .i64 0, .int .u64 0, .int .u32 0, .int .u64 0, .int .u32 0, .int .u16 0, .slice none 0 0, .slice none 0 0, .slice none 0 0, .int .u64 0, .int .u64 0, .bool false, .int .u64 0, .slice none 0 0, .slice none 0 0] rfl rfl _ _ hzW (by kernel_rfl) rfl (by simp [Value.oneCell']) ?_)
    have hzq := hzW.setRow_ #[.int .i64 0, .int .u64 0, .int .u32 0, .int .u64 0, .int .u32 0, .int .u16 0, .slice none 0 0, .slice none 0 0, .slice none 0 0, .int .u64 0, .int .u64 0, .bool false, .int .u64 0, .slice none 0 0, .slice none 0 0]
    have hBq := below_grown hBB (grownBy_setRow _ gz #[.int .i64 0, .int .u64 0, .int .u32 0, .int .u64 0, .int .u32 0, .int .u16 0, .slice none 0 0, .slice none 0 0, .slice none 0 0, .int .u64 0, .int .u64 0, .bool false, .int .u64 0, .slice none 0 0, .slice none 0 0]) hBB.size hgzl
    go_wp2
    refine ret_cell3b rfl gz #[.int .i64 0, .int .u64 0, .int .u32 0, .int .u64 0, .int .u32 0, .int .u16 0, .slice none 0 0, .slice none 0 0, .slice none 0 0, .int .u64 0, .int .u64 0, .bool false, .int .u64 0, .slice none 0 0, .slice none 0 0] _ rfl hzq Try.underlying31 rfl (by kernel_rfl) rfl ?_
    rw [HR.out]
    exact ⟨rfl, hBq⟩
  have HSB : Hid (((str (LogM.form s')).toList == (str (l.take fn)).toList) = true) := Lib.hid (by rw [str_beq]; exact decide_eq_true hfe)
  have HFE := Lib.hid hfe
  clear hfe
  have hB0 : Below V5.heap.size V5 V5 := Below.refl _ _
  have hbV : V5.heap.size ≤ V5.heap.size := Nat.le_refl _
  have hOb : Own V5 V5.heap.size (⟨none, 0, 0⟩ : Rs).A (⟨none, 0, 0⟩ : Rs).c [] := Own.nil_ _ _
  refine wp_named fun a0 ha0 => ?_
  have z0 : a0.tmps.getD 0 undef = (.slice (some ⟨ab, ao, none⟩) n c) := by rw [ha0.out]; rfl
  have z7 : a0.tmps.getD 7 undef = (.slice fA fn fc) := by rw [ha0.out]; rfl
  have hsz0 : a0.tmps.size = 42 := by rw [ha0.out]; rfl
  refine wp_region_invB _ (by kernel_rfl) (fun L a wv => ∃ R, Ch a0 [23, 24, 25, 26, 27, 28, 29, 30, 31, 32, 33, 34, 35, 36, 37] (rrYP fA fn fc n c s' l ab ao) (rrYM fA fn fc n c s' l ab ao) rrYC V5.heap.size V5 V5.heap.size (⟨none, 0, 0⟩ : Rs) ([]) 99 [] 0 999 R L a wv) (by kernel_rfl) ?_ ?_ ?_
  · exact ⟨fun _ => ⟨none, 0, 0⟩, Ch.start hbV ⟨rfl, rfl, rfl, Nat.le_refl _, fun _ _ => rfl⟩ hOb⟩
  rotate_left
  · as_aux_lemma =>
    refine ⟨?_, ?_, ?_, ?_, ?_, ?_, ?_, ?_, ?_, ?_, ?_, ?_, ?_, ?_, ?_, trivial⟩
    · intro L a w1 hI hi hd
      obtain ⟨R, hC⟩ := hI
      have hi : L 0 = false := hi
      have hp := hC.pif
      have t7 := hp.at_ 7 _ rfl z7
      have t7' := t7
      rw [Array.getD_eq_getD_getElem?] at t7'
      exact rstep_valW (wanted_none rfl _) (.slice fA fn fc) w1 (by go_simp) ⟨R, hC.pure 0 23 (.slice fA fn fc) (by simp [rows, rrYP, rrYM, rrYC, setR]) (by simp [rows, rrYP, rrYM, rrYC, setR]) (by simp [rrYM]) (by simp [rrYC]) rfl (by rw [hsz0]; exact (by decide : 23 < 42)) (by decide) (by simp) (by simp)⟩
    · intro L a w1 hI hi hd
      obtain ⟨R, hC⟩ := hI
      have hi : L 1 = false := hi
      have hp := hC.pif
      simp [Region.binds] at hd
      have e0 : a.tmps.getD 23 undef = (.slice fA fn fc) := hp.pu (0, 23, (.slice fA fn fc)) (by simp [rows, rrYP, rrYM, rrYC, setR]) (by simp [hd])
      have f0 : a.tmps[23]?.getD undef = (.slice fA fn fc) := by rw [← Array.getD_eq_getD_getElem?]; exact e0
      exact rstep_valW (wanted_none rfl _) (.int .i64 (fn : Int)) w1 (by go_simp) ⟨R, hC.pure 1 24 (.int .i64 (fn : Int)) (by simp [rows, rrYP, rrYM, rrYC, setR]) (by simp [rows, rrYP, rrYM, rrYC, setR]) (by simp [rrYM]) (by simp [rrYC]) rfl (by rw [hsz0]; exact (by decide : 24 < 42)) (by decide) (by simp) (by simp)⟩
    · intro L a w1 hI hi hd
      obtain ⟨R, hC⟩ := hI
      have hi : L 2 = false := hi
      have hp := hC.pif
      have t0 := hp.at_ 0 _ rfl z0
      have t0' := t0
      rw [Array.getD_eq_getD_getElem?] at t0'
      exact rstep_valW (wanted_none rfl _) (.slice (some ⟨ab, ao, none⟩) n c) w1 (by go_simp) ⟨R, hC.pure 2 25 (.slice (some ⟨ab, ao, none⟩) n c) (by simp [rows, rrYP, rrYM, rrYC, setR]) (by simp [rows, rrYP, rrYM, rrYC, setR]) (by simp [rrYM]) (by simp [rrYC]) rfl (by rw [hsz0]; exact (by decide : 25 < 42)) (by decide) (by simp) (by simp)⟩
    · intro L a w1 hI hi hd
      obtain ⟨R, hC⟩ := hI
      have hi : L 3 = false := hi
      have hp := hC.pif
      simp [Region.binds] at hd
      have e2 : a.tmps.getD 25 undef = (.slice (some ⟨ab, ao, none⟩) n c) := hp.pu (2, 25, (.slice (some ⟨ab, ao, none⟩) n c)) (by simp [rows, rrYP, rrYM, rrYC, setR]) (by simp [hd])
      have f2 : a.tmps[25]?.getD undef = (.slice (some ⟨ab, ao, none⟩) n c) := by rw [← Array.getD_eq_getD_getElem?]; exact e2
      exact rstep_valW (wanted_none rfl _) (.int .i64 (n : Int)) w1 (by go_simp) ⟨R, hC.pure 3 26 (.int .i64 (n : Int)) (by simp [rows, rrYP, rrYM, rrYC, setR]) (by simp [rows, rrYP, rrYM, rrYC, setR]) (by simp [rrYM]) (by simp [rrYC]) rfl (by rw [hsz0]; exact (by decide : 26 < 42)) (by decide) (by simp) (by simp)⟩
    · intro L a w1 hI hi hd
      obtain ⟨R, hC⟩ := hI
      have hi : L 4 = false := hi
      have hp := hC.pif
      simp [Region.binds] at hd
      have e1 : a.tmps.getD 24 undef = (.int .i64 (fn : Int)) := hp.pu (1, 24, (.int .i64 (fn : Int))) (by simp [rows, rrYP, rrYM, rrYC, setR]) (by simp [hd])
      have f1 : a.tmps[24]?.getD undef = (.int .i64 (fn : Int)) := by rw [← Array.getD_eq_getD_getElem?]; exact e1
      have e3 : a.tmps.getD 26 undef = (.int .i64 (n : Int)) := hp.pu (3, 26, (.int .i64 (n : Int))) (by simp [rows, rrYP, rrYM, rrYC, setR]) (by simp [hd])
      have f3 : a.tmps[26]?.getD undef = (.int .i64 (n : Int)) := by rw [← Array.getD_eq_getD_getElem?]; exact e3
      exact rstep_valW (wanted_none rfl _) (.bool false) w1 (by go_simp) ⟨R, hC.pure 4 27 (.bool false) (by simp [rows, rrYP, rrYM, rrYC, setR]) (by simp [rows, rrYP, rrYM, rrYC, setR]) (by simp [rrYM]) (by simp [rrYC]) rfl (by rw [hsz0]; exact (by decide : 27 < 42)) (by decide) (by simp) (by simp)⟩
    · intro L a w1 hI hi hd
      obtain ⟨R, hC⟩ := hI
      have hi : L 5 = false := hi
      have hp := hC.pif
      simp [Region.binds] at hd
      have e4 : a.tmps.getD 27 undef = (.bool false) := hp.pu (4, 27, (.bool false)) (by simp [rows, rrYP, rrYM, rrYC, setR]) (by simp [hd])
      have f4 : a.tmps[27]?.getD undef = (.bool false) := by rw [← Array.getD_eq_getD_getElem?]; exact e4
      exact rstep_valW (wanted_none rfl _) (.bool false) w1 (by go_simp) ⟨R, hC.pure 5 28 (.bool false) (by simp [rows, rrYP, rrYM, rrYC, setR]) (by simp [rows, rrYP, rrYM, rrYC, setR]) (by simp [rrYM]) (by simp [rrYC]) rfl (by rw [hsz0]; exact (by decide : 28 < 42)) (by decide) (by simp) (by simp)⟩
    · intro L a w1 hI hi hd
      obtain ⟨R, hC⟩ := hI
      have hi : L 6 = false := hi
      have hp := hC.pif
      simp [Region.binds] at hd
      have e5 : a.tmps.getD 28 undef = (.bool false) := hp.pu (5, 28, (.bool false)) (by simp [rows, rrYP, rrYM, rrYC, setR]) (by simp [hd])
      have f5 : a.tmps[28]?.getD undef = (.bool false) := by rw [← Array.getD_eq_getD_getElem?]; exact e5
      have t7 := hp.at_ 7 _ rfl z7
      have t7' := t7
      rw [Array.getD_eq_getD_getElem?] at t7'
      exact rstep_valW (wanted_of 5 28 false rfl rfl e5) (.slice fA fn fc) w1 (by go_simp) ⟨R, hC.pure 6 29 (.slice fA fn fc) (by simp [rows, rrYP, rrYM, rrYC, setR]) (by simp [rows, rrYP, rrYM, rrYC, setR]) (by simp [rrYM]) (by simp [rrYC]) rfl (by rw [hsz0]; exact (by decide : 29 < 42)) (by decide) (by simp) (by simp)⟩
    · intro L a w1 hI hi hd
      obtain ⟨R, hC⟩ := hI
      have hi : L 7 = false := hi
      have hp := hC.pif
      simp [Region.binds] at hd
      have e5 : a.tmps.getD 28 undef = (.bool false) := hp.pu (5, 28, (.bool false)) (by simp [rows, rrYP, rrYM, rrYC, setR]) (by simp [hd])
      have f5 : a.tmps[28]?.getD undef = (.bool false) := by rw [← Array.getD_eq_getD_getElem?]; exact e5
      have e6 : a.tmps.getD 29 undef = (.slice fA fn fc) := hp.pu (6, 29, (.slice fA fn fc)) (by simp [rows, rrYP, rrYM, rrYC, setR]) (by simp [hd])
      have f6 : a.tmps[29]?.getD undef = (.slice fA fn fc) := by rw [← Array.getD_eq_getD_getElem?]; exact e6
      have s1 := str_len w1 fA fn fc (LogM.form s') HFN.out (HFR.out.below hC.bel)
      exact rstep_valW (wanted_of 5 28 false rfl rfl e5) (.string (str (LogM.form s'))) w1 (by go_simp) ⟨R, hC.pure 7 30 (.string (str (LogM.form s'))) (by simp [rows, rrYP, rrYM, rrYC, setR]) (by simp [rows, rrYP, rrYM, rrYC, setR]) (by simp [rrYM]) (by simp [rrYC]) rfl (by rw [hsz0]; exact (by decide : 30 < 42)) (by decide) (by simp) (by simp)⟩
    · intro L a w1 hI hi hd
      obtain ⟨R, hC⟩ := hI
      have hi : L 8 = false := hi
      have hp := hC.pif
      simp [Region.binds] at hd
      have e5 : a.tmps.getD 28 undef = (.bool false) := hp.pu (5, 28, (.bool false)) (by simp [rows, rrYP, rrYM, rrYC, setR]) (by simp [hd])
      have f5 : a.tmps[28]?.getD undef = (.bool false) := by rw [← Array.getD_eq_getD_getElem?]; exact e5
      have t0 := hp.at_ 0 _ rfl z0
      have t0' := t0
      rw [Array.getD_eq_getD_getElem?] at t0'
      exact rstep_valW (wanted_of 5 28 false rfl rfl e5) (.slice (some ⟨ab, ao, none⟩) n c) w1 (by go_simp) ⟨R, hC.pure 8 31 (.slice (some ⟨ab, ao, none⟩) n c) (by simp [rows, rrYP, rrYM, rrYC, setR]) (by simp [rows, rrYP, rrYM, rrYC, setR]) (by simp [rrYM]) (by simp [rrYC]) rfl (by rw [hsz0]; exact (by decide : 31 < 42)) (by decide) (by simp) (by simp)⟩
    · intro L a w1 hI hi hd
      obtain ⟨R, hC⟩ := hI
      have hi : L 9 = false := hi
      have hp := hC.pif
      simp [Region.binds] at hd
      have e5 : a.tmps.getD 28 undef = (.bool false) := hp.pu (5, 28, (.bool false)) (by simp [rows, rrYP, rrYM, rrYC, setR]) (by simp [hd])
      have f5 : a.tmps[28]?.getD undef = (.bool false) := by rw [← Array.getD_eq_getD_getElem?]; exact e5
      have t7 := hp.at_ 7 _ rfl z7
      have t7' := t7
      rw [Array.getD_eq_getD_getElem?] at t7'
      exact rstep_valW (wanted_of 5 28 false rfl rfl e5) (.slice fA fn fc) w1 (by go_simp) ⟨R, hC.pure 9 32 (.slice fA fn fc) (by simp [rows, rrYP, rrYM, rrYC, setR]) (by simp [rows, rrYP, rrYM, rrYC, setR]) (by simp [rrYM]) (by simp [rrYC]) rfl (by rw [hsz0]; exact (by decide : 32 < 42)) (by decide) (by simp) (by simp)⟩
    · intro L a w1 hI hi hd
      obtain ⟨R, hC⟩ := hI
      have hi : L 10 = false := hi
      have hp := hC.pif
      simp [Region.binds] at hd
      have e5 : a.tmps.getD 28 undef = (.bool false) := hp.pu (5, 28, (.bool false)) (by simp [rows, rrYP, rrYM, rrYC, setR]) (by simp [hd])
      have f5 : a.tmps[28]?.getD undef = (.bool false) := by rw [← Array.getD_eq_getD_getElem?]; exact e5
      have e9 : a.tmps.getD 32 undef = (.slice fA fn fc) := hp.pu (9, 32, (.slice fA fn fc)) (by simp [rows, rrYP, rrYM, rrYC, setR]) (by simp [hd])
      have f9 : a.tmps[32]?.getD undef = (.slice fA fn fc) := by rw [← Array.getD_eq_getD_getElem?]; exact e9
      exact rstep_valW (wanted_of 5 28 false rfl rfl e5) (.int .i64 (fn : Int)) w1 (by go_simp) ⟨R, hC.pure 10 33 (.int .i64 (fn : Int)) (by simp [rows, rrYP, rrYM, rrYC, setR]) (by simp [rows, rrYP, rrYM, rrYC, setR]) (by simp [rrYM]) (by simp [rrYC]) rfl (by rw [hsz0]; exact (by decide : 33 < 42)) (by decide) (by simp) (by simp)⟩
    · intro L a w1 hI hi hd
      obtain ⟨R, hC⟩ := hI
      have hi : L 11 = false := hi
      have hp := hC.pif
      simp [Region.binds] at hd
      have e5 : a.tmps.getD 28 undef = (.bool false) := hp.pu (5, 28, (.bool false)) (by simp [rows, rrYP, rrYM, rrYC, setR]) (by simp [hd])
      have f5 : a.tmps[28]?.getD undef = (.bool false) := by rw [← Array.getD_eq_getD_getElem?]; exact e5
      have e8 : a.tmps.getD 31 undef = (.slice (some ⟨ab, ao, none⟩) n c) := hp.pu (8, 31, (.slice (some ⟨ab, ao, none⟩) n c)) (by simp [rows, rrYP, rrYM, rrYC, setR]) (by simp [hd])
      have f8 : a.tmps[31]?.getD undef = (.slice (some ⟨ab, ao, none⟩) n c) := by rw [← Array.getD_eq_getD_getElem?]; exact e8
      have e10 : a.tmps.getD 33 undef = (.int .i64 (fn : Int)) := hp.pu (10, 33, (.int .i64 (fn : Int))) (by simp [rows, rrYP, rrYM, rrYC, setR]) (by simp [hd])
      have f10 : a.tmps[33]?.getD undef = (.int .i64 (fn : Int)) := by rw [← Array.getD_eq_getD_getElem?]; exact e10
      have hfc : ¬ c < fn := by omega
      exact rstep_valW (wanted_of 5 28 false rfl rfl e5) (.slice (some ⟨ab, ao, none⟩) fn c) w1 (by go_simp) ⟨R, hC.pure 11 34 (.slice (some ⟨ab, ao, none⟩) fn c) (by simp [rows, rrYP, rrYM, rrYC, setR]) (by simp [rows, rrYP, rrYM, rrYC, setR]) (by simp [rrYM]) (by simp [rrYC]) rfl (by rw [hsz0]; exact (by decide : 34 < 42)) (by decide) (by simp) (by simp)⟩
    · intro L a w1 hI hi hd
      obtain ⟨R, hC⟩ := hI
      have hi : L 12 = false := hi
      have hp := hC.pif
      simp [Region.binds] at hd
      have e5 : a.tmps.getD 28 undef = (.bool false) := hp.pu (5, 28, (.bool false)) (by simp [rows, rrYP, rrYM, rrYC, setR]) (by simp [hd])
      have f5 : a.tmps[28]?.getD undef = (.bool false) := by rw [← Array.getD_eq_getD_getElem?]; exact e5
      have e11 : a.tmps.getD 34 undef = (.slice (some ⟨ab, ao, none⟩) fn c) := hp.pu (11, 34, (.slice (some ⟨ab, ao, none⟩) fn c)) (by simp [rows, rrYP, rrYM, rrYC, setR]) (by simp [hd])
      have f11 : a.tmps[34]?.getD undef = (.slice (some ⟨ab, ao, none⟩) fn c) := by rw [← Array.getD_eq_getD_getElem?]; exact e11
      have s2 := str_len w1 (some ⟨ab, ao, none⟩) fn c (l.take fn) HTN.out (HTR.out.below hC.bel)
      exact rstep_valW (wanted_of 5 28 false rfl rfl e5) (.string (str (l.take fn))) w1 (by go_simp) ⟨R, hC.pure 12 35 (.string (str (l.take fn))) (by simp [rows, rrYP, rrYM, rrYC, setR]) (by simp [rows, rrYP, rrYM, rrYC, setR]) (by simp [rrYM]) (by simp [rrYC]) rfl (by rw [hsz0]; exact (by decide : 35 < 42)) (by decide) (by simp) (by simp)⟩
    · intro L a w1 hI hi hd
      obtain ⟨R, hC⟩ := hI
      have hi : L 13 = false := hi
      have hp := hC.pif
      simp [Region.binds] at hd
      have e5 : a.tmps.getD 28 undef = (.bool false) := hp.pu (5, 28, (.bool false)) (by simp [rows, rrYP, rrYM, rrYC, setR]) (by simp [hd])
      have f5 : a.tmps[28]?.getD undef = (.bool false) := by rw [← Array.getD_eq_getD_getElem?]; exact e5
      have e7 : a.tmps.getD 30 undef = (.string (str (LogM.form s'))) := hp.pu (7, 30, (.string (str (LogM.form s')))) (by simp [rows, rrYP, rrYM, rrYC, setR]) (by simp [hd])
      have f7 : a.tmps[30]?.getD undef = (.string (str (LogM.form s'))) := by rw [← Array.getD_eq_getD_getElem?]; exact e7
      have e12 : a.tmps.getD 35 undef = (.string (str (l.take fn))) := hp.pu (12, 35, (.string (str (l.take fn)))) (by simp [rows, rrYP, rrYM, rrYC, setR]) (by simp [hd])
      have f12 : a.tmps[35]?.getD undef = (.string (str (l.take fn))) := by rw [← Array.getD_eq_getD_getElem?]; exact e12
      have sb := HSB.out
      exact rstep_valW (wanted_of 5 28 false rfl rfl e5) (.bool false) w1 (by go_simp) ⟨R, hC.pure 13 36 (.bool false) (by simp [rows, rrYP, rrYM, rrYC, setR]) (by simp [rows, rrYP, rrYM, rrYC, setR]) (by simp [rrYM]) (by simp [rrYC]) rfl (by rw [hsz0]; exact (by decide : 36 < 42)) (by decide) (by simp) (by simp)⟩
    · intro L a w1 hI hi hd
      obtain ⟨R, hC⟩ := hI
      have hi : L 14 = false := hi
      have hp := hC.pif
      simp [Region.binds] at hd
      have e5 : a.tmps.getD 28 undef = (.bool false) := hp.pu (5, 28, (.bool false)) (by simp [rows, rrYP, rrYM, rrYC, setR]) (by simp [hd])
      have f5 : a.tmps[28]?.getD undef = (.bool false) := by rw [← Array.getD_eq_getD_getElem?]; exact e5
      have e13 : a.tmps.getD 36 undef = (.bool false) := hp.pu (13, 36, (.bool false)) (by simp [rows, rrYP, rrYM, rrYC, setR]) (by simp [hd])
      have f13 : a.tmps[36]?.getD undef = (.bool false) := by rw [← Array.getD_eq_getD_getElem?]; exact e13
      exact rstep_valW (wanted_none rfl _) (.bool false) w1 (by go_simp) ⟨R, hC.pure 14 37 (.bool false) (by simp [rows, rrYP, rrYM, rrYC, setR]) (by simp [rows, rrYP, rrYM, rrYC, setR]) (by simp [rrYM]) (by simp [rrYC]) rfl (by rw [hsz0]; exact (by decide : 37 < 42)) (by decide) (by simp) (by simp)⟩
  rintro L a W ⟨R, hC⟩ hL
  have hp := hC.pif
  have e14 : a.tmps.getD 37 undef = (.bool false) := hp.pu (14, 37, (.bool false)) (by simp [rows, rrYP, rrYM, rrYC, setR]) (hL 14 (by simp))
  have hBW := hC.bel
  rw [hp.eq]
  refine of_assigns (P := Try.prog) _ _ _ _ ?_
  rw [ha0.out]
  simp only [asgs, List.map, e14]
  generalize a.tmps.getD 23 undef = u23
  generalize a.tmps.getD 24 undef = u24
  generalize a.tmps.getD 25 undef = u25
  generalize a.tmps.getD 26 undef = u26
  generalize a.tmps.getD 27 undef = u27
  generalize a.tmps.getD 28 undef = u28
  generalize a.tmps.getD 29 undef = u29
  generalize a.tmps.getD 30 undef = u30
  generalize a.tmps.getD 31 undef = u31
  generalize a.tmps.getD 32 undef = u32
  generalize a.tmps.getD 33 undef = u33
  generalize a.tmps.getD 34 undef = u34
  generalize a.tmps.getD 35 undef = u35
  generalize a.tmps.getD 36 undef = u36
  clear hp hL e14 ha0 z0 z7 hsz0 hC
  clear a0 a L R
  have hzW := hz5.below hBW hz5.lt
  have hxW := hx.below hBW hx.lt
  have hBB := below_step hB5 hBW (Nat.le_refl _)
  have hlW := hl5.below hBW
  have HR : Hid (LogM.readR l = some (s', fn)) := Lib.hid (by rw [HR0.out]; exact if_neg (by rintro (h | h); exact hsh h; exact h HFE.out))
  have HLW := Lib.hid hlW
  clear hBW hOb hbV hB0 hx hz5 hB5 hl5 hlW
  go_wp2_with (first | refine wpList_load_row rfl _ (.tmp 5) rfl gx rfl _ #[.int .i64 s'.kind, .int .u64 (s'.lsn : Int), .int .u32 (s'.epoch : Int), .int .u64 (s'.txn : Int), .int .u32 (s'.page : Int), .int .u16 (s'.off : Int), .slice y.oA y.on y.oc, .slice y.nA y.nn y.nc, .slice y.uA y.un y.uc, .int .u64 (s'.prev : Int), .int .u64 (s'.next : Int), .bool s'.clr, .int .u64 (s'.stamp : Int), .slice y.pA y.pn y.pc, .slice y.dA y.dn y.dc] (0, 0) _ hxW Try.underlying31 rfl (by kernel_rfl) ?_ | refine wpList_store_row rfl _ (.tmp 2) (.tmp 39) rfl gz #[.int .i64 s'.kind, .int .u64 (s'.lsn : Int), .int .u32 (s'.epoch : Int), .int .u64 (s'.txn : Int), .int .u32 (s'.page : Int), .int .u16 (s'.off : Int), .slice y.oA y.on y.oc, .slice y.nA y.nn y.nc, .slice y.uA y.un y.uc, .int .u64 (s'.prev : Int), .int .u64 (s'.next : Int), .bool s'.clr, .int .u64 (s'.stamp : Int), .slice y.pA y.pn y.pc, .slice y.dA y.dn y.dc] rfl rfl _ _ hzW (by kernel_rfl) rfl (by simp [Value.oneCell']) ?_)
  have hzq := hzW.setRow_ #[.int .i64 s'.kind, .int .u64 (s'.lsn : Int), .int .u32 (s'.epoch : Int), .int .u64 (s'.txn : Int), .int .u32 (s'.page : Int), .int .u16 (s'.off : Int), .slice y.oA y.on y.oc, .slice y.nA y.nn y.nc, .slice y.uA y.un y.uc, .int .u64 (s'.prev : Int), .int .u64 (s'.next : Int), .bool s'.clr, .int .u64 (s'.stamp : Int), .slice y.pA y.pn y.pc, .slice y.dA y.dn y.dc]
  have hBq := below_grown hBB (grownBy_setRow _ gz #[.int .i64 s'.kind, .int .u64 (s'.lsn : Int), .int .u32 (s'.epoch : Int), .int .u64 (s'.txn : Int), .int .u32 (s'.page : Int), .int .u16 (s'.off : Int), .slice y.oA y.on y.oc, .slice y.nA y.nn y.nc, .slice y.uA y.un y.uc, .int .u64 (s'.prev : Int), .int .u64 (s'.next : Int), .bool s'.clr, .int .u64 (s'.stamp : Int), .slice y.pA y.pn y.pc, .slice y.dA y.dn y.dc]) hBB.size hgzl
  have hlq := HLW.out.kept (grownBy_setRow W gz #[.int .i64 s'.kind, .int .u64 (s'.lsn : Int), .int .u32 (s'.epoch : Int), .int .u64 (s'.txn : Int), .int .u32 (s'.page : Int), .int .u16 (s'.off : Int), .slice y.oA y.on y.oc, .slice y.nA y.nn y.nc, .slice y.uA y.un y.uc, .int .u64 (s'.prev : Int), .int .u64 (s'.next : Int), .bool s'.clr, .int .u64 (s'.stamp : Int), .slice y.pA y.pn y.pc, .slice y.dA y.dn y.dc]) HGZB.out
  go_wp2
  refine ret_cell3b rfl gz #[.int .i64 s'.kind, .int .u64 (s'.lsn : Int), .int .u32 (s'.epoch : Int), .int .u64 (s'.txn : Int), .int .u32 (s'.page : Int), .int .u16 (s'.off : Int), .slice y.oA y.on y.oc, .slice y.nA y.nn y.nc, .slice y.uA y.un y.uc, .int .u64 (s'.prev : Int), .int .u64 (s'.next : Int), .bool s'.clr, .int .u64 (s'.stamp : Int), .slice y.pA y.pn y.pc, .slice y.dA y.dn y.dc] _ rfl hzq Try.underlying31 rfl (by kernel_rfl) rfl ?_
  rw [HR.out]
  exact ⟨y, rfl, hlq.base_ HGWB.out, HFT.out, hBq⟩
end Go.Proofs.Ytpgmhjjdnanlgaa
