/-
  The program's form of a record.
  Conditions: the record may be; its lists lie in memory.
-/
import Derived.Test.YtpgmhjjdnanlgaaLogW3
import Derived.Test.YtpgmhjjdnanlgaaReg6
import Derived.Test.YtpgmhjjdnanlgaaCodeW2
import Derived.Test.YtpgmhjjdnanlgaaCrcS
namespace Go.Proofs.Ytpgmhjjdnanlgaa
open Go.RowKit Go.Sort Go.Lib
set_option linter.unusedVariables false
set_option linter.unusedSimpArgs false
theorem Put64_at (A : Option Addr) (c n k : Nat) (l : List UInt8) (w : World) (hr : Row w A (bs l)) (hn : l.length = n) (hc : n ≤ 140737488355000) (hk : k < 18446744073709551616) :
    Calls Try.prog 45 #[.slice A n c, .int .u64 (k : Int)] w (NewB (l ++ CodeM.fx 8 k) w) := by subst hn; exact Put64_any A c k l w hr hc hk
theorem Put32_at (A : Option Addr) (c n k : Nat) (l : List UInt8) (w : World) (hr : Row w A (bs l)) (hn : l.length = n) (hc : n ≤ 140737488355000) (hk : k < 4294967296) :
    Calls Try.prog 44 #[.slice A n c, .int .u32 (k : Int)] w (NewB (l ++ CodeM.fx 4 k) w) := by subst hn; exact Put32_any A c k l w hr hc hk
theorem Put16_at (A : Option Addr) (c n k : Nat) (l : List UInt8) (w : World) (hr : Row w A (bs l)) (hn : l.length = n) (hc : n ≤ 140737488355000) (hk : k < 65536) :
    Calls Try.prog 47 #[.slice A n c, .int .u16 (k : Int)] w (NewB (l ++ CodeM.fx 2 k) w) := by subst hn; exact Put16_any A c k l w hr hc hk
theorem PutUv_at (A : Option Addr) (c n k : Nat) (l : List UInt8) (w : World) (hr : Row w A (bs l)) (hn : l.length = n) (hc : n ≤ 140737488355000) (hk : k < 18446744073709551616) :
    Calls Try.prog 48 #[.slice A n c, .int .u64 (k : Int)] w (NewB (l ++ CodeM.uv k) w) := by subst hn; exact putuv_any A c k l w hr hc hk
theorem PutText_at (A A2 : Option Addr) (n n2 c c2 : Nat) (l s : List UInt8) (w : World) (hr : Row w A (bs l)) (hr2 : Row w A2 (bs s)) (hn : l.length = n) (hn2 : s.length = n2) (hc : n + n2 ≤ 140737488354000) :
    Calls Try.prog 46 #[.slice A n c, .slice A2 n2 c2] w (NewB (l ++ CodeM.tx s) w) := by subst hn hn2; exact PutText_any A A2 c c2 l s w hr hr2 hc
theorem row_own1 (w : World) (v : Int) (c : UInt8) (h : v = (c.toNat : Int)) : Own (w.alloc (.cells #[.int .u8 v] 5)) w.heap.size (some ⟨w.heap.size, 0, none⟩) 1 [c] := by
  subst h
  exact World.ownsRow_lit w #[.int .u8 (c.toNat : Int)] 1 (Nat.le_refl _) (by decide) rfl
def faP (kind : Int) (lsn : Nat) (epoch : Nat) (g : Nat) : List (Nat × Nat × Value) := [(0, 9, (.pointer (some ⟨g, 1, none⟩))), (1, 10, (.int .u64 (lsn : Int))), (3, 12, (.pointer (some ⟨g, 2, none⟩))), (4, 13, (.int .u32 (epoch : Int))), (6, 15, (.pointer (some ⟨g, 0, none⟩))), (7, 16, (.int .i64 kind)), (8, 17, (.int .u8 kind))]
def faM (kind : Int) (lsn : Nat) (epoch : Nat) (g : Nat) : List Mk := [⟨2, 11, CodeM.fx 8 lsn, some 5⟩, ⟨5, 14, CodeM.fx 8 lsn ++ CodeM.fx 4 epoch, some 10⟩, ⟨9, 18, [CodeM.byte kind.toNat], some 10⟩, ⟨10, 19, CodeM.fx 8 lsn ++ CodeM.fx 4 epoch ++ [CodeM.byte kind.toNat], none⟩]
def faC : List Cp := [⟨11, 3, 10⟩]
def fbP (page : Nat) (off : Nat) (old : List UInt8) (new : List UInt8) (lb : List UInt8) (rA : Option Addr) (rc : Nat) (oA : Option Addr) (on : Nat) (oc : Nat) (nA : Option Addr) (nn : Nat) (nc : Nat) (g : Nat) : List (Nat × Nat × Value) := [(0, 24, (.slice rA 13 rc)), (1, 25, (.pointer (some ⟨g, 4, none⟩))), (2, 26, (.int .u32 (page : Int))), (4, 28, (.pointer (some ⟨g, 5, none⟩))), (5, 29, (.int .u16 (off : Int))), (7, 31, (.pointer (some ⟨g, 6, none⟩))), (8, 32, (.slice oA on oc)), (10, 34, (.pointer (some ⟨g, 7, none⟩))), (11, 35, (.slice nA nn nc))]
def fbM (page : Nat) (off : Nat) (old : List UInt8) (new : List UInt8) (lb : List UInt8) (rA : Option Addr) (rc : Nat) (oA : Option Addr) (on : Nat) (oc : Nat) (nA : Option Addr) (nn : Nat) (nc : Nat) (g : Nat) : List Mk := [⟨3, 27, lb ++ CodeM.fx 4 page, some 6⟩, ⟨6, 30, lb ++ CodeM.fx 4 page ++ CodeM.fx 2 off, some 9⟩, ⟨9, 33, lb ++ CodeM.fx 4 page ++ CodeM.fx 2 off ++ CodeM.tx old, some 12⟩, ⟨12, 36, lb ++ CodeM.fx 4 page ++ CodeM.fx 2 off ++ CodeM.tx old ++ CodeM.tx new, none⟩]
def fbC : List Cp := [⟨13, 3, 12⟩]
def fcP (txn : Nat) (prev : Nat) (next : Nat) (lb : List UInt8) (rA : Option Addr) (rc : Nat) (g : Nat) : List (Nat × Nat × Value) := [(0, 39, (.slice rA 13 rc)), (1, 40, (.pointer (some ⟨g, 3, none⟩))), (2, 41, (.int .u64 (txn : Int))), (4, 43, (.pointer (some ⟨g, 9, none⟩))), (5, 44, (.int .u64 (prev : Int))), (7, 46, (.pointer (some ⟨g, 10, none⟩))), (8, 47, (.int .u64 (next : Int)))]
def fcM (txn : Nat) (prev : Nat) (next : Nat) (lb : List UInt8) (rA : Option Addr) (rc : Nat) (g : Nat) : List Mk := [⟨3, 42, lb ++ CodeM.fx 8 txn, some 6⟩, ⟨6, 45, lb ++ CodeM.fx 8 txn ++ CodeM.fx 8 prev, some 9⟩, ⟨9, 48, lb ++ CodeM.fx 8 txn ++ CodeM.fx 8 prev ++ CodeM.fx 8 next, none⟩]
def fcC : List Cp := [⟨10, 3, 9⟩]
def fdP (q : Nat) (undo : List UInt8) (lc : List UInt8) (rA : Option Addr) (rc : Nat) (uA : Option Addr) (un : Nat) (uc : Nat) (g : Nat) : List (Nat × Nat × Value) := [(0, 51, (.slice rA 37 rc)), (1, 52, (.int .u8 (q : Int))), (4, 55, (.pointer (some ⟨g, 8, none⟩))), (5, 56, (.slice uA un uc))]
def fdM (q : Nat) (undo : List UInt8) (lc : List UInt8) (rA : Option Addr) (rc : Nat) (uA : Option Addr) (un : Nat) (uc : Nat) (g : Nat) : List Mk := [⟨2, 53, [CodeM.byte q], some 3⟩, ⟨3, 54, lc ++ [CodeM.byte q], some 6⟩, ⟨6, 57, lc ++ [CodeM.byte q] ++ CodeM.tx undo, none⟩]
def fdC : List Cp := [⟨7, 3, 6⟩]
def feP (txn : Nat) (stamp : Nat) (lb : List UInt8) (rA : Option Addr) (rc : Nat) (g : Nat) : List (Nat × Nat × Value) := [(0, 60, (.slice rA 13 rc)), (1, 61, (.pointer (some ⟨g, 3, none⟩))), (2, 62, (.int .u64 (txn : Int))), (4, 64, (.pointer (some ⟨g, 12, none⟩))), (5, 65, (.int .u64 (stamp : Int)))]
def feM (txn : Nat) (stamp : Nat) (lb : List UInt8) (rA : Option Addr) (rc : Nat) (g : Nat) : List Mk := [⟨3, 63, lb ++ CodeM.fx 8 txn, some 6⟩, ⟨6, 66, lb ++ CodeM.fx 8 txn ++ CodeM.fx 8 stamp, none⟩]
def feC : List Cp := [⟨7, 3, 6⟩]
def fgP (u1 : Nat) (u2 : Nat) (u3 : Nat) (ll : List UInt8) (rA : Option Addr) (rn : Nat) (rc : Nat) (gq : Nat) : List (Nat × Nat × Value) := [(0, 88, (.slice rA rn rc)), (1, 89, (.pointer (some ⟨gq, 0, none⟩))), (2, 90, (.int .u64 (u1 : Int))), (4, 92, (.pointer (some ⟨gq, 1, none⟩))), (5, 93, (.int .u64 (u2 : Int))), (7, 95, (.pointer (some ⟨gq, 2, none⟩))), (8, 96, (.int .u64 (u3 : Int)))]
def fgM (u1 : Nat) (u2 : Nat) (u3 : Nat) (ll : List UInt8) (rA : Option Addr) (rn : Nat) (rc : Nat) (gq : Nat) : List Mk := [⟨3, 91, ll ++ CodeM.fx 8 u1, some 6⟩, ⟨6, 94, ll ++ CodeM.fx 8 u1 ++ CodeM.fx 8 u2, some 9⟩, ⟨9, 97, ll ++ CodeM.fx 8 u1 ++ CodeM.fx 8 u2 ++ CodeM.fx 8 u3, none⟩]
def fgC : List Cp := [⟨10, 3, 9⟩]
def fhP (u1 : Nat) (u2 : Nat) (ll : List UInt8) (rA : Option Addr) (rn : Nat) (rc : Nat) (gq : Nat) : List (Nat × Nat × Value) := [(0, 112, (.slice rA rn rc)), (1, 113, (.pointer (some ⟨gq, 0, none⟩))), (2, 114, (.int .u32 (u1 : Int))), (4, 116, (.pointer (some ⟨gq, 1, none⟩))), (5, 117, (.int .u64 (u2 : Int)))]
def fhM (u1 : Nat) (u2 : Nat) (ll : List UInt8) (rA : Option Addr) (rn : Nat) (rc : Nat) (gq : Nat) : List Mk := [⟨3, 115, ll ++ CodeM.fx 4 u1, some 6⟩, ⟨6, 118, ll ++ CodeM.fx 4 u1 ++ CodeM.fx 8 u2, none⟩]
def fhC : List Cp := [⟨7, 3, 6⟩]
theorem Blk.c3 {w : World} {g : Nat} {t : TypeId} {v0 v1 v2 : Value} (h : Blk w g t #[v0, v1, v2]) : w.cell? ⟨g, 0, none⟩ = some v0 ∧ w.cell? ⟨g, 1, none⟩ = some v1 ∧ w.cell? ⟨g, 2, none⟩ = some v2 := ⟨h.cell 0, h.cell 1, h.cell 2⟩
theorem Blk.c2 {w : World} {g : Nat} {t : TypeId} {v0 v1 : Value} (h : Blk w g t #[v0, v1]) : w.cell? ⟨g, 0, none⟩ = some v0 ∧ w.cell? ⟨g, 1, none⟩ = some v1 := ⟨h.cell 0, h.cell 1⟩
theorem take_flat {α β : Type} (f : α → List β) {l : List α} {q : Nat} {x : α} (h : l[q]? = some x) : (l.take (q + 1)).flatMap f = (l.take q).flatMap f ++ f x := by
  rw [List.take_add_one, h, List.flatMap_append]
  simp
set_option maxRecDepth 100000 in
set_option maxHeartbeats 16000000 in
theorem form_any (s : Lrec) (y : Lsl) (w : World) (hs : LogAt w y s) (hm : LogM.May s) :
    Calls Try.prog 30 #[.agg #[.int .i64 s.kind, .int .u64 (s.lsn : Int), .int .u32 (s.epoch : Int), .int .u64 (s.txn : Int), .int .u32 (s.page : Int), .int .u16 (s.off : Int), .slice y.oA y.on y.oc, .slice y.nA y.nn y.nc, .slice y.uA y.un y.uc, .int .u64 (s.prev : Int), .int .u64 (s.next : Int), .bool s.clr, .int .u64 (s.stamp : Int), .slice y.pA y.pn y.pc, .slice y.dA y.dn y.dc]] w (NewB (LogM.form s) w) := by
  have HS0 := Lib.hid hs
  have HM := Lib.hid hm
  have HF := Lib.hid hs.fit
  clear hs hm
  obtain ⟨kind, lsn, epoch, txn, page, off, old, new, undo, prev, next, clr, stamp, opn, dirty⟩ := s
  obtain ⟨oA, on, oc, nA, nn, nc, uA, un, uc, pA, pn, pc, dA, dn, dc⟩ := y
  have hk0 : 1 ≤ kind ∧ kind ≤ 5 := ((LogM.mayR_iff _).2 HM.out).1
  have hk1 := hk0.1
  have hk2 := hk0.2
  clear hk0
  go_enter Try.func30, Try.ntmps30
  have hx := Blk.new w 31 #[.int .i64 kind, .int .u64 (lsn : Int), .int .u32 (epoch : Int), .int .u64 (txn : Int), .int .u32 (page : Int), .int .u16 (off : Int), .slice oA on oc, .slice nA nn nc, .slice uA un uc, .int .u64 (prev : Int), .int .u64 (next : Int), .bool clr, .int .u64 (stamp : Int), .slice pA pn pc, .slice dA dn dc]
  have hb0 : Below w.heap.size w (w.alloc (.cells #[.int .i64 kind, .int .u64 (lsn : Int), .int .u32 (epoch : Int), .int .u64 (txn : Int), .int .u32 (page : Int), .int .u16 (off : Int), .slice oA on oc, .slice nA nn nc, .slice uA un uc, .int .u64 (prev : Int), .int .u64 (next : Int), .bool clr, .int .u64 (stamp : Int), .slice pA pn pc, .slice dA dn dc] 31)) := (Below.refl w.heap.size w).alloc (Nat.le_refl _) _
  have hgl : w.heap.size < (w.alloc (.cells #[.int .i64 kind, .int .u64 (lsn : Int), .int .u32 (epoch : Int), .int .u64 (txn : Int), .int .u32 (page : Int), .int .u16 (off : Int), .slice oA on oc, .slice nA nn nc, .slice uA un uc, .int .u64 (prev : Int), .int .u64 (next : Int), .bool clr, .int .u64 (stamp : Int), .slice pA pn pc, .slice dA dn dc] 31)).heap.size := by simp
  go_upto_region 1 with fail
  generalize w.alloc (.cells #[.int .i64 kind, .int .u64 (lsn : Int), .int .u32 (epoch : Int), .int .u64 (txn : Int), .int .u32 (page : Int), .int .u16 (off : Int), .slice oA on oc, .slice nA nn nc, .slice uA un uc, .int .u64 (prev : Int), .int .u64 (next : Int), .bool clr, .int .u64 (stamp : Int), .slice pA pn pc, .slice dA dn dc] 31) = V0 at *
  have HS := Lib.hid (HS0.out.below hb0)
  obtain ⟨g, hg⟩ : ∃ g, w.heap.size = g := ⟨_, rfl⟩
  have HG := Lib.hid hg
  have HB0 := Lib.hid hb0
  rw [hg] at hx hgl
  simp only [hg]
  clear hg hb0 HS0
  have hB0 : Below V0.heap.size V0 V0 := Below.refl _ _
  have hbV : V0.heap.size ≤ V0.heap.size := Nat.le_refl _
  have hOb : Own V0 V0.heap.size (⟨none, 0, 0⟩ : Rs).A (⟨none, 0, 0⟩ : Rs).c [] := Own.nil_ _ _
  refine wp_named fun a0 ha0 => ?_
  have z1 : a0.tmps.getD 1 undef = (.pointer (some ⟨g, 0, none⟩)) := by rw [ha0.out]; rfl
  have hsz0 : a0.tmps.size = 132 := by rw [ha0.out]; rfl
  refine wp_region_invB _ (by kernel_rfl) (fun L a wv => ∃ R, Ch a0 [9, 10, 11, 12, 13, 14, 15, 16, 17, 18, 19, 3] (faP kind lsn epoch g) (faM kind lsn epoch g) faC V0.heap.size V0 V0.heap.size (⟨none, 0, 0⟩ : Rs) ([]) 10 [] 11 3 R L a wv) (by kernel_rfl) ?_ ?_ ?_
  · exact ⟨fun _ => ⟨none, 0, 0⟩, Ch.start hbV ⟨rfl, rfl, rfl, Nat.le_refl _, fun _ _ => rfl⟩ hOb⟩
  rotate_left
  · refine ⟨?_, ?_, ?_, ?_, ?_, ?_, ?_, ?_, ?_, ?_, ?_, ?_, trivial⟩
    · intro L a w1 hI hi hd
      obtain ⟨R, hC⟩ := hI
      have hi : L 0 = false := hi
      have hp := hC.pif
      have t1 := hp.at_ 1 _ rfl z1
      have t1' := t1
      rw [Array.getD_eq_getD_getElem?] at t1'
      exact rstep_valW (wanted_none rfl _) (.pointer (some ⟨g, 1, none⟩)) w1 (by go_simp) ⟨R, hC.pure 0 9 (.pointer (some ⟨g, 1, none⟩)) (by simp [rows, faP, faM, faC, setR]) (by simp [rows, faP, faM, faC, setR]) (by simp [faM]) (by simp [faC]) rfl (by rw [hsz0]; exact (by decide : 9 < 132)) (by decide) (by simp) (by simp)⟩
    · intro L a w1 hI hi hd
      obtain ⟨R, hC⟩ := hI
      have hi : L 1 = false := hi
      have hp := hC.pif
      simp [Region.binds] at hd
      have e0 : a.tmps.getD 9 undef = (.pointer (some ⟨g, 1, none⟩)) := hp.pu (0, 9, (.pointer (some ⟨g, 1, none⟩))) (by simp [rows, faP, faM, faC, setR]) (by simp [hd])
      have f0 : a.tmps[9]?.getD undef = (.pointer (some ⟨g, 1, none⟩)) := by rw [← Array.getD_eq_getD_getElem?]; exact e0
      obtain ⟨d0, d1, d2, d3, d4, d5, d6, d7, d8, d9, d10, d11, d12, d13, d14⟩ := (hx.below (hB0.trans hC.bel) hgl).c15
      exact rstep_valW (wanted_none rfl _) (.int .u64 (lsn : Int)) w1 (by go_simp) ⟨R, hC.pure 1 10 (.int .u64 (lsn : Int)) (by simp [rows, faP, faM, faC, setR]) (by simp [rows, faP, faM, faC, setR]) (by simp [faM]) (by simp [faC]) rfl (by rw [hsz0]; exact (by decide : 10 < 132)) (by decide) (by simp) (by simp)⟩
    · intro L a w1 hI hi hd
      obtain ⟨R, hC⟩ := hI
      have hi : L 2 = false := hi
      have hp := hC.pif
      simp [Region.binds] at hd
      have e1 : a.tmps.getD 10 undef = (.int .u64 (lsn : Int)) := hp.pu (1, 10, (.int .u64 (lsn : Int))) (by simp [rows, faP, faM, faC, setR]) (by simp [hd])
      have f1 : a.tmps[10]?.getD undef = (.int .u64 (lsn : Int)) := by rw [← Array.getD_eq_getD_getElem?]; exact e1
      have hO0 : Own w1 V0.heap.size none 0 [] := Own.nil_ _ _
      have hN0 : ([] : List UInt8).length = 0 := rfl
      refine rstep_callW (wanted_none rfl _) 45 #[.slice none 0 0, (.int .u64 (lsn : Int))] (by go_simp) ?_
      refine (Put64_at none 0 0 lsn ([]) w1 hO0.row hN0 (by rw [← hN0]; (try simp only [List.length_append, CodeM.fx_length, List.length_cons, List.length_nil]); omega) HF.out.lsn).mono ?_
      rintro e w2 ⟨A', n', c', rfl, hn', hO, hb⟩
      exact ⟨_, hC.call ⟨2, 11, CodeM.fx 8 lsn, some 5⟩ (by simp [faM]) ⟨A', n', c'⟩ hi hO hn'.out hb (by simp [faM]) (by simp [faP]) (by simp [rows, faP, faM, faC, setR]) (by simp [rows, faP, faM, faC, setR]) (by simp [faC]) rfl (by rw [hsz0]; exact (by decide : 11 < 132)) (by simp) (by simp)⟩
    · intro L a w1 hI hi hd
      obtain ⟨R, hC⟩ := hI
      have hi : L 3 = false := hi
      have hp := hC.pif
      have t1 := hp.at_ 1 _ rfl z1
      have t1' := t1
      rw [Array.getD_eq_getD_getElem?] at t1'
      exact rstep_valW (wanted_none rfl _) (.pointer (some ⟨g, 2, none⟩)) w1 (by go_simp) ⟨R, hC.pure 3 12 (.pointer (some ⟨g, 2, none⟩)) (by simp [rows, faP, faM, faC, setR]) (by simp [rows, faP, faM, faC, setR]) (by simp [faM]) (by simp [faC]) rfl (by rw [hsz0]; exact (by decide : 12 < 132)) (by decide) (by simp) (by simp)⟩
    · intro L a w1 hI hi hd
      obtain ⟨R, hC⟩ := hI
      have hi : L 4 = false := hi
      have hp := hC.pif
      simp [Region.binds] at hd
      have e3 : a.tmps.getD 12 undef = (.pointer (some ⟨g, 2, none⟩)) := hp.pu (3, 12, (.pointer (some ⟨g, 2, none⟩))) (by simp [rows, faP, faM, faC, setR]) (by simp [hd])
      have f3 : a.tmps[12]?.getD undef = (.pointer (some ⟨g, 2, none⟩)) := by rw [← Array.getD_eq_getD_getElem?]; exact e3
      obtain ⟨d0, d1, d2, d3, d4, d5, d6, d7, d8, d9, d10, d11, d12, d13, d14⟩ := (hx.below (hB0.trans hC.bel) hgl).c15
      exact rstep_valW (wanted_none rfl _) (.int .u32 (epoch : Int)) w1 (by go_simp) ⟨R, hC.pure 4 13 (.int .u32 (epoch : Int)) (by simp [rows, faP, faM, faC, setR]) (by simp [rows, faP, faM, faC, setR]) (by simp [faM]) (by simp [faC]) rfl (by rw [hsz0]; exact (by decide : 13 < 132)) (by decide) (by simp) (by simp)⟩
    · intro L a w1 hI hi hd
      obtain ⟨R, hC⟩ := hI
      have hi : L 5 = false := hi
      have hp := hC.pif
      simp [Region.binds] at hd
      have e2 : a.tmps.getD 11 undef = (.slice (R 2).A (R 2).n (R 2).c) := hp.pu (2, 11, (R 2).v) (by simp [rows, faP, faM, faC, setR]) (by simp [hd])
      have f2 : a.tmps[11]?.getD undef = (.slice (R 2).A (R 2).n (R 2).c) := by rw [← Array.getD_eq_getD_getElem?]; exact e2
      have e4 : a.tmps.getD 13 undef = (.int .u32 (epoch : Int)) := hp.pu (4, 13, (.int .u32 (epoch : Int))) (by simp [rows, faP, faM, faC, setR]) (by simp [hd])
      have f4 : a.tmps[13]?.getD undef = (.int .u32 (epoch : Int)) := by rw [← Array.getD_eq_getD_getElem?]; exact e4
      have hO0 := hC.own ⟨2, 11, CodeM.fx 8 lsn, some 5⟩ (by simp [faM]) (by simp [hd]) (by intro k hk; injection hk with hk; rw [← hk]; exact hi)
      have hN0 := hC.len ⟨2, 11, CodeM.fx 8 lsn, some 5⟩ (by simp [faM]) (by simp [hd])
      refine rstep_callW (wanted_none rfl _) 44 #[.slice (R 2).A (R 2).n (R 2).c, (.int .u32 (epoch : Int))] (by go_simp) ?_
      refine (Put32_at (R 2).A (R 2).c (R 2).n epoch (CodeM.fx 8 lsn) w1 hO0.row hN0 (by rw [← hN0]; (try simp only [List.length_append, CodeM.fx_length, List.length_cons, List.length_nil]); omega) HF.out.epoch).mono ?_
      rintro e w2 ⟨A', n', c', rfl, hn', hO, hb⟩
      exact ⟨_, hC.call ⟨5, 14, CodeM.fx 8 lsn ++ CodeM.fx 4 epoch, some 10⟩ (by simp [faM]) ⟨A', n', c'⟩ hi hO hn'.out hb (by simp [faM]) (by simp [faP]) (by simp [rows, faP, faM, faC, setR]) (by simp [rows, faP, faM, faC, setR]) (by simp [faC]) rfl (by rw [hsz0]; exact (by decide : 14 < 132)) (by simp) (by simp)⟩
    · intro L a w1 hI hi hd
      obtain ⟨R, hC⟩ := hI
      have hi : L 6 = false := hi
      have hp := hC.pif
      have t1 := hp.at_ 1 _ rfl z1
      have t1' := t1
      rw [Array.getD_eq_getD_getElem?] at t1'
      exact rstep_valW (wanted_none rfl _) (.pointer (some ⟨g, 0, none⟩)) w1 (by go_simp) ⟨R, hC.pure 6 15 (.pointer (some ⟨g, 0, none⟩)) (by simp [rows, faP, faM, faC, setR]) (by simp [rows, faP, faM, faC, setR]) (by simp [faM]) (by simp [faC]) rfl (by rw [hsz0]; exact (by decide : 15 < 132)) (by decide) (by simp) (by simp)⟩
    · intro L a w1 hI hi hd
      obtain ⟨R, hC⟩ := hI
      have hi : L 7 = false := hi
      have hp := hC.pif
      simp [Region.binds] at hd
      have e6 : a.tmps.getD 15 undef = (.pointer (some ⟨g, 0, none⟩)) := hp.pu (6, 15, (.pointer (some ⟨g, 0, none⟩))) (by simp [rows, faP, faM, faC, setR]) (by simp [hd])
      have f6 : a.tmps[15]?.getD undef = (.pointer (some ⟨g, 0, none⟩)) := by rw [← Array.getD_eq_getD_getElem?]; exact e6
      obtain ⟨d0, d1, d2, d3, d4, d5, d6, d7, d8, d9, d10, d11, d12, d13, d14⟩ := (hx.below (hB0.trans hC.bel) hgl).c15
      exact rstep_valW (wanted_none rfl _) (.int .i64 kind) w1 (by go_simp) ⟨R, hC.pure 7 16 (.int .i64 kind) (by simp [rows, faP, faM, faC, setR]) (by simp [rows, faP, faM, faC, setR]) (by simp [faM]) (by simp [faC]) rfl (by rw [hsz0]; exact (by decide : 16 < 132)) (by decide) (by simp) (by simp)⟩
    · intro L a w1 hI hi hd
      obtain ⟨R, hC⟩ := hI
      have hi : L 8 = false := hi
      have hp := hC.pif
      simp [Region.binds] at hd
      have e7 : a.tmps.getD 16 undef = (.int .i64 kind) := hp.pu (7, 16, (.int .i64 kind)) (by simp [rows, faP, faM, faC, setR]) (by simp [hd])
      have f7 : a.tmps[16]?.getD undef = (.int .i64 kind) := by rw [← Array.getD_eq_getD_getElem?]; exact e7
      have hk8 : IntKind.u8.wrap kind = kind := by rw [IntKind.wrap_u8]; omega
      exact rstep_valW (wanted_none rfl _) (.int .u8 kind) w1 (by go_simp) ⟨R, hC.pure 8 17 (.int .u8 kind) (by simp [rows, faP, faM, faC, setR]) (by simp [rows, faP, faM, faC, setR]) (by simp [faM]) (by simp [faC]) rfl (by rw [hsz0]; exact (by decide : 17 < 132)) (by decide) (by simp) (by simp)⟩
    · intro L a w1 hI hi hd
      obtain ⟨R, hC⟩ := hI
      have hi : L 9 = false := hi
      have hp := hC.pif
      simp [Region.binds] at hd
      have e8 : a.tmps.getD 17 undef = (.int .u8 kind) := hp.pu (8, 17, (.int .u8 kind)) (by simp [rows, faP, faM, faC, setR]) (by simp [hd])
      have f8 : a.tmps[17]?.getD undef = (.int .u8 kind) := by rw [← Array.getD_eq_getD_getElem?]; exact e8
      have hO := row_own1 w1 kind (CodeM.byte kind.toNat) (by rw [CodeM.ofNat_toNat _ (by omega)]; omega)
      exact rstep_valW (wanted_none rfl _) (.slice (some ⟨w1.heap.size, 0, none⟩) 1 1) (w1.alloc (.cells #[.int .u8 kind] 5)) (by go_simp) ⟨_, hC.call ⟨9, 18, [CodeM.byte kind.toNat], some 10⟩ (by simp [faM]) ⟨some ⟨w1.heap.size, 0, none⟩, 1, 1⟩ hi hO rfl ((Below.refl _ _).alloc (Nat.le_refl _) _) (by simp [faM]) (by simp [faP]) (by simp [rows, faP, faM, faC, setR]) (by simp [rows, faP, faM, faC, setR]) (by simp [faC]) rfl (by rw [hsz0]; exact (by decide : 18 < 132)) (by simp) (by simp)⟩
    · intro L a w1 hI hi hd
      obtain ⟨R, hC⟩ := hI
      have hi : L 10 = false := hi
      have hp := hC.pif
      simp [Region.binds] at hd
      have e5 : a.tmps.getD 14 undef = (.slice (R 5).A (R 5).n (R 5).c) := hp.pu (5, 14, (R 5).v) (by simp [rows, faP, faM, faC, setR]) (by simp [hd])
      have f5 : a.tmps[14]?.getD undef = (.slice (R 5).A (R 5).n (R 5).c) := by rw [← Array.getD_eq_getD_getElem?]; exact e5
      have e9 : a.tmps.getD 18 undef = (.slice (R 9).A (R 9).n (R 9).c) := hp.pu (9, 18, (R 9).v) (by simp [rows, faP, faM, faC, setR]) (by simp [hd])
      have f9 : a.tmps[18]?.getD undef = (.slice (R 9).A (R 9).n (R 9).c) := by rw [← Array.getD_eq_getD_getElem?]; exact e9
      have hO0 := hC.own ⟨5, 14, CodeM.fx 8 lsn ++ CodeM.fx 4 epoch, some 10⟩ (by simp [faM]) (by simp [hd]) (by intro k hk; injection hk with hk; rw [← hk]; exact hi)
      have hN0 := hC.len ⟨5, 14, CodeM.fx 8 lsn ++ CodeM.fx 4 epoch, some 10⟩ (by simp [faM]) (by simp [hd])
      have hO1 := hC.own ⟨9, 18, [CodeM.byte kind.toNat], some 10⟩ (by simp [faM]) (by simp [hd]) (by intro k hk; injection hk with hk; rw [← hk]; exact hi)
      have hN1 := hC.len ⟨9, 18, [CodeM.byte kind.toNat], some 10⟩ (by simp [faM]) (by simp [hd])
      obtain ⟨i0, hi0, hz0, hz1, hz2⟩ := info_parts info_u8
      dsimp only at hO0 hN0 hO1 hN1
      refine rstep_wp rfl (wp_append_row w1 (.tmp 14) (.tmp 18) _ rfl V0.heap.size 5 i0 _ 1 1 Try.underlying22 hi0 hz0 hz1 hz2 rfl (by omega) (.slice (R 5).A (R 5).n (R 5).c) (R 5).n (bs (CodeM.fx 8 lsn ++ CodeM.fx 4 epoch)) e5 (by unfold Own at hO0; rw [hN0] at hO0; exact hO0) (R 9).A (R 9).n (R 9).c (bs ([CodeM.byte kind.toNat])) e9 (by rw [bs_length, hN1]; omega) hO1.row (bs_one _) (by unfold maxLen; rw [← hN0, ← hN1]; (try simp only [List.length_append, CodeM.fx_length, List.length_cons, List.length_nil]); omega) (by rw [← hN0, ← hN1]; (try simp only [List.length_append, CodeM.fx_length, List.length_cons, List.length_nil]); omega) hC.size fun A' c' w2 h1 h2 h3 => ?_)
      rw [← bs_append] at h1
      have hln : ((CodeM.fx 8 lsn ++ CodeM.fx 4 epoch) ++ ([CodeM.byte kind.toNat])).length = (R 5).n + (R 9).n := by rw [List.length_append, hN0, hN1]
      exact ⟨_, hC.app ⟨10, 19, CodeM.fx 8 lsn ++ CodeM.fx 4 epoch ++ [CodeM.byte kind.toNat], none⟩ (by simp [faM]) ⟨A', (R 5).n + (R 9).n, c'⟩ hi hO0 hN0 (by unfold Own; rw [hln]; exact h1) (by rw [hln]) h2 (by simp [faM]; try simp_all) (by simp [hd]) (by simp [faM]) (by simp [faP]) (by simp [rows, faP, faM, faC, setR]) (by simp [rows, faP, faM, faC, setR]) (by simp [faC]) rfl (by rw [hsz0]; exact (by decide : 19 < 132)) (by simp) (by simp)⟩
    · intro L a w1 hI hi hd
      obtain ⟨R, hC⟩ := hI
      have hi : L 11 = false := hi
      have hp := hC.pif
      simp [Region.binds] at hd
      have e10 : a.tmps.getD 19 undef = (.slice (R 10).A (R 10).n (R 10).c) := hp.pu (10, 19, (R 10).v) (by simp [rows, faP, faM, faC, setR]) (by simp [hd])
      have f10 : a.tmps[19]?.getD undef = (.slice (R 10).A (R 10).n (R 10).c) := by rw [← Array.getD_eq_getD_getElem?]; exact e10
      exact rstep_valW (wanted_none rfl _) (.slice (R 10).A (R 10).n (R 10).c) w1 (by go_simp) ⟨R, hC.copy 11 3 10 (by simp [hd]) (by simp [rows, faP, faM, faC, setR]) (by simp [rows, faP, faM, faC, setR]) (by simp [faM]) (by simp [faC]) rfl (by rw [hsz0]; exact (by decide : 3 < 132)) (by decide) (by simp) (fun _ => .inr rfl)⟩
  rintro L a W ⟨R, hC⟩ hL
  have hp := hC.pif
  have e11 : a.tmps.getD 3 undef = .slice (R 10).A (R 10).n (R 10).c := hp.pu (11, 3, (R 10).v) (by simp [rows, faP, faM, faC, setR]) (hL 11 (by simp))
  have hOW := hC.own ⟨10, 19, CodeM.fx 8 lsn ++ CodeM.fx 4 epoch ++ [CodeM.byte kind.toNat], none⟩ (by simp [faM]) (hL 10 (by simp)) nofun
  have hNW := hC.len ⟨10, 19, CodeM.fx 8 lsn ++ CodeM.fx 4 epoch ++ [CodeM.byte kind.toNat], none⟩ (by simp [faM]) (hL 10 (by simp))
  have hBW := hC.bel
  generalize R 10 = r at *
  obtain ⟨rA, rn, rc⟩ := r
  dsimp only at *
  rw [hp.eq]
  refine of_assigns (P := Try.prog) _ _ _ _ ?_
  rw [ha0.out]
  simp only [asgs, List.map, e11]
  generalize a.tmps.getD 9 undef = u9
  generalize a.tmps.getD 10 undef = u10
  generalize a.tmps.getD 11 undef = u11
  generalize a.tmps.getD 12 undef = u12
  generalize a.tmps.getD 13 undef = u13
  generalize a.tmps.getD 14 undef = u14
  generalize a.tmps.getD 15 undef = u15
  generalize a.tmps.getD 16 undef = u16
  generalize a.tmps.getD 17 undef = u17
  generalize a.tmps.getD 18 undef = u18
  generalize a.tmps.getD 19 undef = u19
  clear hp hL e11 ha0 z1 hsz0 hC
  clear a0 a L R
  clear hB0 hOb hbV
  obtain ⟨lb, hlb⟩ : ∃ lb, CodeM.fx 8 lsn ++ CodeM.fx 4 epoch ++ [CodeM.byte kind.toNat] = lb := ⟨_, rfl⟩
  have HLB : Hid (LogM.headB ⟨kind, lsn, epoch, txn, page, off, old, new, undo, prev, next, clr, stamp, opn, dirty⟩ = lb) := Lib.hid hlb
  rw [hlb] at hOW hNW
  obtain rfl : 13 = rn := by rw [← hNW, ← hlb]; simp [CodeM.fx_length]
  have HN13 := Lib.hid hNW
  clear hlb hNW
  obtain ⟨d0, d1, d2, d3, d4, d5, d6, d7, d8, d9, d10, d11, d12, d13, d14⟩ := (hx.below hBW hgl).c15
  go_upto_block 0 with fail
  clear d0 d1 d2 d3 d4 d5 d6 d7 d8 d9 d10 d11 d12 d13 d14
  go_cut [3] from 4 (fun b wc => ∃ (A : Option Addr) (n c : Nat), b = .slice A n c ∧ Own wc V0.heap.size A c (LogM.body ⟨kind, lsn, epoch, txn, page, off, old, new, undo, prev, next, clr, stamp, opn, dirty⟩) ∧ (LogM.body ⟨kind, lsn, epoch, txn, page, off, old, new, undo, prev, next, clr, stamp, opn, dirty⟩).length = n ∧ n ≤ 1213 ∧ Below V0.heap.size V0 wc)
  case first =>
    have HTL : ∀ k : Int, k = kind → True := fun _ _ => trivial
    clear HTL
    by_cases k1 : kind = 1
    · subst k1
      have HBD : Hid (LogM.body ⟨1, lsn, epoch, txn, page, off, old, new, undo, prev, next, clr, stamp, opn, dirty⟩ = lb ++ CodeM.fx 4 page ++ CodeM.fx 2 off ++ CodeM.tx old ++ CodeM.tx new) := Lib.hid (by unfold LogM.body LogM.tail; rw [HLB.out]; simp [List.append_assoc])
      have hmk := HM.out.2
      unfold LogM.mayK at hmk
      rw [if_pos rfl] at hmk
      have hoo := HS.out.lo
      have hnn := HS.out.ln
      dsimp only at hmk hoo hnn
      have ho5 : on ≤ 500 := by omega
      have hn5 : nn ≤ 500 := by omega
      have htxo := LogM.tx_length old (by omega)
      have htxn := LogM.tx_length new (by omega)
      clear hmk
      go_upto_region 4 with fail
      have hB0 := hBW
      have hbV : V0.heap.size ≤ W.heap.size := hBW.size
      have hOb : Own W V0.heap.size (⟨rA, 13, rc⟩ : Rs).A (⟨rA, 13, rc⟩ : Rs).c lb := hOW
      have hlb13 := HN13.out
      clear hOW hBW
      refine wp_named fun a0 ha0 => ?_
      have z1 : a0.tmps.getD 1 undef = (.pointer (some ⟨g, 0, none⟩)) := by rw [ha0.out]; rfl
      have z3 : a0.tmps.getD 3 undef = (.slice rA 13 rc) := by rw [ha0.out]; rfl
      have hsz0 : a0.tmps.size = 132 := by rw [ha0.out]; rfl
      refine wp_region_invB _ (by kernel_rfl) (fun L a wv => ∃ R, Ch a0 [24, 25, 26, 27, 28, 29, 30, 31, 32, 33, 34, 35, 36, 3] (fbP page off old new lb rA rc oA on oc nA nn nc g) (fbM page off old new lb rA rc oA on oc nA nn nc g) fbC V0.heap.size W V0.heap.size (⟨rA, 13, rc⟩ : Rs) (lb) 3 [(3, 0), (6, 3), (9, 6), (12, 9)] 0 3 R L a wv) (by kernel_rfl) ?_ ?_ ?_
      · exact ⟨fun _ => ⟨none, 0, 0⟩, Ch.start hbV ⟨rfl, rfl, rfl, Nat.le_refl _, fun _ _ => rfl⟩ hOb⟩
      rotate_left
      · refine ⟨?_, ?_, ?_, ?_, ?_, ?_, ?_, ?_, ?_, ?_, ?_, ?_, ?_, ?_, trivial⟩
        · intro L a w1 hI hi hd
          obtain ⟨R, hC⟩ := hI
          have hi : L 0 = false := hi
          have hp := hC.pif
          have t3 := (hC.st hi).trans z3
          have t3' := t3
          rw [Array.getD_eq_getD_getElem?] at t3'
          exact rstep_valW (wanted_none rfl _) (.slice rA 13 rc) w1 (by go_simp) ⟨R, hC.pure 0 24 (.slice rA 13 rc) (by simp [rows, fbP, fbM, fbC, setR]) (by simp [rows, fbP, fbM, fbC, setR]) (by simp [fbM]) (by simp [fbC]) rfl (by rw [hsz0]; exact (by decide : 24 < 132)) (by decide) (by simp [hd]) (by simp)⟩
        · intro L a w1 hI hi hd
          obtain ⟨R, hC⟩ := hI
          have hi : L 1 = false := hi
          have hp := hC.pif
          have t1 := hp.at_ 1 _ rfl z1
          have t1' := t1
          rw [Array.getD_eq_getD_getElem?] at t1'
          exact rstep_valW (wanted_none rfl _) (.pointer (some ⟨g, 4, none⟩)) w1 (by go_simp) ⟨R, hC.pure 1 25 (.pointer (some ⟨g, 4, none⟩)) (by simp [rows, fbP, fbM, fbC, setR]) (by simp [rows, fbP, fbM, fbC, setR]) (by simp [fbM]) (by simp [fbC]) rfl (by rw [hsz0]; exact (by decide : 25 < 132)) (by decide) (by simp [hd]) (by simp)⟩
        · intro L a w1 hI hi hd
          obtain ⟨R, hC⟩ := hI
          have hi : L 2 = false := hi
          have hp := hC.pif
          simp [Region.binds] at hd
          have e1 : a.tmps.getD 25 undef = (.pointer (some ⟨g, 4, none⟩)) := hp.pu (1, 25, (.pointer (some ⟨g, 4, none⟩))) (by simp [rows, fbP, fbM, fbC, setR]) (by simp [hd])
          have f1 : a.tmps[25]?.getD undef = (.pointer (some ⟨g, 4, none⟩)) := by rw [← Array.getD_eq_getD_getElem?]; exact e1
          obtain ⟨d0, d1, d2, d3, d4, d5, d6, d7, d8, d9, d10, d11, d12, d13, d14⟩ := (hx.below (hB0.trans hC.bel) hgl).c15
          exact rstep_valW (wanted_none rfl _) (.int .u32 (page : Int)) w1 (by go_simp) ⟨R, hC.pure 2 26 (.int .u32 (page : Int)) (by simp [rows, fbP, fbM, fbC, setR]) (by simp [rows, fbP, fbM, fbC, setR]) (by simp [fbM]) (by simp [fbC]) rfl (by rw [hsz0]; exact (by decide : 26 < 132)) (by decide) (by simp [hd]) (by simp)⟩
        · intro L a w1 hI hi hd
          obtain ⟨R, hC⟩ := hI
          have hi : L 3 = false := hi
          have hp := hC.pif
          simp [Region.binds] at hd
          have e0 : a.tmps.getD 24 undef = (.slice rA 13 rc) := hp.pu (0, 24, (.slice rA 13 rc)) (by simp [rows, fbP, fbM, fbC, setR]) (by simp [hd])
          have f0 : a.tmps[24]?.getD undef = (.slice rA 13 rc) := by rw [← Array.getD_eq_getD_getElem?]; exact e0
          have e2 : a.tmps.getD 26 undef = (.int .u32 (page : Int)) := hp.pu (2, 26, (.int .u32 (page : Int))) (by simp [rows, fbP, fbM, fbC, setR]) (by simp [hd])
          have f2 : a.tmps[26]?.getD undef = (.int .u32 (page : Int)) := by rw [← Array.getD_eq_getD_getElem?]; exact e2
          have hO0 := hC.ex hi
          have hN0 : (lb).length = (⟨rA, 13, rc⟩ : Rs).n := HN13.out
          refine rstep_callW (wanted_none rfl _) 44 #[.slice (⟨rA, 13, rc⟩ : Rs).A (⟨rA, 13, rc⟩ : Rs).n (⟨rA, 13, rc⟩ : Rs).c, (.int .u32 (page : Int))] (by go_simp) ?_
          refine (Put32_at (⟨rA, 13, rc⟩ : Rs).A (⟨rA, 13, rc⟩ : Rs).c (⟨rA, 13, rc⟩ : Rs).n page (lb) w1 hO0.row hN0 (by rw [← hN0]; (try simp only [List.length_append, CodeM.fx_length, List.length_cons, List.length_nil]); omega) HF.out.page).mono ?_
          rintro e w2 ⟨A', n', c', rfl, hn', hO, hb⟩
          exact ⟨_, hC.call ⟨3, 27, lb ++ CodeM.fx 4 page, some 6⟩ (by simp [fbM]) ⟨A', n', c'⟩ hi hO hn'.out hb (by simp [fbM]) (by simp [fbP]) (by simp [rows, fbP, fbM, fbC, setR]) (by simp [rows, fbP, fbM, fbC, setR]) (by simp [fbC]) rfl (by rw [hsz0]; exact (by decide : 27 < 132)) (by simp [hd]) (by simp)⟩
        · intro L a w1 hI hi hd
          obtain ⟨R, hC⟩ := hI
          have hi : L 4 = false := hi
          have hp := hC.pif
          have t1 := hp.at_ 1 _ rfl z1
          have t1' := t1
          rw [Array.getD_eq_getD_getElem?] at t1'
          exact rstep_valW (wanted_none rfl _) (.pointer (some ⟨g, 5, none⟩)) w1 (by go_simp) ⟨R, hC.pure 4 28 (.pointer (some ⟨g, 5, none⟩)) (by simp [rows, fbP, fbM, fbC, setR]) (by simp [rows, fbP, fbM, fbC, setR]) (by simp [fbM]) (by simp [fbC]) rfl (by rw [hsz0]; exact (by decide : 28 < 132)) (by decide) (by simp [hd]) (by simp)⟩
        · intro L a w1 hI hi hd
          obtain ⟨R, hC⟩ := hI
          have hi : L 5 = false := hi
          have hp := hC.pif
          simp [Region.binds] at hd
          have e4 : a.tmps.getD 28 undef = (.pointer (some ⟨g, 5, none⟩)) := hp.pu (4, 28, (.pointer (some ⟨g, 5, none⟩))) (by simp [rows, fbP, fbM, fbC, setR]) (by simp [hd])
          have f4 : a.tmps[28]?.getD undef = (.pointer (some ⟨g, 5, none⟩)) := by rw [← Array.getD_eq_getD_getElem?]; exact e4
          obtain ⟨d0, d1, d2, d3, d4, d5, d6, d7, d8, d9, d10, d11, d12, d13, d14⟩ := (hx.below (hB0.trans hC.bel) hgl).c15
          exact rstep_valW (wanted_none rfl _) (.int .u16 (off : Int)) w1 (by go_simp) ⟨R, hC.pure 5 29 (.int .u16 (off : Int)) (by simp [rows, fbP, fbM, fbC, setR]) (by simp [rows, fbP, fbM, fbC, setR]) (by simp [fbM]) (by simp [fbC]) rfl (by rw [hsz0]; exact (by decide : 29 < 132)) (by decide) (by simp [hd]) (by simp)⟩
        · intro L a w1 hI hi hd
          obtain ⟨R, hC⟩ := hI
          have hi : L 6 = false := hi
          have hp := hC.pif
          simp [Region.binds] at hd
          have e3 : a.tmps.getD 27 undef = (.slice (R 3).A (R 3).n (R 3).c) := hp.pu (3, 27, (R 3).v) (by simp [rows, fbP, fbM, fbC, setR]) (by simp [hd])
          have f3 : a.tmps[27]?.getD undef = (.slice (R 3).A (R 3).n (R 3).c) := by rw [← Array.getD_eq_getD_getElem?]; exact e3
          have e5 : a.tmps.getD 29 undef = (.int .u16 (off : Int)) := hp.pu (5, 29, (.int .u16 (off : Int))) (by simp [rows, fbP, fbM, fbC, setR]) (by simp [hd])
          have f5 : a.tmps[29]?.getD undef = (.int .u16 (off : Int)) := by rw [← Array.getD_eq_getD_getElem?]; exact e5
          have hO0 := hC.own ⟨3, 27, lb ++ CodeM.fx 4 page, some 6⟩ (by simp [fbM]) (by simp [hd]) (by intro k hk; injection hk with hk; rw [← hk]; exact hi)
          have hN0 := hC.len ⟨3, 27, lb ++ CodeM.fx 4 page, some 6⟩ (by simp [fbM]) (by simp [hd])
          refine rstep_callW (wanted_none rfl _) 47 #[.slice (R 3).A (R 3).n (R 3).c, (.int .u16 (off : Int))] (by go_simp) ?_
          refine (Put16_at (R 3).A (R 3).c (R 3).n off (lb ++ CodeM.fx 4 page) w1 hO0.row hN0 (by rw [← hN0]; (try simp only [List.length_append, CodeM.fx_length, List.length_cons, List.length_nil]); omega) HF.out.off).mono ?_
          rintro e w2 ⟨A', n', c', rfl, hn', hO, hb⟩
          exact ⟨_, hC.call ⟨6, 30, lb ++ CodeM.fx 4 page ++ CodeM.fx 2 off, some 9⟩ (by simp [fbM]) ⟨A', n', c'⟩ hi hO hn'.out hb (by simp [fbM]) (by simp [fbP]) (by simp [rows, fbP, fbM, fbC, setR]) (by simp [rows, fbP, fbM, fbC, setR]) (by simp [fbC]) rfl (by rw [hsz0]; exact (by decide : 30 < 132)) (by simp [hd]) (by simp)⟩
        · intro L a w1 hI hi hd
          obtain ⟨R, hC⟩ := hI
          have hi : L 7 = false := hi
          have hp := hC.pif
          have t1 := hp.at_ 1 _ rfl z1
          have t1' := t1
          rw [Array.getD_eq_getD_getElem?] at t1'
          exact rstep_valW (wanted_none rfl _) (.pointer (some ⟨g, 6, none⟩)) w1 (by go_simp) ⟨R, hC.pure 7 31 (.pointer (some ⟨g, 6, none⟩)) (by simp [rows, fbP, fbM, fbC, setR]) (by simp [rows, fbP, fbM, fbC, setR]) (by simp [fbM]) (by simp [fbC]) rfl (by rw [hsz0]; exact (by decide : 31 < 132)) (by decide) (by simp [hd]) (by simp)⟩
        · intro L a w1 hI hi hd
          obtain ⟨R, hC⟩ := hI
          have hi : L 8 = false := hi
          have hp := hC.pif
          simp [Region.binds] at hd
          have e7 : a.tmps.getD 31 undef = (.pointer (some ⟨g, 6, none⟩)) := hp.pu (7, 31, (.pointer (some ⟨g, 6, none⟩))) (by simp [rows, fbP, fbM, fbC, setR]) (by simp [hd])
          have f7 : a.tmps[31]?.getD undef = (.pointer (some ⟨g, 6, none⟩)) := by rw [← Array.getD_eq_getD_getElem?]; exact e7
          obtain ⟨d0, d1, d2, d3, d4, d5, d6, d7, d8, d9, d10, d11, d12, d13, d14⟩ := (hx.below (hB0.trans hC.bel) hgl).c15
          exact rstep_valW (wanted_none rfl _) (.slice oA on oc) w1 (by go_simp) ⟨R, hC.pure 8 32 (.slice oA on oc) (by simp [rows, fbP, fbM, fbC, setR]) (by simp [rows, fbP, fbM, fbC, setR]) (by simp [fbM]) (by simp [fbC]) rfl (by rw [hsz0]; exact (by decide : 32 < 132)) (by decide) (by simp [hd]) (by simp)⟩
        · intro L a w1 hI hi hd
          obtain ⟨R, hC⟩ := hI
          have hi : L 9 = false := hi
          have hp := hC.pif
          simp [Region.binds] at hd
          have e6 : a.tmps.getD 30 undef = (.slice (R 6).A (R 6).n (R 6).c) := hp.pu (6, 30, (R 6).v) (by simp [rows, fbP, fbM, fbC, setR]) (by simp [hd])
          have f6 : a.tmps[30]?.getD undef = (.slice (R 6).A (R 6).n (R 6).c) := by rw [← Array.getD_eq_getD_getElem?]; exact e6
          have e8 : a.tmps.getD 32 undef = (.slice oA on oc) := hp.pu (8, 32, (.slice oA on oc)) (by simp [rows, fbP, fbM, fbC, setR]) (by simp [hd])
          have f8 : a.tmps[32]?.getD undef = (.slice oA on oc) := by rw [← Array.getD_eq_getD_getElem?]; exact e8
          have hO0 := hC.own ⟨6, 30, lb ++ CodeM.fx 4 page ++ CodeM.fx 2 off, some 9⟩ (by simp [fbM]) (by simp [hd]) (by intro k hk; injection hk with hk; rw [← hk]; exact hi)
          have hN0 := hC.len ⟨6, 30, lb ++ CodeM.fx 4 page ++ CodeM.fx 2 off, some 9⟩ (by simp [fbM]) (by simp [hd])
          refine rstep_callW (wanted_none rfl _) 46 #[.slice (R 6).A (R 6).n (R 6).c, .slice oA on oc] (by go_simp) ?_
          refine (PutText_at (R 6).A oA (R 6).n on (R 6).c oc (lb ++ CodeM.fx 4 page ++ CodeM.fx 2 off) old w1 hO0.row (HS.out.below (hB0.trans hC.bel)).ro hN0 HS.out.lo (by rw [← hN0]; (try simp only [List.length_append, CodeM.fx_length, List.length_cons, List.length_nil]); omega)).mono ?_
          rintro e w2 ⟨A', n', c', rfl, hn', hO, hb⟩
          exact ⟨_, hC.call ⟨9, 33, lb ++ CodeM.fx 4 page ++ CodeM.fx 2 off ++ CodeM.tx old, some 12⟩ (by simp [fbM]) ⟨A', n', c'⟩ hi hO hn'.out hb (by simp [fbM]) (by simp [fbP]) (by simp [rows, fbP, fbM, fbC, setR]) (by simp [rows, fbP, fbM, fbC, setR]) (by simp [fbC]) rfl (by rw [hsz0]; exact (by decide : 33 < 132)) (by simp [hd]) (by simp)⟩
        · intro L a w1 hI hi hd
          obtain ⟨R, hC⟩ := hI
          have hi : L 10 = false := hi
          have hp := hC.pif
          have t1 := hp.at_ 1 _ rfl z1
          have t1' := t1
          rw [Array.getD_eq_getD_getElem?] at t1'
          exact rstep_valW (wanted_none rfl _) (.pointer (some ⟨g, 7, none⟩)) w1 (by go_simp) ⟨R, hC.pure 10 34 (.pointer (some ⟨g, 7, none⟩)) (by simp [rows, fbP, fbM, fbC, setR]) (by simp [rows, fbP, fbM, fbC, setR]) (by simp [fbM]) (by simp [fbC]) rfl (by rw [hsz0]; exact (by decide : 34 < 132)) (by decide) (by simp [hd]) (by simp)⟩
        · intro L a w1 hI hi hd
          obtain ⟨R, hC⟩ := hI
          have hi : L 11 = false := hi
          have hp := hC.pif
          simp [Region.binds] at hd
          have e10 : a.tmps.getD 34 undef = (.pointer (some ⟨g, 7, none⟩)) := hp.pu (10, 34, (.pointer (some ⟨g, 7, none⟩))) (by simp [rows, fbP, fbM, fbC, setR]) (by simp [hd])
          have f10 : a.tmps[34]?.getD undef = (.pointer (some ⟨g, 7, none⟩)) := by rw [← Array.getD_eq_getD_getElem?]; exact e10
          obtain ⟨d0, d1, d2, d3, d4, d5, d6, d7, d8, d9, d10, d11, d12, d13, d14⟩ := (hx.below (hB0.trans hC.bel) hgl).c15
          exact rstep_valW (wanted_none rfl _) (.slice nA nn nc) w1 (by go_simp) ⟨R, hC.pure 11 35 (.slice nA nn nc) (by simp [rows, fbP, fbM, fbC, setR]) (by simp [rows, fbP, fbM, fbC, setR]) (by simp [fbM]) (by simp [fbC]) rfl (by rw [hsz0]; exact (by decide : 35 < 132)) (by decide) (by simp [hd]) (by simp)⟩
        · intro L a w1 hI hi hd
          obtain ⟨R, hC⟩ := hI
          have hi : L 12 = false := hi
          have hp := hC.pif
          simp [Region.binds] at hd
          have e9 : a.tmps.getD 33 undef = (.slice (R 9).A (R 9).n (R 9).c) := hp.pu (9, 33, (R 9).v) (by simp [rows, fbP, fbM, fbC, setR]) (by simp [hd])
          have f9 : a.tmps[33]?.getD undef = (.slice (R 9).A (R 9).n (R 9).c) := by rw [← Array.getD_eq_getD_getElem?]; exact e9
          have e11 : a.tmps.getD 35 undef = (.slice nA nn nc) := hp.pu (11, 35, (.slice nA nn nc)) (by simp [rows, fbP, fbM, fbC, setR]) (by simp [hd])
          have f11 : a.tmps[35]?.getD undef = (.slice nA nn nc) := by rw [← Array.getD_eq_getD_getElem?]; exact e11
          have hO0 := hC.own ⟨9, 33, lb ++ CodeM.fx 4 page ++ CodeM.fx 2 off ++ CodeM.tx old, some 12⟩ (by simp [fbM]) (by simp [hd]) (by intro k hk; injection hk with hk; rw [← hk]; exact hi)
          have hN0 := hC.len ⟨9, 33, lb ++ CodeM.fx 4 page ++ CodeM.fx 2 off ++ CodeM.tx old, some 12⟩ (by simp [fbM]) (by simp [hd])
          refine rstep_callW (wanted_none rfl _) 46 #[.slice (R 9).A (R 9).n (R 9).c, .slice nA nn nc] (by go_simp) ?_
          refine (PutText_at (R 9).A nA (R 9).n nn (R 9).c nc (lb ++ CodeM.fx 4 page ++ CodeM.fx 2 off ++ CodeM.tx old) new w1 hO0.row (HS.out.below (hB0.trans hC.bel)).rn hN0 HS.out.ln (by rw [← hN0]; (try simp only [List.length_append, CodeM.fx_length, List.length_cons, List.length_nil]); omega)).mono ?_
          rintro e w2 ⟨A', n', c', rfl, hn', hO, hb⟩
          exact ⟨_, hC.call ⟨12, 36, lb ++ CodeM.fx 4 page ++ CodeM.fx 2 off ++ CodeM.tx old ++ CodeM.tx new, none⟩ (by simp [fbM]) ⟨A', n', c'⟩ hi hO hn'.out hb (by simp [fbM]) (by simp [fbP]) (by simp [rows, fbP, fbM, fbC, setR]) (by simp [rows, fbP, fbM, fbC, setR]) (by simp [fbC]) rfl (by rw [hsz0]; exact (by decide : 36 < 132)) (by simp [hd]) (by simp)⟩
        · intro L a w1 hI hi hd
          obtain ⟨R, hC⟩ := hI
          have hi : L 13 = false := hi
          have hp := hC.pif
          simp [Region.binds] at hd
          have e12 : a.tmps.getD 36 undef = (.slice (R 12).A (R 12).n (R 12).c) := hp.pu (12, 36, (R 12).v) (by simp [rows, fbP, fbM, fbC, setR]) (by simp [hd])
          have f12 : a.tmps[36]?.getD undef = (.slice (R 12).A (R 12).n (R 12).c) := by rw [← Array.getD_eq_getD_getElem?]; exact e12
          exact rstep_valW (wanted_none rfl _) (.slice (R 12).A (R 12).n (R 12).c) w1 (by go_simp) ⟨R, hC.copy 13 3 12 (by simp [hd]) (by simp [rows, fbP, fbM, fbC, setR]) (by simp [rows, fbP, fbM, fbC, setR]) (by simp [fbM]) (by simp [fbC]) rfl (by rw [hsz0]; exact (by decide : 3 < 132)) (by decide) (by simp [hd]) (fun _ => .inl (hC.dep (3, 0) (by simp) (hC.dep (6, 3) (by simp) (hC.dep (9, 6) (by simp) (hC.dep (12, 9) (by simp) (by simp [hd]))))))⟩
      rintro L a W ⟨R, hC⟩ hL
      have hp := hC.pif
      have e13 : a.tmps.getD 3 undef = .slice (R 12).A (R 12).n (R 12).c := hp.pu (13, 3, (R 12).v) (by simp [rows, fbP, fbM, fbC, setR]) (hL 13 (by simp))
      have hOW := hC.own ⟨12, 36, lb ++ CodeM.fx 4 page ++ CodeM.fx 2 off ++ CodeM.tx old ++ CodeM.tx new, none⟩ (by simp [fbM]) (hL 12 (by simp)) nofun
      have hNW := hC.len ⟨12, 36, lb ++ CodeM.fx 4 page ++ CodeM.fx 2 off ++ CodeM.tx old ++ CodeM.tx new, none⟩ (by simp [fbM]) (hL 12 (by simp))
      have hBW := hC.bel
      generalize R 12 = r at *
      obtain ⟨rA, rn, rc⟩ := r
      dsimp only at *
      rw [hp.eq]
      refine of_assigns (P := Try.prog) _ _ _ _ ?_
      rw [ha0.out]
      simp only [asgs, List.map, e13]
      generalize a.tmps.getD 24 undef = u24
      generalize a.tmps.getD 25 undef = u25
      generalize a.tmps.getD 26 undef = u26
      generalize a.tmps.getD 27 undef = u27
      generalize a.tmps.getD 28 undef = u28
      generalize a.tmps.getD 29 undef = u29
      generalize a.tmps.getD 30 undef = u30
      generalize a.tmps.getD 31 undef = u31
      generalize a.tmps.getD 32 undef = u32
      generalize a.tmps.getD 33 undef = u33
      generalize a.tmps.getD 34 undef = u34
      generalize a.tmps.getD 35 undef = u35
      generalize a.tmps.getD 36 undef = u36
      clear hp hL e13 ha0 z1 z3 hsz0 hC
      clear a0 a L R
      go_wp2
      go_meet
      case rel => exact ⟨rA, rn, rc, rfl, by rw [HBD.out]; exact hOW, by rw [HBD.out]; exact hNW, by rw [← hNW]; simp only [List.length_append, CodeM.fx_length, HN13.out, List.length_cons, List.length_nil]; omega, hB0.trans hBW⟩
    by_cases k2 : kind = 2
    · subst k2
      have hmk := HM.out.2
      unfold LogM.mayK at hmk
      dsimp only at hmk
      rw [if_neg (by decide), if_pos rfl] at hmk
      have huu := HS.out.lu
      dsimp only at huu
      have hu5 : un ≤ 64 := by
        cases clr with
        | true => rw [if_pos rfl] at hmk; rw [hmk] at huu; simp at huu; omega
        | false => rw [if_neg (by decide)] at hmk; omega
      have htxu := LogM.tx_length undo (by omega)
      clear hmk
      have HU := Lib.hid (And.intro hu5 htxu)
      clear hu5 htxu
      go_upto_region 6 with fail
      have hB0 := hBW
      have hbV : V0.heap.size ≤ W.heap.size := hBW.size
      have hOb : Own W V0.heap.size (⟨rA, 13, rc⟩ : Rs).A (⟨rA, 13, rc⟩ : Rs).c lb := hOW
      have hlb13 := HN13.out
      clear hOW hBW
      refine wp_named fun a0 ha0 => ?_
      have z1 : a0.tmps.getD 1 undef = (.pointer (some ⟨g, 0, none⟩)) := by rw [ha0.out]; rfl
      have z3 : a0.tmps.getD 3 undef = (.slice rA 13 rc) := by rw [ha0.out]; rfl
      have hsz0 : a0.tmps.size = 132 := by rw [ha0.out]; rfl
      refine wp_region_invB _ (by kernel_rfl) (fun L a wv => ∃ R, Ch a0 [39, 40, 41, 42, 43, 44, 45, 46, 47, 48, 3] (fcP txn prev next lb rA rc g) (fcM txn prev next lb rA rc g) fcC V0.heap.size W V0.heap.size (⟨rA, 13, rc⟩ : Rs) (lb) 3 [(3, 0), (6, 3), (9, 6)] 0 3 R L a wv) (by kernel_rfl) ?_ ?_ ?_
      · exact ⟨fun _ => ⟨none, 0, 0⟩, Ch.start hbV ⟨rfl, rfl, rfl, Nat.le_refl _, fun _ _ => rfl⟩ hOb⟩
      rotate_left
      · refine ⟨?_, ?_, ?_, ?_, ?_, ?_, ?_, ?_, ?_, ?_, ?_, trivial⟩
        · intro L a w1 hI hi hd
          obtain ⟨R, hC⟩ := hI
          have hi : L 0 = false := hi
          have hp := hC.pif
          have t3 := (hC.st hi).trans z3
          have t3' := t3
          rw [Array.getD_eq_getD_getElem?] at t3'
          exact rstep_valW (wanted_none rfl _) (.slice rA 13 rc) w1 (by go_simp) ⟨R, hC.pure 0 39 (.slice rA 13 rc) (by simp [rows, fcP, fcM, fcC, setR]) (by simp [rows, fcP, fcM, fcC, setR]) (by simp [fcM]) (by simp [fcC]) rfl (by rw [hsz0]; exact (by decide : 39 < 132)) (by decide) (by simp [hd]) (by simp)⟩
        · intro L a w1 hI hi hd
          obtain ⟨R, hC⟩ := hI
          have hi : L 1 = false := hi
          have hp := hC.pif
          have t1 := hp.at_ 1 _ rfl z1
          have t1' := t1
          rw [Array.getD_eq_getD_getElem?] at t1'
          exact rstep_valW (wanted_none rfl _) (.pointer (some ⟨g, 3, none⟩)) w1 (by go_simp) ⟨R, hC.pure 1 40 (.pointer (some ⟨g, 3, none⟩)) (by simp [rows, fcP, fcM, fcC, setR]) (by simp [rows, fcP, fcM, fcC, setR]) (by simp [fcM]) (by simp [fcC]) rfl (by rw [hsz0]; exact (by decide : 40 < 132)) (by decide) (by simp [hd]) (by simp)⟩
        · intro L a w1 hI hi hd
          obtain ⟨R, hC⟩ := hI
          have hi : L 2 = false := hi
          have hp := hC.pif
          simp [Region.binds] at hd
          have e1 : a.tmps.getD 40 undef = (.pointer (some ⟨g, 3, none⟩)) := hp.pu (1, 40, (.pointer (some ⟨g, 3, none⟩))) (by simp [rows, fcP, fcM, fcC, setR]) (by simp [hd])
          have f1 : a.tmps[40]?.getD undef = (.pointer (some ⟨g, 3, none⟩)) := by rw [← Array.getD_eq_getD_getElem?]; exact e1
          obtain ⟨d0, d1, d2, d3, d4, d5, d6, d7, d8, d9, d10, d11, d12, d13, d14⟩ := (hx.below (hB0.trans hC.bel) hgl).c15
          exact rstep_valW (wanted_none rfl _) (.int .u64 (txn : Int)) w1 (by go_simp) ⟨R, hC.pure 2 41 (.int .u64 (txn : Int)) (by simp [rows, fcP, fcM, fcC, setR]) (by simp [rows, fcP, fcM, fcC, setR]) (by simp [fcM]) (by simp [fcC]) rfl (by rw [hsz0]; exact (by decide : 41 < 132)) (by decide) (by simp [hd]) (by simp)⟩
        · intro L a w1 hI hi hd
          obtain ⟨R, hC⟩ := hI
          have hi : L 3 = false := hi
          have hp := hC.pif
          simp [Region.binds] at hd
          have e0 : a.tmps.getD 39 undef = (.slice rA 13 rc) := hp.pu (0, 39, (.slice rA 13 rc)) (by simp [rows, fcP, fcM, fcC, setR]) (by simp [hd])
          have f0 : a.tmps[39]?.getD undef = (.slice rA 13 rc) := by rw [← Array.getD_eq_getD_getElem?]; exact e0
          have e2 : a.tmps.getD 41 undef = (.int .u64 (txn : Int)) := hp.pu (2, 41, (.int .u64 (txn : Int))) (by simp [rows, fcP, fcM, fcC, setR]) (by simp [hd])
          have f2 : a.tmps[41]?.getD undef = (.int .u64 (txn : Int)) := by rw [← Array.getD_eq_getD_getElem?]; exact e2
          have hO0 := hC.ex hi
          have hN0 : (lb).length = (⟨rA, 13, rc⟩ : Rs).n := HN13.out
          refine rstep_callW (wanted_none rfl _) 45 #[.slice (⟨rA, 13, rc⟩ : Rs).A (⟨rA, 13, rc⟩ : Rs).n (⟨rA, 13, rc⟩ : Rs).c, (.int .u64 (txn : Int))] (by go_simp) ?_
          refine (Put64_at (⟨rA, 13, rc⟩ : Rs).A (⟨rA, 13, rc⟩ : Rs).c (⟨rA, 13, rc⟩ : Rs).n txn (lb) w1 hO0.row hN0 (by rw [← hN0]; (try simp only [List.length_append, CodeM.fx_length, List.length_cons, List.length_nil]); omega) HF.out.txn).mono ?_
          rintro e w2 ⟨A', n', c', rfl, hn', hO, hb⟩
          exact ⟨_, hC.call ⟨3, 42, lb ++ CodeM.fx 8 txn, some 6⟩ (by simp [fcM]) ⟨A', n', c'⟩ hi hO hn'.out hb (by simp [fcM]) (by simp [fcP]) (by simp [rows, fcP, fcM, fcC, setR]) (by simp [rows, fcP, fcM, fcC, setR]) (by simp [fcC]) rfl (by rw [hsz0]; exact (by decide : 42 < 132)) (by simp [hd]) (by simp)⟩
        · intro L a w1 hI hi hd
          obtain ⟨R, hC⟩ := hI
          have hi : L 4 = false := hi
          have hp := hC.pif
          have t1 := hp.at_ 1 _ rfl z1
          have t1' := t1
          rw [Array.getD_eq_getD_getElem?] at t1'
          exact rstep_valW (wanted_none rfl _) (.pointer (some ⟨g, 9, none⟩)) w1 (by go_simp) ⟨R, hC.pure 4 43 (.pointer (some ⟨g, 9, none⟩)) (by simp [rows, fcP, fcM, fcC, setR]) (by simp [rows, fcP, fcM, fcC, setR]) (by simp [fcM]) (by simp [fcC]) rfl (by rw [hsz0]; exact (by decide : 43 < 132)) (by decide) (by simp [hd]) (by simp)⟩
        · intro L a w1 hI hi hd
          obtain ⟨R, hC⟩ := hI
          have hi : L 5 = false := hi
          have hp := hC.pif
          simp [Region.binds] at hd
          have e4 : a.tmps.getD 43 undef = (.pointer (some ⟨g, 9, none⟩)) := hp.pu (4, 43, (.pointer (some ⟨g, 9, none⟩))) (by simp [rows, fcP, fcM, fcC, setR]) (by simp [hd])
          have f4 : a.tmps[43]?.getD undef = (.pointer (some ⟨g, 9, none⟩)) := by rw [← Array.getD_eq_getD_getElem?]; exact e4
          obtain ⟨d0, d1, d2, d3, d4, d5, d6, d7, d8, d9, d10, d11, d12, d13, d14⟩ := (hx.below (hB0.trans hC.bel) hgl).c15
          exact rstep_valW (wanted_none rfl _) (.int .u64 (prev : Int)) w1 (by go_simp) ⟨R, hC.pure 5 44 (.int .u64 (prev : Int)) (by simp [rows, fcP, fcM, fcC, setR]) (by simp [rows, fcP, fcM, fcC, setR]) (by simp [fcM]) (by simp [fcC]) rfl (by rw [hsz0]; exact (by decide : 44 < 132)) (by decide) (by simp [hd]) (by simp)⟩
        · intro L a w1 hI hi hd
          obtain ⟨R, hC⟩ := hI
          have hi : L 6 = false := hi
          have hp := hC.pif
          simp [Region.binds] at hd
          have e3 : a.tmps.getD 42 undef = (.slice (R 3).A (R 3).n (R 3).c) := hp.pu (3, 42, (R 3).v) (by simp [rows, fcP, fcM, fcC, setR]) (by simp [hd])
          have f3 : a.tmps[42]?.getD undef = (.slice (R 3).A (R 3).n (R 3).c) := by rw [← Array.getD_eq_getD_getElem?]; exact e3
          have e5 : a.tmps.getD 44 undef = (.int .u64 (prev : Int)) := hp.pu (5, 44, (.int .u64 (prev : Int))) (by simp [rows, fcP, fcM, fcC, setR]) (by simp [hd])
          have f5 : a.tmps[44]?.getD undef = (.int .u64 (prev : Int)) := by rw [← Array.getD_eq_getD_getElem?]; exact e5
          have hO0 := hC.own ⟨3, 42, lb ++ CodeM.fx 8 txn, some 6⟩ (by simp [fcM]) (by simp [hd]) (by intro k hk; injection hk with hk; rw [← hk]; exact hi)
          have hN0 := hC.len ⟨3, 42, lb ++ CodeM.fx 8 txn, some 6⟩ (by simp [fcM]) (by simp [hd])
          refine rstep_callW (wanted_none rfl _) 45 #[.slice (R 3).A (R 3).n (R 3).c, (.int .u64 (prev : Int))] (by go_simp) ?_
          refine (Put64_at (R 3).A (R 3).c (R 3).n prev (lb ++ CodeM.fx 8 txn) w1 hO0.row hN0 (by rw [← hN0]; (try simp only [List.length_append, CodeM.fx_length, List.length_cons, List.length_nil]); omega) HF.out.prev).mono ?_
          rintro e w2 ⟨A', n', c', rfl, hn', hO, hb⟩
          exact ⟨_, hC.call ⟨6, 45, lb ++ CodeM.fx 8 txn ++ CodeM.fx 8 prev, some 9⟩ (by simp [fcM]) ⟨A', n', c'⟩ hi hO hn'.out hb (by simp [fcM]) (by simp [fcP]) (by simp [rows, fcP, fcM, fcC, setR]) (by simp [rows, fcP, fcM, fcC, setR]) (by simp [fcC]) rfl (by rw [hsz0]; exact (by decide : 45 < 132)) (by simp [hd]) (by simp)⟩
        · intro L a w1 hI hi hd
          obtain ⟨R, hC⟩ := hI
          have hi : L 7 = false := hi
          have hp := hC.pif
          have t1 := hp.at_ 1 _ rfl z1
          have t1' := t1
          rw [Array.getD_eq_getD_getElem?] at t1'
          exact rstep_valW (wanted_none rfl _) (.pointer (some ⟨g, 10, none⟩)) w1 (by go_simp) ⟨R, hC.pure 7 46 (.pointer (some ⟨g, 10, none⟩)) (by simp [rows, fcP, fcM, fcC, setR]) (by simp [rows, fcP, fcM, fcC, setR]) (by simp [fcM]) (by simp [fcC]) rfl (by rw [hsz0]; exact (by decide : 46 < 132)) (by decide) (by simp [hd]) (by simp)⟩
        · intro L a w1 hI hi hd
          obtain ⟨R, hC⟩ := hI
          have hi : L 8 = false := hi
          have hp := hC.pif
          simp [Region.binds] at hd
          have e7 : a.tmps.getD 46 undef = (.pointer (some ⟨g, 10, none⟩)) := hp.pu (7, 46, (.pointer (some ⟨g, 10, none⟩))) (by simp [rows, fcP, fcM, fcC, setR]) (by simp [hd])
          have f7 : a.tmps[46]?.getD undef = (.pointer (some ⟨g, 10, none⟩)) := by rw [← Array.getD_eq_getD_getElem?]; exact e7
          obtain ⟨d0, d1, d2, d3, d4, d5, d6, d7, d8, d9, d10, d11, d12, d13, d14⟩ := (hx.below (hB0.trans hC.bel) hgl).c15
          exact rstep_valW (wanted_none rfl _) (.int .u64 (next : Int)) w1 (by go_simp) ⟨R, hC.pure 8 47 (.int .u64 (next : Int)) (by simp [rows, fcP, fcM, fcC, setR]) (by simp [rows, fcP, fcM, fcC, setR]) (by simp [fcM]) (by simp [fcC]) rfl (by rw [hsz0]; exact (by decide : 47 < 132)) (by decide) (by simp [hd]) (by simp)⟩
        · intro L a w1 hI hi hd
          obtain ⟨R, hC⟩ := hI
          have hi : L 9 = false := hi
          have hp := hC.pif
          simp [Region.binds] at hd
          have e6 : a.tmps.getD 45 undef = (.slice (R 6).A (R 6).n (R 6).c) := hp.pu (6, 45, (R 6).v) (by simp [rows, fcP, fcM, fcC, setR]) (by simp [hd])
          have f6 : a.tmps[45]?.getD undef = (.slice (R 6).A (R 6).n (R 6).c) := by rw [← Array.getD_eq_getD_getElem?]; exact e6
          have e8 : a.tmps.getD 47 undef = (.int .u64 (next : Int)) := hp.pu (8, 47, (.int .u64 (next : Int))) (by simp [rows, fcP, fcM, fcC, setR]) (by simp [hd])
          have f8 : a.tmps[47]?.getD undef = (.int .u64 (next : Int)) := by rw [← Array.getD_eq_getD_getElem?]; exact e8
          have hO0 := hC.own ⟨6, 45, lb ++ CodeM.fx 8 txn ++ CodeM.fx 8 prev, some 9⟩ (by simp [fcM]) (by simp [hd]) (by intro k hk; injection hk with hk; rw [← hk]; exact hi)
          have hN0 := hC.len ⟨6, 45, lb ++ CodeM.fx 8 txn ++ CodeM.fx 8 prev, some 9⟩ (by simp [fcM]) (by simp [hd])
          refine rstep_callW (wanted_none rfl _) 45 #[.slice (R 6).A (R 6).n (R 6).c, (.int .u64 (next : Int))] (by go_simp) ?_
          refine (Put64_at (R 6).A (R 6).c (R 6).n next (lb ++ CodeM.fx 8 txn ++ CodeM.fx 8 prev) w1 hO0.row hN0 (by rw [← hN0]; (try simp only [List.length_append, CodeM.fx_length, List.length_cons, List.length_nil]); omega) HF.out.next).mono ?_
          rintro e w2 ⟨A', n', c', rfl, hn', hO, hb⟩
          exact ⟨_, hC.call ⟨9, 48, lb ++ CodeM.fx 8 txn ++ CodeM.fx 8 prev ++ CodeM.fx 8 next, none⟩ (by simp [fcM]) ⟨A', n', c'⟩ hi hO hn'.out hb (by simp [fcM]) (by simp [fcP]) (by simp [rows, fcP, fcM, fcC, setR]) (by simp [rows, fcP, fcM, fcC, setR]) (by simp [fcC]) rfl (by rw [hsz0]; exact (by decide : 48 < 132)) (by simp [hd]) (by simp)⟩
        · intro L a w1 hI hi hd
          obtain ⟨R, hC⟩ := hI
          have hi : L 10 = false := hi
          have hp := hC.pif
          simp [Region.binds] at hd
          have e9 : a.tmps.getD 48 undef = (.slice (R 9).A (R 9).n (R 9).c) := hp.pu (9, 48, (R 9).v) (by simp [rows, fcP, fcM, fcC, setR]) (by simp [hd])
          have f9 : a.tmps[48]?.getD undef = (.slice (R 9).A (R 9).n (R 9).c) := by rw [← Array.getD_eq_getD_getElem?]; exact e9
          exact rstep_valW (wanted_none rfl _) (.slice (R 9).A (R 9).n (R 9).c) w1 (by go_simp) ⟨R, hC.copy 10 3 9 (by simp [hd]) (by simp [rows, fcP, fcM, fcC, setR]) (by simp [rows, fcP, fcM, fcC, setR]) (by simp [fcM]) (by simp [fcC]) rfl (by rw [hsz0]; exact (by decide : 3 < 132)) (by decide) (by simp [hd]) (fun _ => .inl (hC.dep (3, 0) (by simp) (hC.dep (6, 3) (by simp) (hC.dep (9, 6) (by simp) (by simp [hd])))))⟩
      rintro L a W ⟨R, hC⟩ hL
      have hp := hC.pif
      have e10 : a.tmps.getD 3 undef = .slice (R 9).A (R 9).n (R 9).c := hp.pu (10, 3, (R 9).v) (by simp [rows, fcP, fcM, fcC, setR]) (hL 10 (by simp))
      have hOW := hC.own ⟨9, 48, lb ++ CodeM.fx 8 txn ++ CodeM.fx 8 prev ++ CodeM.fx 8 next, none⟩ (by simp [fcM]) (hL 9 (by simp)) nofun
      have hNW := hC.len ⟨9, 48, lb ++ CodeM.fx 8 txn ++ CodeM.fx 8 prev ++ CodeM.fx 8 next, none⟩ (by simp [fcM]) (hL 9 (by simp))
      have hBW := hC.bel
      generalize R 9 = r at *
      obtain ⟨rA, rn, rc⟩ := r
      dsimp only at *
      rw [hp.eq]
      refine of_assigns (P := Try.prog) _ _ _ _ ?_
      rw [ha0.out]
      simp only [asgs, List.map, e10]
      generalize a.tmps.getD 39 undef = u39
      generalize a.tmps.getD 40 undef = u40
      generalize a.tmps.getD 41 undef = u41
      generalize a.tmps.getD 42 undef = u42
      generalize a.tmps.getD 43 undef = u43
      generalize a.tmps.getD 44 undef = u44
      generalize a.tmps.getD 45 undef = u45
      generalize a.tmps.getD 46 undef = u46
      generalize a.tmps.getD 47 undef = u47
      generalize a.tmps.getD 48 undef = u48
      clear hp hL e10 ha0 z1 z3 hsz0 hC
      clear a0 a L R
      obtain rfl : 37 = rn := by rw [← hNW]; simp only [List.length_append, CodeM.fx_length, hlb13]
      obtain ⟨lc, hlc⟩ : ∃ lc, lb ++ CodeM.fx 8 txn ++ CodeM.fx 8 prev ++ CodeM.fx 8 next = lc := ⟨_, rfl⟩
      have HLC := Lib.hid hlc
      rw [hlc] at hOW hNW
      have HN37 := Lib.hid hNW
      have hBW := hB0.trans hBW
      clear hlc hNW hB0
      obtain ⟨d0, d1, d2, d3, d4, d5, d6, d7, d8, d9, d10, d11, d12, d13, d14⟩ := (hx.below hBW hgl).c15
      have HCL : Hid (LogM.clrB clr < 2) := Lib.hid (by unfold LogM.clrB; split <;> omega)
      cases clr with
      | true =>
        have HBD : Hid (LogM.body ⟨2, lsn, epoch, txn, page, off, old, new, undo, prev, next, true, stamp, opn, dirty⟩ = lc ++ [CodeM.byte 1] ++ CodeM.tx undo) := Lib.hid (by unfold LogM.body LogM.tail; rw [HLB.out, ← HLC.out]; simp [List.append_assoc, LogM.clrB])
        go_upto_region 10 with fail
        clear d0 d1 d2 d3 d4 d5 d6 d7 d8 d9 d10 d11 d12 d13 d14
        have hB0 := hBW
        have hbV : V0.heap.size ≤ W.heap.size := hBW.size
        have hOb : Own W V0.heap.size (⟨rA, 37, rc⟩ : Rs).A (⟨rA, 37, rc⟩ : Rs).c lc := hOW
        have hlb37 := HN37.out
        clear hOW hBW
        obtain ⟨hu5, htxu⟩ := HU.out
        have HQ : Hid (1 < 2) := Lib.hid (by decide)
        refine wp_named fun a0 ha0 => ?_
        have z1 : a0.tmps.getD 1 undef = (.pointer (some ⟨g, 0, none⟩)) := by rw [ha0.out]; rfl
        have z3 : a0.tmps.getD 3 undef = (.slice rA 37 rc) := by rw [ha0.out]; rfl
        have z4 : a0.tmps.getD 4 undef = (.int .u8 1) := by rw [ha0.out]; rfl
        have hsz0 : a0.tmps.size = 132 := by rw [ha0.out]; rfl
        refine wp_region_invB _ (by kernel_rfl) (fun L a wv => ∃ R, Ch a0 [51, 52, 53, 54, 55, 56, 57, 3] (fdP 1 undo lc rA rc uA un uc g) (fdM 1 undo lc rA rc uA un uc g) fdC V0.heap.size W V0.heap.size (⟨rA, 37, rc⟩ : Rs) (lc) 3 [(3, 0), (6, 3)] 0 3 R L a wv) (by kernel_rfl) ?_ ?_ ?_
        · exact ⟨fun _ => ⟨none, 0, 0⟩, Ch.start hbV ⟨rfl, rfl, rfl, Nat.le_refl _, fun _ _ => rfl⟩ hOb⟩
        rotate_left
        · refine ⟨?_, ?_, ?_, ?_, ?_, ?_, ?_, ?_, trivial⟩
          · intro L a w1 hI hi hd
            obtain ⟨R, hC⟩ := hI
            have hi : L 0 = false := hi
            have hp := hC.pif
            have t3 := (hC.st hi).trans z3
            have t3' := t3
            rw [Array.getD_eq_getD_getElem?] at t3'
            exact rstep_valW (wanted_none rfl _) (.slice rA 37 rc) w1 (by go_simp) ⟨R, hC.pure 0 51 (.slice rA 37 rc) (by simp [rows, fdP, fdM, fdC, setR]) (by simp [rows, fdP, fdM, fdC, setR]) (by simp [fdM]) (by simp [fdC]) rfl (by rw [hsz0]; exact (by decide : 51 < 132)) (by decide) (by simp [hd]) (by simp)⟩
          · intro L a w1 hI hi hd
            obtain ⟨R, hC⟩ := hI
            have hi : L 1 = false := hi
            have hp := hC.pif
            have t4 := hp.at_ 4 _ rfl z4
            have t4' := t4
            rw [Array.getD_eq_getD_getElem?] at t4'
            exact rstep_valW (wanted_none rfl _) (.int .u8 1) w1 (by go_simp) ⟨R, hC.pure 1 52 (.int .u8 1) (by simp [rows, fdP, fdM, fdC, setR]) (by simp [rows, fdP, fdM, fdC, setR]) (by simp [fdM]) (by simp [fdC]) rfl (by rw [hsz0]; exact (by decide : 52 < 132)) (by decide) (by simp [hd]) (by simp)⟩
          · intro L a w1 hI hi hd
            obtain ⟨R, hC⟩ := hI
            have hi : L 2 = false := hi
            have hp := hC.pif
            simp [Region.binds] at hd
            have e1 : a.tmps.getD 52 undef = (.int .u8 1) := hp.pu (1, 52, (.int .u8 1)) (by simp [rows, fdP, fdM, fdC, setR]) (by simp [hd])
            have f1 : a.tmps[52]?.getD undef = (.int .u8 1) := by rw [← Array.getD_eq_getD_getElem?]; exact e1
            have hO := row_own1 w1 1 (CodeM.byte 1) (by decide)
            exact rstep_valW (wanted_none rfl _) (.slice (some ⟨w1.heap.size, 0, none⟩) 1 1) (w1.alloc (.cells #[.int .u8 1] 5)) (by go_simp) ⟨_, hC.call ⟨2, 53, [CodeM.byte 1], some 3⟩ (by simp [fdM]) ⟨some ⟨w1.heap.size, 0, none⟩, 1, 1⟩ hi hO rfl ((Below.refl _ _).alloc (Nat.le_refl _) _) (by simp [fdM]) (by simp [fdP]) (by simp [rows, fdP, fdM, fdC, setR]) (by simp [rows, fdP, fdM, fdC, setR]) (by simp [fdC]) rfl (by rw [hsz0]; exact (by decide : 53 < 132)) (by simp [hd]) (by simp)⟩
          · intro L a w1 hI hi hd
            obtain ⟨R, hC⟩ := hI
            have hi : L 3 = false := hi
            have hp := hC.pif
            simp [Region.binds] at hd
            have e0 : a.tmps.getD 51 undef = (.slice rA 37 rc) := hp.pu (0, 51, (.slice rA 37 rc)) (by simp [rows, fdP, fdM, fdC, setR]) (by simp [hd])
            have f0 : a.tmps[51]?.getD undef = (.slice rA 37 rc) := by rw [← Array.getD_eq_getD_getElem?]; exact e0
            have e2 : a.tmps.getD 53 undef = (.slice (R 2).A (R 2).n (R 2).c) := hp.pu (2, 53, (R 2).v) (by simp [rows, fdP, fdM, fdC, setR]) (by simp [hd])
            have f2 : a.tmps[53]?.getD undef = (.slice (R 2).A (R 2).n (R 2).c) := by rw [← Array.getD_eq_getD_getElem?]; exact e2
            have hO0 := hC.ex hi
            have hN0 : (lc).length = (⟨rA, 37, rc⟩ : Rs).n := HN37.out
            have hO1 := hC.own ⟨2, 53, [CodeM.byte 1], some 3⟩ (by simp [fdM]) (by simp [hd]) (by intro k hk; injection hk with hk; rw [← hk]; exact hi)
            have hN1 := hC.len ⟨2, 53, [CodeM.byte 1], some 3⟩ (by simp [fdM]) (by simp [hd])
            have n6 : L 6 = false := by cases h : L 6 with | false => rfl | true => have := hC.dep (6, 3) (by simp) h; rw [hi] at this; cases this
            obtain ⟨i0, hi0, hz0, hz1, hz2⟩ := info_parts info_u8
            dsimp only at hO0 hN0 hO1 hN1
            refine rstep_wp rfl (wp_append_row w1 (.tmp 51) (.tmp 53) _ rfl V0.heap.size 5 i0 _ 1 1 Try.underlying22 hi0 hz0 hz1 hz2 rfl (by omega) (.slice (⟨rA, 37, rc⟩ : Rs).A (⟨rA, 37, rc⟩ : Rs).n (⟨rA, 37, rc⟩ : Rs).c) (⟨rA, 37, rc⟩ : Rs).n (bs (lc)) e0 (by unfold Own at hO0; rw [hN0] at hO0; exact hO0) (R 2).A (R 2).n (R 2).c (bs ([CodeM.byte 1])) e2 (by rw [bs_length, hN1]; omega) hO1.row (bs_one _) (by unfold maxLen; rw [← hN0, ← hN1]; try simp only [List.length_cons, List.length_nil]; omega) (by rw [← hN0, ← hN1]; try simp only [List.length_cons, List.length_nil]; omega) hC.size fun A' c' w2 h1 h2 h3 => ?_)
            rw [← bs_append] at h1
            have hln : ((lc) ++ ([CodeM.byte 1])).length = (⟨rA, 37, rc⟩ : Rs).n + (R 2).n := by rw [List.length_append, hN0, hN1]
            exact ⟨_, hC.app ⟨3, 54, lc ++ [CodeM.byte 1], some 6⟩ (by simp [fdM]) ⟨A', (⟨rA, 37, rc⟩ : Rs).n + (R 2).n, c'⟩ hi hO0 hN0 (by unfold Own; rw [hln]; exact h1) (by rw [hln]) h2 (by simp [fdM, n6]; try simp_all) (by simp [hd]) (by simp [fdM]) (by simp [fdP]) (by simp [rows, fdP, fdM, fdC, setR]) (by simp [rows, fdP, fdM, fdC, setR]) (by simp [fdC]) rfl (by rw [hsz0]; exact (by decide : 54 < 132)) (by simp [hd]) (by simp)⟩
          · intro L a w1 hI hi hd
            obtain ⟨R, hC⟩ := hI
            have hi : L 4 = false := hi
            have hp := hC.pif
            have t1 := hp.at_ 1 _ rfl z1
            have t1' := t1
            rw [Array.getD_eq_getD_getElem?] at t1'
            exact rstep_valW (wanted_none rfl _) (.pointer (some ⟨g, 8, none⟩)) w1 (by go_simp) ⟨R, hC.pure 4 55 (.pointer (some ⟨g, 8, none⟩)) (by simp [rows, fdP, fdM, fdC, setR]) (by simp [rows, fdP, fdM, fdC, setR]) (by simp [fdM]) (by simp [fdC]) rfl (by rw [hsz0]; exact (by decide : 55 < 132)) (by decide) (by simp [hd]) (by simp)⟩
          · intro L a w1 hI hi hd
            obtain ⟨R, hC⟩ := hI
            have hi : L 5 = false := hi
            have hp := hC.pif
            simp [Region.binds] at hd
            have e4 : a.tmps.getD 55 undef = (.pointer (some ⟨g, 8, none⟩)) := hp.pu (4, 55, (.pointer (some ⟨g, 8, none⟩))) (by simp [rows, fdP, fdM, fdC, setR]) (by simp [hd])
            have f4 : a.tmps[55]?.getD undef = (.pointer (some ⟨g, 8, none⟩)) := by rw [← Array.getD_eq_getD_getElem?]; exact e4
            obtain ⟨d0, d1, d2, d3, d4, d5, d6, d7, d8, d9, d10, d11, d12, d13, d14⟩ := (hx.below (hB0.trans hC.bel) hgl).c15
            exact rstep_valW (wanted_none rfl _) (.slice uA un uc) w1 (by go_simp) ⟨R, hC.pure 5 56 (.slice uA un uc) (by simp [rows, fdP, fdM, fdC, setR]) (by simp [rows, fdP, fdM, fdC, setR]) (by simp [fdM]) (by simp [fdC]) rfl (by rw [hsz0]; exact (by decide : 56 < 132)) (by decide) (by simp [hd]) (by simp)⟩
          · intro L a w1 hI hi hd
            obtain ⟨R, hC⟩ := hI
            have hi : L 6 = false := hi
            have hp := hC.pif
            simp [Region.binds] at hd
            have e3 : a.tmps.getD 54 undef = (.slice (R 3).A (R 3).n (R 3).c) := hp.pu (3, 54, (R 3).v) (by simp [rows, fdP, fdM, fdC, setR]) (by simp [hd])
            have f3 : a.tmps[54]?.getD undef = (.slice (R 3).A (R 3).n (R 3).c) := by rw [← Array.getD_eq_getD_getElem?]; exact e3
            have e5 : a.tmps.getD 56 undef = (.slice uA un uc) := hp.pu (5, 56, (.slice uA un uc)) (by simp [rows, fdP, fdM, fdC, setR]) (by simp [hd])
            have f5 : a.tmps[56]?.getD undef = (.slice uA un uc) := by rw [← Array.getD_eq_getD_getElem?]; exact e5
            have hO0 := hC.own ⟨3, 54, lc ++ [CodeM.byte 1], some 6⟩ (by simp [fdM]) (by simp [hd]) (by intro k hk; injection hk with hk; rw [← hk]; exact hi)
            have hN0 := hC.len ⟨3, 54, lc ++ [CodeM.byte 1], some 6⟩ (by simp [fdM]) (by simp [hd])
            refine rstep_callW (wanted_none rfl _) 46 #[.slice (R 3).A (R 3).n (R 3).c, .slice uA un uc] (by go_simp) ?_
            refine (PutText_at (R 3).A uA (R 3).n un (R 3).c uc (lc ++ [CodeM.byte 1]) undo w1 hO0.row (HS.out.below (hB0.trans hC.bel)).ru hN0 HS.out.lu (by rw [← hN0]; (try simp only [List.length_append, CodeM.fx_length, List.length_cons, List.length_nil]); omega)).mono ?_
            rintro e w2 ⟨A', n', c', rfl, hn', hO, hb⟩
            exact ⟨_, hC.call ⟨6, 57, lc ++ [CodeM.byte 1] ++ CodeM.tx undo, none⟩ (by simp [fdM]) ⟨A', n', c'⟩ hi hO hn'.out hb (by simp [fdM]) (by simp [fdP]) (by simp [rows, fdP, fdM, fdC, setR]) (by simp [rows, fdP, fdM, fdC, setR]) (by simp [fdC]) rfl (by rw [hsz0]; exact (by decide : 57 < 132)) (by simp [hd]) (by simp)⟩
          · intro L a w1 hI hi hd
            obtain ⟨R, hC⟩ := hI
            have hi : L 7 = false := hi
            have hp := hC.pif
            simp [Region.binds] at hd
            have e6 : a.tmps.getD 57 undef = (.slice (R 6).A (R 6).n (R 6).c) := hp.pu (6, 57, (R 6).v) (by simp [rows, fdP, fdM, fdC, setR]) (by simp [hd])
            have f6 : a.tmps[57]?.getD undef = (.slice (R 6).A (R 6).n (R 6).c) := by rw [← Array.getD_eq_getD_getElem?]; exact e6
            exact rstep_valW (wanted_none rfl _) (.slice (R 6).A (R 6).n (R 6).c) w1 (by go_simp) ⟨R, hC.copy 7 3 6 (by simp [hd]) (by simp [rows, fdP, fdM, fdC, setR]) (by simp [rows, fdP, fdM, fdC, setR]) (by simp [fdM]) (by simp [fdC]) rfl (by rw [hsz0]; exact (by decide : 3 < 132)) (by decide) (by simp [hd]) (fun _ => .inl (hC.dep (3, 0) (by simp) (hC.dep (6, 3) (by simp) (by simp [hd]))))⟩
        rintro L a W ⟨R, hC⟩ hL
        have hp := hC.pif
        have e7 : a.tmps.getD 3 undef = .slice (R 6).A (R 6).n (R 6).c := hp.pu (7, 3, (R 6).v) (by simp [rows, fdP, fdM, fdC, setR]) (hL 7 (by simp))
        have hOW := hC.own ⟨6, 57, lc ++ [CodeM.byte 1] ++ CodeM.tx undo, none⟩ (by simp [fdM]) (hL 6 (by simp)) nofun
        have hNW := hC.len ⟨6, 57, lc ++ [CodeM.byte 1] ++ CodeM.tx undo, none⟩ (by simp [fdM]) (hL 6 (by simp))
        have hBW := hC.bel
        generalize R 6 = r at *
        obtain ⟨rA, rn, rc⟩ := r
        dsimp only at *
        rw [hp.eq]
        refine of_assigns (P := Try.prog) _ _ _ _ ?_
        rw [ha0.out]
        simp only [asgs, List.map, e7]
        generalize a.tmps.getD 51 undef = u51
        generalize a.tmps.getD 52 undef = u52
        generalize a.tmps.getD 53 undef = u53
        generalize a.tmps.getD 54 undef = u54
        generalize a.tmps.getD 55 undef = u55
        generalize a.tmps.getD 56 undef = u56
        generalize a.tmps.getD 57 undef = u57
        clear hp hL e7 ha0 z1 z3 z4 hsz0 hC
        clear a0 a L R
        go_wp2
        go_meet
        case rel => exact ⟨rA, rn, rc, rfl, by rw [HBD.out]; exact hOW, by rw [HBD.out]; exact hNW, by rw [← hNW]; simp only [List.length_append, CodeM.fx_length, HN37.out, List.length_cons, List.length_nil]; omega, hB0.trans hBW⟩
      | false =>
        have HBD : Hid (LogM.body ⟨2, lsn, epoch, txn, page, off, old, new, undo, prev, next, false, stamp, opn, dirty⟩ = lc ++ [CodeM.byte 0] ++ CodeM.tx undo) := Lib.hid (by unfold LogM.body LogM.tail; rw [HLB.out, ← HLC.out]; simp [List.append_assoc, LogM.clrB])
        go_upto_region 10 with fail
        clear d0 d1 d2 d3 d4 d5 d6 d7 d8 d9 d10 d11 d12 d13 d14
        have hB0 := hBW
        have hbV : V0.heap.size ≤ W.heap.size := hBW.size
        have hOb : Own W V0.heap.size (⟨rA, 37, rc⟩ : Rs).A (⟨rA, 37, rc⟩ : Rs).c lc := hOW
        have hlb37 := HN37.out
        clear hOW hBW
        obtain ⟨hu5, htxu⟩ := HU.out
        have HQ : Hid (0 < 2) := Lib.hid (by decide)
        refine wp_named fun a0 ha0 => ?_
        have z1 : a0.tmps.getD 1 undef = (.pointer (some ⟨g, 0, none⟩)) := by rw [ha0.out]; rfl
        have z3 : a0.tmps.getD 3 undef = (.slice rA 37 rc) := by rw [ha0.out]; rfl
        have z4 : a0.tmps.getD 4 undef = (.int .u8 0) := by rw [ha0.out]; rfl
        have hsz0 : a0.tmps.size = 132 := by rw [ha0.out]; rfl
        refine wp_region_invB _ (by kernel_rfl) (fun L a wv => ∃ R, Ch a0 [51, 52, 53, 54, 55, 56, 57, 3] (fdP 0 undo lc rA rc uA un uc g) (fdM 0 undo lc rA rc uA un uc g) fdC V0.heap.size W V0.heap.size (⟨rA, 37, rc⟩ : Rs) (lc) 3 [(3, 0), (6, 3)] 0 3 R L a wv) (by kernel_rfl) ?_ ?_ ?_
        · exact ⟨fun _ => ⟨none, 0, 0⟩, Ch.start hbV ⟨rfl, rfl, rfl, Nat.le_refl _, fun _ _ => rfl⟩ hOb⟩
        rotate_left
        · refine ⟨?_, ?_, ?_, ?_, ?_, ?_, ?_, ?_, trivial⟩
          · intro L a w1 hI hi hd
            obtain ⟨R, hC⟩ := hI
            have hi : L 0 = false := hi
            have hp := hC.pif
            have t3 := (hC.st hi).trans z3
            have t3' := t3
            rw [Array.getD_eq_getD_getElem?] at t3'
            exact rstep_valW (wanted_none rfl _) (.slice rA 37 rc) w1 (by go_simp) ⟨R, hC.pure 0 51 (.slice rA 37 rc) (by simp [rows, fdP, fdM, fdC, setR]) (by simp [rows, fdP, fdM, fdC, setR]) (by simp [fdM]) (by simp [fdC]) rfl (by rw [hsz0]; exact (by decide : 51 < 132)) (by decide) (by simp [hd]) (by simp)⟩
          · intro L a w1 hI hi hd
            obtain ⟨R, hC⟩ := hI
            have hi : L 1 = false := hi
            have hp := hC.pif
            have t4 := hp.at_ 4 _ rfl z4
            have t4' := t4
            rw [Array.getD_eq_getD_getElem?] at t4'
            exact rstep_valW (wanted_none rfl _) (.int .u8 0) w1 (by go_simp) ⟨R, hC.pure 1 52 (.int .u8 0) (by simp [rows, fdP, fdM, fdC, setR]) (by simp [rows, fdP, fdM, fdC, setR]) (by simp [fdM]) (by simp [fdC]) rfl (by rw [hsz0]; exact (by decide : 52 < 132)) (by decide) (by simp [hd]) (by simp)⟩
          · intro L a w1 hI hi hd
            obtain ⟨R, hC⟩ := hI
            have hi : L 2 = false := hi
            have hp := hC.pif
            simp [Region.binds] at hd
            have e1 : a.tmps.getD 52 undef = (.int .u8 0) := hp.pu (1, 52, (.int .u8 0)) (by simp [rows, fdP, fdM, fdC, setR]) (by simp [hd])
            have f1 : a.tmps[52]?.getD undef = (.int .u8 0) := by rw [← Array.getD_eq_getD_getElem?]; exact e1
            have hO := row_own1 w1 0 (CodeM.byte 0) (by decide)
            exact rstep_valW (wanted_none rfl _) (.slice (some ⟨w1.heap.size, 0, none⟩) 1 1) (w1.alloc (.cells #[.int .u8 0] 5)) (by go_simp) ⟨_, hC.call ⟨2, 53, [CodeM.byte 0], some 3⟩ (by simp [fdM]) ⟨some ⟨w1.heap.size, 0, none⟩, 1, 1⟩ hi hO rfl ((Below.refl _ _).alloc (Nat.le_refl _) _) (by simp [fdM]) (by simp [fdP]) (by simp [rows, fdP, fdM, fdC, setR]) (by simp [rows, fdP, fdM, fdC, setR]) (by simp [fdC]) rfl (by rw [hsz0]; exact (by decide : 53 < 132)) (by simp [hd]) (by simp)⟩
          · intro L a w1 hI hi hd
            obtain ⟨R, hC⟩ := hI
            have hi : L 3 = false := hi
            have hp := hC.pif
            simp [Region.binds] at hd
            have e0 : a.tmps.getD 51 undef = (.slice rA 37 rc) := hp.pu (0, 51, (.slice rA 37 rc)) (by simp [rows, fdP, fdM, fdC, setR]) (by simp [hd])
            have f0 : a.tmps[51]?.getD undef = (.slice rA 37 rc) := by rw [← Array.getD_eq_getD_getElem?]; exact e0
            have e2 : a.tmps.getD 53 undef = (.slice (R 2).A (R 2).n (R 2).c) := hp.pu (2, 53, (R 2).v) (by simp [rows, fdP, fdM, fdC, setR]) (by simp [hd])
            have f2 : a.tmps[53]?.getD undef = (.slice (R 2).A (R 2).n (R 2).c) := by rw [← Array.getD_eq_getD_getElem?]; exact e2
            have hO0 := hC.ex hi
            have hN0 : (lc).length = (⟨rA, 37, rc⟩ : Rs).n := HN37.out
            have hO1 := hC.own ⟨2, 53, [CodeM.byte 0], some 3⟩ (by simp [fdM]) (by simp [hd]) (by intro k hk; injection hk with hk; rw [← hk]; exact hi)
            have hN1 := hC.len ⟨2, 53, [CodeM.byte 0], some 3⟩ (by simp [fdM]) (by simp [hd])
            have n6 : L 6 = false := by cases h : L 6 with | false => rfl | true => have := hC.dep (6, 3) (by simp) h; rw [hi] at this; cases this
            obtain ⟨i0, hi0, hz0, hz1, hz2⟩ := info_parts info_u8
            dsimp only at hO0 hN0 hO1 hN1
            refine rstep_wp rfl (wp_append_row w1 (.tmp 51) (.tmp 53) _ rfl V0.heap.size 5 i0 _ 1 1 Try.underlying22 hi0 hz0 hz1 hz2 rfl (by omega) (.slice (⟨rA, 37, rc⟩ : Rs).A (⟨rA, 37, rc⟩ : Rs).n (⟨rA, 37, rc⟩ : Rs).c) (⟨rA, 37, rc⟩ : Rs).n (bs (lc)) e0 (by unfold Own at hO0; rw [hN0] at hO0; exact hO0) (R 2).A (R 2).n (R 2).c (bs ([CodeM.byte 0])) e2 (by rw [bs_length, hN1]; omega) hO1.row (bs_one _) (by unfold maxLen; rw [← hN0, ← hN1]; try simp only [List.length_cons, List.length_nil]; omega) (by rw [← hN0, ← hN1]; try simp only [List.length_cons, List.length_nil]; omega) hC.size fun A' c' w2 h1 h2 h3 => ?_)
            rw [← bs_append] at h1
            have hln : ((lc) ++ ([CodeM.byte 0])).length = (⟨rA, 37, rc⟩ : Rs).n + (R 2).n := by rw [List.length_append, hN0, hN1]
            exact ⟨_, hC.app ⟨3, 54, lc ++ [CodeM.byte 0], some 6⟩ (by simp [fdM]) ⟨A', (⟨rA, 37, rc⟩ : Rs).n + (R 2).n, c'⟩ hi hO0 hN0 (by unfold Own; rw [hln]; exact h1) (by rw [hln]) h2 (by simp [fdM, n6]; try simp_all) (by simp [hd]) (by simp [fdM]) (by simp [fdP]) (by simp [rows, fdP, fdM, fdC, setR]) (by simp [rows, fdP, fdM, fdC, setR]) (by simp [fdC]) rfl (by rw [hsz0]; exact (by decide : 54 < 132)) (by simp [hd]) (by simp)⟩
          · intro L a w1 hI hi hd
            obtain ⟨R, hC⟩ := hI
            have hi : L 4 = false := hi
            have hp := hC.pif
            have t1 := hp.at_ 1 _ rfl z1
            have t1' := t1
            rw [Array.getD_eq_getD_getElem?] at t1'
            exact rstep_valW (wanted_none rfl _) (.pointer (some ⟨g, 8, none⟩)) w1 (by go_simp) ⟨R, hC.pure 4 55 (.pointer (some ⟨g, 8, none⟩)) (by simp [rows, fdP, fdM, fdC, setR]) (by simp [rows, fdP, fdM, fdC, setR]) (by simp [fdM]) (by simp [fdC]) rfl (by rw [hsz0]; exact (by decide : 55 < 132)) (by decide) (by simp [hd]) (by simp)⟩
          · intro L a w1 hI hi hd
            obtain ⟨R, hC⟩ := hI
            have hi : L 5 = false := hi
            have hp := hC.pif
            simp [Region.binds] at hd
            have e4 : a.tmps.getD 55 undef = (.pointer (some ⟨g, 8, none⟩)) := hp.pu (4, 55, (.pointer (some ⟨g, 8, none⟩))) (by simp [rows, fdP, fdM, fdC, setR]) (by simp [hd])
            have f4 : a.tmps[55]?.getD undef = (.pointer (some ⟨g, 8, none⟩)) := by rw [← Array.getD_eq_getD_getElem?]; exact e4
            obtain ⟨d0, d1, d2, d3, d4, d5, d6, d7, d8, d9, d10, d11, d12, d13, d14⟩ := (hx.below (hB0.trans hC.bel) hgl).c15
            exact rstep_valW (wanted_none rfl _) (.slice uA un uc) w1 (by go_simp) ⟨R, hC.pure 5 56 (.slice uA un uc) (by simp [rows, fdP, fdM, fdC, setR]) (by simp [rows, fdP, fdM, fdC, setR]) (by simp [fdM]) (by simp [fdC]) rfl (by rw [hsz0]; exact (by decide : 56 < 132)) (by decide) (by simp [hd]) (by simp)⟩
          · intro L a w1 hI hi hd
            obtain ⟨R, hC⟩ := hI
            have hi : L 6 = false := hi
            have hp := hC.pif
            simp [Region.binds] at hd
            have e3 : a.tmps.getD 54 undef = (.slice (R 3).A (R 3).n (R 3).c) := hp.pu (3, 54, (R 3).v) (by simp [rows, fdP, fdM, fdC, setR]) (by simp [hd])
            have f3 : a.tmps[54]?.getD undef = (.slice (R 3).A (R 3).n (R 3).c) := by rw [← Array.getD_eq_getD_getElem?]; exact e3
            have e5 : a.tmps.getD 56 undef = (.slice uA un uc) := hp.pu (5, 56, (.slice uA un uc)) (by simp [rows, fdP, fdM, fdC, setR]) (by simp [hd])
            have f5 : a.tmps[56]?.getD undef = (.slice uA un uc) := by rw [← Array.getD_eq_getD_getElem?]; exact e5
            have hO0 := hC.own ⟨3, 54, lc ++ [CodeM.byte 0], some 6⟩ (by simp [fdM]) (by simp [hd]) (by intro k hk; injection hk with hk; rw [← hk]; exact hi)
            have hN0 := hC.len ⟨3, 54, lc ++ [CodeM.byte 0], some 6⟩ (by simp [fdM]) (by simp [hd])
            refine rstep_callW (wanted_none rfl _) 46 #[.slice (R 3).A (R 3).n (R 3).c, .slice uA un uc] (by go_simp) ?_
            refine (PutText_at (R 3).A uA (R 3).n un (R 3).c uc (lc ++ [CodeM.byte 0]) undo w1 hO0.row (HS.out.below (hB0.trans hC.bel)).ru hN0 HS.out.lu (by rw [← hN0]; (try simp only [List.length_append, CodeM.fx_length, List.length_cons, List.length_nil]); omega)).mono ?_
            rintro e w2 ⟨A', n', c', rfl, hn', hO, hb⟩
            exact ⟨_, hC.call ⟨6, 57, lc ++ [CodeM.byte 0] ++ CodeM.tx undo, none⟩ (by simp [fdM]) ⟨A', n', c'⟩ hi hO hn'.out hb (by simp [fdM]) (by simp [fdP]) (by simp [rows, fdP, fdM, fdC, setR]) (by simp [rows, fdP, fdM, fdC, setR]) (by simp [fdC]) rfl (by rw [hsz0]; exact (by decide : 57 < 132)) (by simp [hd]) (by simp)⟩
          · intro L a w1 hI hi hd
            obtain ⟨R, hC⟩ := hI
            have hi : L 7 = false := hi
            have hp := hC.pif
            simp [Region.binds] at hd
            have e6 : a.tmps.getD 57 undef = (.slice (R 6).A (R 6).n (R 6).c) := hp.pu (6, 57, (R 6).v) (by simp [rows, fdP, fdM, fdC, setR]) (by simp [hd])
            have f6 : a.tmps[57]?.getD undef = (.slice (R 6).A (R 6).n (R 6).c) := by rw [← Array.getD_eq_getD_getElem?]; exact e6
            exact rstep_valW (wanted_none rfl _) (.slice (R 6).A (R 6).n (R 6).c) w1 (by go_simp) ⟨R, hC.copy 7 3 6 (by simp [hd]) (by simp [rows, fdP, fdM, fdC, setR]) (by simp [rows, fdP, fdM, fdC, setR]) (by simp [fdM]) (by simp [fdC]) rfl (by rw [hsz0]; exact (by decide : 3 < 132)) (by decide) (by simp [hd]) (fun _ => .inl (hC.dep (3, 0) (by simp) (hC.dep (6, 3) (by simp) (by simp [hd]))))⟩
        rintro L a W ⟨R, hC⟩ hL
        have hp := hC.pif
        have e7 : a.tmps.getD 3 undef = .slice (R 6).A (R 6).n (R 6).c := hp.pu (7, 3, (R 6).v) (by simp [rows, fdP, fdM, fdC, setR]) (hL 7 (by simp))
        have hOW := hC.own ⟨6, 57, lc ++ [CodeM.byte 0] ++ CodeM.tx undo, none⟩ (by simp [fdM]) (hL 6 (by simp)) nofun
        have hNW := hC.len ⟨6, 57, lc ++ [CodeM.byte 0] ++ CodeM.tx undo, none⟩ (by simp [fdM]) (hL 6 (by simp))
        have hBW := hC.bel
        generalize R 6 = r at *
        obtain ⟨rA, rn, rc⟩ := r
        dsimp only at *
        rw [hp.eq]
        refine of_assigns (P := Try.prog) _ _ _ _ ?_
        rw [ha0.out]
        simp only [asgs, List.map, e7]
        generalize a.tmps.getD 51 undef = u51
        generalize a.tmps.getD 52 undef = u52
        generalize a.tmps.getD 53 undef = u53
        generalize a.tmps.getD 54 undef = u54
        generalize a.tmps.getD 55 undef = u55
        generalize a.tmps.getD 56 undef = u56
        generalize a.tmps.getD 57 undef = u57
        clear hp hL e7 ha0 z1 z3 z4 hsz0 hC
        clear a0 a L R
        go_wp2
        go_meet
        case rel => exact ⟨rA, rn, rc, rfl, by rw [HBD.out]; exact hOW, by rw [HBD.out]; exact hNW, by rw [← hNW]; simp only [List.length_append, CodeM.fx_length, HN37.out, List.length_cons, List.length_nil]; omega, hB0.trans hBW⟩
    by_cases k3 : kind = 3
    · subst k3
      have HBD : Hid (LogM.body ⟨3, lsn, epoch, txn, page, off, old, new, undo, prev, next, clr, stamp, opn, dirty⟩ = lb ++ CodeM.fx 8 txn ++ CodeM.fx 8 stamp) := Lib.hid (by unfold LogM.body LogM.tail; rw [HLB.out]; simp [List.append_assoc])
      go_upto_region 12 with fail
      have hB0 := hBW
      have hbV : V0.heap.size ≤ W.heap.size := hBW.size
      have hOb : Own W V0.heap.size (⟨rA, 13, rc⟩ : Rs).A (⟨rA, 13, rc⟩ : Rs).c lb := hOW
      have hlb13 := HN13.out
      clear hOW hBW
      refine wp_named fun a0 ha0 => ?_
      have z1 : a0.tmps.getD 1 undef = (.pointer (some ⟨g, 0, none⟩)) := by rw [ha0.out]; rfl
      have z3 : a0.tmps.getD 3 undef = (.slice rA 13 rc) := by rw [ha0.out]; rfl
      have hsz0 : a0.tmps.size = 132 := by rw [ha0.out]; rfl
      refine wp_region_invB _ (by kernel_rfl) (fun L a wv => ∃ R, Ch a0 [60, 61, 62, 63, 64, 65, 66, 3] (feP txn stamp lb rA rc g) (feM txn stamp lb rA rc g) feC V0.heap.size W V0.heap.size (⟨rA, 13, rc⟩ : Rs) (lb) 3 [(3, 0), (6, 3)] 0 3 R L a wv) (by kernel_rfl) ?_ ?_ ?_
      · exact ⟨fun _ => ⟨none, 0, 0⟩, Ch.start hbV ⟨rfl, rfl, rfl, Nat.le_refl _, fun _ _ => rfl⟩ hOb⟩
      rotate_left
      · refine ⟨?_, ?_, ?_, ?_, ?_, ?_, ?_, ?_, trivial⟩
        · intro L a w1 hI hi hd
          obtain ⟨R, hC⟩ := hI
          have hi : L 0 = false := hi
          have hp := hC.pif
          have t3 := (hC.st hi).trans z3
          have t3' := t3
          rw [Array.getD_eq_getD_getElem?] at t3'
          exact rstep_valW (wanted_none rfl _) (.slice rA 13 rc) w1 (by go_simp) ⟨R, hC.pure 0 60 (.slice rA 13 rc) (by simp [rows, feP, feM, feC, setR]) (by simp [rows, feP, feM, feC, setR]) (by simp [feM]) (by simp [feC]) rfl (by rw [hsz0]; exact (by decide : 60 < 132)) (by decide) (by simp [hd]) (by simp)⟩
        · intro L a w1 hI hi hd
          obtain ⟨R, hC⟩ := hI
          have hi : L 1 = false := hi
          have hp := hC.pif
          have t1 := hp.at_ 1 _ rfl z1
          have t1' := t1
          rw [Array.getD_eq_getD_getElem?] at t1'
          exact rstep_valW (wanted_none rfl _) (.pointer (some ⟨g, 3, none⟩)) w1 (by go_simp) ⟨R, hC.pure 1 61 (.pointer (some ⟨g, 3, none⟩)) (by simp [rows, feP, feM, feC, setR]) (by simp [rows, feP, feM, feC, setR]) (by simp [feM]) (by simp [feC]) rfl (by rw [hsz0]; exact (by decide : 61 < 132)) (by decide) (by simp [hd]) (by simp)⟩
        · intro L a w1 hI hi hd
          obtain ⟨R, hC⟩ := hI
          have hi : L 2 = false := hi
          have hp := hC.pif
          simp [Region.binds] at hd
          have e1 : a.tmps.getD 61 undef = (.pointer (some ⟨g, 3, none⟩)) := hp.pu (1, 61, (.pointer (some ⟨g, 3, none⟩))) (by simp [rows, feP, feM, feC, setR]) (by simp [hd])
          have f1 : a.tmps[61]?.getD undef = (.pointer (some ⟨g, 3, none⟩)) := by rw [← Array.getD_eq_getD_getElem?]; exact e1
          obtain ⟨d0, d1, d2, d3, d4, d5, d6, d7, d8, d9, d10, d11, d12, d13, d14⟩ := (hx.below (hB0.trans hC.bel) hgl).c15
          exact rstep_valW (wanted_none rfl _) (.int .u64 (txn : Int)) w1 (by go_simp) ⟨R, hC.pure 2 62 (.int .u64 (txn : Int)) (by simp [rows, feP, feM, feC, setR]) (by simp [rows, feP, feM, feC, setR]) (by simp [feM]) (by simp [feC]) rfl (by rw [hsz0]; exact (by decide : 62 < 132)) (by decide) (by simp [hd]) (by simp)⟩
        · intro L a w1 hI hi hd
          obtain ⟨R, hC⟩ := hI
          have hi : L 3 = false := hi
          have hp := hC.pif
          simp [Region.binds] at hd
          have e0 : a.tmps.getD 60 undef = (.slice rA 13 rc) := hp.pu (0, 60, (.slice rA 13 rc)) (by simp [rows, feP, feM, feC, setR]) (by simp [hd])
          have f0 : a.tmps[60]?.getD undef = (.slice rA 13 rc) := by rw [← Array.getD_eq_getD_getElem?]; exact e0
          have e2 : a.tmps.getD 62 undef = (.int .u64 (txn : Int)) := hp.pu (2, 62, (.int .u64 (txn : Int))) (by simp [rows, feP, feM, feC, setR]) (by simp [hd])
          have f2 : a.tmps[62]?.getD undef = (.int .u64 (txn : Int)) := by rw [← Array.getD_eq_getD_getElem?]; exact e2
          have hO0 := hC.ex hi
          have hN0 : (lb).length = (⟨rA, 13, rc⟩ : Rs).n := HN13.out
          refine rstep_callW (wanted_none rfl _) 45 #[.slice (⟨rA, 13, rc⟩ : Rs).A (⟨rA, 13, rc⟩ : Rs).n (⟨rA, 13, rc⟩ : Rs).c, (.int .u64 (txn : Int))] (by go_simp) ?_
          refine (Put64_at (⟨rA, 13, rc⟩ : Rs).A (⟨rA, 13, rc⟩ : Rs).c (⟨rA, 13, rc⟩ : Rs).n txn (lb) w1 hO0.row hN0 (by rw [← hN0]; (try simp only [List.length_append, CodeM.fx_length, List.length_cons, List.length_nil]); omega) HF.out.txn).mono ?_
          rintro e w2 ⟨A', n', c', rfl, hn', hO, hb⟩
          exact ⟨_, hC.call ⟨3, 63, lb ++ CodeM.fx 8 txn, some 6⟩ (by simp [feM]) ⟨A', n', c'⟩ hi hO hn'.out hb (by simp [feM]) (by simp [feP]) (by simp [rows, feP, feM, feC, setR]) (by simp [rows, feP, feM, feC, setR]) (by simp [feC]) rfl (by rw [hsz0]; exact (by decide : 63 < 132)) (by simp [hd]) (by simp)⟩
        · intro L a w1 hI hi hd
          obtain ⟨R, hC⟩ := hI
          have hi : L 4 = false := hi
          have hp := hC.pif
          have t1 := hp.at_ 1 _ rfl z1
          have t1' := t1
          rw [Array.getD_eq_getD_getElem?] at t1'
          exact rstep_valW (wanted_none rfl _) (.pointer (some ⟨g, 12, none⟩)) w1 (by go_simp) ⟨R, hC.pure 4 64 (.pointer (some ⟨g, 12, none⟩)) (by simp [rows, feP, feM, feC, setR]) (by simp [rows, feP, feM, feC, setR]) (by simp [feM]) (by simp [feC]) rfl (by rw [hsz0]; exact (by decide : 64 < 132)) (by decide) (by simp [hd]) (by simp)⟩
        · intro L a w1 hI hi hd
          obtain ⟨R, hC⟩ := hI
          have hi : L 5 = false := hi
          have hp := hC.pif
          simp [Region.binds] at hd
          have e4 : a.tmps.getD 64 undef = (.pointer (some ⟨g, 12, none⟩)) := hp.pu (4, 64, (.pointer (some ⟨g, 12, none⟩))) (by simp [rows, feP, feM, feC, setR]) (by simp [hd])
          have f4 : a.tmps[64]?.getD undef = (.pointer (some ⟨g, 12, none⟩)) := by rw [← Array.getD_eq_getD_getElem?]; exact e4
          obtain ⟨d0, d1, d2, d3, d4, d5, d6, d7, d8, d9, d10, d11, d12, d13, d14⟩ := (hx.below (hB0.trans hC.bel) hgl).c15
          exact rstep_valW (wanted_none rfl _) (.int .u64 (stamp : Int)) w1 (by go_simp) ⟨R, hC.pure 5 65 (.int .u64 (stamp : Int)) (by simp [rows, feP, feM, feC, setR]) (by simp [rows, feP, feM, feC, setR]) (by simp [feM]) (by simp [feC]) rfl (by rw [hsz0]; exact (by decide : 65 < 132)) (by decide) (by simp [hd]) (by simp)⟩
        · intro L a w1 hI hi hd
          obtain ⟨R, hC⟩ := hI
          have hi : L 6 = false := hi
          have hp := hC.pif
          simp [Region.binds] at hd
          have e3 : a.tmps.getD 63 undef = (.slice (R 3).A (R 3).n (R 3).c) := hp.pu (3, 63, (R 3).v) (by simp [rows, feP, feM, feC, setR]) (by simp [hd])
          have f3 : a.tmps[63]?.getD undef = (.slice (R 3).A (R 3).n (R 3).c) := by rw [← Array.getD_eq_getD_getElem?]; exact e3
          have e5 : a.tmps.getD 65 undef = (.int .u64 (stamp : Int)) := hp.pu (5, 65, (.int .u64 (stamp : Int))) (by simp [rows, feP, feM, feC, setR]) (by simp [hd])
          have f5 : a.tmps[65]?.getD undef = (.int .u64 (stamp : Int)) := by rw [← Array.getD_eq_getD_getElem?]; exact e5
          have hO0 := hC.own ⟨3, 63, lb ++ CodeM.fx 8 txn, some 6⟩ (by simp [feM]) (by simp [hd]) (by intro k hk; injection hk with hk; rw [← hk]; exact hi)
          have hN0 := hC.len ⟨3, 63, lb ++ CodeM.fx 8 txn, some 6⟩ (by simp [feM]) (by simp [hd])
          refine rstep_callW (wanted_none rfl _) 45 #[.slice (R 3).A (R 3).n (R 3).c, (.int .u64 (stamp : Int))] (by go_simp) ?_
          refine (Put64_at (R 3).A (R 3).c (R 3).n stamp (lb ++ CodeM.fx 8 txn) w1 hO0.row hN0 (by rw [← hN0]; (try simp only [List.length_append, CodeM.fx_length, List.length_cons, List.length_nil]); omega) HF.out.stamp).mono ?_
          rintro e w2 ⟨A', n', c', rfl, hn', hO, hb⟩
          exact ⟨_, hC.call ⟨6, 66, lb ++ CodeM.fx 8 txn ++ CodeM.fx 8 stamp, none⟩ (by simp [feM]) ⟨A', n', c'⟩ hi hO hn'.out hb (by simp [feM]) (by simp [feP]) (by simp [rows, feP, feM, feC, setR]) (by simp [rows, feP, feM, feC, setR]) (by simp [feC]) rfl (by rw [hsz0]; exact (by decide : 66 < 132)) (by simp [hd]) (by simp)⟩
        · intro L a w1 hI hi hd
          obtain ⟨R, hC⟩ := hI
          have hi : L 7 = false := hi
          have hp := hC.pif
          simp [Region.binds] at hd
          have e6 : a.tmps.getD 66 undef = (.slice (R 6).A (R 6).n (R 6).c) := hp.pu (6, 66, (R 6).v) (by simp [rows, feP, feM, feC, setR]) (by simp [hd])
          have f6 : a.tmps[66]?.getD undef = (.slice (R 6).A (R 6).n (R 6).c) := by rw [← Array.getD_eq_getD_getElem?]; exact e6
          exact rstep_valW (wanted_none rfl _) (.slice (R 6).A (R 6).n (R 6).c) w1 (by go_simp) ⟨R, hC.copy 7 3 6 (by simp [hd]) (by simp [rows, feP, feM, feC, setR]) (by simp [rows, feP, feM, feC, setR]) (by simp [feM]) (by simp [feC]) rfl (by rw [hsz0]; exact (by decide : 3 < 132)) (by decide) (by simp [hd]) (fun _ => .inl (hC.dep (3, 0) (by simp) (hC.dep (6, 3) (by simp) (by simp [hd]))))⟩
      rintro L a W ⟨R, hC⟩ hL
      have hp := hC.pif
      have e7 : a.tmps.getD 3 undef = .slice (R 6).A (R 6).n (R 6).c := hp.pu (7, 3, (R 6).v) (by simp [rows, feP, feM, feC, setR]) (hL 7 (by simp))
      have hOW := hC.own ⟨6, 66, lb ++ CodeM.fx 8 txn ++ CodeM.fx 8 stamp, none⟩ (by simp [feM]) (hL 6 (by simp)) nofun
      have hNW := hC.len ⟨6, 66, lb ++ CodeM.fx 8 txn ++ CodeM.fx 8 stamp, none⟩ (by simp [feM]) (hL 6 (by simp))
      have hBW := hC.bel
      generalize R 6 = r at *
      obtain ⟨rA, rn, rc⟩ := r
      dsimp only at *
      rw [hp.eq]
      refine of_assigns (P := Try.prog) _ _ _ _ ?_
      rw [ha0.out]
      simp only [asgs, List.map, e7]
      generalize a.tmps.getD 60 undef = u60
      generalize a.tmps.getD 61 undef = u61
      generalize a.tmps.getD 62 undef = u62
      generalize a.tmps.getD 63 undef = u63
      generalize a.tmps.getD 64 undef = u64
      generalize a.tmps.getD 65 undef = u65
      generalize a.tmps.getD 66 undef = u66
      clear hp hL e7 ha0 z1 z3 hsz0 hC
      clear a0 a L R
      go_wp2
      go_meet
      case rel => exact ⟨rA, rn, rc, rfl, by rw [HBD.out]; exact hOW, by rw [HBD.out]; exact hNW, by rw [← hNW]; simp only [List.length_append, CodeM.fx_length, HN13.out, List.length_cons, List.length_nil]; omega, hB0.trans hBW⟩
    by_cases k4 : kind = 4
    · subst k4
      have HBD : Hid (LogM.body ⟨4, lsn, epoch, txn, page, off, old, new, undo, prev, next, clr, stamp, opn, dirty⟩ = lb ++ CodeM.fx 8 txn) := Lib.hid (by unfold LogM.body LogM.tail; rw [HLB.out]; simp [List.append_assoc])
      obtain ⟨d0, d1, d2, d3, d4, d5, d6, d7, d8, d9, d10, d11, d12, d13, d14⟩ := (hx.below hBW hgl).c15
      go_wp2_with fail
      refine (Put64_at rA rc 13 txn lb W hOW.row HN13.out (by omega) HF.out.txn).mono ?_
      rintro e w2 ⟨A2, n2, c2, rfl, hn2, hO2, hb2⟩
      clear d0 d1 d2 d3 d4 d5 d6 d7 d8 d9 d10 d11 d12 d13 d14
      go_wp2
      go_meet
      case rel => exact ⟨A2, n2, c2, rfl, by rw [HBD.out]; exact hO2.base_ hBW.size, by rw [HBD.out]; exact hn2.out, by rw [← hn2.out]; simp only [List.length_append, CodeM.fx_length, HN13.out]; omega, hBW.trans (hb2.mono hBW.size)⟩
    have hk5 : kind = 5 := by omega
    subst hk5
    have hmk := HM.out.2
    unfold LogM.mayK at hmk
    dsimp only at hmk
    rw [if_neg (by decide), if_neg (by decide), if_neg (by decide), if_pos rfl] at hmk
    have hpp := HS.out.lp
    have hdd := HS.out.ld
    have hcp := HS.out.cp
    have hcd := HS.out.cd
    unfold maxLen at hcp hcd
    dsimp only at hpp hdd hcp hcd
    rw [hpp, hdd] at hmk
    obtain ⟨hp16, hd64⟩ := hmk
    have HPP := Lib.hid hpp
    have HDD := Lib.hid hdd
    have HBD : Hid (LogM.body ⟨5, lsn, epoch, txn, page, off, old, new, undo, prev, next, clr, stamp, opn, dirty⟩ = lb ++ CodeM.uv pn ++ opn.flatMap LogM.chB ++ CodeM.uv dn ++ dirty.flatMap LogM.dtB) := Lib.hid (by unfold LogM.body LogM.tail; rw [HLB.out]; simp [List.append_assoc, hpp, hdd])
    have hup := LogM.uv_le2 (n := pn) (by omega)
    have hud := LogM.uv_le2 (n := dn) (by omega)
    have HUP := Lib.hid (And.intro hup hud)
    have hwp : IntKind.u64.wrap (pn : Int) = (pn : Int) := by rw [IntKind.wrap_u64]; omega
    have hwd : IntKind.u64.wrap (dn : Int) = (dn : Int) := by rw [IntKind.wrap_u64]; omega
    clear k1 k2 k3 k4 hpp hdd hup hud hk1 hk2
    obtain ⟨d0, d1, d2, d3, d4, d5, d6, d7, d8, d9, d10, d11, d12, d13, d14⟩ := (hx.below hBW hgl).c15
    go_wp2_with fail
    refine (PutUv_at rA rc 13 pn lb W hOW.row HN13.out (by omega) (by omega)).mono ?_
    rintro e w2 ⟨A2, n2, c2, rfl, hn2, hO2, hb2⟩
    have hB2 := hBW.trans (hb2.mono hBW.size)
    have hO2 := hO2.base_ hBW.size
    clear d0 d1 d2 d3 d4 d5 d6 d7 d8 d9 d10 d11 d12 d13 d14 hb2 hOW
    obtain ⟨lu, hlu⟩ : ∃ lu, lb ++ CodeM.uv pn = lu := ⟨_, rfl⟩
    have HLU := Lib.hid hlu
    rw [hlu] at hn2 hO2
    have hn15 : n2 ≤ 15 := by
      have := HUP.out.1
      rw [← hn2.out, ← hlu, List.length_append, HN13.out]; omega
    clear hlu
    obtain ⟨d0, d1, d2, d3, d4, d5, d6, d7, d8, d9, d10, d11, d12, d13, d14⟩ := (hx.below hB2 hgl).c15
    go_wp2
    clear d0 d1 d2 d3 d4 d5 d6 d7 d8 d9 d10 d11 d12 d13 d14
    go_loopw [3, 84] (fun b i wr => ∃ (q : Nat) (rA : Option Addr) (rn rc : Nat), b = .slice rA rn rc ∧ i = .int .i64 (q : Int) ∧ q ≤ pn ∧ Hid ((lu ++ (opn.take q).flatMap LogM.chB).length = rn) ∧ rn ≤ 15 + 24 * q ∧ Own wr V0.heap.size rA rc (lu ++ (opn.take q).flatMap LogM.chB) ∧ Below V0.heap.size V0 wr) (fun _ i _ => pn - (RowKit.intOf i).toNat)
    case atStart => exact ⟨0, A2, n2, c2, rfl, rfl, Nat.zero_le _, Lib.hid (by simpa using hn2.out), by omega, by simpa using hO2, hB2⟩
    case round =>
      clear hO2 hB2 hBW
      obtain ⟨q, rA, rn, rc, rfl, rfl, hq, hLL, hrn, hOb, hB0⟩ := hrel
      by_cases hlt : q < pn
      · obtain ⟨x, hxq⟩ : ∃ x, opn[q]? = some x := ⟨_, List.getElem?_eq_getElem (by rw [HPP.out]; exact hlt)⟩
        obtain ⟨u1, u2, u3⟩ := x
        obtain ⟨b', o', hpA, e1, e2, e3⟩ := row_ch (HS.out.below hB0).rp hxq
        dsimp only at hpA e1 e2 e3
        obtain ⟨hu1, hu2, hu3⟩ := HF.out.opn _ (List.mem_of_getElem? hxq)
        dsimp only at hu1 hu2 hu3
        have HT : Hid (lu ++ (opn.take (q + 1)).flatMap LogM.chB = lu ++ (opn.take q).flatMap LogM.chB ++ CodeM.fx 8 u1 ++ CodeM.fx 8 u2 ++ CodeM.fx 8 u3) := Lib.hid (by rw [take_flat _ hxq]; simp [LogM.chB, List.append_assoc])
        obtain ⟨ll, hll⟩ : ∃ ll, lu ++ (opn.take q).flatMap LogM.chB = ll := ⟨_, rfl⟩
        rw [hll] at HT hLL hOb
        have HU := Lib.hid (And.intro hu1 (And.intro hu2 hu3))
        have HPA := Lib.hid hpA
        clear hxq hll hu1 hu2 hu3
        subst hpA
        go_upto_region 20 with fail
        have hc := Blk.new wr 54 #[.int .u64 (u1 : Int), .int .u64 (u2 : Int), .int .u64 (u3 : Int)]
        have hcl : wr.heap.size < (wr.alloc (.cells #[.int .u64 (u1 : Int), .int .u64 (u2 : Int), .int .u64 (u3 : Int)] 54)).heap.size := by simp
        have hba : Below V0.heap.size V0 (wr.alloc (.cells #[.int .u64 (u1 : Int), .int .u64 (u2 : Int), .int .u64 (u3 : Int)] 54)) := hB0.alloc hB0.size _
        have hOb := hOb.alloc (.cells #[.int .u64 (u1 : Int), .int .u64 (u2 : Int), .int .u64 (u3 : Int)] 54)
        generalize wr.alloc (.cells #[.int .u64 (u1 : Int), .int .u64 (u2 : Int), .int .u64 (u3 : Int)] 54) = V2 at *
        obtain ⟨gq, hgq⟩ : ∃ gq, wr.heap.size = gq := ⟨_, rfl⟩
        rw [hgq] at hc hcl
        simp only [hgq]
        clear hgq e1 e2 e3
        obtain ⟨hu1, hu2, hu3⟩ := HU.out
        have hll13 := hLL.out
        have hbV : V2.heap.size ≤ V2.heap.size := Nat.le_refl _
        refine wp_named fun a0 ha0 => ?_
        have z3 : a0.tmps.getD 3 undef = (.slice rA rn rc) := by rw [ha0.out]; rfl
        have z6 : a0.tmps.getD 6 undef = (.pointer (some ⟨gq, 0, none⟩)) := by rw [ha0.out]; rfl
        have hsz0 : a0.tmps.size = 132 := by rw [ha0.out]; rfl
        refine wp_region_invB _ (by kernel_rfl) (fun L a wv => ∃ R, Ch a0 [88, 89, 90, 91, 92, 93, 94, 95, 96, 97, 3] (fgP u1 u2 u3 ll rA rn rc gq) (fgM u1 u2 u3 ll rA rn rc gq) fgC V2.heap.size V2 V0.heap.size (⟨rA, rn, rc⟩ : Rs) (ll) 3 [(3, 0), (6, 3), (9, 6)] 0 3 R L a wv) (by kernel_rfl) ?_ ?_ ?_
        · exact ⟨fun _ => ⟨none, 0, 0⟩, Ch.start hbV ⟨rfl, rfl, rfl, Nat.le_refl _, fun _ _ => rfl⟩ hOb⟩
        rotate_left
        · refine ⟨?_, ?_, ?_, ?_, ?_, ?_, ?_, ?_, ?_, ?_, ?_, trivial⟩
          · intro L a w1 hI hi hd
            obtain ⟨R, hC⟩ := hI
            have hi : L 0 = false := hi
            have hp := hC.pif
            have t3 := (hC.st hi).trans z3
            have t3' := t3
            rw [Array.getD_eq_getD_getElem?] at t3'
            exact rstep_valW (wanted_none rfl _) (.slice rA rn rc) w1 (by go_simp) ⟨R, hC.pure 0 88 (.slice rA rn rc) (by simp [rows, fgP, fgM, fgC, setR]) (by simp [rows, fgP, fgM, fgC, setR]) (by simp [fgM]) (by simp [fgC]) rfl (by rw [hsz0]; exact (by decide : 88 < 132)) (by decide) (by simp [hd]) (by simp)⟩
          · intro L a w1 hI hi hd
            obtain ⟨R, hC⟩ := hI
            have hi : L 1 = false := hi
            have hp := hC.pif
            have t6 := hp.at_ 6 _ rfl z6
            have t6' := t6
            rw [Array.getD_eq_getD_getElem?] at t6'
            exact rstep_valW (wanted_none rfl _) (.pointer (some ⟨gq, 0, none⟩)) w1 (by go_simp) ⟨R, hC.pure 1 89 (.pointer (some ⟨gq, 0, none⟩)) (by simp [rows, fgP, fgM, fgC, setR]) (by simp [rows, fgP, fgM, fgC, setR]) (by simp [fgM]) (by simp [fgC]) rfl (by rw [hsz0]; exact (by decide : 89 < 132)) (by decide) (by simp [hd]) (by simp)⟩
          · intro L a w1 hI hi hd
            obtain ⟨R, hC⟩ := hI
            have hi : L 2 = false := hi
            have hp := hC.pif
            simp [Region.binds] at hd
            have e1 : a.tmps.getD 89 undef = (.pointer (some ⟨gq, 0, none⟩)) := hp.pu (1, 89, (.pointer (some ⟨gq, 0, none⟩))) (by simp [rows, fgP, fgM, fgC, setR]) (by simp [hd])
            have f1 : a.tmps[89]?.getD undef = (.pointer (some ⟨gq, 0, none⟩)) := by rw [← Array.getD_eq_getD_getElem?]; exact e1
            obtain ⟨c0, c1, c2⟩ := (hc.below hC.bel hcl).c3
            exact rstep_valW (wanted_none rfl _) (.int .u64 (u1 : Int)) w1 (by go_simp) ⟨R, hC.pure 2 90 (.int .u64 (u1 : Int)) (by simp [rows, fgP, fgM, fgC, setR]) (by simp [rows, fgP, fgM, fgC, setR]) (by simp [fgM]) (by simp [fgC]) rfl (by rw [hsz0]; exact (by decide : 90 < 132)) (by decide) (by simp [hd]) (by simp)⟩
          · intro L a w1 hI hi hd
            obtain ⟨R, hC⟩ := hI
            have hi : L 3 = false := hi
            have hp := hC.pif
            simp [Region.binds] at hd
            have e0 : a.tmps.getD 88 undef = (.slice rA rn rc) := hp.pu (0, 88, (.slice rA rn rc)) (by simp [rows, fgP, fgM, fgC, setR]) (by simp [hd])
            have f0 : a.tmps[88]?.getD undef = (.slice rA rn rc) := by rw [← Array.getD_eq_getD_getElem?]; exact e0
            have e2 : a.tmps.getD 90 undef = (.int .u64 (u1 : Int)) := hp.pu (2, 90, (.int .u64 (u1 : Int))) (by simp [rows, fgP, fgM, fgC, setR]) (by simp [hd])
            have f2 : a.tmps[90]?.getD undef = (.int .u64 (u1 : Int)) := by rw [← Array.getD_eq_getD_getElem?]; exact e2
            have hO0 := hC.ex hi
            have hN0 : (ll).length = (⟨rA, rn, rc⟩ : Rs).n := hLL.out
            refine rstep_callW (wanted_none rfl _) 45 #[.slice (⟨rA, rn, rc⟩ : Rs).A (⟨rA, rn, rc⟩ : Rs).n (⟨rA, rn, rc⟩ : Rs).c, (.int .u64 (u1 : Int))] (by go_simp) ?_
            refine (Put64_at (⟨rA, rn, rc⟩ : Rs).A (⟨rA, rn, rc⟩ : Rs).c (⟨rA, rn, rc⟩ : Rs).n u1 (ll) w1 hO0.row hN0 (by rw [← hN0]; (try simp only [List.length_append, CodeM.fx_length, List.length_cons, List.length_nil]); omega) hu1).mono ?_
            rintro e w2 ⟨A', n', c', rfl, hn', hO, hb⟩
            exact ⟨_, hC.call ⟨3, 91, ll ++ CodeM.fx 8 u1, some 6⟩ (by simp [fgM]) ⟨A', n', c'⟩ hi hO hn'.out hb (by simp [fgM]) (by simp [fgP]) (by simp [rows, fgP, fgM, fgC, setR]) (by simp [rows, fgP, fgM, fgC, setR]) (by simp [fgC]) rfl (by rw [hsz0]; exact (by decide : 91 < 132)) (by simp [hd]) (by simp)⟩
          · intro L a w1 hI hi hd
            obtain ⟨R, hC⟩ := hI
            have hi : L 4 = false := hi
            have hp := hC.pif
            have t6 := hp.at_ 6 _ rfl z6
            have t6' := t6
            rw [Array.getD_eq_getD_getElem?] at t6'
            exact rstep_valW (wanted_none rfl _) (.pointer (some ⟨gq, 1, none⟩)) w1 (by go_simp) ⟨R, hC.pure 4 92 (.pointer (some ⟨gq, 1, none⟩)) (by simp [rows, fgP, fgM, fgC, setR]) (by simp [rows, fgP, fgM, fgC, setR]) (by simp [fgM]) (by simp [fgC]) rfl (by rw [hsz0]; exact (by decide : 92 < 132)) (by decide) (by simp [hd]) (by simp)⟩
          · intro L a w1 hI hi hd
            obtain ⟨R, hC⟩ := hI
            have hi : L 5 = false := hi
            have hp := hC.pif
            simp [Region.binds] at hd
            have e4 : a.tmps.getD 92 undef = (.pointer (some ⟨gq, 1, none⟩)) := hp.pu (4, 92, (.pointer (some ⟨gq, 1, none⟩))) (by simp [rows, fgP, fgM, fgC, setR]) (by simp [hd])
            have f4 : a.tmps[92]?.getD undef = (.pointer (some ⟨gq, 1, none⟩)) := by rw [← Array.getD_eq_getD_getElem?]; exact e4
            obtain ⟨c0, c1, c2⟩ := (hc.below hC.bel hcl).c3
            exact rstep_valW (wanted_none rfl _) (.int .u64 (u2 : Int)) w1 (by go_simp) ⟨R, hC.pure 5 93 (.int .u64 (u2 : Int)) (by simp [rows, fgP, fgM, fgC, setR]) (by simp [rows, fgP, fgM, fgC, setR]) (by simp [fgM]) (by simp [fgC]) rfl (by rw [hsz0]; exact (by decide : 93 < 132)) (by decide) (by simp [hd]) (by simp)⟩
          · intro L a w1 hI hi hd
            obtain ⟨R, hC⟩ := hI
            have hi : L 6 = false := hi
            have hp := hC.pif
            simp [Region.binds] at hd
            have e3 : a.tmps.getD 91 undef = (.slice (R 3).A (R 3).n (R 3).c) := hp.pu (3, 91, (R 3).v) (by simp [rows, fgP, fgM, fgC, setR]) (by simp [hd])
            have f3 : a.tmps[91]?.getD undef = (.slice (R 3).A (R 3).n (R 3).c) := by rw [← Array.getD_eq_getD_getElem?]; exact e3
            have e5 : a.tmps.getD 93 undef = (.int .u64 (u2 : Int)) := hp.pu (5, 93, (.int .u64 (u2 : Int))) (by simp [rows, fgP, fgM, fgC, setR]) (by simp [hd])
            have f5 : a.tmps[93]?.getD undef = (.int .u64 (u2 : Int)) := by rw [← Array.getD_eq_getD_getElem?]; exact e5
            have hO0 := hC.own ⟨3, 91, ll ++ CodeM.fx 8 u1, some 6⟩ (by simp [fgM]) (by simp [hd]) (by intro k hk; injection hk with hk; rw [← hk]; exact hi)
            have hN0 := hC.len ⟨3, 91, ll ++ CodeM.fx 8 u1, some 6⟩ (by simp [fgM]) (by simp [hd])
            refine rstep_callW (wanted_none rfl _) 45 #[.slice (R 3).A (R 3).n (R 3).c, (.int .u64 (u2 : Int))] (by go_simp) ?_
            refine (Put64_at (R 3).A (R 3).c (R 3).n u2 (ll ++ CodeM.fx 8 u1) w1 hO0.row hN0 (by rw [← hN0]; (try simp only [List.length_append, CodeM.fx_length, List.length_cons, List.length_nil]); omega) hu2).mono ?_
            rintro e w2 ⟨A', n', c', rfl, hn', hO, hb⟩
            exact ⟨_, hC.call ⟨6, 94, ll ++ CodeM.fx 8 u1 ++ CodeM.fx 8 u2, some 9⟩ (by simp [fgM]) ⟨A', n', c'⟩ hi hO hn'.out hb (by simp [fgM]) (by simp [fgP]) (by simp [rows, fgP, fgM, fgC, setR]) (by simp [rows, fgP, fgM, fgC, setR]) (by simp [fgC]) rfl (by rw [hsz0]; exact (by decide : 94 < 132)) (by simp [hd]) (by simp)⟩
          · intro L a w1 hI hi hd
            obtain ⟨R, hC⟩ := hI
            have hi : L 7 = false := hi
            have hp := hC.pif
            have t6 := hp.at_ 6 _ rfl z6
            have t6' := t6
            rw [Array.getD_eq_getD_getElem?] at t6'
            exact rstep_valW (wanted_none rfl _) (.pointer (some ⟨gq, 2, none⟩)) w1 (by go_simp) ⟨R, hC.pure 7 95 (.pointer (some ⟨gq, 2, none⟩)) (by simp [rows, fgP, fgM, fgC, setR]) (by simp [rows, fgP, fgM, fgC, setR]) (by simp [fgM]) (by simp [fgC]) rfl (by rw [hsz0]; exact (by decide : 95 < 132)) (by decide) (by simp [hd]) (by simp)⟩
          · intro L a w1 hI hi hd
            obtain ⟨R, hC⟩ := hI
            have hi : L 8 = false := hi
            have hp := hC.pif
            simp [Region.binds] at hd
            have e7 : a.tmps.getD 95 undef = (.pointer (some ⟨gq, 2, none⟩)) := hp.pu (7, 95, (.pointer (some ⟨gq, 2, none⟩))) (by simp [rows, fgP, fgM, fgC, setR]) (by simp [hd])
            have f7 : a.tmps[95]?.getD undef = (.pointer (some ⟨gq, 2, none⟩)) := by rw [← Array.getD_eq_getD_getElem?]; exact e7
            obtain ⟨c0, c1, c2⟩ := (hc.below hC.bel hcl).c3
            exact rstep_valW (wanted_none rfl _) (.int .u64 (u3 : Int)) w1 (by go_simp) ⟨R, hC.pure 8 96 (.int .u64 (u3 : Int)) (by simp [rows, fgP, fgM, fgC, setR]) (by simp [rows, fgP, fgM, fgC, setR]) (by simp [fgM]) (by simp [fgC]) rfl (by rw [hsz0]; exact (by decide : 96 < 132)) (by decide) (by simp [hd]) (by simp)⟩
          · intro L a w1 hI hi hd
            obtain ⟨R, hC⟩ := hI
            have hi : L 9 = false := hi
            have hp := hC.pif
            simp [Region.binds] at hd
            have e6 : a.tmps.getD 94 undef = (.slice (R 6).A (R 6).n (R 6).c) := hp.pu (6, 94, (R 6).v) (by simp [rows, fgP, fgM, fgC, setR]) (by simp [hd])
            have f6 : a.tmps[94]?.getD undef = (.slice (R 6).A (R 6).n (R 6).c) := by rw [← Array.getD_eq_getD_getElem?]; exact e6
            have e8 : a.tmps.getD 96 undef = (.int .u64 (u3 : Int)) := hp.pu (8, 96, (.int .u64 (u3 : Int))) (by simp [rows, fgP, fgM, fgC, setR]) (by simp [hd])
            have f8 : a.tmps[96]?.getD undef = (.int .u64 (u3 : Int)) := by rw [← Array.getD_eq_getD_getElem?]; exact e8
            have hO0 := hC.own ⟨6, 94, ll ++ CodeM.fx 8 u1 ++ CodeM.fx 8 u2, some 9⟩ (by simp [fgM]) (by simp [hd]) (by intro k hk; injection hk with hk; rw [← hk]; exact hi)
            have hN0 := hC.len ⟨6, 94, ll ++ CodeM.fx 8 u1 ++ CodeM.fx 8 u2, some 9⟩ (by simp [fgM]) (by simp [hd])
            refine rstep_callW (wanted_none rfl _) 45 #[.slice (R 6).A (R 6).n (R 6).c, (.int .u64 (u3 : Int))] (by go_simp) ?_
            refine (Put64_at (R 6).A (R 6).c (R 6).n u3 (ll ++ CodeM.fx 8 u1 ++ CodeM.fx 8 u2) w1 hO0.row hN0 (by rw [← hN0]; (try simp only [List.length_append, CodeM.fx_length, List.length_cons, List.length_nil]); omega) hu3).mono ?_
            rintro e w2 ⟨A', n', c', rfl, hn', hO, hb⟩
            exact ⟨_, hC.call ⟨9, 97, ll ++ CodeM.fx 8 u1 ++ CodeM.fx 8 u2 ++ CodeM.fx 8 u3, none⟩ (by simp [fgM]) ⟨A', n', c'⟩ hi hO hn'.out hb (by simp [fgM]) (by simp [fgP]) (by simp [rows, fgP, fgM, fgC, setR]) (by simp [rows, fgP, fgM, fgC, setR]) (by simp [fgC]) rfl (by rw [hsz0]; exact (by decide : 97 < 132)) (by simp [hd]) (by simp)⟩
          · intro L a w1 hI hi hd
            obtain ⟨R, hC⟩ := hI
            have hi : L 10 = false := hi
            have hp := hC.pif
            simp [Region.binds] at hd
            have e9 : a.tmps.getD 97 undef = (.slice (R 9).A (R 9).n (R 9).c) := hp.pu (9, 97, (R 9).v) (by simp [rows, fgP, fgM, fgC, setR]) (by simp [hd])
            have f9 : a.tmps[97]?.getD undef = (.slice (R 9).A (R 9).n (R 9).c) := by rw [← Array.getD_eq_getD_getElem?]; exact e9
            exact rstep_valW (wanted_none rfl _) (.slice (R 9).A (R 9).n (R 9).c) w1 (by go_simp) ⟨R, hC.copy 10 3 9 (by simp [hd]) (by simp [rows, fgP, fgM, fgC, setR]) (by simp [rows, fgP, fgM, fgC, setR]) (by simp [fgM]) (by simp [fgC]) rfl (by rw [hsz0]; exact (by decide : 3 < 132)) (by decide) (by simp [hd]) (fun _ => .inl (hC.dep (3, 0) (by simp) (hC.dep (6, 3) (by simp) (hC.dep (9, 6) (by simp) (by simp [hd])))))⟩
        rintro L a W ⟨R, hC⟩ hL
        have hp := hC.pif
        have e10 : a.tmps.getD 3 undef = .slice (R 9).A (R 9).n (R 9).c := hp.pu (10, 3, (R 9).v) (by simp [rows, fgP, fgM, fgC, setR]) (hL 10 (by simp))
        have hOW := hC.own ⟨9, 97, ll ++ CodeM.fx 8 u1 ++ CodeM.fx 8 u2 ++ CodeM.fx 8 u3, none⟩ (by simp [fgM]) (hL 9 (by simp)) nofun
        have hNW := hC.len ⟨9, 97, ll ++ CodeM.fx 8 u1 ++ CodeM.fx 8 u2 ++ CodeM.fx 8 u3, none⟩ (by simp [fgM]) (hL 9 (by simp))
        have hBW := hC.bel
        generalize R 9 = r at *
        obtain ⟨rA, rn, rc⟩ := r
        dsimp only at *
        rw [hp.eq]
        refine of_assigns (P := Try.prog) _ _ _ _ ?_
        rw [ha0.out]
        simp only [asgs, List.map, e10]
        generalize a.tmps.getD 88 undef = u88
        generalize a.tmps.getD 89 undef = u89
        generalize a.tmps.getD 90 undef = u90
        generalize a.tmps.getD 91 undef = u91
        generalize a.tmps.getD 92 undef = u92
        generalize a.tmps.getD 93 undef = u93
        generalize a.tmps.getD 94 undef = u94
        generalize a.tmps.getD 95 undef = u95
        generalize a.tmps.getD 96 undef = u96
        generalize a.tmps.getD 97 undef = u97
        clear hp hL e10 ha0 z3 z6 hsz0 hC
        clear a0 a L R
        have hvs := hba.size
        go_wp2
        go_roundw
        case rel => exact ⟨q + 1, rA, rn, rc, rfl, by go_num, by omega, Lib.hid (by rw [HT.out]; exact hNW), by rw [← hNW]; simp only [List.length_append, CodeM.fx_length, hLL.out]; omega, by rw [HT.out]; exact hOW.base_ hvs, hba.trans (hBW.mono hvs)⟩
        case measure => simp [RowKit.intOf]; omega
      · obtain rfl : q = pn := by omega
        have htk : opn.take q = opn := List.take_of_length_le (by rw [HPP.out]; exact Nat.le_refl _)
        rw [htk] at hLL hOb
        obtain ⟨lo, hlo⟩ : ∃ lo, lu ++ opn.flatMap LogM.chB = lo := ⟨_, rfl⟩
        have HLO := Lib.hid hlo
        rw [hlo] at hLL hOb
        clear htk hlo
        obtain ⟨d0, d1, d2, d3, d4, d5, d6, d7, d8, d9, d10, d11, d12, d13, d14⟩ := (hx.below hB0 hgl).c15
        go_wp2_with fail
        refine (PutUv_at rA rc rn dn lo wr hOb.row hLL.out (by omega) (by omega)).mono ?_
        rintro e w3 ⟨A2, n2, c2, rfl, hn2, hO2, hb2⟩
        have hB2 := hB0.trans (hb2.mono hB0.size)
        have hO2 := hO2.base_ hB0.size
        clear d0 d1 d2 d3 d4 d5 d6 d7 d8 d9 d10 d11 d12 d13 d14 hb2 hOb hB0
        obtain ⟨lv, hlv⟩ : ∃ lv, lo ++ CodeM.uv dn = lv := ⟨_, rfl⟩
        have HLV := Lib.hid hlv
        rw [hlv] at hn2 hO2
        have hn15 : n2 ≤ 401 := by
          have h1 := HUP.out.2
          have h2 := hLL.out
          rw [← hn2.out, ← hlv, List.length_append, h2]; omega
        clear hlv hLL hrn
        obtain ⟨d0, d1, d2, d3, d4, d5, d6, d7, d8, d9, d10, d11, d12, d13, d14⟩ := (hx.below hB2 hgl).c15
        go_wp2
        clear d0 d1 d2 d3 d4 d5 d6 d7 d8 d9 d10 d11 d12 d13 d14
        go_loopw [3, 108] (fun b i wr => ∃ (q : Nat) (rA : Option Addr) (rn rc : Nat), b = .slice rA rn rc ∧ i = .int .i64 (q : Int) ∧ q ≤ dn ∧ Hid ((lv ++ (dirty.take q).flatMap LogM.dtB).length = rn) ∧ rn ≤ 401 + 12 * q ∧ Own wr V0.heap.size rA rc (lv ++ (dirty.take q).flatMap LogM.dtB) ∧ Below V0.heap.size V0 wr) (fun _ i _ => dn - (RowKit.intOf i).toNat)
        case atStart => exact ⟨0, A2, n2, c2, rfl, rfl, Nat.zero_le _, Lib.hid (by simpa using hn2.out), by omega, by simpa using hO2, hB2⟩
        case round =>
          clear hO2 hB2
          obtain ⟨z, rA, rn, rc, rfl, rfl, hz, hLL, hrn, hOb, hB0⟩ := hrel
          by_cases hlt2 : z < dn
          · obtain ⟨x, hxq⟩ : ∃ x, dirty[z]? = some x := ⟨_, List.getElem?_eq_getElem (by rw [HDD.out]; exact hlt2)⟩
            obtain ⟨u1, u2⟩ := x
            obtain ⟨b', o', hpA, e1, e2⟩ := row_dt (HS.out.below hB0).rd hxq
            dsimp only at hpA e1 e2
            obtain ⟨hu1, hu2⟩ := HF.out.dirty _ (List.mem_of_getElem? hxq)
            dsimp only at hu1 hu2
            have HT : Hid (lv ++ (dirty.take (z + 1)).flatMap LogM.dtB = lv ++ (dirty.take z).flatMap LogM.dtB ++ CodeM.fx 4 u1 ++ CodeM.fx 8 u2) := Lib.hid (by rw [take_flat _ hxq]; simp [LogM.dtB, List.append_assoc])
            obtain ⟨ll, hll⟩ : ∃ ll, lv ++ (dirty.take z).flatMap LogM.dtB = ll := ⟨_, rfl⟩
            rw [hll] at HT hLL hOb
            have HU := Lib.hid (And.intro hu1 hu2)
            clear hxq hll hu1 hu2
            subst hpA
            go_upto_region 26 with fail
            have hc := Blk.new wr 56 #[.int .u32 (u1 : Int), .int .u64 (u2 : Int)]
            have hcl : wr.heap.size < (wr.alloc (.cells #[.int .u32 (u1 : Int), .int .u64 (u2 : Int)] 56)).heap.size := by simp
            have hba : Below V0.heap.size V0 (wr.alloc (.cells #[.int .u32 (u1 : Int), .int .u64 (u2 : Int)] 56)) := hB0.alloc hB0.size _
            have hOb := hOb.alloc (.cells #[.int .u32 (u1 : Int), .int .u64 (u2 : Int)] 56)
            generalize wr.alloc (.cells #[.int .u32 (u1 : Int), .int .u64 (u2 : Int)] 56) = V2 at *
            obtain ⟨gq, hgq⟩ : ∃ gq, wr.heap.size = gq := ⟨_, rfl⟩
            rw [hgq] at hc hcl
            simp only [hgq]
            clear hgq e1 e2
            obtain ⟨hu1, hu2⟩ := HU.out
            have hll13 := hLL.out
            have hbV : V2.heap.size ≤ V2.heap.size := Nat.le_refl _
            refine wp_named fun a0 ha0 => ?_
            have z3 : a0.tmps.getD 3 undef = (.slice rA rn rc) := by rw [ha0.out]; rfl
            have z8 : a0.tmps.getD 8 undef = (.pointer (some ⟨gq, 0, none⟩)) := by rw [ha0.out]; rfl
            have hsz0 : a0.tmps.size = 132 := by rw [ha0.out]; rfl
            refine wp_region_invB _ (by kernel_rfl) (fun L a wv => ∃ R, Ch a0 [112, 113, 114, 115, 116, 117, 118, 3] (fhP u1 u2 ll rA rn rc gq) (fhM u1 u2 ll rA rn rc gq) fhC V2.heap.size V2 V0.heap.size (⟨rA, rn, rc⟩ : Rs) (ll) 3 [(3, 0), (6, 3)] 0 3 R L a wv) (by kernel_rfl) ?_ ?_ ?_
            · exact ⟨fun _ => ⟨none, 0, 0⟩, Ch.start hbV ⟨rfl, rfl, rfl, Nat.le_refl _, fun _ _ => rfl⟩ hOb⟩
            rotate_left
            · refine ⟨?_, ?_, ?_, ?_, ?_, ?_, ?_, ?_, trivial⟩
              · intro L a w1 hI hi hd
                obtain ⟨R, hC⟩ := hI
                have hi : L 0 = false := hi
                have hp := hC.pif
                have t3 := (hC.st hi).trans z3
                have t3' := t3
                rw [Array.getD_eq_getD_getElem?] at t3'
                exact rstep_valW (wanted_none rfl _) (.slice rA rn rc) w1 (by go_simp) ⟨R, hC.pure 0 112 (.slice rA rn rc) (by simp [rows, fhP, fhM, fhC, setR]) (by simp [rows, fhP, fhM, fhC, setR]) (by simp [fhM]) (by simp [fhC]) rfl (by rw [hsz0]; exact (by decide : 112 < 132)) (by decide) (by simp [hd]) (by simp)⟩
              · intro L a w1 hI hi hd
                obtain ⟨R, hC⟩ := hI
                have hi : L 1 = false := hi
                have hp := hC.pif
                have t8 := hp.at_ 8 _ rfl z8
                have t8' := t8
                rw [Array.getD_eq_getD_getElem?] at t8'
                exact rstep_valW (wanted_none rfl _) (.pointer (some ⟨gq, 0, none⟩)) w1 (by go_simp) ⟨R, hC.pure 1 113 (.pointer (some ⟨gq, 0, none⟩)) (by simp [rows, fhP, fhM, fhC, setR]) (by simp [rows, fhP, fhM, fhC, setR]) (by simp [fhM]) (by simp [fhC]) rfl (by rw [hsz0]; exact (by decide : 113 < 132)) (by decide) (by simp [hd]) (by simp)⟩
              · intro L a w1 hI hi hd
                obtain ⟨R, hC⟩ := hI
                have hi : L 2 = false := hi
                have hp := hC.pif
                simp [Region.binds] at hd
                have e1 : a.tmps.getD 113 undef = (.pointer (some ⟨gq, 0, none⟩)) := hp.pu (1, 113, (.pointer (some ⟨gq, 0, none⟩))) (by simp [rows, fhP, fhM, fhC, setR]) (by simp [hd])
                have f1 : a.tmps[113]?.getD undef = (.pointer (some ⟨gq, 0, none⟩)) := by rw [← Array.getD_eq_getD_getElem?]; exact e1
                obtain ⟨c0, c1⟩ := (hc.below hC.bel hcl).c2
                exact rstep_valW (wanted_none rfl _) (.int .u32 (u1 : Int)) w1 (by go_simp) ⟨R, hC.pure 2 114 (.int .u32 (u1 : Int)) (by simp [rows, fhP, fhM, fhC, setR]) (by simp [rows, fhP, fhM, fhC, setR]) (by simp [fhM]) (by simp [fhC]) rfl (by rw [hsz0]; exact (by decide : 114 < 132)) (by decide) (by simp [hd]) (by simp)⟩
              · intro L a w1 hI hi hd
                obtain ⟨R, hC⟩ := hI
                have hi : L 3 = false := hi
                have hp := hC.pif
                simp [Region.binds] at hd
                have e0 : a.tmps.getD 112 undef = (.slice rA rn rc) := hp.pu (0, 112, (.slice rA rn rc)) (by simp [rows, fhP, fhM, fhC, setR]) (by simp [hd])
                have f0 : a.tmps[112]?.getD undef = (.slice rA rn rc) := by rw [← Array.getD_eq_getD_getElem?]; exact e0
                have e2 : a.tmps.getD 114 undef = (.int .u32 (u1 : Int)) := hp.pu (2, 114, (.int .u32 (u1 : Int))) (by simp [rows, fhP, fhM, fhC, setR]) (by simp [hd])
                have f2 : a.tmps[114]?.getD undef = (.int .u32 (u1 : Int)) := by rw [← Array.getD_eq_getD_getElem?]; exact e2
                have hO0 := hC.ex hi
                have hN0 : (ll).length = (⟨rA, rn, rc⟩ : Rs).n := hLL.out
                refine rstep_callW (wanted_none rfl _) 44 #[.slice (⟨rA, rn, rc⟩ : Rs).A (⟨rA, rn, rc⟩ : Rs).n (⟨rA, rn, rc⟩ : Rs).c, (.int .u32 (u1 : Int))] (by go_simp) ?_
                refine (Put32_at (⟨rA, rn, rc⟩ : Rs).A (⟨rA, rn, rc⟩ : Rs).c (⟨rA, rn, rc⟩ : Rs).n u1 (ll) w1 hO0.row hN0 (by rw [← hN0]; (try simp only [List.length_append, CodeM.fx_length, List.length_cons, List.length_nil]); omega) hu1).mono ?_
                rintro e w2 ⟨A', n', c', rfl, hn', hO, hb⟩
                exact ⟨_, hC.call ⟨3, 115, ll ++ CodeM.fx 4 u1, some 6⟩ (by simp [fhM]) ⟨A', n', c'⟩ hi hO hn'.out hb (by simp [fhM]) (by simp [fhP]) (by simp [rows, fhP, fhM, fhC, setR]) (by simp [rows, fhP, fhM, fhC, setR]) (by simp [fhC]) rfl (by rw [hsz0]; exact (by decide : 115 < 132)) (by simp [hd]) (by simp)⟩
              · intro L a w1 hI hi hd
                obtain ⟨R, hC⟩ := hI
                have hi : L 4 = false := hi
                have hp := hC.pif
                have t8 := hp.at_ 8 _ rfl z8
                have t8' := t8
                rw [Array.getD_eq_getD_getElem?] at t8'
                exact rstep_valW (wanted_none rfl _) (.pointer (some ⟨gq, 1, none⟩)) w1 (by go_simp) ⟨R, hC.pure 4 116 (.pointer (some ⟨gq, 1, none⟩)) (by simp [rows, fhP, fhM, fhC, setR]) (by simp [rows, fhP, fhM, fhC, setR]) (by simp [fhM]) (by simp [fhC]) rfl (by rw [hsz0]; exact (by decide : 116 < 132)) (by decide) (by simp [hd]) (by simp)⟩
              · intro L a w1 hI hi hd
                obtain ⟨R, hC⟩ := hI
                have hi : L 5 = false := hi
                have hp := hC.pif
                simp [Region.binds] at hd
                have e4 : a.tmps.getD 116 undef = (.pointer (some ⟨gq, 1, none⟩)) := hp.pu (4, 116, (.pointer (some ⟨gq, 1, none⟩))) (by simp [rows, fhP, fhM, fhC, setR]) (by simp [hd])
                have f4 : a.tmps[116]?.getD undef = (.pointer (some ⟨gq, 1, none⟩)) := by rw [← Array.getD_eq_getD_getElem?]; exact e4
                obtain ⟨c0, c1⟩ := (hc.below hC.bel hcl).c2
                exact rstep_valW (wanted_none rfl _) (.int .u64 (u2 : Int)) w1 (by go_simp) ⟨R, hC.pure 5 117 (.int .u64 (u2 : Int)) (by simp [rows, fhP, fhM, fhC, setR]) (by simp [rows, fhP, fhM, fhC, setR]) (by simp [fhM]) (by simp [fhC]) rfl (by rw [hsz0]; exact (by decide : 117 < 132)) (by decide) (by simp [hd]) (by simp)⟩
              · intro L a w1 hI hi hd
                obtain ⟨R, hC⟩ := hI
                have hi : L 6 = false := hi
                have hp := hC.pif
                simp [Region.binds] at hd
                have e3 : a.tmps.getD 115 undef = (.slice (R 3).A (R 3).n (R 3).c) := hp.pu (3, 115, (R 3).v) (by simp [rows, fhP, fhM, fhC, setR]) (by simp [hd])
                have f3 : a.tmps[115]?.getD undef = (.slice (R 3).A (R 3).n (R 3).c) := by rw [← Array.getD_eq_getD_getElem?]; exact e3
                have e5 : a.tmps.getD 117 undef = (.int .u64 (u2 : Int)) := hp.pu (5, 117, (.int .u64 (u2 : Int))) (by simp [rows, fhP, fhM, fhC, setR]) (by simp [hd])
                have f5 : a.tmps[117]?.getD undef = (.int .u64 (u2 : Int)) := by rw [← Array.getD_eq_getD_getElem?]; exact e5
                have hO0 := hC.own ⟨3, 115, ll ++ CodeM.fx 4 u1, some 6⟩ (by simp [fhM]) (by simp [hd]) (by intro k hk; injection hk with hk; rw [← hk]; exact hi)
                have hN0 := hC.len ⟨3, 115, ll ++ CodeM.fx 4 u1, some 6⟩ (by simp [fhM]) (by simp [hd])
                refine rstep_callW (wanted_none rfl _) 45 #[.slice (R 3).A (R 3).n (R 3).c, (.int .u64 (u2 : Int))] (by go_simp) ?_
                refine (Put64_at (R 3).A (R 3).c (R 3).n u2 (ll ++ CodeM.fx 4 u1) w1 hO0.row hN0 (by rw [← hN0]; (try simp only [List.length_append, CodeM.fx_length, List.length_cons, List.length_nil]); omega) hu2).mono ?_
                rintro e w2 ⟨A', n', c', rfl, hn', hO, hb⟩
                exact ⟨_, hC.call ⟨6, 118, ll ++ CodeM.fx 4 u1 ++ CodeM.fx 8 u2, none⟩ (by simp [fhM]) ⟨A', n', c'⟩ hi hO hn'.out hb (by simp [fhM]) (by simp [fhP]) (by simp [rows, fhP, fhM, fhC, setR]) (by simp [rows, fhP, fhM, fhC, setR]) (by simp [fhC]) rfl (by rw [hsz0]; exact (by decide : 118 < 132)) (by simp [hd]) (by simp)⟩
              · intro L a w1 hI hi hd
                obtain ⟨R, hC⟩ := hI
                have hi : L 7 = false := hi
                have hp := hC.pif
                simp [Region.binds] at hd
                have e6 : a.tmps.getD 118 undef = (.slice (R 6).A (R 6).n (R 6).c) := hp.pu (6, 118, (R 6).v) (by simp [rows, fhP, fhM, fhC, setR]) (by simp [hd])
                have f6 : a.tmps[118]?.getD undef = (.slice (R 6).A (R 6).n (R 6).c) := by rw [← Array.getD_eq_getD_getElem?]; exact e6
                exact rstep_valW (wanted_none rfl _) (.slice (R 6).A (R 6).n (R 6).c) w1 (by go_simp) ⟨R, hC.copy 7 3 6 (by simp [hd]) (by simp [rows, fhP, fhM, fhC, setR]) (by simp [rows, fhP, fhM, fhC, setR]) (by simp [fhM]) (by simp [fhC]) rfl (by rw [hsz0]; exact (by decide : 3 < 132)) (by decide) (by simp [hd]) (fun _ => .inl (hC.dep (3, 0) (by simp) (hC.dep (6, 3) (by simp) (by simp [hd]))))⟩
            rintro L a W ⟨R, hC⟩ hL
            have hp := hC.pif
            have e7 : a.tmps.getD 3 undef = .slice (R 6).A (R 6).n (R 6).c := hp.pu (7, 3, (R 6).v) (by simp [rows, fhP, fhM, fhC, setR]) (hL 7 (by simp))
            have hOW := hC.own ⟨6, 118, ll ++ CodeM.fx 4 u1 ++ CodeM.fx 8 u2, none⟩ (by simp [fhM]) (hL 6 (by simp)) nofun
            have hNW := hC.len ⟨6, 118, ll ++ CodeM.fx 4 u1 ++ CodeM.fx 8 u2, none⟩ (by simp [fhM]) (hL 6 (by simp))
            have hBW := hC.bel
            generalize R 6 = r at *
            obtain ⟨rA, rn, rc⟩ := r
            dsimp only at *
            rw [hp.eq]
            refine of_assigns (P := Try.prog) _ _ _ _ ?_
            rw [ha0.out]
            simp only [asgs, List.map, e7]
            generalize a.tmps.getD 112 undef = u112
            generalize a.tmps.getD 113 undef = u113
            generalize a.tmps.getD 114 undef = u114
            generalize a.tmps.getD 115 undef = u115
            generalize a.tmps.getD 116 undef = u116
            generalize a.tmps.getD 117 undef = u117
            generalize a.tmps.getD 118 undef = u118
            clear hp hL e7 ha0 z3 z8 hsz0 hC
            clear a0 a L R
            have hvs := hba.size
            go_wp2
            go_roundw
            case rel => exact ⟨z + 1, rA, rn, rc, rfl, by go_num, by omega, Lib.hid (by rw [HT.out]; exact hNW), by rw [← hNW]; simp only [List.length_append, CodeM.fx_length, hLL.out]; omega, by rw [HT.out]; exact hOW.base_ hvs, hba.trans (hBW.mono hvs)⟩
            case measure => simp [RowKit.intOf]; omega
          · obtain rfl : z = dn := by omega
            have htk : dirty.take z = dirty := List.take_of_length_le (by rw [HDD.out]; exact Nat.le_refl _)
            rw [htk] at hLL hOb
            have HBE : Hid (LogM.body ⟨5, lsn, epoch, txn, page, off, old, new, undo, prev, next, clr, stamp, opn, dirty⟩ = lv ++ dirty.flatMap LogM.dtB) := Lib.hid (by rw [HBD.out, ← HLV.out, ← HLO.out, ← HLU.out])
            clear htk
            go_wp2
            go_meet
            case rel => exact ⟨rA, rn, rc, rfl, by rw [HBE.out]; exact hOb, by rw [HBE.out]; exact hLL.out, by omega, hB0⟩
  case rest =>
    obtain ⟨A, n, c, rfl, hO, hn, hn12, hB⟩ := hcut
    have HBD := Lib.hid hn
    obtain ⟨bd, hbd⟩ : ∃ bd, LogM.body ⟨kind, lsn, epoch, txn, page, off, old, new, undo, prev, next, clr, stamp, opn, dirty⟩ = bd := ⟨_, rfl⟩
    have HRS : Hid (LogM.rest ⟨kind, lsn, epoch, txn, page, off, old, new, undo, prev, next, clr, stamp, opn, dirty⟩ = CodeM.fx 2 (n + 6) ++ bd) := Lib.hid (by unfold LogM.rest; rw [hn, hbd])
    have HFM : Hid (LogM.form ⟨kind, lsn, epoch, txn, page, off, old, new, undo, prev, next, clr, stamp, opn, dirty⟩ = CodeM.fx 4 (CrcM.sum (CodeM.fx 2 (n + 6) ++ bd)).toNat ++ (CodeM.fx 2 (n + 6) ++ bd)) := Lib.hid (by unfold LogM.form; rw [HRS.out])
    rw [hbd] at hn hO
    clear hbd
    have hw16 : IntKind.u16.wrap ((n : Int) + 6) = ((n + 6 : Nat) : Int) := by rw [IntKind.wrap_u16]; omega
    have HN := Lib.hid hn
    clear hn
    go_wp2_with fail
    refine (Put16_at none 0 0 (n + 6) [] wc (.inl rfl) rfl (by omega) (by omega)).mono ?_
    rintro e w1 ⟨A1, n1, c1, rfl, hn1, hO1, hb1⟩
    have hB1 := hB.trans (hb1.mono hB.size)
    have hR1 := (hO.below hb1).row
    have hvc := hB.size
    obtain rfl : 2 = n1 := by rw [← hn1.out]; simp [CodeM.fx_length]
    rw [List.nil_append] at hO1
    have hbase : wc.heap.size ≤ w1.heap.size := hb1.size
    clear hn1 hO hB
    go_wp2_with (at_builtin; refine wpl_app' _ rfl (.tmp 124) (.tmp 125) rfl wc.heap.size A1 c1 (CodeM.fx 2 (n + 6)) 2 rfl (CodeM.fx_length _ _) hO1 A c bd n rfl HN.out hR1 ?_ ?_ ?_)
    · omega
    · exact hbase
    intro A3 c3 w3 h3 hg3 _
    have hB3 : Below V0.heap.size V0 w3 := hO1.grown_below (by rw [CodeM.fx_length]) hg3 hB1 (by omega) hB1.size
    clear hO1 hg3 hB1 hR1 hbase hw16
    obtain ⟨rs, hrs⟩ : ∃ rs, CodeM.fx 2 (n + 6) ++ bd = rs := ⟨_, rfl⟩
    have hrl : rs.length = 2 + n := by rw [← hrs, List.length_append, CodeM.fx_length, HN.out]
    rw [hrs] at h3 HFM HRS
    have HRL := Lib.hid hrl
    have hsl := (CrcM.sum rs).isLt
    obtain ⟨sm, hsm⟩ : ∃ sm, (CrcM.sum rs).toNat = sm := ⟨_, rfl⟩
    have hcall := sum_at A3 c3 (2 + n) rs w3 h3.row hrl.symm (by omega)
    rw [hsm] at hcall hsl HFM
    have HC := Lib.hid hcall
    clear hrs hrl hsm hcall
    go_wp2_with fail
    refine HC.out.mono ?_
    rintro e w4 ⟨rfl, hb4⟩
    have hB4 := hB3.trans (hb4.mono hB3.size)
    have h4 := h3.below hb4
    clear HC h3 hb4 hB3
    go_wp2_with fail
    refine (Put32_at none 0 0 sm [] w4 (.inl rfl) rfl (by omega) hsl).mono ?_
    rintro e w5 ⟨A5, n5, c5, rfl, hn5, hO5, hb5⟩
    have hB5 := hB4.trans (hb5.mono hB4.size)
    have hR5 := (h4.below hb5).row
    obtain rfl : 4 = n5 := by rw [← hn5.out]; simp [CodeM.fx_length]
    rw [List.nil_append] at hO5
    have hbase : w4.heap.size ≤ w5.heap.size := hb5.size
    clear hn5 h4
    go_wp2_with (at_builtin; refine wpl_app' _ rfl (.tmp 129) (.tmp 130) rfl w4.heap.size A5 c5 (CodeM.fx 4 sm) 4 rfl (CodeM.fx_length _ _) hO5 A3 c3 rs (2 + n) rfl HRL.out hR5 ?_ ?_ ?_)
    · omega
    · exact hbase
    intro A7 c7 w7 h7 hg7 _
    have hB7 : Below V0.heap.size V0 w7 := hO5.grown_below (by rw [CodeM.fx_length]) hg7 hB5 hB4.size hB5.size
    have hv := HB0.out.size
    have hs4 := hB4.size
    clear hO5 hg7 hB5 hR5 hbase
    go_wp2
    go_ret
    refine ⟨A7, _, c7, rfl, Lib.hid ?_, ?_, ?_⟩
    · rw [HFM.out, List.length_append, CodeM.fx_length, HRL.out]
    · rw [HFM.out]; exact h7.base_ (by omega)
    · exact HB0.out.trans (hB7.mono hv)
end Go.Proofs.Ytpgmhjjdnanlgaa
