/-
  Lists of slices of the call's own; what bytes are split into.
  Conditions: the bytes lie in memory as a list; their number is bounded.
-/
import Derived.Test.YtgcognefggbpjaaFrmW5
import Derived.Test.YtgcognefggbpjaaFrmM2
namespace Go.Proofs.Ytgcognefggbpjaa
open Go.RowKit Go.Sort Go.Lib
set_option linter.unusedVariables false
theorem info_by : (Try.prog.info? 22).map (fun i => (i.zero, i.size, i.bytes)) = some (some (.slice none 0 0), 1, 24) := by kernel_rfl
/-- A slice of bytes. -/
structure Sl where
  A : Option Addr
  n : Nat
  c : Nat
  l : List UInt8
def Sl.val (p : Sl) : Value := .slice p.A p.n p.c
def OwnL (w : World) (base : Nat) (A : Option Addr) (n c : Nat) (ps : List Sl) : Prop := w.ownsRow base 22 1 (.slice A n c) n (ps.map Sl.val)
/-- A list of slices, each in memory of its own. -/
structure LSt (base : Nat) (Ao : Option Addr) (k co : Nat) (ps : List Sl) (w : World) : Prop where
  own : OwnL w base Ao k co ps
  each : ∀ p ∈ ps, p.l.length = p.n ∧ Own w base p.A p.c p.l
  apart : ps.Pairwise fun p q => ∀ a a', p.A = some a → q.A = some a' → a.block < a'.block
  out : ∀ p ∈ ps, ∀ a a', p.A = some a → Ao = some a' → a.block ≠ a'.block
section
variable {w w' : World} {base k co : Nat} {Ao : Option Addr} {ps : List Sl}
theorem Own.blk {c : Nat} {A : Option Addr} {l : List UInt8} (h : Own w base A c l) {a : Addr} (ha : A = some a) : base ≤ a.block ∧ a.block < w.heap.size := by
  subst ha
  exact World.ownsRow.lt h _ rfl
theorem OwnL.blk {n c : Nat} {A : Option Addr} (h : OwnL w base A n c ps) {a : Addr} (ha : A = some a) : base ≤ a.block ∧ a.block < w.heap.size := by
  subst ha
  exact World.ownsRow.lt h _ rfl
theorem OwnL.len {n c : Nat} {A : Option Addr} (h : OwnL w base A n c ps) : ps.length = n := by
  have := h.1
  rw [List.length_map] at this; omega
theorem OwnL.below {n c : Nat} {A : Option Addr} (h : OwnL w base A n c ps) (hb : Below w.heap.size w w') : OwnL w' base A n c ps := by
  refine ⟨h.1, ?_⟩
  rcases h.2 with hn | ⟨g, cap, cur, e, hb', hg, rest⟩
  · exact .inl hn
  · refine .inr ⟨g, cap, cur, e, hb', ?_, rest⟩
    rw [hb.block g (Array.getElem?_eq_some_iff.1 hg).1]; exact hg
theorem LSt.nil (w : World) (base : Nat) : LSt base none 0 0 [] w := ⟨World.ownsRow_nil w base _ 1, (fun p h => by cases h), List.Pairwise.nil, (fun p h => by cases h)⟩
theorem LSt.below (h : LSt base Ao k co ps w) (hb : Below w.heap.size w w') : LSt base Ao k co ps w' :=
  ⟨h.own.below hb, fun p hp => ⟨(h.each p hp).1, (h.each p hp).2.below hb⟩, h.apart, h.out⟩
theorem Own.kept2 {c : Nat} {A : Option Addr} {l : List UInt8} {row : Option Nat} (h : Own w base A c l) (hg : w.grownBy w' row) (hne : ∀ a, A = some a → row ≠ some a.block) : Own w' base A c l := by
  refine World.ownsRow.kept h hg ?_
  rcases h.2 with ⟨hv, hn⟩ | ⟨g', cap, cur, hv, hb, _⟩
  · left; injection hv with e; rw [e]; rfl
  · right; injection hv with e; rw [e]; simp only [Value.ownBlock]; intro q; exact hne _ e q.symm
theorem sl_one (ps : List Sl) : ∀ u ∈ ps.map Sl.val, u.oneCell' = true := by
  intro u hu
  obtain ⟨p, _, rfl⟩ := List.mem_map.1 hu
  rfl
/-- append of one slice. -/
theorem wpl_appL (w : World) {ops : Array Oper} {rest : List Oper} {o : Oper} {a : Act} {Q : Exit → Act → World → Prop} (hgd : Region.wanted o (yielded ops a.tmps) = true) (s x : Operand)
    (ho : o.op = .call { callee := .builtin .append, args := #[s, x], argTypes := #[68, 68] })
    (base : Nat) (Ao : Option Addr) (k co : Nat) (ps : List Sl) (hs : a.eval s = .slice Ao k co) (A2 : Option Addr) (c2 : Nat) (p : Sl) (hx : a.eval x = .slice A2 1 c2) (hr : Row w A2 [p.val])
    (w1 : World) (hL : LSt base Ao k co ps w1) (hp : p.l.length = p.n ∧ Own w base p.A p.c p.l) (hnew : ∀ a, p.A = some a → w1.heap.size ≤ a.block) (hb : Below w1.heap.size w1 w)
    (hlen : k + 1 ≤ 100000) (hbase : base ≤ w1.heap.size)
    (h : ∀ A' c' w', LSt base A' (k + 1) c' (ps ++ [p]) w' → Below base w1 w' → wpList Try.prog ops Q rest (a.put o.dst (.slice A' (k + 1) c')) w') : wpList Try.prog ops Q (o :: rest) a w := by
  obtain ⟨i0, hi0, hz0, hz1, hz2⟩ := info_parts info_by
  have hL2 := hL.below hb
  refine wpl_append w hgd s x _ ho base 22 i0 _ 1 24 Try.underlying68 hi0 hz0 hz1 hz2 rfl (by omega) _ k _ hs hL2.own A2 1 c2 [p.val] hx rfl hr (sl_one [p])
    (by unfold maxLen; omega) (by omega) (Nat.le_trans hbase hb.size) fun A' c' w' h1 h2 h3 => h A' c' w' ?_ ?_
  · have hnp : ∀ q ∈ ps, ∀ a, q.A = some a → (Value.slice Ao k co).ownBlock ≠ some a.block := by
      intro q hq a ha e
      cases Ao with
      | none => cases e
      | some ao => injection e with e; exact hL.out q hq a ao ha rfl e.symm
    have hnn : ∀ a, p.A = some a → (Value.slice Ao k co).ownBlock ≠ some a.block := by
      intro a ha e
      cases Ao with
      | none => cases e
      | some ao =>
        injection e with e
        have h4 := (hL.own.blk (a := ao) rfl).2
        have h5 := hnew a ha
        rw [← e] at h5
        exact absurd h4 (Nat.not_lt.2 h5)
    refine ⟨by unfold OwnL; rw [List.map_append]; exact h1, ?_, ?_, ?_⟩
    · intro q hq
      rcases List.mem_append.1 hq with hq | hq
      · exact ⟨(hL2.each q hq).1, (hL2.each q hq).2.kept2 h2 (hnp q hq)⟩
      · rw [List.mem_singleton] at hq
        subst hq
        exact ⟨hp.1, hp.2.kept2 h2 hnn⟩
    · rw [List.pairwise_append]
      refine ⟨hL.apart, by simp, fun q hq r hr a a' ha ha' => ?_⟩
      rw [List.mem_singleton] at hr
      subst hr
      have h4 := ((hL.each q hq).2.blk ha).2
      have h5 := hnew a' ha'
      omega
    · intro q hq a a' ha ha'
      have hlt : a.block < w.heap.size := by
        rcases List.mem_append.1 hq with hq | hq
        · exact ((hL2.each q hq).2.blk ha).2
        · rw [List.mem_singleton] at hq
          subst hq
          exact (hp.2.blk ha).2
      subst ha'
      rcases h3 with h3 | h3
      · intro e
        have e2 : (Value.slice Ao k co).ownBlock = some a.block := by rw [← h3, e]; rfl
        rcases List.mem_append.1 hq with hq | hq
        · exact hnp q hq a ha e2
        · rw [List.mem_singleton] at hq
          subst hq
          exact hnn a ha e2
      · injection h3 with h3
        have h3 : a'.block = w.heap.size := h3
        omega
  · have hb2 : Below base w1 w := hb.mono hbase
    exact hb2.grown h2 (Nat.le_trans hbase hb.size) (fun g hg => by have := World.ownsRow.lt hL2.own g hg; omega)
end
/-- What splitting leaves. -/
structure Parts (b : List UInt8) (w : World) (Ao : Option Addr) (K co : Nat) (ps : List Sl) (Ar : Option Addr) (nr cr : Nat) (w' : World) : Prop where
  lst : LSt w.heap.size Ao K co ps w'
  pcs : ∀ j p, ps[j]? = some p → p.l = FrmM.pc b j
  ok : ∀ j, j < K → (FrmM.sz (FrmM.it b j)).2 = 0
  stop : (FrmM.sz (FrmM.it b K)).2 ≠ 0
  rl : (FrmM.it b K).length = nr
  rest : Own w' w.heap.size Ar cr (FrmM.it b K)
  far : ∀ a, Ar = some a → (∀ p ∈ ps, ∀ a', p.A = some a' → a'.block ≠ a.block) ∧ ∀ a', Ao = some a' → a'.block ≠ a.block
  bel : Below w.heap.size w w'
def SplitPost (b : List UInt8) (w : World) (e : Ending) (w' : World) : Prop := ∃ Ao K co ps Ar nr cr, e = .returned (.tuple #[.slice Ao K co, .slice Ar nr cr, .int .i64 (if (FrmM.sz (FrmM.it b K)).2 = 3 then 3 else 0)]) ∧ Parts b w Ao K co ps Ar nr cr w'
theorem sl_new (w : World) (p : Sl) : Row (w.alloc (.cells #[.slice p.A p.n p.c] 22)) (some ⟨w.heap.size, 0, none⟩) [p.val] :=
  .inr ⟨w.heap.size, 0, rfl, fun j u hu => by rw [Nat.zero_add, Blk.cell (Blk.new w 22 #[.slice p.A p.n p.c]) j]; simpa [Sl.val] using hu⟩
set_option maxRecDepth 100000 in
set_option maxHeartbeats 1000000 in
theorem split_any (A : Option Addr) (n c : Nat) (b : List UInt8) (w : World) (hn : b.length = n) (hnc : n ≤ c) (hl : n ≤ 300000) (hr : Row w A (bs b)) :
    Calls Try.prog 40 #[.slice A n c] w (SplitPost b w) := by
  have HR := Lib.hid hr
  clear hr
  go_enter Try.func40, Try.ntmps40
  go_wp2
  go_loopw [0, 5, 6, 7] (fun bv out _ _ wr => ∃ (k : Nat) (Ab : Option Addr) (nb cb : Nat) (Ao : Option Addr) (co : Nat) (ps : List Sl), bv = .slice Ab nb cb ∧ out = .slice Ao k co ∧ (FrmM.it b k).length = nb ∧ nb ≤ cb ∧
    (∀ W, Row W A (bs b) → Row W Ab (bs (FrmM.it b k))) ∧ LSt w.heap.size Ao k co ps wr ∧ (∀ j p, ps[j]? = some p → p.l = FrmM.pc b j) ∧ (∀ j, j < k → (FrmM.sz (FrmM.it b j)).2 = 0) ∧ Below w.heap.size w wr)
    (fun bv _ _ _ _ => match bv with | .slice _ nb _ => nb | _ => 0)
  case atStart => exact ⟨0, A, n, c, none, 0, [], rfl, rfl, hn, hnc, fun W h => h, LSt.nil _ _, (fun j p h => by simp at h), (fun j h => by omega), Below.refl _ _⟩
  case round =>
    obtain ⟨k, Ab, nb, cb, Ao, co, ps, rfl, rfl, hbl, hbc, hrow, hL, hpc, hok, hbel⟩ := hrel
    have hlen := FrmM.it_len k hok
    rw [hbl, hn] at hlen
    have hrb := (hrow w HR.out).below hbel
    have HROW := Lib.hid hrow
    have HL := Lib.hid hL
    have HPC := Lib.hid hpc
    have HOK := Lib.hid hok
    have HBEL := Lib.hid hbel
    have HBL := Lib.hid hbl
    have hfs := framesize_any Ab nb cb (FrmM.it b k) wr hbl hrb (by omega)
    obtain ⟨z1, hz1⟩ : ∃ z, (FrmM.sz (FrmM.it b k)).1 = z := ⟨_, rfl⟩
    obtain ⟨z2, hz2⟩ : ∃ z, (FrmM.sz (FrmM.it b k)).2 = z := ⟨_, rfl⟩
    have hzc := FrmM.sz_cases (FrmM.it b k)
    rw [hz1, hz2] at hfs hzc
    rw [hbl] at hzc
    have HFS := Lib.hid hfs
    have HZ1 := Lib.hid hz1
    have HZ2 := Lib.hid hz2
    have HRB := Lib.hid hrb
    clear hfs hz1 hz2 hrow hL hpc hok hbel hbl hrb
    go_wp2_with fail
    refine HFS.out.mono ?_
    rintro e w1 ⟨rfl, hb1⟩
    have HB1 := Lib.hid (below_step HBEL.out hb1 (Nat.le_refl _))
    have HL1 := Lib.hid (HL.out.below hb1)
    have HRB1 := Lib.hid (HRB.out.below hb1)
    clear hb1 HFS
    rcases hzc with rfl | rfl | ⟨rfl, hz20, hz4⟩
    · go_wp2_with fail
      refine (clone_len Ab cb nb (FrmM.it b k) w1 HRB1.out HBL.out (by omega)).mono ?_
      rintro e w2 ⟨Ar, nr, cr, rfl, hnr, or_, b2⟩
      have P2 : Hid (Parts b w Ao k co ps Ar nr cr w2) := Lib.hid ⟨HL1.out.below b2, HPC.out, HOK.out, by rw [HZ2.out]; omega, hnr.out, or_.base_ HB1.out.size,
        (fun a ha => ⟨fun p hp a' ha' => by have := ((HL1.out.each p hp).2.blk ha').2; have := (or_.blk ha).1; omega, fun a' ha' => by have := (HL1.out.own.blk ha').2; have := (or_.blk ha).1; omega⟩),
        below_step HB1.out b2 (Nat.le_refl _)⟩
      clear or_ b2
      go_wp2
      go_ret3
      refine ⟨Ao, k, co, ps, Ar, nr, cr, ?_, P2.out⟩
      rw [HZ2.out]; rfl
    · go_wp2_with fail
      refine (clone_len Ab cb nb (FrmM.it b k) w1 HRB1.out HBL.out (by omega)).mono ?_
      rintro e w2 ⟨Ar, nr, cr, rfl, hnr, or_, b2⟩
      have P2 : Hid (Parts b w Ao k co ps Ar nr cr w2) := Lib.hid ⟨HL1.out.below b2, HPC.out, HOK.out, by rw [HZ2.out]; omega, hnr.out, or_.base_ HB1.out.size,
        (fun a ha => ⟨fun p hp a' ha' => by have := ((HL1.out.each p hp).2.blk ha').2; have := (or_.blk ha).1; omega, fun a' ha' => by have := (HL1.out.own.blk ha').2; have := (or_.blk ha).1; omega⟩),
        below_step HB1.out b2 (Nat.le_refl _)⟩
      clear or_ b2
      go_wp2
      go_ret3
      refine ⟨Ao, k, co, ps, Ar, nr, cr, ?_, P2.out⟩
      rw [HZ2.out]; rfl
    · have hlb : 4 ≤ nb := by omega
      obtain ⟨gb, o, rfl, _⟩ := HRB1.out.byte (k := 0) (by rw [HBL.out]; omega)
      have HCUT : Hid (∀ k' W, Row W (some ⟨gb, o, none⟩) (bs (FrmM.it b k)) → (cb = k' → Row W (some ⟨gb, o, none⟩) (bs ((FrmM.it b k).drop k'))) ∧ Row W (some ⟨gb, o + k', none⟩) (bs ((FrmM.it b k).drop k'))) := Lib.hid (by
        intro k' W hW
        have hcb : (bs (FrmM.it b k)).length ≤ cb := by rw [bs_length, HBL.out]; exact hbc
        have hm : some (⟨gb, o + k', none⟩ : Addr) = (some (⟨gb, o, none⟩ : Addr)).map (·.add k') := by simp [Addr.add_lit]
        refine ⟨fun q => ?_, ?_⟩
        · have := hW.cutAt (k := k') (cap := cb) (A' := some ⟨gb, o, none⟩) hcb (fun q' => absurd q q')
          rw [bs_drop]; exact this
        · rw [bs_drop]
          by_cases q : cb = k'
          · rw [List.drop_eq_nil_of_le (by omega)]; exact Row.nil _ _
          · exact hW.cutAt (k := k') (cap := cb) hcb (fun _ => hm))
      have HPL : Hid ((FrmM.pc b k).length = z1) := Lib.hid (by rw [FrmM.pc_len HZ2.out, HZ1.out])
      have HPE : Hid (FrmM.pc b k = ((FrmM.it b k).drop 4).take z1) := Lib.hid (by unfold FrmM.pc; rw [HZ1.out])
      have HNX : Hid (FrmM.it b (k + 1) = (FrmM.it b k).drop (4 + z1)) := Lib.hid (by show (FrmM.it b k).drop (4 + (FrmM.sz (FrmM.it b k)).1) = _; rw [HZ1.out])
      have HNL : Hid ((FrmM.it b (k + 1)).length = nb - (4 + z1)) := Lib.hid (by rw [HNX.out, List.length_drop, HBL.out])
      have HOK2 : Hid (∀ j, j < k + 1 → (FrmM.sz (FrmM.it b j)).2 = 0) := Lib.hid (fun j hj => by
        by_cases q : j = k
        · rw [q]; exact HZ2.out
        · exact HOK.out j (by omega))
      have HCLN : Hid (∀ A4 c4, Row w1 A4 (bs (FrmM.pc b k)) → Calls Try.prog 57 #[.slice A4 z1 c4] w1 (NewB (FrmM.pc b k) w1)) := Lib.hid (fun A4 c4 h4 => clone_len A4 c4 z1 (FrmM.pc b k) w1 h4 HPL.out (by omega))
      have HPC4 : Hid (∀ A4, Row w1 A4 (bs ((FrmM.it b k).drop 4)) → Row w1 A4 (bs (FrmM.pc b k))) := Lib.hid (fun A4 h4 => by rw [HPE.out, bs_take]; exact h4.take z1)
      have hpsl := HL.out.own.len
      have HFIN : Hid (∀ (Bq : Option Addr) (nq cq : Nat) (w2 : World), Hid ((FrmM.pc b k).length = nq) → Own w2 w1.heap.size Bq cq (FrmM.pc b k) → Below w1.heap.size w1 w2 →
          (∀ j p, (ps ++ [(⟨Bq, nq, cq, FrmM.pc b k⟩ : Sl)])[j]? = some p → p.l = FrmM.pc b j)) := Lib.hid (by
        intro Bq nq cq w2 h1 h2 h3 j p hp
        by_cases q : j < k
        · rw [List.getElem?_append_left (by omega)] at hp
          exact HPC.out j p hp
        · rw [List.getElem?_append_right (by omega)] at hp
          have h0 : j - ps.length = 0 := by
            have := (List.getElem?_eq_some_iff.1 hp).1
            simp at this; omega
          rw [h0] at hp
          simp at hp
          rw [← hp]
          show FrmM.pc b k = _
          congr 1; omega)
      clear hpsl
      go_wp2_with fail
      · refine (HCLN.out _ _ (HPC4.out _ ((HCUT.out 4 w1 HRB1.out).1 (by assumption)))).mono ?_
        rintro e w2 ⟨Bq, nq, cq, rfl, hnq, oq, b2⟩
        have s12 := b2.size
        have s01 := HB1.out.size
        have OQ := Lib.hid oq
        have B2 := Lib.hid b2
        have HP3 := Lib.hid (HFIN.out Bq nq cq w2 hnq oq b2)
        clear oq b2
        go_wp2_with (at_builtin; refine wpl_appL _ rfl (.tmp 25) (.tmp 31) rfl w.heap.size Ao k co ps rfl (some ⟨w2.heap.size, 0, none⟩) 1 ⟨Bq, nq, cq, FrmM.pc b k⟩ rfl (sl_new w2 ⟨Bq, nq, cq, FrmM.pc b k⟩) w1 HL1.out ⟨hnq.out, (OQ.out.alloc _).base_ s01⟩ (fun a ha => (OQ.out.blk ha).1) (B2.out.alloc s12 _) (by omega) s01 ?_)
        intro A' c' w3 hL3 hb3
        have L3 := Lib.hid hL3
        have B3 : Hid (Below w.heap.size w w3) := Lib.hid (HB1.out.trans hb3)
        clear hL3 hb3
        go_wp2
        go_roundw
        case rel =>
          refine ⟨k + 1, _, nb - (4 + z1), _, A', c', ps ++ [⟨Bq, nq, cq, FrmM.pc b k⟩], rfl, rfl, HNL.out, by omega, ?_, L3.out, HP3.out, HOK2.out, B3.out⟩
          intro W hW
          rw [HNX.out]
          first
            | exact (HCUT.out (4 + z1) W (HROW.out W hW)).1 (by omega)
            | (split
               · exact (HCUT.out (4 + z1) W (HROW.out W hW)).1 (by assumption)
               · exact (HCUT.out (4 + z1) W (HROW.out W hW)).2)
        case measure => simp; omega
      · refine (HCLN.out _ _ (HPC4.out _ ((HCUT.out 4 w1 HRB1.out).2))).mono ?_
        rintro e w2 ⟨Bq, nq, cq, rfl, hnq, oq, b2⟩
        have s12 := b2.size
        have s01 := HB1.out.size
        have OQ := Lib.hid oq
        have B2 := Lib.hid b2
        have HP3 := Lib.hid (HFIN.out Bq nq cq w2 hnq oq b2)
        clear oq b2
        go_wp2_with (at_builtin; refine wpl_appL _ rfl (.tmp 25) (.tmp 31) rfl w.heap.size Ao k co ps rfl (some ⟨w2.heap.size, 0, none⟩) 1 ⟨Bq, nq, cq, FrmM.pc b k⟩ rfl (sl_new w2 ⟨Bq, nq, cq, FrmM.pc b k⟩) w1 HL1.out ⟨hnq.out, (OQ.out.alloc _).base_ s01⟩ (fun a ha => (OQ.out.blk ha).1) (B2.out.alloc s12 _) (by omega) s01 ?_)
        intro A' c' w3 hL3 hb3
        have L3 := Lib.hid hL3
        have B3 : Hid (Below w.heap.size w w3) := Lib.hid (HB1.out.trans hb3)
        clear hL3 hb3
        go_wp2
        go_roundw
        case rel =>
          refine ⟨k + 1, _, nb - (4 + z1), _, A', c', ps ++ [⟨Bq, nq, cq, FrmM.pc b k⟩], rfl, rfl, HNL.out, by omega, ?_, L3.out, HP3.out, HOK2.out, B3.out⟩
          intro W hW
          rw [HNX.out]
          first
            | exact (HCUT.out (4 + z1) W (HROW.out W hW)).1 (by omega)
            | (split
               · exact (HCUT.out (4 + z1) W (HROW.out W hW)).1 (by assumption)
               · exact (HCUT.out (4 + z1) W (HROW.out W hW)).2)
        case measure => simp; omega
end Go.Proofs.Ytgcognefggbpjaa
