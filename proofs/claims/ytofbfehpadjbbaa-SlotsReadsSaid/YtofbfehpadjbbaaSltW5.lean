/-
  A slotted body with other bytes in a slot.
  Conditions: the lists lie in memory; their lengths are bounded.
-/
import Derived.Test.YtofbfehpadjbbaaSltW4
import Derived.Deep.RegionLaw
import Derived.Laws.ResultCell
namespace Go.Proofs.Ytofbfehpadjbbaa
open Go.RowKit Go.Sort Go.Lib
set_option linter.unusedVariables false
section
variable {w w' : World} {base G nF cA nD cD : Nat} {A D : Option Addr} {full : List Bool} {ps : List Sl}
theorem OwnF.some_ (h : OwnF w base A nF cA full) (hn : 0 < nF) : ∃ g, A = some ⟨g, 0, none⟩ ∧ base ≤ g ∧ g < w.heap.size := by
  rcases h.2 with ⟨hv, he⟩ | ⟨g, cap, cur, hv, hb, hg, _⟩
  · omega
  · injection hv with e _ _
    exact ⟨g, e, hb, (Array.getElem?_eq_some_iff.1 hg).1⟩
theorem OwnLs.some_ (h : OwnLs w base D nD cD ps) (hn : 0 < nD) : ∃ g, D = some ⟨g, 0, none⟩ ∧ base ≤ g ∧ g < w.heap.size := by
  rcases h.2 with ⟨hv, he⟩ | ⟨g, cap, cur, hv, hb, hg, _⟩
  · omega
  · injection hv with e _ _
    exact ⟨g, e, hb, (Array.getElem?_eq_some_iff.1 hg).1⟩
theorem OwnF.cell {g : Nat} (h : OwnF w base (some ⟨g, 0, none⟩) nF cA full) {k : Nat} (hk : k < nF) : ∃ b, w.cell? ⟨g, k, none⟩ = some (.bool b) := by
  obtain ⟨b, hb⟩ : ∃ b, full[k]? = some b := ⟨_, List.getElem?_eq_getElem (by rw [h.len]; exact hk)⟩
  obtain ⟨g', o, e, hc⟩ := row_any h.row (k := k) (u := .bool b) (by rw [List.getElem?_map, hb]; rfl)
  injection e with e
  injection e with e1 e2
  subst e1 e2
  rw [Nat.zero_add] at hc
  exact ⟨b, hc⟩
theorem OwnLs.cell {g : Nat} (h : OwnLs w base (some ⟨g, 0, none⟩) nD cD ps) {k : Nat} (hk : k < nD) : ∃ v, w.cell? ⟨g, k, none⟩ = some v := by
  obtain ⟨p, hp⟩ : ∃ p, ps[k]? = some p := ⟨_, List.getElem?_eq_getElem (by rw [h.len]; exact hk)⟩
  obtain ⟨g', o, e, hc⟩ := row_any (Row.of_own h) (k := k) (u := p.val) (by rw [List.getElem?_map, hp]; rfl)
  injection e with e
  injection e with e1 e2
  subst e1 e2
  rw [Nat.zero_add] at hc
  exact ⟨_, hc⟩
theorem OwnF.frozen {g : Nat} (h : OwnF w base (some ⟨g, 0, none⟩) nF cA full) (k : Nat) : w.frozen? ⟨g, k, none⟩ = false := by
  rcases h.2 with ⟨hv, he⟩ | ⟨g', cap, cur, hv, hb, hg, _⟩
  · cases hv
  · injection hv with e _ _
    injection e with e
    injection e with e
    subst e
    simp [World.frozen?, hg]
theorem OwnLs.frozen {g : Nat} (h : OwnLs w base (some ⟨g, 0, none⟩) nD cD ps) (k : Nat) : w.frozen? ⟨g, k, none⟩ = false := by
  rcases h.2 with ⟨hv, he⟩ | ⟨g', cap, cur, hv, hb, hg, _⟩
  · cases hv
  · injection hv with e _ _
    injection e with e
    injection e with e
    subst e
    simp [World.frozen?, hg]
theorem OwnP.far (h : OwnP w base G A nF cA D nD cD full ps) (g i : Nat) (v : Value) (hg : g < base) : OwnP (w.setCell ⟨g, i, none⟩ v) base G A nF cA D nD cD full ps :=
  h.kept (grownBy_setCell w g i v) (fun a ha q => by injection q with q; have := (h.fu.blk ha).1; omega) (fun a ha q => by injection q with q; have := (h.li.blk ha).1; omega)
    (fun p hp => (h.each p hp).2.2.imp id fun h4 a ha q => by injection q with q; have := (h4 a ha).1.1; omega)
theorem OwnP.setG (h : OwnP w base G A nF cA D nD cD full ps) (i : Nat) (v : Value) : OwnP (w.setCell ⟨G, i, none⟩ v) base G A nF cA D nD cD full ps :=
  h.kept (grownBy_setCell w G i v) (fun a ha q => by injection q with q; exact h.gA a ha q.symm) (fun a ha q => by injection q with q; exact h.gD a ha q.symm)
    (fun p hp => (h.each p hp).2.2.imp id fun h4 a ha q => by injection q with q; exact (h4 a ha).2.1 q.symm)
/-- What an append into a list of the call's own leaves. -/
theorem app_keep {V X w9 w0 : World} {t : TypeId} {cs zs : Array Value} {row : Option Nat} {g0 : Nat} (hrow : ∀ k, row = some k → w0.heap.size + 2 ≤ k ∧ k < V.heap.size ∧ k ≠ G) (HG : Blk V G t cs) (HR : Blk V (w0.heap.size + 1) t zs) (HB : Below w0.heap.size w0 V) (hX : Below V.heap.size V X) (hg : X.grownBy w9 row) :
    Blk w9 G t cs ∧ Blk w9 (w0.heap.size + 1) t zs ∧ Below w0.heap.size w0 w9 ∧ V.heap.size ≤ w9.heap.size ∧ ∀ b0 xs, V.heap.size ≤ b0 → Row X (some ⟨b0, 0, none⟩) xs → Row w9 (some ⟨b0, 0, none⟩) xs := by
  have hs := hX.size
  have hs9 := hg.size
  refine ⟨(HG.below hX HG.lt).grown hg (fun q => (hrow G q.symm).2.2 rfl), (HR.below hX HR.lt).grown hg (fun q => by have := (hrow _ q.symm).1; omega), (below_step HB hX (Nat.le_refl _)).grown hg (by have := HB.size; omega) (fun k hk => by have := (hrow k hk).1; omega), by omega, fun b0 xs hb h => row_grown h hg (fun a ha q => ?_)⟩
  injection ha with ha
  rw [← ha] at q
  have := (hrow _ q).2.1
  have h2 : V.heap.size ≤ b0 := hb
  have h3 : b0 < V.heap.size := this
  omega
theorem OwnP.rowF (h : OwnP w base G A nF cA D nD cD full ps) : ∀ k, (Value.slice A nF cA).ownBlock = some k → base ≤ k ∧ k < w.heap.size ∧ k ≠ G := by
  intro k hk
  cases A with
  | none => cases hk
  | some x => injection hk with hk; subst hk; exact ⟨(h.fu.blk rfl).1, (h.fu.blk rfl).2, h.gA _ rfl⟩
theorem OwnP.rowD (h : OwnP w base G A nF cA D nD cD full ps) : ∀ k, (Value.slice D nD cD).ownBlock = some k → base ≤ k ∧ k < w.heap.size ∧ k ≠ G := by
  intro k hk
  cases D with
  | none => cases hk
  | some x => injection hk with hk; subst hk; exact ⟨(h.li.blk rfl).1, (h.li.blk rfl).2, h.gD _ rfl⟩
theorem below_sets4 {B g : Nat} {a w : World} (h : Below B a w) (hs : B ≤ w.heap.size) (hg : B ≤ g) (v0 v1 v2 v3 : Value) : Below B a ((((w.setCell ⟨g, 0, none⟩ v0).setCell ⟨g, 1, none⟩ v1).setCell ⟨g, 2, none⟩ v2).setCell ⟨g, 3, none⟩ v3) :=
  (((h.grown (grownBy_setCell _ g 0 v0) hs (fun k hk => by injection hk with hk; omega)).grown (grownBy_setCell _ g 1 v1) (by simp; exact hs) (fun k hk => by injection hk with hk; omega)).grown (grownBy_setCell _ g 2 v2) (by simp; exact hs) (fun k hk => by injection hk with hk; omega)).grown (grownBy_setCell _ g 3 v3) (by simp; exact hs) (fun k hk => by injection hk with hk; omega)
end
theorem row_new (w : World) (cs : Array Value) (t : TypeId) (fr : Nat × Nat) (xs : List Value) (h : cs.toList = xs) : Row (w.alloc (.cells cs t fr)) (some ⟨w.heap.size, 0, none⟩) xs :=
  .inr ⟨w.heap.size, 0, rfl, fun j u hu => by rw [cell_of_row _ w.heap.size (0 + j) cs t fr (heap_alloc_new w _), Nat.zero_add, ← Array.getElem?_toList, h, hu]⟩
/-- A return whose first result lies in a block. -/
theorem ret_cell {P : Program} {fn : Func} {R : Ending → World → Prop} {a : Act} {w : World} {p u : Tmp} {ty : TypeId} (h : fn.results = #[.cell p ty, .tmp u]) (g : Nat) (cs : Array Value) (d : TypeDesc)
    (hp : a.tmps.getD p undef = .pointer (some ⟨g, 0, none⟩)) (hB : Blk w g ty cs) (hu : P.underlying ty = some d) (hd : (match d with | .struct _ | .array _ _ => true | _ => false) = true) (hi : (P.info? ty).map (·.size) = some cs.size)
    (hdf : a.defers = []) (hR : R (.returned (.tuple #[.agg cs, a.tmps.getD u undef])) w) : bodyPost P fn R .ret a w := by
  refine bodyPost_ret ?_ hdf hR
  rw [results_cell_tmp h, hp]
  simp [asAddr, run_loadVar_row w g ty ty cs (0, 0) d hB hu hd hi, Result.andThen]
theorem OwnP.base_ {w : World} {base b G nF cA nD cD : Nat} {A D : Option Addr} {full : List Bool} {ps : List Sl} (h : OwnP w base G A nF cA D nD cD full ps) (hb : b ≤ base) : OwnP w b G A nF cA D nD cD full ps := by
  refine ⟨h.fu.base_ hb, ?_, fun p hp => ⟨(h.each p hp).1, (h.each p hp).2.1, (h.each p hp).2.2.imp id fun h4 a ha => ⟨⟨Nat.le_trans hb (h4 a ha).1.1, (h4 a ha).1.2⟩, (h4 a ha).2⟩⟩, h.ap, h.gA, h.gD⟩
  refine ⟨h.li.1, ?_⟩
  rcases h.li.2 with hn | ⟨g, cap, cur, e, hb', rest⟩
  · exact .inl hn
  · exact .inr ⟨g, cap, cur, e, Nat.le_trans hb hb', rest⟩
/-- A slotted body in new memory. -/
def SltNew (w : World) (base : Nat) (A : Option Addr) (nF cA : Nat) (D : Option Addr) (nD cD : Nat) (s : Slt) : Prop := ∃ G ps, ps.map Sl.l = s.data ∧ OwnP w base G A nF cA D nD cD s.full ps
section
variable {w w' : World} {base b nF cA nD cD : Nat} {A D : Option Addr} {s : Slt}
theorem SltNew.at_ (h : SltNew w base A nF cA D nD cD s) : SltAt w A nF cA D nD cD s := by
  obtain ⟨G, ps, h1, h2⟩ := h
  exact h2.at_ h1
theorem SltNew.below (h : SltNew w base A nF cA D nD cD s) (hb : Below w.heap.size w w') : SltNew w' base A nF cA D nD cD s := by
  obtain ⟨G, ps, h1, h2⟩ := h
  exact ⟨G, ps, h1, h2.below hb⟩
theorem SltNew.base_ (h : SltNew w base A nF cA D nD cD s) (hb : b ≤ base) : SltNew w b A nF cA D nD cD s := by
  obtain ⟨G, ps, h1, h2⟩ := h
  exact ⟨G, ps, h1, h2.base_ hb⟩
theorem SltNew.far (h : SltNew w base A nF cA D nD cD s) (g i : Nat) (v : Value) (hg : g < base) : SltNew (w.setCell ⟨g, i, none⟩ v) base A nF cA D nD cD s := by
  obtain ⟨G, ps, h1, h2⟩ := h
  exact ⟨G, ps, h1, h2.far g i v hg⟩
end
/-- What comes back: the body, if it may be. -/
def WithPost (t : Slt) (w : World) (e : Ending) (w' : World) : Prop :=
  (∃ A' n1 c1 D' n2 c2, e = .returned (.tuple #[.agg #[.int .u8 (t.kind : Int), .int .u32 (t.next : Int), .slice A' n1 c1, .slice D' n2 c2], .int .i64 0]) ∧ SltNew w' w.heap.size A' n1 c1 D' n2 c2 t ∧ Hid (SltM.May t) ∧ Below w.heap.size w w') ∨
  (e = .returned (.tuple #[.agg #[.int .u8 0, .int .u32 0, .slice none 0 0, .slice none 0 0], .int .i64 5]) ∧ Hid (¬ SltM.May t) ∧ Below w.heap.size w w')
set_option maxRecDepth 100000 in
set_option maxHeartbeats 2000000 in
theorem with_any (s : Slt) (k : Nat) (A : Option Addr) (nF cA : Nat) (D : Option Addr) (nD cD : Nat) (B : Option Addr) (nb cb : Nat) (b : List UInt8) (w : World) (hs : SltAt w A nF cA D nD cD s) (hm : SltM.May s) (hk : k ≤ nF) (hsum : SltM.sum s.data ≤ 500000)
    (hbr : Row w B (bs b)) (hbn : b.length = nb) (hbl : nb ≤ 400000) :
    Calls Try.prog 30 #[.agg #[.int .u8 (s.kind : Int), .int .u32 (s.next : Int), .slice A nF cA, .slice D nD cD], .int .i64 (k : Int), .slice B nb cb] w (WithPost (SltM.put s k b) w) := by
  have hFD : s.full.length = s.data.length := hm.len
  have h247 := hm.most
  rw [hs.lf] at h247
  have hnD : nD ≤ 247 := by rw [hs.lf, hs.ld] at hFD; omega
  have hnFD : Hid (nF = nD) := Lib.hid (by rw [hs.lf, hs.ld] at hFD; exact hFD)
  have HBN := Lib.hid hbn
  have HBR := Lib.hid hbr
  have HKN : Hid ((SltM.put s k b).kind = s.kind ∧ (SltM.put s k b).next = s.next) := Lib.hid (by unfold SltM.put; split <;> exact ⟨rfl, rfl⟩)
  have HSUM : Hid (SltM.sum (SltM.put s k b).data ≤ 1000000) := Lib.hid (by
    unfold SltM.put
    split
    · show SltM.sum (s.data ++ [b]) ≤ _
      rw [SltM.sum_append, SltM.sum_cons, SltM.sum_nil]; omega
    · show SltM.sum (s.data.set k b) ≤ _
      obtain ⟨x, hx⟩ : ∃ x, s.data[k]? = some x := ⟨_, List.getElem?_eq_getElem (by rename_i q; rw [hs.lf] at q; rw [← hFD, hs.lf]; omega)⟩
      have := SltM.sum_set hx b
      omega)
  have HLF := Lib.hid hs.lf
  have HLD := Lib.hid hs.ld
  have HOWN : Hid (∀ w', Below w.heap.size w w' → Calls Try.prog 32 #[.agg #[.int .u8 (s.kind : Int), .int .u32 (s.next : Int), .slice A nF cA, .slice D nD cD]] w'
      fun e w2 => ∃ A' cA' D' cD', e = .returned (.agg #[.int .u8 (s.kind : Int), .int .u32 (s.next : Int), .slice A' nF cA', .slice D' nD cD']) ∧ OwnSlt w2 w'.heap.size A' nF cA' D' nD cD' s ∧ Below w'.heap.size w' w2) := Lib.hid fun w' hb =>
    own_any s A nF cA D nD cD w' (hs.below hb) (by omega) (by omega) (fun x hx => by obtain ⟨j, hj, e⟩ := List.getElem_of_mem hx; have := SltM.sum_get (l := s.data) (k := j) (x := x) (by rw [List.getElem?_eq_getElem hj, e]); omega)
  clear hs hm hFD hbr hbn
  go_enter Try.func30, Try.ntmps30
  have hR0 : Blk ((w.alloc (.cells #[.int .u8 (s.kind : Int), .int .u32 (s.next : Int), .slice A nF cA, .slice D nD cD] 26)).alloc (.cells #[.int .u8 0, .int .u32 0, .slice none 0 0, .slice none 0 0] 26)) (w.heap.size + 1) 26 #[.int .u8 0, .int .u32 0, .slice none 0 0, .slice none 0 0] := by
    have := Blk.new (w.alloc (.cells #[.int .u8 (s.kind : Int), .int .u32 (s.next : Int), .slice A nF cA, .slice D nD cD] 26)) 26 #[.int .u8 0, .int .u32 0, .slice none 0 0, .slice none 0 0]
    simpa using this
  have hVb : Below w.heap.size w ((w.alloc (.cells #[.int .u8 (s.kind : Int), .int .u32 (s.next : Int), .slice A nF cA, .slice D nD cD] 26)).alloc (.cells #[.int .u8 0, .int .u32 0, .slice none 0 0, .slice none 0 0] 26)) := ((Below.refl w.heap.size w).alloc (Nat.le_refl _) _).alloc (by simp) _
  have HR0 := Lib.hid hR0
  have HVB := Lib.hid hVb
  clear hR0 hVb
  go_wp2_with fail
  refine (HOWN.out _ HVB.out).mono ?_
  rintro e w1 ⟨A1, c1, D1, c2, rfl, hO, hb1⟩
  have hw1 : w.heap.size + 2 ≤ w1.heap.size := by have := hb1.size; simp at this; exact this
  obtain ⟨G, hG⟩ : ∃ G, w1.heap.size = G := ⟨_, rfl⟩
  obtain ⟨ps, HPS0, hP⟩ := hO.p (Nat.le_of_eq hG)
  have HPS := Lib.hid HPS0
  have HP0 : Hid (OwnP w1 (w.heap.size + 2) G A1 nF c1 D1 nD c2 s.full ps) := Lib.hid (by simpa using hP)
  have HR1 := Lib.hid (HR0.out.below hb1 HR0.out.lt)
  have HB1 := Lib.hid (below_step HVB.out hb1 (Nat.le_refl _))
  clear hO hb1 hP HPS0 HR0 HVB HOWN
  go_upto_region 2 with fail
  have hGb : Blk (w1.alloc (.cells #[.int .u8 (s.kind : Int), .int .u32 (s.next : Int), .slice A1 nF c1, .slice D1 nD c2] 26)) G 26 #[.int .u8 (s.kind : Int), .int .u32 (s.next : Int), .slice A1 nF c1, .slice D1 nD c2] := hG ▸ Blk.new w1 _ _
  have HG := Lib.hid hGb
  have HP := Lib.hid (HP0.out.alloc (.cells #[.int .u8 (s.kind : Int), .int .u32 (s.next : Int), .slice A1 nF c1, .slice D1 nD c2] 26))
  have HR := Lib.hid (HR1.out.alloc (.cells #[.int .u8 (s.kind : Int), .int .u32 (s.next : Int), .slice A1 nF c1, .slice D1 nD c2] 26))
  have HB := Lib.hid (HB1.out.alloc HB1.out.size (.cells #[.int .u8 (s.kind : Int), .int .u32 (s.next : Int), .slice A1 nF c1, .slice D1 nD c2] 26))
  have hwG : w.heap.size + 2 ≤ G := by omega
  clear hGb HP0 HR1 HB1 hw1 hG
  generalize w1.alloc (.cells #[.int .u8 (s.kind : Int), .int .u32 (s.next : Int), .slice A1 nF c1, .slice D1 nD c2] 26) = V at *
  have hd := HG.out
  have hGV := HG.out.lt
  have d2 := hd.cell 2
  have d3 := hd.cell 3
  simp only [List.getElem?_toArray, List.getElem?_cons_zero, List.getElem?_cons_succ] at d2 d3
  by_cases hkn : k < nF
  · go_upto_region 4 with fail
    clear hd d2 d3
    have HEQ : Hid (∀ Bq nq cq, s.full.set k true = (SltM.put s k b).full ∧ (ps.set k ⟨Bq, nq, cq, b⟩).map Sl.l = (SltM.put s k b).data) := Lib.hid (by
      intro Bq nq cq
      unfold SltM.put
      rw [if_neg (by rw [HLF.out]; omega), List.map_set, HPS.out]
      exact ⟨rfl, rfl⟩)
    have hkD : k < nD := by have := hnFD.out; omega
    obtain ⟨gA, rfl, hgA, hgA2⟩ := HP.out.fu.some_ (by omega)
    obtain ⟨gD, rfl, hgD, hgD2⟩ := HP.out.li.some_ (by omega)
    have hAD : gA ≠ gD := HP.out.ap _ _ rfl rfl
    have hAG : gA ≠ G := HP.out.gA _ rfl
    have hDG : gD ≠ G := HP.out.gD _ rfl
    have hd := HG.out
    have d2 := hd.cell 2
    have d3 := hd.cell 3
    simp only [List.getElem?_toArray, List.getElem?_cons_zero, List.getElem?_cons_succ] at d2 d3
    clear hd
    have KG : Hid (∀ w', Below V.heap.size V w' → w'.cell? ⟨G, 2, none⟩ = some (.slice (some ⟨gA, 0, none⟩) nF c1) ∧ w'.cell? ⟨G, 3, none⟩ = some (.slice (some ⟨gD, 0, none⟩) nD c2)) := Lib.hid (by
      intro w' hb
      have h := HG.out.below hb HG.out.lt
      have d2 := h.cell 2
      have d3 := h.cell 3
      simp only [List.getElem?_toArray, List.getElem?_cons_zero, List.getElem?_cons_succ] at d2 d3
      exact ⟨d2, d3⟩)
    have KS : Hid (∀ (w' : World) (g i : Nat) (v : Value), g ≠ G → (w'.cell? ⟨G, 2, none⟩ = some (.slice (some ⟨gA, 0, none⟩) nF c1) ∧ w'.cell? ⟨G, 3, none⟩ = some (.slice (some ⟨gD, 0, none⟩) nD c2)) → ((w'.setCell ⟨g, i, none⟩ v).cell? ⟨G, 2, none⟩ = some (.slice (some ⟨gA, 0, none⟩) nF c1) ∧ (w'.setCell ⟨g, i, none⟩ v).cell? ⟨G, 3, none⟩ = some (.slice (some ⟨gD, 0, none⟩) nD c2))) := Lib.hid (by
      intro w' g i v hg h
      exact ⟨(grownBy_setCell w' g i v).cell h.1 (by simp; exact fun q => hg q.symm), (grownBy_setCell w' g i v).cell h.2 (by simp; exact fun q => hg q.symm)⟩)
    have BB : Hid (Below V.heap.size V V.drew) := Lib.hid ⟨rfl, rfl, rfl, Nat.le_refl _, fun _ _ => rfl⟩
    go_wp2
    clear d2 d3
    go_region_held_law (fun w' => w'.cell? ⟨G, 2, none⟩ = some (.slice (some ⟨gA, 0, none⟩) nF c1) ∧ w'.cell? ⟨G, 3, none⟩ = some (.slice (some ⟨gD, 0, none⟩) nD c2))
      (first | exact KG.out _ BB.out | exact KS.out _ _ _ _ hAG (KG.out _ BB.out) | exact KS.out _ _ _ _ hDG (KS.out _ _ _ _ hAG (KG.out _ BB.out)))
      (first
        | (go_at_call 29
           refine (clone_len B cb nb b _ (HBR.out.below (below_step HB.out BB.out (Nat.le_refl _))) HBN.out (by omega)).mono ?_
           rintro e wb ⟨Bq, nq, cq, rfl, hnq, oq, bq⟩
           have OQ := Lib.hid oq
           have BQ := Lib.hid (below_join BB.out bq)
           have hP := HP.out.below BQ.out
           obtain ⟨vA, y0⟩ := hP.fu.cell (k := k) (by omega)
           have y1 := hP.fu.frozen k
           obtain ⟨vD, y2⟩ := hP.li.cell (k := k) (by omega)
           have y3 := hP.li.frozen k
           replace BB := BQ
           have HP2 := Lib.hid hP
           clear hP oq bq))
    have hsz : V.heap.size ≤ wb.heap.size := BQ.out.size
    have HP3 : Hid (OwnP ((wb.setCell ⟨gA, k, none⟩ (.bool true)).setCell ⟨gD, k, none⟩ (.slice Bq nq cq)) (w.heap.size + 2) G (some ⟨gA, 0, none⟩) nF c1 (some ⟨gD, 0, none⟩) nD c2 (s.full.set k true) (ps.set k ⟨Bq, nq, cq, b⟩)) := Lib.hid ((HP2.out.setF k true).setD k ⟨Bq, nq, cq, b⟩ ⟨hnq.out, row_set OQ.out.row gA k _ (fun a ha => by subst ha; have := World.ownsRow.lt OQ.out a.block rfl; have h4 : V.drew.heap.size = V.heap.size := rfl; omega), .inr (fun a ha => by subst ha; have := World.ownsRow.lt OQ.out a.block rfl; have h4 : V.drew.heap.size = V.heap.size := rfl; have h5 := HG.out.lt; refine ⟨⟨by omega, by simp; omega⟩, by omega, fun x hx => ?_, by omega⟩; injection hx with hx; rw [← hx]; show a.block ≠ gA; omega)⟩)
    have HG3 := Lib.hid ((HG.out.below BQ.out HG.out.lt).far (p := ⟨gA, k, none⟩) (fun q => hAG q.symm) (.bool true) |>.far (p := ⟨gD, k, none⟩) (fun q => hDG q.symm) (.slice Bq nq cq))
    have HR3 := Lib.hid ((HR.out.below BQ.out HR.out.lt).far (p := ⟨gA, k, none⟩) (by show w.heap.size + 1 ≠ gA; omega) (.bool true) |>.far (p := ⟨gD, k, none⟩) (by show w.heap.size + 1 ≠ gD; omega) (.slice Bq nq cq))
    have HB3 := Lib.hid (((below_step HB.out BQ.out (Nat.le_refl _)).grown (grownBy_setCell wb gA k (.bool true)) (by omega) (fun q hq => by injection hq with hq; omega)).grown (grownBy_setCell _ gD k (.slice Bq nq cq)) (by simp; omega) (fun q hq => by injection hq with hq; omega))
    generalize hW : (wb.setCell ⟨gA, k, none⟩ (.bool true)).setCell ⟨gD, k, none⟩ (.slice Bq nq cq) = W3 at *
    have HT5 : Hid (∀ w', OwnP w' (w.heap.size + 2) G (some ⟨gA, 0, none⟩) nF c1 (some ⟨gD, 0, none⟩) nD c2 (s.full.set k true) (ps.set k ⟨Bq, nq, cq, b⟩) → SltNew w' w.heap.size (some ⟨gA, 0, none⟩) nF c1 (some ⟨gD, 0, none⟩) nD c2 (SltM.put s k b)) := Lib.hid (by
      intro w' h
      obtain ⟨e1, e2⟩ := HEQ.out Bq nq cq
      rw [e1] at h
      exact ⟨G, _, e2, h.base_ (by omega)⟩)
    have HT := Lib.hid (HT5.out _ HP3.out).at_
    have hg3 := HG3.out
    have z0 := hg3.cell 0
    have z1 := hg3.cell 1
    have z2 := hg3.cell 2
    have z3 := hg3.cell 3
    simp only [List.getElem?_toArray, List.getElem?_cons_zero, List.getElem?_cons_succ] at z0 z1 z2 z3
    have HM := Lib.hid (may_any (SltM.put s k b) (some ⟨gA, 0, none⟩) nF c1 (some ⟨gD, 0, none⟩) nD c2 W3 HT.out HSUM.out (by omega) (by omega))
    rw [HKN.out.1, HKN.out.2] at HM
    clear hg3 y0 y1 y2 y3 KG KS BB BQ OQ HP2 HP
    go_wp2_with fail
    refine HM.out.mono ?_
    rintro e w5 ⟨r, rfl, hr5, hb5⟩
    have HP5 := Lib.hid (HP3.out.below hb5)
    have HB5 := Lib.hid (below_step HB3.out hb5 (Nat.le_refl _))
    have hg5 := HG3.out.below hb5 HG3.out.lt
    have hr := HR3.out.below hb5 HR3.out.lt
    have z0 := hg5.cell 0
    have z1 := hg5.cell 1
    have z2 := hg5.cell 2
    have z3 := hg5.cell 3
    have x0 := hr.cell 0
    have x1 := hr.cell 1
    have x2 := hr.cell 2
    have x3 := hr.cell 3
    have k0 := hr.frozen 0
    have k1 := hr.frozen 1
    have k2 := hr.frozen 2
    have k3 := hr.frozen 3
    simp only [List.getElem?_toArray, List.getElem?_cons_zero, List.getElem?_cons_succ] at z0 z1 z2 z3 x0 x1 x2 x3
    have HR5 := Lib.hid hr
    have hs5 := HB5.out.size
    clear hg5 hr hb5 HM HG3 HR3 HP3
    cases r with
    | true =>
      have HMAY := Lib.hid (hr5.out.1 rfl)
      clear hr5
      go_wp2
      refine ret_cell rfl (w.heap.size + 1) #[.int .u8 (s.kind : Int), .int .u32 (s.next : Int), .slice (some ⟨gA, 0, none⟩) nF c1, .slice (some ⟨gD, 0, none⟩) nD c2] _ rfl ((((HR5.out.set_ 0 _).set_ 1 _).set_ 2 _).set_ 3 _) Try.underlying26 rfl (by kernel_rfl) rfl ?_
      exact .inl ⟨_, _, _, _, _, _, by rw [HKN.out.1, HKN.out.2]; rfl, (HT5.out _ ((((HP5.out.far (w.heap.size + 1) 0 _ (by omega)).far (w.heap.size + 1) 1 _ (by omega)).far (w.heap.size + 1) 2 _ (by omega)).far (w.heap.size + 1) 3 _ (by omega))), HMAY, below_sets4 HB5.out hs5 (Nat.le_succ _) _ _ _ _⟩
    | false =>
      have HMAY : Hid (¬ SltM.May (SltM.put s k b)) := Lib.hid (fun h => by have := hr5.out.2 h; cases this)
      clear hr5
      go_wp2
      refine ret_cell rfl (w.heap.size + 1) #[.int .u8 0, .int .u32 0, .slice none 0 0, .slice none 0 0] _ rfl ((((HR5.out.set_ 0 _).set_ 1 _).set_ 2 _).set_ 3 _) Try.underlying26 rfl (by kernel_rfl) rfl ?_
      exact .inr ⟨rfl, HMAY, below_sets4 HB5.out hs5 (Nat.le_succ _) _ _ _ _⟩
  · have k2 := hd.frozen 2
    have k3 := hd.frozen 3
    clear hd
    go_upto_region 3 with fail
    go_cut [8] from 9 (fun pv wc => ∃ (A2 : Option Addr) (m1 c1 : Nat) (D2 : Option Addr) (m2 c2 : Nat), pv = .pointer (some ⟨G, 0, none⟩) ∧ m1 = nF + 1 ∧ m2 = nD + 1 ∧ Blk wc G 26 #[.int .u8 (s.kind : Int), .int .u32 (s.next : Int), .slice A2 m1 c1, .slice D2 m2 c2] ∧
      OwnP wc (w.heap.size + 2) G A2 m1 c1 D2 m2 c2 (s.full ++ [true]) (ps ++ [⟨none, 0, 0, []⟩]) ∧ Below w.heap.size w wc ∧ Blk wc (w.heap.size + 1) 26 #[.int .u8 0, .int .u32 0, .slice none 0 0, .slice none 0 0])
    case first =>
      have hVw := HB.out.size
      have HPc := HP
      have HGc := HG
      have HRc := HR
      have HBc := HB
      obtain ⟨Vc, hVc⟩ : ∃ X, X = V := ⟨_, rfl⟩
      subst hVc
      go_region_law (first
        | (refine step_appF rfl (.tmp 17) (.tmp 18) rfl (w.heap.size + 2) G A1 nF c1 D1 nD c2 s.full ps (by first | rfl | simp [Act.eval]) ?_ ?_ _ 1 true (by first | rfl | simp [Act.eval]) ?_ (by omega) ?_ ?_
           · repeat (first | exact HPc.out | refine OwnP.alloc ?_ _ | refine OwnP.drew ?_)
           · first | omega | (simp; omega)
           · first
               | exact RL.out
               | exact RL.out.alloc _
               | exact row_new _ _ _ _ _ rfl
               | exact (row_new _ _ _ _ _ rfl).drew
               | exact (row_new _ _ _ _ _ rfl).alloc _
               | exact ((row_new _ _ _ _ _ rfl).alloc _).drew
               | (have h := row_new (Vc.alloc (.cells #[.slice none 0 0] 27)) #[.bool true] 4 (0, 0) [.bool true] rfl
                  simpa using h)
               | (refine Row.drew ?_
                  have h := row_new (Vc.alloc (.cells #[.slice none 0 0] 27)) #[.bool true] 4 (0, 0) [.bool true] rfl
                  simpa using h)
           · first | omega | (simp; omega)
           intro A9 c9 w9 hP9 hg9
           have hk9 := app_keep (G := G) (w0 := w) (g0 := 0) HPc.out.rowF HGc.out HRc.out HBc.out (by repeat (first | exact Below.refl _ _ | refine below_al ?_ _ | refine below_dr ?_)) hg9
           obtain ⟨q1, q2, q3, q4, q5⟩ := hk9
           first
             | (have RL : Hid (Row w9 (some ⟨Vc.heap.size, 0, none⟩) [.slice none 0 0]) := Lib.hid (q5 _ _ (Nat.le_refl _) (by first | exact ((row_new Vc #[.slice none 0 0] 27 (0, 0) [.slice none 0 0] rfl).alloc (.cells #[.bool true] 4)).drew | exact ((row_new Vc #[.slice none 0 0] 27 (0, 0) [.slice none 0 0] rfl).alloc (.cells #[.bool true] 4)) | exact ((row_new Vc.drew #[.slice none 0 0] 27 (0, 0) [.slice none 0 0] rfl).alloc (.cells #[.bool true] 4)).drew | exact ((row_new Vc.drew #[.slice none 0 0] 27 (0, 0) [.slice none 0 0] rfl).alloc (.cells #[.bool true] 4)))))
             | (have RL : Hid (Row w9 (some ⟨Vc.heap.size + 1, 0, none⟩) [.slice none 0 0]) := Lib.hid (q5 _ _ (Nat.le_succ _) (by first | exact (by have h := row_new (Vc.alloc (.cells #[.bool true] 4)) #[.slice none 0 0] 27 (0, 0) [.slice none 0 0] rfl; simpa using h) | exact Row.drew (by have h := row_new (Vc.alloc (.cells #[.bool true] 4)) #[.slice none 0 0] 27 (0, 0) [.slice none 0 0] rfl; simpa using h) | exact (by have h := row_new (Vc.drew.alloc (.cells #[.bool true] 4)) #[.slice none 0 0] 27 (0, 0) [.slice none 0 0] rfl; simpa using h) | exact Row.drew (by have h := row_new (Vc.drew.alloc (.cells #[.bool true] 4)) #[.slice none 0 0] 27 (0, 0) [.slice none 0 0] rfl; simpa using h))))
             | skip
           replace HPc := Lib.hid hP9
           replace HGc := Lib.hid q1
           replace HRc := Lib.hid q2
           replace HBc := Lib.hid q3
           have e2 := q1.cell 2
           have e3 := q1.cell 3
           have f2 := q1.frozen 2
           have f3 := q1.frozen 3
           have g9 := q1.lt
           have s9 := q3.size
           simp only [List.getElem?_toArray, List.getElem?_cons_zero, List.getElem?_cons_succ] at e2 e3
           clear q1 q2 q3 q4 q5 hP9 hg9)
        | (refine step_appD rfl (.tmp 21) (.tmp 22) rfl (w.heap.size + 2) G A9 (nF + 1) c9 D1 nD c2 (s.full ++ [true]) ps (by first | rfl | simp [Act.eval]) ?_ ?_ _ 1 (by first | rfl | simp [Act.eval]) ?_ (by omega) ?_ ?_
           · repeat (first | exact HPc.out | refine OwnP.alloc ?_ _ | refine OwnP.drew ?_)
           · first | omega | (simp; omega)
           · first
               | exact RL.out
               | exact RL.out.alloc _
               | exact row_new _ _ _ _ _ rfl
               | exact (row_new _ _ _ _ _ rfl).drew
               | exact (row_new _ _ _ _ _ rfl).alloc _
               | exact ((row_new _ _ _ _ _ rfl).alloc _).drew
               | (have h := row_new (Vc.alloc (.cells #[.bool true] 4)) #[.slice none 0 0] 27 (0, 0) [.slice none 0 0] rfl
                  simpa using h)
               | (refine Row.drew ?_
                  have h := row_new (Vc.alloc (.cells #[.bool true] 4)) #[.slice none 0 0] 27 (0, 0) [.slice none 0 0] rfl
                  simpa using h)
           · first | omega | (simp; omega)
           intro D9 c8 w10 hP9 hg9
           have hk9 := app_keep (G := G) (w0 := w) (g0 := 0) HPc.out.rowD HGc.out HRc.out HBc.out (by repeat (first | exact Below.refl _ _ | refine below_al ?_ _ | refine below_dr ?_)) hg9
           obtain ⟨q1, q2, q3, q4, q5⟩ := hk9
           replace HPc := Lib.hid hP9
           replace HGc := Lib.hid q1
           replace HRc := Lib.hid q2
           replace HBc := Lib.hid q3
           have e2 := q1.cell 2
           have e3 := q1.cell 3
           have f2 := q1.frozen 2
           have f3 := q1.frozen 3
           have g9 := q1.lt
           have s9 := q3.size
           simp only [List.getElem?_toArray, List.getElem?_cons_zero, List.getElem?_cons_succ] at e2 e3
           clear q1 q2 q3 q4 q5 hP9 hg9))
      all_goals
        go_wp2
        go_meet
        exact ⟨A9, nF + 1, c9, D9, nD + 1, c8, rfl, rfl, rfl, (HGc.out.set_ 2 _).set_ 3 _, (HPc.out.setG 2 _).setG 3 _, (HBc.out.grown (grownBy_setCell _ G 2 _) HBc.out.size (fun q hq => by injection hq with hq; omega)).grown (grownBy_setCell _ G 3 _) (by simp; exact HBc.out.size) (fun q hq => by injection hq with hq; omega), (HRc.out.far (p := ⟨G, 2, none⟩) (by show w.heap.size + 1 ≠ G; omega) _).far (p := ⟨G, 3, none⟩) (by show w.heap.size + 1 ≠ G; omega) _⟩
    case rest =>
      obtain ⟨A2, m1, c3, D2, m2, c4, rfl, hm1, hm2, hG', hP', hB', hR'⟩ := hcut
      have hkF : Hid (k = nF) := Lib.hid (by omega)
      have HEQ : Hid (∀ Bq nq cq, (s.full ++ [true]).set k true = (SltM.put s k b).full ∧ ((ps ++ [(⟨none, 0, 0, []⟩ : Sl)]).set k ⟨Bq, nq, cq, b⟩).map Sl.l = (SltM.put s k b).data) := Lib.hid (by
        intro Bq nq cq
        have e1 : k = s.full.length := by rw [HLF.out]; exact hkF.out
        have e2 : k = s.data.length := by rw [HLD.out, ← hnFD.out]; exact hkF.out
        have e3 : k = ps.length := by rw [e2, ← HPS.out, List.length_map]
        unfold SltM.put
        rw [if_pos e1]
        refine ⟨?_, ?_⟩
        · show _ = s.full ++ [true]
          rw [e1, List.set_append_right _ _ (Nat.le_refl _), Nat.sub_self]; rfl
        · show _ = s.data ++ [b]
          rw [e3, List.set_append_right _ _ (Nat.le_refl _), Nat.sub_self, List.map_append, HPS.out]; rfl)
      have hkm1 : k < m1 := by omega
      have hkm2 : k < m2 := by have := hnFD.out; have := hkF.out; omega
      have hb1 : m1 ≤ 248 := by omega
      have hb2 : m2 ≤ 248 := by omega
      replace HG := Lib.hid hG'
      replace HP := Lib.hid hP'
      replace HB := Lib.hid hB'
      replace HR := Lib.hid hR'
      clear hm1 hm2 hG' hP' hB' hR' d2 d3 k2 k3 hGV
      go_upto_region 4 with fail
      obtain ⟨gA, rfl, hgA, hgA2⟩ := HP.out.fu.some_ (by omega)
      obtain ⟨gD, rfl, hgD, hgD2⟩ := HP.out.li.some_ (by omega)
      have hAD : gA ≠ gD := HP.out.ap _ _ rfl rfl
      have hAG : gA ≠ G := HP.out.gA _ rfl
      have hDG : gD ≠ G := HP.out.gD _ rfl
      have hd := HG.out
      have d2 := hd.cell 2
      have d3 := hd.cell 3
      simp only [List.getElem?_toArray, List.getElem?_cons_zero, List.getElem?_cons_succ] at d2 d3
      clear hd
      have KG : Hid (∀ w', Below wc.heap.size wc w' → w'.cell? ⟨G, 2, none⟩ = some (.slice (some ⟨gA, 0, none⟩) m1 c3) ∧ w'.cell? ⟨G, 3, none⟩ = some (.slice (some ⟨gD, 0, none⟩) m2 c4)) := Lib.hid (by
        intro w' hb
        have h := HG.out.below hb HG.out.lt
        have d2 := h.cell 2
        have d3 := h.cell 3
        simp only [List.getElem?_toArray, List.getElem?_cons_zero, List.getElem?_cons_succ] at d2 d3
        exact ⟨d2, d3⟩)
      have KS : Hid (∀ (w' : World) (g i : Nat) (v : Value), g ≠ G → (w'.cell? ⟨G, 2, none⟩ = some (.slice (some ⟨gA, 0, none⟩) m1 c3) ∧ w'.cell? ⟨G, 3, none⟩ = some (.slice (some ⟨gD, 0, none⟩) m2 c4)) → ((w'.setCell ⟨g, i, none⟩ v).cell? ⟨G, 2, none⟩ = some (.slice (some ⟨gA, 0, none⟩) m1 c3) ∧ (w'.setCell ⟨g, i, none⟩ v).cell? ⟨G, 3, none⟩ = some (.slice (some ⟨gD, 0, none⟩) m2 c4))) := Lib.hid (by
        intro w' g i v hg h
        exact ⟨(grownBy_setCell w' g i v).cell h.1 (by simp; exact fun q => hg q.symm), (grownBy_setCell w' g i v).cell h.2 (by simp; exact fun q => hg q.symm)⟩)
      have BB : Hid (Below wc.heap.size wc wc.drew) := Lib.hid ⟨rfl, rfl, rfl, Nat.le_refl _, fun _ _ => rfl⟩
      go_wp2
      clear d2 d3
      go_region_held_law (fun w' => w'.cell? ⟨G, 2, none⟩ = some (.slice (some ⟨gA, 0, none⟩) m1 c3) ∧ w'.cell? ⟨G, 3, none⟩ = some (.slice (some ⟨gD, 0, none⟩) m2 c4))
        (first | exact KG.out _ BB.out | exact KS.out _ _ _ _ hAG (KG.out _ BB.out) | exact KS.out _ _ _ _ hDG (KS.out _ _ _ _ hAG (KG.out _ BB.out)))
        (first
          | (go_at_call 29
             refine (clone_len B cb nb b _ (HBR.out.below (below_step HB.out BB.out (Nat.le_refl _))) HBN.out (by omega)).mono ?_
             rintro e wb ⟨Bq, nq, cq, rfl, hnq, oq, bq⟩
             have OQ := Lib.hid oq
             have BQ := Lib.hid (below_join BB.out bq)
             have hP := HP.out.below BQ.out
             obtain ⟨vA, y0⟩ := hP.fu.cell (k := k) (by omega)
             have y1 := hP.fu.frozen k
             obtain ⟨vD, y2⟩ := hP.li.cell (k := k) (by omega)
             have y3 := hP.li.frozen k
             replace BB := BQ
             have HP2 := Lib.hid hP
             clear hP oq bq))
      have hsz : wc.heap.size ≤ wb.heap.size := BQ.out.size
      have HP3 : Hid (OwnP ((wb.setCell ⟨gA, k, none⟩ (.bool true)).setCell ⟨gD, k, none⟩ (.slice Bq nq cq)) (w.heap.size + 2) G (some ⟨gA, 0, none⟩) m1 c3 (some ⟨gD, 0, none⟩) m2 c4 ((s.full ++ [true]).set k true) ((ps ++ [(⟨none, 0, 0, []⟩ : Sl)]).set k ⟨Bq, nq, cq, b⟩)) := Lib.hid ((HP2.out.setF k true).setD k ⟨Bq, nq, cq, b⟩ ⟨hnq.out, row_set OQ.out.row gA k _ (fun a ha => by subst ha; have := World.ownsRow.lt OQ.out a.block rfl; have h4 : wc.drew.heap.size = wc.heap.size := rfl; omega), .inr (fun a ha => by subst ha; have := World.ownsRow.lt OQ.out a.block rfl; have h4 : wc.drew.heap.size = wc.heap.size := rfl; have h5 := HG.out.lt; refine ⟨⟨by omega, by simp; omega⟩, by omega, fun x hx => ?_, by omega⟩; injection hx with hx; rw [← hx]; show a.block ≠ gA; omega)⟩)
      have HG3 := Lib.hid ((HG.out.below BQ.out HG.out.lt).far (p := ⟨gA, k, none⟩) (fun q => hAG q.symm) (.bool true) |>.far (p := ⟨gD, k, none⟩) (fun q => hDG q.symm) (.slice Bq nq cq))
      have HR3 := Lib.hid ((HR.out.below BQ.out HR.out.lt).far (p := ⟨gA, k, none⟩) (by show w.heap.size + 1 ≠ gA; omega) (.bool true) |>.far (p := ⟨gD, k, none⟩) (by show w.heap.size + 1 ≠ gD; omega) (.slice Bq nq cq))
      have HB3 := Lib.hid (((below_step HB.out BQ.out (Nat.le_refl _)).grown (grownBy_setCell wb gA k (.bool true)) (by omega) (fun q hq => by injection hq with hq; omega)).grown (grownBy_setCell _ gD k (.slice Bq nq cq)) (by simp; omega) (fun q hq => by injection hq with hq; omega))
      generalize hW : (wb.setCell ⟨gA, k, none⟩ (.bool true)).setCell ⟨gD, k, none⟩ (.slice Bq nq cq) = W3 at *
      have HT5 : Hid (∀ w', OwnP w' (w.heap.size + 2) G (some ⟨gA, 0, none⟩) m1 c3 (some ⟨gD, 0, none⟩) m2 c4 ((s.full ++ [true]).set k true) ((ps ++ [(⟨none, 0, 0, []⟩ : Sl)]).set k ⟨Bq, nq, cq, b⟩) → SltNew w' w.heap.size (some ⟨gA, 0, none⟩) m1 c3 (some ⟨gD, 0, none⟩) m2 c4 (SltM.put s k b)) := Lib.hid (by
        intro w' h
        obtain ⟨e1, e2⟩ := HEQ.out Bq nq cq
        rw [e1] at h
        exact ⟨G, _, e2, h.base_ (by omega)⟩)
      have HT := Lib.hid (HT5.out _ HP3.out).at_
      have hg3 := HG3.out
      have z0 := hg3.cell 0
      have z1 := hg3.cell 1
      have z2 := hg3.cell 2
      have z3 := hg3.cell 3
      simp only [List.getElem?_toArray, List.getElem?_cons_zero, List.getElem?_cons_succ] at z0 z1 z2 z3
      have HM := Lib.hid (may_any (SltM.put s k b) (some ⟨gA, 0, none⟩) m1 c3 (some ⟨gD, 0, none⟩) m2 c4 W3 HT.out HSUM.out (by omega) (by omega))
      rw [HKN.out.1, HKN.out.2] at HM
      clear hg3 y0 y1 y2 y3 KG KS BB BQ OQ HP2 HP
      go_wp2_with fail
      refine HM.out.mono ?_
      rintro e w5 ⟨r, rfl, hr5, hb5⟩
      have HP5 := Lib.hid (HP3.out.below hb5)
      have HB5 := Lib.hid (below_step HB3.out hb5 (Nat.le_refl _))
      have hg5 := HG3.out.below hb5 HG3.out.lt
      have hr := HR3.out.below hb5 HR3.out.lt
      have z0 := hg5.cell 0
      have z1 := hg5.cell 1
      have z2 := hg5.cell 2
      have z3 := hg5.cell 3
      have x0 := hr.cell 0
      have x1 := hr.cell 1
      have x2 := hr.cell 2
      have x3 := hr.cell 3
      have k0 := hr.frozen 0
      have k1 := hr.frozen 1
      have k2 := hr.frozen 2
      have k3 := hr.frozen 3
      simp only [List.getElem?_toArray, List.getElem?_cons_zero, List.getElem?_cons_succ] at z0 z1 z2 z3 x0 x1 x2 x3
      have HR5 := Lib.hid hr
      have hs5 := HB5.out.size
      clear hg5 hr hb5 HM HG3 HR3 HP3
      cases r with
      | true =>
        have HMAY := Lib.hid (hr5.out.1 rfl)
        clear hr5
        go_wp2
        refine ret_cell rfl (w.heap.size + 1) #[.int .u8 (s.kind : Int), .int .u32 (s.next : Int), .slice (some ⟨gA, 0, none⟩) m1 c3, .slice (some ⟨gD, 0, none⟩) m2 c4] _ rfl ((((HR5.out.set_ 0 _).set_ 1 _).set_ 2 _).set_ 3 _) Try.underlying26 rfl (by kernel_rfl) rfl ?_
        exact .inl ⟨_, _, _, _, _, _, by rw [HKN.out.1, HKN.out.2]; rfl, (HT5.out _ ((((HP5.out.far (w.heap.size + 1) 0 _ (by omega)).far (w.heap.size + 1) 1 _ (by omega)).far (w.heap.size + 1) 2 _ (by omega)).far (w.heap.size + 1) 3 _ (by omega))), HMAY, below_sets4 HB5.out hs5 (Nat.le_succ _) _ _ _ _⟩
      | false =>
        have HMAY : Hid (¬ SltM.May (SltM.put s k b)) := Lib.hid (fun h => by have := hr5.out.2 h; cases this)
        clear hr5
        go_wp2
        refine ret_cell rfl (w.heap.size + 1) #[.int .u8 0, .int .u32 0, .slice none 0 0, .slice none 0 0] _ rfl ((((HR5.out.set_ 0 _).set_ 1 _).set_ 2 _).set_ 3 _) Try.underlying26 rfl (by kernel_rfl) rfl ?_
        exact .inr ⟨rfl, HMAY, below_sets4 HB5.out hs5 (Nat.le_succ _) _ _ _ _⟩
end Go.Proofs.Ytofbfehpadjbbaa
