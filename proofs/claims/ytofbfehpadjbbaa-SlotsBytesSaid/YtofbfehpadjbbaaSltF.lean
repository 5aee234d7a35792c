/-
  How a slotted body among the arguments reads.
  Conditions: none.
-/
import Derived.Test.YtofbfehpadjbbaaFrame2
import Derived.Test.YtofbfehpadjbbaaSltW1
namespace Go.Proofs.Ytofbfehpadjbbaa
open Go.ChangeShapes Go.WideShapes Go.ChangeAt Go.RowKit Go.Deep
set_option linter.unusedVariables false
section
variable {H : Type} {enc : TypeId × Value → H} {P : Program} {w : World}
/-- As read_slice; of each element something is known of its datum. -/
theorem read_slice2 {α : Type} {cells : α → List Value} {size : Nat} {t e : TypeId} {fuel : Nat} {cs : List Value} {y : DataW H × List MemPlace} {Q : α → DataW H → Prop} (hsz : ∀ x, (cells x).length = size) (hpos : 0 < size) (ht : P.underlying t = some (.slice e)) (hC : P.cellsOf e = size)
    (rd : ∀ (fuel : Nat) (cs : List Value) (y : DataW H × List MemPlace), DataW.trod enc P w 0 (fun _ => true) true fuel e cs = some y → ∃ x, cs = cells x ∧ Q x y.1)
    (h : DataW.trod enc P w 0 (fun _ => true) true fuel t cs = some y) :
    ∃ (A : Option Addr) (c : Nat) (xs : List α), cs = [.slice A xs.length c] ∧ Row w A (xs.flatMap cells) ∧ xs.length ≤ c ∧ c ≤ maxLen ∧
      ((c = 0 ∧ xs = [] ∧ y.1 = .nil) ∨ ∃ es sp, y.1 = .slice es sp ∧ es.length + sp.length = c ∧ ∀ (i : Nat) (hi : i < xs.length), ∃ d, es[i]? = some d ∧ Q xs[i] d) := by
  rcases open_slice ht h with ⟨hcs, hx⟩ | ⟨a, len, cap, m, n, D, Pl, hcs, _, hl, hm, hmm, hx, hi⟩
  · refine ⟨none, 0, [], hcs, Row.nil _ _, Nat.le_refl _, Nat.zero_le _, .inl ⟨rfl, rfl, ?_⟩⟩
    rw [hx]
  · simp only [if_true] at hmm
    subst hmm
    rw [hC] at hi
    obtain ⟨xs, hxl, hxs⟩ := choose_list len (fun i x => w.cells? 0 (a.add (i * size)) size = some (cells x) ∧ Q x (D i)) (fun i hil => by
      obtain ⟨cs', hc, htt⟩ := hi i (by omega)
      obtain ⟨x, rfl, hq⟩ := rd n cs' _ htt
      exact ⟨x, hc, hq⟩)
    subst hxl
    refine ⟨some a, m, xs, hcs, ?_, hl, hm, .inr ⟨_, _, by rw [hx], by simp; omega, fun i hil => ⟨D i, by simp [hil], (hxs i hil).2⟩⟩⟩
    by_cases h0 : xs.length = 0
    · have : xs = [] := List.eq_nil_of_length_eq_zero h0
      subst this
      exact .inl rfl
    · have hcell : ∀ i (hil : i < xs.length) j, j < size → w.cell? (a.add (i * size + j)) = (cells xs[i])[j]? := fun i hil j hj => by
        obtain ⟨_, hcl, hat⟩ := World.cells?_some (hxs i hil).1
        rw [← add_add, hat j hj]
      have hc0 := hcell 0 (by omega) 0 hpos
      obtain ⟨b, off, spot⟩ := a
      rw [Nat.zero_mul, Nat.zero_add, List.getElem?_eq_getElem (by rw [hsz]; exact hpos)] at hc0
      have hspot : spot = none := by simpa [Addr.add] using World.cell?_spot hc0
      subst hspot
      refine .inr ⟨b, off, rfl, fun j u hu => ?_⟩
      have hj : j < xs.length * size := by rw [← flatMap_length hsz]; exact (List.getElem?_eq_some_iff.1 hu).1
      have hd : j / size < xs.length := by
        rw [Nat.mul_comm] at hj
        exact Nat.div_lt_of_lt_mul hj
      have hjj : j = j / size * size + j % size := by have := Nat.div_add_mod j size; rw [Nat.mul_comm] at this; omega
      have := hcell (j / size) hd (j % size) (Nat.mod_lt _ hpos)
      rw [← hjj, Addr.add_lit] at this
      rw [this]
      have hf := flatMap_get hsz xs (j / size) (j % size) _ (List.getElem?_eq_getElem hd) (Nat.mod_lt _ hpos)
      rw [← hjj, hu] at hf
      exact hf.symm
theorem weights_get {p : Nat → Bool} : ∀ {ts : List TypeId} {ds : List (DataW H)}, (DataW.weightsEach P ts ds).all p = true → ∀ {j : Nat} {t : TypeId} {d : DataW H}, ts[j]? = some t → ds[j]? = some d → (d.weights P t).all p = true
  | t0 :: ts, d0 :: ds, h, 0, t, d, ht, hd => by
    simp at ht hd
    subst ht hd
    unfold DataW.weightsEach at h
    rw [List.all_append] at h
    exact (Bool.and_eq_true_iff.1 h).1
  | t0 :: ts, d0 :: ds, h, j + 1, t, d, ht, hd => by
    unfold DataW.weightsEach at h
    rw [List.all_append] at h
    exact weights_get (Bool.and_eq_true_iff.1 h).2 (by simpa using ht) (by simpa using hd)
  | [], _, _, _, _, _, ht, _ => by simp at ht
  | _ :: _, [], _, _, _, _, _, hd => by simp at hd
theorem weightsAll_get {p : Nat → Bool} {e : TypeId} : ∀ {ds : List (DataW H)}, (DataW.weightsAll P e ds).all p = true → ∀ {j : Nat} {d : DataW H}, ds[j]? = some d → (d.weights P e).all p = true
  | d0 :: ds, h, 0, d, hd => by
    simp at hd
    subst hd
    unfold DataW.weightsAll at h
    rw [List.all_append] at h
    exact (Bool.and_eq_true_iff.1 h).1
  | d0 :: ds, h, j + 1, d, hd => by
    unfold DataW.weightsAll at h
    rw [List.all_append] at h
    exact weightsAll_get (Bool.and_eq_true_iff.1 h).2 (by simpa using hd)
  | [], _, _, _, hd => by simp at hd
theorem weights_slice {t e : TypeId} {es sp : List (DataW H)} (ht : P.underlying t = some (.slice e)) (h : ((DataW.slice es sp).weights P t).all (· ≤ reachBytes) = true) : (es.length + sp.length) * P.bytesOf e ≤ 140737488351232 ∧ (DataW.weightsAll P e es).all (· ≤ reachBytes) = true := by
  unfold DataW.weights at h
  rw [ht] at h
  simp only [List.all_cons, List.all_append, Bool.and_eq_true, decide_eq_true_eq] at h
  exact ⟨h.1, h.2.1⟩
/-- A struct's cells, field by field (all of one cell), and its datum's parts. -/
theorem read_struct2 {t : TypeId} {fs : Array Field} {fuel : Nat} {cs : List Value} {y : DataW H × List MemPlace} (ht : P.underlying t = some (.struct fs)) (hone : oneCellFields P fs = true) (hC : P.cellsOf t = fs.size)
    (h : DataW.trod enc P w 0 (fun _ => true) true fuel t cs = some y) : cs.length = fs.size ∧ ∃ n parts, y.1 = .agg parts ∧ ∀ (j : Nat) (f : Field), fs[j]? = some f → ∃ (v : Value) (z : DataW H × List MemPlace), cs[j]? = some v ∧ DataW.trod enc P w 0 (fun _ => true) true n f.type [v] = some z ∧ parts[j]? = some z.1 := by
  obtain ⟨ys, n', hn', hy, hlen, hyl, hf⟩ := DataW.trod_struct ht h
  rw [hC] at hlen
  refine ⟨hlen, n', ys.map (·.1), by rw [hy], fun j f hj => ?_⟩
  obtain ⟨ho, hk⟩ := hone_of hone j f hj
  have hjl : j < fs.size := (Array.getElem?_eq_some_iff.1 hj).1
  have h1 := hf j f hj
  rw [ho, hk] at h1
  have hone' : (cs.drop j).take 1 = [cs[j]'(by omega)] := by
    rw [List.drop_eq_getElem_cons (by omega)]
    rfl
  rw [hone'] at h1
  have hys : ys[j]? = some (ys[j]'(by omega)) := List.getElem?_eq_getElem (by omega)
  exact ⟨_, _, List.getElem?_eq_getElem (by omega), h1.trans hys, by rw [List.getElem?_map, hys]; rfl⟩
theorem weights_agg {t : TypeId} {fs : Array Field} {parts : List (DataW H)} (ht : P.underlying t = some (.struct fs)) (h : ((DataW.agg parts).weights P t).all (· ≤ reachBytes) = true) : (DataW.weightsEach P (fs.toList.map (·.type)) parts).all (· ≤ reachBytes) = true := by
  unfold DataW.weights at h
  rw [ht] at h
  exact h
end
section
variable {H : Type} {enc : TypeId × Value → H} {w : World}
theorem rd_bool (fuel : Nat) (cs : List Value) (y : DataW H × List MemPlace) (h : DataW.trod enc Try.prog w 0 (fun _ => true) true fuel 4 cs = some y) : ∃ s : Bool, cs = [Value.bool s] := by
  obtain ⟨a, i, _⟩ := DataW.trod_bool Try.underlying4 h
  exact ⟨a, i⟩
theorem rd_u8 (fuel : Nat) (cs : List Value) (y : DataW H × List MemPlace) (h : DataW.trod enc Try.prog w 0 (fun _ => true) true fuel 5 cs = some y) : ∃ s : UInt8, cs = [B s] := by
  obtain ⟨a, i, _, w0⟩ := DataW.trod_int Try.underlying5 h
  have g1 : 0 ≤ a ∧ a ≤ 255 := by simpa [Lit.wf, IntKind.min, IntKind.max, IntKind.signed, IntKind.bits] using w0
  refine ⟨UInt8.ofNat a.toNat, ?_⟩
  rw [i]
  unfold B
  congr 2
  rw [UInt8.toNat_ofNat']
  omega
theorem bs_flat (xs : List UInt8) : xs.flatMap (fun u => [B u]) = bs xs := by
  induction xs with
  | nil => rfl
  | cons a l ih => rw [List.flatMap_cons, ih]; rfl
theorem bools_flat (xs : List Bool) : xs.flatMap (fun u => [Value.bool u]) = xs.map .bool := by
  induction xs with
  | nil => rfl
  | cons a l ih => rw [List.flatMap_cons, ih]; rfl
abbrev SlR (w : World) := { p : Sl // p.l.length = p.n ∧ Row w p.A (bs p.l) }
theorem sls_flat (ps : List (SlR w)) : ps.flatMap (fun s : SlR w => [s.1.val]) = (ps.map (·.1)).map Sl.val := by
  induction ps with
  | nil => rfl
  | cons a l ih => rw [List.flatMap_cons, ih]; rfl
theorem rd_sl (fuel : Nat) (cs : List Value) (y : DataW H × List MemPlace) (h : DataW.trod enc Try.prog w 0 (fun _ => true) true fuel 27 cs = some y) :
    ∃ s : SlR w, cs = [s.1.val] ∧ ((y.1.weights Try.prog 27).all (· ≤ reachBytes) = true → s.1.l.length ≤ 140737488355328) := by
  obtain ⟨A2, c2, l, i2, hr2, hlc2, hm2, h3⟩ := read_slice (cells := fun u => [B u]) (size := 1) (fun _ => rfl) (by omega) Try.underlying27 (by kernel_rfl) rd_u8 h
  rw [bs_flat] at hr2
  refine ⟨⟨⟨A2, l.length, c2, l⟩, rfl, hr2⟩, i2, fun hw => ?_⟩
  show l.length ≤ _
  rcases h3 with ⟨h4, _⟩ | ⟨es, sp, h4, h5⟩
  · omega
  · rw [h4] at hw
    have := (weights_slice (e := 5) Try.underlying27 hw).1
    rw [show Try.prog.bytesOf 5 = 1 from by kernel_rfl] at this
    omega
/-- What a reach says of a slotted body. -/
structure SltReach (s : Slt) (nF nD : Nat) : Prop where
  f : nF ≤ 140737488355328
  d : nD ≤ 140737488355328
  x : ∀ x ∈ s.data, x.length ≤ 140737488355328
  k : s.kind < 256
  n : s.next < 4294967296
set_option maxRecDepth 100000 in
theorem rd_slt (fuel : Nat) (cs : List Value) (y : DataW H × List MemPlace) (h : DataW.trod enc Try.prog w 0 (fun _ => true) true fuel 26 cs = some y) :
    ∃ (s : Slt) (A : Option Addr) (nF cA : Nat) (D : Option Addr) (nD cD : Nat), cs = [.int .u8 (s.kind : Int), .int .u32 (s.next : Int), .slice A nF cA, .slice D nD cD] ∧ SltAt w A nF cA D nD cD s ∧
      ((y.1.weights Try.prog 26).all (· ≤ reachBytes) = true → SltReach s nF nD) := by
  obtain ⟨hl, n, parts, hy, hf⟩ := read_struct2 Try.underlying26 (by kernel_rfl) (by kernel_rfl) h
  obtain ⟨v0, z0, e0, h0, _⟩ := hf 0 _ rfl
  obtain ⟨v1, z1, e1, h1, _⟩ := hf 1 _ rfl
  obtain ⟨v2, z2, e2, h2, p2⟩ := hf 2 _ rfl
  obtain ⟨v3, z3, e3, h3, p3⟩ := hf 3 _ rfl
  obtain ⟨a0, i0, _, w0⟩ := DataW.trod_int Try.underlying5 h0
  have g0 : 0 ≤ a0 ∧ a0 ≤ 255 := by simpa [Lit.wf, IntKind.min, IntKind.max, IntKind.signed, IntKind.bits] using w0
  obtain ⟨a1, i1, _, w1⟩ := DataW.trod_int Try.underlying22 h1
  have g1 : 0 ≤ a1 ∧ a1 ≤ 4294967295 := by simpa [Lit.wf, IntKind.min, IntKind.max, IntKind.signed, IntKind.bits] using w1
  obtain ⟨A, c, xs, i2, hr1, hlc1, hm1, h5⟩ := read_slice (cells := fun u => [Value.bool u]) (size := 1) (fun _ => rfl) (by omega) Try.underlying23 (by kernel_rfl) rd_bool h2
  obtain ⟨A2, c2, ps, i3, hr2, hlc2, hm2, h6⟩ := read_slice2 (cells := fun s : SlR w => [s.1.val]) (size := 1) (Q := fun s d => (d.weights Try.prog 27).all (· ≤ reachBytes) = true → s.1.l.length ≤ 140737488355328) (fun _ => rfl) (by omega) Try.underlying24 (by kernel_rfl) rd_sl h3
  rw [bools_flat] at hr1
  simp only [List.cons.injEq, and_true] at i0 i1 i2 i3
  subst i0 i1 i2 i3
  match cs, hl with
  | [x0, x1, x2, x3], _ =>
    simp at e0 e1 e2 e3
    subst e0 e1 e2 e3
    rw [sls_flat] at hr2
    refine ⟨⟨a0.toNat, a1.toNat, xs, (ps.map (·.1)).map Sl.l⟩, A, xs.length, c, A2, ps.length, c2, ?_, ⟨rfl, by simp, hlc1, hlc2, hr1, ps.map (·.1), rfl, hr2, fun p hp => ?_⟩, fun hw => ?_⟩
    · show _ = [Value.int .u8 (a0.toNat : Int), Value.int .u32 (a1.toNat : Int), _, _]
      rw [Int.toNat_of_nonneg g0.1, Int.toNat_of_nonneg g1.1]
    · obtain ⟨q, _, rfl⟩ := List.mem_map.1 hp
      exact ⟨q.2.2, q.2.1⟩
    · rw [hy] at hw
      have hW := weights_agg Try.underlying26 hw
      have hF := weights_get hW (j := 2) rfl p2
      have hD := weights_get hW (j := 3) rfl p3
      refine ⟨?_, ?_, fun x hx => ?_, (show a0.toNat < 256 by omega), (show a1.toNat < 4294967296 by omega)⟩
      · rcases h5 with ⟨h7, _⟩ | ⟨es, sp, h7, h8⟩
        · omega
        · rw [h7] at hF
          have := (weights_slice (e := 4) Try.underlying23 hF).1
          rw [show Try.prog.bytesOf 4 = 1 from by kernel_rfl] at this
          omega
      · rcases h6 with ⟨h7, h8, _⟩ | ⟨es, sp, h7, h8, _⟩
        · rw [h8]; simp
        · rw [h7] at hD
          have := (weights_slice (e := 27) Try.underlying24 hD).1
          rw [show Try.prog.bytesOf 27 = 24 from by kernel_rfl] at this
          omega
      · have hx' : x ∈ (ps.map (·.1)).map Sl.l := hx
        obtain ⟨q, hq, rfl⟩ := List.mem_map.1 hx'
        obtain ⟨q', hq', rfl⟩ := List.mem_map.1 hq
        obtain ⟨i, hi, rfl⟩ := List.getElem_of_mem hq'
        rcases h6 with ⟨h7, h8, _⟩ | ⟨es, sp, h7, h8, h9⟩
        · rw [h8] at hi; simp at hi
        · obtain ⟨d, hd, hQ⟩ := h9 i hi
          rw [h7] at hD
          exact hQ (weightsAll_get (weights_slice (e := 27) Try.underlying24 hD).2 hd)
set_option maxRecDepth 100000 in
theorem read_slots {r : Reach} {b0 : Nat} {v : Value} {d : DataW H} {p : List MemPlace} (hv : Value.okWide Try.prog w r b0 26 v) (h : DataW.Trod enc Try.prog w 0 (fun _ => true) true 26 v d p) :
    ∃ (s : Slt) (A : Option Addr) (nF cA : Nat) (D : Option Addr) (nD cD : Nat), v = .agg #[.int .u8 (s.kind : Int), .int .u32 (s.next : Int), .slice A nF cA, .slice D nD cD] ∧ SltAt w A nF cA D nD cD s ∧
      ((d.weights Try.prog 26).all (· ≤ reachBytes) = true → SltReach s nF nD) := by
  obtain ⟨cs, rfl, _⟩ := okWide_struct Try.underlying26 hv
  obtain ⟨fuel, hf⟩ := h
  obtain ⟨s, A, nF, cA, D, nD, cD, e, h1, h2⟩ := rd_slt fuel _ _ hf
  have e' : cs.toList = [.int .u8 (s.kind : Int), .int .u32 (s.next : Int), .slice A nF cA, .slice D nD cD] := by simpa [Value.cells] using e
  refine ⟨s, A, nF, cA, D, nD, cD, ?_, h1, h2⟩
  congr 1
  exact Array.ext' e'
end
end Go.Proofs.Ytofbfehpadjbbaa
