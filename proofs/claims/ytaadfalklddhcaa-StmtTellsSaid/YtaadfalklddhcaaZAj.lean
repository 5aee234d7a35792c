/-
  What the reader's count reads, and the law's known answer.
  Conditions: the reader lies in a block of its own; its bytes lie in memory as a list.
-/
import Derived.WalkKit
import Derived.WalkLawsBesides
import Derived.WalkSpells
import Derived.WalkSmall
import Derived.ProofKit
import Derived.Lib.Hide
import Derived.Deep.AppendLies
import Derived.Deep.Draws
import Derived.Deep.QuietTactic
import Derived.BigQuiet
import Derived.Maps.AppendAt
import Derived.Laws.BytesArg
import Derived.Handy
import Derived.Lib.SlBytesConst
import Derived.Test.YtaadfalklddhcaaRows
import Derived.Lib.QuietBelow
import Derived.Laws.CopyOwn
import Derived.Laws.BitsAllLaws
import Derived.Lib.BufferOwn
/-! part -/
namespace Go.Proofs.Ytaadfalklddhcaa
open Go.RowKit
set_option linter.unusedVariables false

/-- A byte. -/
def B (c : UInt8) : Value := .int .u8 (c.toNat : Int)
def bs (l : List UInt8) : List Value := l.map B
theorem bs_length (l : List UInt8) : (bs l).length = l.length := List.length_map ..
theorem bs_get? (l : List UInt8) (j : Nat) : (bs l)[j]? = l[j]?.map B := List.getElem?_map ..
theorem bs_append (l m : List UInt8) : bs (l ++ m) = bs l ++ bs m := List.map_append ..
theorem bs_one (l : List UInt8) : ∀ u ∈ bs l, u.oneCell' = true := by
  intro u hu
  obtain ⟨_, _, rfl⟩ := List.mem_map.1 hu
  rfl

/-- The cells from A on are xs (nothing is asked where xs is empty). -/
def Row (w : World) (A : Option Addr) (xs : List Value) : Prop :=
  xs = [] ∨ ∃ b o, A = some ⟨b, o, none⟩ ∧ ∀ j u, xs[j]? = some u → w.cell? ⟨b, o + j, none⟩ = some u

section
variable {w w' : World} {A : Option Addr} {xs : List Value}
theorem Row.nil (w : World) (A : Option Addr) : Row w A [] := .inl rfl
theorem Row.at_ (h : Row w A xs) {k : Nat} (hk : k < xs.length) : ∃ b o, A = some ⟨b, o, none⟩ ∧ w.cell? ⟨b, o + k, none⟩ = some (xs[k]) := by
  rcases h with rfl | ⟨b, o, e, hc⟩
  · cases hk
  · exact ⟨b, o, e, hc k _ (List.getElem?_eq_getElem hk)⟩
theorem Row.byte {l : List UInt8} (h : Row w A (bs l)) {k : Nat} (hk : k < l.length) : ∃ b o, A = some ⟨b, o, none⟩ ∧ w.cell? ⟨b, o + k, none⟩ = some (.int .u8 ((l[k]).toNat : Int)) := by
  obtain ⟨b, o, e, hc⟩ := h.at_ (k := k) (by rw [bs_length]; exact hk)
  refine ⟨b, o, e, ?_⟩
  rw [hc]
  simp [bs, B]
theorem Row.keep (h : Row w A xs) (hk : ∀ p v, w.cell? p = some v → w'.cell? p = some v) : Row w' A xs := by
  rcases h with h | ⟨b, o, e, hc⟩
  · exact .inl h
  · exact .inr ⟨b, o, e, fun j u hu => hk _ _ (hc j u hu)⟩
theorem Row.below (h : Row w A xs) (hb : Below w.heap.size w w') : Row w' A xs :=
  h.keep fun p v hp => by rw [hb.cell (World.block_lt_of_cell? w p hp)]; exact hp
theorem Row.alloc (h : Row w A xs) (o : Obj) : Row (w.alloc o) A xs :=
  h.keep fun p v hp => by rw [World.cell?_alloc_lt w o p (World.block_lt_of_cell? w p hp)]; exact hp
theorem Row.drew (h : Row w A xs) : Row w.drew A xs := h
theorem Row.drewN (h : Row w A xs) (k : Nat) : Row (w.drewN k) A xs := h
theorem Row.cut (h : Row w A xs) {k cap : Nat} (hc : xs.length ≤ cap) : Row w (if cap = k then A else A.map (·.add k)) (xs.drop k) := by
  rcases Nat.lt_or_ge k xs.length with hk | hk
  · rw [if_neg (by omega)]
    rcases h with rfl | ⟨b, o, rfl, hcell⟩
    · exact .inl (by simp)
    · refine .inr ⟨b, o + k, ?_, fun j u hu => ?_⟩
      · simp only [Option.map_some, Addr.add_lit]
      · rw [Nat.add_assoc]; exact hcell _ u (by rw [← hu, List.getElem?_drop])
  · exact .inl (List.drop_of_length_le hk)
theorem Row.cutAt (h : Row w A xs) {k cap : Nat} (hc : xs.length ≤ cap) {A' : Option Addr} (hA : ¬ cap = k → A' = A.map (·.add k)) : Row w A' (xs.drop k) := by
  rcases Nat.lt_or_ge k xs.length with hk | hk
  · have := h.cut (k := k) hc
    rw [if_neg (by omega)] at this
    rw [hA (by omega)]; exact this
  · exact .inl (List.drop_of_length_le hk)
theorem Row.take (h : Row w A xs) (k : Nat) : Row w A (xs.take k) := by
  rcases h with rfl | ⟨b, o, rfl, hcell⟩
  · exact .inl (by simp)
  · refine .inr ⟨b, o, rfl, fun j u hu => hcell j u ?_⟩
    rw [List.getElem?_take] at hu
    split at hu
    · exact hu
    · cases hu
theorem Row.of_own {base n size c : Nat} {e : TypeId} (h : w.ownsRow base e size (.slice A n c) n xs) : Row w A xs := by
  rcases h.2 with ⟨hv, hn⟩ | ⟨g, cap, cur, hv, _, _, _⟩
  · have := h.1
    rw [hn] at this
    exact .inl (List.eq_nil_of_length_eq_zero (by omega))
  · injection hv with hA
    subst hA
    refine .inr ⟨g, 0, rfl, fun j u hu => ?_⟩
    have := h.cells (g := g) rfl j u hu
    rwa [Addr.add_lit] at this
end

/-- A block that is known whole. -/
def Blk (w : World) (g : Nat) (t : TypeId) (cs : Array Value) : Prop := w.heap[g]? = some (.cells cs t (0, 0))
section
variable {w w' : World} {g : Nat} {t : TypeId} {cs : Array Value}
theorem Blk.lt (h : Blk w g t cs) : g < w.heap.size := by
  rcases Nat.lt_or_ge g w.heap.size with hlt | hge
  · exact hlt
  · unfold Blk at h; rw [Array.getElem?_eq_none hge] at h; cases h
theorem Blk.cell (h : Blk w g t cs) (i : Nat) : w.cell? ⟨g, i, none⟩ = cs[i]? := cell_of_row w g i cs t (0, 0) h
theorem Blk.frozen (h : Blk w g t cs) (i : Nat) : w.frozen? ⟨g, i, none⟩ = false := by
  unfold Blk at h
  simp [World.frozen?, h]
theorem Blk.new (w : World) (t : TypeId) (cs : Array Value) : Blk (w.alloc (.cells cs t)) w.heap.size t cs := heap_alloc_new w _
theorem Blk.drew (h : Blk w g t cs) : Blk w.drew g t cs := h
theorem Blk.drewN (h : Blk w g t cs) (n : Nat) : Blk (w.drewN n) g t cs := h
theorem Blk.alloc (h : Blk w g t cs) (o : Obj) : Blk (w.alloc o) g t cs := (Below.heap_alloc w o g h.lt).trans h
theorem Blk.set_ (h : Blk w g t cs) (i : Nat) (u : Value) : Blk (w.setCell ⟨g, i, none⟩ u) g t (cs.setIfInBounds i u) := by
  unfold Blk at h ⊢
  simp [World.setCell, Array.getElem?_modify, h]
theorem Blk.far (h : Blk w g t cs) {p : Addr} (hp : g ≠ p.block) (u : Value) : Blk (w.setCell p u) g t cs := (Below.heap_setCell w p u g hp).trans h
theorem Blk.below {B : Nat} (h : Blk w g t cs) (hb : Below B w w') (hg : g < B) : Blk w' g t cs := (hb.block g hg).trans h
theorem Blk.grown {row : Option Nat} (h : Blk w g t cs) (hb : w.grownBy w' row) (hg : some g ≠ row) : Blk w' g t cs := (hb.block g h.lt hg).trans h
end

theorem take_snoc {α : Type} (l : List α) (k : Nat) (h : k < l.length) : l.take (k + 1) = l.take k ++ [l[k]] := by
  rw [List.take_succ_eq_append_getElem h]

/-! ### append onto a row of the call's own -/
section
variable {P : Program} (w : World)
theorem run_append_of_nil (base : Nat) (t ty e : TypeId) (i : TypeInfo) (size : Nat) (ht : P.underlying t = some (.slice e)) (hi : P.info? e = some i)
    (v : Value) (n : Nat) (xs : List Value) (hown : w.ownsRow base e size v n xs) (c : Nat) : (Builtin.append_ #[t, t] ty #[v, .slice none 0 c]).run P w = .ok v w := by
  rcases hown.2 with ⟨rfl, rfl⟩ | ⟨g, cap, cur, rfl, _, _, hnc, _⟩
  · simp [Builtin.append_, run_underlying ht, sizeOf, typeInfo, hi, Builtin.lenOf, Builtin.firstCells]
  · simp [Builtin.append_, run_underlying ht, sizeOf, typeInfo, hi, Builtin.lenOf, Builtin.firstCells, hnc, storeCells]
theorem ownsRow_form {w : World} {base : Nat} {e : TypeId} {size n : Nat} {v : Value} {xs : List Value} (h : w.ownsRow base e size v n xs) : ∃ A c, v = .slice A n c := by
  rcases h.2 with ⟨rfl, rfl⟩ | ⟨g, cap, cur, rfl, _⟩
  · exact ⟨_, _, rfl⟩
  · exact ⟨_, _, rfl⟩
theorem run_append_row (base : Nat) (t ty e : TypeId) (i : TypeInfo) (z : Value) (size bytes : Nat) (ht : P.underlying t = some (.slice e)) (hi : P.info? e = some i) (hz : i.zero = some z)
    (hsize : i.size = size) (hby : i.bytes = bytes) (hzs : z.cells.size = size) (hsz : 0 < size)
    (v : Value) (n : Nat) (xs : List Value) (hown : w.ownsRow base e size v n xs)
    (A : Option Addr) (m c : Nat) (news : List Value) (hlen : news.length = m * size) (hr : Row w A news) (h1 : ∀ u ∈ news, u.oneCell' = true)
    (h63 : n + m ≤ maxLen) (hbytes : (n + m) * bytes ≤ 140737488355328) (hbase : base ≤ w.heap.size) :
    ∃ A' c' w', (Builtin.append_ #[t, t] ty #[v, .slice A m c]).run P w = .ok (.slice A' (n + m) c') w' ∧ w'.ownsRow base e size (.slice A' (n + m) c') (n + m) (xs ++ news) ∧ w.grownBy w' v.ownBlock ∧
      ((Value.slice A' (n + m) c').ownBlock = v.ownBlock ∨ (Value.slice A' (n + m) c').ownBlock = some w.heap.size) := by
  rcases A with _ | ad
  · have hn : news = [] := by
      rcases hr with h | ⟨b, o, h, _⟩
      · exact h
      · cases h
    subst hn
    have hm : m = 0 := by
      rcases Nat.eq_zero_or_pos m with h | h
      · exact h
      · have := Nat.mul_pos h hsz
        simp at hlen; omega
    subst hm
    obtain ⟨A', c', rfl⟩ := ownsRow_form hown
    exact ⟨A', c', w, run_append_of_nil w base t ty e i size ht hi _ n xs hown c, by simpa using hown, World.grownBy.refl w _, .inl rfl⟩
  · have hcells : ∀ j u, news[j]? = some u → w.cell? (ad.add j) = some u := by
      intro j u hu
      rcases hr with h | ⟨b, o, h, hc⟩
      · subst h; simp at hu
      · injection h with h
        subst h
        rw [Addr.add_lit]
        exact hc j u hu
    obtain ⟨v', w', hrun, h2, h3, _, h5⟩ := run_append_own_at (P := P) w base t ty e i z size bytes ht hi hz hsize hby hzs hsz v n xs hown ad m c news hlen hcells h1 h63 hbytes hbase
    obtain ⟨A', c', rfl⟩ := ownsRow_form h2
    exact ⟨A', c', w', hrun, h2, h3, h5⟩
theorem wp_append_row {o : Oper} {a : Act} {K : Act → World → Prop} {Q : Exit → Act → World → Prop} (s x : Operand) (t : TypeId)
    (ho : o.op = .call { callee := .builtin .append, args := #[s, x], argTypes := #[t, t] })
    (base : Nat) (e : TypeId) (i : TypeInfo) (z : Value) (size bytes : Nat) (ht : P.underlying t = some (.slice e)) (hi : P.info? e = some i) (hz : i.zero = some z)
    (hsize : i.size = size) (hby : i.bytes = bytes) (hzs : z.cells.size = size) (hsz : 0 < size)
    (v : Value) (n : Nat) (xs : List Value) (hs : a.eval s = v) (hown : w.ownsRow base e size v n xs)
    (A : Option Addr) (m c : Nat) (news : List Value) (hx : a.eval x = .slice A m c) (hlen : news.length = m * size) (hr : Row w A news) (h1 : ∀ u ∈ news, u.oneCell' = true)
    (h63 : n + m ≤ maxLen) (hbytes : (n + m) * bytes ≤ 140737488355328) (hbase : base ≤ w.heap.size)
    (h : ∀ A' c' w', w'.ownsRow base e size (.slice A' (n + m) c') (n + m) (xs ++ news) → w.grownBy w' v.ownBlock → ((Value.slice A' (n + m) c').ownBlock = v.ownBlock ∨ (Value.slice A' (n + m) c').ownBlock = some w.heap.size) → K (a.put o.dst (.slice A' (n + m) c')) w') : o.wp P a w K Q := by
  obtain ⟨A', c', w', hrun, h2, h3, h4⟩ := run_append_row (P := P) w base t o.type e i z size bytes ht hi hz hsize hby hzs hsz v n xs hown A m c news hlen hr h1 h63 hbytes hbase
  unfold Oper.wp execOp
  simp only [ho, resolve, invoke, builtin, Sem.run_bind, Sem.run_pure, Result.andThen_ok, List.map_toArray, List.map_cons, List.map_nil, hs, hx, hrun]
  exact h A' c' w' h2 h3 h4
/-- append, the operation wanted (no guard, or one that says yes). -/
theorem wpl_append {ops : Array Oper} {rest : List Oper} {o : Oper} {a : Act} {Q : Exit → Act → World → Prop} (hgd : Region.wanted o (yielded ops a.tmps) = true) (s x : Operand) (t : TypeId)
    (ho : o.op = .call { callee := .builtin .append, args := #[s, x], argTypes := #[t, t] })
    (base : Nat) (e : TypeId) (i : TypeInfo) (z : Value) (size bytes : Nat) (ht : P.underlying t = some (.slice e)) (hi : P.info? e = some i) (hz : i.zero = some z)
    (hsize : i.size = size) (hby : i.bytes = bytes) (hzs : z.cells.size = size) (hsz : 0 < size)
    (v : Value) (n : Nat) (xs : List Value) (hs : a.eval s = v) (hown : w.ownsRow base e size v n xs)
    (A : Option Addr) (m c : Nat) (news : List Value) (hx : a.eval x = .slice A m c) (hlen : news.length = m * size) (hr : Row w A news) (h1 : ∀ u ∈ news, u.oneCell' = true)
    (h63 : n + m ≤ maxLen) (hbytes : (n + m) * bytes ≤ 140737488355328) (hbase : base ≤ w.heap.size)
    (h : ∀ A' c' w', w'.ownsRow base e size (.slice A' (n + m) c') (n + m) (xs ++ news) → w.grownBy w' v.ownBlock → ((Value.slice A' (n + m) c').ownBlock = v.ownBlock ∨ (Value.slice A' (n + m) c').ownBlock = some w.heap.size) → wpList P ops Q rest (a.put o.dst (.slice A' (n + m) c')) w') : wpList P ops Q (o :: rest) a w :=
  wpList_step fun _ hK => by
    rw [if_pos hgd]
    exact wp_append_row w s x t ho base e i z size bytes ht hi hz hsize hby hzs hsz v n xs hs hown A m c news hx hlen hr h1 h63 hbytes hbase fun A' c' w' h2 h3 h4 => hK _ _ (h A' c' w' h2 h3 h4)
end


/-- min of three lengths. -/
theorem wpl_min3 {P : Program} (w : World) {ops : Array Oper} {rest : List Oper} {o : Oper} {a : Act} {Q : Exit → Act → World → Prop} (hgd : o.guard = none) (x y z : Operand) (ts : Array TypeId)
    (ho : o.op = .call { callee := .builtin .min, args := #[x, y, z], argTypes := ts }) (p q r : Nat) (hx : a.eval x = .int .i64 p) (hy : a.eval y = .int .i64 q) (hz : a.eval z = .int .i64 r)
    (h : ∀ n : Nat, n ≤ p → n ≤ q → n ≤ r → wpList P ops Q rest (a.put o.dst (.int .i64 n)) w) : wpList P ops Q (o :: rest) a w := by
  refine wpList_plain hgd fun K hK => ?_
  unfold Oper.wp execOp
  simp only [ho, resolve, invoke, builtin, Sem.run_bind, Sem.run_pure, Result.andThen_ok, List.map_toArray, List.map_cons, List.map_nil, hx, hy, hz, run_min_int3]
  have h' := hK _ _ (h (min (min p q) r) (by omega) (by omega) (by omega))
  have e : (if (r : Int) < (if (q : Int) < p then (q : Int) else p) then (r : Int) else (if (q : Int) < p then (q : Int) else p)) = ((min (min p q) r : Nat) : Int) := by
    split <;> split <;> omega
  rw [e]
  exact h'

/-! ### []byte to string -/
def str (l : List UInt8) : ByteArray := ⟨l.toArray⟩
theorem str_inj {l m : List UInt8} : str l = str m ↔ l = m := by
  constructor
  · intro h
    have := congrArg (fun b : ByteArray => b.data.toList) h
    simpa [str] using this
  · rintro rfl; rfl
theorem strOfNums_str (l : List UInt8) : strOfNums (l.map fun c => (c.toNat : Int)) = str l := by
  unfold strOfNums str
  rw [List.map_map]
  congr 2
  conv => rhs; rw [← List.map_id l]
  refine List.map_congr_left fun c _ => ?_
  simp
theorem run_bytes_str {P : Program} (w : World) {src dst e : TypeId} (hs : P.underlying src = some (.slice e)) (he : P.underlying e = some (.int .u8)) (hd : P.underlying dst = some .string) {A : Option Addr} {l : List UInt8} (c : Nat) (hr : Row w A (bs l)) :
    (convert src dst (.slice A l.length c)).run P w = .ok (.string (str l)) w := by
  rcases A with _ | ad
  · have : l = [] := by
      rcases hr with h | ⟨b, o, h, _⟩
      · exact List.map_eq_nil_iff.1 h
      · cases h
    subst this
    exact run_convert_bytes_nil w src e hs he _ c dst hd
  · rcases hr with h | ⟨b, o, h, hc⟩
    · have : l = [] := List.map_eq_nil_iff.1 h
      subst this
      rw [run_convert_bytes_string w src dst e _ _ c hs he hd]
      exact run_bytesToString w ad 0 c [] (by simp [loadCells, loadCellsFrom])
    · injection h with h
      subst h
      rw [run_convert_bytes_arg w src e hs he b o l.length c (l.map fun c => (c.toNat : Int)) (by simp) (fun i hi => by
        have := hc i (B l[i]) (by rw [bs_get?, List.getElem?_eq_getElem hi]; rfl)
        rw [this]
        simp [B, hi]) dst hd, strOfNums_str]

/-- A cell that is there stays there. -/
theorem cell_below {w w' : World} {p : Addr} {v : Value} (hb : Below w.heap.size w w') (h : w.cell? p = some v) : w'.cell? p = some v := by
  rw [hb.cell (World.block_lt_of_cell? w p h)]; exact h
theorem below_step {B : Nat} {a b c : World} (h : Below B a b) (k : Below b.heap.size b c) (hB : B ≤ a.heap.size) : Below B a c := h.trans (k.mono (Nat.le_trans hB h.size))
theorem below_join {a b c : World} (h : Below a.heap.size a b) (k : Below b.heap.size b c) : Below a.heap.size a c := below_step h k (Nat.le_refl _)
theorem ret_int {k : IntKind} {a b : Int} (h : a = b) : Ending.returned (.int k a) = .returned (.int k b) := by rw [h]
end Go.Proofs.Ytaadfalklddhcaa
/-! part -/
namespace Go.Proofs.Ytaadfalklddhcaa
open Go.RowKit
set_option linter.unusedVariables false
theorem info_u8 : (Try.prog.info? 5).map (fun i => (i.zero, i.size, i.bytes)) = some (some (.int .u8 0), 1, 1) := by kernel_rfl
/-- The slice of bytes (A, c) is the call's own, and holds l. -/
def Own (w : World) (base : Nat) (A : Option Addr) (c : Nat) (l : List UInt8) : Prop := w.ownsRow base 5 1 (.slice A l.length c) l.length (bs l)
section
variable {w w' : World} {base : Nat} {A : Option Addr} {c : Nat} {l : List UInt8}
theorem Own.nil_ (w : World) (base : Nat) : Own w base none 0 [] := World.ownsRow_nil w base 5 1
theorem Own.made (w : World) (cur : Array Value) (cap : Nat) (hb : base ≤ w.heap.size) (hm : cap ≤ maxLen) (hs : cur.size = cap) : Own (w.alloc (.cells cur 5)) base (some ⟨w.heap.size, 0, none⟩) cap [] :=
  World.ownsRow_made w cur cap hb hm (by omega)
theorem Own.row (h : Own w base A c l) : Row w A (bs l) := Row.of_own h
theorem Own.le (h : Own w base A c l) : l.length ≤ c ∧ c ≤ maxLen := by
  rcases h.2 with ⟨hv, hn⟩ | ⟨g, cap, cur, hv, _, _, h1, h2, _⟩
  · injection hv with _ e1 e2; unfold maxLen; omega
  · injection hv with _ e1 e2; omega
theorem Own.some_ (h : Own w base A c l) (hl : l ≠ []) : ∃ g, A = some ⟨g, 0, none⟩ ∧ base ≤ g ∧ g < w.heap.size := by
  rcases h.2 with ⟨hv, hn⟩ | ⟨g, cap, cur, hv, hb, hg, _⟩
  · exact absurd (List.eq_nil_of_length_eq_zero hn) hl
  · injection hv with e
    exact ⟨g, e, hb, (Array.getElem?_eq_some_iff.1 hg).1⟩
theorem Own.alloc (h : Own w base A c l) (o : Obj) : Own (w.alloc o) base A c l := World.ownsRow.alloc h o
theorem Own.drew (h : Own w base A c l) : Own w.drew base A c l := h
theorem Own.below (h : Own w base A c l) (hb : Below w.heap.size w w') : Own w' base A c l := by
  refine ⟨h.1, ?_⟩
  rcases h.2 with hn | ⟨g, cap, cur, e, hb', hg, rest⟩
  · exact .inl hn
  · refine .inr ⟨g, cap, cur, e, hb', ?_, rest⟩
    rw [hb.block g (Array.getElem?_eq_some_iff.1 hg).1]; exact hg
theorem Own.base_ {b : Nat} (h : Own w base A c l) (hb : b ≤ base) : Own w b A c l := by
  refine ⟨h.1, ?_⟩
  rcases h.2 with hn | ⟨g, cap, cur, e, hb', rest⟩
  · exact .inl hn
  · exact .inr ⟨g, cap, cur, e, by omega, rest⟩
/-- What an append leaves, below the base. -/
theorem Own.grown_below {row : Option Nat} {B : Nat} {w0 : World} (h : Own w base A c l) (hrow : row = (Value.slice A l.length c).ownBlock) (hg : w.grownBy w' row) (hb : Below B w0 w) (hB : B ≤ base) (hs : B ≤ w.heap.size) : Below B w0 w' :=
  hb.grown hg hs fun k hk => by
    have := World.ownsRow.lt h k (by rw [← hrow]; exact hk)
    omega
theorem wpl_app (w : World) {ops : Array Oper} {rest : List Oper} {o : Oper} {a : Act} {Q : Exit → Act → World → Prop} (hgd : Region.wanted o (yielded ops a.tmps) = true) (s x : Operand)
    (ho : o.op = .call { callee := .builtin .append, args := #[s, x], argTypes := #[22, 22] })
    (base : Nat) (A : Option Addr) (c : Nat) (l : List UInt8) (hs : a.eval s = .slice A l.length c) (hown : Own w base A c l)
    (A2 : Option Addr) (c2 : Nat) (m : List UInt8) (hx : a.eval x = .slice A2 m.length c2) (hr : Row w A2 (bs m))
    (hlen : l.length + m.length ≤ 140737488355328) (hbase : base ≤ w.heap.size)
    (h : ∀ A' c' w', Own w' base A' c' (l ++ m) → w.grownBy w' (Value.slice A l.length c).ownBlock →
      ((Value.slice A' (l.length + m.length) c').ownBlock = (Value.slice A l.length c).ownBlock ∨ (Value.slice A' (l.length + m.length) c').ownBlock = some w.heap.size) →
      wpList Try.prog ops Q rest (a.put o.dst (.slice A' (l.length + m.length) c')) w') : wpList Try.prog ops Q (o :: rest) a w := by
  obtain ⟨i0, hi0, hz0, hz1, hz2⟩ := info_parts info_u8
  refine wpl_append w hgd s x _ ho base 5 i0 _ 1 1 Try.underlying22 hi0 hz0 hz1 hz2 rfl (by omega) _ l.length (bs l) hs hown A2 m.length c2 (bs m) hx (by rw [bs_length]; omega) hr (bs_one m)
    (by unfold maxLen; omega) (by omega) hbase fun A' c' w' h1 h2 h3 => h A' c' w' ?_ h2 h3
  unfold Own
  rw [List.length_append, bs_append]
  exact h1
/-- A short literal. -/
theorem row_lit (w : World) (l : List UInt8) (cs : Array Value) (t : TypeId) (fr : Nat × Nat) (h : cs.toList = bs l) : Row (w.alloc (.cells cs t fr)) (some ⟨w.heap.size, 0, none⟩) (bs l) :=
  .inr ⟨w.heap.size, 0, rfl, fun j u hu => by rw [cell_of_row _ w.heap.size (0 + j) cs t fr (heap_alloc_new w _), Nat.zero_add, ← Array.getElem?_toList, h, hu]⟩
theorem run_str (w : World) {A : Option Addr} {l : List UInt8} (c : Nat) (hr : Row w A (bs l)) : (convert 22 9 (.slice A l.length c)).run Try.prog w = .ok (.string (str l)) w :=
  run_bytes_str w Try.underlying22 Try.underlying5 Try.underlying9 c hr
end
end Go.Proofs.Ytaadfalklddhcaa
/-! part -/
namespace Go.Proofs.Ytaadfalklddhcaa
open Go.RowKit Go.Sort
set_option linter.unusedVariables false

/-- The block g holds just these bytes. -/
def Bytes (w : World) (g : Nat) (l : List UInt8) : Prop := Blk w g 5 (bs l).toArray
section
variable {w w' : World} {g : Nat} {l : List UInt8}
theorem Bytes.lt (h : Bytes w g l) : g < w.heap.size := Blk.lt h
theorem Bytes.cell (h : Bytes w g l) {i : Nat} (hi : i < l.length) : w.cell? ⟨g, i, none⟩ = some (.int .u8 ((l[i]).toNat : Int)) := by
  rw [Blk.cell h i]
  simp [bs, B, hi]
theorem Bytes.frozen (h : Bytes w g l) (i : Nat) : w.frozen? ⟨g, i, none⟩ = false := Blk.frozen h i
theorem Bytes.row (h : Bytes w g l) : Row w (some ⟨g, 0, none⟩) (bs l) :=
  .inr ⟨g, 0, rfl, fun j u hu => by rw [Nat.zero_add, Blk.cell h j]; simpa using hu⟩
theorem Bytes.alloc (h : Bytes w g l) (o : Obj) : Bytes (w.alloc o) g l := Blk.alloc h o
theorem Bytes.below (h : Bytes w g l) (hb : Below w.heap.size w w') : Bytes w' g l := Blk.below h hb h.lt
theorem Bytes.set_ (h : Bytes w g l) (i : Nat) (c : UInt8) : Bytes (w.setCell ⟨g, i, none⟩ (.int .u8 (c.toNat : Int))) g (l.set i c) := by
  have := Blk.set_ h i (.int .u8 (c.toNat : Int))
  unfold Bytes
  have e : (bs (l.set i c)).toArray = (bs l).toArray.setIfInBounds i (.int .u8 (c.toNat : Int)) := by
    apply Array.ext'
    simp only [Array.toList_setIfInBounds]
    unfold bs
    rw [List.map_set]
    rfl
  rw [e]; exact this
theorem Bytes.new (w : World) (l : List UInt8) : Bytes (w.alloc (.cells (bs l).toArray 5)) w.heap.size l := Blk.new w _ _
theorem Bytes.own (h : Bytes w g l) {base : Nat} (hb : base ≤ g) (hl : l.length ≤ maxLen) : Own w base (some ⟨g, 0, none⟩) l.length l :=
  ⟨by rw [bs_length]; omega, .inr ⟨g, l.length, _, rfl, hb, h, Nat.le_refl _, hl, by simp [bs], by rw [Nat.mul_one, ← bs_length l, List.take_length]⟩⟩
end
theorem zeros_made (n : Nat) : madeCells #[Value.int .u8 0] n = (bs (List.replicate n 0)).toArray := by
  apply Array.ext'
  rw [toList_madeCells_one]
  simp [bs, B]
/-- make([]byte, n). -/
theorem wpl_make (w : World) {ops : Array Oper} {rest : List Oper} {o : Oper} {a : Act} {Q : Exit → Act → World → Prop} (hgd : o.guard = none) (x y : Operand)
    (ho : o.op = .makeSlice 22 x y) (n : Nat) (hx : a.eval x = .int .i64 n) (hy : a.eval y = .int .i64 n) (hn : n ≤ 281474976710656)
    (h : wpList Try.prog ops Q rest (a.put o.dst (.slice (some ⟨w.heap.size, 0, none⟩) n n)) (w.alloc (.cells (bs (List.replicate n 0)).toArray 5))) : wpList Try.prog ops Q (o :: rest) a w := by
  obtain ⟨i0, hi0, hz0, hz1, hz2⟩ := info_parts info_u8
  refine wpList_plain hgd fun K hK => ?_
  have hr := run_make (P := Try.prog) w 22 5 i0 _ Try.underlying22 hi0 hz0 .i64 .i64 (n : Int) (n : Int) (by omega) (Int.le_refl _) (by rw [hz2]; omega) (by omega)
  rw [hz1, Nat.mul_one, Int.toNat_natCast, show (Value.int .u8 0).cells = #[Value.int .u8 0] from rfl, zeros_made] at hr
  unfold Oper.wp
  simp [execOp, ho, hx, hy, hr, Result.andThen]
  exact hK _ _ h
theorem row_at {w : World} {A : Option Addr} {l : List UInt8} (h : Row w A (bs l)) {k : Nat} {u : UInt8} (hu : l[k]? = some u) : ∃ b o, A = some ⟨b, o, none⟩ ∧ w.cell? ⟨b, o + k, none⟩ = some (.int .u8 (u.toNat : Int)) := by
  obtain ⟨hk, e⟩ := List.getElem?_eq_some_iff.1 hu
  obtain ⟨b, o, e1, e2⟩ := h.byte hk
  rw [e] at e2
  exact ⟨b, o, e1, e2⟩
theorem xor_u8 (a b : UInt8) : bits .xor .u8 (a.toNat : Int) (b.toNat : Int) = ((a ^^^ b).toNat : Int) := by
  rw [u8_xor_nat _ _ a.toNat_lt b.toNat_lt, UInt8.toNat_xor]
theorem bs_take (l : List UInt8) (k : Nat) : bs (l.take k) = (bs l).take k := List.map_take ..
/-- A store into a row of the call's own. -/
theorem Own.cell {w : World} {base g c : Nat} {l : List UInt8} (h : Own w base (some ⟨g, 0, none⟩) c l) {k : Nat} {u : UInt8} (hu : l[k]? = some u) : w.cell? ⟨g, k, none⟩ = some (.int .u8 (u.toNat : Int)) := by
  obtain ⟨b, o, e, hc⟩ := row_at h.row hu
  simp only [Option.some.injEq, Addr.mk.injEq, and_true] at e
  obtain ⟨rfl, rfl⟩ := e
  rw [Nat.zero_add] at hc
  exact hc
theorem Own.frozen {w : World} {base g c : Nat} {l : List UInt8} (h : Own w base (some ⟨g, 0, none⟩) c l) (k : Nat) : w.frozen? ⟨g, k, none⟩ = false := by
  rcases h.2 with ⟨hv, hn⟩ | ⟨g', cap, cur, hv, hb, hg, _⟩
  · injection hv with e; cases e
  · injection hv with e
    simp only [Option.some.injEq, Addr.mk.injEq, and_true] at e
    subst e
    exact Blk.frozen (cs := cur) hg k
theorem Own.set_ {w : World} {base g c : Nat} {l : List UInt8} (h : Own w base (some ⟨g, 0, none⟩) c l) (k : Nat) (u : UInt8) : Own (w.setCell ⟨g, k, none⟩ (.int .u8 (u.toNat : Int))) base (some ⟨g, 0, none⟩) c (l.set k u) := by
  have e2 : bs (l.set k u) = (bs l).set k (.int .u8 (u.toNat : Int)) := by unfold bs; rw [List.map_set]; rfl
  refine ⟨by rw [bs_length]; omega, ?_⟩
  rcases h.2 with ⟨hv, hn⟩ | ⟨g', cap, cur, hv, hb, hg, h1, h2, h3, h4⟩
  · injection hv with e; cases e
  · injection hv with e ec en
    simp only [Option.some.injEq, Addr.mk.injEq, and_true] at e
    subst e
    refine .inr ⟨g, c, cur.setIfInBounds k (.int .u8 (u.toNat : Int)), rfl, hb, Blk.set_ (cs := cur) hg k _, by rw [List.length_set]; omega, by omega, by rw [Array.size_setIfInBounds]; omega, ?_⟩
    rw [Array.toList_setIfInBounds, List.length_set, e2, ← h4, List.take_set]
theorem Own.drewN {w : World} {base c : Nat} {A : Option Addr} {l : List UInt8} (h : Own w base A c l) (n : Nat) : Own (w.drewN n) base A c l := h
/-- One byte, laid in a block of its own. -/
theorem row_one (w : World) (v : Int) (c : UInt8) (h : v = (c.toNat : Int)) : Row (w.alloc (.cells #[.int .u8 v] 5)) (some ⟨w.heap.size, 0, none⟩) (bs [c]) := by
  subst h
  exact row_lit w [c] _ _ _ rfl
/-- make([]byte, n, c). -/
theorem wpl_make2 (w : World) {ops : Array Oper} {rest : List Oper} {o : Oper} {a : Act} {Q : Exit → Act → World → Prop} (hgd : o.guard = none) (x y : Operand)
    (ho : o.op = .makeSlice 22 x y) (n c : Nat) (hx : a.eval x = .int .i64 n) (hy : a.eval y = .int .i64 c) (hn : n ≤ c) (hc : c ≤ 281474976710656)
    (h : wpList Try.prog ops Q rest (a.put o.dst (.slice (some ⟨w.heap.size, 0, none⟩) n c)) (w.alloc (.cells (bs (List.replicate c 0)).toArray 5))) : wpList Try.prog ops Q (o :: rest) a w := by
  obtain ⟨i0, hi0, hz0, hz1, hz2⟩ := info_parts info_u8
  refine wpList_plain hgd fun K hK => ?_
  have hr := run_make (P := Try.prog) w 22 5 i0 _ Try.underlying22 hi0 hz0 .i64 .i64 (n : Int) (c : Int) (by omega) (by omega) (by rw [hz2]; omega) (by omega)
  rw [hz1, Nat.mul_one, Int.toNat_natCast, Int.toNat_natCast, show (Value.int .u8 0).cells = #[Value.int .u8 0] from rfl, zeros_made] at hr
  unfold Oper.wp
  simp [execOp, ho, hx, hy, hr, Result.andThen]
  exact hK _ _ h
/-- What a copy to the head of a new row leaves. -/
theorem copied (w : World) (g : Nat) (l : List UInt8) (size : Nat) (h : w.heap[g]? = some (.cells (splice (bs (List.replicate (l.length + size) 0)) 0 (bs l)).toArray 5 (0, 0))) (hm : l.length + size ≤ maxLen) : Own w g (some ⟨g, 0, none⟩) (l.length + size) l := by
  refine ⟨by rw [bs_length]; omega, .inr ⟨g, l.length + size, _, rfl, Nat.le_refl _, h, by omega, hm, ?_, ?_⟩⟩
  · have := length_splice (bs (List.replicate (l.length + size) 0)) 0 (bs l) (by rw [bs_length, bs_length, List.length_replicate]; omega)
    rw [List.size_toArray, this, bs_length, List.length_replicate]; omega
  · unfold splice
    rw [List.take_zero, List.nil_append, Nat.mul_one]
    show (bs l ++ _).take _ = _
    rw [← bs_length l, List.take_left]
/-- append, the length by another name. -/
theorem wpl_app' (w : World) {ops : Array Oper} {rest : List Oper} {o : Oper} {a : Act} {Q : Exit → Act → World → Prop} (hgd : Region.wanted o (yielded ops a.tmps) = true) (s x : Operand)
    (ho : o.op = .call { callee := .builtin .append, args := #[s, x], argTypes := #[22, 22] })
    (base : Nat) (A : Option Addr) (c : Nat) (l : List UInt8) (n : Nat) (hs : a.eval s = .slice A n c) (hn : l.length = n) (hown : Own w base A c l)
    (A2 : Option Addr) (c2 : Nat) (m : List UInt8) (k : Nat) (hx : a.eval x = .slice A2 k c2) (hk : m.length = k) (hr : Row w A2 (bs m))
    (hlen : n + k ≤ 140737488355328) (hbase : base ≤ w.heap.size)
    (h : ∀ A' c' w', Own w' base A' c' (l ++ m) → w.grownBy w' (Value.slice A n c).ownBlock →
      ((Value.slice A' (n + k) c').ownBlock = (Value.slice A n c).ownBlock ∨ (Value.slice A' (n + k) c').ownBlock = some w.heap.size) →
      wpList Try.prog ops Q rest (a.put o.dst (.slice A' (n + k) c')) w') : wpList Try.prog ops Q (o :: rest) a w := by
  subst hn hk
  exact wpl_app w hgd s x ho base A c l hs hown A2 c2 m hx hr hlen hbase h
/-- A row stays, in every world of a quiet region's class. -/
theorem row_regrown {w : World} {A : Option Addr} {xs : List Value} (h : Row w A xs) (d : Nat) (os : Array Obj) : Row (grow (redrawn w d) os) A xs := h.below (below_regrown w d os)
end Go.Proofs.Ytaadfalklddhcaa
/-! part -/
namespace Go.Proofs.Ytaadfalklddhcaa
open Go.RowKit
set_option linter.unusedVariables false
namespace CodeM
/-- A number's lowest byte, behind a name. -/
def byte (n : Nat) : UInt8 := UInt8.ofNat n
/-- So many bytes of a number, lowest first. -/
def fx (k n : Nat) : List UInt8 := (List.range k).map fun i => byte (n / 256 ^ i % 256)
/-- The number that bytes are, lowest first. -/
def le : List UInt8 → Nat
  | [] => 0
  | c :: l => c.toNat + 256 * le l
/-- A count's bytes. -/
def uvF : Nat → Nat → List UInt8
  | 0, n => [byte (n % 256)]
  | f + 1, n => if n < 128 then [byte n] else byte (n % 128 + 128) :: uvF f (n / 128)
def uv (n : Nat) : List UInt8 := uvF 9 n
def tx (s : List UInt8) : List UInt8 := uv s.length ++ s
/-- A count at the beginning: from byte i on, acc being what the bytes ahead of it were. -/
def cntF (i acc : Nat) : List UInt8 → Option (Nat × Nat)
  | [] => none
  | c :: l =>
    if (i = 9 ∧ 1 < c.toNat) ∨ 9 < i then none
    else if c.toNat < 128 then (if i = 0 ∨ c.toNat ≠ 0 then some (acc + c.toNat * 2 ^ (7 * i), i + 1) else none)
    else cntF (i + 1) (acc + (c.toNat - 128) * 2 ^ (7 * i)) l
def cnt (l : List UInt8) : Option (Nat × Nat) := cntF 0 0 l
/-- A reader: what is left, and its error. -/
structure Rd where
  l : List UInt8
  e : Nat
def Rd.fixed (k : Nat) (r : Rd) : Nat × Rd := if r.e ≠ 0 then (0, r) else if r.l.length < k then (0, ⟨r.l, 4⟩) else (le (r.l.take k), ⟨r.l.drop k, 0⟩)
def Rd.uv (r : Rd) : Nat × Rd := if r.e ≠ 0 then (0, r) else match cnt r.l with
  | none => (0, ⟨r.l, 4⟩)
  | some (n, k) => (n, ⟨r.l.drop k, 0⟩)
def Rd.text (most : Int) (r : Rd) : List UInt8 × Rd := if r.e ≠ 0 then ([], r) else match cnt r.l with
  | none => ([], ⟨r.l, 4⟩)
  | some (n, k) => if max 0 most < (n : Int) then ([], ⟨r.l, 3⟩) else if r.l.length - k < n then ([], ⟨r.l, 4⟩) else ((r.l.drop k).take n, ⟨r.l.drop (k + n), 0⟩)

theorem fx_length (k n : Nat) : (fx k n).length = k := by simp [fx]
theorem fx_succ (k n : Nat) : fx (k + 1) n = fx k n ++ [byte (n / 256 ^ k % 256)] := by
  unfold fx
  rw [List.range_succ, List.map_append]; rfl
theorem le_append (l m : List UInt8) : le (l ++ m) = le l + 256 ^ l.length * le m := by
  induction l with
  | nil => simp [le]
  | cons c l ih =>
    show c.toNat + 256 * le (l ++ m) = c.toNat + 256 * le l + 256 ^ (l.length + 1) * le m
    rw [ih, Nat.mul_add, Nat.pow_succ, ← Nat.mul_assoc, Nat.mul_comm 256 (256 ^ l.length)]; omega
theorem le_lt (l : List UInt8) : le l < 256 ^ l.length := by
  induction l with
  | nil => simp [le]
  | cons c l ih =>
    have hc := c.toNat_lt
    show c.toNat + 256 * le l < 256 ^ (l.length + 1)
    rw [Nat.pow_succ]; omega
theorem ofNat_toNat (n : Nat) (h : n < 256) : (byte n).toNat = n := by unfold byte; rw [UInt8.toNat_ofNat']; exact Nat.mod_eq_of_lt h
theorem le_fx (k n : Nat) : le (fx k n) = n % 256 ^ k := by
  induction k with
  | zero => simp [fx, le, Nat.mod_one]
  | succ k ih =>
    rw [fx_succ, le_append, ih, fx_length]
    show n % 256 ^ k + 256 ^ k * ((byte (n / 256 ^ k % 256)).toNat + 256 * 0) = _
    rw [ofNat_toNat _ (Nat.mod_lt _ (by omega)), Nat.mul_zero, Nat.add_zero, Nat.pow_succ]
    exact (Nat.mod_mul).symm
/-- Bytes are the form of their number. -/
theorem fx_le (l : List UInt8) : fx l.length (le l) = l := by
  apply List.ext_getElem?
  intro i
  rcases Nat.lt_or_ge i l.length with h | h
  · unfold fx
    rw [List.getElem?_map, List.getElem?_range h, List.getElem?_eq_getElem h]
    simp only [Option.map_some, Option.some.injEq]
    have e : l = l.take i ++ l[i] :: l.drop (i + 1) := by rw [List.getElem_cons_drop, List.take_append_drop]
    have hl : (l.take i).length = i := by rw [List.length_take]; omega
    have h1 : le l = le (l.take i) + 256 ^ i * (l[i].toNat + 256 * le (l.drop (i + 1))) := by
      conv => lhs; rw [e]
      rw [le_append, hl]; rfl
    have h2 := le_lt (l.take i)
    rw [hl] at h2
    have hc := l[i].toNat_lt
    have h3 : le l / 256 ^ i = l[i].toNat + 256 * le (l.drop (i + 1)) := by
      rw [h1, Nat.add_mul_div_left _ _ (Nat.pow_pos (by omega)), Nat.div_eq_of_lt h2, Nat.zero_add]
    rw [h3]
    apply UInt8.toNat.inj
    rw [ofNat_toNat _ (Nat.mod_lt _ (by omega))]; omega
  · rw [List.getElem?_eq_none (by rw [fx_length]; exact h), List.getElem?_eq_none h]
theorem fx_inj {k n m : Nat} (hn : n < 256 ^ k) (hm : m < 256 ^ k) (h : fx k n = fx k m) : n = m := by
  have := congrArg le h
  rwa [le_fx, le_fx, Nat.mod_eq_of_lt hn, Nat.mod_eq_of_lt hm] at this
/-! ### Counts -/
theorem uvF_length (f n : Nat) : 0 < (uvF f n).length ∧ (uvF f n).length ≤ f + 1 := by
  induction f generalizing n with
  | zero => simp [uvF]
  | succ f ih =>
    unfold uvF
    split
    · simp
    · have := ih (n / 128); simp; omega
theorem uv_length (n : Nat) : 0 < (uv n).length ∧ (uv n).length ≤ 10 := uvF_length 9 n
/-- The count of a form, whatever is behind. -/
theorem cntF_uvF : ∀ (f i acc n : Nat) (rest : List UInt8), f + i = 9 → n < 2 ^ (64 - 7 * i) → (0 < i → 0 < n) → cntF i acc (uvF f n ++ rest) = some (acc + n * 2 ^ (7 * i), i + (uvF f n).length)
  | 0, i, acc, n, rest, hf, hn, hp => by
    obtain rfl : i = 9 := by omega
    have h2 : n < 2 := hn
    have hpos := hp (by omega)
    obtain rfl : n = 1 := by omega
    rfl
  | f + 1, i, acc, n, rest, hf, hn, hp => by
    unfold uvF
    have hc9 : ¬ ((i = 9 ∧ 1 < n) ∨ 9 < i) := by omega
    by_cases h : n < 128
    · rw [if_pos h]
      show cntF i acc (byte n :: rest) = _
      unfold cntF
      rw [ofNat_toNat n (by omega), if_neg (by omega), if_pos h, if_pos (by omega)]
      rfl
    · rw [if_neg h]
      show cntF i acc (byte (n % 128 + 128) :: (uvF f (n / 128) ++ rest)) = _
      unfold cntF
      rw [ofNat_toNat _ (by omega), if_neg (by omega), if_neg (by omega), cntF_uvF f (i + 1) _ (n / 128) rest (by omega) (by
        have : 2 ^ (64 - 7 * i) = 2 ^ (64 - 7 * (i + 1)) * 128 := by
          rw [show 64 - 7 * i = (64 - 7 * (i + 1)) + 7 by omega, Nat.pow_add]
        rw [this] at hn
        exact Nat.div_lt_of_lt_mul (by rw [Nat.mul_comm]; exact hn)) (fun _ => by omega)]
      congr 2
      · have e7 : 2 ^ (7 * (i + 1)) = 2 ^ (7 * i) * 128 := by rw [show 7 * (i + 1) = 7 * i + 7 by omega, Nat.pow_add]
        rw [e7]
        have hd : n = n % 128 + 128 * (n / 128) := (Nat.mod_add_div n 128).symm
        generalize 2 ^ (7 * i) = p at *
        rw [show n % 128 + 128 - 128 = n % 128 by omega]
        conv => rhs; rw [hd]
        rw [Nat.add_mul, Nat.mul_comm p 128, ← Nat.mul_assoc, Nat.mul_comm (n / 128) 128]; omega
      · simp; omega
theorem cnt_uv (n : Nat) (rest : List UInt8) (hn : n < 2 ^ 64) : cnt (uv n ++ rest) = some (n, (uv n).length) := by
  have := cntF_uvF 9 0 0 n rest rfl hn (fun h => by omega)
  simpa [cnt, uv] using this
/-- What is read as a count is its form. -/
theorem uvF_cntF : ∀ (l : List UInt8) (i acc n k : Nat), i ≤ 9 → cntF i acc l = some (n, k) → ∃ m, n = acc + m * 2 ^ (7 * i) ∧ m < 2 ^ (64 - 7 * i) ∧ (0 < i → 0 < m) ∧ i < k ∧ k - i ≤ l.length ∧ l.take (k - i) = uvF (9 - i) m
  | [], i, acc, n, k, _, h => by simp [cntF] at h
  | c :: l, i, acc, n, k, hi, h => by
    unfold cntF at h
    have hc := c.toNat_lt
    by_cases h1 : (i = 9 ∧ 1 < c.toNat) ∨ 9 < i
    · rw [if_pos h1] at h; cases h
    · rw [if_neg h1] at h
      by_cases h2 : c.toNat < 128
      · rw [if_pos h2] at h
        by_cases h3 : i = 0 ∨ c.toNat ≠ 0
        · rw [if_pos h3] at h
          simp only [Option.some.injEq, Prod.mk.injEq] at h
          obtain ⟨rfl, rfl⟩ := h
          refine ⟨c.toNat, rfl, ?_, by omega, by omega, by simp, ?_⟩
          · rcases Nat.lt_or_ge i 9 with h9 | h9
            · have : 2 ^ 8 ≤ 2 ^ (64 - 7 * i) := Nat.pow_le_pow_right (by omega) (by omega)
              omega
            · obtain rfl : i = 9 := by omega
              have : c.toNat ≤ 1 := by omega
              show c.toNat < 2
              omega
          · rw [show i + 1 - i = 1 by omega]
            show [c] = _
            rcases Nat.lt_or_ge i 9 with h9 | h9
            · rw [show 9 - i = (8 - i) + 1 by omega]
              unfold uvF
              rw [if_pos h2]
              congr 1
              exact (UInt8.ofNat_toNat).symm
            · obtain rfl : i = 9 := by omega
              show [c] = [byte (c.toNat % 256)]
              rw [Nat.mod_eq_of_lt hc]
              congr 1
              exact (UInt8.ofNat_toNat).symm
        · rw [if_neg h3] at h; cases h
      · rw [if_neg h2] at h
        have hi8 : i < 9 := by omega
        obtain ⟨m, hm, hlt, hpos, hik, hkl, htk⟩ := uvF_cntF l (i + 1) _ n k (by omega) h
        have hmp := hpos (by omega)
        have e7 : 2 ^ (7 * (i + 1)) = 2 ^ (7 * i) * 128 := by rw [show 7 * (i + 1) = 7 * i + 7 by omega, Nat.pow_add]
        refine ⟨(c.toNat - 128) + 128 * m, ?_, ?_, by omega, by omega, by simp; omega, ?_⟩
        · rw [hm, e7]
          generalize 2 ^ (7 * i) = p
          rw [Nat.add_mul, Nat.mul_comm p 128, ← Nat.mul_assoc, Nat.mul_comm m 128]; omega
        · have e : 2 ^ (64 - 7 * i) = 2 ^ (64 - 7 * (i + 1)) * 128 := by rw [show 64 - 7 * i = (64 - 7 * (i + 1)) + 7 by omega, Nat.pow_add]
          rw [e]
          omega
        · rw [show 9 - i = (9 - (i + 1)) + 1 by omega]
          unfold uvF
          rw [if_neg (by omega), show k - i = (k - (i + 1)) + 1 by omega, List.take_succ_cons, htk]
          congr 1
          · apply UInt8.toNat.inj
            rw [ofNat_toNat _ (by omega)]; omega
          · congr 1; omega
theorem cnt_some {l : List UInt8} {n k : Nat} (h : cnt l = some (n, k)) : n < 2 ^ 64 ∧ 0 < k ∧ k ≤ l.length ∧ k ≤ 10 ∧ l.take k = uv n := by
  obtain ⟨m, h1, h2, _, h3, h4, h5⟩ := uvF_cntF l 0 0 n k (by omega) h
  have : n = m := by simpa using h1
  subst this
  refine ⟨h2, h3, by omega, ?_, by simpa [uv] using h5⟩
  have := (uv_length n).2
  unfold uv at this
  rw [← h5, List.length_take] at this
  omega
/-- A form that is cut is none. -/
theorem cntF_cut : ∀ (f i acc n : Nat) (j : Nat), j < (uvF f n).length → f + i ≤ 9 → cntF i acc ((uvF f n).take j) = none
  | f, i, acc, n, 0, _, _ => by simp [cntF]
  | 0, i, acc, n, j + 1, h, _ => by simp [uvF] at h
  | f + 1, i, acc, n, j + 1, h, hf => by
    unfold uvF at h ⊢
    by_cases hn : n < 128
    · rw [if_pos hn] at h; simp at h
    · rw [if_neg hn] at h ⊢
      rw [List.take_succ_cons]
      unfold cntF
      rw [ofNat_toNat _ (by omega), if_neg (by omega), if_neg (by omega)]
      exact cntF_cut f (i + 1) _ (n / 128) j (by simpa using h) (by omega)
theorem cnt_cut {n j : Nat} (h : j < (uv n).length) : cnt ((uv n).take j) = none := cntF_cut 9 0 0 n j h (by omega)
theorem shr_byte (n j : Nat) : (n : Int) / 2 ^ (8 * j) % 256 = ((byte (n / 256 ^ j % 256)).toNat : Int) := by
  have e : (2 : Int) ^ (8 * j) = ((256 ^ j : Nat) : Int) := by
    rw [Int.pow_mul]; simp
  rw [ofNat_toNat _ (Nat.mod_lt _ (by omega)), e]
  omega
set_option maxRecDepth 100000 in
theorem or128 (m : Nat) : bits .or .u8 ((m : Int) % 256) 128 = ((byte (m % 128 + 128)).toNat : Int) := by
  have h : ∀ x : Fin 256, x.val ||| 128 = x.val % 128 + 128 := by decide +kernel
  have e : ((m : Int) % 256) = ((m % 256 : Nat) : Int) := by omega
  rw [ofNat_toNat _ (by omega), e, show (128 : Int) = ((128 : Nat) : Int) from rfl, u8_or_nat _ _ (by omega) (by omega), h ⟨m % 256, by omega⟩]
  congr 2
  show m % 256 % 128 = m % 128
  omega
end CodeM
end Go.Proofs.Ytaadfalklddhcaa
/-! part -/
namespace Go.Proofs.Ytaadfalklddhcaa
open Go.RowKit
set_option linter.unusedVariables false
/-- A slice of bytes in new memory. -/
def NewB (l : List UInt8) (w : World) (e : Ending) (w' : World) : Prop := ∃ A n c, e = .returned (.slice A n c) ∧ Hid (l.length = n) ∧ Own w' w.heap.size A c l ∧ Below w.heap.size w w'
theorem row_none {w : World} {l : List UInt8} (h : Row w none (bs l)) : l = [] := by
  rcases h with h | ⟨b, o, e, _⟩
  · exact List.map_eq_nil_iff.1 h
  · cases e
set_option maxRecDepth 100000 in
theorem clone_any (A : Option Addr) (c : Nat) (l : List UInt8) (w : World) (hr : Row w A (bs l)) (hc : l.length ≤ 140737488355328) :
    Calls Try.prog 87 #[.slice A l.length c] w (NewB l w) := by
  have hq := fun (w : World) (a : Option Addr) (l c : Nat) => Lib.run_eql_slice_nil (P := Try.prog) w 22 5 a l c 0 0 Try.underlying22
  cases A with
  | none =>
    obtain rfl := row_none hr
    go_enter Try.func87, Try.ntmps87
    go_wp2
    go_ret
    exact ⟨none, 0, 0, rfl, Lib.hid rfl, Own.nil_ _ _, Below.refl _ _⟩
  | some a =>
    go_enter Try.func87, Try.ntmps87
    go_wp2_with (at_builtin; refine wpl_app _ rfl (.tmp 5) (.tmp 6) rfl w.heap.size (some ⟨w.heap.size, 0, none⟩) 0 [] rfl (Own.made w #[] 0 (Nat.le_refl _) (by unfold maxLen; omega) rfl) (some a) c l rfl (hr.alloc _) ?_ ?_ ?_)
    · simp; omega
    · simp
    intro A1 c1 w1 h1 hg1 _
    have hb1 : Below w.heap.size w w1 := ((Below.refl w.heap.size w).alloc (Nat.le_refl _) (.cells #[] 5)).grown hg1 (by simp) (by intro k hk; simp [Value.ownBlock] at hk; omega)
    go_wp2
    go_ret
    exact ⟨A1, _, c1, rfl, Lib.hid rfl, h1, hb1⟩
set_option maxRecDepth 100000 in
theorem putuv_any (A : Option Addr) (c n : Nat) (l : List UInt8) (w : World) (hr : Row w A (bs l)) (hc : l.length ≤ 140737488355000) (hn : n < 18446744073709551616) :
    Calls Try.prog 103 #[.slice A l.length c, .int .u64 (n : Int)] w (NewB (l ++ CodeM.uv n) w) := by
  go_enter Try.func103, Try.ntmps103
  go_wp2_with fail
  refine (clone_any A c l _ hr (by omega)).mono ?_
  rintro e w1 ⟨A1, n1, c1, rfl, hn1, h1, b1⟩
  obtain rfl := hn1.out
  go_wp2
  go_loopw [1, 5] (fun v b wr => ∃ (m f : Nat) (A2 : Option Addr) (c2 : Nat) (x : List UInt8), v = .int .u64 (m : Int) ∧ m < 18446744073709551616 ∧ b = .slice A2 x.length c2 ∧ Own wr w.heap.size A2 c2 x ∧ Below w.heap.size w wr ∧ l ++ CodeM.uv n = x ++ CodeM.uvF f m ∧ m < 2 ^ (7 * f + 1) ∧ f ≤ 9 ∧ x.length + f = l.length + 9) (fun v _ _ => (intOf v).toNat)
  case atStart => exact ⟨n, 9, A1, c1, l, rfl, hn, rfl, h1, b1, rfl, by omega, by omega, rfl⟩
  case round =>
    obtain ⟨m, f, A2, c2, x, rfl, hm, rfl, hx, hbel, he, hf, hf9, hxf⟩ := hrel
    have hs := hbel.size
    by_cases hlt : m < 128
    · have hu : CodeM.uvF f m = [CodeM.byte m] := by
        cases f with
        | zero => unfold CodeM.uvF; rw [Nat.mod_eq_of_lt (by omega)]
        | succ f => unfold CodeM.uvF; rw [if_pos hlt]
      have HE := Lib.hid (he.trans (by rw [hu]))
      have hb : ((CodeM.byte m).toNat : Int) = (m : Int) := by rw [CodeM.ofNat_toNat m (by omega)]
      have HB := Lib.hid hb
      clear he hf hb hu
      go_wp2_with (at_builtin; refine wpl_app _ rfl (.tmp 18) (.tmp 21) rfl w.heap.size A2 c2 x rfl (hx.alloc _) (some ⟨wr.heap.size, 0, none⟩) 1 [CodeM.byte m] rfl (row_one wr _ _ HB.out.symm) ?_ ?_ ?_)
      · simp; omega
      · simp; omega
      intro A3 c3 w3 h3 hg3 _
      have hb3 : Below w.heap.size w w3 := (hx.alloc _).grown_below rfl hg3 (hbel.alloc hs _) (Nat.le_refl _) (by simp; omega)
      go_wp2
      go_ret
      refine ⟨A3, _, c3, rfl, Lib.hid ?_, ?_, hb3⟩
      · rw [HE.out, List.length_append]; rfl
      · rw [HE.out]; exact h3
    · obtain ⟨f, rfl⟩ : ∃ g, f = g + 1 := ⟨f - 1, by
        rcases Nat.eq_zero_or_pos f with h | h
        · subst h; omega
        · omega⟩
      have hu : CodeM.uvF (f + 1) m = CodeM.byte (m % 128 + 128) :: CodeM.uvF f (m / 128) := by
        conv => lhs; unfold CodeM.uvF
        rw [if_neg hlt]
      have HE := Lib.hid (he.trans (by rw [hu]))
      have hor := CodeM.or128 m
      clear he hu
      go_wp2_with (at_builtin; refine wpl_app _ rfl (.tmp 12) (.tmp 16) rfl w.heap.size A2 c2 x rfl (hx.alloc _) (some ⟨wr.heap.size, 0, none⟩) 1 [CodeM.byte (m % 128 + 128)] rfl (row_one wr _ _ rfl) ?_ ?_ ?_)
      · simp; omega
      · simp; omega
      intro A3 c3 w3 h3 hg3 _
      have hb3 : Below w.heap.size w w3 := (hx.alloc _).grown_below rfl hg3 (hbel.alloc hs _) (Nat.le_refl _) (by simp; omega)
      have hmd : m / 128 < 2 ^ (7 * f + 1) := by
        have e : 2 ^ (7 * (f + 1) + 1) = 2 ^ (7 * f + 1) * 128 := by rw [show 7 * (f + 1) + 1 = (7 * f + 1) + 7 by omega, Nat.pow_add]
        rw [e] at hf
        exact Nat.div_lt_of_lt_mul (by rw [Nat.mul_comm]; exact hf)
      have HM := Lib.hid hmd
      clear hmd hf
      go_wp2
      go_roundw
      case rel => exact ⟨m / 128, f, A3, c3, x ++ [CodeM.byte (m % 128 + 128)], by go_num, by omega, by rw [List.length_append]; rfl, h3, hb3, by rw [HE.out, List.append_assoc]; rfl, HM.out, by omega, by rw [List.length_append]; simp; omega⟩
      case measure => simp [intOf]; omega
end Go.Proofs.Ytaadfalklddhcaa
/-! part -/
namespace Go.Proofs.Ytaadfalklddhcaa
open Go.RowKit
set_option linter.unusedVariables false

set_option maxRecDepth 100000 in
theorem put16_any (A : Option Addr) (c n size : Nat) (l : List UInt8) (w : World) (hr : Row w A (bs l)) (hc : l.length ≤ 140737488355000) (hn : n < 65536) (hs8 : size ≤ 8) :
    Calls Try.prog 112 #[.slice A l.length c, .int .u16 (n : Int), .int .i64 (size : Int)] w (NewB (l ++ CodeM.fx size n) w) := by
  go_enter Try.func112, Try.ntmps112
  go_wp2_with (first
    | (at_make; refine wpl_make2 _ rfl (.tmp 10) (.tmp 14) rfl l.length (l.length + size) rfl (by go_num) (by omega) (by omega) ?_)
    | (refine wpList_copy_splice rfl (.tmp 16) (.tmp 17) _ _ rfl 5 Try.underlying22 (by kernel_rfl) (some ⟨w.heap.size, 0, none⟩) A l.length (l.length + size) l.length c rfl rfl w.heap.size 0 (bs (List.replicate (l.length + size) 0)) 5 (heap_alloc_new w _) (bs l) (by rw [bs_length]; simp) (fun hp => ⟨rfl, ?_⟩) (by rw [bs_length, bs_length, List.length_replicate]; omega) (bs_one l) w.heap.size w ((Below.refl _ _).alloc (Nat.le_refl _) _) (Nat.le_refl _) ?_))
  · rw [bs_length] at hp
    obtain ⟨b, o, e, hcell⟩ := (hr.alloc (.cells (bs (List.replicate (l.length + size) 0)).toArray 5)).resolve_left (by intro h; rw [← bs_length, h] at hp; cases hp)
    exact ⟨_, e, fun j v hj => by rw [Addr.add_lit]; exact hcell j v hj⟩
  intro w1 hw1 hb1
  have h1 : Own w1 w.heap.size (some ⟨w.heap.size, 0, none⟩) (l.length + size) l := copied w1 w.heap.size l size hw1.out (by unfold maxLen; omega)
  clear hw1
  rw [bs_length]
  go_wp2
  go_loopw [7, 20] (fun b i wr => ∃ (j : Nat) (A2 : Option Addr) (c2 : Nat), j ≤ size ∧ i = .int .i64 j ∧ b = .slice A2 (l.length + j) c2 ∧ Own wr w.heap.size A2 c2 (l ++ CodeM.fx j n) ∧ Below w.heap.size w wr) (fun _ i _ => size - (intOf i).toNat)
  case atStart => exact ⟨0, _, _, by omega, rfl, rfl, by simpa [CodeM.fx] using h1, hb1⟩
  case round =>
    obtain ⟨j, A2, c2, hj, rfl, rfl, hx, hbel⟩ := hrel
    have hs := hbel.size
    have hlen : (l ++ CodeM.fx j n).length = l.length + j := by rw [List.length_append, CodeM.fx_length]
    have HL := Lib.hid hlen
    clear hlen
    by_cases hlt : j < size
    · have hfx := Lib.hid (CodeM.fx_succ j n)
      have hsh := CodeM.shr_byte n j
      obtain ⟨x, hx2⟩ : ∃ x, CodeM.byte (n / 256 ^ j % 256) = x := ⟨_, rfl⟩
      rw [hx2] at hsh
      have HX2 := Lib.hid hx2
      clear hx2
      go_wp2_with (at_builtin; refine wpl_app' _ rfl (.tmp 23) (.tmp 30) rfl w.heap.size A2 c2 (l ++ CodeM.fx j n) (l.length + j) rfl HL.out (hx.alloc _) (some ⟨wr.heap.size, 0, none⟩) 1 [x] 1 rfl rfl (row_one wr _ _ rfl) ?_ ?_ ?_)
      · simp; omega
      · simp; omega
      intro A3 c3 w3 h3 hg3 _
      have hb3 : Below w.heap.size w w3 := (hx.alloc _).grown_below (by rw [HL.out]) hg3 (hbel.alloc hs _) (Nat.le_refl _) (by simp; omega)
      go_wp2
      go_roundw
      case rel => exact ⟨j + 1, A3, c3, by omega, by go_num, rfl, by rw [hfx.out, HX2.out]; exact h3, hb3⟩
      case measure => simp [intOf]; omega
    · obtain rfl : j = size := by omega
      go_wp2
      go_ret
      exact ⟨A2, _, c2, rfl, Lib.hid HL.out, hx, hbel⟩

set_option maxRecDepth 100000 in
theorem Put16_any (A : Option Addr) (c n : Nat) (l : List UInt8) (w : World) (hr : Row w A (bs l)) (hc : l.length ≤ 140737488355000) (hn : n < 65536) :
    Calls Try.prog 108 #[.slice A l.length c, .int .u16 (n : Int)] w (NewB (l ++ CodeM.fx 2 n) w) := by
  go_enter Try.func108, Try.ntmps108
  go_wp2_with fail
  refine (put16_any A c n 2 l _ hr hc hn (by omega)).mono ?_
  rintro e w1 ⟨A1, n1, c1, rfl, hn1, h1, b1⟩
  go_wp2
  go_ret
  exact ⟨A1, n1, c1, rfl, hn1, h1, b1⟩

set_option maxRecDepth 100000 in
theorem put64_any (A : Option Addr) (c n size : Nat) (l : List UInt8) (w : World) (hr : Row w A (bs l)) (hc : l.length ≤ 140737488355000) (hn : n < 18446744073709551616) (hs8 : size ≤ 8) :
    Calls Try.prog 111 #[.slice A l.length c, .int .u64 (n : Int), .int .i64 (size : Int)] w (NewB (l ++ CodeM.fx size n) w) := by
  go_enter Try.func111, Try.ntmps111
  go_wp2_with (first
    | (at_make; refine wpl_make2 _ rfl (.tmp 10) (.tmp 14) rfl l.length (l.length + size) rfl (by go_num) (by omega) (by omega) ?_)
    | (refine wpList_copy_splice rfl (.tmp 16) (.tmp 17) _ _ rfl 5 Try.underlying22 (by kernel_rfl) (some ⟨w.heap.size, 0, none⟩) A l.length (l.length + size) l.length c rfl rfl w.heap.size 0 (bs (List.replicate (l.length + size) 0)) 5 (heap_alloc_new w _) (bs l) (by rw [bs_length]; simp) (fun hp => ⟨rfl, ?_⟩) (by rw [bs_length, bs_length, List.length_replicate]; omega) (bs_one l) w.heap.size w ((Below.refl _ _).alloc (Nat.le_refl _) _) (Nat.le_refl _) ?_))
  · rw [bs_length] at hp
    obtain ⟨b, o, e, hcell⟩ := (hr.alloc (.cells (bs (List.replicate (l.length + size) 0)).toArray 5)).resolve_left (by intro h; rw [← bs_length, h] at hp; cases hp)
    exact ⟨_, e, fun j v hj => by rw [Addr.add_lit]; exact hcell j v hj⟩
  intro w1 hw1 hb1
  have h1 : Own w1 w.heap.size (some ⟨w.heap.size, 0, none⟩) (l.length + size) l := copied w1 w.heap.size l size hw1.out (by unfold maxLen; omega)
  clear hw1
  rw [bs_length]
  go_wp2
  go_loopw [7, 20] (fun b i wr => ∃ (j : Nat) (A2 : Option Addr) (c2 : Nat), j ≤ size ∧ i = .int .i64 j ∧ b = .slice A2 (l.length + j) c2 ∧ Own wr w.heap.size A2 c2 (l ++ CodeM.fx j n) ∧ Below w.heap.size w wr) (fun _ i _ => size - (intOf i).toNat)
  case atStart => exact ⟨0, _, _, by omega, rfl, rfl, by simpa [CodeM.fx] using h1, hb1⟩
  case round =>
    obtain ⟨j, A2, c2, hj, rfl, rfl, hx, hbel⟩ := hrel
    have hs := hbel.size
    have hlen : (l ++ CodeM.fx j n).length = l.length + j := by rw [List.length_append, CodeM.fx_length]
    have HL := Lib.hid hlen
    clear hlen
    by_cases hlt : j < size
    · have hfx := Lib.hid (CodeM.fx_succ j n)
      have hsh := CodeM.shr_byte n j
      obtain ⟨x, hx2⟩ : ∃ x, CodeM.byte (n / 256 ^ j % 256) = x := ⟨_, rfl⟩
      rw [hx2] at hsh
      have HX2 := Lib.hid hx2
      clear hx2
      go_wp2_with (at_builtin; refine wpl_app' _ rfl (.tmp 23) (.tmp 29) rfl w.heap.size A2 c2 (l ++ CodeM.fx j n) (l.length + j) rfl HL.out (hx.alloc _) (some ⟨wr.heap.size, 0, none⟩) 1 [x] 1 rfl rfl (row_one wr _ _ rfl) ?_ ?_ ?_)
      · simp; omega
      · simp; omega
      intro A3 c3 w3 h3 hg3 _
      have hb3 : Below w.heap.size w w3 := (hx.alloc _).grown_below (by rw [HL.out]) hg3 (hbel.alloc hs _) (Nat.le_refl _) (by simp; omega)
      go_wp2
      go_roundw
      case rel => exact ⟨j + 1, A3, c3, by omega, by go_num, rfl, by rw [hfx.out, HX2.out]; exact h3, hb3⟩
      case measure => simp [intOf]; omega
    · obtain rfl : j = size := by omega
      go_wp2
      go_ret
      exact ⟨A2, _, c2, rfl, Lib.hid HL.out, hx, hbel⟩

set_option maxRecDepth 100000 in
theorem Put64_any (A : Option Addr) (c n : Nat) (l : List UInt8) (w : World) (hr : Row w A (bs l)) (hc : l.length ≤ 140737488355000) (hn : n < 18446744073709551616) :
    Calls Try.prog 101 #[.slice A l.length c, .int .u64 (n : Int)] w (NewB (l ++ CodeM.fx 8 n) w) := by
  go_enter Try.func101, Try.ntmps101
  go_wp2_with fail
  refine (put64_any A c n 8 l _ hr hc hn (by omega)).mono ?_
  rintro e w1 ⟨A1, n1, c1, rfl, hn1, h1, b1⟩
  go_wp2
  go_ret
  exact ⟨A1, n1, c1, rfl, hn1, h1, b1⟩

set_option maxRecDepth 100000 in
theorem PutText_any (A A2 : Option Addr) (c c2 : Nat) (l s : List UInt8) (w : World) (hr : Row w A (bs l)) (hr2 : Row w A2 (bs s)) (hc : l.length + s.length ≤ 140737488354000) :
    Calls Try.prog 106 #[.slice A l.length c, .slice A2 s.length c2] w (NewB (l ++ CodeM.tx s) w) := by
  go_enter Try.func106, Try.ntmps106
  go_wp2_with fail
  refine (putuv_any A c s.length l _ hr (by omega) (by omega)).mono ?_
  rintro e w1 ⟨A1, n1, c1, rfl, hn1, h1, b1⟩
  have hu := CodeM.uv_length s.length
  have hn1' := hn1.out
  rw [List.length_append] at hn1'
  go_wp2_with (at_builtin; refine wpl_app' _ rfl (.tmp 9) (.tmp 10) rfl w.heap.size A1 c1 (l ++ CodeM.uv s.length) n1 rfl hn1.out h1 A2 c2 s s.length rfl rfl (hr2.below b1) ?_ ?_ ?_)
  · omega
  · exact b1.size
  intro A3 c3 w3 h3 hg3 _
  have hb3 : Below w.heap.size w w3 := h1.grown_below (by rw [hn1.out]) hg3 b1 (Nat.le_refl _) b1.size
  clear hn1'
  go_wp2
  go_ret
  exact ⟨A3, _, c3, rfl, Lib.hid (by unfold CodeM.tx; rw [← List.append_assoc, List.length_append, hn1.out]), h3, hb3⟩
end Go.Proofs.Ytaadfalklddhcaa
/-! part -/
namespace Go.Proofs.Ytaadfalklddhcaa
open Go.RowKit
set_option linter.unusedVariables false
/-- A reader in memory (t: its type). -/
def RdAt (t : TypeId) (w : World) (g : Nat) (r : CodeM.Rd) : Prop := ∃ A n c, Blk w g t #[.slice A n c, .int .i64 (r.e : Int)] ∧ r.l.length = n ∧ (n ≤ c ∧ n ≤ 140737488355328) ∧ c ≤ maxLen ∧ Row w A (bs r.l)
/-- A new reader. -/
def NewR (t : TypeId) (r : CodeM.Rd) (w : World) (e : Ending) (w' : World) : Prop := ∃ g, e = .returned (.pointer (some ⟨g, 0, none⟩)) ∧ w.heap.size ≤ g ∧ RdAt t w' g r ∧ Below w.heap.size w w'
/-- Bytes lie in no reader's block. -/
theorem row_apart {w : World} {A : Option Addr} {l : List UInt8} {g : Nat} {t : TypeId} {cs : Array Value} (h : Row w A (bs l)) (hB : Blk w g t cs) (hcs : ∀ v ∈ cs.toList, ∀ c : UInt8, v ≠ B c) : l = [] ∨ ∃ b o, A = some ⟨b, o, none⟩ ∧ b ≠ g ∧ ∀ j u, (bs l)[j]? = some u → w.cell? ⟨b, o + j, none⟩ = some u := by
  rcases h with h | ⟨b, o, e, hc⟩
  · exact .inl (List.map_eq_nil_iff.1 h)
  · by_cases hl : l = []
    · exact .inl hl
    · refine .inr ⟨b, o, e, ?_, hc⟩
      rintro rfl
      obtain ⟨u, l', rfl⟩ : ∃ u l', l = u :: l' := by
        cases l with
        | nil => exact absurd rfl hl
        | cons u l' => exact ⟨u, l', rfl⟩
      have h0 := hc 0 (B u) rfl
      rw [hB.cell] at h0
      exact hcs _ (by rw [← Array.getElem?_toList] at h0; exact List.mem_of_getElem? h0) u rfl
theorem row_other {w w' : World} {A : Option Addr} {l : List UInt8} {g : Nat} {t : TypeId} {cs : Array Value} (h : Row w A (bs l)) (hB : Blk w g t cs) (hcs : ∀ v ∈ cs.toList, ∀ c : UInt8, v ≠ B c) (hg : w.grownBy w' (some g)) : Row w' A (bs l) := by
  rcases row_apart h hB hcs with rfl | ⟨b, o, e, hne, hc⟩
  · exact .inl rfl
  · refine .inr ⟨b, o, e, fun j u hu => ?_⟩
    have := hc j u hu
    exact hg.cell this (by simpa using hne)
theorem reader_apart (A : Option Addr) (n c : Nat) (e : Int) : ∀ v ∈ (#[Value.slice A n c, Value.int .i64 e] : Array Value).toList, ∀ c : UInt8, v ≠ B c := by
  intro v hv c
  simp at hv
  rcases hv with rfl | rfl <;> simp [B]
/-- Bytes stay where a reader alone has changed. -/
theorem RdAt.row {t : TypeId} {w w' : World} {g : Nat} {r : CodeM.Rd} (h : RdAt t w g r) (hg : w.grownBy w' (some g)) {A : Option Addr} {l : List UInt8} (hr : Row w A (bs l)) : Row w' A (bs l) := by
  obtain ⟨_, _, _, hB, _⟩ := h
  exact row_other hr hB (reader_apart _ _ _ _) hg
theorem RdAt.below {t : TypeId} {w w' : World} {g : Nat} {r : CodeM.Rd} (h : RdAt t w g r) (hb : Below w.heap.size w w') : RdAt t w' g r := by
  obtain ⟨A, n, c, hB, h1, h2, h3, h4⟩ := h
  exact ⟨A, n, c, hB.below hb hB.lt, h1, h2, h3, h4.below hb⟩
theorem RdAt.lt {t : TypeId} {w : World} {g : Nat} {r : CodeM.Rd} (h : RdAt t w g r) : g < w.heap.size := by
  obtain ⟨A, n, c, hB, _⟩ := h
  exact hB.lt
theorem below_grown {B g : Nat} {a w w' : World} (h : Below B a w) (hg : w.grownBy w' (some g)) (hs : B ≤ w.heap.size) (hB : B ≤ g) : Below B a w' := h.grown hg hs (fun k hk => by injection hk with hk; omega)
set_option maxRecDepth 100000 in
theorem newreader_any (A : Option Addr) (c : Nat) (l : List UInt8) (w : World) (hr : Row w A (bs l)) (hc : l.length ≤ 140737488355328) :
    Calls Try.prog 28 #[.slice A l.length c] w (NewR 111 ⟨l, 0⟩ w) := by
  go_enter Try.func28, Try.ntmps28
  go_wp2_with fail
  refine (clone_any A c l _ hr hc).mono ?_
  rintro e w1 ⟨A1, n1, c1, rfl, hn1, h1, b1⟩
  have hs := b1.size
  go_wp2
  go_ret
  exact ⟨w1.heap.size, rfl, by omega, ⟨A1, n1, c1, Blk.new w1 _ _, hn1.out, ⟨hn1.out ▸ h1.le.1, hn1.out ▸ hc⟩, h1.le.2, (h1.alloc _).row⟩, b1.alloc hs _⟩
theorem err_any (g : Nat) (r : CodeM.Rd) (w : World) (hr : RdAt 111 w g r) :
    Calls Try.prog 91 #[.pointer (some ⟨g, 0, none⟩)] w fun e w' => e = .returned (.int .i64 (r.e : Int)) ∧ w = w' := by
  obtain ⟨A, n, c, hB, hn, hc, hc2, hrow⟩ := hr
  have c1 := hB.cell 1
  simp only [List.getElem?_toArray, List.getElem?_cons_zero, List.getElem?_cons_succ] at c1
  clear hB hn
  go_enter Try.func91, Try.ntmps91
  go_wp2
  go_ret
  exact ⟨rfl, rfl⟩
end Go.Proofs.Ytaadfalklddhcaa
/-! part -/
namespace Go.Proofs.Ytaadfalklddhcaa
open Go.RowKit
set_option linter.unusedVariables false
namespace CodeM
set_option maxRecDepth 100000 in
theorem and127 (c : UInt8) : bits .and .u8 (c.toNat : Int) 127 = ((c.toNat % 128 : Nat) : Int) := by
  have h : ∀ x : Fin 256, x.val &&& 127 = x.val % 128 := by decide +kernel
  have := c.toNat_lt
  rw [show (127 : Int) = ((127 : Nat) : Int) from rfl, u8_and_nat _ _ (by omega) (by omega), h ⟨c.toNat, by omega⟩]
theorem pow7 (k : Nat) : 2 ^ (7 * (k + 1)) = 2 ^ (7 * k) * 128 := by rw [show 7 * (k + 1) = 7 * k + 7 by omega, Nat.pow_add]
theorem acc_lt {acc k x : Nat} (h : acc < 2 ^ (7 * k)) (hx : x < 128) : acc + x * 2 ^ (7 * k) < 2 ^ (7 * (k + 1)) := by
  rw [pow7]
  generalize 2 ^ (7 * k) = p at *
  have : x * p ≤ 127 * p := Nat.mul_le_mul_right p (by omega)
  omega
theorem pow7_le {k : Nat} (h : k ≤ 9) : 2 ^ (7 * k) ≤ 2 ^ 63 := Nat.pow_le_pow_right (by omega) (by omega)
theorem orsh (acc k x : Nat) (h : acc < 2 ^ (7 * k)) (hk : k ≤ 9) (hf : x * 2 ^ (7 * k) < 18446744073709551616) : bits .or .u64 (acc : Int) ((x * 2 ^ (7 * k) : Nat) : Int) = ((acc + x * 2 ^ (7 * k) : Nat) : Int) := by
  have h1 := pow7_le hk
  rw [u64_or_nat _ _ (by omega) hf, Nat.or_comm, ← Nat.shiftLeft_eq, ← Nat.shiftLeft_add_eq_or_of_lt h, Nat.add_comm]
theorem fit (k x : Nat) (hk : k < 9) (hx : x < 128) : x * 2 ^ (7 * k) < 18446744073709551616 := by
  have h1 : 2 ^ (7 * k) ≤ 2 ^ 56 := Nat.pow_le_pow_right (by omega) (by omega)
  have h2 : x * 2 ^ (7 * k) ≤ 127 * 2 ^ 56 := Nat.mul_le_mul (by omega) h1
  omega
theorem orsh_wrap (acc k : Nat) (u : Nat) (h : acc < 2 ^ (7 * k)) (hk : k < 9) : bits .or .u64 (acc : Int) (IntKind.u64.wrap ((u : Int) % 128 * 2 ^ (7 * k))) = ((acc + u % 128 * 2 ^ (7 * k) : Nat) : Int) := by
  have hf := fit k (u % 128) hk (Nat.mod_lt _ (by omega))
  have e : (u : Int) % 128 * 2 ^ (7 * k) = ((u % 128 * 2 ^ (7 * k) : Nat) : Int) := by push_cast; rfl
  rw [e, IntKind.wrap_u64, Int.emod_eq_of_lt (by omega) (by omega)]
  exact orsh acc k _ h (by omega) hf
theorem orsh_zero (acc : Nat) (u : Nat) (h : acc < 2 ^ (7 * 0)) : bits .or .u64 (acc : Int) ((u : Int) % 128) = ((acc + u % 128 * 2 ^ (7 * 0) : Nat) : Int) := by
  have := orsh acc 0 (u % 128) h (by omega) (by omega)
  rw [← this]
  congr 1
  simp
theorem cntF_end {k acc : Nat} {u : UInt8} {l : List UInt8} (hk : k < 9 ∨ (k = 9 ∧ u.toNat ≤ 1)) (hu : u.toNat < 128) : cntF k acc (u :: l) = if ((k : Int) == 0 || (u.toNat : Int) != 0) then some (acc + u.toNat % 128 * 2 ^ (7 * k), k + 1) else none := by
  have e : ((k : Int) == 0 || (u.toNat : Int) != 0) = decide (k = 0 ∨ u.toNat ≠ 0) := by
    rw [Bool.eq_iff_iff]; simp
  rw [e]
  conv => lhs; unfold cntF
  rw [if_neg (by omega), if_pos hu, Nat.mod_eq_of_lt hu]
  by_cases h : k = 0 ∨ u.toNat ≠ 0
  · rw [if_pos h, if_pos (decide_eq_true h)]
  · rw [if_neg h, if_neg (by simpa using h)]
theorem cntF_more {k acc : Nat} {u : UInt8} {l : List UInt8} (hk : k < 9) (hu : ¬ u.toNat < 128) : cntF k acc (u :: l) = cntF (k + 1) (acc + u.toNat % 128 * 2 ^ (7 * k)) l := by
  have := u.toNat_lt
  conv => lhs; unfold cntF
  rw [if_neg (by omega), if_neg hu, show u.toNat - 128 = u.toNat % 128 by omega]
theorem cntF_stop {k acc : Nat} {u : UInt8} {l : List UInt8} (h : (k = 9 ∧ 1 < u.toNat) ∨ 9 < k) : cntF k acc (u :: l) = none := by
  unfold cntF
  rw [if_pos h]
end CodeM
/-- What a count returns. -/
def CntPost (l : List UInt8) (w : World) (e : Ending) (w' : World) : Prop := ∃ n k ok, e = .returned (.tuple #[.int .u64 (n : Nat), .int .i64 (k : Nat), .bool ok]) ∧ Hid (CodeM.cnt l = if ok then some (n, k) else none) ∧ w = w'
set_option maxRecDepth 100000 in
theorem rcount_any (g : Nat) (r : CodeM.Rd) (w : World) (hr : RdAt 111 w g r) :
    Calls Try.prog 92 #[.pointer (some ⟨g, 0, none⟩)] w (CntPost r.l w) := by
  obtain ⟨l, e⟩ := r
  obtain ⟨A, n, c, hB, rfl, ⟨hc, hn⟩, hc2, hrow⟩ := hr
  have c0 := hB.cell 0
  simp only [List.getElem?_toArray, List.getElem?_cons_zero] at c0
  clear hB
  have ha := CodeM.and127
  dsimp only at hn hrow hc
  go_enter Try.func92, Try.ntmps92
  go_wp2
  go_loop [5, 13] (fun v i => ∃ k acc : Nat, k ≤ l.length ∧ i = .int .i64 k ∧ v = .int .u64 (acc : Int) ∧ acc < 2 ^ (7 * k) ∧ k ≤ 10 ∧ CodeM.cnt l = CodeM.cntF k acc (l.drop k)) (fun _ i => l.length - (intOf i).toNat)
  case atStart => exact ⟨0, 0, by omega, rfl, rfl, by omega, by omega, rfl⟩
  case round =>
    obtain ⟨k, acc, hk, rfl, rfl, hacc, hk10, he⟩ := hrel
    by_cases hlt : k < l.length
    · obtain ⟨u, hu⟩ : ∃ s, l[k]? = some s := ⟨_, List.getElem?_eq_getElem hlt⟩
      obtain ⟨b, o, rfl, hcell⟩ := row_at hrow hu
      have hue := (List.getElem?_eq_some_iff.1 hu).2
      have hd : l.drop k = u :: l.drop (k + 1) := by rw [← hue, List.getElem_cons_drop]
      rw [hd] at he
      have hu8 := u.toNat_lt
      rcases (by omega : k < 9 ∨ (k = 9 ∧ 1 < u.toNat ∨ 9 < k) ∨ (k = 9 ∧ u.toNat ≤ 1)) with h9 | h9 | ⟨rfl, h9⟩
      · have ho := CodeM.orsh_wrap acc k u.toNat hacc h9
        by_cases h128 : u.toNat < 128
        · have HE := Lib.hid (he.trans (CodeM.cntF_end (.inl h9) h128))
          have HO := Lib.hid ho
          clear he ho
          rcases Nat.eq_zero_or_pos k with rfl | hp
          · rw [Nat.add_zero] at hcell
            have HO := Lib.hid (CodeM.orsh_zero acc u.toNat hacc)
            go_wp2
            go_ret3
            exact ⟨_, 1, true, congrArg (fun v => Ending.returned (.tuple #[.int .u64 v, .int .i64 1, .bool true])) HO.out, Lib.hid HE.out, rfl⟩
          · go_wp2
            go_ret3
            exact ⟨_, k + 1, _, congrArg (fun v => Ending.returned (.tuple #[.int .u64 v, .int .i64 ((k + 1 : Nat) : Int), .bool ((k : Int) == 0 || (u.toNat : Int) != 0)])) HO.out, Lib.hid HE.out, rfl⟩
        · have HE := Lib.hid (he.trans (CodeM.cntF_more h9 h128))
          have HA := Lib.hid (CodeM.acc_lt hacc (Nat.mod_lt u.toNat (by omega : 0 < 128)))
          have HP := Lib.hid ho
          clear he ho
          rcases Nat.eq_zero_or_pos k with rfl | hp
          · rw [Nat.add_zero] at hcell
            have HO := Lib.hid (CodeM.orsh_zero acc u.toNat hacc)
            go_wp2
            go_round
            case rel => exact ⟨1, _, by omega, by go_num, congrArg (Value.int .u64) HO.out, HA.out, by omega, HE.out⟩
            case measure => simp [intOf]; omega
          · go_wp2
            go_round
            case rel => exact ⟨k + 1, _, by omega, by go_num, congrArg (Value.int .u64) HP.out, HA.out, by omega, HE.out⟩
            case measure => simp [intOf]; omega
      · have HE := Lib.hid (he.trans (CodeM.cntF_stop h9))
        clear he hacc
        go_wp2
        all_goals go_ret3
        all_goals exact ⟨0, 0, false, rfl, HE, rfl⟩
      · have HE := Lib.hid (he.trans (CodeM.cntF_end (.inr ⟨rfl, h9⟩) (by omega)))
        have HO := Lib.hid (CodeM.orsh acc 9 (u.toNat % 128) hacc (by omega) (by rw [Nat.mod_eq_of_lt (by omega)]; omega))
        clear he hacc
        go_wp2
        go_ret3
        exact ⟨_, 10, _, congrArg (fun v => Ending.returned (.tuple #[.int .u64 v, .int .i64 10, .bool ((u.toNat : Int) != 0)])) HO.out, Lib.hid HE.out, rfl⟩
    · obtain rfl : k = l.length := by omega
      have HE : Hid (CodeM.cnt l = none) := Lib.hid (by rw [he, List.drop_length]; rfl)
      clear he hacc
      go_wp2
      go_ret3
      exact ⟨0, 0, false, rfl, HE, rfl⟩
end Go.Proofs.Ytaadfalklddhcaa
/-! part -/
namespace Go.Proofs.Ytaadfalklddhcaa
open Go.RowKit Go.Sort Go.Lib
set_option linter.unusedVariables false
/-- A reader's method answers, and the reader alone has changed. -/
def RdStep (t : TypeId) (g : Nat) (v : Value) (r' : CodeM.Rd) (w : World) (e : Ending) (w' : World) : Prop := e = .returned v ∧ RdAt t w' g r' ∧ w.grownBy w' (some g)
/-- Its error is set. -/
theorem RdAt.fail {t : TypeId} {w : World} {g : Nat} {r : CodeM.Rd} (h : RdAt t w g r) (e : Nat) : RdAt t (w.setCell ⟨g, 1, none⟩ (.int .i64 (e : Int))) g ⟨r.l, e⟩ := by
  have hr := @RdAt.row t w (w.setCell ⟨g, 1, none⟩ (.int .i64 (e : Int))) g r h (grownBy_setCell w g 1 _)
  obtain ⟨A, n, c, hB, h1, h2, h3, h4⟩ := h
  exact ⟨A, n, c, hB.set_ 1 (.int .i64 (e : Int)), h1, h2, h3, hr h4⟩
theorem row_drop {w : World} {b o : Nat} {l : List UInt8} (h : Row w (some ⟨b, o, none⟩) (bs l)) (k : Nat) : Row w (some ⟨b, o + k, none⟩) (bs (l.drop k)) := by
  rcases h with h | ⟨b', o', e, hc⟩
  · left; rw [List.map_eq_nil_iff.1 h]; simp [bs]
  · simp only [Option.some.injEq, Addr.mk.injEq, and_true] at e
    obtain ⟨rfl, rfl⟩ := e
    refine .inr ⟨b, o + k, rfl, fun j u hu => ?_⟩
    rw [Nat.add_assoc]
    refine hc (k + j) u ?_
    unfold bs at hu ⊢
    rw [List.map_drop, List.getElem?_drop] at hu
    exact hu
theorem row_drop' {w : World} {A : Option Addr} {l : List UInt8} (h : Row w A (bs l)) (k : Nat) : Row w (A.map fun x => x.add k) (bs (l.drop k)) := by
  cases A with
  | none => left; rw [row_none h]; simp [bs]
  | some a =>
    rcases h with h | ⟨b, o, e, hc⟩
    · left; rw [List.map_eq_nil_iff.1 h]; simp [bs]
    · injection e with e; subst e
      have := row_drop (.inr ⟨b, o, rfl, hc⟩) k
      show Row w (some (Addr.add _ _)) _
      rw [Addr.add_lit]; exact this
/-- The reader has moved on. -/
theorem rd_moved {t : TypeId} {w : World} {g : Nat} {A : Option Addr} {c e : Nat} {l : List UInt8} (hB : Blk w g t #[.slice A l.length c, .int .i64 (e : Int)]) (hc : l.length ≤ c) (hn : l.length ≤ 140737488355328) (hc2 : c ≤ maxLen) (hrow : Row w A (bs l)) (k : Nat) (hk : k ≤ l.length) :
    (c = k → RdAt t (w.setCell ⟨g, 0, none⟩ (.slice A (l.length - k) 0)) g ⟨l.drop k, e⟩) ∧ RdAt t (w.setCell ⟨g, 0, none⟩ (.slice (A.map fun x => x.add k) (l.length - k) (c - k))) g ⟨l.drop k, e⟩ := by
  have hr : ∀ v (A2 : Option Addr) (m : List UInt8), Row w A2 (bs m) → Row (w.setCell ⟨g, 0, none⟩ v) A2 (bs m) := fun v A2 m h => row_other h hB (reader_apart _ _ _ _) (grownBy_setCell w g 0 v)
  refine ⟨?_, ?_⟩
  · rintro rfl
    have e0 : l.drop c = [] := List.drop_eq_nil_of_le hc
    refine ⟨A, l.length - c, 0, hB.set_ 0 _, by rw [List.length_drop], ⟨by omega, by omega⟩, by omega, ?_⟩
    left; show bs (l.drop c) = []
    rw [e0]; rfl
  · exact ⟨_, l.length - k, c - k, hB.set_ 0 _, by rw [List.length_drop], ⟨by omega, by omega⟩, by omega, hr _ _ _ (row_drop' hrow k)⟩
/-- Both writings of what has moved. -/
theorem rd_step {t : TypeId} {g : Nat} {v : Value} {r' : CodeM.Rd} {w w' : World} {b : Nat} {u : Value} (hv : w' = w.setCell ⟨g, b, none⟩ u) (h : RdAt t w' g r') : RdStep t g v r' w (.returned v) w' := ⟨rfl, h, hv ▸ grownBy_setCell w g b u⟩
namespace CodeM
theorem uv_fail {l : List UInt8} (h : cnt l = none) : Rd.uv ⟨l, 0⟩ = (0, ⟨l, 4⟩) := by simp [Rd.uv, h]
theorem uv_ok {l : List UInt8} {n k : Nat} (h : cnt l = some (n, k)) : Rd.uv ⟨l, 0⟩ = (n, ⟨l.drop k, 0⟩) := by simp [Rd.uv, h]
theorem uv_err {l : List UInt8} {e : Nat} (h : e ≠ 0) : Rd.uv ⟨l, e⟩ = (0, ⟨l, e⟩) := by simp [Rd.uv, h]
end CodeM
set_option maxRecDepth 100000 in
theorem uv_any (g : Nat) (r : CodeM.Rd) (w : World) (hr : RdAt 111 w g r) :
    Calls Try.prog 89 #[.pointer (some ⟨g, 0, none⟩)] w (RdStep 111 g (.int .u64 ((r.uv).1 : Nat)) (r.uv).2 w) := by
  have hr0 := Lib.hid hr
  obtain ⟨l, e⟩ := r
  obtain ⟨A, n, c, hB, rfl, ⟨hc, hn⟩, hc2, hrow⟩ := hr
  have c0 := hB.cell 0
  have c1 := hB.cell 1
  simp only [List.getElem?_toArray, List.getElem?_cons_zero, List.getElem?_cons_succ] at c0 c1
  dsimp only at hn hrow hc c1 c0
  have f0 := hB.frozen 0
  have f1 := hB.frozen 1
  go_enter Try.func89, Try.ntmps89
  go_wp2_with fail
  refine (err_any g _ w hr0.out).mono ?_
  rintro e1 w1 ⟨rfl, rfl⟩
  by_cases he : e = 0
  · subst he
    go_wp2_with fail
    refine (rcount_any g _ w hr0.out).mono ?_
    rintro e1 w1 ⟨n, k, ok, rfl, hcnt, rfl⟩
    cases ok with
    | false =>
      go_wp2
      go_ret
      rw [CodeM.uv_fail hcnt.out]
      exact rd_step rfl (hr0.out.fail 4)
    | true =>
      have hk := (CodeM.cnt_some hcnt.out).2.2.1
      have HM := Lib.hid (rd_moved (e := 0) hB hc hn hc2 hrow k hk)
      clear hB hrow
      go_wp2
      · go_ret
        rw [CodeM.uv_ok hcnt.out]
        refine rd_step rfl (HM.out.1 ?_)
        assumption
      · go_ret
        rw [CodeM.uv_ok hcnt.out]
        exact rd_step rfl HM.out.2
  · go_wp2
    go_ret
    rw [CodeM.uv_err he]
    exact ⟨rfl, hr0.out, World.grownBy.refl _ _⟩
end Go.Proofs.Ytaadfalklddhcaa
