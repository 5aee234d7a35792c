/-
  A round of the loop of snap.Wanted, whole.
  Conditions: the frame and the memory of a round.
-/
import Derived.Test.YtplknfbdonenmaaWanW6
namespace Go.Proofs.Ytplknfbdonenmaa
open Go.RowKit Go.Shelf
set_option linter.unusedVariables false
set_option linter.unusedSimpArgs false
def hdc (x : Hed) : Array Value := #[.int .u64 (x.txn : Int), .bool x.dead, .bool x.gone]
theorem wround {S : SnA} {w0 W : World} {Bx i n r : Nat} {x : Hed} {o : List Bool} {bh : Bool} {sn op : Nat → Bool} {Q : Exit → Act → World → Prop} (k : S.Ok w0) (hiN : i < S.N) (ho : o.length = S.N) (hsn : S.sl[i]? = some (sn i)) (hop : WanM.openB (lks S.ks) x.txn = op x.txn) (hL : Lks w0 S.A2 S.ks) (hBo : Bx ≠ S.bo) (hB11 : Bx ≠ S.b11)
    {a0 : Act} {wv : World} (hA : AxF S.N i Bx S.b5 S.b9 S.b10 S.b11 a0) (h : Sr S w0 W Bx (hdc x) o bh wv)
    (hQ : ∀ a w', Sr S w0 W Bx (hdc x) (o.set i (WanM.val sn op i x bh)) (bh || WanM.val sn op i x bh) w' → Q .normal a w') : (Code.seq w15 w16).wpIn (Fence.wide.inRound r) n Try.prog Q a0 wv := by
  refine wpIn_seq ?_
  have h16 : ∀ v, WanM.val sn op i x bh = v → ∀ a w', AxF S.N i Bx S.b5 S.b9 S.b10 S.b11 a → Sr S w0 W Bx (hdc x) (o.set i v) bh w' → w16.wpIn (Fence.wide.inRound r) n Try.prog Q a w' := by
    intro v hv a w' hA' hs'
    rw [hv] at hQ
    have hov : (o.set i v)[i]? = some v := List.getElem?_set_self (by rw [ho]; exact hiN)
    cases bh with
    | true => exact w16_T k hiN hov hB11 hA' hs' hQ
    | false => exact w16_F k hiN hov hB11 hA' hs' (fun a w' hh => hQ a w' (by rw [Bool.false_or]; exact hh))
  obtain ⟨t, dead, gone⟩ := x
  dsimp only at hop
  cases dead with
  | true => exact w15_A k hiN ho hL hBo hA h (fun a w' hA' hs' => h16 false rfl a w' hA' hs')
  | false =>
    have hv0 : WanM.val sn op i ⟨t, false, gone⟩ bh = (op t || (sn i && (!gone || bh))) := by simp [WanM.val]
    rw [hv0] at h16
    generalize op t = q at *
    generalize sn i = p at *
    cases q with
    | true => exact w15_B k hiN ho hop hL hBo hA h (fun a w' hA' hs' => h16 true rfl a w' hA' hs')
    | false =>
      cases p with
      | false => exact w15_C k hiN ho hsn hop hL hBo hA h (fun a w' hA' hs' => h16 false rfl a w' hA' hs')
      | true =>
        cases gone with
        | false => exact w15_D (gone := true) k hiN ho hsn hop hL hBo hA h (fun a w' hA' hs' => h16 true rfl a w' hA' hs')
        | true => exact w15_E (gone := true) k hiN ho hsn hop hL hBo hA h (fun a w' hA' hs' => h16 bh (by simp) a w' hA' hs')
end Go.Proofs.Ytplknfbdonenmaa
