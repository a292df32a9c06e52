/- A part. -/
import Derived.Test.YthmgnfeljhdioaaGreatDxTwo
set_option linter.unusedVariables false
set_option linter.unusedSimpArgs false
set_option linter.unusedSectionVars false
namespace Go.Dx
open Go Go.ChangeShapes Go.WideShapes Go.ChangeAt Go.RowKit
section
variable {H : Type} {enc : TypeId × Value → H} {P : Program} {W : World}
theorem Nv {t : TypeId} {fs : Array Field} {f : Field} {cs : List Value} {c : Value} {x : DataW H × List MemPlace} {base : Nat} {sp : Nat → Bool} {held : Bool} {fuel : Nat}
 (hu : P.underlying t = some (.struct fs)) (hf : f ∈ fs.toList) (h1 : P.cellsOf f.type = 1) (hc : cs[f.offset]? = some c)
 (ht : DataW.trod enc P W base sp held fuel t cs = some x) : ∃ fuel' y, DataW.trod enc P W base sp held fuel' f.type [c] = some y := by
 cases fuel with
 | zero => simp [DataW.trod] at ht
 | succ fuel =>
  unfold DataW.trod at ht
  rw [hu] at ht
  simp only at ht
  split at ht
  rotate_left
  · cases ht
  simp only [Option.map_eq_some_iff] at ht
  obtain ⟨xs, hxs, _⟩ := ht
  obtain ⟨y, hy⟩ := mapM_some hxs f hf
  refine ⟨fuel, y, ?_⟩
  rw [h1] at hy
  have : (cs.drop f.offset).take 1 = [c] := by
   have hlt := (List.getElem?_eq_some_iff.1 hc).1
   rw [List.drop_eq_getElem_cons hlt, List.take_succ_cons, List.take_zero]
   rw [List.getElem?_eq_getElem hlt] at hc
   cases hc
   rfl
  rw [this] at hy
  exact hy
theorem FO {t e : TypeId} {fs : Array Field} {f : Field} {ts : List TypeId} {ks : List Kd} {cs : List Value} {c : Value} {x : DataW H × List MemPlace} {base : Nat} {sp : Nat → Bool} {held : Bool} {fuel N : Nat}
 (hu : P.underlying t = some (.struct fs)) (hf : f ∈ fs.toList) (h1 : P.cellsOf f.type = 1) (hc : cs[f.offset]? = some c) (hfu : P.underlying f.type = some (.slice e))
 (hs : WL P N e = some ks) (hm : P.cellsOf e = ks.length) (hk : 0 < ks.length)
 (hts : P.cellTypes P.depth t = some ts) (hti : ts[f.offset]? = some f.type) (hlen : cs.length = ts.length)
 (hrow : Row.okWide P W .any base t ⟨cs⟩) (hopq : opq c = true)
 (ht : DataW.trod enc P W 0 sp held fuel t cs = some x) : ∃ l, JR W ks c l := by
 obtain ⟨fuel', y, hy⟩ := Nv hu hf h1 hc ht
 have hlt := (List.getElem?_eq_some_iff.1 hc).1
 obtain ⟨ts', h2, _, h3⟩ := hrow
 rw [hts] at h2
 cases h2
 obtain ⟨u', h4, h5⟩ := h3 f.offset c (by simpa using hc)
 rw [Nat.mod_eq_of_lt (by omega), hti] at h4
 cases h4
 have hcc : c.cells.toList = [c] := by cases c <;> first | rfl | (simp [opq] at hopq)
 refine Lo (t := f.type) (v := c) (d := y.1) (p := y.2) (base := base) hfu hs hm hk ?_ ⟨fuel', by rw [hcc]; exact hy⟩
 unfold Value.okWide
 rw [hfu]
 exact h5
end
end Go.Dx
