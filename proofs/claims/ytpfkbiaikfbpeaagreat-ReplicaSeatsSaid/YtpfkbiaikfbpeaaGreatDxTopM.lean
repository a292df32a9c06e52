/- A part. -/
import Derived.Test.YtpfkbiaikfbpeaaGreatDxRow
import Derived.Test.YtpfkbiaikfbpeaaGreatDxW
set_option linter.unusedVariables false
set_option linter.unusedSimpArgs false
set_option linter.unusedSectionVars false
namespace Go.Dx
open Go Go.ChangeShapes Go.WideShapes Go.ChangeAt Go.RowKit
section
variable {H : Type} {enc : TypeId × Value → H} {P : Program} {W : World}
end
theorem FU : ∀ (l : List Value) (i : Nat), getN l i = l[i]?
 | [], _ => rfl
 | _ :: _, 0 => rfl
 | _ :: l, i + 1 => by simpa [getN] using FU l i
theorem flat_get {m : Nat} : ∀ {l : List (List Value)}, (∀ x, x ∈ l → x.length = m) → ∀ {q r : Nat} {x : List Value} {y : Value}, l[q]? = some x → x[r]? = some y → l.flatten[q * m + r]? = some y
 | [], _, q, _, _, _, h, _ => by simp at h
 | z :: l, hm, 0, r, x, y, h, hy => by
  simp at h
  subst h
  have : r < z.length := (List.getElem?_eq_some_iff.1 hy).1
  simp only [List.flatten_cons, Nat.zero_mul, Nat.zero_add]
  rw [List.getElem?_append_left this]
  exact hy
 | z :: l, hm, q + 1, r, x, y, h, hy => by
  have hz : z.length = m := hm z (List.mem_cons_self ..)
  have := flat_get (l := l) (fun x hx => hm x (List.mem_cons_of_mem _ hx)) (q := q) (r := r) (by simpa using h) hy
  simp only [List.flatten_cons]
  rw [List.getElem?_append_right (by rw [hz, Nat.succ_mul]; omega), hz]
  rwa [show (q + 1) * m + r - m = q * m + r by rw [Nat.succ_mul]; omega]
def Nj (s : DS) (v : Value) (l : List (List Value)) : Prop := (v = .slice none 0 0 ∧ l = []) ∨ ∃ b c, v = .slice (some ⟨b, 0, none⟩) l.length c ∧ s.get b = some (.cells (.list l.flatten) true)
theorem R6 : s0.Good := fun _ _ => ⟨rfl, rfl⟩
theorem Nj.read {s : DS} {v : Value} {l : List (List Value)} {m : Nat} (h : Nj s v l) (hm : ∀ x, x ∈ l → x.length = m) {q r : Nat} {x : List Value} {y : Value} (hq : l[q]? = some x) (hr : x[r]? = some y) :
 ∃ b c, v = .slice (some ⟨b, 0, none⟩) l.length c ∧ ldV (.pointer (some ⟨b, q * m + r, none⟩)) s = some y := by
 rcases h with ⟨_, rfl⟩ | ⟨b, c, rfl, hg⟩
 · simp at hq
 · refine ⟨b, c, rfl, ?_⟩
   simp only [ldV, hg, Cells.get, FU]
   exact flat_get hm hq hr
end Go.Dx
