/- A part. -/
import Derived.Test.YthmgnfeljhdioaaGreatP1Cg
set_option linter.unusedVariables false
set_option linter.unusedSimpArgs false
set_option linter.unusedSectionVars false
set_option maxRecDepth 100000
set_option maxHeartbeats 4000000
namespace Go.Dx.TbA
open Go Go.Dx Go.Proofs.YthmgnfeljhdioaaGreat
def PB (n : Nat) (s : DS) (v : Value) (x : List Int) : Prop := SlR s v x ∧ ∀ k, k ∈ blk v → n ≤ k
theorem FP : RM PB :=
 ⟨fun n s s' v x F h X hF => ⟨h.1.keep X fun k hk hf => by have := h.2 k hk; have := hF k hf; omega, h.2⟩, fun n n' s v x h hn => ⟨h.1, fun k hk => Nat.le_trans hn (h.2 k hk)⟩⟩
def rdB (st : RS) : List Int × RS := tk (rdN 4 65536 st).1.toNat (rdN 4 65536 st).2
section
variable {E : Env} {s : DS} {d : Nat} {v : Value} {l : List Int}
theorem SlX.bytes (h : SlX s 1 v (zH l)) : SlR s v l := by
 have hl := zG l
 rcases h with ⟨rfl, h0⟩ | ⟨b, sp, rfl, h1, h2, h3⟩
 · exact .inl ⟨rfl, by simpa [zH] using h0⟩
 · refine .inr ⟨b, 0, sp, l.length, by rw [hl], h1, Nat.le_refl _, ?_⟩
   have hf : (zH l).flatten = u8s l := by rw [XN, Xe]
   rw [hf] at h2
   unfold DS.read
   simp only [h2]
   have hul : (u8s l).length = l.length := List.length_map ..
   rw [Ys _ _ _ (by rw [hul]; omega)]
   simp only [List.drop_zero]
   rw [List.take_of_length_le (by rw [hul]; exact Nat.le_refl _)]
end
end Go.Dx.TbA
