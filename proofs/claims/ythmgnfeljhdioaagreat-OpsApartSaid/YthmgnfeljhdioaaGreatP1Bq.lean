/- A part. -/
import Derived.Test.YthmgnfeljhdioaaGreatP1Bo
set_option linter.unusedVariables false
set_option linter.unusedSimpArgs false
set_option linter.unusedSectionVars false
set_option maxRecDepth 100000
set_option maxHeartbeats 4000000
namespace Go.Dx.TbA
open Go Go.Dx Go.Proofs.YthmgnfeljhdioaaGreat
def SlI (s : DS) (v : Value) (l : List Int) : Prop :=
 (v = .slice none 0 0 ∧ l = []) ∨ ∃ b sp c cc ro, v = .slice (some ⟨b, 0, sp⟩) l.length c ∧ s.get b = some (.cells cc ro) ∧ ∀ i x, l[i]? = some x → cc.get i = some (.int .i64 x)
theorem SlI.of {s s' : DS} {v : Value} {l : List Int} (h : SlI s v l) (e : ∀ k, k ∈ blk v → s'.get k = s.get k) : SlI s' v l := by
 rcases h with h | ⟨b, sp, c, cc, ro, rfl, h1, h2⟩
 · exact .inl h
 · exact .inr ⟨b, sp, c, cc, ro, rfl, (e b (by simp [blk])).trans h1, h2⟩
theorem SlI.lt {s : DS} {v : Value} {l : List Int} (h : SlI s v l) : ∀ k, k ∈ blk v → k < s.next := by
 rcases h with ⟨rfl, _⟩ | ⟨b, sp, c, cc, ro, rfl, h1, h2⟩
 · exact fun k hk => by simp [blk] at hk
 · exact fun k hk => by simp [blk] at hk; subst hk; exact DS.get_lt' h1
theorem SlI.keep {s s' : DS} {v : Value} {l : List Int} {F : List Nat} (h : SlI s v l) (e : Ext F s s') (hd : ∀ k, k ∈ blk v → k ∉ F) : SlI s' v l := by
 rcases h with h | ⟨b, sp, c, cc, ro, rfl, h1, h2⟩
 · exact .inl h
 · exact .inr ⟨b, sp, c, cc, ro, rfl, e.keep h1 (hd b (by simp [blk])), h2⟩
theorem SlI.shape {s : DS} {v : Value} {l : List Int} (h : SlI s v l) : ∃ a c, v = .slice a l.length c := by
 rcases h with ⟨rfl, rfl⟩ | ⟨b, sp, c, cc, ro, rfl, h1, h2⟩
 · exact ⟨_, _, rfl⟩
 · exact ⟨_, _, rfl⟩
def PA (n : Nat) (s : DS) (v : Value) (xs : List Int) : Prop := SlI s v xs ∧ ∀ k, k ∈ blk v → n ≤ k
theorem FO : RM PA :=
 ⟨fun n s s' v x F h X hF => ⟨h.1.keep X fun k hk hf => by have := h.2 k hk; have := hF k hf; omega, h.2⟩, fun n n' s v x h hn => ⟨h.1, fun k hk => Nat.le_trans hn (h.2 k hk)⟩⟩
end Go.Dx.TbA
