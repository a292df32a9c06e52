/- A part. -/
import Derived.Test.YtpfkbiaikfbpeaaGreatDxSorted
import Derived.Shelf.Strings.Search1
set_option linter.unusedVariables false
set_option linter.unusedSimpArgs false
namespace Go.Dx
open Go Go.Proofs Go.Shelf
def D0 (c : Nat) : Nat → List UInt8 → Option Nat
 | _, [] => none
 | i, b :: l => if Nat.beq b.toNat c then some i else D0 c (i + 1) l
def VJ (all : List Value) (s : DS) : Option (Value × DS) :=
 match all with
 | [.string b, .int .u8 (.ofNat c)] =>
  if Nat.blt c 256 then
   match D0 c 0 b.data.toList with
   | some i => some (.int .i64 (Int.ofNat i), s)
   | none => some (.int .i64 (-1), s)
  else none
 | _ => none
theorem Cw {c : Nat} (hc : c < 256) : ∀ (l : List UInt8) (i : Nat), (D0 c i l = none ∧ Lib.indexByte l c.toUInt8 = -1) ∨ ∃ j : Nat, D0 c i l = some (i + j) ∧ Lib.indexByte l c.toUInt8 = (j : Int)
 | [], i => .inl ⟨rfl, rfl⟩
 | b :: l, i => by
  have hcc : c.toUInt8.toNat = c := by simp [Nat.toUInt8]; omega
  by_cases h : b.toNat = c
  · refine .inr ⟨0, ?_, ?_⟩
    · unfold D0; rw [(Nat.beq_eq ▸ h : Nat.beq b.toNat c = true)]; rfl
    · have : b = c.toUInt8 := UInt8.toNat_inj.1 (by rw [hcc]; exact h)
      unfold Lib.indexByte; simp [this]
  · have hb : Nat.beq b.toNat c = false := by
     cases hb : Nat.beq b.toNat c with
     | false => rfl
     | true => exact absurd (Nat.eq_of_beq_eq_true hb) h
    have hne : ¬ b = c.toUInt8 := fun e => h (by rw [e, hcc])
    rcases Cw hc l (i + 1) with ⟨h1, h2⟩ | ⟨j, h1, h2⟩
    · refine .inl ⟨?_, ?_⟩
      · unfold D0; rw [hb]; simpa using h1
      · unfold Lib.indexByte; simp [hne, h2]
    · refine .inr ⟨j + 1, ?_, ?_⟩
      · unfold D0; rw [hb]
        simp only [z3, if_false, h1]
        congr 1; omega
      · unfold Lib.indexByte
        have : ¬ ((j : Int) = -1) := by omega
        simp [hne, h2, this]
section
variable {P : Program} {ρ : Ren}
theorem SU (L : Lays.n217 P ρ) (hbody : ∀ X w, (callFunc (ρ.f 217) X).run P w = .ok (.enter (ρ.f 217) X) w) : Xe P (ρ.f 217) VJ := by
 refine ⟨fun args s v s' h => ?_, hbody, fun args s v s' h β w args' hargs hR hf => ?_⟩
 · unfold VJ at h
   split at h
   · split at h
     · split at h <;> (cases h; exact zX.refl _)
     · cases h
   · cases h
 · unfold VJ at h
   split at h
   rotate_left
   · cases h
   rename_i b c
   split at h
   rotate_left
   · cases h
   rename_i hc
   have hc := Xy hc
   obtain ⟨args'⟩ := args'
   simp only at hargs
   cases hargs with
   | @cons _ A _ l1 hA hargs =>
   cases hargs with
   | @cons _ B _ l2 hB hargs =>
   cases hargs
   cases hA
   cases hB
   refine callsIn_wide.2 ((Go.Proofs.Any.stringslite_IndexByte L b (Int.ofNat c) w).mono ?_)
   rintro e w'' ⟨rfl, rfl⟩
   refine ⟨_, rfl, β, ?_, ?_⟩
   · rcases Cw hc b.data.toList 0 with ⟨h1, h2⟩ | ⟨j, h1, h2⟩
     · rw [h1] at h
       cases h
       have : (Int.ofNat c).toNat.toUInt8 = c.toUInt8 := rfl
       rw [this, h2]
       exact .int _ _
     · rw [h1] at h
       cases h
       have : (Int.ofNat c).toNat.toUInt8 = c.toUInt8 := rfl
       rw [this, h2, Nat.zero_add]
       exact .int _ _
   · have hs : s' = s := by
      split at h <;> (cases h; rfl)
     subst hs
     exact Step.refl hR
end
end Go.Dx
