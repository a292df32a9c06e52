/- A part. -/
import Derived.Test.YthmgnfeljhdioaaGreatDxBl
set_option linter.unusedVariables false
set_option linter.unusedSimpArgs false
set_option linter.unusedSectionVars false
namespace Go.Dx
open Go
def IsB (bs : List Int) : Prop := ∀ b, b ∈ bs → 0 ≤ b ∧ b < 256
theorem IsB.take {bs : List Int} (h : IsB bs) (n : Nat) : IsB (bs.take n) := fun b hb => h b (List.mem_of_mem_take hb)
theorem IsB.drop {bs : List Int} (h : IsB bs) (n : Nat) : IsB (bs.drop n) := fun b hb => h b (List.mem_of_mem_drop hb)
def leV : List Int → Int
 | [] => 0
 | b :: l => b + 256 * leV l
theorem Pv (n : Nat) : (256 : Int) ^ (n + 1) = 256 * 256 ^ n := by rw [Int.pow_succ, Int.mul_comm]
theorem V2 : ∀ (l : List Int) (b : Int), leV (l ++ [b]) = leV l + 256 ^ l.length * b
 | [], b => by simp [leV]
 | a :: l, b => by
  rw [List.cons_append, List.length_cons, Pv]
  unfold leV
  rw [V2 l b, Int.mul_add, Int.mul_assoc]
  omega
theorem Tf (n : Int) : zv .u8 n = n % 256 := by
 rw [zK]
 simp [IntKind.wrap, IntKind.bits, IntKind.signed]
abbrev RS := List Int × Bool
def tk (n : Nat) (st : RS) : List Int × RS := if st.2 = true ∨ st.1.length < n then ([], (st.1, true)) else (st.1.take n, (st.1.drop n, false))
def rdN (size : Nat) (most : Int) (st : RS) : Int × RS :=
 if (tk size st).2.2 = true then (0, (tk size st).2)
 else if size < 8 ∧ most < leV (tk size st).1 then (0, ((tk size st).2.1, true))
 else (zv .i64 (leV (tk size st).1), (tk size st).2)
def rdP {α β : Type} (ra : RS → α × RS) (rb : RS → β × RS) (st : RS) : (α × β) × RS := (((ra st).1, (rb (ra st).2).1), (rb (ra st).2).2)
def Qj {α : Type} (rd : RS → α × RS) : Nat → List α → RS → List α × RS
 | 0, l, st => (l, st)
 | n + 1, l, st => if st.2 = true then (l, st) else Qj rd n (l ++ [(rd st).1]) (rd st).2
def rdL {α : Type} (rd : RS → α × RS) (st : RS) : List α × RS := Qj rd (rdN 2 4096 st).1.toNat [] (rdN 2 4096 st).2
structure TT (s : DS) (r : Nat) (bv : Value) (bs : List Int) (bad : Bool) : Prop where
 gr : s.get r = some (.cells (.list [bv, .bool bad]) false)
 wr : s.wr r = true
 sl : SlR s bv bs
 ne : r ∉ blk bv
theorem TT.keep {s s' : DS} {r : Nat} {bv : Value} {bs : List Int} {bad : Bool} {F : List Nat} (h : TT s r bv bs bad) (e : Ext F s s') (h1 : r ∉ F) (h2 : ∀ k, k ∈ blk bv → k ∉ F) : TT s' r bv bs bad :=
 ⟨e.keep h.gr h1, e.wrs h.wr, h.sl.keep e h2, h.ne⟩
structure P2 {α : Type} (s : DS) (r : Nat) (bv : Value) (R : Nat → DS → Value → α → Prop) (x : α × RS) (p : Value × DS) : Prop where
 ex : ∃ bv', R s.next p.2 p.1 x.1 ∧ TT p.2 r bv' x.2.1 x.2.2 ∧ Ext [r] s p.2 ∧ ∀ k, k ∈ blk bv' → k ∈ blk bv
structure RM {α : Type} (R : Nat → DS → Value → α → Prop) : Prop where
 stab : ∀ (n : Nat) (s s' : DS) v x F, R n s v x → Ext F s s' → (∀ k, k ∈ F → k < n) → R n s' v x
 mono : ∀ (n n' : Nat) (s : DS) v x, R n s v x → n' ≤ n → R n' s v x
def SS {α : Type} (E : Env) (n : Nat) (f : Value) (D : List (Nat × DObj)) (R : Nat → DS → Value → α → Prop) (rd : RS → α × RS) : Prop :=
 ∀ d s r bv bs bad, Yp s D → (∀ p, p ∈ D → p.1 ≠ r) → TT s r bv bs bad → IsB bs → bs.length ≤ 1048576 → s.Good → W (dcall E (d + n) f [.pointer (some ⟨r, 0, none⟩)] s) (P2 s r bv R (rd (bs, bad)))
theorem SS.mono {α : Type} {E : Env} {n m : Nat} {f : Value} {D : List (Nat × DObj)} {R : Nat → DS → Value → α → Prop} {rd : RS → α × RS} (h : SS E n f D R rd) (hm : n ≤ m) : SS E m f D R rd := fun d s r bv bs bad h1 h2 h3 h4 h5 h6 => by
 have := h (d + (m - n)) s r bv bs bad h1 h2 h3 h4 h5 h6
 rwa [show d + (m - n) + n = d + m by omega] at this
def Qr {α : Type} (E : Env) (n : Nat) (m : Nat) (s : DS) (v : Value) (R : Nat → DS → Value → α → Prop) (rd : RS → α × RS) : Prop :=
 ∃ (f : FuncId) (a b : Array Value) (g : FuncId) (a' b' : Array Value) (D : List (Nat × DObj)), v = .agg ⟨[.func (.func f) a b, .func (.func g) a' b']⟩ ∧ Yp s D ∧ (∀ p, p ∈ D → m ≤ p.1 ∧ p.1 < s.next) ∧ SS E n (.func (.func g) a' b') D R rd
theorem Qr.keep {α : Type} {E : Env} {n m : Nat} {s s' : DS} {v : Value} {R : Nat → DS → Value → α → Prop} {rd : RS → α × RS} (h : Qr E n m s v R rd) (e : Ext [] s s') : Qr E n m s' v R rd := by
 obtain ⟨f, a, b, g, a', b', D, h1, h2, h3, h4⟩ := h
 exact ⟨f, a, b, g, a', b', D, h1, h2.keep e (by simp), fun p hp => ⟨(h3 p hp).1, Nat.lt_of_lt_of_le (h3 p hp).2 e.le⟩, h4⟩
theorem Qr.mono {α : Type} {E : Env} {n n' m : Nat} {s : DS} {v : Value} {R : Nat → DS → Value → α → Prop} {rd : RS → α × RS} (h : Qr E n m s v R rd) (hm : n ≤ n') : Qr E n' m s v R rd := by
 obtain ⟨f, a, b, g, a', b', D, h1, h2, h3, h4⟩ := h
 exact ⟨f, a, b, g, a', b', D, h1, h2, h3, h4.mono hm⟩
theorem SlR.take {s : DS} {v : Value} {r : List Int} (h : SlR s v r) {i : Nat} (hi : i ≤ r.length) : ∃ w, slV 1 v none (some (.int .i64 (i : Int))) none = some w ∧ SlR s w (r.take i) ∧ ∀ k, k ∈ blk w → k ∈ blk v := by
 rcases h with ⟨rfl, rfl⟩ | ⟨b, off, sp, c, rfl, h1, h2, h3⟩
 · obtain rfl : i = 0 := by simpa using hi
   exact ⟨.slice none 0 0, rfl, .inl ⟨rfl, rfl⟩, fun k hk => hk⟩
 · have hl : (r.take i).length = i := by rw [List.length_take]; omega
   refine ⟨.slice (some ⟨b, off + 0 * 1, sp⟩) (i - 0) (c - 0), ?_, .inr ⟨b, off + 0 * 1, sp, c - 0, by rw [hl]; rfl, h1, by rw [hl]; omega, ?_⟩, fun k hk => by simpa [blk] using hk⟩
   · unfold slV Zw
     have hic : i ≤ c := by omega
     simp only [ZF, Nat.ble_eq.mpr hic, if_true, Option.isSome_none]
     rcases h1 with rfl | rfl
     · rfl
     · simp only [ZK, z3, if_false, Nat.beq_refl, if_true]
   · unfold DS.read at h3 ⊢
     split at h3
     · obtain ⟨_, h4⟩ := WL h3
       refine QV (by simp [u8s]) fun j hj => ?_
       rw [hl] at hj
       rw [show off + 0 * 1 + j = off + j by omega, h4 j (by omega)]
       unfold u8s
       rw [List.getElem?_map, List.getElem?_map, List.getElem?_take, if_pos hj]
     · cases h3
end Go.Dx
