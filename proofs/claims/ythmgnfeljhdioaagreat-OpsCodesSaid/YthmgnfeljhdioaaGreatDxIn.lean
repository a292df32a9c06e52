/- A part. -/
import Derived.Test.YthmgnfeljhdioaaGreatDxBl
set_option linter.unusedVariables false
set_option linter.unusedSimpArgs false
set_option linter.unusedSectionVars false
namespace Go.Dx
open Go
def IsB (bs : List Int) : Prop := ∀ b, b ∈ bs → 0 ≤ b ∧ b < 256
theorem IsB.take {bs : List Int} (h : IsB bs) (n : Nat) : IsB (bs.take n) := fun b hb => h b (List.mem_of_mem_take hb)
theorem IsB.drop {bs : List Int} (h : IsB bs) (n : Nat) : IsB (bs.drop n) := fun b hb => h b (List.mem_of_mem_drop hb)
def leV : List Int → Int
 | [] => 0
 | b :: l => b + 256 * leV l
theorem Rs (n : Nat) : (256 : Int) ^ (n + 1) = 256 * 256 ^ n := by rw [Int.pow_succ, Int.mul_comm]
theorem pow_pos (n : Nat) : 0 < (256 : Int) ^ n := Int.pow_pos (by decide)
theorem Qc : ∀ {l : List Int}, IsB l → 0 ≤ leV l ∧ leV l < 256 ^ l.length
 | [], _ => by simp [leV]
 | b :: l, h => by
  have h1 := h b (List.mem_cons_self ..)
  have h2 := Qc (l := l) fun x hx => h x (List.mem_cons_of_mem _ hx)
  rw [List.length_cons, Rs]
  unfold leV
  omega
theorem KC : ∀ (l : List Int) (b : Int), leV (l ++ [b]) = leV l + 256 ^ l.length * b
 | [], b => by simp [leV]
 | a :: l, b => by
  rw [List.cons_append, List.length_cons, Rs]
  unfold leV
  rw [KC l b, Int.mul_add, Int.mul_assoc]
  omega
theorem Jn {n : Int} (h1 : 0 ≤ n) (h2 : n < 18446744073709551616) : zt .u64 n = n := by
 rw [zS]
 simp [IntKind.wrap, IntKind.bits, IntKind.signed]
 omega
theorem Pa (n : Int) : zt .u8 n = n % 256 := by
 rw [zS]
 simp [IntKind.wrap, IntKind.bits, IntKind.signed]
theorem CV {n : Int} (h1 : 0 ≤ n) (h2 : n < 18446744073709551616) : low .u64 n = n.toNat := by
 have h := Kz .u64 n
 have : ((zF .u64 : Nat) : Int) = 18446744073709551616 := rfl
 rw [this] at h
 omega
theorem P8 {j : Nat} (hj : j ≤ 8) : (256 : Int) ^ j ≤ 18446744073709551616 := by
 match j, hj with
 | 0, _ | 1, _ | 2, _ | 3, _ | 4, _ | 5, _ | 6, _ | 7, _ | 8, _ => decide
 | _ + 9, h => omega
theorem P9 (j : Nat) : (256 : Int) ^ j = ((2 ^ (8 * j) : Nat) : Int) := by
 have h : ((2 ^ 8 : Nat) : Int) = 256 := rfl
 rw [Nat.pow_mul, Int.natCast_pow, h]
theorem MP {x c : Int} {j : Nat} (hj : j < 8) (hx : 0 ≤ x ∧ x < 256 ^ j) (hc : 0 ≤ c ∧ c < 256) :
 zt .u64 (c * Int.ofNat (2 ^ (8 * j))) = 256 ^ j * c ∧ zt .u64 (Int.ofNat (low .u64 x ||| low .u64 (256 ^ j * c))) = x + 256 ^ j * c := by
 have h8 := P8 (j := j + 1) hj
 have hp := pow_pos j
 rw [Rs] at h8
 have h1 : 256 ^ j * c ≤ 256 ^ j * 255 := Int.mul_le_mul_of_nonneg_left (by omega) (by omega)
 have h0 : 0 ≤ 256 ^ j * c := Int.mul_nonneg (by omega) hc.1
 have hP := P9 j
 have hb : x + 256 ^ j * c < 18446744073709551616 := by omega
 refine ⟨?_, ?_⟩
 · rw [show Int.ofNat (2 ^ (8 * j)) = 256 ^ j from hP.symm, Int.mul_comm]
   exact Jn h0 (by omega)
 · rw [CV hx.1 (by omega), CV h0 (by omega)]
   have e1 : (256 ^ j * c).toNat = 2 ^ (8 * j) * c.toNat := by
    have : ((256 ^ j * c).toNat : Int) = ((2 ^ (8 * j) * c.toNat : Nat) : Int) := by
     rw [Int.toNat_of_nonneg h0, Int.natCast_mul, ← hP, Int.toNat_of_nonneg hc.1]
    exact Int.ofNat.inj this
   have e2 : x.toNat < 2 ^ (8 * j) := by
    have : (x.toNat : Int) < ((2 ^ (8 * j) : Nat) : Int) := by rw [Int.toNat_of_nonneg hx.1, ← hP]; exact hx.2
    exact Int.ofNat_lt.1 this
   rw [Nat.or_comm, e1, ← Nat.two_pow_add_eq_or_of_lt e2, ← e1]
   have : Int.ofNat ((256 ^ j * c).toNat + x.toNat) = x + 256 ^ j * c := by
    show (((256 ^ j * c).toNat + x.toNat : Nat) : Int) = _
    rw [Int.natCast_add, Int.toNat_of_nonneg h0, Int.toNat_of_nonneg hx.1, Int.add_comm]
   rw [this]
   exact Jn (by omega) hb
abbrev RS := List Int × Bool
def tk (n : Nat) (st : RS) : List Int × RS := if st.2 = true ∨ st.1.length < n then ([], (st.1, true)) else (st.1.take n, (st.1.drop n, false))
def rdN (size : Nat) (most : Int) (st : RS) : Int × RS :=
 if (tk size st).2.2 = true then (0, (tk size st).2)
 else if size < 8 ∧ most < leV (tk size st).1 then (0, ((tk size st).2.1, true))
 else (zt .i64 (leV (tk size st).1), (tk size st).2)
def rdP {α β : Type} (ra : RS → α × RS) (rb : RS → β × RS) (st : RS) : (α × β) × RS := (((ra st).1, (rb (ra st).2).1), (rb (ra st).2).2)
def Ye {α : Type} (rd : RS → α × RS) : Nat → List α → RS → List α × RS
 | 0, l, st => (l, st)
 | n + 1, l, st => if st.2 = true then (l, st) else Ye rd n (l ++ [(rd st).1]) (rd st).2
def rdL {α : Type} (rd : RS → α × RS) (st : RS) : List α × RS := Ye rd (rdN 2 4096 st).1.toNat [] (rdN 2 4096 st).2
structure XQ {α : Type} (rd : RS → α × RS) : Prop where
 suf : ∀ st, ∃ k, (rd st).2.1 = st.1.drop k
 bad : ∀ st, st.2 = true → (rd st).2.2 = true
theorem SA (n : Nat) (st : RS) : ∃ k, (tk n st).2.1 = st.1.drop k := by
 unfold tk
 split
 · exact ⟨0, rfl⟩
 · exact ⟨n, rfl⟩
theorem zT (size : Nat) (most : Int) : XQ (rdN size most) := by
 refine ⟨fun st => ?_, fun st h => ?_⟩
 · obtain ⟨k, hk⟩ := SA size st
   unfold rdN
   split
   · exact ⟨k, hk⟩
   · split
     · exact ⟨k, hk⟩
     · exact ⟨k, hk⟩
 · have : (tk size st).2.2 = true := by unfold tk; rw [if_pos (.inl h)]
   unfold rdN
   rw [if_pos this]
   exact this
theorem YH {α β : Type} {ra : RS → α × RS} {rb : RS → β × RS} (ha : XQ ra) (hb : XQ rb) : XQ (rdP ra rb) := by
 refine ⟨fun st => ?_, fun st h => hb.bad _ (ha.bad _ h)⟩
 obtain ⟨k, hk⟩ := ha.suf st
 obtain ⟨k2, hk2⟩ := hb.suf (ra st).2
 exact ⟨k + k2, by show (rb (ra st).2).2.1 = _; rw [hk2, hk, List.drop_drop]⟩
theorem Kr {α : Type} {rd : RS → α × RS} (h : XQ rd) : ∀ n l st, ∃ k, (Ye rd n l st).2.1 = st.1.drop k
 | 0, l, st => ⟨0, rfl⟩
 | n + 1, l, st => by
  unfold Ye
  split
  · exact ⟨0, rfl⟩
  · obtain ⟨k, hk⟩ := h.suf st
    obtain ⟨k2, hk2⟩ := Kr h n (l ++ [(rd st).1]) (rd st).2
    exact ⟨k + k2, by rw [hk2, hk, List.drop_drop]⟩
theorem Kt {α : Type} {rd : RS → α × RS} : ∀ n l st, st.2 = true → Ye rd n l st = (l, st)
 | 0, l, st, _ => rfl
 | n + 1, l, st, h => by unfold Ye; rw [if_pos h]
theorem Rm {α : Type} {rd : RS → α × RS} (h : XQ rd) : XQ (rdL rd) := by
 refine ⟨fun st => ?_, fun st hb => ?_⟩
 · obtain ⟨k, hk⟩ := (zT 2 4096).suf st
   obtain ⟨k2, hk2⟩ := Kr h (rdN 2 4096 st).1.toNat [] (rdN 2 4096 st).2
   exact ⟨k + k2, by show (Ye rd _ [] _).2.1 = _; rw [hk2, hk, List.drop_drop]⟩
 · have := (zT 2 4096).bad st hb
   show (Ye rd _ [] _).2.2 = true
   rw [Kt _ _ _ this]
   exact this
theorem P2 {size : Nat} {most : Int} {st : RS} (h : (rdN size most st).2.2 = false) : st.2 = false ∧ size ≤ st.1.length ∧ rdN size most st = (zt .i64 (leV (st.1.take size)), (st.1.drop size, false)) ∧ (size < 8 → leV (st.1.take size) ≤ most) := by
 have hb : st.2 = false := by
  cases hb : st.2 with
  | false => rfl
  | true => rw [(zT size most).bad st hb] at h; cases h
 by_cases hl : st.1.length < size
 · have : (tk size st).2.2 = true := by unfold tk; rw [if_pos (.inr hl)]
   unfold rdN at h
   rw [if_pos this, this] at h
   cases h
 · have e : tk size st = (st.1.take size, (st.1.drop size, false)) := by
    unfold tk
    rw [if_neg (by rw [hb]; simp; omega)]
   unfold rdN at h ⊢
   rw [e] at h ⊢
   simp only [z3, if_false] at h ⊢
   by_cases hm : size < 8 ∧ most < leV (st.1.take size)
   · rw [if_pos hm] at h
     cases h
   · rw [if_neg hm]
     exact ⟨hb, by omega, rfl, fun h8 => by omega⟩
structure YZ (s : DS) (r : Nat) (bv : Value) (bs : List Int) (bad : Bool) : Prop where
 gr : s.get r = some (.cells (.list [bv, .bool bad]) false)
 wr : s.wr r = true
 sl : SlR s bv bs
 ne : r ∉ blk bv
theorem YZ.keep {s s' : DS} {r : Nat} {bv : Value} {bs : List Int} {bad : Bool} {F : List Nat} (h : YZ s r bv bs bad) (e : Ext F s s') (h1 : r ∉ F) (h2 : ∀ k, k ∈ blk bv → k ∉ F) : YZ s' r bv bs bad :=
 ⟨e.keep h.gr h1, e.wrs h.wr, h.sl.keep e h2, h.ne⟩
structure LM {α : Type} (s : DS) (r : Nat) (bv : Value) (R : Nat → DS → Value → α → Prop) (x : α × RS) (p : Value × DS) : Prop where
 ex : ∃ bv', R s.next p.2 p.1 x.1 ∧ YZ p.2 r bv' x.2.1 x.2.2 ∧ Ext [r] s p.2 ∧ ∀ k, k ∈ blk bv' → k ∈ blk bv
structure Yi {α : Type} (R : Nat → DS → Value → α → Prop) : Prop where
 stab : ∀ (n : Nat) (s s' : DS) v x F, R n s v x → Ext F s s' → (∀ k, k ∈ F → k < n) → R n s' v x
 mono : ∀ (n n' : Nat) (s : DS) v x, R n s v x → n' ≤ n → R n' s v x
def Zh {α : Type} (E : Env) (n : Nat) (f : Value) (D : List (Nat × DObj)) (R : Nat → DS → Value → α → Prop) (rd : RS → α × RS) : Prop :=
 ∀ d s r bv bs bad, Zo s D → (∀ p, p ∈ D → p.1 ≠ r) → YZ s r bv bs bad → IsB bs → bs.length ≤ 1048576 → s.Good → W (dcall E (d + n) f [.pointer (some ⟨r, 0, none⟩)] s) (LM s r bv R (rd (bs, bad)))
theorem Zh.mono {α : Type} {E : Env} {n m : Nat} {f : Value} {D : List (Nat × DObj)} {R : Nat → DS → Value → α → Prop} {rd : RS → α × RS} (h : Zh E n f D R rd) (hm : n ≤ m) : Zh E m f D R rd := fun d s r bv bs bad h1 h2 h3 h4 h5 h6 => by
 have := h (d + (m - n)) s r bv bs bad h1 h2 h3 h4 h5 h6
 rwa [show d + (m - n) + n = d + m by omega] at this
def zD {α : Type} (E : Env) (n : Nat) (m : Nat) (s : DS) (v : Value) (R : Nat → DS → Value → α → Prop) (rd : RS → α × RS) : Prop :=
 ∃ (f : FuncId) (a b : Array Value) (g : FuncId) (a' b' : Array Value) (D : List (Nat × DObj)), v = .agg ⟨[.func (.func f) a b, .func (.func g) a' b']⟩ ∧ Zo s D ∧ (∀ p, p ∈ D → m ≤ p.1 ∧ p.1 < s.next) ∧ Zh E n (.func (.func g) a' b') D R rd
theorem zD.keep {α : Type} {E : Env} {n m : Nat} {s s' : DS} {v : Value} {R : Nat → DS → Value → α → Prop} {rd : RS → α × RS} (h : zD E n m s v R rd) (e : Ext [] s s') : zD E n m s' v R rd := by
 obtain ⟨f, a, b, g, a', b', D, h1, h2, h3, h4⟩ := h
 exact ⟨f, a, b, g, a', b', D, h1, h2.keep e (by simp), fun p hp => ⟨(h3 p hp).1, Nat.lt_of_lt_of_le (h3 p hp).2 e.le⟩, h4⟩
theorem zD.mono {α : Type} {E : Env} {n n' m : Nat} {s : DS} {v : Value} {R : Nat → DS → Value → α → Prop} {rd : RS → α × RS} (h : zD E n m s v R rd) (hm : n ≤ n') : zD E n' m s v R rd := by
 obtain ⟨f, a, b, g, a', b', D, h1, h2, h3, h4⟩ := h
 exact ⟨f, a, b, g, a', b', D, h1, h2, h3, h4.mono hm⟩
theorem SlR.take {s : DS} {v : Value} {r : List Int} (h : SlR s v r) {i : Nat} (hi : i ≤ r.length) : ∃ w, slV 1 v none (some (.int .i64 (i : Int))) none = some w ∧ SlR s w (r.take i) ∧ ∀ k, k ∈ blk w → k ∈ blk v := by
 rcases h with ⟨rfl, rfl⟩ | ⟨b, off, sp, c, rfl, h1, h2, h3⟩
 · obtain rfl : i = 0 := by simpa using hi
   exact ⟨.slice none 0 0, rfl, .inl ⟨rfl, rfl⟩, fun k hk => hk⟩
 · have hl : (r.take i).length = i := by rw [List.length_take]; omega
   refine ⟨.slice (some ⟨b, off + 0 * 1, sp⟩) (i - 0) (c - 0), ?_, .inr ⟨b, off + 0 * 1, sp, c - 0, by rw [hl]; rfl, h1, by rw [hl]; omega, ?_⟩, fun k hk => by simpa [blk] using hk⟩
   · unfold slV ZS
     have hic : i ≤ c := by omega
     simp only [Z8, Nat.ble_eq.mpr hic, if_true, Option.isSome_none]
     rcases h1 with rfl | rfl
     · rfl
     · simp only [Yd, z3, if_false, Nat.beq_refl, if_true]
   · unfold DS.read at h3 ⊢
     split at h3
     · obtain ⟨_, h4⟩ := QJ h3
       refine JX (by simp [u8s]) fun j hj => ?_
       rw [hl] at hj
       rw [show off + 0 * 1 + j = off + j by omega, h4 j (by omega)]
       unfold u8s
       rw [List.getElem?_map, List.getElem?_map, List.getElem?_take, if_pos hj]
     · cases h3
end Go.Dx
