/- A part. -/
import Derived.Test.YtnmajohhfcgddaaDxBl
import Derived.Test.YtnmajohhfcgddaaDxBk
import Derived.Test.YtnmajohhfcgddaaDxOut
import Derived.Test.YtnmajohhfcgddaaDxPl
set_option linter.unusedVariables false
set_option linter.unusedSimpArgs false
set_option linter.unusedSectionVars false
namespace Go.Dx
open Go
def IsB (bs : List Int) : Prop := ∀ b, b ∈ bs → 0 ≤ b ∧ b < 256
theorem IsB.take {bs : List Int} (h : IsB bs) (n : Nat) : IsB (bs.take n) := fun b hb => h b (List.mem_of_mem_take hb)
theorem IsB.drop {bs : List Int} (h : IsB bs) (n : Nat) : IsB (bs.drop n) := fun b hb => h b (List.mem_of_mem_drop hb)
def leV : List Int → Int
 | [] => 0
 | b :: l => b + 256 * leV l
theorem SP (n : Nat) : (256 : Int) ^ (n + 1) = 256 * 256 ^ n := by rw [Int.pow_succ, Int.mul_comm]
theorem pow_pos (n : Nat) : 0 < (256 : Int) ^ n := Int.pow_pos (by decide)
theorem JX : ∀ {l : List Int}, IsB l → 0 ≤ leV l ∧ leV l < 256 ^ l.length
 | [], _ => by simp [leV]
 | b :: l, h => by
  have h1 := h b (List.mem_cons_self ..)
  have h2 := JX (l := l) fun x hx => h x (List.mem_cons_of_mem _ hx)
  rw [List.length_cons, SP]
  unfold leV
  omega
theorem Gm : ∀ (l : List Int) (b : Int), leV (l ++ [b]) = leV l + 256 ^ l.length * b
 | [], b => by simp [leV]
 | a :: l, b => by
  rw [List.cons_append, List.length_cons, SP]
  unfold leV
  rw [Gm l b, Int.mul_add, Int.mul_assoc]
  omega
theorem K6 {n : Int} (h1 : 0 ≤ n) (h2 : n < 18446744073709551616) : zE .u64 n = n := by
 rw [Yc]
 simp [IntKind.wrap, IntKind.bits, IntKind.signed]
 omega
theorem Rw (n : Int) : zE .u8 n = n % 256 := by
 rw [Yc]
 simp [IntKind.wrap, IntKind.bits, IntKind.signed]
theorem Te {n : Int} (h1 : 0 ≤ n) (h2 : n < 18446744073709551616) : low .u64 n = n.toNat := by
 have h := Gj .u64 n
 have : ((ZN .u64 : Nat) : Int) = 18446744073709551616 := rfl
 rw [this] at h
 omega
theorem PB {j : Nat} (hj : j ≤ 8) : (256 : Int) ^ j ≤ 18446744073709551616 := by
 match j, hj with
 | 0, _ | 1, _ | 2, _ | 3, _ | 4, _ | 5, _ | 6, _ | 7, _ | 8, _ => decide
 | _ + 9, h => omega
theorem PC (j : Nat) : (256 : Int) ^ j = ((2 ^ (8 * j) : Nat) : Int) := by
 have h : ((2 ^ 8 : Nat) : Int) = 256 := rfl
 rw [Nat.pow_mul, Int.natCast_pow, h]
theorem NJ {x c : Int} {j : Nat} (hj : j < 8) (hx : 0 ≤ x ∧ x < 256 ^ j) (hc : 0 ≤ c ∧ c < 256) :
 zE .u64 (c * Int.ofNat (2 ^ (8 * j))) = 256 ^ j * c ∧ zE .u64 (Int.ofNat (low .u64 x ||| low .u64 (256 ^ j * c))) = x + 256 ^ j * c := by
 have h8 := PB (j := j + 1) hj
 have hp := pow_pos j
 rw [SP] at h8
 have h1 : 256 ^ j * c ≤ 256 ^ j * 255 := Int.mul_le_mul_of_nonneg_left (by omega) (by omega)
 have h0 : 0 ≤ 256 ^ j * c := Int.mul_nonneg (by omega) hc.1
 have hP := PC j
 have hb : x + 256 ^ j * c < 18446744073709551616 := by omega
 refine ⟨?_, ?_⟩
 · rw [show Int.ofNat (2 ^ (8 * j)) = 256 ^ j from hP.symm, Int.mul_comm]
   exact K6 h0 (by omega)
 · rw [Te hx.1 (by omega), Te h0 (by omega)]
   have e1 : (256 ^ j * c).toNat = 2 ^ (8 * j) * c.toNat := by
    have : ((256 ^ j * c).toNat : Int) = ((2 ^ (8 * j) * c.toNat : Nat) : Int) := by
     rw [Int.toNat_of_nonneg h0, Int.natCast_mul, ← hP, Int.toNat_of_nonneg hc.1]
    exact Int.ofNat.inj this
   have e2 : x.toNat < 2 ^ (8 * j) := by
    have : (x.toNat : Int) < ((2 ^ (8 * j) : Nat) : Int) := by rw [Int.toNat_of_nonneg hx.1, ← hP]; exact hx.2
    exact Int.ofNat_lt.1 this
   rw [Nat.or_comm, e1, ← Nat.two_pow_add_eq_or_of_lt e2, ← e1]
   have : Int.ofNat ((256 ^ j * c).toNat + x.toNat) = x + 256 ^ j * c := by
    show (((256 ^ j * c).toNat + x.toNat : Nat) : Int) = _
    rw [Int.natCast_add, Int.toNat_of_nonneg h0, Int.toNat_of_nonneg hx.1, Int.add_comm]
   rw [this]
   exact K6 (by omega) hb
abbrev RS := List Int × Bool
def tk (n : Nat) (st : RS) : List Int × RS := if st.2 = true ∨ st.1.length < n then ([], (st.1, true)) else (st.1.take n, (st.1.drop n, false))
def rdN (size : Nat) (most : Int) (st : RS) : Int × RS :=
 if (tk size st).2.2 = true then (0, (tk size st).2)
 else if size < 8 ∧ most < leV (tk size st).1 then (0, ((tk size st).2.1, true))
 else (zE .i64 (leV (tk size st).1), (tk size st).2)
def rdP {α β : Type} (ra : RS → α × RS) (rb : RS → β × RS) (st : RS) : (α × β) × RS := (((ra st).1, (rb (ra st).2).1), (rb (ra st).2).2)
def Wb {α : Type} (rd : RS → α × RS) : Nat → List α → RS → List α × RS
 | 0, l, st => (l, st)
 | n + 1, l, st => if st.2 = true then (l, st) else Wb rd n (l ++ [(rd st).1]) (rd st).2
def rdL {α : Type} (rd : RS → α × RS) (st : RS) : List α × RS := Wb rd (rdN 2 4096 st).1.toNat [] (rdN 2 4096 st).2
structure Vx {α : Type} (rd : RS → α × RS) : Prop where
 suf : ∀ st, ∃ k, (rd st).2.1 = st.1.drop k
 bad : ∀ st, st.2 = true → (rd st).2.2 = true
theorem Nt (n : Nat) (st : RS) : ∃ k, (tk n st).2.1 = st.1.drop k := by
 unfold tk
 split
 · exact ⟨0, rfl⟩
 · exact ⟨n, rfl⟩
theorem Qx (size : Nat) (most : Int) : Vx (rdN size most) := by
 refine ⟨fun st => ?_, fun st h => ?_⟩
 · obtain ⟨k, hk⟩ := Nt size st
   unfold rdN
   split
   · exact ⟨k, hk⟩
   · split
     · exact ⟨k, hk⟩
     · exact ⟨k, hk⟩
 · have : (tk size st).2.2 = true := by unfold tk; rw [if_pos (.inl h)]
   unfold rdN
   rw [if_pos this]
   exact this
theorem Co {α β : Type} {ra : RS → α × RS} {rb : RS → β × RS} (ha : Vx ra) (hb : Vx rb) : Vx (rdP ra rb) := by
 refine ⟨fun st => ?_, fun st h => hb.bad _ (ha.bad _ h)⟩
 obtain ⟨k, hk⟩ := ha.suf st
 obtain ⟨k2, hk2⟩ := hb.suf (ra st).2
 exact ⟨k + k2, by show (rb (ra st).2).2.1 = _; rw [hk2, hk, List.drop_drop]⟩
theorem V7 {α : Type} {rd : RS → α × RS} (h : Vx rd) : ∀ n l st, ∃ k, (Wb rd n l st).2.1 = st.1.drop k
 | 0, l, st => ⟨0, rfl⟩
 | n + 1, l, st => by
  unfold Wb
  split
  · exact ⟨0, rfl⟩
  · obtain ⟨k, hk⟩ := h.suf st
    obtain ⟨k2, hk2⟩ := V7 h n (l ++ [(rd st).1]) (rd st).2
    exact ⟨k + k2, by rw [hk2, hk, List.drop_drop]⟩
theorem Ga {α : Type} {rd : RS → α × RS} : ∀ n l st, st.2 = true → Wb rd n l st = (l, st)
 | 0, l, st, _ => rfl
 | n + 1, l, st, h => by unfold Wb; rw [if_pos h]
theorem NI {α : Type} {rd : RS → α × RS} (h : Vx rd) : Vx (rdL rd) := by
 refine ⟨fun st => ?_, fun st hb => ?_⟩
 · obtain ⟨k, hk⟩ := (Qx 2 4096).suf st
   obtain ⟨k2, hk2⟩ := V7 h (rdN 2 4096 st).1.toNat [] (rdN 2 4096 st).2
   exact ⟨k + k2, by show (Wb rd _ [] _).2.1 = _; rw [hk2, hk, List.drop_drop]⟩
 · have := (Qx 2 4096).bad st hb
   show (Wb rd _ [] _).2.2 = true
   rw [Ga _ _ _ this]
   exact this
theorem Pz {size : Nat} {most : Int} {st : RS} (h : (rdN size most st).2.2 = false) : st.2 = false ∧ size ≤ st.1.length ∧ rdN size most st = (zE .i64 (leV (st.1.take size)), (st.1.drop size, false)) ∧ (size < 8 → leV (st.1.take size) ≤ most) := by
 have hb : st.2 = false := by
  cases hb : st.2 with
  | false => rfl
  | true => rw [(Qx size most).bad st hb] at h; cases h
 by_cases hl : st.1.length < size
 · have : (tk size st).2.2 = true := by unfold tk; rw [if_pos (.inr hl)]
   unfold rdN at h
   rw [if_pos this, this] at h
   cases h
 · have e : tk size st = (st.1.take size, (st.1.drop size, false)) := by
    unfold tk
    rw [if_neg (by rw [hb]; simp; omega)]
   unfold rdN at h ⊢
   rw [e] at h ⊢
   simp only [z3, if_false] at h ⊢
   by_cases hm : size < 8 ∧ most < leV (st.1.take size)
   · rw [if_pos hm] at h
     cases h
   · rw [if_neg hm]
     exact ⟨hb, by omega, rfl, fun h8 => by omega⟩
structure Vz (s : DS) (r : Nat) (bv : Value) (bs : List Int) (bad : Bool) : Prop where
 gr : s.get r = some (.cells (.list [bv, .bool bad]) false)
 wr : s.wr r = true
 sl : SlR s bv bs
 ne : r ∉ blk bv
theorem Vz.keep {s s' : DS} {r : Nat} {bv : Value} {bs : List Int} {bad : Bool} {F : List Nat} (h : Vz s r bv bs bad) (e : Ext F s s') (h1 : r ∉ F) (h2 : ∀ k, k ∈ blk bv → k ∉ F) : Vz s' r bv bs bad :=
 ⟨e.keep h.gr h1, e.wrs h.wr, h.sl.keep e h2, h.ne⟩
structure ML {α : Type} (s : DS) (r : Nat) (bv : Value) (R : Nat → DS → Value → α → Prop) (x : α × RS) (p : Value × DS) : Prop where
 ex : ∃ bv', R s.next p.2 p.1 x.1 ∧ Vz p.2 r bv' x.2.1 x.2.2 ∧ Ext [r] s p.2 ∧ ∀ k, k ∈ blk bv' → k ∈ blk bv
structure Fv {α : Type} (R : Nat → DS → Value → α → Prop) : Prop where
 stab : ∀ (n : Nat) (s s' : DS) v x F, R n s v x → Ext F s s' → (∀ k, k ∈ F → k < n) → R n s' v x
 mono : ∀ (n n' : Nat) (s : DS) v x, R n s v x → n' ≤ n → R n' s v x
def Jj {α : Type} (E : Env) (n : Nat) (f : Value) (D : List (Nat × DObj)) (R : Nat → DS → Value → α → Prop) (rd : RS → α × RS) : Prop :=
 ∀ d s r bv bs bad, Qi s D → (∀ p, p ∈ D → p.1 ≠ r) → Vz s r bv bs bad → IsB bs → bs.length ≤ 1048576 → s.Good → W (dcall E (d + n) f [.pointer (some ⟨r, 0, none⟩)] s) (ML s r bv R (rd (bs, bad)))
theorem Jj.mono {α : Type} {E : Env} {n m : Nat} {f : Value} {D : List (Nat × DObj)} {R : Nat → DS → Value → α → Prop} {rd : RS → α × RS} (h : Jj E n f D R rd) (hm : n ≤ m) : Jj E m f D R rd := fun d s r bv bs bad h1 h2 h3 h4 h5 h6 => by
 have := h (d + (m - n)) s r bv bs bad h1 h2 h3 h4 h5 h6
 rwa [show d + (m - n) + n = d + m by omega] at this
def YT {α : Type} (E : Env) (n : Nat) (m : Nat) (s : DS) (v : Value) (R : Nat → DS → Value → α → Prop) (rd : RS → α × RS) : Prop :=
 ∃ (f : FuncId) (a b : Array Value) (g : FuncId) (a' b' : Array Value) (D : List (Nat × DObj)), v = .agg ⟨[.func (.func f) a b, .func (.func g) a' b']⟩ ∧ Qi s D ∧ (∀ p, p ∈ D → m ≤ p.1 ∧ p.1 < s.next) ∧ Jj E n (.func (.func g) a' b') D R rd
theorem YT.keep {α : Type} {E : Env} {n m : Nat} {s s' : DS} {v : Value} {R : Nat → DS → Value → α → Prop} {rd : RS → α × RS} (h : YT E n m s v R rd) (e : Ext [] s s') : YT E n m s' v R rd := by
 obtain ⟨f, a, b, g, a', b', D, h1, h2, h3, h4⟩ := h
 exact ⟨f, a, b, g, a', b', D, h1, h2.keep e (by simp), fun p hp => ⟨(h3 p hp).1, Nat.lt_of_lt_of_le (h3 p hp).2 e.le⟩, h4⟩
theorem YT.mono {α : Type} {E : Env} {n n' m : Nat} {s : DS} {v : Value} {R : Nat → DS → Value → α → Prop} {rd : RS → α × RS} (h : YT E n m s v R rd) (hm : n ≤ n') : YT E n' m s v R rd := by
 obtain ⟨f, a, b, g, a', b', D, h1, h2, h3, h4⟩ := h
 exact ⟨f, a, b, g, a', b', D, h1, h2, h3, h4.mono hm⟩
theorem SlR.take {s : DS} {v : Value} {r : List Int} (h : SlR s v r) {i : Nat} (hi : i ≤ r.length) : ∃ w, slV 1 v none (some (.int .i64 (i : Int))) none = some w ∧ SlR s w (r.take i) ∧ ∀ k, k ∈ blk w → k ∈ blk v := by
 rcases h with ⟨rfl, rfl⟩ | ⟨b, off, sp, c, rfl, h1, h2, h3⟩
 · obtain rfl : i = 0 := by simpa using hi
   exact ⟨.slice none 0 0, rfl, .inl ⟨rfl, rfl⟩, fun k hk => hk⟩
 · have hl : (r.take i).length = i := by rw [List.length_take]; omega
   refine ⟨.slice (some ⟨b, off + 0 * 1, sp⟩) (i - 0) (c - 0), ?_, .inr ⟨b, off + 0 * 1, sp, c - 0, by rw [hl]; rfl, h1, by rw [hl]; omega, ?_⟩, fun k hk => by simpa [blk] using hk⟩
   · unfold slV Z6
     have hic : i ≤ c := by omega
     simp only [zD, Nat.ble_eq.mpr hic, if_true, Option.isSome_none]
     rcases h1 with rfl | rfl
     · rfl
     · simp only [Yh, z3, if_false, Nat.beq_refl, if_true]
   · unfold DS.read at h3 ⊢
     split at h3
     · obtain ⟨_, h4⟩ := Q4 h3
       refine JR (by simp [u8s]) fun j hj => ?_
       rw [hl] at hj
       rw [show off + 0 * 1 + j = off + j by omega, h4 j (by omega)]
       unfold u8s
       rw [List.getElem?_map, List.getElem?_map, List.getElem?_take, if_pos hj]
     · cases h3
end Go.Dx
set_option maxRecDepth 100000
namespace Go.Dx
open Go
theorem Tm {l l' : List Value} (hl : l.length = l'.length) (h : ∀ i, i < l.length → getN l i = getN l' i) : l = l' := by
 refine List.ext_getElem? fun i => ?_
 rw [← Zs, ← Zs]
 by_cases c : i < l.length
 · exact h i c
 · rw [Zs, Zs, List.getElem?_eq_none (by omega), List.getElem?_eq_none (by omega)]
theorem PH {l : List Value} {o n i : Nat} (h : i < n) : nAt (cut o n l) i = nAt l (o + i) := by unfold nAt; rw [Jc h]
theorem Gi {lq lq' : List Value} {o o' : Nat} (h : ∀ i, i < 64 → nAt lq (o + i) = nAt lq' (o' + i)) : ∀ j, j ≤ 16 → mF lq o j = mF lq' o' j
 | 0, _ => rfl
 | j + 1, hj => by
  show Zj _ _ _ = Zj _ _ _
  rw [Gi h j (by omega)]
  unfold Nj
  have e0 := h (4 * j) (by omega)
  have e1 := h (4 * j + 1) (by omega)
  have e2 := h (4 * j + 2) (by omega)
  have e3 := h (4 * j + 3) (by omega)
  simp only [← Nat.add_assoc] at e0 e1 e2 e3 ⊢
  rw [e0, e1, e2, e3]
theorem P3 {l : List Value} {j : Nat} {v : Value} : cut 0 8 (Zj l j v) = Zj (cut 0 8 l) j v := by
 unfold cut
 rw [List.drop_zero, List.drop_zero, Wy, Wy, List.take_set]
theorem GC {l : List Value} {j : Nat} {v : Value} (h : 8 ≤ j) : cut 0 8 (Zj l j v) = cut 0 8 l := by
 unfold cut
 rw [List.drop_zero, List.drop_zero, Wy, List.take_set_of_le (by omega)]
theorem P4 {l : List Value} : cut 0 8 (cut 0 8 l) = cut 0 8 l := by
 unfold cut
 simp only [List.drop_zero]
 rw [List.take_take, Nat.min_self]
theorem To {lp v : List Value} : ∀ j, j ≤ 8 → cut 0 8 (Jx lp v j) = Jx (cut 0 8 lp) v j
 | 0, _ => rfl
 | j + 1, hj => by
  show cut 0 8 (Zj _ _ _) = Zj _ _ _
  rw [P3, To j (by omega), PH (by omega), Nat.zero_add]
theorem Nr {lp : List Value} {t : Int} {last : Bool} : v0F (cut 0 8 lp) t last = v0F lp t last := by
 have h : vbF (cut 0 8 lp) = vbF lp := by unfold vbF; rw [P4]
 unfold v0F v1F
 rw [h]
theorem RG {lp lq lq' : List Value} {o o' : Nat} {t : Int} {last : Bool} (h : ∀ i, i < 64 → nAt lq (o + i) = nAt lq' (o' + i)) : cut 0 8 (Xo lp lq o t last) = Xo (cut 0 8 lp) lq' o' t last := by
 unfold Xo
 rw [To 8 (Nat.le_refl _), Nr, Gi h 16 (Nat.le_refl _)]
theorem T9 {lp lq lq' : List Value} {o o' : Nat} {t : Int} {last : Bool} (h : ∀ i, i < 64 → nAt lq (o + i) = nAt lq' (o' + i)) : Xo lp lq o t last = Xo lp lq' o' t last := by
 unfold Xo
 rw [Gi h 16 (Nat.le_refl _)]
section
variable {H : List Value} (h : HOk H 0) (m : List Int)
include h
theorem FG {i : Nat} (hi : i < 8 ∨ i = 73) : getN (Xv H m) i = getN H i := by
 unfold Xv
 rw [ZU, if_neg (by omega)]
 exact VF h m (by omega)
theorem C4 : cut 0 8 (Xv H m) = cut 0 8 H := by
 have h2 := h.put m
 refine Tm (by rw [Jr (by rw [h2.len]; omega), Jr (by rw [h.len]; omega)]) fun i hi => ?_
 rw [Jr (by rw [h2.len]; omega)] at hi
 rw [Jc hi, Jc hi, FG h m (by omega)]
theorem C5 {i : Nat} (hi : i < 64) (him : i < m.length) : getN (Xv H m) (8 + i) = getN (u8s m) i := by
 have hl := h.len
 have hpl := put_len h m
 have hul : (u8s m).length = m.length := List.length_map ..
 unfold Xv
 rw [ZU, if_neg (by omega)]
 rw [h.cnt] at hpl ⊢
 have hl1 : (H.take (8 + 0)).length = 8 := by rw [List.length_take, hl]; omega
 have hl2 : ((u8s m).take (min (64 - 0) (u8s m).length)).length = min 64 m.length := by rw [List.length_take, hul]; omega
 rw [Xm (by rw [hl1]; omega), hl1, Xn (by rw [hl2]; omega), Zs, List.getElem?_take, if_pos (by rw [hul]; omega), ← Zs, show 8 + i - 8 = i by omega]
theorem CC {x : Int} (h0 : 0 ≤ x) (h1 : x < 18446744073709551616) : zE .u64 x = x := by
 obtain ⟨n, rfl⟩ := Int.eq_ofNat_of_zero_le h0
 show Int.ofNat (n % 18446744073709551616) = _
 rw [Nat.mod_eq_of_lt (by omega)]; rfl
theorem RW {f : Nat} (hf : m.length ≤ f + 1) (hm : 64 < m.length) : ∃ H2, HOk H2 0 ∧ Jt (f + 1) H m = Jt f H2 (m.drop 64) ∧ (nAt H 73 = 0 + nAt H 73 → cut 0 8 H2 = Xo (cut 0 8 H) (u8s m) 0 (zE .u64 (nAt H 73 + 64)) false) ∧ nAt H2 73 = zE .u64 (nAt H 73 + 64) := by
 have hc := h.cnt
 have hF : Z7 H = H := by unfold Z7; rw [hc, if_neg (by omega)]
 have h1 := h.put m
 rw [show 0 + min (64 - 0) m.length = 64 by omega] at h1
 have hc1 := h1.cnt
 have hF1 : Z7 (Xv H m) = Wo (Xv H m) := by unfold Z7; rw [hc1, if_pos rfl]
 have h2 := h1.flush
 have hc2 := h2.cnt
 have hF2 : Z7 (Wo (Xv H m)) = Wo (Xv H m) := by unfold Z7; rw [hc2, if_neg (by omega)]
 have hn1 : nAt (Xv H m) 73 = nAt H 73 := by unfold nAt; rw [FG h m (.inr rfl)]
 refine ⟨Wo (Xv H m), h2, ?_, fun _ => ?_, ?_⟩
 · cases m with
   | nil => simp at hm
   | cons x r =>
    show Jt f (Xv (Z7 H) (x :: r)) ((x :: r).drop (min (64 - nOf (Z7 H)) (x :: r).length)) = _
    rw [hF, hc, show min (64 - 0) (x :: r).length = 64 by omega]
    cases f with
    | zero => exfalso; omega
    | succ f =>
     cases hr : (x :: r).drop 64 with
     | nil => have := congrArg List.length hr; rw [List.length_drop] at this; simp at this hm; omega
     | cons y r' =>
      show Jt f (Xv (Z7 (Xv H (x :: r))) (y :: r')) ((y :: r').drop (min (64 - nOf (Z7 (Xv H (x :: r)))) (y :: r').length)) = Jt f (Xv (Z7 (Wo (Xv H (x :: r)))) (y :: r')) ((y :: r').drop (min (64 - nOf (Z7 (Wo (Xv H (x :: r))))) (y :: r').length))
      rw [hF1, hF2]
 · unfold Wo
   rw [GC (by omega), RG (lq' := u8s m) (o' := 0) (fun i hi => ?_), GC (by omega), C4 h m, hn1]
   unfold nAt
   rw [ZU, if_neg (by omega), C5 h m hi (by omega), Nat.zero_add]
 · have hl : (Xv H m).length = 74 := h1.len
   have : getN (Wo (Xv H m)) 73 = some (.int .u64 (zE .u64 (nAt (Xv H m) 73 + 64))) := by
    unfold Wo
    rw [ZU, if_neg (by omega), VR (by omega), ZU, if_pos ⟨rfl, by rw [hl]; decide⟩]
   show TO (getN _ 73) = _
   rw [this, hn1]
   rfl
theorem RX {f : Nat} (hm : m ≠ []) (hm2 : m.length ≤ 64) (ha : 0 ≤ nAt H 73) (hb : nAt H 73 < 1000000000) : FX (Jt (f + 1) H m) = Q7 (Xo (cut 0 8 H) (u8s m ++ Za .u8 (64 - m.length)) 0 (zE .u64 (nAt H 73 + (m.length : Int))) true) 8 := by
 have hc := h.cnt
 have hF : Z7 H = H := by unfold Z7; rw [hc, if_neg (by omega)]
 have h1 := h.put m
 rw [show 0 + min (64 - 0) m.length = m.length by omega] at h1
 have hc1 := h1.cnt
 have hn1 : nAt (Xv H m) 73 = nAt H 73 := by unfold nAt; rw [FG h m (.inr rfl)]
 have hnil : ∀ f H, Jt f H [] = H := fun f H => by cases f <;> rfl
 have e : Jt (f + 1) H m = Xv H m := by
  cases m with
  | nil => exact absurd rfl hm
  | cons x r =>
   show Jt f (Xv (Z7 H) (x :: r)) ((x :: r).drop (min (64 - nOf (Z7 H)) (x :: r).length)) = _
   rw [hF, hc, List.drop_of_length_le (by omega), hnil]
 have hul : (u8s m).length = m.length := List.length_map ..
 have hcut : cut 8 m.length (Xv H m) = u8s m := by
  have hl := Jr (o := 8) (n := m.length) (l := Xv H m) (by rw [h1.len]; omega)
  refine Tm (by rw [hl, hul]) fun i hi => ?_
  rw [hl] at hi
  rw [Jc hi, C5 h m (by omega) hi]
 have hblk : CK (Xv H m) m.length = u8s m ++ Za .u8 (64 - m.length) := by
  unfold CK
  rw [hcut, hul, List.take_zero, List.nil_append, show min (64 - 0) m.length = m.length by omega, List.take_of_length_le (by omega), Nat.zero_add]
  unfold Za
  rw [List.drop_replicate]
 rw [e]
 unfold FX
 rw [hc1, hblk, C4 h m, hn1, CC h (x := ((m.length : Nat) : Int)) (by omega) (by omega)]
end
theorem Mg (bs : List Int) (hb : bs.length ≤ 500000) : ∀ (n k f : Nat) (H : List Value), HOk H 0 → cut 0 8 H = hAt bs k → nAt H 73 = ((64 * k : Nat) : Int) → 64 * k < bs.length → n = bs.length - 64 * k → n ≤ f → FX (Jt f H (bs.drop (64 * k))) = Q7 (rsF bs) 8 := by
 intro n
 induction n using Nat.strongRecOn with
 | _ n ih =>
  intro k f H hH hc hn hk hnn hf
  have hdl : (bs.drop (64 * k)).length = n := by rw [List.length_drop, hnn]
  cases f with
  | zero => omega
  | succ f =>
   by_cases c : 64 < n
   · obtain ⟨H2, h2, e, e2, e3⟩ := RW hH (bs.drop (64 * k)) (f := f) (by omega) (by omega)
     rw [e, List.drop_drop]
     have w : zE .u64 (nAt H 73 + 64) = ((64 * (k + 1) : Nat) : Int) := by rw [hn, CC hH (by omega) (by omega)]; omega
     refine ih (n - 64) (by omega) (k + 1) f H2 h2 ?_ (by rw [e3, w]) (by omega) (by omega) (by omega)
     rw [e2 (by omega), hc]
     show _ = Xo (hAt bs k) (u8s bs) (64 * k) (zE .u64 ((64 * (k + 1) : Nat) : Int)) false
     rw [w, CC hH (x := ((64 * (k + 1) : Nat) : Int)) (by omega) (by omega)]
     refine T9 fun i hi => ?_
     unfold nAt u8s
     rw [Zs, Zs, List.getElem?_map, List.getElem?_map, List.getElem?_drop, Nat.zero_add]
   · have hk2 : k = (bs.length - 1) / 64 := by omega
     rw [RX hH (bs.drop (64 * k)) (by intro e; rw [e] at hdl; simp at hdl; omega) (by omega) (by omega) (by omega), hc, hdl]
     unfold rsF Rg
     rw [← hk2, hnn, hn, show ((64 * k : Nat) : Int) + ((bs.length - 64 * k : Nat) : Int) = (bs.length : Int) by omega]
theorem NC {bs : List Int} (h0 : bs ≠ []) (hb : bs.length ≤ 500000) : Q7 (rsF bs) 8 = JC [bs] := by
 have hp : 0 < bs.length := List.length_pos_iff.2 h0
 have := Mg bs hb bs.length 0 bs.length h0L No (by rw [← NG]; rfl) rfl (by omega) (by omega) (Nat.le_refl _)
 rw [← this]
 rfl
end Go.Dx
namespace Go.Dx
open Go Go.Dx.St
theorem Tf (x : Int) (i : Nat) : leI x i = ((low .u64 x / 256 ^ i % 256 : Nat) : Int) := by
 have h1 : zE .u64 x = ((low .u64 x : Nat) : Int) := rfl
 unfold leI
 rw [Rw, h1, show Int.ofNat (2 ^ (8 * i)) = ((256 ^ i : Nat) : Int) by rw [Nat.pow_mul]; rfl, Int.fdiv_eq_ediv_of_nonneg _ (Int.natCast_nonneg _), ← Int.natCast_ediv]
 omega
theorem VK (x : Int) (n : Nat) : IsB (leB x n) := fun b hb => by
 unfold leB at hb
 obtain ⟨i, _, rfl⟩ := List.mem_map.1 hb
 rw [Tf]
 omega
theorem FS (x : Int) : ∀ n, leV (leB x n) = ((low .u64 x % 256 ^ n : Nat) : Int)
 | 0 => by show (0 : Int) = _; rw [Nat.pow_zero, Nat.mod_one]; rfl
 | n + 1 => by
  rw [KE, Gm, Z3, FS x n, Tf, show (256 : Int) ^ n = ((256 ^ n : Nat) : Int) by rw [Int.natCast_pow]; rfl, ← Int.natCast_mul, ← Int.natCast_add, ← Nat.mod_mul, ← Nat.pow_succ]
theorem Rc (x : Int) : low .u64 x < 18446744073709551616 := by
 cases x with
 | ofNat m => show m % 18446744073709551616 < _; omega
 | negSucc m => show 18446744073709551616 - 1 - m % 18446744073709551616 < _; omega
theorem Sq {n : Nat} {l rest : List Int} (h : l.length = n) : tk n (l ++ rest, false) = (l, (rest, false)) := by
 unfold tk
 rw [if_neg (by simp; omega)]
 simp [← h]
theorem C1 {x : Int} {rest : List Int} (hx : I64 x) : rdN 8 0 (leB x 8 ++ rest, false) = (x, (rest, false)) := by
 unfold rdN
 rw [Sq (Z3 x 8)]
 simp only [z3, if_false, Nat.lt_irrefl, false_and]
 rw [FS, show (256 : Nat) ^ 8 = 18446744073709551616 from rfl, Nat.mod_eq_of_lt (Rc x)]
 have h1 : ((low .u64 x : Nat) : Int) = zE .u64 x := rfl
 have h2 : zE .i64 (zE .u64 x) = zE .i64 x := by
  rw [Yc, Yc, Yc]
  simp [IntKind.wrap, IntKind.bits, IntKind.signed]
 rw [h1, h2, zR hx.1 (by have := hx.2; omega)]
theorem Dp {x most : Int} {rest : List Int} (h0 : 0 ≤ x) (h1 : x ≤ most) (h2 : most ≤ 65535) : rdN 2 most (leB x 2 ++ rest, false) = (x, (rest, false)) := by
 obtain ⟨n, rfl⟩ := Int.eq_ofNat_of_zero_le h0
 have hl : low .u64 ((n : Nat) : Int) = n := by show n % 18446744073709551616 = n; omega
 have hv : leV (leB ((n : Nat) : Int) 2) = ((n : Nat) : Int) := by rw [FS, hl, Nat.mod_eq_of_lt (by show n < 65536; omega)]
 unfold rdN
 rw [Sq (Z3 _ 2)]
 simp only [z3, if_false]
 rw [hv, if_neg (by omega), zR (by omega) (by omega)]
theorem V9 {α : Type} {rd : RS → α × RS} {e : α → List Int} : ∀ {xs : List α}, (∀ x, x ∈ xs → ∀ rest, rd (e x ++ rest, false) = (x, (rest, false))) → ∀ (l : List α) (rest : List Int), Wb rd xs.length l (xs.flatMap e ++ rest, false) = (l ++ xs, (rest, false))
 | [], _, l, rest => by show (l, _) = _; simp
 | x :: xs, h, l, rest => by
  show Wb rd (xs.length + 1) l _ = _
  unfold Wb
  rw [if_neg (by simp), List.flatMap_cons, List.append_assoc, h x (List.mem_cons_self ..), V9 fun y hy => h y (List.mem_cons_of_mem _ hy)]
  simp
theorem PA {α : Type} {rd : RS → α × RS} {e : α → List Int} {xs : List α} {rest : List Int} (hl : xs.length ≤ 4096) (h : ∀ x, x ∈ xs → ∀ rest, rd (e x ++ rest, false) = (x, (rest, false))) : rdL rd (leB (xs.length : Int) 2 ++ xs.flatMap e ++ rest, false) = (xs, (rest, false)) := by
 unfold rdL
 rw [List.append_assoc, Dp (by omega) (by omega) (by omega)]
 show Wb rd xs.length [] _ = _
 rw [V9 h, List.nil_append]
def Cd (L : List Ent) : Prop := ∀ x, x ∈ L → I64 x.1 ∧ I64 x.2
theorem C6 {L : List Ent} {k v : Int} {P : Ent → Prop} (h : ∀ x, x ∈ L → P x) (hk : P (k, v)) : ∀ x, x ∈ Qf k v L → P x := fun x hx => by
 unfold Qf at hx
 split at hx
 · rcases List.mem_or_eq_of_mem_set hx with h1 | rfl
   · exact h x h1
   · exact hk
 · rcases TT.1 hx with h1 | rfl
   · exact h x h1
   · exact hk
theorem P0 {L : List Ent} {k room : Int} (hr : XZ L) (hl : (L.length : Int) ≤ room) (h : Cd L) : XZ (WY k L) ∧ ((WY k L).length : Int) ≤ room ∧ Cd (WY k L) := by
 refine ⟨V3 hr k, ?_, fun x hx => h x (PZ hr k hx).1⟩
 have hdl := St.del_len (L := L) k
 split at hdl <;> omega
end Go.Dx
