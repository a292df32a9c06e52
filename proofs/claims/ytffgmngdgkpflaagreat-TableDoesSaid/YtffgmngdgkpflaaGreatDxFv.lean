/- A part. -/
import Derived.Test.YtffgmngdgkpflaaGreatDxBk
import Derived.Test.YtffgmngdgkpflaaGreatDxOut
import Derived.Test.YtffgmngdgkpflaaGreatDxC
import Derived.Test.YtffgmngdgkpflaaGreatDxIn
set_option maxRecDepth 100000
set_option linter.unusedVariables false
set_option linter.unusedSimpArgs false
set_option linter.unusedSectionVars false
namespace Go.Dx
open Go
theorem SG {l l' : List Value} (hl : l.length = l'.length) (h : ∀ i, i < l.length → getN l i = getN l' i) : l = l' := by
 refine List.ext_getElem? fun i => ?_
 rw [← zw, ← zw]
 by_cases c : i < l.length
 · exact h i c
 · rw [zw, zw, List.getElem?_eq_none (by omega), List.getElem?_eq_none (by omega)]
theorem MD {l : List Value} {o n i : Nat} (h : i < n) : nAt (cut o n l) i = nAt l (o + i) := by unfold nAt; rw [W8 h]
theorem Gc {lq lq' : List Value} {o o' : Nat} (h : ∀ i, i < 64 → nAt lq (o + i) = nAt lq' (o' + i)) : ∀ j, j ≤ 16 → mF lq o j = mF lq' o' j
 | 0, _ => rfl
 | j + 1, hj => by
  show zk _ _ _ = zk _ _ _
  rw [Gc h j (by omega)]
  unfold M8
  have e0 := h (4 * j) (by omega)
  have e1 := h (4 * j + 1) (by omega)
  have e2 := h (4 * j + 2) (by omega)
  have e3 := h (4 * j + 3) (by omega)
  simp only [← Nat.add_assoc] at e0 e1 e2 e3 ⊢
  rw [e0, e1, e2, e3]
theorem MV {l : List Value} {j : Nat} {v : Value} : cut 0 8 (zk l j v) = zk (cut 0 8 l) j v := by
 unfold cut
 rw [List.drop_zero, List.drop_zero, Wf, Wf, List.take_set]
theorem Gy {l : List Value} {j : Nat} {v : Value} (h : 8 ≤ j) : cut 0 8 (zk l j v) = cut 0 8 l := by
 unfold cut
 rw [List.drop_zero, List.drop_zero, Wf, List.take_set_of_le (by omega)]
theorem MW {l : List Value} : cut 0 8 (cut 0 8 l) = cut 0 8 l := by
 unfold cut
 simp only [List.drop_zero]
 rw [List.take_take, Nat.min_self]
theorem SJ {lp v : List Value} : ∀ j, j ≤ 8 → cut 0 8 (QF lp v j) = QF (cut 0 8 lp) v j
 | 0, _ => rfl
 | j + 1, hj => by
  show cut 0 8 (zk _ _ _) = zk _ _ _
  rw [MV, SJ j (by omega), MD (by omega), Nat.zero_add]
theorem LF {lp : List Value} {t : Int} {last : Bool} : v0F (cut 0 8 lp) t last = v0F lp t last := by
 have h : vbF (cut 0 8 lp) = vbF lp := by unfold vbF; rw [MW]
 unfold v0F v1F
 rw [h]
theorem NE {lp lq lq' : List Value} {o o' : Nat} {t : Int} {last : Bool} (h : ∀ i, i < 64 → nAt lq (o + i) = nAt lq' (o' + i)) : cut 0 8 (Yj lp lq o t last) = Yj (cut 0 8 lp) lq' o' t last := by
 unfold Yj
 rw [SJ 8 (Nat.le_refl _), LF, Gc h 16 (Nat.le_refl _)]
theorem RV {lp lq lq' : List Value} {o o' : Nat} {t : Int} {last : Bool} (h : ∀ i, i < 64 → nAt lq (o + i) = nAt lq' (o' + i)) : Yj lp lq o t last = Yj lp lq' o' t last := by
 unfold Yj
 rw [Gc h 16 (Nat.le_refl _)]
section
variable {H : List Value} (h : HOk H 0) (m : List Int)
include h
theorem F6 {i : Nat} (hi : i < 8 ∨ i = 73) : getN (Yr H m) i = getN H i := by
 unfold Yr
 rw [zZ, if_neg (by omega)]
 exact Vt h m (by omega)
theorem Sj : cut 0 8 (Yr H m) = cut 0 8 H := by
 have h2 := h.put m
 refine SG (by rw [Qw (by rw [h2.len]; omega), Qw (by rw [h.len]; omega)]) fun i hi => ?_
 rw [Qw (by rw [h2.len]; omega)] at hi
 rw [W8 hi, W8 hi, F6 h m (by omega)]
theorem Sk {i : Nat} (hi : i < 64) (him : i < m.length) : getN (Yr H m) (8 + i) = getN (u8s m) i := by
 have hl := h.len
 have hpl := F7 h m
 have hul : (u8s m).length = m.length := List.length_map ..
 unfold Yr
 rw [zZ, if_neg (by omega)]
 rw [h.cnt] at hpl ⊢
 have hl1 : (H.take (8 + 0)).length = 8 := by rw [List.length_take, hl]; omega
 have hl2 : ((u8s m).take (min (64 - 0) (u8s m).length)).length = min 64 m.length := by rw [List.length_take, hul]; omega
 rw [Yi (by rw [hl1]; omega), hl1, YH (by rw [hl2]; omega), zw, List.getElem?_take, if_pos (by rw [hul]; omega), ← zw, show 8 + i - 8 = i by omega]
theorem TG {x : Int} (h0 : 0 ≤ x) (h1 : x < 18446744073709551616) : zf .u64 x = x := by
 obtain ⟨n, rfl⟩ := Int.eq_ofNat_of_zero_le h0
 show Int.ofNat (n % 18446744073709551616) = _
 rw [Nat.mod_eq_of_lt (by omega)]; rfl
theorem NY {f : Nat} (hf : m.length ≤ f + 1) (hm : 64 < m.length) : ∃ H2, HOk H2 0 ∧ QB (f + 1) H m = QB f H2 (m.drop 64) ∧ (nAt H 73 = 0 + nAt H 73 → cut 0 8 H2 = Yj (cut 0 8 H) (u8s m) 0 (zf .u64 (nAt H 73 + 64)) false) ∧ nAt H2 73 = zf .u64 (nAt H 73 + 64) := by
 have hc := h.cnt
 have hF : Za H = H := by unfold Za; rw [hc, if_neg (by omega)]
 have h1 := h.put m
 rw [show 0 + min (64 - 0) m.length = 64 by omega] at h1
 have hc1 := h1.cnt
 have hF1 : Za (Yr H m) = YI (Yr H m) := by unfold Za; rw [hc1, if_pos rfl]
 have h2 := h1.flush
 have hc2 := h2.cnt
 have hF2 : Za (YI (Yr H m)) = YI (Yr H m) := by unfold Za; rw [hc2, if_neg (by omega)]
 have hn1 : nAt (Yr H m) 73 = nAt H 73 := by unfold nAt; rw [F6 h m (.inr rfl)]
 refine ⟨YI (Yr H m), h2, ?_, fun _ => ?_, ?_⟩
 · cases m with
   | nil => simp at hm
   | cons x r =>
    show QB f (Yr (Za H) (x :: r)) ((x :: r).drop (min (64 - nOf (Za H)) (x :: r).length)) = _
    rw [hF, hc, show min (64 - 0) (x :: r).length = 64 by omega]
    cases f with
    | zero => exfalso; omega
    | succ f =>
     cases hr : (x :: r).drop 64 with
     | nil => have := congrArg List.length hr; rw [List.length_drop] at this; simp at this hm; omega
     | cons y r' =>
      show QB f (Yr (Za (Yr H (x :: r))) (y :: r')) ((y :: r').drop (min (64 - nOf (Za (Yr H (x :: r)))) (y :: r').length)) = QB f (Yr (Za (YI (Yr H (x :: r)))) (y :: r')) ((y :: r').drop (min (64 - nOf (Za (YI (Yr H (x :: r))))) (y :: r').length))
      rw [hF1, hF2]
 · unfold YI
   rw [Gy (by omega), NE (lq' := u8s m) (o' := 0) (fun i hi => ?_), Gy (by omega), Sj h m, hn1]
   unfold nAt
   rw [zZ, if_neg (by omega), Sk h m hi (by omega), Nat.zero_add]
 · have hl : (Yr H m).length = 74 := h1.len
   have : getN (YI (Yr H m)) 73 = some (.int .u64 (zf .u64 (nAt (Yr H m) 73 + 64))) := by
    unfold YI
    rw [zZ, if_neg (by omega), VE (by omega), zZ, if_pos ⟨rfl, by rw [hl]; decide⟩]
   show Hz (getN _ 73) = _
   rw [this, hn1]
   rfl
theorem NZ {f : Nat} (hm : m ≠ []) (hm2 : m.length ≤ 64) (ha : 0 ≤ nAt H 73) (hb : nAt H 73 < 1000000000) : Dn (QB (f + 1) H m) = W0 (Yj (cut 0 8 H) (u8s m ++ zq .u8 (64 - m.length)) 0 (zf .u64 (nAt H 73 + (m.length : Int))) true) 8 := by
 have hc := h.cnt
 have hF : Za H = H := by unfold Za; rw [hc, if_neg (by omega)]
 have h1 := h.put m
 rw [show 0 + min (64 - 0) m.length = m.length by omega] at h1
 have hc1 := h1.cnt
 have hn1 : nAt (Yr H m) 73 = nAt H 73 := by unfold nAt; rw [F6 h m (.inr rfl)]
 have hnil : ∀ f H, QB f H [] = H := fun f H => by cases f <;> rfl
 have e : QB (f + 1) H m = Yr H m := by
  cases m with
  | nil => exact absurd rfl hm
  | cons x r =>
   show QB f (Yr (Za H) (x :: r)) ((x :: r).drop (min (64 - nOf (Za H)) (x :: r).length)) = _
   rw [hF, hc, List.drop_of_length_le (by omega), hnil]
 have hul : (u8s m).length = m.length := List.length_map ..
 have hcut : cut 8 m.length (Yr H m) = u8s m := by
  have hl := Qw (o := 8) (n := m.length) (l := Yr H m) (by rw [h1.len]; omega)
  refine SG (by rw [hl, hul]) fun i hi => ?_
  rw [hl] at hi
  rw [W8 hi, Sk h m (by omega) hi]
 have hblk : TP (Yr H m) m.length = u8s m ++ zq .u8 (64 - m.length) := by
  unfold TP
  rw [hcut, hul, List.take_zero, List.nil_append, show min (64 - 0) m.length = m.length by omega, List.take_of_length_le (by omega), Nat.zero_add]
  unfold zq
  rw [List.drop_replicate]
 rw [e]
 unfold Dn
 rw [hc1, hblk, Sj h m, hn1, TG h (x := ((m.length : Nat) : Int)) (by omega) (by omega)]
end
theorem Hq (bs : List Int) (hb : bs.length ≤ 500000) : ∀ (n k f : Nat) (H : List Value), HOk H 0 → cut 0 8 H = hAt bs k → nAt H 73 = ((64 * k : Nat) : Int) → 64 * k < bs.length → n = bs.length - 64 * k → n ≤ f → Dn (QB f H (bs.drop (64 * k))) = W0 (rsF bs) 8 := by
 intro n
 induction n using Nat.strongRecOn with
 | _ n ih =>
  intro k f H hH hc hn hk hnn hf
  have hdl : (bs.drop (64 * k)).length = n := by rw [List.length_drop, hnn]
  cases f with
  | zero => omega
  | succ f =>
   by_cases c : 64 < n
   · obtain ⟨H2, h2, e, e2, e3⟩ := NY hH (bs.drop (64 * k)) (f := f) (by omega) (by omega)
     rw [e, List.drop_drop]
     have w : zf .u64 (nAt H 73 + 64) = ((64 * (k + 1) : Nat) : Int) := by rw [hn, TG hH (by omega) (by omega)]; omega
     refine ih (n - 64) (by omega) (k + 1) f H2 h2 ?_ (by rw [e3, w]) (by omega) (by omega) (by omega)
     rw [e2 (by omega), hc]
     show _ = Yj (hAt bs k) (u8s bs) (64 * k) (zf .u64 ((64 * (k + 1) : Nat) : Int)) false
     rw [w, TG hH (x := ((64 * (k + 1) : Nat) : Int)) (by omega) (by omega)]
     refine RV fun i hi => ?_
     unfold nAt u8s
     rw [zw, zw, List.getElem?_map, List.getElem?_map, List.getElem?_drop, Nat.zero_add]
   · have hk2 : k = (bs.length - 1) / 64 := by omega
     rw [NZ hH (bs.drop (64 * k)) (by intro e; rw [e] at hdl; simp at hdl; omega) (by omega) (by omega) (by omega), hc, hdl]
     unfold rsF Nc
     rw [← hk2, hnn, hn, show ((64 * k : Nat) : Int) + ((bs.length - 64 * k : Nat) : Int) = (bs.length : Int) by omega]
theorem LN {bs : List Int} (h0 : bs ≠ []) (hb : bs.length ≤ 500000) : W0 (rsF bs) 8 = QN [bs] := by
 have hp : 0 < bs.length := List.length_pos_iff.2 h0
 have := Hq bs hb bs.length 0 bs.length h0L Lh (by rw [← LO]; rfl) rfl (by omega) (by omega) (Nat.le_refl _)
 rw [← this]
 rfl
end Go.Dx
namespace Go.Dx.St
open Go Go.Dx Go.Dx.Search
def I64 (n : Int) : Prop := -9223372036854775808 ≤ n ∧ n ≤ 9223372036854775807
end Go.Dx.St
namespace Go.Dx
open Go Go.Dx.St
theorem Sy (x : Int) (i : Nat) : leI x i = ((low .u64 x / 256 ^ i % 256 : Nat) : Int) := by
 have h1 : zf .u64 x = ((low .u64 x : Nat) : Int) := rfl
 unfold leI
 rw [Cx, h1, show Int.ofNat (2 ^ (8 * i)) = ((256 ^ i : Nat) : Int) by rw [Nat.pow_mul]; rfl, Int.fdiv_eq_ediv_of_nonneg _ (Int.natCast_nonneg _), ← Int.natCast_ediv]
 omega
theorem Jn (x : Int) (n : Nat) : IsB (leB x n) := fun b hb => by
 unfold leB at hb
 obtain ⟨i, _, rfl⟩ := List.mem_map.1 hb
 rw [Sy]
 omega
theorem Vy (x : Int) : ∀ n, leV (leB x n) = ((low .u64 x % 256 ^ n : Nat) : Int)
 | 0 => by show (0 : Int) = _; rw [Nat.pow_zero, Nat.mod_one]; rfl
 | n + 1 => by
  rw [Ke, Gh, zB, Vy x n, Sy, show (256 : Int) ^ n = ((256 ^ n : Nat) : Int) by rw [Int.natCast_pow]; rfl, ← Int.natCast_mul, ← Int.natCast_add, ← Nat.mod_mul, ← Nat.pow_succ]
theorem P5 (x : Int) : low .u64 x < 18446744073709551616 := by
 cases x with
 | ofNat m => show m % 18446744073709551616 < _; omega
 | negSucc m => show 18446744073709551616 - 1 - m % 18446744073709551616 < _; omega
theorem FY {n : Nat} {l rest : List Int} (h : l.length = n) : tk n (l ++ rest, false) = (l, (rest, false)) := by
 unfold tk
 rw [if_neg (by simp; omega)]
 simp [← h]
theorem Vr {x : Int} {rest : List Int} (hx : I64 x) : rdN 8 0 (leB x 8 ++ rest, false) = (x, (rest, false)) := by
 unfold rdN
 rw [FY (zB x 8)]
 simp only [z3, if_false, Nat.lt_irrefl, false_and]
 rw [Vy, show (256 : Nat) ^ 8 = 18446744073709551616 from rfl, Nat.mod_eq_of_lt (P5 x)]
 have h1 : ((low .u64 x : Nat) : Int) = zf .u64 x := rfl
 have h2 : zf .i64 (zf .u64 x) = zf .i64 x := by
  rw [Zh, Zh, Zh]
  simp [IntKind.wrap, IntKind.bits, IntKind.signed]
 rw [h1, h2, zi hx.1 (by have := hx.2; omega)]
theorem PM {x most : Int} {rest : List Int} (h0 : 0 ≤ x) (h1 : x ≤ most) (h2 : most ≤ 65535) : rdN 2 most (leB x 2 ++ rest, false) = (x, (rest, false)) := by
 obtain ⟨n, rfl⟩ := Int.eq_ofNat_of_zero_le h0
 have hl : low .u64 ((n : Nat) : Int) = n := by show n % 18446744073709551616 = n; omega
 have hv : leV (leB ((n : Nat) : Int) 2) = ((n : Nat) : Int) := by rw [Vy, hl, Nat.mod_eq_of_lt (by show n < 65536; omega)]
 unfold rdN
 rw [FY (zB _ 2)]
 simp only [z3, if_false]
 rw [hv, if_neg (by omega), zi (by omega) (by omega)]
theorem V1 {α : Type} {rd : RS → α × RS} {e : α → List Int} : ∀ {xs : List α}, (∀ x, x ∈ xs → ∀ rest, rd (e x ++ rest, false) = (x, (rest, false))) → ∀ (l : List α) (rest : List Int), Ze rd xs.length l (xs.flatMap e ++ rest, false) = (l ++ xs, (rest, false))
 | [], _, l, rest => by show (l, _) = _; simp
 | x :: xs, h, l, rest => by
  show Ze rd (xs.length + 1) l _ = _
  unfold Ze
  rw [if_neg (by simp), List.flatMap_cons, List.append_assoc, h x (List.mem_cons_self ..), V1 fun y hy => h y (List.mem_cons_of_mem _ hy)]
  simp
theorem Mx {α : Type} {rd : RS → α × RS} {e : α → List Int} {xs : List α} {rest : List Int} (hl : xs.length ≤ 4096) (h : ∀ x, x ∈ xs → ∀ rest, rd (e x ++ rest, false) = (x, (rest, false))) : rdL rd (leB (xs.length : Int) 2 ++ xs.flatMap e ++ rest, false) = (xs, (rest, false)) := by
 unfold rdL
 rw [List.append_assoc, PM (by omega) (by omega) (by omega)]
 show Ze rd xs.length [] _ = _
 rw [V1 h, List.nil_append]
end Go.Dx
