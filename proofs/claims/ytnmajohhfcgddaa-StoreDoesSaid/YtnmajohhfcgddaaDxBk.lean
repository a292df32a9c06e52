/- A part. -/
import Derived.Test.YtnmajohhfcgddaaDxBl
import Derived.Test.YtnmajohhfcgddaaDxF
set_option maxRecDepth 100000
set_option linter.unusedVariables false
namespace Go.Dx
open Go
def D6 (a b : Int) : Int := zE .u64 (Int.ofNat (low .u64 a &&& low .u64 b))
def Mn (a b : Int) : Int := zE .u64 (Int.ofNat (low .u64 a ||| low .u64 b))
def Cz (a : Int) : Int := a.fdiv (Int.ofNat (2 ^ 32))
def Gg (x y : Int) : Int :=
 (fun t : Int => (fun w1 : Int => zE .u64 (zE .u64 (zE .u64 (Cz x * Cz y) + Cz t) + Cz w1))
  (zE .u64 (D6 t 4294967295 + zE .u64 (D6 x 4294967295 * Cz y))))
 (zE .u64 (zE .u64 (Cz x * D6 y 4294967295) + Cz (zE .u64 (D6 x 4294967295 * D6 y 4294967295))))
def stS (p x : Int) (k : Nat) : Int :=
 (fun y : Int => if Gg y y < p then y else if Gg y y = p ∧ zE .u64 (y * y) = 0 then y else x) (Mn x (zE .u64 (1 * Int.ofNat (2 ^ k))))
def sF (p : Int) : Int → Nat → Int
 | x, 0 => x
 | x, n + 1 => sF p (stS p x n) n
def FH : List Int := [2, 3, 5, 7, 11, 13, 17, 19]
def ivI : List Int := [1779033703, 3144134277, 1013904242, 2773480762, 1359893119, 2600822924, 528734635, 1541459225]
theorem TG : ∀ i, i < 8 → zE .u32 (sF ((FH[i]?).getD 0) 0 35) = (ivI[i]?).getD 0 := by
 intro i hi
 match i, hi with
 | 0, _ => decide +kernel
 | 1, _ => decide +kernel
 | 2, _ => decide +kernel
 | 3, _ => decide +kernel
 | 4, _ => decide +kernel
 | 5, _ => decide +kernel
 | 6, _ => decide +kernel
 | 7, _ => decide +kernel
 | _ + 8, h => omega
theorem Mr {i : Nat} (h : i < 8) : getN ivL i = some (.int .u32 ((ivI[i]?).getD 0)) := by
 match i, h with
 | 0, _ | 1, _ | 2, _ | 3, _ | 4, _ | 5, _ | 6, _ | 7, _ => rfl
 | _ + 8, h => omega
theorem SO {i : Nat} (h : i < 8) : getN (FH.map fun n => Value.int .u64 n) i = some (.int .u64 ((FH[i]?).getD 0)) := by
 match i, h with
 | 0, _ | 1, _ | 2, _ | 3, _ | 4, _ | 5, _ | 6, _ | 7, _ => rfl
 | _ + 8, h => omega
theorem NA {k : Nat} (h : k < 64) (a : Int) : Ym .shl .u64 a (k : Int) = some (.int .u64 (zE .u64 (a * Int.ofNat (2 ^ k)))) := by
 unfold Ym
 rw [if_neg (by omega)]
 have e2 : Nat.ble (bitsOf .u64) (k : Int).toNat = false := by rw [Yb]; simp [bitsOf]; omega
 simp only [e2, z3, if_false]
 rfl
theorem DN (n : Int) : zE .u32 n = n % 4294967296 := by
 cases n with
 | ofNat m => show Int.ofNat (m % 4294967296) = _; rfl
 | negSucc m =>
  show Int.ofNat (4294967296 - 1 - m % 4294967296) = _
  rw [Int.negSucc_eq]
  simp only [Int.ofNat_eq_natCast]
  omega
theorem Vu (a b c : Int) : Qj (Qj a b) c = Qj a (Qj b c) := by
 unfold Qj
 simp only [DN]
 omega
theorem Dz (n : Int) : low .u32 n < 4294967296 := by
 cases n with
 | ofNat m => show m % 4294967296 < _; omega
 | negSucc m => show 4294967296 - 1 - m % 4294967296 < _; omega
theorem Fb (a b : Int) : low .u32 (Wa a b) = low .u32 a ^^^ low .u32 b := by
 have h : low .u32 a ^^^ low .u32 b < 2 ^ 32 := Nat.xor_lt_two_pow (Dz a) (Dz b)
 show ((low .u32 a ^^^ low .u32 b) % 4294967296) % 4294967296 = _
 rw [Nat.mod_eq_of_lt (Nat.mod_lt _ (by decide)), Nat.mod_eq_of_lt h]
theorem F9 (a b c : Int) : Wa (Wa a b) c = Wa a (Wa b c) := by
 show zE .u32 (Int.ofNat (low .u32 (Wa a b) ^^^ low .u32 c)) = zE .u32 (Int.ofNat (low .u32 a ^^^ low .u32 (Wa b c)))
 rw [Fb, Fb, Nat.xor_assoc]
def h1F (r : Nat → Nat) (m v : List Value) : Nat → List Value
 | 0 => v
 | i + 1 => Wf i (i + 4) (i + 8) (i + 12) (nAt m (r (2 * i))) (nAt m (r (2 * i + 1))) (h1F r m v i)
def h2F (r : Nat → Nat) (m v : List Value) : Nat → List Value
 | 0 => v
 | i + 1 => Wf i (4 + (i + 1) % 4) (8 + (i + 2) % 4) (12 + (i + 3) % 4) (nAt m (r (8 + 2 * i))) (nAt m (r (9 + 2 * i))) (h2F r m v i)
theorem NR {r : Nat → Nat} {m v : List Value} (h : U .u32 16 v) : ∀ i, U .u32 16 (h1F r m v i)
 | 0 => h
 | i + 1 => (NR h i).stir ..
theorem NQ {r : Nat → Nat} {m v : List Value} (h : U .u32 16 v) : ∀ i, U .u32 16 (h2F r m v i)
 | 0 => h
 | i + 1 => (NQ h i).stir ..
def FK : List Value := SV.flatten.map fun n => .int .i64 ((n : Nat) : Int)
def K1 (j : Nat) : List Value := ((SV[j]?).getD []).map fun n => .int .i64 ((n : Nat) : Int)
theorem G0 : ∀ j, j < 10 → (Cells.list FK).take (j * 16) 16 = some (K1 j)
 | 0, _ | 1, _ | 2, _ | 3, _ | 4, _ | 5, _ | 6, _ | 7, _ | 8, _ | 9, _ => rfl
 | _ + 10, h => by omega
theorem V1 : ∀ j, j < 10 → (K1 j).length = 16
 | 0, _ | 1, _ | 2, _ | 3, _ | 4, _ | 5, _ | 6, _ | 7, _ | 8, _ | 9, _ => rfl
 | _ + 10, h => by omega
theorem SC : ∀ j, j < 10 → allOne (K1 j) = true
 | 0, _ | 1, _ | 2, _ | 3, _ | 4, _ | 5, _ | 6, _ | 7, _ | 8, _ | 9, _ => rfl
 | _ + 10, h => by omega
theorem Kw {j i : Nat} (hj : j < 10) (hi : i < 16) : getN (K1 j) i = some (.int .i64 ((Xu j i : Nat) : Int)) := by
 have hl := V1 j hj
 unfold K1 at hl
 rw [List.length_map] at hl
 unfold K1 Xu
 rw [Zs, List.getElem?_map, List.getElem?_eq_getElem (by rw [hl]; exact hi)]
 rfl
def viF (lp : List Value) : Nat → List Value
 | 0 => Za .u32 16
 | j + 1 => Zj (Zj (viF lp j) j (.int .u32 (nAt lp j))) (j + 8) (.int .u32 ((ivI[j]?).getD 0))
theorem Ph (lp : List Value) : ∀ j, U .u32 16 (viF lp j)
 | 0 => Yd ..
 | j + 1 => ((Ph lp j).set _ _).set _ _
theorem Ck {lp : List Value} : ∀ {j i : Nat}, j ≤ 8 → i < 8 → getN (viF lp j) i = (if i < j then some (.int .u32 (nAt lp i)) else some (.int .u32 0)) ∧ getN (viF lp j) (i + 8) = (if i < j then some (.int .u32 ((ivI[i]?).getD 0)) else some (.int .u32 0))
 | 0, i, _, hi => by
  have h1 := (Yd .u32 16).2 i (by omega)
  have h2 := (Yd .u32 16).2 (i + 8) (by omega)
  refine ⟨?_, ?_⟩
  · show getN (Za .u32 16) i = _
    unfold Za
    rw [Zs, List.getElem?_replicate, if_pos (by omega), if_neg (by omega)]
  · show getN (Za .u32 16) (i + 8) = _
    unfold Za
    rw [Zs, List.getElem?_replicate, if_pos (by omega), if_neg (by omega)]
 | j + 1, i, hj, hi => by
  obtain ⟨h1, h2⟩ := Ck (lp := lp) (j := j) (i := i) (by omega) hi
  have hl := (Ph lp j).1
  show getN (Zj (Zj _ _ _) _ _) _ = _ ∧ getN (Zj (Zj _ _ _) _ _) _ = _
  by_cases c : i = j
  · subst c
    refine ⟨?_, ?_⟩
    · rw [ZU, if_neg (by omega), ZU, if_pos ⟨rfl, by omega⟩, if_pos (by omega)]
    · rw [ZU, if_pos ⟨rfl, by rw [ZK]; omega⟩, if_pos (by omega)]
  · refine ⟨?_, ?_⟩
    · rw [ZU, if_neg (by omega), ZU, if_neg (by omega), h1]
      by_cases c2 : i < j
      · rw [if_pos c2, if_pos (by omega)]
      · rw [if_neg c2, if_neg (by omega)]
    · rw [ZU, if_neg (by omega), ZU, if_neg (by omega), h2]
      by_cases c2 : i < j
      · rw [if_pos c2, if_pos (by omega)]
      · rw [if_neg c2, if_neg (by omega)]
theorem MO {lp : List Value} (h : UA .u32 0 8 lp) : viF lp 8 = vbF lp := by
 have hl := (Ph lp 8).1
 have hv := Sn h
 refine List.ext_getElem? fun i => ?_
 rw [← Zs, ← Zs]
 by_cases c : i < 8
 · rw [(Ck (by omega) c).1, if_pos c]
   unfold vbF
   rw [Xn (by rw [h.cut.1]; exact c), h.cut.2 i c]
   unfold nAt
   rw [Jc c, Nat.zero_add]
 · by_cases c2 : i < 16
   · obtain ⟨j, rfl⟩ : ∃ j, i = j + 8 := ⟨i - 8, by omega⟩
     rw [(Ck (by omega) (show j < 8 by omega)).2, if_pos (by omega)]
     unfold vbF
     rw [Xm (by rw [h.cut.1]; omega), h.cut.1, show j + 8 - 8 = j by omega, Mr (by omega)]
   · rw [Zs, Zs, List.getElem?_eq_none (by rw [hl]; omega), List.getElem?_eq_none (by rw [hv.1]; omega)]
def xrF (lp v : List Value) : Nat → List Value
 | 0 => lp
 | j + 1 => Zj (xrF lp v j) j (.int .u32 (Wa (Wa (nAt lp j) (nAt v j)) (nAt v (j + 8))))
theorem F8 (lp v : List Value) : ∀ j, xrF lp v j = Jx lp v j
 | 0 => rfl
 | j + 1 => by show Zj _ _ _ = Zj _ _ _; rw [F8 lp v j, F9]
end Go.Dx
namespace Go.Dx
open Go
section
variable {s : DS}
theorem CP {bytes sz k : Nat} {vy : Value} {ly : List (List Value)} (hk : s.get k = some (.cells (.list []) false)) (hy : SlV s sz vy ly) (oy : ZI sz ly) (hne : ly ≠ []) (hn : ly.length ≤ 1099511627776) (hb : ly.length * bytes ≤ 1099511627776) :
 J3 bytes sz (.slice (some ⟨k, 0, none⟩) 0 0) vy s = some (.slice (some ⟨s.next, 0, some sz⟩) ly.length ly.length, s.new (.cells (.list ly.flatten) false)) := by
 obtain ⟨hl, hs⟩ := WQ hy
 have hf : (Nat.beq ly.flatten.length (ly.length * sz) && allOne ly.flatten) = true := by rw [oy.flat, oy.ones]; simp
 have h1 : Nat.ble (0 + ly.length) 1099511627776 = true := Nat.ble_eq.mpr (by omega)
 have h2 : Nat.ble ((0 + ly.length) * bytes) 1099511627776 = true := Nat.ble_eq.mpr (by rw [Nat.zero_add]; exact hb)
 have hpos : 0 < ly.length := List.length_pos_iff.2 hne
 have hle : Nat.ble (0 + ly.length) 0 = false := by
  cases hq : Nat.ble (0 + ly.length) 0 with
  | false => rfl
  | true => have := Nat.ble_eq.mp hq; omega
 have hrd : s.read k 0 (0 * sz) = some [] := by
  unfold DS.read
  rw [hk, Nat.zero_mul]
  rfl
 rw [Nat.zero_add] at h1 h2 hle
 simp only [J3, z8, hl, hs, hf, hle, h1, h2, Bool.not_true, z3, if_false, if_true, Bool.and_self, hrd, show allOne [] = true from rfl, Nat.zero_add, List.nil_append]
def Tu (bytes : Nat) (z : List Value) (x y : Value) (s : DS) : Option (Value × DS) := z8 (fun o => match o with | .const v => v | _ => ZC) s (.bappZ bytes z (.const x) (.const y))
theorem N3 {call : Zn} {ρ : Operand → Value} {R : Value × DS → Prop} {b : Nat} {z : List Value} {x y : Operand} : W (dop call ρ s (.bappZ b z x y)) R = W (Tu b z (ρ x) (ρ y) s) R := by
 rw [VO rfl]
 rfl
theorem Jk {k : IntKind} : ∀ n, repeatZ [.int k 0] n = Za k n
 | 0 => rfl
 | n + 1 => by show [Value.int k 0] ++ repeatZ [.int k 0] n = _; rw [Jk n]; rfl
theorem KS {k : IntKind} : ∀ n, allOne (Za k n) = true
 | 0 => rfl
 | n + 1 => by show allOne (Value.int k 0 :: Za k n) = true; unfold allOne; rw [KS n]; rfl
theorem RV {b len n : Nat} {L : List Value} (hg : s.get b = some (.cells (.list L) false)) (hw : s.wr b = true) (hG : s.Good) (hL : L.length = len) (hall : allOne L = true) (hlen : len ≤ 64) (hn : n ≤ 64) :
 W (Tu 1 [.int .u8 0] (.slice (some ⟨b, 0, some 1⟩) len len) (.int .i64 (n : Int)) s) fun r => ∃ b', r.1 = .slice (some ⟨b', 0, some 1⟩) (len + n) (len + n) ∧ r.2.get b' = some (.cells (.list (L ++ Za .u8 n)) false) ∧ Ext [b] s r.2 := by
 by_cases h0 : n = 0
 · subst h0
   refine W.intro (a := (.slice (some ⟨b, 0, some 1⟩) len len, s)) ?_ ⟨b, rfl, by simpa [Za] using hg, .refl⟩
   have e1 : Nat.beq 0 0 = true := rfl
   have e2 : Nat.ble len len = true := Nat.ble_eq.mpr (Nat.le_refl _)
   simp only [Tu, z8, zD, e1, e2, if_true]
 · have e1 : Nat.beq n 0 = false := K9 h0
   have e2 : Nat.ble (len + n) len = false := by rw [Yb]; omega
   have e3 : Nat.beq 1 [Value.int .u8 0].length = true := rfl
   have e4 : allOne (repeatZ [.int .u8 0] n) = true := by rw [Jk]; exact KS n
   have e5 : Nat.ble (len + n) 1099511627776 = true := Nat.ble_eq.mpr (by omega)
   have e6 : Nat.ble ((len + n) * 1) 1099511627776 = true := Nat.ble_eq.mpr (by omega)
   have hk : s.kill b = some (s.rid b) := DS.kill_rid (by rw [hg]; rfl) hw
   have hr : (Cells.list L).take 0 (len * [Value.int .u8 0].length) = some L := by
    rw [ZJ _ _ _ (by simp; omega)]
    simp only [List.drop_zero, List.length_cons, List.length_nil, Nat.zero_add, Nat.mul_one]
    rw [List.take_of_length_le (by omega)]
   have hlt : ¬ s.next = b := by have := DS.get_lt' hg; omega
   have hnew2 : ∀ o, ((s.rid b).new o).get s.next = some o := fun o => by
    have := DS.new_get_self (s := s.rid b) (o := o) (by rw [DS.rid_good]; exact hG)
    rwa [DS.rid_next] at this
   refine W.intro (a := (.slice (some ⟨s.next, 0, some 1⟩) (len + n) (len + n), (s.rid b).new (.cells (.list (L ++ repeatZ [.int .u8 0] n)) false))) ?_ ⟨s.next, rfl, by rw [← Jk]; exact hnew2 _, (Ext.rid (F := [b]) (.inl (by simp))).trans' Ext.new⟩
   simp only [Tu, z8, zD, e1, e2, e3, e4, e5, e6, Bool.not_false, Bool.true_and, Bool.and_self, z3, if_false, if_true, hg, hr, hk, hall, Cells.like, Cells.plain, DS.rid_next]
   rfl
end
def siF : Nat → List Value
 | 0 => Za .u32 8
 | j + 1 => Zj (siF j) j (.int .u32 ((ivI[j]?).getD 0))
theorem Nx : ∀ j, U .u32 8 (siF j)
 | 0 => Yd ..
 | j + 1 => (Nx j).set _ _
def rh0 : List Value := Zj (siF 8) 0 (.int .u32 (Wa 1779033703 16842784))
theorem Ml : U .u32 8 rh0 := (Nx 8).set _ _
theorem NG : rh0 = cut 0 8 h0L := by rfl
def hAt (bs : List Int) : Nat → List Value
 | 0 => rh0
 | k + 1 => Xo (hAt bs k) (u8s bs) (64 * k) (zE .u64 ((64 * (k + 1) : Nat) : Int)) false
theorem Tg (bs : List Int) : ∀ k, U .u32 8 (hAt bs k)
 | 0 => Ml
 | k + 1 => (VA ((Tg bs k).part (Nat.le_refl _))).all (by rw [Jy]; exact (Tg bs k).1)
def Rg (bs : List Int) (k : Nat) : List Value := u8s (bs.drop (64 * k)) ++ Za .u8 (64 - (bs.length - 64 * k))
def rsF (bs : List Int) : List Value := Xo (hAt bs ((bs.length - 1) / 64)) (Rg bs ((bs.length - 1) / 64)) 0 (zE .u64 (bs.length : Int)) true
def FJ (w : List Value) : Nat → List Value
 | 0 => Za .u8 32
 | i + 1 => Zj (FJ w i) i (.int .u8 (zE .u8 (JE (8 * (i % 4)) (nAt w (i / 4)))))
theorem SR (w : List Value) : ∀ i, U .u8 32 (FJ w i)
 | 0 => Yd ..
 | i + 1 => (SR w i).set _ _
theorem SS (w : List Value) : ∀ j, FJ w (4 * j) = Q7 w j
 | 0 => rfl
 | j + 1 => by
  have h0 : JE (8 * ((4 * j) % 4)) (nAt w ((4 * j) / 4)) = nAt w j := by
   rw [show (4 * j) % 4 = 0 by omega, show (4 * j) / 4 = j by omega]
   show Int.fdiv _ 1 = _
   exact Int.fdiv_one _
  have h1 : JE (8 * ((4 * j + 1) % 4)) (nAt w ((4 * j + 1) / 4)) = JE 8 (nAt w j) := by
   rw [show (4 * j + 1) % 4 = 1 by omega, show (4 * j + 1) / 4 = j by omega]
  have h2 : JE (8 * ((4 * j + 2) % 4)) (nAt w ((4 * j + 2) / 4)) = JE 16 (nAt w j) := by
   rw [show (4 * j + 2) % 4 = 2 by omega, show (4 * j + 2) / 4 = j by omega]
  have h3 : JE (8 * ((4 * j + 3) % 4)) (nAt w ((4 * j + 3) / 4)) = JE 24 (nAt w j) := by
   rw [show (4 * j + 3) % 4 = 3 by omega, show (4 * j + 3) / 4 = j by omega]
  show FJ w (4 * j + 1 + 1 + 1 + 1) = Q7 w (j + 1)
  unfold FJ FJ FJ FJ
  rw [h0, h1, h2, h3, SS w j]
  rfl
end Go.Dx
