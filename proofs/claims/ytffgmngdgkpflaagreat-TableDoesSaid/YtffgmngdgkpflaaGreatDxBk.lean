/- A part. -/
import Derived.Test.YtffgmngdgkpflaaGreatDxBl
import Derived.Test.YtffgmngdgkpflaaGreatDxF
set_option maxRecDepth 100000
set_option linter.unusedVariables false
set_option linter.unusedSimpArgs false
set_option linter.unusedSectionVars false
namespace Go.Dx
open Go
def C3 (a b : Int) : Int := zf .u64 (Int.ofNat (low .u64 a &&& low .u64 b))
def Hw (a b : Int) : Int := zf .u64 (Int.ofNat (low .u64 a ||| low .u64 b))
def TB (a : Int) : Int := a.fdiv (Int.ofNat (2 ^ 32))
def V9 (x y : Int) : Int :=
 (fun t : Int => (fun w1 : Int => zf .u64 (zf .u64 (zf .u64 (TB x * TB y) + TB t) + TB w1))
  (zf .u64 (C3 t 4294967295 + zf .u64 (C3 x 4294967295 * TB y))))
 (zf .u64 (zf .u64 (TB x * C3 y 4294967295) + TB (zf .u64 (C3 x 4294967295 * C3 y 4294967295))))
def stS (p x : Int) (k : Nat) : Int :=
 (fun y : Int => if V9 y y < p then y else if V9 y y = p ∧ zf .u64 (y * y) = 0 then y else x) (Hw x (zf .u64 (1 * Int.ofNat (2 ^ k))))
def sF (p : Int) : Int → Nat → Int
 | x, 0 => x
 | x, n + 1 => sF p (stS p x n) n
def F8 : List Int := [2, 3, 5, 7, 11, 13, 17, 19]
def ivI : List Int := [1779033703, 3144134277, 1013904242, 2773480762, 1359893119, 2600822924, 528734635, 1541459225]
theorem Rs : ∀ i, i < 8 → zf .u32 (sF ((F8[i]?).getD 0) 0 35) = (ivI[i]?).getD 0 := by
 intro i hi
 match i, hi with
 | 0, _ => decide +kernel
 | 1, _ => decide +kernel
 | 2, _ => decide +kernel
 | 3, _ => decide +kernel
 | 4, _ => decide +kernel
 | 5, _ => decide +kernel
 | 6, _ => decide +kernel
 | 7, _ => decide +kernel
 | _ + 8, h => omega
theorem HB {i : Nat} (h : i < 8) : getN ivL i = some (.int .u32 ((ivI[i]?).getD 0)) := by
 match i, h with
 | 0, _ | 1, _ | 2, _ | 3, _ | 4, _ | 5, _ | 6, _ | 7, _ => rfl
 | _ + 8, h => omega
theorem PR {i : Nat} (h : i < 8) : getN (F8.map fun n => Value.int .u64 n) i = some (.int .u64 ((F8[i]?).getD 0)) := by
 match i, h with
 | 0, _ | 1, _ | 2, _ | 3, _ | 4, _ | 5, _ | 6, _ | 7, _ => rfl
 | _ + 8, h => omega
theorem LM {k : Nat} (h : k < 64) (a : Int) : Zx .shl .u64 a (k : Int) = some (.int .u64 (zf .u64 (a * Int.ofNat (2 ^ k)))) := by
 unfold Zx
 rw [if_neg (by omega)]
 have e2 : Nat.ble (bitsOf .u64) (k : Int).toNat = false := by rw [zD]; simp [bitsOf]; omega
 simp only [e2, z3, if_false]
 rfl
theorem Cy (n : Int) : zf .u32 n = n % 4294967296 := by
 cases n with
 | ofNat m => show Int.ofNat (m % 4294967296) = _; rfl
 | negSucc m =>
  show Int.ofNat (4294967296 - 1 - m % 4294967296) = _
  rw [Int.negSucc_eq]
  simp only [Int.ofNat_eq_natCast]
  omega
theorem Vg (a b c : Int) : XO (XO a b) c = XO a (XO b c) := by
 unfold XO
 simp only [Cy]
 omega
theorem D8 (n : Int) : low .u32 n < 4294967296 := by
 cases n with
 | ofNat m => show m % 4294967296 < _; omega
 | negSucc m => show 4294967296 - 1 - m % 4294967296 < _; omega
theorem Fu (a b : Int) : low .u32 (Yz a b) = low .u32 a ^^^ low .u32 b := by
 have h : low .u32 a ^^^ low .u32 b < 2 ^ 32 := Nat.xor_lt_two_pow (D8 a) (D8 b)
 show ((low .u32 a ^^^ low .u32 b) % 4294967296) % 4294967296 = _
 rw [Nat.mod_eq_of_lt (Nat.mod_lt _ (by decide)), Nat.mod_eq_of_lt h]
theorem DC (a b c : Int) : Yz (Yz a b) c = Yz a (Yz b c) := by
 show zf .u32 (Int.ofNat (low .u32 (Yz a b) ^^^ low .u32 c)) = zf .u32 (Int.ofNat (low .u32 a ^^^ low .u32 (Yz b c)))
 rw [Fu, Fu, Nat.xor_assoc]
def h1F (r : Nat → Nat) (m v : List Value) : Nat → List Value
 | 0 => v
 | i + 1 => YD i (i + 4) (i + 8) (i + 12) (nAt m (r (2 * i))) (nAt m (r (2 * i + 1))) (h1F r m v i)
def h2F (r : Nat → Nat) (m v : List Value) : Nat → List Value
 | 0 => v
 | i + 1 => YD i (4 + (i + 1) % 4) (8 + (i + 2) % 4) (12 + (i + 3) % 4) (nAt m (r (8 + 2 * i))) (nAt m (r (9 + 2 * i))) (h2F r m v i)
theorem L0 {r : Nat → Nat} {m v : List Value} (h : U .u32 16 v) : ∀ i, U .u32 16 (h1F r m v i)
 | 0 => h
 | i + 1 => (L0 h i).stir ..
theorem LZ {r : Nat → Nat} {m v : List Value} (h : U .u32 16 v) : ∀ i, U .u32 16 (h2F r m v i)
 | 0 => h
 | i + 1 => (LZ h i).stir ..
def Db : List Value := PY.flatten.map fun n => .int .i64 ((n : Nat) : Int)
def KE (j : Nat) : List Value := ((PY[j]?).getD []).map fun n => .int .i64 ((n : Nat) : Int)
theorem Fs : ∀ j, j < 10 → (Cells.list Db).take (j * 16) 16 = some (KE j)
 | 0, _ | 1, _ | 2, _ | 3, _ | 4, _ | 5, _ | 6, _ | 7, _ | 8, _ | 9, _ => rfl
 | _ + 10, h => by omega
theorem VR : ∀ j, j < 10 → (KE j).length = 16
 | 0, _ | 1, _ | 2, _ | 3, _ | 4, _ | 5, _ | 6, _ | 7, _ | 8, _ | 9, _ => rfl
 | _ + 10, h => by omega
theorem Py : ∀ j, j < 10 → allOne (KE j) = true
 | 0, _ | 1, _ | 2, _ | 3, _ | 4, _ | 5, _ | 6, _ | 7, _ | 8, _ | 9, _ => rfl
 | _ + 10, h => by omega
theorem J3 {j i : Nat} (hj : j < 10) (hi : i < 16) : getN (KE j) i = some (.int .i64 ((Yq j i : Nat) : Int)) := by
 have hl := VR j hj
 unfold KE at hl
 rw [List.length_map] at hl
 unfold KE Yq
 rw [zw, List.getElem?_map, List.getElem?_eq_getElem (by rw [hl]; exact hi)]
 rfl
def viF (lp : List Value) : Nat → List Value
 | 0 => zq .u32 16
 | j + 1 => zk (zk (viF lp j) j (.int .u32 (nAt lp j))) (j + 8) (.int .u32 ((ivI[j]?).getD 0))
theorem Mm (lp : List Value) : ∀ j, U .u32 16 (viF lp j)
 | 0 => Zi ..
 | j + 1 => ((Mm lp j).set _ _).set _ _
theorem Tc {lp : List Value} : ∀ {j i : Nat}, j ≤ 8 → i < 8 → getN (viF lp j) i = (if i < j then some (.int .u32 (nAt lp i)) else some (.int .u32 0)) ∧ getN (viF lp j) (i + 8) = (if i < j then some (.int .u32 ((ivI[i]?).getD 0)) else some (.int .u32 0))
 | 0, i, _, hi => by
  have h1 := (Zi .u32 16).2 i (by omega)
  have h2 := (Zi .u32 16).2 (i + 8) (by omega)
  refine ⟨?_, ?_⟩
  · show getN (zq .u32 16) i = _
    unfold zq
    rw [zw, List.getElem?_replicate, if_pos (by omega), if_neg (by omega)]
  · show getN (zq .u32 16) (i + 8) = _
    unfold zq
    rw [zw, List.getElem?_replicate, if_pos (by omega), if_neg (by omega)]
 | j + 1, i, hj, hi => by
  obtain ⟨h1, h2⟩ := Tc (lp := lp) (j := j) (i := i) (by omega) hi
  have hl := (Mm lp j).1
  show getN (zk (zk _ _ _) _ _) _ = _ ∧ getN (zk (zk _ _ _) _ _) _ = _
  by_cases c : i = j
  · subst c
    refine ⟨?_, ?_⟩
    · rw [zZ, if_neg (by omega), zZ, if_pos ⟨rfl, by omega⟩, if_pos (by omega)]
    · rw [zZ, if_pos ⟨rfl, by rw [zI]; omega⟩, if_pos (by omega)]
  · refine ⟨?_, ?_⟩
    · rw [zZ, if_neg (by omega), zZ, if_neg (by omega), h1]
      by_cases c2 : i < j
      · rw [if_pos c2, if_pos (by omega)]
      · rw [if_neg c2, if_neg (by omega)]
    · rw [zZ, if_neg (by omega), zZ, if_neg (by omega), h2]
      by_cases c2 : i < j
      · rw [if_pos c2, if_pos (by omega)]
      · rw [if_neg c2, if_neg (by omega)]
theorem H0 {lp : List Value} (h : UA .u32 0 8 lp) : viF lp 8 = vbF lp := by
 have hl := (Mm lp 8).1
 have hv := Ph h
 refine List.ext_getElem? fun i => ?_
 rw [← zw, ← zw]
 by_cases c : i < 8
 · rw [(Tc (by omega) c).1, if_pos c]
   unfold vbF
   rw [YH (by rw [h.cut.1]; exact c), h.cut.2 i c]
   unfold nAt
   rw [W8 c, Nat.zero_add]
 · by_cases c2 : i < 16
   · obtain ⟨j, rfl⟩ : ∃ j, i = j + 8 := ⟨i - 8, by omega⟩
     rw [(Tc (by omega) (show j < 8 by omega)).2, if_pos (by omega)]
     unfold vbF
     rw [Yi (by rw [h.cut.1]; omega), h.cut.1, show j + 8 - 8 = j by omega, HB (by omega)]
   · rw [zw, zw, List.getElem?_eq_none (by rw [hl]; omega), List.getElem?_eq_none (by rw [hv.1]; omega)]
def xrF (lp v : List Value) : Nat → List Value
 | 0 => lp
 | j + 1 => zk (xrF lp v j) j (.int .u32 (Yz (Yz (nAt lp j) (nAt v j)) (nAt v (j + 8))))
theorem DB (lp v : List Value) : ∀ j, xrF lp v j = QF lp v j
 | 0 => rfl
 | j + 1 => by show zk _ _ _ = zk _ _ _; rw [DB lp v j, DC]
end Go.Dx
namespace Go.Dx
open Go
section
variable {s : DS}
theorem TT {bytes sz k : Nat} {vy : Value} {ly : List (List Value)} (hk : s.get k = some (.cells (.list []) false)) (hy : SlV s sz vy ly) (oy : zW sz ly) (hne : ly ≠ []) (hn : ly.length ≤ 1099511627776) (hb : ly.length * bytes ≤ 1099511627776) :
 JT bytes sz (.slice (some ⟨k, 0, none⟩) 0 0) vy s = some (.slice (some ⟨s.next, 0, some sz⟩) ly.length ly.length, s.new (.cells (.list ly.flatten) false)) := by
 obtain ⟨hl, hs⟩ := Xi hy
 have hf : (Nat.beq ly.flatten.length (ly.length * sz) && allOne ly.flatten) = true := by rw [oy.flat, oy.ones]; simp
 have h1 : Nat.ble (0 + ly.length) 1099511627776 = true := Nat.ble_eq.mpr (by omega)
 have h2 : Nat.ble ((0 + ly.length) * bytes) 1099511627776 = true := Nat.ble_eq.mpr (by rw [Nat.zero_add]; exact hb)
 have hpos : 0 < ly.length := List.length_pos_iff.2 hne
 have hle : Nat.ble (0 + ly.length) 0 = false := by
  cases hq : Nat.ble (0 + ly.length) 0 with
  | false => rfl
  | true => have := Nat.ble_eq.mp hq; omega
 have hrd : s.read k 0 (0 * sz) = some [] := by
  unfold DS.read
  rw [hk, Nat.zero_mul]
  rfl
 rw [Nat.zero_add] at h1 h2 hle
 simp only [JT, zn, hl, hs, hf, hle, h1, h2, Bool.not_true, z3, if_false, if_true, Bool.and_self, hrd, show allOne [] = true from rfl, Nat.zero_add, List.nil_append]
def SS (bytes : Nat) (z : List Value) (x y : Value) (s : DS) : Option (Value × DS) := zn (fun o => match o with | .const v => v | _ => zK) s (.bappZ bytes z (.const x) (.const y))
theorem Hd {call : zy} {ρ : Operand → Value} {R : Value × DS → Prop} {b : Nat} {z : List Value} {x y : Operand} : W (dop call ρ s (.bappZ b z x y)) R = W (SS b z (ρ x) (ρ y) s) R := by
 rw [Kv rfl]
 rfl
theorem Qj {k : IntKind} : ∀ n, repeatZ [.int k 0] n = zq k n
 | 0 => rfl
 | n + 1 => by show [Value.int k 0] ++ repeatZ [.int k 0] n = _; rw [Qj n]; rfl
theorem Ku {k : IntKind} : ∀ n, allOne (zq k n) = true
 | 0 => rfl
 | n + 1 => by show allOne (Value.int k 0 :: zq k n) = true; unfold allOne; rw [Ku n]; rfl
theorem NW {b len n : Nat} {L : List Value} (hg : s.get b = some (.cells (.list L) false)) (hw : s.wr b = true) (hG : s.Good) (hL : L.length = len) (hall : allOne L = true) (hlen : len ≤ 64) (hn : n ≤ 64) :
 W (SS 1 [.int .u8 0] (.slice (some ⟨b, 0, some 1⟩) len len) (.int .i64 (n : Int)) s) fun r => ∃ b', r.1 = .slice (some ⟨b', 0, some 1⟩) (len + n) (len + n) ∧ r.2.get b' = some (.cells (.list (L ++ zq .u8 n)) false) ∧ Ext [b] s r.2 := by
 by_cases h0 : n = 0
 · subst h0
   refine W.intro (a := (.slice (some ⟨b, 0, some 1⟩) len len, s)) ?_ ⟨b, rfl, by simpa [zq] using hg, .refl⟩
   have e1 : Nat.beq 0 0 = true := rfl
   have e2 : Nat.ble len len = true := Nat.ble_eq.mpr (Nat.le_refl _)
   simp only [SS, zn, Zz, e1, e2, if_true]
 · have e1 : Nat.beq n 0 = false := Dr h0
   have e2 : Nat.ble (len + n) len = false := by rw [zD]; omega
   have e3 : Nat.beq 1 [Value.int .u8 0].length = true := rfl
   have e4 : allOne (repeatZ [.int .u8 0] n) = true := by rw [Qj]; exact Ku n
   have e5 : Nat.ble (len + n) 1099511627776 = true := Nat.ble_eq.mpr (by omega)
   have e6 : Nat.ble ((len + n) * 1) 1099511627776 = true := Nat.ble_eq.mpr (by omega)
   have hk : s.kill b = some (s.rid b) := DS.kill_rid (by rw [hg]; rfl) hw
   have hr : (Cells.list L).take 0 (len * [Value.int .u8 0].length) = some L := by
    rw [zQ _ _ _ (by simp; omega)]
    simp only [List.drop_zero, List.length_cons, List.length_nil, Nat.zero_add, Nat.mul_one]
    rw [List.take_of_length_le (by omega)]
   have hlt : ¬ s.next = b := by have := DS.get_lt' hg; omega
   have hnew2 : ∀ o, ((s.rid b).new o).get s.next = some o := fun o => by
    have := DS.new_get_self (s := s.rid b) (o := o) (by rw [DS.rid_good]; exact hG)
    rwa [DS.rid_next] at this
   refine W.intro (a := (.slice (some ⟨s.next, 0, some 1⟩) (len + n) (len + n), (s.rid b).new (.cells (.list (L ++ repeatZ [.int .u8 0] n)) false))) ?_ ⟨s.next, rfl, by rw [← Qj]; exact hnew2 _, (Ext.rid (F := [b]) (.inl (by simp))).trans' Ext.new⟩
   simp only [SS, zn, Zz, e1, e2, e3, e4, e5, e6, Bool.not_false, Bool.true_and, Bool.and_self, z3, if_false, if_true, hg, hr, hk, hall, Cells.like, Cells.plain, DS.rid_next]
   rfl
end
def siF : Nat → List Value
 | 0 => zq .u32 8
 | j + 1 => zk (siF j) j (.int .u32 ((ivI[j]?).getD 0))
theorem LJ : ∀ j, U .u32 8 (siF j)
 | 0 => Zi ..
 | j + 1 => (LJ j).set _ _
def rh0 : List Value := zk (siF 8) 0 (.int .u32 (Yz 1779033703 16842784))
theorem Hu : U .u32 8 rh0 := (LJ 8).set _ _
theorem LO : rh0 = cut 0 8 h0L := by rfl
def hAt (bs : List Int) : Nat → List Value
 | 0 => rh0
 | k + 1 => Yj (hAt bs k) (u8s bs) (64 * k) (zf .u64 ((64 * (k + 1) : Nat) : Int)) false
theorem Sz (bs : List Int) : ∀ k, U .u32 8 (hAt bs k)
 | 0 => Hu
 | k + 1 => (Vm ((Sz bs k).part (Nat.le_refl _))).all (by rw [QG]; exact (Sz bs k).1)
def Nc (bs : List Int) (k : Nat) : List Value := u8s (bs.drop (64 * k)) ++ zq .u8 (64 - (bs.length - 64 * k))
def rsF (bs : List Int) : List Value := Yj (hAt bs ((bs.length - 1) / 64)) (Nc bs ((bs.length - 1) / 64)) 0 (zf .u64 (bs.length : Int)) true
def F9 (w : List Value) : Nat → List Value
 | 0 => zq .u8 32
 | i + 1 => zk (F9 w i) i (.int .u8 (zf .u8 (QP (8 * (i % 4)) (nAt w (i / 4)))))
theorem PS (w : List Value) : ∀ i, U .u8 32 (F9 w i)
 | 0 => Zi ..
 | i + 1 => (PS w i).set _ _
theorem PU (w : List Value) : ∀ j, F9 w (4 * j) = W0 w j
 | 0 => rfl
 | j + 1 => by
  have h0 : QP (8 * ((4 * j) % 4)) (nAt w ((4 * j) / 4)) = nAt w j := by
   rw [show (4 * j) % 4 = 0 by omega, show (4 * j) / 4 = j by omega]
   show Int.fdiv _ 1 = _
   exact Int.fdiv_one _
  have h1 : QP (8 * ((4 * j + 1) % 4)) (nAt w ((4 * j + 1) / 4)) = QP 8 (nAt w j) := by
   rw [show (4 * j + 1) % 4 = 1 by omega, show (4 * j + 1) / 4 = j by omega]
  have h2 : QP (8 * ((4 * j + 2) % 4)) (nAt w ((4 * j + 2) / 4)) = QP 16 (nAt w j) := by
   rw [show (4 * j + 2) % 4 = 2 by omega, show (4 * j + 2) / 4 = j by omega]
  have h3 : QP (8 * ((4 * j + 3) % 4)) (nAt w ((4 * j + 3) / 4)) = QP 24 (nAt w j) := by
   rw [show (4 * j + 3) % 4 = 3 by omega, show (4 * j + 3) / 4 = j by omega]
  show F9 w (4 * j + 1 + 1 + 1 + 1) = W0 w (j + 1)
  unfold F9 F9 F9 F9
  rw [h0, h1, h2, h3, PU w j]
  rfl
end Go.Dx
