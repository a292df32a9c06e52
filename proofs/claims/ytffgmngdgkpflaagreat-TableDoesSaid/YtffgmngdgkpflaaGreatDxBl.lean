/- A part. -/
import Derived.Test.YtffgmngdgkpflaaGreatDxSz
import Derived.Test.YtffgmngdgkpflaaGreatDxOut
set_option linter.unusedVariables false
set_option linter.unusedSimpArgs false
set_option linter.unusedSectionVars false
set_option maxRecDepth 100000
set_option maxHeartbeats 4000000
namespace Go.Dx
open Go
def Hz : Option Value → Int
 | some (.int _ n) => n
 | _ => 0
def nAt (l : List Value) (i : Nat) : Int := Hz (getN l i)
def U (k : IntKind) (n : Nat) (l : List Value) : Prop := l.length = n ∧ ∀ i, i < n → getN l i = some (.int k (nAt l i))
def UA (k : IntKind) (o n : Nat) (l : List Value) : Prop := o + n ≤ l.length ∧ ∀ i, i < n → getN l (o + i) = some (.int k (nAt l (o + i)))
section
variable {k : IntKind} {n o : Nat} {l : List Value}
theorem U.at (h : U k n l) {i : Nat} (hi : i < n) : getN l i = some (.int k (nAt l i)) := h.2 i hi
theorem UA.at (h : UA k o n l) {i : Nat} (hi : i < n) : getN l (o + i) = some (.int k (nAt l (o + i))) := h.2 i hi
theorem Yg {i : Nat} {x : Int} (h : getN l i = some (.int k x)) : getN l i = some (.int k (nAt l i)) := by
 rw [h]; unfold nAt; rw [h]; rfl
theorem zZ {i j : Nat} {v : Value} : getN (zk l i v) j = if j = i ∧ i < l.length then some v else getN l j := by
 by_cases hi : i < l.length
 · rw [W6 _ _ _ _ hi]
   simp [hi]
 · rw [if_neg (fun h => hi h.2), Wf, List.set_eq_of_length_le (by omega)]
theorem U.set (h : U k n l) (i : Nat) (x : Int) : U k n (zk l i (.int k x)) := by
 refine ⟨by rw [zI]; exact h.1, fun j hj => ?_⟩
 by_cases e : j = i ∧ i < l.length
 · exact Yg (x := x) (by rw [zZ, if_pos e])
 · exact Yg (x := nAt l j) (by rw [zZ, if_neg e]; exact h.2 j hj)
theorem UA.set (h : UA k o n l) (i : Nat) (x : Int) : UA k o n (zk l i (.int k x)) := by
 refine ⟨by rw [zI]; exact h.1, fun j hj => ?_⟩
 by_cases e : o + j = i ∧ i < l.length
 · exact Yg (x := x) (by rw [zZ, if_pos e])
 · exact Yg (x := nAt l (o + j)) (by rw [zZ, if_neg e]; exact h.2 j hj)
theorem UA.other (h : UA k o n l) {i : Nat} {v : Value} (hi : i < o ∨ o + n ≤ i) : UA k o n (zk l i v) := by
 refine ⟨by rw [zI]; exact h.1, fun j hj => ?_⟩
 exact Yg (x := nAt l (o + j)) (by rw [zZ, if_neg (by omega)]; exact h.2 j hj)
theorem UA.all (h : UA k 0 n l) (hl : l.length = n) : U k n l := ⟨hl, fun i hi => by have := h.2 i hi; rwa [Nat.zero_add] at this⟩
theorem U.part (h : U k n l) {m : Nat} (hm : m ≤ n) : UA k 0 m l := ⟨by rw [h.1]; omega, fun i hi => by rw [Nat.zero_add]; exact h.2 i (by omega)⟩
theorem YH {l' : List Value} {i : Nat} (hi : i < l.length) : getN (l ++ l') i = getN l i := by rw [zw, zw, List.getElem?_append_left hi]
theorem Yi {l' : List Value} {i : Nat} (hi : l.length ≤ i) : getN (l ++ l') i = getN l' (i - l.length) := by rw [zw, zw, List.getElem?_append_right hi]
theorem U.app {m : Nat} {l' : List Value} (h : U k n l) (h' : U k m l') : U k (n + m) (l ++ l') := by
 refine ⟨by rw [List.length_append, h.1, h'.1], fun i hi => ?_⟩
 by_cases hn : i < n
 · exact Yg (x := nAt l i) (by rw [YH (by rw [h.1]; exact hn)]; exact h.2 i hn)
 · exact Yg (x := nAt l' (i - n)) (by rw [Yi (by rw [h.1]; omega), h.1]; exact h'.2 _ (by omega))
def cut (o n : Nat) (l : List Value) : List Value := (l.drop o).take n
theorem Qw (h : o + n ≤ l.length) : (cut o n l).length = n := by unfold cut; rw [List.length_take, List.length_drop]; omega
theorem W8 {i : Nat} (hi : i < n) : getN (cut o n l) i = getN l (o + i) := by
 unfold cut
 rw [zw, zw, List.getElem?_take, if_pos hi, List.getElem?_drop]
theorem UA.cut (h : UA k o n l) : U k n (cut o n l) := ⟨Qw h.1, fun i hi => Yg (x := nAt l (o + i)) (by rw [W8 hi]; exact h.2 i hi)⟩
theorem UA.sub (h : UA k o n l) {m : Nat} (hm : m ≤ n) : UA k o m l := ⟨by have := h.1; omega, fun i hi => h.2 i (by omega)⟩
theorem U.one (h : U k n l) : ∀ x, x ∈ l → ze x = true := fun x hx => by
 obtain ⟨i, hi, e⟩ := List.getElem_of_mem hx
 have := h.2 i (by rw [← h.1]; exact hi)
 rw [zw, List.getElem?_eq_getElem hi] at this
 rw [← e, Option.some.inj this]; rfl
theorem Dd : ∀ {l : List Value}, (∀ x, x ∈ l → ze x = true) → allOne l = true
 | [], _ => rfl
 | x :: l, h => by
  unfold allOne
  rw [h x (List.mem_cons_self ..), Dd fun y hy => h y (List.mem_cons_of_mem _ hy)]; rfl
theorem U.allOne (h : U k n l) : Go.Dx.allOne l = true := Dd h.one
def JA (l : List Value) : List (List Value) := l.map fun v => [v]
theorem Yo : (JA l).length = l.length := List.length_map ..
theorem Yf : ∀ {l : List Value}, (JA l).flatten = l
 | [] => rfl
 | x :: l => by show [x] ++ (JA l).flatten = _; rw [Yf]; rfl
end
def copyV (sz : Nat) (x y : Value) (s : DS) : Option (Value × DS) := zn (fun o => match o with | .const v => v | _ => zK) s (.bcopy sz (.const x) (.const y))
theorem Du {call : zy} {ρ : Operand → Value} {R : Value × DS → Prop} {s : DS} {z : Nat} {x y : Operand} : W (dop call ρ s (.bcopy z x y)) R = W (copyV z (ρ x) (ρ y) s) R := by
 rw [Kv rfl]
 rfl
theorem Tj {s : DS} {b off : Nat} {sp : Option Nat} {n c : Nat} {l : List Value} {ro : Bool} (hg : s.get b = some (.cells (.list l) ro)) (h : off + n ≤ l.length) : SlV s 1 (.slice (some ⟨b, off, sp⟩) n c) (JA (cut off n l)) := by
 refine .inr ⟨b, off, sp, c, by rw [Yo, Qw h], ?_⟩
 unfold DS.read
 rw [hg]
 simp only
 rw [Yo, Qw h, Nat.mul_one, zQ _ _ _ h, Yf]; rfl
theorem VA {s : DS} {b off n c : Nat} {sp : Option Nat} {l : List Value} {y : Value} {src : List Value} (hg : s.get b = some (.cells (.list l) false)) (hw : s.wr b = true) (hn : off + n ≤ l.length)
 (hy : SlV s 1 y (JA src)) (ho : ∀ x, x ∈ src → ze x = true) :
 W (copyV 1 (.slice (some ⟨b, off, sp⟩) n c) y s) fun r => r.1 = .int .i64 ((min n src.length : Nat) : Int) ∧ Ext [b] s r.2 ∧ r.2.get b = some (.cells (.list (l.take off ++ (src.take (min n src.length) ++ l.drop (off + min n src.length)))) false) := by
 obtain ⟨hl, hs⟩ := Xi hy
 rw [Yo] at hl hs
 have hm : (if Nat.ble src.length n then src.length else n) = min n src.length := by
  by_cases h : src.length ≤ n
  · rw [Nat.ble_eq.mpr h, if_pos rfl]; omega
  · have : Nat.ble src.length n = false := by rw [zD]; omega
    rw [this]; simp; omega
 have hs2 : Yb s 1 y (min n src.length) = some (src.take (min n src.length)) := by
  rcases hy with ⟨rfl, h0⟩ | ⟨b2, o2, sp2, c2, rfl, hr⟩
  · have : src = [] := by simpa [JA] using h0
    subst this; simp [Yb]
  · show s.read b2 o2 _ = _
    rw [Yo, Nat.mul_one, Yf] at hr
    rw [Nat.mul_one]
    unfold DS.read at hr ⊢
    split at hr
    · rename_i c3 ro3 hg3
      obtain ⟨_, h2⟩ := WV hr
      refine Qg (by rw [List.length_take]; omega) fun i hi => ?_
      rw [h2 i (by omega), List.getElem?_take, if_pos hi]
    · cases hr
 have ha : allOne (src.take (min n src.length)) = true := Dd fun x hx => ho x (List.mem_of_mem_take hx)
 have hlen : (src.take (min n src.length)).length = min n src.length := by rw [List.length_take]; omega
 have hc : (!(Nat.beq (src.take (min n src.length)).length (min n src.length * 1) && allOne (src.take (min n src.length)))) = false := by
  rw [hlen, Nat.mul_one, Nat.beq_refl, ha]; rfl
 by_cases h0 : min n src.length = 0
 · refine W.intro (a := (.int .i64 ((min n src.length : Nat) : Int), s)) ?_ ⟨rfl, .refl, ?_⟩
   · have e0 : Nat.beq (min n src.length) 0 = true := by rw [h0]; rfl
     simp only [copyV, zn, hl, hm, hs2, hc, e0, z3, if_false, if_true]
   · rw [hg, h0]; simp
 · have hb0 : Nat.beq (min n src.length) 0 = false := Dr h0
   have hwr : s.write b off (src.take (min n src.length)) = some (s.upd b (.cells (.list (l.take off ++ (src.take (min n src.length) ++ l.drop (off + min n src.length)))) false)) := by
    rw [DS.write_eq]
    unfold DS.wrC
    rw [hg]
    have e3 : (Nat.ble (off + (src.take (min n src.length)).length) (Cells.list l).size && s.wr b) = true := by
     rw [hw, Bool.and_true]
     refine Nat.ble_eq.mpr ?_
     show _ ≤ l.length
     rw [hlen]; omega
    simp only [e3, if_true]
    rw [ZC _ _ _ (by rw [hlen]; omega), hlen]
   refine W.intro (a := (.int .i64 ((min n src.length : Nat) : Int), s.upd b (.cells (.list (l.take off ++ (src.take (min n src.length) ++ l.drop (off + min n src.length)))) false))) ?_ ⟨rfl, Ext.upd (.inl (by simp)), ?_⟩
   · simp only [copyV, zn, hl, hm, hs2, hc, hb0, hwr, z3, if_false]
   · simp only [DS.upd_get_self, hg, Option.map_some]
def YD (a b c d : Nat) (x y : Int) (l : List Value) : List Value := Pq a b c d x y (nAt l a) (nAt l b) (nAt l c) (nAt l d) l
theorem U.stir {l : List Value} (h : U .u32 16 l) (a b c d : Nat) (x y : Int) : U .u32 16 (YD a b c d x y l) := by
 unfold YD Pq
 exact (((((((h.set _ _).set _ _).set _ _).set _ _).set _ _).set _ _).set _ _).set _ _
theorem QO {E : Env} {r st : Nat} (hst : E.fn st = some (J0 r)) (his : E.intr st = none) (hr : E.fn r = some Vp) (hir : E.intr r = none) (a b c d : Nat) {s : DS} {k : Nat} {l : List Value} {x y : Int}
 (hg : s.get k = some (.cells (.list l) false)) (hw : s.wr k = true) (hU : U .u32 16 l)
 (hc : (Nat.blt a 16 && Nat.blt b 16 && Nat.blt c 16 && Nat.blt d 16 && D0 a b && D0 a c && D0 a d && D0 b c && D0 b d && D0 c d) = true) (n : Nat) :
 W (dcall E (n + 2) (.func (.func st) #[] #[]) [.pointer (some ⟨k, 0, none⟩), .int .i64 (Int.ofNat a), .int .i64 (Int.ofNat b), .int .i64 (Int.ofNat c), .int .i64 (Int.ofNat d), .int .u32 x, .int .u32 y] s)
  fun r => r.1 = .tuple #[] ∧ Ext [k] s r.2 ∧ r.2.get k = some (.cells (.list (YD a b c d x y l)) false) := by
 simp only [Bool.and_eq_true] at hc
 obtain ⟨⟨⟨⟨⟨⟨⟨⟨⟨ha, hb⟩, hc⟩, hd⟩, ab⟩, ac⟩, ad⟩, bc⟩, bd⟩, cd⟩ := hc
 have lt := fun {i : Nat} (h : Nat.blt i 16 = true) => Nat.le_of_ble_eq_true h
 refine W.intro (Pp hst his hr hir hg hw ha hb hc hd (Ji ab) (Ji ac) (Ji ad) (Ji bc) (Ji bd) (Ji cd) (hU.at (lt ha)) (hU.at (lt hb)) (hU.at (lt hc)) (hU.at (lt hd)) n) ⟨rfl, ?_, ?_⟩
 · have e : wrS s k (YD a b c d x y l) = s.upd k (.cells (.list (YD a b c d x y l)) false) := by
    unfold DS.upd
    rw [if_pos (by rw [hg]; rfl)]; rfl
   show Ext [k] s (wrS s k (YD a b c d x y l))
   rw [e]
   exact Ext.upd (.inl (List.mem_cons_self ..))
 · exact FV (by rw [hg]; rfl)
def PY : List (List Nat) := [[0, 1, 2, 3, 4, 5, 6, 7, 8, 9, 10, 11, 12, 13, 14, 15], [14, 10, 4, 8, 9, 15, 13, 6, 1, 12, 0, 2, 11, 7, 5, 3], [11, 8, 12, 0, 5, 2, 15, 13, 10, 14, 3, 6, 7, 1, 9, 4], [7, 9, 3, 1, 13, 12, 11, 14, 2, 6, 5, 10, 4, 0, 15, 8], [9, 0, 5, 7, 2, 4, 10, 15, 14, 1, 11, 12, 6, 8, 3, 13], [2, 12, 6, 10, 0, 11, 8, 3, 4, 13, 7, 5, 15, 14, 1, 9], [12, 5, 1, 15, 14, 13, 4, 10, 0, 7, 6, 3, 9, 2, 8, 11], [13, 11, 7, 14, 12, 1, 3, 9, 5, 0, 15, 4, 8, 6, 2, 10], [6, 15, 14, 9, 11, 3, 0, 8, 12, 2, 13, 7, 1, 4, 10, 5], [10, 2, 8, 4, 7, 6, 1, 5, 15, 11, 9, 14, 3, 12, 13, 0]]
def ivL : List Value := [.int .u32 1779033703, .int .u32 3144134277, .int .u32 1013904242, .int .u32 2773480762, .int .u32 1359893119, .int .u32 2600822924, .int .u32 528734635, .int .u32 1541459225]
def zq (k : IntKind) (n : Nat) : List Value := List.replicate n (.int k 0)
def Hv : List Value := PY.flatten.map fun n => .int .u8 ((n : Nat) : Int)
def VQ (j : Nat) : List Value := ((PY[j]?).getD []).map fun n => .int .u8 ((n : Nat) : Int)
def Yq (j i : Nat) : Nat := (((PY[j]?).getD [])[i]?).getD 0
theorem PW : ∀ j, j < 10 → (Cells.list Hv).take (j * 16) 16 = some (VQ j)
 | 0, _ | 1, _ | 2, _ | 3, _ | 4, _ | 5, _ | 6, _ | 7, _ | 8, _ | 9, _ => rfl
 | _ + 10, h => by omega
theorem KD : ∀ j, j < 10 → ∀ i, i < 16 → Yq j i < 16 := by decide
theorem Vo : ∀ j, j < 10 → (VQ j).length = 16
 | 0, _ | 1, _ | 2, _ | 3, _ | 4, _ | 5, _ | 6, _ | 7, _ | 8, _ | 9, _ => rfl
 | _ + 10, h => by omega
theorem Ms : ∀ j, j < 10 → allOne (VQ j) = true
 | 0, _ | 1, _ | 2, _ | 3, _ | 4, _ | 5, _ | 6, _ | 7, _ | 8, _ | 9, _ => rfl
 | _ + 10, h => by omega
theorem PV {j i : Nat} (hj : j < 10) (hi : i < 16) : getN (VQ j) i = some (.int .u8 ((Yq j i : Nat) : Int)) := by
 have hl := Vo j hj
 unfold VQ at hl
 rw [List.length_map] at hl
 unfold VQ Yq
 rw [zw, List.getElem?_map, List.getElem?_eq_getElem (by rw [hl]; exact hi)]
 rfl
theorem Zi (k : IntKind) (n : Nat) : U k n (zq k n) := ⟨List.length_replicate, fun i hi => Yg (x := 0) (by unfold zq; rw [zw, List.getElem?_replicate, if_pos hi])⟩
theorem HC : U .u32 8 ivL := ⟨rfl, fun i hi => by
 match i, hi with
 | 0, _ | 1, _ | 2, _ | 3, _ | 4, _ | 5, _ | 6, _ | 7, _ => rfl
 | _ + 8, h => omega⟩
def Pz (r : Nat → Nat) (m v : List Value) : List Value :=
 YD 3 4 9 14 (nAt m (r 14)) (nAt m (r 15)) (YD 2 7 8 13 (nAt m (r 12)) (nAt m (r 13)) (YD 1 6 11 12 (nAt m (r 10)) (nAt m (r 11)) (YD 0 5 10 15 (nAt m (r 8)) (nAt m (r 9))
  (YD 3 7 11 15 (nAt m (r 6)) (nAt m (r 7)) (YD 2 6 10 14 (nAt m (r 4)) (nAt m (r 5)) (YD 1 5 9 13 (nAt m (r 2)) (nAt m (r 3)) (YD 0 4 8 12 (nAt m (r 0)) (nAt m (r 1)) v)))))))
theorem U.round {r : Nat → Nat} {m v : List Value} (h : U .u32 16 v) : U .u32 16 (Pz r m v) := (((((((h.stir ..).stir ..).stir ..).stir ..).stir ..).stir ..).stir ..).stir ..
def ZZ (m v : List Value) : Nat → List Value
 | 0 => v
 | j + 1 => Pz (Yq j) m (ZZ m v j)
theorem U.rounds {m v : List Value} (h : U .u32 16 v) : ∀ j, U .u32 16 (ZZ m v j)
 | 0 => h
 | j + 1 => (h.rounds j).round
def QF (lp v : List Value) : Nat → List Value
 | 0 => lp
 | j + 1 => zk (QF lp v j) j (.int .u32 (Yz (nAt lp j) (Yz (nAt v j) (nAt v (j + 8)))))
theorem TW {lp v : List Value} (h : UA .u32 0 8 lp) : ∀ j, UA .u32 0 8 (QF lp v j)
 | 0 => h
 | j + 1 => (TW h j).set _ _
theorem JW {lp v : List Value} : ∀ {j i : Nat}, j ≤ i → getN (QF lp v j) i = getN lp i
 | 0, _, _ => rfl
 | j + 1, i, h => by
  show getN (zk _ _ _) _ = _
  rw [zZ, if_neg (by omega)]
  exact JW (by omega)
theorem VD {lp v : List Value} : ∀ {j : Nat}, (QF lp v j).length = lp.length
 | 0 => rfl
 | j + 1 => by show (zk _ _ _).length = _; rw [zI]; exact VD
def LS (a b : Int) : Int := zf .u32 (Int.ofNat (low .u32 a ||| low .u32 b))
def Fg (n : Nat) (a : Int) : Int := zf .u32 (a * Int.ofNat (2 ^ n))
def QP (n : Nat) (a : Int) : Int := a.fdiv (Int.ofNat (2 ^ n))
theorem Lb {a : Int} : Zx .shl .u32 a 8 = some (.int .u32 (Fg 8 a)) := rfl
theorem Pv {a : Int} : Zx .shl .u32 a 16 = some (.int .u32 (Fg 16 a)) := rfl
theorem Pu {a : Int} : Zx .shl .u32 a 24 = some (.int .u32 (Fg 24 a)) := rfl
theorem Hl {a : Int} : Zx .shr .u32 a 8 = some (.int .u32 (QP 8 a)) := rfl
theorem LL {a : Int} : Zx .shr .u32 a 16 = some (.int .u32 (QP 16 a)) := rfl
theorem LK {a : Int} : Zx .shr .u32 a 24 = some (.int .u32 (QP 24 a)) := rfl
theorem VL {a : Int} : Zx .shr .u64 a 32 = some (.int .u64 (QP 32 a)) := rfl
def M8 (l : List Value) (o : Nat) : Int :=
 LS (LS (LS (zf .u32 (nAt l o)) (Fg 8 (zf .u32 (nAt l (o + 1))))) (Fg 16 (zf .u32 (nAt l (o + 2))))) (Fg 24 (zf .u32 (nAt l (o + 3))))
def mF (l : List Value) (o : Nat) : Nat → List Value
 | 0 => zq .u32 16
 | j + 1 => zk (mF l o j) j (.int .u32 (M8 l (o + 4 * j)))
theorem P4 (l : List Value) (o : Nat) : ∀ j, U .u32 16 (mF l o j)
 | 0 => Zi ..
 | j + 1 => (P4 l o j).set _ _
theorem MZ : zP (.int .i64 0) = some 0 := rfl
theorem HN : zP (.int .i64 1) = some 1 := rfl
theorem HJ : zP (.int .i64 2) = some 2 := rfl
theorem HI : zP (.int .i64 3) = some 3 := rfl
theorem Ej : zP (.int .i64 4) = some 4 := rfl
theorem Ei : zP (.int .i64 5) = some 5 := rfl
theorem Eh : zP (.int .i64 6) = some 6 := rfl
theorem Eg : zP (.int .i64 7) = some 7 := rfl
theorem Ef : zP (.int .i64 8) = some 8 := rfl
theorem Ee : zP (.int .i64 9) = some 9 := rfl
theorem HM : zP (.int .i64 10) = some 10 := rfl
theorem HL : zP (.int .i64 11) = some 11 := rfl
theorem CZ : zP (.int .i64 12) = some 12 := rfl
theorem CY : zP (.int .i64 13) = some 13 := rfl
theorem CX : zP (.int .i64 14) = some 14 := rfl
theorem HK : zP (.int .i64 15) = some 15 := rfl
theorem JN {last : Bool} {call : zy} {lf : Nat} {r : Bool} {a b : DCode} {x : St} {K K' : DExit → St → Prop} (h : FI (.bool last) call lf r a b x K) (hk : ∀ e y, K e y → K' e y) : FI (.bool last) call lf r a b x K' := by
 cases last
 · rw [Q7] at h ⊢; exact Ri h hk
 · rw [JM] at h ⊢; exact Ri h hk
theorem YW {l : List Value} {i j : Nat} {v : Value} (h : j ≠ i) : getN (zk l i v) j = getN l j := WA (Ne.symm h)
def vbF (lp : List Value) : List Value := cut 0 8 lp ++ ivL
theorem Ph {lp : List Value} (h : UA .u32 0 8 lp) : U .u32 16 (vbF lp) := h.cut.app HC
theorem H3 {lp : List Value} (h : UA .u32 0 8 lp) : (zq .u32 16).take 0 ++ ((cut 0 (8 - 0) lp).take (min (16 - 0) (cut 0 (8 - 0) lp).length) ++ (zq .u32 16).drop (0 + min (16 - 0) (cut 0 (8 - 0) lp).length)) = cut 0 8 lp ++ zq .u32 8 := by
 have := h.cut.1
 simp only [Nat.sub_zero, this, List.take_zero, List.nil_append]
 rw [List.take_of_length_le (by rw [this]; decide)]; rfl
theorem H1 {lp : List Value} (h : UA .u32 0 8 lp) : (cut 0 8 lp ++ zq .u32 8).take 8 ++ ((cut 0 (8 - 0) ivL).take (min (16 - 8) (cut 0 (8 - 0) ivL).length) ++ (cut 0 8 lp ++ zq .u32 8).drop (8 + min (16 - 8) (cut 0 (8 - 0) ivL).length)) = vbF lp := by
 have := h.cut.1
 rw [List.take_append_of_le_length (by rw [this]; decide), List.take_of_length_le (by rw [this]; decide), show min (16 - 8) (cut 0 (8 - 0) ivL).length = 8 from rfl, List.drop_of_length_le (by rw [List.length_append, this]; decide), List.append_nil]
 rfl
def v1F (lp : List Value) (t : Int) : List Value := zk (zk (vbF lp) 12 (.int .u32 (Yz (nAt (vbF lp) 12) (zf .u32 t)))) 13 (.int .u32 (Yz (nAt (vbF lp) 13) (zf .u32 (QP 32 t))))
def v0F (lp : List Value) (t : Int) (last : Bool) : List Value :=
 if last then zk (v1F lp t) 14 (.int .u32 (Yz (if W5 .u32 = true then -1 else Int.ofNat (zN .u32 - 1)) (nAt (vbF lp) 14))) else v1F lp t
theorem Hi {lp : List Value} (h : UA .u32 0 8 lp) (t : Int) (last : Bool) : U .u32 16 (v0F lp t last) := by
 unfold v0F
 split
 · exact (((Ph h).set _ _).set _ _).set _ _
 · exact ((Ph h).set _ _).set _ _
def Yj (lp lq : List Value) (o : Nat) (t : Int) (last : Bool) : List Value := QF lp (ZZ (mF lq o 16) (v0F lp t last) 10) 8
theorem JQ {n c : Nat} : Zy n c none none none = some (0, n, c) := rfl
theorem NM : Zy 16 16 (some (.int .i64 8)) none none = some (8, 16, 16) := rfl
theorem CW {n : Nat} : zP (.int .u8 (n : Int)) = some n := by
 unfold zP
 simp
def nOf (H : List Value) : Nat := (nAt H 72).toNat
structure HOk (H : List Value) (n : Nat) : Prop where
 len : H.length = 74
 hw : UA .u32 0 8 H
 hb : UA .u8 8 64 H
 hn : getN H 72 = some (.int .i64 ((n : Nat) : Int))
 ha : getN H 73 = some (.int .u64 (nAt H 73))
 le : n ≤ 64
def u8s (r : List Int) : List Value := r.map fun n => .int .u8 n
theorem DE (r : List Int) : U .u8 r.length (u8s r) := ⟨List.length_map .., fun i hi => Yg (x := r[i]) (by unfold u8s; rw [zw, List.getElem?_map, List.getElem?_eq_getElem hi]; rfl)⟩
def h0L : List Value := .int .u32 (Yz 1779033703 16842784) :: (ivL.drop 1 ++ (zq .u8 64 ++ [.int .i64 0, .int .u64 0]))
def YI (H : List Value) : List Value :=
 zk (Yj (zk H 73 (.int .u64 (zf .u64 (nAt H 73 + 64)))) (zk H 73 (.int .u64 (zf .u64 (nAt H 73 + 64)))) 8 (zf .u64 (nAt H 73 + 64)) false) 72 (.int .i64 0)
def Yr (H : List Value) (r : List Int) : List Value :=
 zk (H.take (8 + nOf H) ++ ((u8s r).take (min (64 - nOf H) (u8s r).length) ++ H.drop (8 + nOf H + min (64 - nOf H) (u8s r).length))) 72 (.int .i64 ((nOf H + min (64 - nOf H) r.length : Nat) : Int))
def Za (H : List Value) : List Value := if nOf H = 64 then YI H else H
def QB : Nat → List Value → List Int → List Value
 | 0, H, _ => H
 | _ + 1, H, [] => H
 | f + 1, H, x :: r => QB f (Yr (Za H) (x :: r)) ((x :: r).drop (min (64 - nOf (Za H)) (x :: r).length))
theorem HOk.cnt {H : List Value} {n : Nat} (h : HOk H n) : nOf H = n := by
 unfold nOf nAt
 rw [h.hn]; rfl
theorem Vm {lp lq : List Value} {o : Nat} {t : Int} {last : Bool} (h : UA .u32 0 8 lp) : UA .u32 0 8 (Yj lp lq o t last) := TW h 8
theorem VE {lp lq : List Value} {o : Nat} {t : Int} {last : Bool} {i : Nat} (h : 8 ≤ i) : getN (Yj lp lq o t last) i = getN lp i := JW h
theorem QG {lp lq : List Value} {o : Nat} {t : Int} {last : Bool} : (Yj lp lq o t last).length = lp.length := VD
theorem HOk.flush {H : List Value} {n : Nat} (h : HOk H n) : HOk (YI H) 0 := by
 have h1 : UA .u32 0 8 (zk H 73 (.int .u64 (zf .u64 (nAt H 73 + 64)))) := h.hw.other (.inr (by omega))
 have hl : (Yj (zk H 73 (.int .u64 (zf .u64 (nAt H 73 + 64)))) (zk H 73 (.int .u64 (zf .u64 (nAt H 73 + 64)))) 8 (zf .u64 (nAt H 73 + 64)) false).length = 74 := by rw [QG, zI]; exact h.len
 refine ⟨by unfold YI; rw [zI]; exact hl, (Vm h1).other (.inr (by omega)), ?_, ?_, ?_, by omega⟩
 · have : UA .u8 8 64 (Yj (zk H 73 (.int .u64 (zf .u64 (nAt H 73 + 64)))) (zk H 73 (.int .u64 (zf .u64 (nAt H 73 + 64)))) 8 (zf .u64 (nAt H 73 + 64)) false) := by
    refine ⟨by rw [hl]; decide, fun i hi => ?_⟩
    refine Yg (x := nAt H (8 + i)) ?_
    rw [VE (by omega), zZ, if_neg (by omega)]
    exact h.hb.2 i hi
   exact this.other (.inr (by omega))
 · unfold YI
   rw [zZ, if_pos ⟨rfl, by rw [hl]; decide⟩]; rfl
 · refine Yg (x := zf .u64 (nAt H 73 + 64)) ?_
   unfold YI
   rw [zZ, if_neg (by omega), VE (by omega), zZ, if_pos ⟨rfl, by rw [h.len]; decide⟩]
theorem HOk.full {H : List Value} {n : Nat} (h : HOk H n) : ∃ m, m < 64 ∧ HOk (Za H) m ∧ nOf (Za H) = m := by
 unfold Za
 split
 · exact ⟨0, by omega, h.flush, h.flush.cnt⟩
 · rename_i hn
   rw [h.cnt] at hn
   have := h.le
   exact ⟨n, by omega, h, h.cnt⟩
theorem F7 {H : List Value} {n : Nat} (h : HOk H n) (r : List Int) : (H.take (8 + nOf H) ++ ((u8s r).take (min (64 - nOf H) (u8s r).length) ++ H.drop (8 + nOf H + min (64 - nOf H) (u8s r).length))).length = 74 := by
 have hl := h.len
 have hle := h.le
 rw [h.cnt]
 simp only [List.length_append, List.length_take, List.length_drop, hl]
 omega
theorem Vt {H : List Value} {n : Nat} (h : HOk H n) (r : List Int) {i : Nat} (hi : i < 8 + n ∨ 72 ≤ i) : getN (H.take (8 + nOf H) ++ ((u8s r).take (min (64 - nOf H) (u8s r).length) ++ H.drop (8 + nOf H + min (64 - nOf H) (u8s r).length))) i = getN H i := by
 have hl := h.len
 have hle := h.le
 rw [h.cnt]
 have hl1 : (H.take (8 + n)).length = 8 + n := by rw [List.length_take, hl]; omega
 have hl2 : ((u8s r).take (min (64 - n) (u8s r).length)).length = min (64 - n) (u8s r).length := by rw [List.length_take]; omega
 by_cases h1 : i < 8 + n
 · rw [YH (by rw [hl1]; exact h1), zw, zw, List.getElem?_take, if_pos h1]
 · rw [Yi (by rw [hl1]; omega), Yi (by rw [hl1, hl2]; omega), zw, zw, List.getElem?_drop, hl1, hl2]
   congr 1
   omega
theorem HOk.put {H : List Value} {n : Nat} (h : HOk H n) (r : List Int) : HOk (Yr H r) (n + min (64 - n) r.length) := by
 have hl := h.len
 have hle := h.le
 have hpl := F7 h r
 have hlen : (u8s r).length = r.length := List.length_map ..
 refine ⟨by unfold Yr; rw [zI]; exact hpl, ?_, ?_, ?_, ?_, by omega⟩
 · refine UA.other ⟨by rw [hpl]; decide, fun i hi => ?_⟩ (.inr (by omega))
   exact Yg (x := nAt H (0 + i)) (by rw [Vt h r (by omega)]; exact h.hw.2 i hi)
 · refine UA.other ⟨by rw [hpl]; decide, fun i hi => ?_⟩ (.inr (by omega))
   rw [h.cnt]
   have hl1 : (H.take (8 + n)).length = 8 + n := by rw [List.length_take, hl]; omega
   have hl2 : ((u8s r).take (min (64 - n) (u8s r).length)).length = min (64 - n) (u8s r).length := by rw [List.length_take]; omega
   by_cases h1 : 8 + i < 8 + n
   · refine Yg (x := nAt H (8 + i)) ?_
     rw [YH (by rw [hl1]; exact h1), zw, List.getElem?_take, if_pos h1, ← zw]
     exact h.hb.2 i hi
   · by_cases h2 : 8 + i - (8 + n) < min (64 - n) (u8s r).length
     · refine Yg (x := nAt (u8s r) (8 + i - (8 + n))) ?_
       rw [Yi (by rw [hl1]; omega), YH (by rw [hl1, hl2]; exact h2), hl1, zw, List.getElem?_take, if_pos h2, ← zw]
       exact (DE r).2 _ (by rw [hlen] at h2; omega)
     · refine Yg (x := nAt H (8 + i)) ?_
       rw [Yi (by rw [hl1]; omega), Yi (by rw [hl1, hl2]; omega), zw, List.getElem?_drop, hl1, hl2, ← zw, show 8 + n + min (64 - n) (u8s r).length + (8 + i - (8 + n) - min (64 - n) (u8s r).length) = 8 + i by omega]
       exact h.hb.2 i hi
 · unfold Yr
   rw [zZ, if_pos ⟨rfl, by rw [hpl]; decide⟩, h.cnt]
 · refine Yg (x := nAt H 73) ?_
   unfold Yr
   rw [zZ, if_neg (by omega), Vt h r (by omega)]
   exact h.ha
def SlR (s : DS) (v : Value) (r : List Int) : Prop :=
 (v = .slice none 0 0 ∧ r = []) ∨ ∃ b off sp c, v = .slice (some ⟨b, off, sp⟩) r.length c ∧ (sp = none ∨ sp = some 1) ∧ r.length ≤ c ∧ s.read b off r.length = some (u8s r)
theorem YP (r : List Int) : zC r = JA (u8s r) := by unfold zC JA u8s; rw [List.map_map]; rfl
theorem SlR.view {s : DS} {v : Value} {r : List Int} (h : SlR s v r) : SlV s 1 v (JA (u8s r)) := by
 have hl : (JA (u8s r)).length = r.length := by rw [Yo]; exact List.length_map ..
 rcases h with ⟨rfl, rfl⟩ | ⟨b, off, sp, c, rfl, _, _, h3⟩
 · exact .inl ⟨rfl, rfl⟩
 · exact .inr ⟨b, off, sp, c, by rw [hl], by rw [hl, Nat.mul_one, Yf]; exact h3⟩
theorem SlR.keep {s s' : DS} {v : Value} {r : List Int} {F : List Nat} (h : SlR s v r) (e : Ext F s s') (hd : ∀ k, k ∈ blk v → k ∉ F) : SlR s' v r := by
 rcases h with h | ⟨b, off, sp, c, rfl, h1, h2, h3⟩
 · exact .inl h
 · refine .inr ⟨b, off, sp, c, rfl, h1, h2, ?_⟩
   unfold DS.read at h3 ⊢
   split at h3
   · rename_i cc ro hg
     rw [e.keep hg (hd b (by simp [blk]))]
     exact h3
   · cases h3
theorem SlR.len {s : DS} {v : Value} {r : List Int} (h : SlR s v r) : ∃ a c, v = .slice a r.length c := by
 rcases h with ⟨rfl, rfl⟩ | ⟨b, off, sp, c, rfl, _⟩
 · exact ⟨_, _, rfl⟩
 · exact ⟨_, _, rfl⟩
theorem SlR.drop {s : DS} {v : Value} {r : List Int} (h : SlR s v r) {i : Nat} (hi : i ≤ r.length) : ∃ w, slV 1 v (some (.int .i64 (i : Int))) none none = some w ∧ SlR s w (r.drop i) ∧ ∀ k, k ∈ blk w → k ∈ blk v := by
 rcases h with ⟨rfl, rfl⟩ | ⟨b, off, sp, c, rfl, h1, h2, h3⟩
 · obtain rfl : i = 0 := by simpa using hi
   exact ⟨.slice none 0 0, rfl, .inl ⟨rfl, rfl⟩, fun k hk => hk⟩
 · refine ⟨.slice (some ⟨b, off + i * 1, sp⟩) (r.length - i) (c - i), ?_, .inr ⟨b, off + i * 1, sp, c - i, by rw [List.length_drop], h1, by rw [List.length_drop]; omega, ?_⟩, fun k hk => by simpa [blk] using hk⟩
   · unfold slV Zy
     simp only [Zz, Nat.ble_eq.mpr hi, if_true, Option.isSome_none]
     rcases h1 with rfl | rfl
     · rfl
     · simp only [ZU, z3, if_false, Nat.beq_refl, if_true]
   · unfold DS.read at h3 ⊢
     split at h3
     · obtain ⟨_, h4⟩ := WV h3
       refine Qg (by simp [u8s]) fun j hj => ?_
       rw [List.length_drop] at hj
       rw [show off + i * 1 + j = off + (i + j) by omega, h4 (i + j) (by omega)]
       unfold u8s
       rw [List.getElem?_map, List.getElem?_map, List.getElem?_drop]
     · cases h3
def TP (H : List Value) (n : Nat) : List Value := (zq .u8 64).take 0 ++ ((cut 8 n H).take (min (64 - 0) (cut 8 n H).length) ++ (zq .u8 64).drop (0 + min (64 - 0) (cut 8 n H).length))
theorem HH {H : List Value} {n : Nat} (h : UA .u8 8 64 H) (hn : n ≤ 64) : U .u8 64 (TP H n) := by
 have h1 : U .u8 n (cut 8 n H) := (h.sub hn).cut
 have h2 : (zq .u8 64).drop n = zq .u8 (64 - n) := by unfold zq; rw [List.drop_replicate]
 unfold TP
 rw [h1.1, List.take_zero, List.nil_append, Nat.zero_add, show min (64 - 0) n = n by omega, List.take_of_length_le (by rw [h1.1]; exact Nat.le_refl _), h2]
 have := h1.app (Zi .u8 (64 - n))
 rwa [show n + (64 - n) = 64 by omega] at this
def W0 (w : List Value) : Nat → List Value
 | 0 => zq .u8 32
 | j + 1 => zk (zk (zk (zk (W0 w j) (4 * j) (.int .u8 (zf .u8 (nAt w j)))) (4 * j + 1) (.int .u8 (zf .u8 (QP 8 (nAt w j))))) (4 * j + 2) (.int .u8 (zf .u8 (QP 16 (nAt w j))))) (4 * j + 3) (.int .u8 (zf .u8 (QP 24 (nAt w j))))
theorem Fr (w : List Value) : ∀ j, U .u8 32 (W0 w j)
 | 0 => Zi ..
 | j + 1 => ((((Fr w j).set _ _).set _ _).set _ _).set _ _
def Dn (H : List Value) : List Value := W0 (Yj (cut 0 8 H) (TP H (nOf H)) 0 (zf .u64 (nAt H 73 + zf .u64 (nOf H : Nat))) true) 8
theorem Lh : HOk h0L 0 := ⟨rfl, ⟨by decide, fun i hi => by
 match i, hi with
 | 0, _ | 1, _ | 2, _ | 3, _ | 4, _ | 5, _ | 6, _ | 7, _ => rfl
 | _ + 8, h => omega⟩, ⟨by decide, fun i hi => by
 have h2 : UA .u8 0 64 (zq .u8 64 ++ [.int .i64 0, .int .u64 0]) := ⟨by decide, fun i hi => Yg (x := 0) (by rw [Nat.zero_add, YH (by rw [(Zi .u8 64).1]; exact hi)]; have := (Zi .u8 64).2 i hi; unfold zq; rw [zw, List.getElem?_replicate, if_pos hi])⟩
 have h3 := h2.2 i hi
 rw [Nat.zero_add] at h3
 refine Yg (x := nAt (zq .u8 64 ++ [.int .i64 0, .int .u64 0]) i) ?_
 rw [← h3, show h0L = (.int .u32 (Yz 1779033703 16842784) :: ivL.drop 1) ++ (zq .u8 64 ++ [.int .i64 0, .int .u64 0]) from rfl, Yi (by show 8 ≤ _; omega)]
 show getN _ (8 + i - 8) = _
 rw [show 8 + i - 8 = i by omega]⟩, rfl, rfl, by omega⟩
theorem Gx (H : List Value) : U .u8 32 (Dn H) := Fr _ 8
def C7 (l : List (List Int)) : List Value := l.foldl (fun H r => QB r.length H r) h0L
theorem FQ (l : List (List Int)) (r : List Int) : C7 (l ++ [r]) = QB r.length (C7 l) r := by unfold C7; rw [List.foldl_append]; rfl
def QN (l : List (List Int)) : List Value := Dn (C7 l)
theorem SlR.lt {s : DS} {v : Value} {r : List Int} (h : SlR s v r) : ∀ k, k ∈ blk v → k < s.next := by
 rcases h with ⟨rfl, rfl⟩ | ⟨b, off, sp, c, rfl, _, _, h3⟩
 · exact fun k hk => by simp [blk] at hk
 · intro k hk
   simp [blk] at hk
   subst hk
   unfold DS.read at h3
   split at h3
   · rename_i cc ro hg
     exact DS.get_lt' hg
   · cases h3
theorem SlR.of {s : DS} {v : Value} {r : List Int} (h : SlV s 1 v (zC r)) (hv : ∃ a, v = .slice a r.length r.length ∧ ∀ x, a = some x → x.spot = none) : SlR s v r := by
 rcases h with ⟨rfl, h0⟩ | ⟨b, off, sp, c, rfl, h1⟩
 · exact .inl ⟨rfl, by simpa [zC] using h0⟩
 · obtain ⟨a, ha, hs⟩ := hv
   injection ha with ha1 ha2 ha3
   have hsp : sp = none := hs ⟨b, off, sp⟩ ha1.symm
   refine .inr ⟨b, off, sp, r.length, by rw [ha2, ha3], .inl hsp, Nat.le_refl _, ?_⟩
   rw [YP, Yf, Yo, Nat.mul_one] at h1
   have hl : (u8s r).length = r.length := List.length_map ..
   rwa [hl] at h1
end Go.Dx
