/- A part. -/
import Derived.Test.YtpfkbiaikfbpeaaGreatDxStir
import Derived.Test.YtpfkbiaikfbpeaaGreatDxOut
set_option linter.unusedVariables false
set_option linter.unusedSimpArgs false
set_option linter.unusedSectionVars false
set_option maxRecDepth 100000
set_option maxHeartbeats 4000000
namespace Go.Dx
open Go
def M7 : Option Value → Int
 | some (.int _ n) => n
 | _ => 0
def nAt (l : List Value) (i : Nat) : Int := M7 (getN l i)
def U (k : IntKind) (n : Nat) (l : List Value) : Prop := l.length = n ∧ ∀ i, i < n → getN l i = some (.int k (nAt l i))
def UA (k : IntKind) (o n : Nat) (l : List Value) : Prop := o + n ≤ l.length ∧ ∀ i, i < n → getN l (o + i) = some (.int k (nAt l (o + i)))
section
variable {k : IntKind} {n o : Nat} {l : List Value}
theorem U.at (h : U k n l) {i : Nat} (hi : i < n) : getN l i = some (.int k (nAt l i)) := h.2 i hi
theorem UA.at (h : UA k o n l) {i : Nat} (hi : i < n) : getN l (o + i) = some (.int k (nAt l (o + i))) := h.2 i hi
theorem YH {i : Nat} {x : Int} (h : getN l i = some (.int k x)) : getN l i = some (.int k (nAt l i)) := by
 rw [h]; unfold nAt; rw [h]; rfl
theorem YM {i j : Nat} {v : Value} : getN (Zd l i v) j = if j = i ∧ i < l.length then some v else getN l j := by
 by_cases hi : i < l.length
 · rw [Jh _ _ _ _ hi]
   simp [hi]
 · rw [if_neg (fun h => hi h.2), QN, List.set_eq_of_length_le (by omega)]
theorem U.set (h : U k n l) (i : Nat) (x : Int) : U k n (Zd l i (.int k x)) := by
 refine ⟨by rw [ZS]; exact h.1, fun j hj => ?_⟩
 by_cases e : j = i ∧ i < l.length
 · exact YH (x := x) (by rw [YM, if_pos e])
 · exact YH (x := nAt l j) (by rw [YM, if_neg e]; exact h.2 j hj)
theorem UA.set (h : UA k o n l) (i : Nat) (x : Int) : UA k o n (Zd l i (.int k x)) := by
 refine ⟨by rw [ZS]; exact h.1, fun j hj => ?_⟩
 by_cases e : o + j = i ∧ i < l.length
 · exact YH (x := x) (by rw [YM, if_pos e])
 · exact YH (x := nAt l (o + j)) (by rw [YM, if_neg e]; exact h.2 j hj)
theorem UA.other (h : UA k o n l) {i : Nat} {v : Value} (hi : i < o ∨ o + n ≤ i) : UA k o n (Zd l i v) := by
 refine ⟨by rw [ZS]; exact h.1, fun j hj => ?_⟩
 exact YH (x := nAt l (o + j)) (by rw [YM, if_neg (by omega)]; exact h.2 j hj)
theorem UA.all (h : UA k 0 n l) (hl : l.length = n) : U k n l := ⟨hl, fun i hi => by have := h.2 i hi; rwa [Nat.zero_add] at this⟩
theorem U.part (h : U k n l) {m : Nat} (hm : m ≤ n) : UA k 0 m l := ⟨by rw [h.1]; omega, fun i hi => by rw [Nat.zero_add]; exact h.2 i (by omega)⟩
theorem WL {l' : List Value} {i : Nat} (hi : i < l.length) : getN (l ++ l') i = getN l i := by rw [ZJ, ZJ, List.getElem?_append_left hi]
theorem Xk {l' : List Value} {i : Nat} (hi : l.length ≤ i) : getN (l ++ l') i = getN l' (i - l.length) := by rw [ZJ, ZJ, List.getElem?_append_right hi]
theorem U.app {m : Nat} {l' : List Value} (h : U k n l) (h' : U k m l') : U k (n + m) (l ++ l') := by
 refine ⟨by rw [List.length_append, h.1, h'.1], fun i hi => ?_⟩
 by_cases hn : i < n
 · exact YH (x := nAt l i) (by rw [WL (by rw [h.1]; exact hn)]; exact h.2 i hn)
 · exact YH (x := nAt l' (i - n)) (by rw [Xk (by rw [h.1]; omega), h.1]; exact h'.2 _ (by omega))
def cut (o n : Nat) (l : List Value) : List Value := (l.drop o).take n
theorem Fa (h : o + n ≤ l.length) : (cut o n l).length = n := by unfold cut; rw [List.length_take, List.length_drop]; omega
theorem SV {i : Nat} (hi : i < n) : getN (cut o n l) i = getN l (o + i) := by
 unfold cut
 rw [ZJ, ZJ, List.getElem?_take, if_pos hi, List.getElem?_drop]
theorem UA.cut (h : UA k o n l) : U k n (cut o n l) := ⟨Fa h.1, fun i hi => YH (x := nAt l (o + i)) (by rw [SV hi]; exact h.2 i hi)⟩
theorem UA.sub (h : UA k o n l) {m : Nat} (hm : m ≤ n) : UA k o m l := ⟨by have := h.1; omega, fun i hi => h.2 i (by omega)⟩
theorem U.one (h : U k n l) : ∀ x, x ∈ l → zQ x = true := fun x hx => by
 obtain ⟨i, hi, e⟩ := List.getElem_of_mem hx
 have := h.2 i (by rw [← h.1]; exact hi)
 rw [ZJ, List.getElem?_eq_getElem hi] at this
 rw [← e, Option.some.inj this]; rfl
theorem G3 : ∀ {l : List Value}, (∀ x, x ∈ l → zQ x = true) → allOne l = true
 | [], _ => rfl
 | x :: l, h => by
  unfold allOne
  rw [h x (List.mem_cons_self ..), G3 fun y hy => h y (List.mem_cons_of_mem _ hy)]; rfl
theorem U.allOne (h : U k n l) : Go.Dx.allOne l = true := G3 h.one
def Jq (l : List Value) : List (List Value) := l.map fun v => [v]
theorem Wv : (Jq l).length = l.length := List.length_map ..
theorem WE : ∀ {l : List Value}, (Jq l).flatten = l
 | [] => rfl
 | x :: l => by show [x] ++ (Jq l).flatten = _; rw [WE]; rfl
end
def copyV (sz : Nat) (x y : Value) (s : DS) : Option (Value × DS) := zG (fun o => match o with | .const v => v | _ => Zb) s (.bcopy sz (.const x) (.const y))
theorem Fk {call : zN} {ρ : Operand → Value} {R : Value × DS → Prop} {s : DS} {z : Nat} {x y : Operand} : W (dop call ρ s (.bcopy z x y)) R = W (copyV z (ρ x) (ρ y) s) R := by
 rw [Fi rfl]
 rfl
theorem DF {s : DS} {b off : Nat} {sp : Option Nat} {n c : Nat} {l : List Value} {ro : Bool} (hg : s.get b = some (.cells (.list l) ro)) (h : off + n ≤ l.length) : SlV s 1 (.slice (some ⟨b, off, sp⟩) n c) (Jq (cut off n l)) := by
 refine .inr ⟨b, off, sp, c, by rw [Wv, Fa h], ?_⟩
 unfold DS.read
 rw [hg]
 simp only
 rw [Wv, Fa h, Nat.mul_one, ZL _ _ _ h, WE]; rfl
theorem K6 {s : DS} {b off n c : Nat} {sp : Option Nat} {l : List Value} {y : Value} {src : List Value} (hg : s.get b = some (.cells (.list l) false)) (hw : s.wr b = true) (hn : off + n ≤ l.length)
 (hy : SlV s 1 y (Jq src)) (ho : ∀ x, x ∈ src → zQ x = true) :
 W (copyV 1 (.slice (some ⟨b, off, sp⟩) n c) y s) fun r => r.1 = .int .i64 ((min n src.length : Nat) : Int) ∧ Ext [b] s r.2 ∧ r.2.get b = some (.cells (.list (l.take off ++ (src.take (min n src.length) ++ l.drop (off + min n src.length)))) false) := by
 obtain ⟨hl, hs⟩ := WA hy
 rw [Wv] at hl hs
 have hm : (if Nat.ble src.length n then src.length else n) = min n src.length := by
  by_cases h : src.length ≤ n
  · rw [Nat.ble_eq.mpr h, if_pos rfl]; omega
  · have : Nat.ble src.length n = false := by rw [YB]; omega
    rw [this]; simp; omega
 have hs2 : Yh s 1 y (min n src.length) = some (src.take (min n src.length)) := by
  rcases hy with ⟨rfl, h0⟩ | ⟨b2, o2, sp2, c2, rfl, hr⟩
  · have : src = [] := by simpa [Jq] using h0
    subst this; simp [Yh]
  · show s.read b2 o2 _ = _
    rw [Wv, Nat.mul_one, WE] at hr
    rw [Nat.mul_one]
    unfold DS.read at hr ⊢
    split at hr
    · rename_i c3 ro3 hg3
      obtain ⟨_, h2⟩ := JK hr
      refine KV (by rw [List.length_take]; omega) fun i hi => ?_
      rw [h2 i (by omega), List.getElem?_take, if_pos hi]
    · cases hr
 have ha : allOne (src.take (min n src.length)) = true := G3 fun x hx => ho x (List.mem_of_mem_take hx)
 have hlen : (src.take (min n src.length)).length = min n src.length := by rw [List.length_take]; omega
 have hc : (!(Nat.beq (src.take (min n src.length)).length (min n src.length * 1) && allOne (src.take (min n src.length)))) = false := by
  rw [hlen, Nat.mul_one, Nat.beq_refl, ha]; rfl
 by_cases h0 : min n src.length = 0
 · refine W.intro (a := (.int .i64 ((min n src.length : Nat) : Int), s)) ?_ ⟨rfl, .refl, ?_⟩
   · have e0 : Nat.beq (min n src.length) 0 = true := by rw [h0]; rfl
     simp only [copyV, zG, hl, hm, hs2, hc, e0, z3, if_false, if_true]
   · rw [hg, h0]; simp
 · have hb0 : Nat.beq (min n src.length) 0 = false := Fd h0
   have hwr : s.write b off (src.take (min n src.length)) = some (s.upd b (.cells (.list (l.take off ++ (src.take (min n src.length) ++ l.drop (off + min n src.length)))) false)) := by
    rw [DS.write_eq]
    unfold DS.wrC
    rw [hg]
    have e3 : (Nat.ble (off + (src.take (min n src.length)).length) (Cells.list l).size && s.wr b) = true := by
     rw [hw, Bool.and_true]
     refine Nat.ble_eq.mpr ?_
     show _ ≤ l.length
     rw [hlen]; omega
    simp only [e3, if_true]
    rw [Yg _ _ _ (by rw [hlen]; omega), hlen]
   refine W.intro (a := (.int .i64 ((min n src.length : Nat) : Int), s.upd b (.cells (.list (l.take off ++ (src.take (min n src.length) ++ l.drop (off + min n src.length)))) false))) ?_ ⟨rfl, Ext.upd (.inl (by simp)), ?_⟩
   · simp only [copyV, zG, hl, hm, hs2, hc, hb0, hwr, z3, if_false]
   · simp only [DS.upd_get_self, hg, Option.map_some]
def WW (a b c d : Nat) (x y : Int) (l : List Value) : List Value := Fx a b c d x y (nAt l a) (nAt l b) (nAt l c) (nAt l d) l
theorem U.stir {l : List Value} (h : U .u32 16 l) (a b c d : Nat) (x y : Int) : U .u32 16 (WW a b c d x y l) := by
 unfold WW Fx
 exact (((((((h.set _ _).set _ _).set _ _).set _ _).set _ _).set _ _).set _ _).set _ _
theorem QM {E : Env} {r st : Nat} (hst : E.fn st = some (YR r)) (his : E.intr st = none) (hr : E.fn r = some Wb) (hir : E.intr r = none) (a b c d : Nat) {s : DS} {k : Nat} {l : List Value} {x y : Int}
 (hg : s.get k = some (.cells (.list l) false)) (hw : s.wr k = true) (hU : U .u32 16 l)
 (hc : (Nat.blt a 16 && Nat.blt b 16 && Nat.blt c 16 && Nat.blt d 16 && Qj a b && Qj a c && Qj a d && Qj b c && Qj b d && Qj c d) = true) (n : Nat) :
 W (dcall E (n + 2) (.func (.func st) #[] #[]) [.pointer (some ⟨k, 0, none⟩), .int .i64 (Int.ofNat a), .int .i64 (Int.ofNat b), .int .i64 (Int.ofNat c), .int .i64 (Int.ofNat d), .int .u32 x, .int .u32 y] s)
  fun r => r.1 = .tuple #[] ∧ Ext [k] s r.2 ∧ r.2.get k = some (.cells (.list (WW a b c d x y l)) false) := by
 simp only [Bool.and_eq_true] at hc
 obtain ⟨⟨⟨⟨⟨⟨⟨⟨⟨ha, hb⟩, hc⟩, hd⟩, ab⟩, ac⟩, ad⟩, bc⟩, bd⟩, cd⟩ := hc
 have lt := fun {i : Nat} (h : Nat.blt i 16 = true) => Nat.le_of_ble_eq_true h
 refine W.intro (Fw hst his hr hir hg hw ha hb hc hd (Ym ab) (Ym ac) (Ym ad) (Ym bc) (Ym bd) (Ym cd) (hU.at (lt ha)) (hU.at (lt hb)) (hU.at (lt hc)) (hU.at (lt hd)) n) ⟨rfl, ?_, ?_⟩
 · have e : wrS s k (WW a b c d x y l) = s.upd k (.cells (.list (WW a b c d x y l)) false) := by
    unfold DS.upd
    rw [if_pos (by rw [hg]; rfl)]; rfl
   show Ext [k] s (wrS s k (WW a b c d x y l))
   rw [e]
   exact Ext.upd (.inl (List.mem_cons_self ..))
 · exact GR (by rw [hg]; rfl)
def NE : List (List Nat) := [[0, 1, 2, 3, 4, 5, 6, 7, 8, 9, 10, 11, 12, 13, 14, 15], [14, 10, 4, 8, 9, 15, 13, 6, 1, 12, 0, 2, 11, 7, 5, 3], [11, 8, 12, 0, 5, 2, 15, 13, 10, 14, 3, 6, 7, 1, 9, 4], [7, 9, 3, 1, 13, 12, 11, 14, 2, 6, 5, 10, 4, 0, 15, 8], [9, 0, 5, 7, 2, 4, 10, 15, 14, 1, 11, 12, 6, 8, 3, 13], [2, 12, 6, 10, 0, 11, 8, 3, 4, 13, 7, 5, 15, 14, 1, 9], [12, 5, 1, 15, 14, 13, 4, 10, 0, 7, 6, 3, 9, 2, 8, 11], [13, 11, 7, 14, 12, 1, 3, 9, 5, 0, 15, 4, 8, 6, 2, 10], [6, 15, 14, 9, 11, 3, 0, 8, 12, 2, 13, 7, 1, 4, 10, 5], [10, 2, 8, 4, 7, 6, 1, 5, 15, 11, 9, 14, 3, 12, 13, 0]]
def ivL : List Value := [.int .u32 1779033703, .int .u32 3144134277, .int .u32 1013904242, .int .u32 2773480762, .int .u32 1359893119, .int .u32 2600822924, .int .u32 528734635, .int .u32 1541459225]
def z6 (k : IntKind) (n : Nat) : List Value := List.replicate n (.int k 0)
def Mt : List Value := NE.flatten.map fun n => .int .u8 ((n : Nat) : Int)
def Vu (j : Nat) : List Value := ((NE[j]?).getD []).map fun n => .int .u8 ((n : Nat) : Int)
def Qi (j i : Nat) : Nat := (((NE[j]?).getD [])[i]?).getD 0
theorem SH : ∀ j, j < 10 → (Cells.list Mt).take (j * 16) 16 = some (Vu j)
 | 0, _ | 1, _ | 2, _ | 3, _ | 4, _ | 5, _ | 6, _ | 7, _ | 8, _ | 9, _ => rfl
 | _ + 10, h => by omega
theorem Sr : ∀ j, j < 10 → ∀ i, i < 16 → Qi j i < 16 := by decide
theorem KX : ∀ j, j < 10 → (Vu j).length = 16
 | 0, _ | 1, _ | 2, _ | 3, _ | 4, _ | 5, _ | 6, _ | 7, _ | 8, _ | 9, _ => rfl
 | _ + 10, h => by omega
theorem R7 : ∀ j, j < 10 → allOne (Vu j) = true
 | 0, _ | 1, _ | 2, _ | 3, _ | 4, _ | 5, _ | 6, _ | 7, _ | 8, _ | 9, _ => rfl
 | _ + 10, h => by omega
theorem SG {j i : Nat} (hj : j < 10) (hi : i < 16) : getN (Vu j) i = some (.int .u8 ((Qi j i : Nat) : Int)) := by
 have hl := KX j hj
 unfold Vu at hl
 rw [List.length_map] at hl
 unfold Vu Qi
 rw [ZJ, List.getElem?_map, List.getElem?_eq_getElem (by rw [hl]; exact hi)]
 rfl
theorem YP (k : IntKind) (n : Nat) : U k n (z6 k n) := ⟨List.length_replicate, fun i hi => YH (x := 0) (by unfold z6; rw [ZJ, List.getElem?_replicate, if_pos hi])⟩
theorem My : U .u32 8 ivL := ⟨rfl, fun i hi => by
 match i, hi with
 | 0, _ | 1, _ | 2, _ | 3, _ | 4, _ | 5, _ | 6, _ | 7, _ => rfl
 | _ + 8, h => omega⟩
def Ss (r : Nat → Nat) (m v : List Value) : List Value :=
 WW 3 4 9 14 (nAt m (r 14)) (nAt m (r 15)) (WW 2 7 8 13 (nAt m (r 12)) (nAt m (r 13)) (WW 1 6 11 12 (nAt m (r 10)) (nAt m (r 11)) (WW 0 5 10 15 (nAt m (r 8)) (nAt m (r 9))
  (WW 3 7 11 15 (nAt m (r 6)) (nAt m (r 7)) (WW 2 6 10 14 (nAt m (r 4)) (nAt m (r 5)) (WW 1 5 9 13 (nAt m (r 2)) (nAt m (r 3)) (WW 0 4 8 12 (nAt m (r 0)) (nAt m (r 1)) v)))))))
theorem U.round {r : Nat → Nat} {m v : List Value} (h : U .u32 16 v) : U .u32 16 (Ss r m v) := (((((((h.stir ..).stir ..).stir ..).stir ..).stir ..).stir ..).stir ..).stir ..
def Q8 (m v : List Value) : Nat → List Value
 | 0 => v
 | j + 1 => Ss (Qi j) m (Q8 m v j)
theorem U.rounds {m v : List Value} (h : U .u32 16 v) : ∀ j, U .u32 16 (Q8 m v j)
 | 0 => h
 | j + 1 => (h.rounds j).round
def Dz (lp v : List Value) : Nat → List Value
 | 0 => lp
 | j + 1 => Zd (Dz lp v j) j (.int .u32 (Wm (nAt lp j) (Wm (nAt v j) (nAt v (j + 8)))))
theorem Cf {lp v : List Value} (h : UA .u32 0 8 lp) : ∀ j, UA .u32 0 8 (Dz lp v j)
 | 0 => h
 | j + 1 => (Cf h j).set _ _
theorem Ve {lp v : List Value} : ∀ {j i : Nat}, j ≤ i → getN (Dz lp v j) i = getN lp i
 | 0, _, _ => rfl
 | j + 1, i, h => by
  show getN (Zd _ _ _) _ = _
  rw [YM, if_neg (by omega)]
  exact Ve (by omega)
theorem Vd {lp v : List Value} : ∀ {j : Nat}, (Dz lp v j).length = lp.length
 | 0 => rfl
 | j + 1 => by show (Zd _ _ _).length = _; rw [ZS]; exact Vd
def NF (a b : Int) : Int := zR .u32 (Int.ofNat (low .u32 a ||| low .u32 b))
def Gv (n : Nat) (a : Int) : Int := zR .u32 (a * Int.ofNat (2 ^ n))
def Fz (n : Nat) (a : Int) : Int := a.fdiv (Int.ofNat (2 ^ n))
theorem Ml {a : Int} : ZZ .shl .u32 a 8 = some (.int .u32 (Gv 8 a)) := rfl
theorem Nz {a : Int} : ZZ .shl .u32 a 16 = some (.int .u32 (Gv 16 a)) := rfl
theorem Ny {a : Int} : ZZ .shl .u32 a 24 = some (.int .u32 (Gv 24 a)) := rfl
theorem Mk {a : Int} : ZZ .shr .u32 a 8 = some (.int .u32 (Fz 8 a)) := rfl
theorem Nx {a : Int} : ZZ .shr .u32 a 16 = some (.int .u32 (Fz 16 a)) := rfl
theorem Nw {a : Int} : ZZ .shr .u32 a 24 = some (.int .u32 (Fz 24 a)) := rfl
theorem Sc {a : Int} : ZZ .shr .u64 a 32 = some (.int .u64 (Fz 32 a)) := rfl
def Mc (l : List Value) (o : Nat) : Int :=
 NF (NF (NF (zR .u32 (nAt l o)) (Gv 8 (zR .u32 (nAt l (o + 1))))) (Gv 16 (zR .u32 (nAt l (o + 2))))) (Gv 24 (zR .u32 (nAt l (o + 3))))
def mF (l : List Value) (o : Nat) : Nat → List Value
 | 0 => z6 .u32 16
 | j + 1 => Zd (mF l o j) j (.int .u32 (Mc l (o + 4 * j)))
theorem Pl (l : List Value) (o : Nat) : ∀ j, U .u32 16 (mF l o j)
 | 0 => YP ..
 | j + 1 => (Pl l o j).set _ _
theorem NW : Zj (.int .i64 0) = some 0 := rfl
theorem MU : Zj (.int .i64 1) = some 1 := rfl
theorem MQ : Zj (.int .i64 2) = some 2 := rfl
theorem MP : Zj (.int .i64 3) = some 3 := rfl
theorem Lh : Zj (.int .i64 4) = some 4 := rfl
theorem Lg : Zj (.int .i64 5) = some 5 := rfl
theorem Lf : Zj (.int .i64 6) = some 6 := rfl
theorem Le : Zj (.int .i64 7) = some 7 := rfl
theorem Ld : Zj (.int .i64 8) = some 8 := rfl
theorem Lc : Zj (.int .i64 9) = some 9 := rfl
theorem MT : Zj (.int .i64 10) = some 10 := rfl
theorem MS : Zj (.int .i64 11) = some 11 := rfl
theorem RJ : Zj (.int .i64 12) = some 12 := rfl
theorem RG : Zj (.int .i64 13) = some 13 := rfl
theorem RF : Zj (.int .i64 14) = some 14 := rfl
theorem MR : Zj (.int .i64 15) = some 15 := rfl
theorem V3 {last : Bool} {call : zN} {lf : Nat} {r : Bool} {a b : DCode} {x : St} {K K' : DExit → St → Prop} (h : GK (.bool last) call lf r a b x K) (hk : ∀ e y, K e y → K' e y) : GK (.bool last) call lf r a b x K' := by
 cases last
 · rw [zv] at h ⊢; exact CP h hk
 · rw [zS] at h ⊢; exact CP h hk
theorem QV {l : List Value} {i j : Nat} {v : Value} (h : j ≠ i) : getN (Zd l i v) j = getN l j := QW (Ne.symm h)
def vbF (lp : List Value) : List Value := cut 0 8 lp ++ ivL
theorem No {lp : List Value} (h : UA .u32 0 8 lp) : U .u32 16 (vbF lp) := h.cut.app My
theorem M2 {lp : List Value} (h : UA .u32 0 8 lp) : (z6 .u32 16).take 0 ++ ((cut 0 (8 - 0) lp).take (min (16 - 0) (cut 0 (8 - 0) lp).length) ++ (z6 .u32 16).drop (0 + min (16 - 0) (cut 0 (8 - 0) lp).length)) = cut 0 8 lp ++ z6 .u32 8 := by
 have := h.cut.1
 simp only [Nat.sub_zero, this, List.take_zero, List.nil_append]
 rw [List.take_of_length_le (by rw [this]; decide)]; rfl
theorem M1 {lp : List Value} (h : UA .u32 0 8 lp) : (cut 0 8 lp ++ z6 .u32 8).take 8 ++ ((cut 0 (8 - 0) ivL).take (min (16 - 8) (cut 0 (8 - 0) ivL).length) ++ (cut 0 8 lp ++ z6 .u32 8).drop (8 + min (16 - 8) (cut 0 (8 - 0) ivL).length)) = vbF lp := by
 have := h.cut.1
 rw [List.take_append_of_le_length (by rw [this]; decide), List.take_of_length_le (by rw [this]; decide), show min (16 - 8) (cut 0 (8 - 0) ivL).length = 8 from rfl, List.drop_of_length_le (by rw [List.length_append, this]; decide), List.append_nil]
 rfl
def v1F (lp : List Value) (t : Int) : List Value := Zd (Zd (vbF lp) 12 (.int .u32 (Wm (nAt (vbF lp) 12) (zR .u32 t)))) 13 (.int .u32 (Wm (nAt (vbF lp) 13) (zR .u32 (Fz 32 t))))
def v0F (lp : List Value) (t : Int) (last : Bool) : List Value :=
 if last then Zd (v1F lp t) 14 (.int .u32 (Wm (if Wi .u32 = true then -1 else Int.ofNat (Zt .u32 - 1)) (nAt (vbF lp) 14))) else v1F lp t
theorem M3 {lp : List Value} (h : UA .u32 0 8 lp) (t : Int) (last : Bool) : U .u32 16 (v0F lp t last) := by
 unfold v0F
 split
 · exact (((No h).set _ _).set _ _).set _ _
 · exact ((No h).set _ _).set _ _
def JH (lp lq : List Value) (o : Nat) (t : Int) (last : Bool) : List Value := Dz lp (Q8 (mF lq o 16) (v0F lp t last) 10) 8
theorem JE {n c : Nat} : ZQ n c none none none = some (0, n, c) := rfl
theorem Ry : ZQ 16 16 (some (.int .i64 8)) none none = some (8, 16, 16) := rfl
theorem Do {n : Nat} : Zj (.int .u8 (n : Int)) = some n := by
 unfold Zj
 simp
def nOf (H : List Value) : Nat := (nAt H 72).toNat
structure HOk (H : List Value) (n : Nat) : Prop where
 len : H.length = 74
 hw : UA .u32 0 8 H
 hb : UA .u8 8 64 H
 hn : getN H 72 = some (.int .i64 ((n : Nat) : Int))
 ha : getN H 73 = some (.int .u64 (nAt H 73))
 le : n ≤ 64
def u8s (r : List Int) : List Value := r.map fun n => .int .u8 n
theorem TI (r : List Int) : U .u8 r.length (u8s r) := ⟨List.length_map .., fun i hi => YH (x := r[i]) (by unfold u8s; rw [ZJ, List.getElem?_map, List.getElem?_eq_getElem hi]; rfl)⟩
def h0L : List Value := .int .u32 (Wm 1779033703 16842784) :: (ivL.drop 1 ++ (z6 .u8 64 ++ [.int .i64 0, .int .u64 0]))
def Km (H : List Value) : List Value :=
 Zd (JH (Zd H 73 (.int .u64 (zR .u64 (nAt H 73 + 64)))) (Zd H 73 (.int .u64 (zR .u64 (nAt H 73 + 64)))) 8 (zR .u64 (nAt H 73 + 64)) false) 72 (.int .i64 0)
def Gh (H : List Value) (r : List Int) : List Value :=
 Zd (H.take (8 + nOf H) ++ ((u8s r).take (min (64 - nOf H) (u8s r).length) ++ H.drop (8 + nOf H + min (64 - nOf H) (u8s r).length))) 72 (.int .i64 ((nOf H + min (64 - nOf H) r.length : Nat) : Int))
def YA (H : List Value) : List Value := if nOf H = 64 then Km H else H
def Fh : Nat → List Value → List Int → List Value
 | 0, H, _ => H
 | _ + 1, H, [] => H
 | f + 1, H, x :: r => Fh f (Gh (YA H) (x :: r)) ((x :: r).drop (min (64 - nOf (YA H)) (x :: r).length))
theorem HOk.cnt {H : List Value} {n : Nat} (h : HOk H n) : nOf H = n := by
 unfold nOf nAt
 rw [h.hn]; rfl
theorem Cj {lp lq : List Value} {o : Nat} {t : Int} {last : Bool} (h : UA .u32 0 8 lp) : UA .u32 0 8 (JH lp lq o t last) := Cf h 8
theorem Ft {lp lq : List Value} {o : Nat} {t : Int} {last : Bool} {i : Nat} (h : 8 ≤ i) : getN (JH lp lq o t last) i = getN lp i := Ve h
theorem Vh {lp lq : List Value} {o : Nat} {t : Int} {last : Bool} : (JH lp lq o t last).length = lp.length := Vd
theorem HOk.flush {H : List Value} {n : Nat} (h : HOk H n) : HOk (Km H) 0 := by
 have h1 : UA .u32 0 8 (Zd H 73 (.int .u64 (zR .u64 (nAt H 73 + 64)))) := h.hw.other (.inr (by omega))
 have hl : (JH (Zd H 73 (.int .u64 (zR .u64 (nAt H 73 + 64)))) (Zd H 73 (.int .u64 (zR .u64 (nAt H 73 + 64)))) 8 (zR .u64 (nAt H 73 + 64)) false).length = 74 := by rw [Vh, ZS]; exact h.len
 refine ⟨by unfold Km; rw [ZS]; exact hl, (Cj h1).other (.inr (by omega)), ?_, ?_, ?_, by omega⟩
 · have : UA .u8 8 64 (JH (Zd H 73 (.int .u64 (zR .u64 (nAt H 73 + 64)))) (Zd H 73 (.int .u64 (zR .u64 (nAt H 73 + 64)))) 8 (zR .u64 (nAt H 73 + 64)) false) := by
    refine ⟨by rw [hl]; decide, fun i hi => ?_⟩
    refine YH (x := nAt H (8 + i)) ?_
    rw [Ft (by omega), YM, if_neg (by omega)]
    exact h.hb.2 i hi
   exact this.other (.inr (by omega))
 · unfold Km
   rw [YM, if_pos ⟨rfl, by rw [hl]; decide⟩]; rfl
 · refine YH (x := zR .u64 (nAt H 73 + 64)) ?_
   unfold Km
   rw [YM, if_neg (by omega), Ft (by omega), YM, if_pos ⟨rfl, by rw [h.len]; decide⟩]
theorem HOk.full {H : List Value} {n : Nat} (h : HOk H n) : ∃ m, m < 64 ∧ HOk (YA H) m ∧ nOf (YA H) = m := by
 unfold YA
 split
 · exact ⟨0, by omega, h.flush, h.flush.cnt⟩
 · rename_i hn
   rw [h.cnt] at hn
   have := h.le
   exact ⟨n, by omega, h, h.cnt⟩
theorem G0 {H : List Value} {n : Nat} (h : HOk H n) (r : List Int) : (H.take (8 + nOf H) ++ ((u8s r).take (min (64 - nOf H) (u8s r).length) ++ H.drop (8 + nOf H + min (64 - nOf H) (u8s r).length))).length = 74 := by
 have hl := h.len
 have hle := h.le
 rw [h.cnt]
 simp only [List.length_append, List.length_take, List.length_drop, hl]
 omega
theorem G1 {H : List Value} {n : Nat} (h : HOk H n) (r : List Int) {i : Nat} (hi : i < 8 + n ∨ 72 ≤ i) : getN (H.take (8 + nOf H) ++ ((u8s r).take (min (64 - nOf H) (u8s r).length) ++ H.drop (8 + nOf H + min (64 - nOf H) (u8s r).length))) i = getN H i := by
 have hl := h.len
 have hle := h.le
 rw [h.cnt]
 have hl1 : (H.take (8 + n)).length = 8 + n := by rw [List.length_take, hl]; omega
 have hl2 : ((u8s r).take (min (64 - n) (u8s r).length)).length = min (64 - n) (u8s r).length := by rw [List.length_take]; omega
 by_cases h1 : i < 8 + n
 · rw [WL (by rw [hl1]; exact h1), ZJ, ZJ, List.getElem?_take, if_pos h1]
 · rw [Xk (by rw [hl1]; omega), Xk (by rw [hl1, hl2]; omega), ZJ, ZJ, List.getElem?_drop, hl1, hl2]
   congr 1
   omega
theorem HOk.put {H : List Value} {n : Nat} (h : HOk H n) (r : List Int) : HOk (Gh H r) (n + min (64 - n) r.length) := by
 have hl := h.len
 have hle := h.le
 have hpl := G0 h r
 have hlen : (u8s r).length = r.length := List.length_map ..
 refine ⟨by unfold Gh; rw [ZS]; exact hpl, ?_, ?_, ?_, ?_, by omega⟩
 · refine UA.other ⟨by rw [hpl]; decide, fun i hi => ?_⟩ (.inr (by omega))
   exact YH (x := nAt H (0 + i)) (by rw [G1 h r (by omega)]; exact h.hw.2 i hi)
 · refine UA.other ⟨by rw [hpl]; decide, fun i hi => ?_⟩ (.inr (by omega))
   rw [h.cnt]
   have hl1 : (H.take (8 + n)).length = 8 + n := by rw [List.length_take, hl]; omega
   have hl2 : ((u8s r).take (min (64 - n) (u8s r).length)).length = min (64 - n) (u8s r).length := by rw [List.length_take]; omega
   by_cases h1 : 8 + i < 8 + n
   · refine YH (x := nAt H (8 + i)) ?_
     rw [WL (by rw [hl1]; exact h1), ZJ, List.getElem?_take, if_pos h1, ← ZJ]
     exact h.hb.2 i hi
   · by_cases h2 : 8 + i - (8 + n) < min (64 - n) (u8s r).length
     · refine YH (x := nAt (u8s r) (8 + i - (8 + n))) ?_
       rw [Xk (by rw [hl1]; omega), WL (by rw [hl1, hl2]; exact h2), hl1, ZJ, List.getElem?_take, if_pos h2, ← ZJ]
       exact (TI r).2 _ (by rw [hlen] at h2; omega)
     · refine YH (x := nAt H (8 + i)) ?_
       rw [Xk (by rw [hl1]; omega), Xk (by rw [hl1, hl2]; omega), ZJ, List.getElem?_drop, hl1, hl2, ← ZJ, show 8 + n + min (64 - n) (u8s r).length + (8 + i - (8 + n) - min (64 - n) (u8s r).length) = 8 + i by omega]
       exact h.hb.2 i hi
 · unfold Gh
   rw [YM, if_pos ⟨rfl, by rw [hpl]; decide⟩, h.cnt]
 · refine YH (x := nAt H 73) ?_
   unfold Gh
   rw [YM, if_neg (by omega), G1 h r (by omega)]
   exact h.ha
def SlR (s : DS) (v : Value) (r : List Int) : Prop :=
 (v = .slice none 0 0 ∧ r = []) ∨ ∃ b off sp c, v = .slice (some ⟨b, off, sp⟩) r.length c ∧ (sp = none ∨ sp = some 1) ∧ r.length ≤ c ∧ s.read b off r.length = some (u8s r)
theorem Dl (r : List Int) : Zy r = Jq (u8s r) := by unfold Zy Jq u8s; rw [List.map_map]; rfl
theorem SlR.view {s : DS} {v : Value} {r : List Int} (h : SlR s v r) : SlV s 1 v (Jq (u8s r)) := by
 have hl : (Jq (u8s r)).length = r.length := by rw [Wv]; exact List.length_map ..
 rcases h with ⟨rfl, rfl⟩ | ⟨b, off, sp, c, rfl, _, _, h3⟩
 · exact .inl ⟨rfl, rfl⟩
 · exact .inr ⟨b, off, sp, c, by rw [hl], by rw [hl, Nat.mul_one, WE]; exact h3⟩
theorem SlR.keep {s s' : DS} {v : Value} {r : List Int} {F : List Nat} (h : SlR s v r) (e : Ext F s s') (hd : ∀ k, k ∈ blk v → k ∉ F) : SlR s' v r := by
 rcases h with h | ⟨b, off, sp, c, rfl, h1, h2, h3⟩
 · exact .inl h
 · refine .inr ⟨b, off, sp, c, rfl, h1, h2, ?_⟩
   unfold DS.read at h3 ⊢
   split at h3
   · rename_i cc ro hg
     rw [e.keep hg (hd b (by simp [blk]))]
     exact h3
   · cases h3
theorem SlR.len {s : DS} {v : Value} {r : List Int} (h : SlR s v r) : ∃ a c, v = .slice a r.length c := by
 rcases h with ⟨rfl, rfl⟩ | ⟨b, off, sp, c, rfl, _⟩
 · exact ⟨_, _, rfl⟩
 · exact ⟨_, _, rfl⟩
theorem SlR.drop {s : DS} {v : Value} {r : List Int} (h : SlR s v r) {i : Nat} (hi : i ≤ r.length) : ∃ w, slV 1 v (some (.int .i64 (i : Int))) none none = some w ∧ SlR s w (r.drop i) ∧ ∀ k, k ∈ blk w → k ∈ blk v := by
 rcases h with ⟨rfl, rfl⟩ | ⟨b, off, sp, c, rfl, h1, h2, h3⟩
 · obtain rfl : i = 0 := by simpa using hi
   exact ⟨.slice none 0 0, rfl, .inl ⟨rfl, rfl⟩, fun k hk => hk⟩
 · refine ⟨.slice (some ⟨b, off + i * 1, sp⟩) (r.length - i) (c - i), ?_, .inr ⟨b, off + i * 1, sp, c - i, by rw [List.length_drop], h1, by rw [List.length_drop]; omega, ?_⟩, fun k hk => by simpa [blk] using hk⟩
   · unfold slV ZQ
     simp only [zW, Nat.ble_eq.mpr hi, if_true, Option.isSome_none]
     rcases h1 with rfl | rfl
     · rfl
     · simp only [Ye, z3, if_false, Nat.beq_refl, if_true]
   · unfold DS.read at h3 ⊢
     split at h3
     · obtain ⟨_, h4⟩ := JK h3
       refine KV (by simp [u8s]) fun j hj => ?_
       rw [List.length_drop] at hj
       rw [show off + i * 1 + j = off + (i + j) by omega, h4 (i + j) (by omega)]
       unfold u8s
       rw [List.getElem?_map, List.getElem?_map, List.getElem?_drop]
     · cases h3
def Rz (H : List Value) (n : Nat) : List Value := (z6 .u8 64).take 0 ++ ((cut 8 n H).take (min (64 - 0) (cut 8 n H).length) ++ (z6 .u8 64).drop (0 + min (64 - 0) (cut 8 n H).length))
theorem MN {H : List Value} {n : Nat} (h : UA .u8 8 64 H) (hn : n ≤ 64) : U .u8 64 (Rz H n) := by
 have h1 : U .u8 n (cut 8 n H) := (h.sub hn).cut
 have h2 : (z6 .u8 64).drop n = z6 .u8 (64 - n) := by unfold z6; rw [List.drop_replicate]
 unfold Rz
 rw [h1.1, List.take_zero, List.nil_append, Nat.zero_add, show min (64 - 0) n = n by omega, List.take_of_length_le (by rw [h1.1]; exact Nat.le_refl _), h2]
 have := h1.app (YP .u8 (64 - n))
 rwa [show n + (64 - n) = 64 by omega] at this
def Gi (w : List Value) : Nat → List Value
 | 0 => z6 .u8 32
 | j + 1 => Zd (Zd (Zd (Zd (Gi w j) (4 * j) (.int .u8 (zR .u8 (nAt w j)))) (4 * j + 1) (.int .u8 (zR .u8 (Fz 8 (nAt w j))))) (4 * j + 2) (.int .u8 (zR .u8 (Fz 16 (nAt w j))))) (4 * j + 3) (.int .u8 (zR .u8 (Fz 24 (nAt w j))))
theorem Cr (w : List Value) : ∀ j, U .u8 32 (Gi w j)
 | 0 => YP ..
 | j + 1 => ((((Cr w j).set _ _).set _ _).set _ _).set _ _
def To (H : List Value) : List Value := Gi (JH (cut 0 8 H) (Rz H (nOf H)) 0 (zR .u64 (nAt H 73 + zR .u64 (nOf H : Nat))) true) 8
theorem MA : HOk h0L 0 := ⟨rfl, ⟨by decide, fun i hi => by
 match i, hi with
 | 0, _ | 1, _ | 2, _ | 3, _ | 4, _ | 5, _ | 6, _ | 7, _ => rfl
 | _ + 8, h => omega⟩, ⟨by decide, fun i hi => by
 have h2 : UA .u8 0 64 (z6 .u8 64 ++ [.int .i64 0, .int .u64 0]) := ⟨by decide, fun i hi => YH (x := 0) (by rw [Nat.zero_add, WL (by rw [(YP .u8 64).1]; exact hi)]; have := (YP .u8 64).2 i hi; unfold z6; rw [ZJ, List.getElem?_replicate, if_pos hi])⟩
 have h3 := h2.2 i hi
 rw [Nat.zero_add] at h3
 refine YH (x := nAt (z6 .u8 64 ++ [.int .i64 0, .int .u64 0]) i) ?_
 rw [← h3, show h0L = (.int .u32 (Wm 1779033703 16842784) :: ivL.drop 1) ++ (z6 .u8 64 ++ [.int .i64 0, .int .u64 0]) from rfl, Xk (by show 8 ≤ _; omega)]
 show getN _ (8 + i - 8) = _
 rw [show 8 + i - 8 = i by omega]⟩, rfl, rfl, by omega⟩
theorem V1 (H : List Value) : U .u8 32 (To H) := Cr _ 8
def Du (l : List (List Int)) : List Value := l.foldl (fun H r => Fh r.length H r) h0L
theorem GN (l : List (List Int)) (r : List Int) : Du (l ++ [r]) = Fh r.length (Du l) r := by unfold Du; rw [List.foldl_append]; rfl
def QE (l : List (List Int)) : List Value := To (Du l)
theorem SlR.lt {s : DS} {v : Value} {r : List Int} (h : SlR s v r) : ∀ k, k ∈ blk v → k < s.next := by
 rcases h with ⟨rfl, rfl⟩ | ⟨b, off, sp, c, rfl, _, _, h3⟩
 · exact fun k hk => by simp [blk] at hk
 · intro k hk
   simp [blk] at hk
   subst hk
   unfold DS.read at h3
   split at h3
   · rename_i cc ro hg
     exact DS.get_lt' hg
   · cases h3
theorem SlR.of {s : DS} {v : Value} {r : List Int} (h : SlV s 1 v (Zy r)) (hv : ∃ a, v = .slice a r.length r.length ∧ ∀ x, a = some x → x.spot = none) : SlR s v r := by
 rcases h with ⟨rfl, h0⟩ | ⟨b, off, sp, c, rfl, h1⟩
 · exact .inl ⟨rfl, by simpa [Zy] using h0⟩
 · obtain ⟨a, ha, hs⟩ := hv
   injection ha with ha1 ha2 ha3
   have hsp : sp = none := hs ⟨b, off, sp⟩ ha1.symm
   refine .inr ⟨b, off, sp, r.length, by rw [ha2, ha3], .inl hsp, Nat.le_refl _, ?_⟩
   rw [Dl, WE, Wv, Nat.mul_one] at h1
   have hl : (u8s r).length = r.length := List.length_map ..
   rwa [hl] at h1
end Go.Dx
