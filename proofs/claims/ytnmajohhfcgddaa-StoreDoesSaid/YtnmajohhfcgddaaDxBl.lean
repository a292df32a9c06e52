/- A part. -/
import Derived.Test.YtnmajohhfcgddaaDxStir
import Derived.Test.YtnmajohhfcgddaaDxOut
set_option linter.unusedVariables false
set_option linter.unusedSimpArgs false
set_option linter.unusedSectionVars false
set_option maxRecDepth 100000
set_option maxHeartbeats 4000000
namespace Go.Dx
open Go
def TO : Option Value → Int
 | some (.int _ n) => n
 | _ => 0
def nAt (l : List Value) (i : Nat) : Int := TO (getN l i)
def U (k : IntKind) (n : Nat) (l : List Value) : Prop := l.length = n ∧ ∀ i, i < n → getN l i = some (.int k (nAt l i))
def UA (k : IntKind) (o n : Nat) (l : List Value) : Prop := o + n ≤ l.length ∧ ∀ i, i < n → getN l (o + i) = some (.int k (nAt l (o + i)))
section
variable {k : IntKind} {n o : Nat} {l : List Value}
theorem U.at (h : U k n l) {i : Nat} (hi : i < n) : getN l i = some (.int k (nAt l i)) := h.2 i hi
theorem UA.at (h : UA k o n l) {i : Nat} (hi : i < n) : getN l (o + i) = some (.int k (nAt l (o + i))) := h.2 i hi
theorem Xj {i : Nat} {x : Int} (h : getN l i = some (.int k x)) : getN l i = some (.int k (nAt l i)) := by
 rw [h]; unfold nAt; rw [h]; rfl
theorem ZU {i j : Nat} {v : Value} : getN (Zj l i v) j = if j = i ∧ i < l.length then some v else getN l j := by
 by_cases hi : i < l.length
 · rw [Jb _ _ _ _ hi]
   simp [hi]
 · rw [if_neg (fun h => hi h.2), Wy, List.set_eq_of_length_le (by omega)]
theorem U.set (h : U k n l) (i : Nat) (x : Int) : U k n (Zj l i (.int k x)) := by
 refine ⟨by rw [ZK]; exact h.1, fun j hj => ?_⟩
 by_cases e : j = i ∧ i < l.length
 · exact Xj (x := x) (by rw [ZU, if_pos e])
 · exact Xj (x := nAt l j) (by rw [ZU, if_neg e]; exact h.2 j hj)
theorem UA.set (h : UA k o n l) (i : Nat) (x : Int) : UA k o n (Zj l i (.int k x)) := by
 refine ⟨by rw [ZK]; exact h.1, fun j hj => ?_⟩
 by_cases e : o + j = i ∧ i < l.length
 · exact Xj (x := x) (by rw [ZU, if_pos e])
 · exact Xj (x := nAt l (o + j)) (by rw [ZU, if_neg e]; exact h.2 j hj)
theorem UA.other (h : UA k o n l) {i : Nat} {v : Value} (hi : i < o ∨ o + n ≤ i) : UA k o n (Zj l i v) := by
 refine ⟨by rw [ZK]; exact h.1, fun j hj => ?_⟩
 exact Xj (x := nAt l (o + j)) (by rw [ZU, if_neg (by omega)]; exact h.2 j hj)
theorem UA.all (h : UA k 0 n l) (hl : l.length = n) : U k n l := ⟨hl, fun i hi => by have := h.2 i hi; rwa [Nat.zero_add] at this⟩
theorem U.part (h : U k n l) {m : Nat} (hm : m ≤ n) : UA k 0 m l := ⟨by rw [h.1]; omega, fun i hi => by rw [Nat.zero_add]; exact h.2 i (by omega)⟩
theorem Xn {l' : List Value} {i : Nat} (hi : i < l.length) : getN (l ++ l') i = getN l i := by rw [Zs, Zs, List.getElem?_append_left hi]
theorem Xm {l' : List Value} {i : Nat} (hi : l.length ≤ i) : getN (l ++ l') i = getN l' (i - l.length) := by rw [Zs, Zs, List.getElem?_append_right hi]
theorem U.app {m : Nat} {l' : List Value} (h : U k n l) (h' : U k m l') : U k (n + m) (l ++ l') := by
 refine ⟨by rw [List.length_append, h.1, h'.1], fun i hi => ?_⟩
 by_cases hn : i < n
 · exact Xj (x := nAt l i) (by rw [Xn (by rw [h.1]; exact hn)]; exact h.2 i hn)
 · exact Xj (x := nAt l' (i - n)) (by rw [Xm (by rw [h.1]; omega), h.1]; exact h'.2 _ (by omega))
def cut (o n : Nat) (l : List Value) : List Value := (l.drop o).take n
theorem Jr (h : o + n ≤ l.length) : (cut o n l).length = n := by unfold cut; rw [List.length_take, List.length_drop]; omega
theorem Jc {i : Nat} (hi : i < n) : getN (cut o n l) i = getN l (o + i) := by
 unfold cut
 rw [Zs, Zs, List.getElem?_take, if_pos hi, List.getElem?_drop]
theorem UA.cut (h : UA k o n l) : U k n (cut o n l) := ⟨Jr h.1, fun i hi => Xj (x := nAt l (o + i)) (by rw [Jc hi]; exact h.2 i hi)⟩
theorem UA.sub (h : UA k o n l) {m : Nat} (hm : m ≤ n) : UA k o m l := ⟨by have := h.1; omega, fun i hi => h.2 i (by omega)⟩
theorem U.one (h : U k n l) : ∀ x, x ∈ l → zJ x = true := fun x hx => by
 obtain ⟨i, hi, e⟩ := List.getElem_of_mem hx
 have := h.2 i (by rw [← h.1]; exact hi)
 rw [Zs, List.getElem?_eq_getElem hi] at this
 rw [← e, Option.some.inj this]; rfl
theorem FL : ∀ {l : List Value}, (∀ x, x ∈ l → zJ x = true) → allOne l = true
 | [], _ => rfl
 | x :: l, h => by
  unfold allOne
  rw [h x (List.mem_cons_self ..), FL fun y hy => h y (List.mem_cons_of_mem _ hy)]; rfl
theorem U.allOne (h : U k n l) : Go.Dx.allOne l = true := FL h.one
def J5 (l : List Value) : List (List Value) := l.map fun v => [v]
theorem Xt : (J5 l).length = l.length := List.length_map ..
theorem XH : ∀ {l : List Value}, (J5 l).flatten = l
 | [] => rfl
 | x :: l => by show [x] ++ (J5 l).flatten = _; rw [XH]; rfl
end
def copyV (sz : Nat) (x y : Value) (s : DS) : Option (Value × DS) := z8 (fun o => match o with | .const v => v | _ => ZC) s (.bcopy sz (.const x) (.const y))
theorem F4 {call : Zn} {ρ : Operand → Value} {R : Value × DS → Prop} {s : DS} {z : Nat} {x y : Operand} : W (dop call ρ s (.bcopy z x y)) R = W (copyV z (ρ x) (ρ y) s) R := by
 rw [VO rfl]
 rfl
theorem Cm {s : DS} {b off : Nat} {sp : Option Nat} {n c : Nat} {l : List Value} {ro : Bool} (hg : s.get b = some (.cells (.list l) ro)) (h : off + n ≤ l.length) : SlV s 1 (.slice (some ⟨b, off, sp⟩) n c) (J5 (cut off n l)) := by
 refine .inr ⟨b, off, sp, c, by rw [Xt, Jr h], ?_⟩
 unfold DS.read
 rw [hg]
 simp only
 rw [Xt, Jr h, Nat.mul_one, ZJ _ _ _ h, XH]; rfl
theorem VM {s : DS} {b off n c : Nat} {sp : Option Nat} {l : List Value} {y : Value} {src : List Value} (hg : s.get b = some (.cells (.list l) false)) (hw : s.wr b = true) (hn : off + n ≤ l.length)
 (hy : SlV s 1 y (J5 src)) (ho : ∀ x, x ∈ src → zJ x = true) :
 W (copyV 1 (.slice (some ⟨b, off, sp⟩) n c) y s) fun r => r.1 = .int .i64 ((min n src.length : Nat) : Int) ∧ Ext [b] s r.2 ∧ r.2.get b = some (.cells (.list (l.take off ++ (src.take (min n src.length) ++ l.drop (off + min n src.length)))) false) := by
 obtain ⟨hl, hs⟩ := WQ hy
 rw [Xt] at hl hs
 have hm : (if Nat.ble src.length n then src.length else n) = min n src.length := by
  by_cases h : src.length ≤ n
  · rw [Nat.ble_eq.mpr h, if_pos rfl]; omega
  · have : Nat.ble src.length n = false := by rw [Yb]; omega
    rw [this]; simp; omega
 have hs2 : Y9 s 1 y (min n src.length) = some (src.take (min n src.length)) := by
  rcases hy with ⟨rfl, h0⟩ | ⟨b2, o2, sp2, c2, rfl, hr⟩
  · have : src = [] := by simpa [J5] using h0
    subst this; simp [Y9]
  · show s.read b2 o2 _ = _
    rw [Xt, Nat.mul_one, XH] at hr
    rw [Nat.mul_one]
    unfold DS.read at hr ⊢
    split at hr
    · rename_i c3 ro3 hg3
      obtain ⟨_, h2⟩ := Q4 hr
      refine JR (by rw [List.length_take]; omega) fun i hi => ?_
      rw [h2 i (by omega), List.getElem?_take, if_pos hi]
    · cases hr
 have ha : allOne (src.take (min n src.length)) = true := FL fun x hx => ho x (List.mem_of_mem_take hx)
 have hlen : (src.take (min n src.length)).length = min n src.length := by rw [List.length_take]; omega
 have hc : (!(Nat.beq (src.take (min n src.length)).length (min n src.length * 1) && allOne (src.take (min n src.length)))) = false := by
  rw [hlen, Nat.mul_one, Nat.beq_refl, ha]; rfl
 by_cases h0 : min n src.length = 0
 · refine W.intro (a := (.int .i64 ((min n src.length : Nat) : Int), s)) ?_ ⟨rfl, .refl, ?_⟩
   · have e0 : Nat.beq (min n src.length) 0 = true := by rw [h0]; rfl
     simp only [copyV, z8, hl, hm, hs2, hc, e0, z3, if_false, if_true]
   · rw [hg, h0]; simp
 · have hb0 : Nat.beq (min n src.length) 0 = false := K9 h0
   have hwr : s.write b off (src.take (min n src.length)) = some (s.upd b (.cells (.list (l.take off ++ (src.take (min n src.length) ++ l.drop (off + min n src.length)))) false)) := by
    rw [DS.write_eq]
    unfold DS.wrC
    rw [hg]
    have e3 : (Nat.ble (off + (src.take (min n src.length)).length) (Cells.list l).size && s.wr b) = true := by
     rw [hw, Bool.and_true]
     refine Nat.ble_eq.mpr ?_
     show _ ≤ l.length
     rw [hlen]; omega
    simp only [e3, if_true]
    rw [Yt _ _ _ (by rw [hlen]; omega), hlen]
   refine W.intro (a := (.int .i64 ((min n src.length : Nat) : Int), s.upd b (.cells (.list (l.take off ++ (src.take (min n src.length) ++ l.drop (off + min n src.length)))) false))) ?_ ⟨rfl, Ext.upd (.inl (by simp)), ?_⟩
   · simp only [copyV, z8, hl, hm, hs2, hc, hb0, hwr, z3, if_false]
   · simp only [DS.upd_get_self, hg, Option.map_some]
def Wf (a b c d : Nat) (x y : Int) (l : List Value) : List Value := Sv a b c d x y (nAt l a) (nAt l b) (nAt l c) (nAt l d) l
theorem U.stir {l : List Value} (h : U .u32 16 l) (a b c d : Nat) (x y : Int) : U .u32 16 (Wf a b c d x y l) := by
 unfold Wf Sv
 exact (((((((h.set _ _).set _ _).set _ _).set _ _).set _ _).set _ _).set _ _).set _ _
theorem JD {E : Env} {r st : Nat} (hst : E.fn st = some (Ku r)) (his : E.intr st = none) (hr : E.fn r = some VD) (hir : E.intr r = none) (a b c d : Nat) {s : DS} {k : Nat} {l : List Value} {x y : Int}
 (hg : s.get k = some (.cells (.list l) false)) (hw : s.wr k = true) (hU : U .u32 16 l)
 (hc : (Nat.blt a 16 && Nat.blt b 16 && Nat.blt c 16 && Nat.blt d 16 && Dv a b && Dv a c && Dv a d && Dv b c && Dv b d && Dv c d) = true) (n : Nat) :
 W (dcall E (n + 2) (.func (.func st) #[] #[]) [.pointer (some ⟨k, 0, none⟩), .int .i64 (Int.ofNat a), .int .i64 (Int.ofNat b), .int .i64 (Int.ofNat c), .int .i64 (Int.ofNat d), .int .u32 x, .int .u32 y] s)
  fun r => r.1 = .tuple #[] ∧ Ext [k] s r.2 ∧ r.2.get k = some (.cells (.list (Wf a b c d x y l)) false) := by
 simp only [Bool.and_eq_true] at hc
 obtain ⟨⟨⟨⟨⟨⟨⟨⟨⟨ha, hb⟩, hc⟩, hd⟩, ab⟩, ac⟩, ad⟩, bc⟩, bd⟩, cd⟩ := hc
 have lt := fun {i : Nat} (h : Nat.blt i 16 = true) => Nat.le_of_ble_eq_true h
 refine W.intro (Su hst his hr hir hg hw ha hb hc hd (JT ab) (JT ac) (JT ad) (JT bc) (JT bd) (JT cd) (hU.at (lt ha)) (hU.at (lt hb)) (hU.at (lt hc)) (hU.at (lt hd)) n) ⟨rfl, ?_, ?_⟩
 · have e : wrS s k (Wf a b c d x y l) = s.upd k (.cells (.list (Wf a b c d x y l)) false) := by
    unfold DS.upd
    rw [if_pos (by rw [hg]; rfl)]; rfl
   show Ext [k] s (wrS s k (Wf a b c d x y l))
   rw [e]
   exact Ext.upd (.inl (List.mem_cons_self ..))
 · exact Fx (by rw [hg]; rfl)
def SV : List (List Nat) := [[0, 1, 2, 3, 4, 5, 6, 7, 8, 9, 10, 11, 12, 13, 14, 15], [14, 10, 4, 8, 9, 15, 13, 6, 1, 12, 0, 2, 11, 7, 5, 3], [11, 8, 12, 0, 5, 2, 15, 13, 10, 14, 3, 6, 7, 1, 9, 4], [7, 9, 3, 1, 13, 12, 11, 14, 2, 6, 5, 10, 4, 0, 15, 8], [9, 0, 5, 7, 2, 4, 10, 15, 14, 1, 11, 12, 6, 8, 3, 13], [2, 12, 6, 10, 0, 11, 8, 3, 4, 13, 7, 5, 15, 14, 1, 9], [12, 5, 1, 15, 14, 13, 4, 10, 0, 7, 6, 3, 9, 2, 8, 11], [13, 11, 7, 14, 12, 1, 3, 9, 5, 0, 15, 4, 8, 6, 2, 10], [6, 15, 14, 9, 11, 3, 0, 8, 12, 2, 13, 7, 1, 4, 10, 5], [10, 2, 8, 4, 7, 6, 1, 5, 15, 11, 9, 14, 3, 12, 13, 0]]
def ivL : List Value := [.int .u32 1779033703, .int .u32 3144134277, .int .u32 1013904242, .int .u32 2773480762, .int .u32 1359893119, .int .u32 2600822924, .int .u32 528734635, .int .u32 1541459225]
def Za (k : IntKind) (n : Nat) : List Value := List.replicate n (.int k 0)
def Mm : List Value := SV.flatten.map fun n => .int .u8 ((n : Nat) : Int)
def V0 (j : Nat) : List Value := ((SV[j]?).getD []).map fun n => .int .u8 ((n : Nat) : Int)
def Xu (j i : Nat) : Nat := (((SV[j]?).getD [])[i]?).getD 0
theorem SU : ∀ j, j < 10 → (Cells.list Mm).take (j * 16) 16 = some (V0 j)
 | 0, _ | 1, _ | 2, _ | 3, _ | 4, _ | 5, _ | 6, _ | 7, _ | 8, _ | 9, _ => rfl
 | _ + 10, h => by omega
theorem K0 : ∀ j, j < 10 → ∀ i, i < 16 → Xu j i < 16 := by decide
theorem VC : ∀ j, j < 10 → (V0 j).length = 16
 | 0, _ | 1, _ | 2, _ | 3, _ | 4, _ | 5, _ | 6, _ | 7, _ | 8, _ | 9, _ => rfl
 | _ + 10, h => by omega
theorem Pp : ∀ j, j < 10 → allOne (V0 j) = true
 | 0, _ | 1, _ | 2, _ | 3, _ | 4, _ | 5, _ | 6, _ | 7, _ | 8, _ | 9, _ => rfl
 | _ + 10, h => by omega
theorem ST {j i : Nat} (hj : j < 10) (hi : i < 16) : getN (V0 j) i = some (.int .u8 ((Xu j i : Nat) : Int)) := by
 have hl := VC j hj
 unfold V0 at hl
 rw [List.length_map] at hl
 unfold V0 Xu
 rw [Zs, List.getElem?_map, List.getElem?_eq_getElem (by rw [hl]; exact hi)]
 rfl
theorem Yd (k : IntKind) (n : Nat) : U k n (Za k n) := ⟨List.length_replicate, fun i hi => Xj (x := 0) (by unfold Za; rw [Zs, List.getElem?_replicate, if_pos hi])⟩
theorem Ms : U .u32 8 ivL := ⟨rfl, fun i hi => by
 match i, hi with
 | 0, _ | 1, _ | 2, _ | 3, _ | 4, _ | 5, _ | 6, _ | 7, _ => rfl
 | _ + 8, h => omega⟩
def SD (r : Nat → Nat) (m v : List Value) : List Value :=
 Wf 3 4 9 14 (nAt m (r 14)) (nAt m (r 15)) (Wf 2 7 8 13 (nAt m (r 12)) (nAt m (r 13)) (Wf 1 6 11 12 (nAt m (r 10)) (nAt m (r 11)) (Wf 0 5 10 15 (nAt m (r 8)) (nAt m (r 9))
  (Wf 3 7 11 15 (nAt m (r 6)) (nAt m (r 7)) (Wf 2 6 10 14 (nAt m (r 4)) (nAt m (r 5)) (Wf 1 5 9 13 (nAt m (r 2)) (nAt m (r 3)) (Wf 0 4 8 12 (nAt m (r 0)) (nAt m (r 1)) v)))))))
theorem U.round {r : Nat → Nat} {m v : List Value} (h : U .u32 16 v) : U .u32 16 (SD r m v) := (((((((h.stir ..).stir ..).stir ..).stir ..).stir ..).stir ..).stir ..).stir ..
def YV (m v : List Value) : Nat → List Value
 | 0 => v
 | j + 1 => SD (Xu j) m (YV m v j)
theorem U.rounds {m v : List Value} (h : U .u32 16 v) : ∀ j, U .u32 16 (YV m v j)
 | 0 => h
 | j + 1 => (h.rounds j).round
def Jx (lp v : List Value) : Nat → List Value
 | 0 => lp
 | j + 1 => Zj (Jx lp v j) j (.int .u32 (Wa (nAt lp j) (Wa (nAt v j) (nAt v (j + 8)))))
theorem CU {lp v : List Value} (h : UA .u32 0 8 lp) : ∀ j, UA .u32 0 8 (Jx lp v j)
 | 0 => h
 | j + 1 => (CU h j).set _ _
theorem Kr {lp v : List Value} : ∀ {j i : Nat}, j ≤ i → getN (Jx lp v j) i = getN lp i
 | 0, _, _ => rfl
 | j + 1, i, h => by
  show getN (Zj _ _ _) _ = _
  rw [ZU, if_neg (by omega)]
  exact Kr (by omega)
theorem VQ {lp v : List Value} : ∀ {j : Nat}, (Jx lp v j).length = lp.length
 | 0 => rfl
 | j + 1 => by show (Zj _ _ _).length = _; rw [ZK]; exact VQ
def NK (a b : Int) : Int := zE .u32 (Int.ofNat (low .u32 a ||| low .u32 b))
def GX (n : Nat) (a : Int) : Int := zE .u32 (a * Int.ofNat (2 ^ n))
def JE (n : Nat) (a : Int) : Int := a.fdiv (Int.ofNat (2 ^ n))
theorem Nm {a : Int} : Ym .shl .u32 a 8 = some (.int .u32 (GX 8 a)) := rfl
theorem Sz {a : Int} : Ym .shl .u32 a 16 = some (.int .u32 (GX 16 a)) := rfl
theorem Sy {a : Int} : Ym .shl .u32 a 24 = some (.int .u32 (GX 24 a)) := rfl
theorem Mc {a : Int} : Ym .shr .u32 a 8 = some (.int .u32 (JE 8 a)) := rfl
theorem Nz {a : Int} : Ym .shr .u32 a 16 = some (.int .u32 (JE 16 a)) := rfl
theorem Ny {a : Int} : Ym .shr .u32 a 24 = some (.int .u32 (JE 24 a)) := rfl
theorem VU {a : Int} : Ym .shr .u64 a 32 = some (.int .u64 (JE 32 a)) := rfl
def Nj (l : List Value) (o : Nat) : Int :=
 NK (NK (NK (zE .u32 (nAt l o)) (GX 8 (zE .u32 (nAt l (o + 1))))) (GX 16 (zE .u32 (nAt l (o + 2))))) (GX 24 (zE .u32 (nAt l (o + 3))))
def mF (l : List Value) (o : Nat) : Nat → List Value
 | 0 => Za .u32 16
 | j + 1 => Zj (mF l o j) j (.int .u32 (Nj l (o + 4 * j)))
theorem SZ (l : List Value) (o : Nat) : ∀ j, U .u32 16 (mF l o j)
 | 0 => Yd ..
 | j + 1 => (SZ l o j).set _ _
theorem P9 : ZG (.int .i64 0) = some 0 := rfl
theorem MD : ZG (.int .i64 1) = some 1 := rfl
theorem Mz : ZG (.int .i64 2) = some 2 := rfl
theorem My : ZG (.int .i64 3) = some 3 := rfl
theorem M5 : ZG (.int .i64 4) = some 4 := rfl
theorem M4 : ZG (.int .i64 5) = some 5 := rfl
theorem M3 : ZG (.int .i64 6) = some 6 := rfl
theorem M2 : ZG (.int .i64 7) = some 7 := rfl
theorem M1 : ZG (.int .i64 8) = some 8 := rfl
theorem M0 : ZG (.int .i64 9) = some 9 := rfl
theorem MC : ZG (.int .i64 10) = some 10 := rfl
theorem MB : ZG (.int .i64 11) = some 11 := rfl
theorem D0 : ZG (.int .i64 12) = some 12 := rfl
theorem DZ : ZG (.int .i64 13) = some 13 := rfl
theorem DY : ZG (.int .i64 14) = some 14 := rfl
theorem MA : ZG (.int .i64 15) = some 15 := rfl
theorem Kl {last : Bool} {call : Zn} {lf : Nat} {r : Bool} {a b : DCode} {x : St} {K K' : DExit → St → Prop} (h : Fm (.bool last) call lf r a b x K) (hk : ∀ e y, K e y → K' e y) : Fm (.bool last) call lf r a b x K' := by
 cases last
 · rw [zu] at h ⊢; exact Tv h hk
 · rw [zC] at h ⊢; exact Tv h hk
theorem WE {l : List Value} {i j : Nat} {v : Value} (h : j ≠ i) : getN (Zj l i v) j = getN l j := QP (Ne.symm h)
def vbF (lp : List Value) : List Value := cut 0 8 lp ++ ivL
theorem Sn {lp : List Value} (h : UA .u32 0 8 lp) : U .u32 16 (vbF lp) := h.cut.app Ms
theorem MQ {lp : List Value} (h : UA .u32 0 8 lp) : (Za .u32 16).take 0 ++ ((cut 0 (8 - 0) lp).take (min (16 - 0) (cut 0 (8 - 0) lp).length) ++ (Za .u32 16).drop (0 + min (16 - 0) (cut 0 (8 - 0) lp).length)) = cut 0 8 lp ++ Za .u32 8 := by
 have := h.cut.1
 simp only [Nat.sub_zero, this, List.take_zero, List.nil_append]
 rw [List.take_of_length_le (by rw [this]; decide)]; rfl
theorem MP {lp : List Value} (h : UA .u32 0 8 lp) : (cut 0 8 lp ++ Za .u32 8).take 8 ++ ((cut 0 (8 - 0) ivL).take (min (16 - 8) (cut 0 (8 - 0) ivL).length) ++ (cut 0 8 lp ++ Za .u32 8).drop (8 + min (16 - 8) (cut 0 (8 - 0) ivL).length)) = vbF lp := by
 have := h.cut.1
 rw [List.take_append_of_le_length (by rw [this]; decide), List.take_of_length_le (by rw [this]; decide), show min (16 - 8) (cut 0 (8 - 0) ivL).length = 8 from rfl, List.drop_of_length_le (by rw [List.length_append, this]; decide), List.append_nil]
 rfl
def v1F (lp : List Value) (t : Int) : List Value := Zj (Zj (vbF lp) 12 (.int .u32 (Wa (nAt (vbF lp) 12) (zE .u32 t)))) 13 (.int .u32 (Wa (nAt (vbF lp) 13) (zE .u32 (JE 32 t))))
def v0F (lp : List Value) (t : Int) (last : Bool) : List Value :=
 if last then Zj (v1F lp t) 14 (.int .u32 (Wa (if Ja .u32 = true then -1 else Int.ofNat (ZN .u32 - 1)) (nAt (vbF lp) 14))) else v1F lp t
theorem Ma {lp : List Value} (h : UA .u32 0 8 lp) (t : Int) (last : Bool) : U .u32 16 (v0F lp t last) := by
 unfold v0F
 split
 · exact (((Sn h).set _ _).set _ _).set _ _
 · exact ((Sn h).set _ _).set _ _
def Xo (lp lq : List Value) (o : Nat) (t : Int) (last : Bool) : List Value := Jx lp (YV (mF lq o 16) (v0F lp t last) 10) 8
theorem Kn {n c : Nat} : Z6 n c none none none = some (0, n, c) := rfl
theorem RP : Z6 16 16 (some (.int .i64 8)) none none = some (8, 16, 16) := rfl
theorem DX {n : Nat} : ZG (.int .u8 (n : Int)) = some n := by
 unfold ZG
 simp
def nOf (H : List Value) : Nat := (nAt H 72).toNat
structure HOk (H : List Value) (n : Nat) : Prop where
 len : H.length = 74
 hw : UA .u32 0 8 H
 hb : UA .u8 8 64 H
 hn : getN H 72 = some (.int .i64 ((n : Nat) : Int))
 ha : getN H 73 = some (.int .u64 (nAt H 73))
 le : n ≤ 64
def u8s (r : List Int) : List Value := r.map fun n => .int .u8 n
theorem Db (r : List Int) : U .u8 r.length (u8s r) := ⟨List.length_map .., fun i hi => Xj (x := r[i]) (by unfold u8s; rw [Zs, List.getElem?_map, List.getElem?_eq_getElem hi]; rfl)⟩
def h0L : List Value := .int .u32 (Wa 1779033703 16842784) :: (ivL.drop 1 ++ (Za .u8 64 ++ [.int .i64 0, .int .u64 0]))
def Wo (H : List Value) : List Value :=
 Zj (Xo (Zj H 73 (.int .u64 (zE .u64 (nAt H 73 + 64)))) (Zj H 73 (.int .u64 (zE .u64 (nAt H 73 + 64)))) 8 (zE .u64 (nAt H 73 + 64)) false) 72 (.int .i64 0)
def Xv (H : List Value) (r : List Int) : List Value :=
 Zj (H.take (8 + nOf H) ++ ((u8s r).take (min (64 - nOf H) (u8s r).length) ++ H.drop (8 + nOf H + min (64 - nOf H) (u8s r).length))) 72 (.int .i64 ((nOf H + min (64 - nOf H) r.length : Nat) : Int))
def Z7 (H : List Value) : List Value := if nOf H = 64 then Wo H else H
def Jt : Nat → List Value → List Int → List Value
 | 0, H, _ => H
 | _ + 1, H, [] => H
 | f + 1, H, x :: r => Jt f (Xv (Z7 H) (x :: r)) ((x :: r).drop (min (64 - nOf (Z7 H)) (x :: r).length))
theorem HOk.cnt {H : List Value} {n : Nat} (h : HOk H n) : nOf H = n := by
 unfold nOf nAt
 rw [h.hn]; rfl
theorem VA {lp lq : List Value} {o : Nat} {t : Int} {last : Bool} (h : UA .u32 0 8 lp) : UA .u32 0 8 (Xo lp lq o t last) := CU h 8
theorem VR {lp lq : List Value} {o : Nat} {t : Int} {last : Bool} {i : Nat} (h : 8 ≤ i) : getN (Xo lp lq o t last) i = getN lp i := Kr h
theorem Jy {lp lq : List Value} {o : Nat} {t : Int} {last : Bool} : (Xo lp lq o t last).length = lp.length := VQ
theorem HOk.flush {H : List Value} {n : Nat} (h : HOk H n) : HOk (Wo H) 0 := by
 have h1 : UA .u32 0 8 (Zj H 73 (.int .u64 (zE .u64 (nAt H 73 + 64)))) := h.hw.other (.inr (by omega))
 have hl : (Xo (Zj H 73 (.int .u64 (zE .u64 (nAt H 73 + 64)))) (Zj H 73 (.int .u64 (zE .u64 (nAt H 73 + 64)))) 8 (zE .u64 (nAt H 73 + 64)) false).length = 74 := by rw [Jy, ZK]; exact h.len
 refine ⟨by unfold Wo; rw [ZK]; exact hl, (VA h1).other (.inr (by omega)), ?_, ?_, ?_, by omega⟩
 · have : UA .u8 8 64 (Xo (Zj H 73 (.int .u64 (zE .u64 (nAt H 73 + 64)))) (Zj H 73 (.int .u64 (zE .u64 (nAt H 73 + 64)))) 8 (zE .u64 (nAt H 73 + 64)) false) := by
    refine ⟨by rw [hl]; decide, fun i hi => ?_⟩
    refine Xj (x := nAt H (8 + i)) ?_
    rw [VR (by omega), ZU, if_neg (by omega)]
    exact h.hb.2 i hi
   exact this.other (.inr (by omega))
 · unfold Wo
   rw [ZU, if_pos ⟨rfl, by rw [hl]; decide⟩]; rfl
 · refine Xj (x := zE .u64 (nAt H 73 + 64)) ?_
   unfold Wo
   rw [ZU, if_neg (by omega), VR (by omega), ZU, if_pos ⟨rfl, by rw [h.len]; decide⟩]
theorem HOk.full {H : List Value} {n : Nat} (h : HOk H n) : ∃ m, m < 64 ∧ HOk (Z7 H) m ∧ nOf (Z7 H) = m := by
 unfold Z7
 split
 · exact ⟨0, by omega, h.flush, h.flush.cnt⟩
 · rename_i hn
   rw [h.cnt] at hn
   have := h.le
   exact ⟨n, by omega, h, h.cnt⟩
theorem put_len {H : List Value} {n : Nat} (h : HOk H n) (r : List Int) : (H.take (8 + nOf H) ++ ((u8s r).take (min (64 - nOf H) (u8s r).length) ++ H.drop (8 + nOf H + min (64 - nOf H) (u8s r).length))).length = 74 := by
 have hl := h.len
 have hle := h.le
 rw [h.cnt]
 simp only [List.length_append, List.length_take, List.length_drop, hl]
 omega
theorem VF {H : List Value} {n : Nat} (h : HOk H n) (r : List Int) {i : Nat} (hi : i < 8 + n ∨ 72 ≤ i) : getN (H.take (8 + nOf H) ++ ((u8s r).take (min (64 - nOf H) (u8s r).length) ++ H.drop (8 + nOf H + min (64 - nOf H) (u8s r).length))) i = getN H i := by
 have hl := h.len
 have hle := h.le
 rw [h.cnt]
 have hl1 : (H.take (8 + n)).length = 8 + n := by rw [List.length_take, hl]; omega
 have hl2 : ((u8s r).take (min (64 - n) (u8s r).length)).length = min (64 - n) (u8s r).length := by rw [List.length_take]; omega
 by_cases h1 : i < 8 + n
 · rw [Xn (by rw [hl1]; exact h1), Zs, Zs, List.getElem?_take, if_pos h1]
 · rw [Xm (by rw [hl1]; omega), Xm (by rw [hl1, hl2]; omega), Zs, Zs, List.getElem?_drop, hl1, hl2]
   congr 1
   omega
theorem HOk.put {H : List Value} {n : Nat} (h : HOk H n) (r : List Int) : HOk (Xv H r) (n + min (64 - n) r.length) := by
 have hl := h.len
 have hle := h.le
 have hpl := put_len h r
 have hlen : (u8s r).length = r.length := List.length_map ..
 refine ⟨by unfold Xv; rw [ZK]; exact hpl, ?_, ?_, ?_, ?_, by omega⟩
 · refine UA.other ⟨by rw [hpl]; decide, fun i hi => ?_⟩ (.inr (by omega))
   exact Xj (x := nAt H (0 + i)) (by rw [VF h r (by omega)]; exact h.hw.2 i hi)
 · refine UA.other ⟨by rw [hpl]; decide, fun i hi => ?_⟩ (.inr (by omega))
   rw [h.cnt]
   have hl1 : (H.take (8 + n)).length = 8 + n := by rw [List.length_take, hl]; omega
   have hl2 : ((u8s r).take (min (64 - n) (u8s r).length)).length = min (64 - n) (u8s r).length := by rw [List.length_take]; omega
   by_cases h1 : 8 + i < 8 + n
   · refine Xj (x := nAt H (8 + i)) ?_
     rw [Xn (by rw [hl1]; exact h1), Zs, List.getElem?_take, if_pos h1, ← Zs]
     exact h.hb.2 i hi
   · by_cases h2 : 8 + i - (8 + n) < min (64 - n) (u8s r).length
     · refine Xj (x := nAt (u8s r) (8 + i - (8 + n))) ?_
       rw [Xm (by rw [hl1]; omega), Xn (by rw [hl1, hl2]; exact h2), hl1, Zs, List.getElem?_take, if_pos h2, ← Zs]
       exact (Db r).2 _ (by rw [hlen] at h2; omega)
     · refine Xj (x := nAt H (8 + i)) ?_
       rw [Xm (by rw [hl1]; omega), Xm (by rw [hl1, hl2]; omega), Zs, List.getElem?_drop, hl1, hl2, ← Zs, show 8 + n + min (64 - n) (u8s r).length + (8 + i - (8 + n) - min (64 - n) (u8s r).length) = 8 + i by omega]
       exact h.hb.2 i hi
 · unfold Xv
   rw [ZU, if_pos ⟨rfl, by rw [hpl]; decide⟩, h.cnt]
 · refine Xj (x := nAt H 73) ?_
   unfold Xv
   rw [ZU, if_neg (by omega), VF h r (by omega)]
   exact h.ha
def SlR (s : DS) (v : Value) (r : List Int) : Prop :=
 (v = .slice none 0 0 ∧ r = []) ∨ ∃ b off sp c, v = .slice (some ⟨b, off, sp⟩) r.length c ∧ (sp = none ∨ sp = some 1) ∧ r.length ≤ c ∧ s.read b off r.length = some (u8s r)
theorem QT (r : List Int) : ZZ r = J5 (u8s r) := by unfold ZZ J5 u8s; rw [List.map_map]; rfl
theorem SlR.view {s : DS} {v : Value} {r : List Int} (h : SlR s v r) : SlV s 1 v (J5 (u8s r)) := by
 have hl : (J5 (u8s r)).length = r.length := by rw [Xt]; exact List.length_map ..
 rcases h with ⟨rfl, rfl⟩ | ⟨b, off, sp, c, rfl, _, _, h3⟩
 · exact .inl ⟨rfl, rfl⟩
 · exact .inr ⟨b, off, sp, c, by rw [hl], by rw [hl, Nat.mul_one, XH]; exact h3⟩
theorem SlR.keep {s s' : DS} {v : Value} {r : List Int} {F : List Nat} (h : SlR s v r) (e : Ext F s s') (hd : ∀ k, k ∈ blk v → k ∉ F) : SlR s' v r := by
 rcases h with h | ⟨b, off, sp, c, rfl, h1, h2, h3⟩
 · exact .inl h
 · refine .inr ⟨b, off, sp, c, rfl, h1, h2, ?_⟩
   unfold DS.read at h3 ⊢
   split at h3
   · rename_i cc ro hg
     rw [e.keep hg (hd b (by simp [blk]))]
     exact h3
   · cases h3
theorem SlR.len {s : DS} {v : Value} {r : List Int} (h : SlR s v r) : ∃ a c, v = .slice a r.length c := by
 rcases h with ⟨rfl, rfl⟩ | ⟨b, off, sp, c, rfl, _⟩
 · exact ⟨_, _, rfl⟩
 · exact ⟨_, _, rfl⟩
theorem SlR.drop {s : DS} {v : Value} {r : List Int} (h : SlR s v r) {i : Nat} (hi : i ≤ r.length) : ∃ w, slV 1 v (some (.int .i64 (i : Int))) none none = some w ∧ SlR s w (r.drop i) ∧ ∀ k, k ∈ blk w → k ∈ blk v := by
 rcases h with ⟨rfl, rfl⟩ | ⟨b, off, sp, c, rfl, h1, h2, h3⟩
 · obtain rfl : i = 0 := by simpa using hi
   exact ⟨.slice none 0 0, rfl, .inl ⟨rfl, rfl⟩, fun k hk => hk⟩
 · refine ⟨.slice (some ⟨b, off + i * 1, sp⟩) (r.length - i) (c - i), ?_, .inr ⟨b, off + i * 1, sp, c - i, by rw [List.length_drop], h1, by rw [List.length_drop]; omega, ?_⟩, fun k hk => by simpa [blk] using hk⟩
   · unfold slV Z6
     simp only [zD, Nat.ble_eq.mpr hi, if_true, Option.isSome_none]
     rcases h1 with rfl | rfl
     · rfl
     · simp only [Yh, z3, if_false, Nat.beq_refl, if_true]
   · unfold DS.read at h3 ⊢
     split at h3
     · obtain ⟨_, h4⟩ := Q4 h3
       refine JR (by simp [u8s]) fun j hj => ?_
       rw [List.length_drop] at hj
       rw [show off + i * 1 + j = off + (i + j) by omega, h4 (i + j) (by omega)]
       unfold u8s
       rw [List.getElem?_map, List.getElem?_map, List.getElem?_drop]
     · cases h3
def CK (H : List Value) (n : Nat) : List Value := (Za .u8 64).take 0 ++ ((cut 8 n H).take (min (64 - 0) (cut 8 n H).length) ++ (Za .u8 64).drop (0 + min (64 - 0) (cut 8 n H).length))
theorem Mw {H : List Value} {n : Nat} (h : UA .u8 8 64 H) (hn : n ≤ 64) : U .u8 64 (CK H n) := by
 have h1 : U .u8 n (cut 8 n H) := (h.sub hn).cut
 have h2 : (Za .u8 64).drop n = Za .u8 (64 - n) := by unfold Za; rw [List.drop_replicate]
 unfold CK
 rw [h1.1, List.take_zero, List.nil_append, Nat.zero_add, show min (64 - 0) n = n by omega, List.take_of_length_le (by rw [h1.1]; exact Nat.le_refl _), h2]
 have := h1.app (Yd .u8 (64 - n))
 rwa [show n + (64 - n) = 64 by omega] at this
def Q7 (w : List Value) : Nat → List Value
 | 0 => Za .u8 32
 | j + 1 => Zj (Zj (Zj (Zj (Q7 w j) (4 * j) (.int .u8 (zE .u8 (nAt w j)))) (4 * j + 1) (.int .u8 (zE .u8 (JE 8 (nAt w j))))) (4 * j + 2) (.int .u8 (zE .u8 (JE 16 (nAt w j))))) (4 * j + 3) (.int .u8 (zE .u8 (JE 24 (nAt w j))))
theorem GZ (w : List Value) : ∀ j, U .u8 32 (Q7 w j)
 | 0 => Yd ..
 | j + 1 => ((((GZ w j).set _ _).set _ _).set _ _).set _ _
def FX (H : List Value) : List Value := Q7 (Xo (cut 0 8 H) (CK H (nOf H)) 0 (zE .u64 (nAt H 73 + zE .u64 (nOf H : Nat))) true) 8
theorem No : HOk h0L 0 := ⟨rfl, ⟨by decide, fun i hi => by
 match i, hi with
 | 0, _ | 1, _ | 2, _ | 3, _ | 4, _ | 5, _ | 6, _ | 7, _ => rfl
 | _ + 8, h => omega⟩, ⟨by decide, fun i hi => by
 have h2 : UA .u8 0 64 (Za .u8 64 ++ [.int .i64 0, .int .u64 0]) := ⟨by decide, fun i hi => Xj (x := 0) (by rw [Nat.zero_add, Xn (by rw [(Yd .u8 64).1]; exact hi)]; have := (Yd .u8 64).2 i hi; unfold Za; rw [Zs, List.getElem?_replicate, if_pos hi])⟩
 have h3 := h2.2 i hi
 rw [Nat.zero_add] at h3
 refine Xj (x := nAt (Za .u8 64 ++ [.int .i64 0, .int .u64 0]) i) ?_
 rw [← h3, show h0L = (.int .u32 (Wa 1779033703 16842784) :: ivL.drop 1) ++ (Za .u8 64 ++ [.int .i64 0, .int .u64 0]) from rfl, Xm (by show 8 ≤ _; omega)]
 show getN _ (8 + i - 8) = _
 rw [show 8 + i - 8 = i by omega]⟩, rfl, rfl, by omega⟩
theorem GB (H : List Value) : U .u8 32 (FX H) := GZ _ 8
def Cb (l : List (List Int)) : List Value := l.foldl (fun H r => Jt r.length H r) h0L
theorem Fp (l : List (List Int)) (r : List Int) : Cb (l ++ [r]) = Jt r.length (Cb l) r := by unfold Cb; rw [List.foldl_append]; rfl
def JC (l : List (List Int)) : List Value := FX (Cb l)
theorem SlR.lt {s : DS} {v : Value} {r : List Int} (h : SlR s v r) : ∀ k, k ∈ blk v → k < s.next := by
 rcases h with ⟨rfl, rfl⟩ | ⟨b, off, sp, c, rfl, _, _, h3⟩
 · exact fun k hk => by simp [blk] at hk
 · intro k hk
   simp [blk] at hk
   subst hk
   unfold DS.read at h3
   split at h3
   · rename_i cc ro hg
     exact DS.get_lt' hg
   · cases h3
theorem SlR.of {s : DS} {v : Value} {r : List Int} (h : SlV s 1 v (ZZ r)) (hv : ∃ a, v = .slice a r.length r.length ∧ ∀ x, a = some x → x.spot = none) : SlR s v r := by
 rcases h with ⟨rfl, h0⟩ | ⟨b, off, sp, c, rfl, h1⟩
 · exact .inl ⟨rfl, by simpa [ZZ] using h0⟩
 · obtain ⟨a, ha, hs⟩ := hv
   injection ha with ha1 ha2 ha3
   have hsp : sp = none := hs ⟨b, off, sp⟩ ha1.symm
   refine .inr ⟨b, off, sp, r.length, by rw [ha2, ha3], .inl hsp, Nat.le_refl _, ?_⟩
   rw [QT, XH, Xt, Nat.mul_one] at h1
   have hl : (u8s r).length = r.length := List.length_map ..
   rwa [hl] at h1
end Go.Dx
