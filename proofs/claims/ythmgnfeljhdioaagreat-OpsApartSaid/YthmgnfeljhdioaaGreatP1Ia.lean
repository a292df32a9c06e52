/- A part. -/
import Derived.Test.YthmgnfeljhdioaaGreatP1En
import Derived.Test.YthmgnfeljhdioaaGreatDxFw
import Derived.Test.YthmgnfeljhdioaaGreatDxTopM
set_option linter.unusedVariables false
set_option linter.unusedSimpArgs false
set_option linter.unusedSectionVars false
set_option maxRecDepth 100000
set_option maxHeartbeats 4000000
namespace Go.Dx.TbA
open Go Go.Dx Go.Dx.Tab Go.Dx.St Go.Proofs.YthmgnfeljhdioaaGreat
theorem VM {size : Nat} (hs : size < 8) {x most : Int} {rest : List Int} (h0 : 0 ≤ x) (h1 : x ≤ most) (h2 : most < ((256 ^ size : Nat) : Int)) (h3 : most ≤ 4611686018427387904) : rdN size most (leB x size ++ rest, false) = (x, (rest, false)) := by
 obtain ⟨n, rfl⟩ := Int.eq_ofNat_of_zero_le h0
 have hl : low .u64 ((n : Nat) : Int) = n := by show n % 18446744073709551616 = n; omega
 have hn : n < 256 ^ size := by omega
 have hv : leV (leB ((n : Nat) : Int) size) = ((n : Nat) : Int) := by rw [Q3, hl, Nat.mod_eq_of_lt hn]
 unfold rdN
 rw [KS (zX _ size)]
 simp only [z3, if_false]
 rw [hv, if_neg (by omega), ZY (by omega) (by omega)]
theorem Sd {l : List Int} (rest : List Int) (hl : l.length ≤ 65536) : rdB ((leB (l.length : Int) 4 ++ l) ++ rest, false) = (l, (rest, false)) := by
 unfold rdB
 rw [List.append_assoc, VM (size := 4) (by omega) (by omega) (by omega) (by decide) (by decide)]
 show tk ((l.length : Int)).toNat (l ++ rest, false) = _
 rw [Int.toNat_natCast]
 exact KS rfl
theorem QZ {α β : Type} {f : RS → α × RS} {g : RS → β × RS} {x : α} {y : β} {a b rest : List Int} (h1 : ∀ r, f (a ++ r, false) = (x, (r, false))) (h2 : ∀ r, g (b ++ r, false) = (y, (r, false))) : rdP f g ((a ++ b) ++ rest, false) = ((x, y), (rest, false)) := by
 unfold rdP
 rw [List.append_assoc, h1]
 simp only
 rw [h2]
structure J5 (x : Z4) : Prop where
 ci : I64 x.1.1
 ni : I64 x.1.2
 mb : IsB x.2.1
 ai : ∀ a, a ∈ x.2.2.1 → I64 a
 gi : I64 x.2.2.2
theorem Sb {x : Z4} (hm : WG x) (hx : J5 x) (rest : List Int) : rdQ (YJ x ++ rest, false) = (x, (rest, false)) := by
 obtain ⟨⟨h1, h2, h3, h4⟩, h5, h6, h7, h8⟩ := hm
 exact QZ (fun r => QZ (fun r => VM (size := 1) (by omega) h1 (by omega) (by decide) (by decide)) fun r => K2 hx.ni) fun r => QZ (fun r => Sd r (by omega)) fun r => QZ (fun r => Sc (by omega) fun a ha q => K2 (hx.ai a ha)) fun r => K2 hx.gi
theorem TA {x : Z4} (hm : WG x) (hx : J5 x) : Ja (YJ x) ∧ Rq (YJ x) = x := by
 have h := Sb hm hx []
 rw [List.append_nil] at h
 have hg : Ja (YJ x) := by
  unfold Ja RL
  rw [h]
  exact ⟨⟨rfl, rfl⟩, hm⟩
 refine ⟨hg, ?_⟩
 unfold Rq
 rw [if_pos hg, h]
theorem Td {x y : Z4} (hx : WG x) (hy : WG y) (ox : J5 x) (oy : J5 y) (h : YJ x = YJ y) : x = y := by
 rw [← (TA hx ox).2, ← (TA hy oy).2, h]
theorem Gz : ∀ l : List Int, IsB (WE (fun a => leB a 8) l)
 | [] => fun b hb => (nomatch hb)
 | a :: l => fun b hb => by
  unfold WE at hb
  rw [List.flatMap_cons] at hb
  rcases List.mem_append.1 hb with hb | hb
  · exact Wa _ _ b hb
  · exact Gz l b hb
theorem Gl {x : Z4} (hx : J5 x) : IsB (YJ x) := fun b hb => by
 unfold YJ DV at hb
 rcases List.mem_append.1 hb with hb | hb
 · rcases List.mem_append.1 hb with hb | hb
   · exact Wa _ _ b hb
   · exact Wa _ _ b hb
 · rcases List.mem_append.1 hb with hb | hb
   · rcases List.mem_append.1 hb with hb | hb
     · exact Wa _ _ b hb
     · exact hx.mb b hb
   · rcases List.mem_append.1 hb with hb | hb
     · rcases List.mem_append.1 hb with hb | hb
       · exact Wa _ _ b hb
       · exact Gz _ b hb
     · exact Wa _ _ b hb
theorem FY (x : Z4) : YJ x ≠ [] := fun h => by
 have h1 : (YJ x).length = 0 := by rw [h]; rfl
 unfold YJ at h1
 simp only [List.length_append, zX] at h1
 omega
def Xa (l : List Int) : List UInt8 := l.map fun n => UInt8.ofNat n.toNat
theorem Je : ∀ {l m : List Int}, IsB l → IsB m → Xa l = Xa m → l = m
 | [], [], _, _, _ => rfl
 | [], b :: m, _, _, h => by simp [Xa] at h
 | a :: l, [], _, _, h => by simp [Xa] at h
 | a :: l, b :: m, hl, hm, h => by
  have h1 := hl a (List.mem_cons_self ..)
  have h2 := hm b (List.mem_cons_self ..)
  have h3 : UInt8.ofNat a.toNat = UInt8.ofNat b.toNat ∧ Xa l = Xa m := by simpa [Xa] using h
  have h4 := Je (fun x hx => hl x (List.mem_cons_of_mem _ hx)) (fun x hx => hm x (List.mem_cons_of_mem _ hx)) h3.2
  have h5 := congrArg UInt8.toNat h3.1
  simp only [UInt8.toNat_ofNat'] at h5
  rw [Nat.mod_eq_of_lt (by omega), Nat.mod_eq_of_lt (by omega)] at h5
  rw [h4, show a = b by omega]
theorem T5 {l m : List Int} (hl : IsB l) (hm : IsB m) : Kc .eql ⟨⟨Xa l⟩⟩ ⟨⟨Xa m⟩⟩ = some (.bool (decide (l = m))) := by
 show some (Value.bool (ZN _ _)) = _
 rw [ZE]
 by_cases h : l = m
 · subst h
   simp
 · rw [decide_eq_false h]
   have : ¬ Xa l = Xa m := fun e => h (Je hl hm e)
   simp [this]
theorem T4 {l m : List Int} (hl : IsB l) (hm : IsB m) : Kc .neq ⟨⟨Xa l⟩⟩ ⟨⟨Xa m⟩⟩ = some (.bool (!decide (l = m))) := by
 show some (Value.bool (!(ZN _ _))) = _
 rw [ZE]
 by_cases h : l = m
 · subst h
   simp
 · rw [decide_eq_false h]
   have : ¬ Xa l = Xa m := fun e => h (Je hl hm e)
   simp [this]
end Go.Dx.TbA
namespace Go.Dx.TbA
open Go Go.Dx Go.Dx.Tab Go.Proofs.YthmgnfeljhdioaaGreat
structure SnI (S : DS) (p0 p1 : Nat) (lx ly : List Int) (n : Nat) (y : St) : Prop where
 ex : ∃ i : Nat, n + i = lx.length ∧ y.defers = [] ∧ y.s = S ∧ y.t.get 2 = some (.pointer (some ⟨p0, 0, none⟩)) ∧ y.t.get 3 = some (.pointer (some ⟨p1, 0, none⟩)) ∧ y.t.get 5 = some (.int .i64 (i : Int)) ∧ lx.take i = ly.take i
section
variable {E : Env} {d : Nat}
theorem RU {S : DS} {p0 p1 : Nat} {lx ly : List Int} {u1 u2 u3 w1 w2 w3 v1 v2 m1 m2 : Value} {t : PT Value} {Q : Value × DS → Prop} (hlf : 10000 ≤ E.lf) (h8 : lx.length ≤ 8) (hlen : lx.length = ly.length) (hne : lx ≠ ly)
 (g0 : S.get p0 = some (.cells (.list [u1, u2, m1, v1, u3]) false)) (g1 : S.get p1 = some (.cells (.list [w1, w2, m2, v2, w3]) false))
 (h1 : SlI S v1 lx) (h2 : SlI S v2 ly) (t2 : t.get 2 = some (.pointer (some ⟨p0, 0, none⟩))) (t3 : t.get 3 = some (.pointer (some ⟨p1, 0, none⟩))) (hQ : Q (.bool false, S)) :
 WC (dcall E d) E.lf false Jz ⟨t, S, []⟩ (Ends [.tmp 4] Q) := by
 obtain ⟨a1, c1, e1⟩ := h1.shape
 obtain ⟨a2, c2, e2⟩ := h2.shape
 simp only [sA, pp, pv, Jz, t2, t3]
 refine Q9 (SnI S p0 p1 lx ly) lx.length (by omega) ⟨0, by omega, rfl, rfl, by simp only [sA, Nat.reduceEqDiff, t2], by simp only [sA, Nat.reduceEqDiff, t3], by simp only [ZC]; rfl, rfl⟩ ?_
 rintro n ⟨t, S', ds⟩ hn ⟨i, hni, hds, hs, t2, t3, t5, hpre⟩
 simp only at hds hs t2 t3 t5
 subst hds hs
 cases n with
 | zero =>
  exfalso
  have hi : i = lx.length := by omega
  rw [hi, List.take_length, hlen, List.take_length] at hpre
  exact hne hpre
 | succ n =>
  have e0 : (i : Int) < (lx.length : Int) := by omega
  have hi : i < lx.length := by omega
  have hi2 : i < ly.length := by omega
  have hx : lx[i]? = some lx[i] := List.getElem?_eq_getElem hi
  have hy : ly[i]? = some ly[i] := List.getElem?_eq_getElem hi2
  have ea : zv .i64 ((i : Int) + 1) = ((i + 1 : Nat) : Int) := by rw [ZY (by omega) (by omega)]; omega
  rcases h1 with ⟨_, h0⟩ | ⟨b1, sp1, c1', cc1, ro1, rfl, k1, k2⟩
  · rw [h0] at hi
    exact absurd hi (by simp)
  rcases h2 with ⟨_, h0⟩ | ⟨b2, sp2, c2', cc2, ro2, rfl, k3, k4⟩
  · rw [h0] at hi2
    exact absurd hi2 (by simp)
  have k2 := k2 i _ hx
  have k4 := k4 i _ hy
  simp only [Cells.get] at k2 k4
  by_cases hxy : lx[i] = ly[i]
  · simp only [sA, zc, zy, zn, Nat.reduceEqDiff, Cells.get, getN, t2, t3, t5, g0, g1, e0, k1, k2, k3, k4, hi, hi2, ea, hxy]
    exact ⟨n, by omega, ⟨i + 1, by omega, rfl, rfl, by simp only [sA, Nat.reduceEqDiff, t2], by simp only [sA, Nat.reduceEqDiff, t3], by simp only [ZC], by rw [List.take_add_one, List.take_add_one, hpre, hx, hy, hxy]⟩⟩
  · simp only [sA, zc, zy, zn, Nat.reduceEqDiff, ze, zh, Cells.get, getN, t2, t3, t5, g0, g1, e0, k1, k2, k3, k4, hi, hi2, ea, hxy]
    exact hQ
theorem Ct (h13 : E.fn 13 = some d13) (i13 : E.intr 13 = none) (hlf : 10000 ≤ E.lf) {s : DS} {n1 n2 : Nat} {cs1 cs2 : List Value} {x y : Z4} (h8 : x.2.2.1.length ≤ 8) (hG : s.Good) (r1 : Ym n1 s cs1 x) (r2 : Ym n2 s cs2 y) (bx : IsB x.2.1) (by_ : IsB y.2.1) :
 W (dcall E (d + 1) (.func (.func 13) #[] #[]) [.agg ⟨cs1⟩, .agg ⟨cs2⟩] s) fun p => p.1 = .bool (decide (x = y)) ∧ Ext [] s p.2 := by
 by_cases hxy : x = y
 · subst hxy
   rw [decide_eq_true rfl]
   exact T7 h13 i13 hlf h8 hG r1 r2
 rw [decide_eq_false hxy]
 obtain ⟨b1, c1, b2, c2, rfl, m1, a1⟩ := r1
 obtain ⟨b3, c3, b4, c4, rfl, m2, a2⟩ := r2
 refine Zz fun Q hQ => ?_
 rw [zC i13 (show E.fn 13 = some dSm from by rw [← Tl]; exact h13) rfl]
 obtain ⟨S1, hS1⟩ : ∃ S1 : DS, S1 = (s.new (.cells (.list [.int .i64 x.1.1, .int .i64 x.1.2, .slice b1 x.2.1.length c1, .slice b2 x.2.2.1.length c2, .int .i64 x.2.2.2]) false)).new (.cells (.list [.int .i64 y.1.1, .int .i64 y.1.2, .slice b3 y.2.1.length c3, .slice b4 y.2.2.1.length c4, .int .i64 y.2.2.2]) false) := ⟨_, rfl⟩
 have X1 : ∀ F, Ext F s S1 := fun F => by rw [hS1]; exact Ext.new.trans' Ext.new
 have g0 : S1.get s.next = some (.cells (.list [.int .i64 x.1.1, .int .i64 x.1.2, .slice b1 x.2.1.length c1, .slice b2 x.2.2.1.length c2, .int .i64 x.2.2.2]) false) := by rw [hS1]; simp (maxDischargeDepth := 8) only [sM, Yl, hG]
 have g1 : S1.get (s.next + 1) = some (.cells (.list [.int .i64 y.1.1, .int .i64 y.1.2, .slice b3 y.2.1.length c3, .slice b4 y.2.2.1.length c4, .int .i64 y.2.2.2]) false) := by rw [hS1]; simp (maxDischargeDepth := 8) only [sM, Yl, hG]
 have hm1 := m1.1.keep (X1 []) (by simp)
 have hm2 := m2.1.keep (X1 []) (by simp)
 have ha1 := a1.1.keep (X1 []) (by simp)
 have ha2 := a2.1.keep (X1 []) (by simp)
 have hQ' := hQ (.bool false, S1) ⟨rfl, X1 _⟩
 simp (maxDischargeDepth := 8) only [sA, sM, zc, Cells.get, pp, pv, pg, Nat.reduceLT, dSm, hG, ← hS1]
 clear hS1
 by_cases c1' : x.1.1 = y.1.1
 case neg =>
  simp (maxDischargeDepth := 8) only [sA, sM, zc, zy, zn, ze, zh, Cells.get, getN, Nat.reduceLT, g0, g1, c1']
  exact hQ'
 by_cases c2' : x.1.2 = y.1.2
 case neg =>
  simp (maxDischargeDepth := 8) only [sA, sM, zc, zy, zn, ze, zh, Cells.get, getN, Nat.reduceLT, g0, g1, c1', c2']
  exact hQ'
 have ii : ∀ z : Int, (z = z) = True := fun z => eq_true rfl
 obtain ⟨f1, tb1, hf1⟩ : ∃ f1, Za (u8s x.2.1) = some f1 ∧ f1 = Xa x.2.1 := ⟨_, Z6 _, rfl⟩
 obtain ⟨f2, tb2, hf2⟩ : ∃ f2, Za (u8s y.2.1) = some f2 ∧ f2 = Xa y.2.1 := ⟨_, Z6 _, rfl⟩
 have hs : Kc .neq ⟨⟨f1⟩⟩ ⟨⟨f2⟩⟩ = some (.bool (!decide (x.2.1 = y.2.1))) := by rw [hf1, hf2]; exact T4 bx by_
 have hn1 : x.2.1 = [] → f1 = [] := fun h => by rw [hf1, h]; rfl
 have hn2 : y.2.1 = [] → f2 = [] := fun h => by rw [hf2, h]; rfl
 clear hf1 hf2
 have ll : ∀ h : ¬ x.2.2.1.length = y.2.2.1.length, ¬ (x.2.2.1.length : Int) = (y.2.2.1.length : Int) := fun h => by omega
 have fin : x.2.1 = y.2.1 → x.2.2.2 = y.2.2.2 → ∀ t : PT Value, x.2.2.1.length = y.2.2.1.length → t.get 2 = some (.pointer (some ⟨s.next, 0, none⟩)) → t.get 3 = some (.pointer (some ⟨s.next + 1, 0, none⟩)) → WC (dcall E d) E.lf false Jz ⟨t, S1, []⟩ (Ends [.tmp 4] Q) := fun h1 h2 t hl t2 t3 =>
  RU hlf h8 hl (fun h => hxy (Prod.ext (Prod.ext c1' c2') (Prod.ext h1 (Prod.ext h h2)))) g0 g1 ha1 ha2 t2 t3 hQ'
 rcases hm1 with ⟨hv1, hb1⟩ | ⟨k1, o1, sp1, cc1, hv1, _, _, hrd1⟩
 · have := hn1 hb1
   subst this
   rcases hm2 with ⟨hv5, hb5⟩ | ⟨k5, o5, sp5, cc5, hv5, _, _, hrd5⟩
   · have := hn2 hb5
     subst this
     rw [hv1] at g0
     rw [hv5] at g1
     by_cases hm : x.2.1 = y.2.1
     case neg =>
      rw [decide_eq_false hm] at hs
      simp (maxDischargeDepth := 8) only [sA, sM, zc, zy, zn, zi, ze, zh, Cells.get, getN, Nat.reduceLT, g0, g1, c1', c2', hs]
      exact hQ'
     rw [decide_eq_true hm] at hs
     by_cases c3 : x.2.2.2 = y.2.2.2
     case neg =>
      simp (maxDischargeDepth := 8) only [sA, sM, zc, zy, zn, zi, ze, zh, Cells.get, getN, Nat.reduceLT, g0, g1, c1', c2', hs, c3]
      exact hQ'
     by_cases c4 : x.2.2.1.length = y.2.2.1.length
     case neg =>
      have c5 := ll c4
      simp (maxDischargeDepth := 8) only [sA, sM, zc, zy, zn, zi, ze, zh, Cells.get, getN, Nat.reduceLT, g0, g1, c1', c2', hs, c3, c5]
      exact hQ'
     have c6 : ((x.2.2.1.length : Int) = (y.2.2.1.length : Int)) = True := eq_true (by omega)
     simp (maxDischargeDepth := 8) only [sA, sM, zc, zy, zn, zi, Cells.get, getN, Nat.reduceLT, g0, g1, c1', c2', hs, c3, c6]
     exact fin hm c3 _ c4 (by simp only [sA, Nat.reduceEqDiff]) (by simp only [sA, Nat.reduceEqDiff])
   · rw [hv1] at g0
     rw [hv5] at g1
     by_cases hm : x.2.1 = y.2.1
     case neg =>
      rw [decide_eq_false hm] at hs
      simp (maxDischargeDepth := 8) only [sA, sM, zc, zy, zn, zi, ze, zh, Cells.get, getN, Nat.reduceLT, g0, g1, c1', c2', hrd5, tb2, hs]
      exact hQ'
     rw [decide_eq_true hm] at hs
     by_cases c3 : x.2.2.2 = y.2.2.2
     case neg =>
      simp (maxDischargeDepth := 8) only [sA, sM, zc, zy, zn, zi, ze, zh, Cells.get, getN, Nat.reduceLT, g0, g1, c1', c2', hrd5, tb2, hs, c3]
      exact hQ'
     by_cases c4 : x.2.2.1.length = y.2.2.1.length
     case neg =>
      have c5 := ll c4
      simp (maxDischargeDepth := 8) only [sA, sM, zc, zy, zn, zi, ze, zh, Cells.get, getN, Nat.reduceLT, g0, g1, c1', c2', hrd5, tb2, hs, c3, c5]
      exact hQ'
     have c6 : ((x.2.2.1.length : Int) = (y.2.2.1.length : Int)) = True := eq_true (by omega)
     simp (maxDischargeDepth := 8) only [sA, sM, zc, zy, zn, zi, Cells.get, getN, Nat.reduceLT, g0, g1, c1', c2', hrd5, tb2, hs, c3, c6]
     exact fin hm c3 _ c4 (by simp only [sA, Nat.reduceEqDiff]) (by simp only [sA, Nat.reduceEqDiff])
 · rcases hm2 with ⟨hv5, hb5⟩ | ⟨k5, o5, sp5, cc5, hv5, _, _, hrd5⟩
   · have := hn2 hb5
     subst this
     rw [hv1] at g0
     rw [hv5] at g1
     by_cases hm : x.2.1 = y.2.1
     case neg =>
      rw [decide_eq_false hm] at hs
      simp (maxDischargeDepth := 8) only [sA, sM, zc, zy, zn, zi, ze, zh, Cells.get, getN, Nat.reduceLT, g0, g1, c1', c2', hrd1, tb1, hs]
      exact hQ'
     rw [decide_eq_true hm] at hs
     by_cases c3 : x.2.2.2 = y.2.2.2
     case neg =>
      simp (maxDischargeDepth := 8) only [sA, sM, zc, zy, zn, zi, ze, zh, Cells.get, getN, Nat.reduceLT, g0, g1, c1', c2', hrd1, tb1, hs, c3]
      exact hQ'
     by_cases c4 : x.2.2.1.length = y.2.2.1.length
     case neg =>
      have c5 := ll c4
      simp (maxDischargeDepth := 8) only [sA, sM, zc, zy, zn, zi, ze, zh, Cells.get, getN, Nat.reduceLT, g0, g1, c1', c2', hrd1, tb1, hs, c3, c5]
      exact hQ'
     have c6 : ((x.2.2.1.length : Int) = (y.2.2.1.length : Int)) = True := eq_true (by omega)
     simp (maxDischargeDepth := 8) only [sA, sM, zc, zy, zn, zi, Cells.get, getN, Nat.reduceLT, g0, g1, c1', c2', hrd1, tb1, hs, c3, c6]
     exact fin hm c3 _ c4 (by simp only [sA, Nat.reduceEqDiff]) (by simp only [sA, Nat.reduceEqDiff])
   · rw [hv1] at g0
     rw [hv5] at g1
     by_cases hm : x.2.1 = y.2.1
     case neg =>
      rw [decide_eq_false hm] at hs
      simp (maxDischargeDepth := 8) only [sA, sM, zc, zy, zn, zi, ze, zh, Cells.get, getN, Nat.reduceLT, g0, g1, c1', c2', hrd1, tb1, hrd5, tb2, hs]
      exact hQ'
     rw [decide_eq_true hm] at hs
     by_cases c3 : x.2.2.2 = y.2.2.2
     case neg =>
      simp (maxDischargeDepth := 8) only [sA, sM, zc, zy, zn, zi, ze, zh, Cells.get, getN, Nat.reduceLT, g0, g1, c1', c2', hrd1, tb1, hrd5, tb2, hs, c3]
      exact hQ'
     by_cases c4 : x.2.2.1.length = y.2.2.1.length
     case neg =>
      have c5 := ll c4
      simp (maxDischargeDepth := 8) only [sA, sM, zc, zy, zn, zi, ze, zh, Cells.get, getN, Nat.reduceLT, g0, g1, c1', c2', hrd1, tb1, hrd5, tb2, hs, c3, c5]
      exact hQ'
     have c6 : ((x.2.2.1.length : Int) = (y.2.2.1.length : Int)) = True := eq_true (by omega)
     simp (maxDischargeDepth := 8) only [sA, sM, zc, zy, zn, zi, Cells.get, getN, Nat.reduceLT, g0, g1, c1', c2', hrd1, tb1, hrd5, tb2, hs, c3, c6]
     exact fin hm c3 _ c4 (by simp only [sA, Nat.reduceEqDiff]) (by simp only [sA, Nat.reduceEqDiff])
end
end Go.Dx.TbA
namespace Go.Dx.TbA
open Go Go.Dx Go.Dx.Tab Go.Proofs.YthmgnfeljhdioaaGreat
theorem Ym.ofLt {n : Nat} {s0 s s' : DS} {v : List Value} {x : Z4} (h : Ym n s0 v x) (X : Ext [] s0 s) (e : ∀ k, k < s0.next → s'.get k = s.get k) : Ym n s' v x := by
 obtain ⟨b1, c1, b2, c2, h0, h1, h2⟩ := h
 exact ⟨b1, c1, b2, c2, h0, ⟨SlR.of' (h1.1.keep X (by simp)) fun k hk => e k (h1.1.lt k hk), h1.2⟩, ⟨(h2.1.keep X (by simp)).of fun k hk => e k (h2.1.lt k hk), h2.2⟩⟩
section
variable {E : Env} (hC : Fu E) (hE : Pg E) (hQf : SQ E) (hW : Rr E) (hT : D7 E) {s : DS} {d : Nat}
include hC hE hQf hW hT
theorem Re (f5 : E.fn 5 = some d5) (i5 : E.intr 5 = none) (h6 : E.intr 6 = some Ki) (h13 : E.fn 13 = some d13) (i13 : E.intr 13 = none) {cs1 cs2 : List Value} {x y : Z4}
 (hG : s.Good) (r1 : Ym 0 s cs1 x) (r2 : Ym 0 s cs2 y) (ox : J5 x) (oy : J5 y) :
 W (dcall E (d + 14) (.func (.func 5) #[] #[]) [.agg ⟨cs1⟩, .agg ⟨cs2⟩] s) fun r => r.1 = .bool true := by
 have lv : ∀ dd s, dcall E (dd + 1) (.func (.func 6) #[] #[]) [] s = some (.bool true, s) := fun _ _ => C1 h6 rfl
 have hlf := hQf.lf
 have r1' := r1
 have r2' := r2
 obtain ⟨b1, c1, b2, c2, q1, m1, a1⟩ := r1'
 obtain ⟨b3, c3, b4, c4, q2, m2, a2⟩ := r2'
 subst q1 q2
 rw [zC i5 f5 rfl]
 obtain ⟨S1, hS1⟩ : ∃ S1 : DS, S1 = (s.new (.cells (.list [.int .i64 x.1.1, .int .i64 x.1.2, .slice b1 x.2.1.length c1, .slice b2 x.2.2.1.length c2, .int .i64 x.2.2.2]) false)).new (.cells (.list [.int .i64 y.1.1, .int .i64 y.1.2, .slice b3 y.2.1.length c3, .slice b4 y.2.2.1.length c4, .int .i64 y.2.2.2]) false) := ⟨_, rfl⟩
 have X1 : ∀ F, Ext F s S1 := fun F => by rw [hS1]; exact Ext.new.trans' Ext.new
 have n1 : S1.next = s.next + 2 := by rw [hS1]; rfl
 have g0 : S1.get s.next = some (.cells (.list [.int .i64 x.1.1, .int .i64 x.1.2, .slice b1 x.2.1.length c1, .slice b2 x.2.2.1.length c2, .int .i64 x.2.2.2]) false) := by rw [hS1]; simp (maxDischargeDepth := 8) only [sM, Yl, hG]
 have g1 : S1.get (s.next + 1) = some (.cells (.list [.int .i64 y.1.1, .int .i64 y.1.2, .slice b3 y.2.1.length c3, .slice b4 y.2.2.1.length c4, .int .i64 y.2.2.2]) false) := by rw [hS1]; simp (maxDischargeDepth := 8) only [sM, Yl, hG]
 have G1 := (X1 []).good hG
 simp (maxDischargeDepth := 8) only [sA, sM, Cells.get, getN, pp, pv, ldA, DS.read, Cells.take, Nat.reduceLT, d5, hG, ← hS1, g0]
 clear hS1
 have r1a := r1.stab (X1 []) (by simp)
 have r2a := r2.stab (X1 []) (by simp)
 refine W.mono (Wx hC hE hQf hW (d := d + 3) hT G1 r1a) ?_
 rintro ⟨v2, s2⟩ ⟨X2, h2⟩
 simp only at X2 h2
 have G2 := X2.good G1
 have g0a := X2.keep g0 (by simp)
 have g1a := X2.keep g1 (by simp)
 have r2b := r2a.stab X2 (by simp)
 have le2 := X2.le
 have second : ∀ (w : Value) (e : Int), v2 = .tuple ⟨[w, .int .i64 e]⟩ → True := fun _ _ _ => trivial
 rcases h2 with ⟨hnx, rfl⟩ | ⟨hmx, w1, rfl, hw1, hs1, hb1⟩
 · simp only [sA, zc, Nat.reduceEqDiff, Cells.get, getN, ldA, DS.read, Cells.take, g1a]
   refine W.mono (Wx hC hE hQf hW (d := d + 3) hT G2 r2b) ?_
   rintro ⟨v3, s3⟩ ⟨X3, h3⟩
   simp only at X3 h3
   rcases h3 with ⟨hny, rfl⟩ | ⟨hmy, w2, rfl, hw2, hs2, hb2⟩
   · simp only [sA, zc, zy, zn, Nat.reduceEqDiff, ze, zh, getN, Int.reduceEq, foot, lv]
   · simp only [sA, zc, zy, zn, Nat.reduceEqDiff, ze, zh, getN, Int.reduceEq, foot, lv]
 · simp only [sA, zc, Nat.reduceEqDiff, Cells.get, getN, ldA, DS.read, Cells.take, g1a]
   refine W.mono (Wx hC hE hQf hW (d := d + 3) hT G2 r2b) ?_
   rintro ⟨v3, s3⟩ ⟨X3, h3⟩
   simp only at X3 h3
   have G3 := X3.good G2
   rcases h3 with ⟨hny, rfl⟩ | ⟨hmy, w2, rfl, hw2, hs2, hb2⟩
   · simp only [sA, zc, zy, zn, Nat.reduceEqDiff, ze, zh, getN, Int.reduceEq, foot, lv]
   have le3 := X3.le
   have hw1' : SlV s3 1 w1 (zH (YJ x)) := hw1.of fun k hk => X3.get k (hb1 k hk).2 (by simp)
   rcases SlR.of hw1' hs1 with ⟨_, h0⟩ | ⟨k1, o1, sp1, cc1, rfl, _, _, hrd1⟩
   · exact absurd h0 (FY x)
   rcases SlR.of hw2 hs2 with ⟨_, h0⟩ | ⟨k2, o2, sp2, cc2, rfl, _, _, hrd2⟩
   · exact absurd h0 (FY y)
   have hk1 := hb1 k1 (by simp [blk])
   have hk2 := hb2 k2 (by simp [blk])
   obtain ⟨f1, tb1, hf1⟩ : ∃ f1, Za (u8s (YJ x)) = some f1 ∧ f1 = Xa (YJ x) := ⟨_, Z6 _, rfl⟩
   obtain ⟨f2, tb2, hf2⟩ : ∃ f2, Za (u8s (YJ y)) = some f2 ∧ f2 = Xa (YJ y) := ⟨_, Z6 _, rfl⟩
   have hs : Kc .eql ⟨⟨f1⟩⟩ ⟨⟨f2⟩⟩ = some (.bool (decide (x = y))) := by
    rw [hf1, hf2, T5 (Gl ox) (Gl oy)]
    congr 2
    exact decide_eq_decide.2 ⟨fun h => Td hmx hmy ox oy h, fun h => by rw [h]⟩
   have g0b := X3.keep g0a (by simp)
   have g1b := X3.keep g1a (by simp)
   have hl1 : ldA 5 (.pointer (some ⟨s.next, 0, none⟩)) s3 = some (.agg ⟨[.int .i64 x.1.1, .int .i64 x.1.2, .slice b1 x.2.1.length c1, .slice b2 x.2.2.1.length c2, .int .i64 x.2.2.2]⟩) := by
    simp only [ldA, DS.read, g0b]
    rfl
   have hl2 : ldA 5 (.pointer (some ⟨s.next + 1, 0, none⟩)) s3 = some (.agg ⟨[.int .i64 y.1.1, .int .i64 y.1.2, .slice b3 y.2.1.length c3, .slice b4 y.2.2.1.length c4, .int .i64 y.2.2.2]⟩) := by
    simp only [ldA, DS.read, g1b]
    rfl
   simp (maxDischargeDepth := 8) only [sA, sM, zc, zy, zn, zi, getN, foot, Nat.reduceLT, lv, hrd1, hrd2, tb1, tb2, hs, hl1, hl2]
   have X03 : Ext [] s s3 := (X1 []).trans' (X2.trans' X3)
   have h8 : x.2.2.1.length ≤ 8 := by have := hmx.2.2.1; omega
   refine W.masked (hE.fr _) (Ct h13 i13 hlf h8 (Kq G3 fun k hk => ?_) (r1.ofLt X03 fun k hk => Y5 ?_) (r2.ofLt X03 fun k hk => Y5 ?_) ox.mb oy.mb) ?_
   · exact ⟨by (simp only [hidden, shielded, noteAt, Yk, Bool.or_false, Bool.or_eq_false_iff, Bool.and_eq_false_iff, J2, D0, Fp, true_and, and_true, true_or, or_true] <;> omega), by (simp only [hidden, shielded, noteAt, Yk, Bool.or_false, Bool.or_eq_false_iff, Bool.and_eq_false_iff, J2, D0, Fp, true_and, and_true, true_or, or_true] <;> omega)⟩
   · (simp only [hidden, shielded, noteAt, Yk, Bool.or_false, Bool.or_eq_false_iff, Bool.and_eq_false_iff, J2, D0, Fp, true_and, and_true, true_or, or_true] <;> omega)
   · (simp only [hidden, shielded, noteAt, Yk, Bool.or_false, Bool.or_eq_false_iff, Bool.and_eq_false_iff, J2, D0, Fp, true_and, and_true, true_or, or_true] <;> omega)
   rintro v4 s4 ⟨h4, X4⟩ df
   simp only at h4 X4
   subst h4
   simp (maxDischargeDepth := 8) only [sA, sM, zc, zY, ze, zh, foot, Nat.reduceLT, beq_self_eq_true]
end
end Go.Dx.TbA
