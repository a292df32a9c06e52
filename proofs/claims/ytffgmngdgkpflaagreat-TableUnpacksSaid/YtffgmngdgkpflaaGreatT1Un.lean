/- A part. -/
import Derived.Test.YtffgmngdgkpflaaGreatT1Ga
set_option linter.unusedVariables false
set_option linter.unusedSimpArgs false
set_option linter.unusedSectionVars false
set_option maxRecDepth 100000
set_option maxHeartbeats 4000000
namespace Go.Dx.TbA
open Go Go.Dx Go.Dx.Tab Go.Proofs.YtffgmngdgkpflaaGreat
noncomputable def YG (x : ZL) : TR := ⟨x.1.1, x.1.2, x.2.1, if x.2.1 = true then Kq x.2.2 else Rp.zero⟩
noncomputable def Ye (xs : List ZL) : TRs := (xs.map YG).zipIdx
def ZQ (xs : List ZL) : Prop := ∀ (i : Nat) (x : ZL), xs[i]? = some x → Wi x ∧ ∀ y : ZL, i ≠ 0 → xs[i - 1]? = some y → y.1.1 < x.1.1
theorem ZQ.lt {xs : List ZL} (h : ZQ xs) : ∀ (i j : Nat) (x y : ZL), j < i → xs[i]? = some x → xs[j]? = some y → y.1.1 < x.1.1
 | 0, j, x, y, hj, _, _ => by omega
 | i + 1, j, x, y, hj, hx, hy => by
  have hi := (List.getElem?_eq_some_iff.1 hx).1
  have hz : xs[i]? = some xs[i] := List.getElem?_eq_getElem (by omega)
  generalize xs[i] = z at hz
  have h1 := (h (i + 1) x hx).2 z (by omega) hz
  by_cases c : j = i
  · subst c
    rw [hz] at hy
    cases hy
    exact h1
  · have := h.lt i j z y (by omega) hz hy
    omega
theorem Gx (k : Int) : ∀ (ys : List ZL) (n : Nat), (∀ y, y ∈ ys → ¬ k = y.1.1) → Go.Dx.Tab.rowOf ((ys.map YG).zipIdx n) k = none
 | [], _, _ => rfl
 | y :: ys, n, h => by
  simp only [z4, List.zipIdx_cons, Go.Dx.Tab.rowOf]
  rw [if_neg (show ¬ k = (YG y).key from h y (List.mem_cons_self ..))]
  exact Gx k ys (n + 1) fun z hz => h z (List.mem_cons_of_mem _ hz)
theorem Gy (xs : List ZL) (x : ZL) : Ye (xs ++ [x]) = Ye xs ++ [(YG x, xs.length)] := by
 unfold Ye
 rw [List.map_append, List.zipIdx_append]
 simp
theorem GU {α : Type} (rd : RS → α × RS) : ∀ (n : Nat) (l : List α) (st : RS), (Yc rd n l st).1.length ≤ l.length + n
 | 0, l, st => Nat.le_refl _
 | n + 1, l, st => by
  unfold Yc
  split
  · simp
  · have := GU rd n (l ++ [(rd st).1]) (rd st).2
    simp at this ⊢
    omega
theorem K4 {bs : List Int} (hB : IsB bs) : (rdT (bs, false)).1.length ≤ 4096 := by
 have hr := Wu (size := 2) (most := 4096) (bs, false) hB (by decide) (by decide)
 have := GU Vv (rdN 2 4096 (bs, false)).1.toNat [] (rdN 2 4096 (bs, false)).2
 show (Yc Vv _ [] _).1.length ≤ 4096
 simp at this
 omega
theorem GV {α : Type} {rd : RS → α × RS} {P : α → Prop} (hk : Qa rd) (hr : ∀ st : RS, IsB st.1 → P (rd st).1) : ∀ (n : Nat) (l : List α) (st : RS), IsB st.1 → (∀ x, x ∈ l → P x) → ∀ x, x ∈ (Yc rd n l st).1 → P x
 | 0, l, st, _, hl => hl
 | n + 1, l, st, hB, hl => by
  unfold Yc
  split
  · exact hl
  · obtain ⟨k, e⟩ := hk.suf st
    refine GV hk hr n _ _ (by rw [e]; exact hB.drop k) fun x hx => ?_
    rcases List.mem_append.1 hx with hx | hx
    · exact hl x hx
    · rw [List.mem_singleton.1 hx]
      exact hr st hB
theorem Dt (st : RS) (hB : IsB st.1) : IsB (rdB st).1 ∧ (rdB st).1.length ≤ 1048576 := by
 have hr := Wu (size := 4) (most := 65536) st hB (by decide) (by decide)
 obtain ⟨k, e⟩ := (Zo 4 65536).suf st
 unfold rdB tk
 split
 · exact ⟨(fun b hb => nomatch hb), Nat.zero_le _⟩
 · refine ⟨by rw [e]; exact (hB.drop k).take _, ?_⟩
   simp only [List.length_take]
   omega
theorem Ds {bs : List Int} (hB : IsB bs) : ∀ x, x ∈ (rdT (bs, false)).1 → IsB x.2.2 ∧ x.2.2.length ≤ 1048576 := by
 obtain ⟨k, e⟩ := (Zo 2 4096).suf (bs, false)
 refine GV (P := fun x : ZL => IsB x.2.2 ∧ x.2.2.length ≤ 1048576) Gi (fun st hs => ?_) _ _ _ (by rw [e]; exact hB.drop k) (fun _ h => nomatch h)
 obtain ⟨k1, e1⟩ := (Xg (Zo 1 255) (Zo 8 0)).suf st
 obtain ⟨k2, e2⟩ := Qs.suf (rdP (rdN 1 255) (rdN 8 0) st).2
 exact Dt _ (by rw [e2, e1]; exact (hs.drop k1).drop k2)
theorem SlC.row4 {s : DS} {v : Value} {vs : List (List Value)} (h : SlC s 4 v vs) (ok : Z0 4 vs) {i : Nat} {row : List Value} (hx : vs[i]? = some row) : ∃ b sp c, v = .slice (some ⟨b, 0, sp⟩) vs.length c ∧ ldA 4 (.pointer (some ⟨b, i * 4, none⟩)) s = some (.agg ⟨row⟩) := by
 rcases h with ⟨_, rfl⟩ | ⟨b, sp, c, ext, rfl, h⟩
 · simp at hx
 · refine ⟨b, sp, c, rfl, ?_⟩
   have hi := (List.getElem?_eq_some_iff.1 hx).1
   have h1 := h.part ok (Nat.le_succ i) hi
   have e : (vs.take (i + 1)).drop i = [row] := by
    have hl : (vs.take i).length = i := by rw [List.length_take]; omega
    rw [List.take_add_one, hx, List.drop_append, List.drop_of_length_le (by omega), hl]
    simp
   rw [show i.succ = i + 1 from rfl, e, Nat.zero_add, show (i + 1 - i) * 4 = 4 by omega, List.flatten_cons, List.flatten_nil, List.append_nil] at h1
   simp only [ldA, h1]
structure UnI (s0 : DS) (xs : List ZL) (lv : Value) (tt m : Nat) (n : Nat) (y : St) : Prop where
 ex : ∃ i : Nat, n = xs.length - i ∧ i ≤ xs.length ∧ y.defers = [] ∧
  (y.t.get 4 = some lv ∧ y.t.get 6 = some (.pointer (some ⟨tt, 0, none⟩)) ∧ y.t.get 20 = some lv ∧ y.t.get 21 = some (.int .i64 (xs.length : Int)) ∧ y.t.get 22 = some (.int .i64 (i : Int))) ∧
  TabAt y.s tt m (Ye (xs.take i)) i ∧ ZQ (xs.take i) ∧ Ext [m] s0 y.s ∧ y.s.Good
section
variable {E : Env} (hC : KQ E) (hG' : Dd E) (hR : FR E) (hF : FP E) (hT : FQ E) {s : DS} {d : Nat} {bv : Value} {bs : List Int}
include hC hG' hR hF hT
theorem TS (hcode : E.fn 6 = some d6) (hintr : E.intr 6 = none) (hrd : E.fn 25 = some d25) (ird : E.intr 25 = none) (h5 : E.fn 10 = some d10) (i5 : E.intr 10 = none) (hv : SlR s bv bs) (hB : IsB bs) (hl : bs.length ≤ 1048576) (hG : s.Good) :
 W (dcall E (d + 11) (.func (.func 6) #[] #[]) [bv] s) fun r => Ext [] s r.2 ∧ ((¬ (Vo bs ∧ ZQ (rdT (bs, false)).1) ∧ r.1 = .tuple ⟨[.pointer none, .int .i64 10]⟩) ∨
  ((Vo bs ∧ ZQ (rdT (bs, false)).1) ∧ ∃ t m, r.1 = .tuple ⟨[.pointer (some ⟨t, 0, none⟩), .int .i64 0]⟩ ∧ TabAt r.2 t m (Ye (rdT (bs, false)).1) (rdT (bs, false)).1.length ∧ s.next ≤ t ∧ s.next ≤ m)) := by
 refine Zh fun Q hQ => ?_
 rw [zP hintr hcode rfl]
 simp (maxSteps := 4000000) only [zq, zg, za, zf, zl, zo, ze, zK, zB, zm, zA, zd, z5, pp, pv, pw, pg, d6]
 refine W.mono (Ml hG' hC (d := d + 7) hR hF hG) ?_
 rintro ⟨fv, s1⟩ ⟨q1, X1⟩
 simp only at q1 X1
 have G1 := X1.good hG
 simp (maxSteps := 4000000) only [zo, ze, zK, zB, zi, zA, zd, zb, zc, Nat.reduceEqDiff, z0, zh, List.getElem?_cons_zero, z1, z4, z5, reduceCtorEq]
 refine W.mono (L7 hF (d := d + 1) q1 (hv.keep X1 (by simp)) hB hl G1) ?_
 rintro ⟨v2, s2⟩ ⟨X2, h2⟩
 simp only at X2 h2
 have G2 := X2.good G1
 have X02 := X1.trans' X2
 rcases h2 with ⟨hn, rfl⟩ | ⟨hg, lv, rfl, hlv⟩
 · simp (maxSteps := 4000000) only [zq, zg, zD, zI, za, Zf, zf, zl, zo, zN, ze, zr, zj, zK, zV, YJ, zp, Zc, zX, zu, zi, zm, zd, zb, zc, Nat.reduceEqDiff, z0, z1, zn, zy, getN, if_true, Bool.not_false, decide_false, Int.reduceEq]
   exact hQ _ ⟨X02, .inl ⟨fun h => hn h.1, rfl⟩⟩
 have hnew : dcall E (d + 10) (.func (.func 10) #[] #[]) [] s2 = some (.pointer (some ⟨s2.next + 1, 0, none⟩), (s2.new (.map [] 0)).new (.cells (.list [.map (some s2.next)]) false)) := by
  rw [← V6, zP i5 h5 rfl]
  simp (maxSteps := 4000000) only [zq, zg, zI, za, zf, zl, zo, ze, ZC, zj, zK, Zl, ZA, LU, zu, zi, zm, zd, zb, z1, zn, zy, Nat.zero_add, PN, zx, List.length_cons, List.length_nil, Bool.and_self, Bool.and_eq_true, Nat.beq_eq, Nat.ble_eq, Nat.le_refl, and_self, if_true, zM, List.take_zero, List.drop_succ_cons, List.nil_append, List.drop_nil, List.append_nil, pp, pv, zQ, d10]
 obtain ⟨vs, hsl, hok, hrr, hbl⟩ := hlv
 obtain ⟨al, cl, hlvs⟩ := hsl.shape
 subst hlvs
 obtain ⟨S3, hS3⟩ : ∃ S3 : DS, S3 = (s2.new (.map [] 0)).new (.cells (.list [.map (some s2.next)]) false) := ⟨_, rfl⟩
 rw [← hS3] at hnew
 simp (maxSteps := 4000000) only [zq, zg, zD, Zp, zO, za, zf, zl, zo, zt, ze, zr, zj, zK, zV, YJ, ZE, zB, zp, Zc, zX, zi, zm, zA, zd, zb, zc, Nat.reduceEqDiff, z0, z1, z5, getN, if_true, Bool.not_true, decide_true, hnew]
 obtain ⟨xs, hxs⟩ : ∃ xs, xs = (rdT (bs, false)).1 := ⟨_, rfl⟩
 rw [← hxs] at hrr hQ
 have hln := hrr.len
 have hlf : xs.length < E.lf := by
  have h1 := hG'.lf
  have h2 := K4 hB
  rw [← hxs] at h2
  omega
 have X3 : Ext [] s2 S3 := by rw [hS3]; exact Ext.new.trans' Ext.new
 have n3 : S3.next = s2.next + 2 := by rw [hS3]; rfl
 have G3 := X3.good G2
 have gm3 : S3.get s2.next = some (.map [] 0) := by rw [hS3]; simp (maxSteps := 4000000) (maxDischargeDepth := 8) only [zQ, zk, zw, zC, Nat.lt_add_one, G2]
 have go3 : S3.get (s2.next + 1) = some (.cells (.list [.map (some s2.next)]) false) := by rw [hS3]; simp (maxSteps := 4000000) (maxDischargeDepth := 8) only [zQ, zk, zC, G2]
 have wm3 : S3.wr s2.next = true := X3.wrs (G2 _ (Nat.le_refl _)).2
 have wo3 : S3.wr (s2.next + 1) = true := X3.wrs (G2 _ (Nat.le_succ _)).2
 have le1 := X1.le
 have le2 := X2.le
 rw [hln]
 refine Wc (UnI S3 xs (.slice al xs.length cl) (s2.next + 1) s2.next) xs.length hlf ⟨0, rfl, Nat.zero_le _, rfl, ?_, ?_, ?_, .refl, G3⟩ ?_
 · simp (maxSteps := 4000000) only [zb, zc, Nat.reduceEqDiff, z0, Bool.true_and, true_and]
   rfl
 · exact ⟨go3, wo3, gm3, wm3, by omega⟩
 · intro i x h
   simp at h
 rintro n ⟨t, S, ds⟩ hn ⟨i, rfl, hi, hds, ⟨t4, t6, t20, t21, t22⟩, c, ok, X, GS⟩
 simp only at hds t4 t6 t20 t21 t22 c X GS
 subst hds
 by_cases c1 : i < xs.length
 · have e1 : ((i : Nat) : Int) < (xs.length : Int) := by omega
   have hx : xs[i]? = some xs[i] := List.getElem?_eq_getElem c1
   generalize xs[i] = x at hx
   have hv1 : vs[i]? = some vs[i] := List.getElem?_eq_getElem (by omega)
   generalize vs[i] = row at hv1
   have hml : s2.next ∉ blk (.slice al vs.length cl) := fun h => by have := hsl.lt _ h; omega
   have hsS : SlC S 4 (.slice al vs.length cl) vs := (hsl.keep X3 (by simp)).keep X (fun k hk e => hml (List.mem_singleton.1 e ▸ hk))
   have hrS := hrr.step (s' := S) (lv' := .slice al vs.length cl) DC (fun k k1 k2 _ => (X.get k (by omega) (by simp; omega)).trans (X3.get k k2 (by simp))) (by have := X.le; omega) (fun k _ h => h)
   obtain ⟨hR1, hR2⟩ := hrS.at_ i row x hv1 hx
   obtain ⟨w, hrw, hw⟩ := Jd _ _ _ _ hR1
   injection hrw with hrw
   injection hrw with hrw
   subst hrw
   obtain ⟨b, sp, cc, hv', hrow⟩ := SlC.row4 hsS hok hv1
   obtain ⟨w1, w2, w3, hwv⟩ := Kl _ _ _ _ hw
   subst hwv
   injection hv' with ha hb hc'
   subst ha hc'
   have c1' : i < vs.length := by omega
   simp (maxSteps := 4000000) (maxDischargeDepth := 8) only [zq, zg, zD, Zp, zO, za, zf, zl, zo, zN, ze, zr, zU, zj, zK, zV, FO, Zx, zW, zp, Zc, zX, zi, zd, zE, zb, zc, z0, z1, Nat.zero_add, Nat.reduceAdd, Zd, zx, List.length_cons, List.length_nil, zL, zH, Bool.and_self, Bool.and_true, Nat.beq_eq, Nat.ble_eq, Nat.blt_eq, Nat.le_refl, if_true, DS.wrC, Cells.size, Cells.fillFrom, Cells.set, Zb, wrN, Yh, Zq, decide_true, zk, zC, Zi, zJ, ZF, Nat.reduceLT, Nat.lt_add_one, t4, t6, t20, t21, t22, e1, c1, c1', hrow, GS]
   obtain ⟨S4, hS4⟩ : ∃ S4 : DS, S4 = (S.new (.cells (.list [.int .i64 0, .int .i64 0, .bool false, .slice none 0 0]) false)).upd S.next (.cells (.list [.int .i64 x.1.1, .int .i64 x.1.2, .bool x.2.1, .slice w1 w2 w3]) false) := ⟨_, rfl⟩
   rw [← hS4]
   have X4 : Ext [] S S4 := by
    rw [hS4]
    exact (Ext.new (F := [])).trans (Ext.upd (F := [S.next]) (.inl (by simp))) (by simp)
   have G4 := X4.good GS
   have g4 : S4.get S.next = some (.cells (.list [.int .i64 x.1.1, .int .i64 x.1.2, .bool x.2.1, .slice w1 w2 w3]) false) := by rw [hS4, DS.upd_get_self, DS.new_get_self GS]; rfl
   have hld4 : ldA 4 (.pointer (some ⟨S.next, 0, none⟩)) S4 = some (.agg ⟨[.int .i64 x.1.1, .int .i64 x.1.2, .bool x.2.1, .slice w1 w2 w3]⟩) := by
    simp only [ldA, DS.read, g4]
    rfl
   have hBx : IsB x.2.2 ∧ x.2.2.length ≤ 1048576 := Ds hB x (by rw [← hxs]; exact List.mem_of_getElem? hx)
   simp (maxSteps := 4000000) (maxDischargeDepth := 8) only [zo, ze, zr, zj, zB, zi, zA, zd, zb, z1, z4, z5, hld4]
   refine W.mono (M9 hC hG' hR hT (d := d) (x := x) hrd ird (hw.1.keep X4 (by simp)) hBx.1 hBx.2 G4) ?_
   rintro ⟨v5, s5⟩ ⟨X5, okb, hv5, hok5⟩
   simp only at X5 hv5
   subst hv5
   have hrw8 : TbA.rowOf x = [.int .i64 (YG x).num, .bool (YG x).done, .int .i64 (YG x).rep.c, .int .i64 (YG x).rep.n, .bool (YG x).rep.rej, .int .i64 (YG x).rep.trap, .int .i64 (YG x).rep.v, .int .i64 (YG x).rep.gas] := rfl
   rw [hrw8]
   have G5 := X5.good G4
   have X05 : Ext [] s s5 := (((X02.trans' X3).trans X (by simp; omega)).trans' X4).trans' X5
   have XQ : ∀ o1 o2, Ext [] s ((s5.new o1).upd s5.next o2) := fun o1 o2 => by
    have a1 : Ext [] s5 (s5.new o1) := Ext.new
    have a2 : Ext [s5.next] (s5.new o1) ((s5.new o1).upd s5.next o2) := Ext.upd (.inl (by simp))
    exact X05.trans' (a1.trans a2 (by simp))
   cases okb with
   | false =>
    simp (maxSteps := 4000000) (maxDischargeDepth := 8) only [zq, zg, zD, zI, za, Zf, YA, zf, Xq, zl, zo, Zm, Yg, zN, ze, zr, zU, zj, zK, zR, YU, YJ, Zx, zW, zp, zu, zi, zm, zd, zE, zb, zc, z0, z1, zn, zy, getN, Nat.zero_add, Nat.reduceAdd, Zd, zx, List.length_cons, List.length_nil, zL, zH, Bool.and_self, Bool.and_true, Nat.beq_eq, Nat.ble_eq, Nat.le_refl, if_true, if_false, Bool.not_false, z3, DS.wrC, Cells.size, Cells.fillFrom, Cells.set, Zb, List.nil_append, DS.upd_next, zQ, wrN, YH, zk, zC, Zi, zJ, ZF, Nat.reduceLT, Nat.lt_add_one, G5]
    exact hQ _ ⟨XQ _ _, .inl ⟨(fun h => by have := hok5.2 (h.2 i x hx).1; cases this), rfl⟩⟩
   | true =>
    simp (maxSteps := 4000000) (maxDischargeDepth := 8) only [zq, zg, za, zf, zl, zo, Zm, zY, ze, zr, zU, zj, zK, zV, YU, YJ, Zx, zW, zp, Zc, zX, zi, zm, zd, zE, zb, zc, z0, z1, getN, Nat.zero_add, Nat.reduceAdd, Zd, zx, List.length_cons, List.length_nil, zL, zH, Bool.and_self, Bool.and_true, Nat.beq_eq, Nat.ble_eq, Nat.le_refl, if_true, Bool.not_true, DS.wrC, Cells.size, Cells.fillFrom, Cells.set, Zb, wrN, zk, zC, Zi, zJ, ZF, Nat.reduceLT, Nat.lt_add_one, G5]
    obtain ⟨S6, hS6⟩ : ∃ S6 : DS, S6 = (s5.new (.cells (.list [.int .i64 0, .bool false, .int .i64 0, .int .i64 0, .bool false, .int .i64 0, .int .i64 0, .int .i64 0]) false)).upd s5.next (.cells (.list [.int .i64 (YG x).num, .bool (YG x).done, .int .i64 (YG x).rep.c, .int .i64 (YG x).rep.n, .bool (YG x).rep.rej, .int .i64 (YG x).rep.trap, .int .i64 (YG x).rep.v, .int .i64 (YG x).rep.gas]) false) := ⟨_, rfl⟩
    rw [← hS6]
    have X6 : Ext [] s5 S6 := by
     rw [hS6]
     exact (Ext.new (F := [])).trans (Ext.upd (F := [s5.next]) (.inl (by simp))) (by simp)
    have G6 := X6.good G5
    have g96 : S6.get s5.next = some (.cells (.list [.int .i64 (YG x).num, .bool (YG x).done, .int .i64 (YG x).rep.c, .int .i64 (YG x).rep.n, .bool (YG x).rep.rej, .int .i64 (YG x).rep.trap, .int .i64 (YG x).rep.v, .int .i64 (YG x).rep.gas]) false) := by rw [hS6, DS.upd_get_self, DS.new_get_self G5]; rfl
    have hld9 : ldA 8 (.pointer (some ⟨s5.next, 0, none⟩)) S6 = some (YG x).val := by
     simp only [ldA, DS.read, g96]
     rfl
    have X46 := (X4.trans' X5).trans' X6
    have c6 := c.keep X46 (by simp) (by simp)
    have g46 := (X5.trans' X6).keep g4 (by simp)
    have hkey : isKey .num (.int .i64 x.1.1) = true := rfl
    have w22 : Zj .i64 ((i : Int) + 1) = ((i + 1 : Nat) : Int) := by rw [ZV (by have := K4 hB; rw [← hxs] at this; omega) (by have := K4 hB; rw [← hxs] at this; omega)]; omega
    have htk : xs.take (i + 1) = xs.take i ++ [x] := by rw [List.take_add_one, hx]; rfl
    have hli : (xs.take i).length = i := by rw [List.length_take]; omega
    have fin : (∀ y : ZL, i ≠ 0 → xs[i - 1]? = some y → y.1.1 < x.1.1) → ZQ (xs.take (i + 1)) ∧ Wl .num (.int .i64 x.1.1) ((Ye (xs.take i)).map trE) 0 = some none ∧ (Ye (xs.take i)).map trE ++ [{ key := .int .i64 x.1.1, val := (YG x).val, born := i }] = (Ye (xs.take (i + 1))).map trE := by
     intro hlt
     have ok' : ZQ (xs.take (i + 1)) := by
      intro j z hz
      by_cases hj : j < i
      · have hz' : (xs.take i)[j]? = some z := by rw [htk, List.getElem?_append_left (by omega)] at hz; exact hz
        refine ⟨(ok j z hz').1, fun y h1 h2 => (ok j z hz').2 y h1 ?_⟩
        rw [htk, List.getElem?_append_left (by omega)] at h2
        exact h2
      · have hj2 := (List.getElem?_eq_some_iff.1 hz).1
        have hj3 : j = i := by rw [htk] at hj2; simp at hj2; omega
        subst hj3
        have hz2 : x = z := by rw [htk, List.getElem?_append_right (by omega), hli] at hz; simpa using hz
        subst hz2
        refine ⟨hok5.1 rfl, fun y h1 h2 => hlt y h1 ?_⟩
        rw [List.getElem?_take_of_lt (by omega)] at h2
        exact h2
     refine ⟨ok', ?_, ?_⟩
     · have hnone : Go.Dx.Tab.rowOf (Ye (xs.take i)) x.1.1 = none := Gx _ _ 0 fun y hy => by
        obtain ⟨j, hj, hy⟩ := List.mem_iff_getElem.1 hy
        have := ok'.lt i j x y (by omega) (by rw [htk, List.getElem?_append_right (by omega), hli]; simp) (by rw [htk, List.getElem?_append_left (by omega), List.getElem?_eq_getElem hj, hy])
        omega
       rcases J4 (Ye (xs.take i)) x.1.1 0 with ⟨h1, _⟩ | ⟨j, z, _, _, h3, _⟩
       · exact h1
       · rw [hnone] at h3
         cases h3
     · rw [htk, Gy, hli, ← M2]
       rfl
    have c7 : ∀ M' : TRs, TabAt (S6.upd s2.next (.map (M'.map trE) (i + 1))) (s2.next + 1) s2.next M' (i + 1) := fun M' => ⟨by rw [DS.upd_get_ne (by omega)]; exact c6.go, by rw [DS.upd_wr]; exact c6.wo, by rw [DS.upd_get_self, c6.gm]; rfl, by rw [DS.upd_wr]; exact c6.wm, by omega⟩
    have X7 : ∀ o, Ext [s2.next] S3 (S6.upd s2.next o) := fun o => (X.trans X46 (by simp)).trans' (Ext.upd (.inl (by simp)))
    by_cases hi0 : i = 0
    · have h0 : ((0 : Int) < (i : Int)) = False := eq_false (by omega)
      obtain ⟨okN, hfnd, hmap⟩ := fin fun y h => absurd hi0 h
      simp (maxSteps := 4000000) (maxDischargeDepth := 8) only [zg, zD, zO, za, Zk, zf, ZB, zl, zo, Zm, Zv, zY, zt, ze, zr, zj, zK, zR, zV, z8, zF, z9, MP, zp, Zc, zX, z6, zi, zm, zd, zE, zb, zc, z0, z1, zG, Cells.get, getN, if_true, if_false, z3, List.nil_append, Option.isSome_some, DS.set_upd, Yh, Nat.add_zero, decide_false, zJ, ZF, Nat.reduceLT, Nat.lt_add_one, h0, t4, t6, t20, t21, t22, c6.go, c6.gm, c6.wm, g46, hld9, hkey, hfnd, w22, hmap]
      exact ⟨xs.length - (i + 1), by omega, ⟨i + 1, rfl, by omega, rfl, by simp (maxSteps := 4000000) only [zb, zc, Nat.reduceEqDiff, z0, Bool.and_self, and_self, t4, t6, t20, t21, hln], c7 _, okN, X7 _, (X7 _).good G3⟩⟩
    · have h0 : ((0 : Int) < (i : Int)) = True := eq_true (by omega)
      have hw1 : Zj .i64 ((i : Int) - 1) = ((i - 1 : Nat) : Int) := by rw [ZV (by have := K4 hB; rw [← hxs] at this; omega) (by have := K4 hB; rw [← hxs] at this; omega)]; omega
      have c2 : (i - 1 < xs.length) = True := eq_true (by omega)
      have hy : xs[i - 1]? = some xs[i - 1] := List.getElem?_eq_getElem (by omega)
      generalize xs[i - 1] = y at hy
      have hv2 : vs[i - 1]? = some vs[i - 1] := List.getElem?_eq_getElem (by omega)
      generalize vs[i - 1] = prow at hv2
      obtain ⟨zz, hpw, _⟩ := Jd _ _ _ _ (hrS.at_ (i - 1) prow y hv2 hy).1
      injection hpw with hpw
      injection hpw with hpw
      subst hpw
      obtain ⟨b', sp', cc', ext, hv'', hroom, hgy⟩ := SlC.read (hsS.keep X46 (by simp)) hok hv2 (j := 0) rfl
      injection hv'' with ha' hb' hc''
      injection ha' with ha'
      injection ha' with ha1 ha2 ha3
      subst ha1
      have gb6 := hroom.get
      simp only [Nat.add_zero] at hgy
      by_cases hyx : x.1.1 ≤ y.1.1
      · simp (maxSteps := 4000000) (maxDischargeDepth := 8) only [zq, zg, zD, zI, za, Zf, YA, zf, Xq, zl, zo, Zm, Za, zY, zN, ze, zr, zj, zK, zR, zV, zF, FO, z9, zp, Zc, zX, zu, zi, zm, zd, zb, zc, z0, z1, zn, zy, zG, Cells.get, getN, Nat.zero_add, Nat.blt_eq, if_true, if_false, z3, Nat.add_zero, Zq, decide_true, zJ, ZF, Nat.reduceLT, Nat.lt_add_one, h0, t4, t6, t20, t21, t22, c6.go, c6.gm, c6.wm, g46, hld9, hw1, c2, gb6, hgy, hyx]
        exact hQ _ ⟨X05.trans' X6, .inl ⟨(fun h => by have := (h.2 i x hx).2 y hi0 hy; omega), rfl⟩⟩
      · obtain ⟨okN, hfnd, hmap⟩ := fin fun y' _ h => by
         rw [hy] at h
         cases h
         omega
        simp (maxSteps := 4000000) (maxDischargeDepth := 8) only [zg, zD, zO, za, Zk, zf, ZB, zl, zo, Zm, Za, zY, zt, ze, zr, zj, zK, zR, zV, z8, zF, FO, z9, MP, zp, Zc, zX, z6, zi, zm, zd, zE, zb, zc, z0, z1, zG, Cells.get, getN, Nat.zero_add, Nat.blt_eq, if_true, if_false, z3, Option.isSome_some, DS.set_upd, Yh, Nat.add_zero, Zq, decide_true, decide_false, zJ, ZF, Nat.reduceLT, Nat.lt_add_one, h0, t4, t6, t20, t21, t22, c6.go, c6.gm, c6.wm, g46, hld9, hw1, c2, gb6, hgy, hyx, hkey, hfnd, w22, hmap]
        exact ⟨xs.length - (i + 1), by omega, ⟨i + 1, rfl, by omega, rfl, by simp (maxSteps := 4000000) only [zb, zc, Nat.reduceEqDiff, z0, Bool.and_self, and_self, t4, t6, t20, t21, hln], c7 _, okN, X7 _, (X7 _).good G3⟩⟩
 · obtain rfl : i = xs.length := by omega
   have e1 : ¬ ((xs.length : Nat) : Int) < (xs.length : Int) := by omega
   rw [List.take_length] at c ok
   simp (maxSteps := 4000000) only [zq, zg, zD, zI, Yx, za, ZH, ZI, zf, ZN, zl, zo, zt, ze, zr, zj, zK, zV, Zc, zX, zu, zi, zm, zd, zb, zc, Nat.reduceEqDiff, z0, z1, zn, zy, if_true, decide_false, t4, t6, t20, t21, t22, e1]
   exact hQ _ ⟨(X02.trans' X3).trans X (by simp; omega), .inr ⟨⟨hg, ok⟩, _, _, rfl, c, by omega, by omega⟩⟩
end
end Go.Dx.TbA
