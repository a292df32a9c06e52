/- A part. -/
import Derived.Test.YtffgmngdgkpflaaGreatT1Ga
import Derived.Test.YtffgmngdgkpflaaGreatDxTp
import Derived.Test.YtffgmngdgkpflaaGreatDxF
set_option linter.unusedVariables false
set_option linter.unusedSimpArgs false
set_option linter.unusedSectionVars false
set_option maxRecDepth 100000
set_option maxHeartbeats 4000000
namespace Go.Dx.TbA
open Go Go.Dx Go.Dx.Tab Go.Proofs.YtffgmngdgkpflaaGreat
noncomputable def ZT (x : zX) : TR := ⟨x.1.1, x.1.2, x.2.1, if x.2.1 = true then Vj x.2.2 else Rp.zero⟩
noncomputable def YC (xs : List zX) : TRs := (xs.map ZT).zipIdx
def Zu (xs : List zX) : Prop := ∀ (i : Nat) (x : zX), xs[i]? = some x → Wr x ∧ ∀ y : zX, i ≠ 0 → xs[i - 1]? = some y → y.1.1 < x.1.1
theorem Zu.lt {xs : List zX} (h : Zu xs) : ∀ (i j : Nat) (x y : zX), j < i → xs[i]? = some x → xs[j]? = some y → y.1.1 < x.1.1
 | 0, j, x, y, hj, _, _ => by omega
 | i + 1, j, x, y, hj, hx, hy => by
  have hi := (List.getElem?_eq_some_iff.1 hx).1
  have hz : xs[i]? = some xs[i] := List.getElem?_eq_getElem (by omega)
  generalize xs[i] = z at hz
  have h1 := (h (i + 1) x hx).2 z (by omega) hz
  by_cases c : j = i
  · subst c
    rw [hz] at hy
    cases hy
    exact h1
  · have := h.lt i j z y (by omega) hz hy
    omega
theorem VG (k : Int) : ∀ (ys : List zX) (n : Nat), (∀ y, y ∈ ys → ¬ k = y.1.1) → Go.Dx.Tab.rowOf ((ys.map ZT).zipIdx n) k = none
 | [], _, _ => rfl
 | y :: ys, n, h => by
  simp only [z4, List.zipIdx_cons, Go.Dx.Tab.rowOf]
  rw [if_neg (show ¬ k = (ZT y).key from h y (List.mem_cons_self ..))]
  exact VG k ys (n + 1) fun z hz => h z (List.mem_cons_of_mem _ hz)
theorem Th (xs : List zX) (x : zX) : YC (xs ++ [x]) = YC xs ++ [(ZT x, xs.length)] := by
 unfold YC
 rw [List.map_append, List.zipIdx_append]
 simp
theorem V0 {α : Type} (rd : RS → α × RS) : ∀ (n : Nat) (l : List α) (st : RS), (Ze rd n l st).1.length ≤ l.length + n
 | 0, l, st => Nat.le_refl _
 | n + 1, l, st => by
  unfold Ze
  split
  · simp
  · have := V0 rd n (l ++ [(rd st).1]) (rd st).2
    simp at this ⊢
    omega
theorem J7 {bs : List Int} (hB : IsB bs) : (rdT (bs, false)).1.length ≤ 4096 := by
 have hr := Wa (size := 2) (most := 4096) (bs, false) hB (by decide) (by decide)
 have := V0 DU (rdN 2 4096 (bs, false)).1.toNat [] (rdN 2 4096 (bs, false)).2
 show (Ze DU _ [] _).1.length ≤ 4096
 simp at this
 omega
theorem V2 {α : Type} {rd : RS → α × RS} {P : α → Prop} (hk : XM rd) (hr : ∀ st : RS, IsB st.1 → P (rd st).1) : ∀ (n : Nat) (l : List α) (st : RS), IsB st.1 → (∀ x, x ∈ l → P x) → ∀ x, x ∈ (Ze rd n l st).1 → P x
 | 0, l, st, _, hl => hl
 | n + 1, l, st, hB, hl => by
  unfold Ze
  split
  · exact hl
  · obtain ⟨k, e⟩ := hk.suf st
    refine V2 hk hr n _ _ (by rw [e]; exact hB.drop k) fun x hx => ?_
    rcases List.mem_append.1 hx with hx | hx
    · exact hl x hx
    · rw [List.mem_singleton.1 hx]
      exact hr st hB
theorem RB (st : RS) (hB : IsB st.1) : IsB (rdB st).1 ∧ (rdB st).1.length ≤ 1048576 := by
 have hr := Wa (size := 4) (most := 65536) st hB (by decide) (by decide)
 obtain ⟨k, e⟩ := (zA 4 65536).suf st
 unfold rdB tk
 split
 · exact ⟨(fun b hb => nomatch hb), Nat.zero_le _⟩
 · refine ⟨by rw [e]; exact (hB.drop k).take _, ?_⟩
   simp only [List.length_take]
   omega
theorem Rz {bs : List Int} (hB : IsB bs) : ∀ x, x ∈ (rdT (bs, false)).1 → IsB x.2.2 ∧ x.2.2.length ≤ 1048576 := by
 obtain ⟨k, e⟩ := (zA 2 4096).suf (bs, false)
 refine V2 (P := fun x : zX => IsB x.2.2 ∧ x.2.2.length ≤ 1048576) Vs (fun st hs => ?_) _ _ _ (by rw [e]; exact hB.drop k) (fun _ h => nomatch h)
 obtain ⟨k1, e1⟩ := (ZV (zA 1 255) (zA 8 0)).suf st
 obtain ⟨k2, e2⟩ := Qn.suf (rdP (rdN 1 255) (rdN 8 0) st).2
 exact RB _ (by rw [e2, e1]; exact (hs.drop k1).drop k2)
theorem SlC.row4 {s : DS} {v : Value} {vs : List (List Value)} (h : SlC s 4 v vs) (ok : zW 4 vs) {i : Nat} {row : List Value} (hx : vs[i]? = some row) : ∃ b sp c, v = .slice (some ⟨b, 0, sp⟩) vs.length c ∧ ldA 4 (.pointer (some ⟨b, i * 4, none⟩)) s = some (.agg ⟨row⟩) := by
 rcases h with ⟨_, rfl⟩ | ⟨b, sp, c, ext, rfl, h⟩
 · simp at hx
 · refine ⟨b, sp, c, rfl, ?_⟩
   have hi := (List.getElem?_eq_some_iff.1 hx).1
   have h1 := h.part ok (Nat.le_succ i) hi
   have e : (vs.take (i + 1)).drop i = [row] := by
    have hl : (vs.take i).length = i := by rw [List.length_take]; omega
    rw [List.take_add_one, hx, List.drop_append, List.drop_of_length_le (by omega), hl]
    simp
   rw [show i.succ = i + 1 from rfl, e, Nat.zero_add, show (i + 1 - i) * 4 = 4 by omega, List.flatten_cons, List.flatten_nil, List.append_nil] at h1
   simp only [ldA, h1]
structure UnI (s0 : DS) (xs : List zX) (lv : Value) (tt m : Nat) (n : Nat) (y : St) : Prop where
 ex : ∃ i : Nat, n = xs.length - i ∧ i ≤ xs.length ∧ y.defers = [] ∧
  (y.t.get 4 = some lv ∧ y.t.get 6 = some (.pointer (some ⟨tt, 0, none⟩)) ∧ y.t.get 20 = some lv ∧ y.t.get 21 = some (.int .i64 (xs.length : Int)) ∧ y.t.get 22 = some (.int .i64 (i : Int))) ∧
  TabAt y.s tt m (YC (xs.take i)) i ∧ Zu (xs.take i) ∧ Ext [m] s0 y.s ∧ y.s.Good
section
variable {E : Env} (hC : QE E) (hG' : GM E) (hR : Vh E) (hF : Kw E) (hT : Jx E) {s : DS} {d : Nat} {bv : Value} {bs : List Int}
include hC hG' hR hF hT
theorem VF (hcode : E.fn 6 = some d6) (hintr : E.intr 6 = none) (hrd : E.fn 25 = some d25) (ird : E.intr 25 = none) (h5 : E.fn 10 = some d10) (i5 : E.intr 10 = none) (hv : SlR s bv bs) (hB : IsB bs) (hl : bs.length ≤ 1048576) (hG : s.Good) :
 W (dcall E (d + 11) (.func (.func 6) #[] #[]) [bv] s) fun r => Ext [] s r.2 ∧ ((¬ (KA bs ∧ Zu (rdT (bs, false)).1) ∧ r.1 = .tuple ⟨[.pointer none, .int .i64 10]⟩) ∨
  ((KA bs ∧ Zu (rdT (bs, false)).1) ∧ ∃ t m, r.1 = .tuple ⟨[.pointer (some ⟨t, 0, none⟩), .int .i64 0]⟩ ∧ TabAt r.2 t m (YC (rdT (bs, false)).1) (rdT (bs, false)).1.length ∧ s.next ≤ t ∧ s.next ≤ m)) := by
 refine zr fun Q hQ => ?_
 rw [zh hintr hcode rfl]
 simp only [sA, pp, pv, pw, pg, d6]
 refine W.mono (Nn hG' hC (d := d + 7) hR hF hG) ?_
 rintro ⟨fv, s1⟩ ⟨q1, X1⟩
 simp only at q1 X1
 have G1 := X1.good hG
 simp only [sA, Nat.reduceEqDiff, reduceCtorEq]
 refine W.mono (M6 hF (d := d + 1) q1 (hv.keep X1 (by simp)) hB hl G1) ?_
 rintro ⟨v2, s2⟩ ⟨X2, h2⟩
 simp only at X2 h2
 have G2 := X2.good G1
 have X02 := X1.trans' X2
 rcases h2 with ⟨hn, rfl⟩ | ⟨hg, lv, rfl, hlv⟩
 · simp only [sA, zb, zl, zm, Nat.reduceEqDiff, za, zd, getN, Int.reduceEq]
   exact hQ _ ⟨X02, .inl ⟨fun h => hn h.1, rfl⟩⟩
 have hnew : dcall E (d + 10) (.func (.func 10) #[] #[]) [] s2 = some (.pointer (some ⟨s2.next + 1, 0, none⟩), (s2.new (.map [] 0)).new (.cells (.list [.map (some s2.next)]) false)) := by
  rw [← JH, zh i5 h5 rfl]
  simp only [sA, za, zd, zg, pp, pv, d10]
 obtain ⟨vs, hsl, hok, hrr, hbl⟩ := hlv
 obtain ⟨al, cl, hlvs⟩ := hsl.shape
 subst hlvs
 obtain ⟨S3, hS3⟩ : ∃ S3 : DS, S3 = (s2.new (.map [] 0)).new (.cells (.list [.map (some s2.next)]) false) := ⟨_, rfl⟩
 rw [← hS3] at hnew
 simp only [sA, zb, zl, zm, Nat.reduceEqDiff, getN, hnew]
 obtain ⟨xs, hxs⟩ : ∃ xs, xs = (rdT (bs, false)).1 := ⟨_, rfl⟩
 rw [← hxs] at hrr hQ
 have hln := hrr.len
 have hlf : xs.length < E.lf := by
  have h1 := hG'.lf
  have h2 := J7 hB
  rw [← hxs] at h2
  omega
 have X3 : Ext [] s2 S3 := by rw [hS3]; exact Ext.new.trans' Ext.new
 have n3 : S3.next = s2.next + 2 := by rw [hS3]; rfl
 have G3 := X3.good G2
 have gm3 : S3.get s2.next = some (.map [] 0) := by rw [hS3]; simp (maxDischargeDepth := 8) only [sM, zU, G2]
 have go3 : S3.get (s2.next + 1) = some (.cells (.list [.map (some s2.next)]) false) := by rw [hS3]; simp (maxDischargeDepth := 8) only [sM, zU, G2]
 have wm3 : S3.wr s2.next = true := X3.wrs (G2 _ (Nat.le_refl _)).2
 have wo3 : S3.wr (s2.next + 1) = true := X3.wrs (G2 _ (Nat.le_succ _)).2
 have le1 := X1.le
 have le2 := X2.le
 rw [hln]
 refine zY (UnI S3 xs (.slice al xs.length cl) (s2.next + 1) s2.next) xs.length hlf ⟨0, rfl, Nat.zero_le _, rfl, ?_, ?_, ?_, .refl, G3⟩ ?_
 · simp only [sA, Nat.reduceEqDiff]
   rfl
 · exact ⟨go3, wo3, gm3, wm3, by omega⟩
 · intro i x h
   simp at h
 rintro n ⟨t, S, ds⟩ hn ⟨i, rfl, hi, hds, ⟨t4, t6, t20, t21, t22⟩, c, ok, X, GS⟩
 simp only at hds t4 t6 t20 t21 t22 c X GS
 subst hds
 by_cases c1 : i < xs.length
 · have e1 : ((i : Nat) : Int) < (xs.length : Int) := by omega
   have hx : xs[i]? = some xs[i] := List.getElem?_eq_getElem c1
   generalize xs[i] = x at hx
   have hv1 : vs[i]? = some vs[i] := List.getElem?_eq_getElem (by omega)
   generalize vs[i] = row at hv1
   have hml : s2.next ∉ blk (.slice al vs.length cl) := fun h => by have := hsl.lt _ h; omega
   have hsS : SlC S 4 (.slice al vs.length cl) vs := (hsl.keep X3 (by simp)).keep X (fun k hk e => hml (List.mem_singleton.1 e ▸ hk))
   have hrS := hrr.step (s' := S) (lv' := .slice al vs.length cl) Fx (fun k k1 k2 _ => (X.get k (by omega) (by simp; omega)).trans (X3.get k k2 (by simp))) (by have := X.le; omega) (fun k _ h => h)
   obtain ⟨hR1, hR2⟩ := hrS.at_ i row x hv1 hx
   obtain ⟨w, hrw, hw⟩ := W9 _ _ _ _ hR1
   injection hrw with hrw
   injection hrw with hrw
   subst hrw
   obtain ⟨b, sp, cc, hv', hrow⟩ := SlC.row4 hsS hok hv1
   obtain ⟨w1, w2, w3, hwv⟩ := Jr _ _ _ _ hw
   subst hwv
   injection hv' with ha hb hc'
   subst ha hc'
   have c1' : i < vs.length := by omega
   simp (maxDischargeDepth := 8) only [sA, sM, zb, zl, zm, Nat.reduceAdd, allOne, ze, DS.wrC, Cells.size, Cells.fillFrom, Cells.set, zk, Nat.reduceLT, t4, t6, t20, t21, t22, e1, c1, c1', hrow, GS]
   obtain ⟨S4, hS4⟩ : ∃ S4 : DS, S4 = (S.new (.cells (.list [.int .i64 0, .int .i64 0, .bool false, .slice none 0 0]) false)).upd S.next (.cells (.list [.int .i64 x.1.1, .int .i64 x.1.2, .bool x.2.1, .slice w1 w2 w3]) false) := ⟨_, rfl⟩
   rw [← hS4]
   have X4 : Ext [] S S4 := by
    rw [hS4]
    exact (Ext.new (F := [])).trans (Ext.upd (F := [S.next]) (.inl (by simp))) (by simp)
   have G4 := X4.good GS
   have g4 : S4.get S.next = some (.cells (.list [.int .i64 x.1.1, .int .i64 x.1.2, .bool x.2.1, .slice w1 w2 w3]) false) := by rw [hS4, DS.upd_get_self, DS.new_get_self GS]; rfl
   have hld4 : ldA 4 (.pointer (some ⟨S.next, 0, none⟩)) S4 = some (.agg ⟨[.int .i64 x.1.1, .int .i64 x.1.2, .bool x.2.1, .slice w1 w2 w3]⟩) := by
    simp only [ldA, DS.read, g4]
    rfl
   have hBx : IsB x.2.2 ∧ x.2.2.length ≤ 1048576 := Rz hB x (by rw [← hxs]; exact List.mem_of_getElem? hx)
   simp (maxDischargeDepth := 8) only [sA, hld4]
   refine W.mono (Mw hC hG' hR hT (d := d) (x := x) hrd ird (hw.1.keep X4 (by simp)) hBx.1 hBx.2 G4) ?_
   rintro ⟨v5, s5⟩ ⟨X5, okb, hv5, hok5⟩
   simp only at X5 hv5
   subst hv5
   have hrw8 : TbA.rowOf x = [.int .i64 (ZT x).num, .bool (ZT x).done, .int .i64 (ZT x).rep.c, .int .i64 (ZT x).rep.n, .bool (ZT x).rep.rej, .int .i64 (ZT x).rep.trap, .int .i64 (ZT x).rep.v, .int .i64 (ZT x).rep.gas] := rfl
   rw [hrw8]
   have G5 := X5.good G4
   have X05 : Ext [] s s5 := (((X02.trans' X3).trans X (by simp; omega)).trans' X4).trans' X5
   have XQ : ∀ o1 o2, Ext [] s ((s5.new o1).upd s5.next o2) := fun o1 o2 => by
    have a1 : Ext [] s5 (s5.new o1) := Ext.new
    have a2 : Ext [s5.next] (s5.new o1) ((s5.new o1).upd s5.next o2) := Ext.upd (.inl (by simp))
    exact X05.trans' (a1.trans a2 (by simp))
   cases okb with
   | false =>
    simp (maxDischargeDepth := 8) only [sA, sM, zb, za, zd, getN, Nat.reduceAdd, allOne, ze, DS.wrC, Cells.size, Cells.fillFrom, Cells.set, zk, Nat.reduceLT, G5]
    exact hQ _ ⟨XQ _ _, .inl ⟨(fun h => by have := hok5.2 (h.2 i x hx).1; cases this), rfl⟩⟩
   | true =>
    simp (maxDischargeDepth := 8) only [sA, sM, zb, zl, zm, getN, Nat.reduceAdd, allOne, ze, DS.wrC, Cells.size, Cells.fillFrom, Cells.set, zk, Nat.reduceLT, G5]
    obtain ⟨S6, hS6⟩ : ∃ S6 : DS, S6 = (s5.new (.cells (.list [.int .i64 0, .bool false, .int .i64 0, .int .i64 0, .bool false, .int .i64 0, .int .i64 0, .int .i64 0]) false)).upd s5.next (.cells (.list [.int .i64 (ZT x).num, .bool (ZT x).done, .int .i64 (ZT x).rep.c, .int .i64 (ZT x).rep.n, .bool (ZT x).rep.rej, .int .i64 (ZT x).rep.trap, .int .i64 (ZT x).rep.v, .int .i64 (ZT x).rep.gas]) false) := ⟨_, rfl⟩
    rw [← hS6]
    have X6 : Ext [] s5 S6 := by
     rw [hS6]
     exact (Ext.new (F := [])).trans (Ext.upd (F := [s5.next]) (.inl (by simp))) (by simp)
    have G6 := X6.good G5
    have g96 : S6.get s5.next = some (.cells (.list [.int .i64 (ZT x).num, .bool (ZT x).done, .int .i64 (ZT x).rep.c, .int .i64 (ZT x).rep.n, .bool (ZT x).rep.rej, .int .i64 (ZT x).rep.trap, .int .i64 (ZT x).rep.v, .int .i64 (ZT x).rep.gas]) false) := by rw [hS6, DS.upd_get_self, DS.new_get_self G5]; rfl
    have hld9 : ldA 8 (.pointer (some ⟨s5.next, 0, none⟩)) S6 = some (ZT x).val := by
     simp only [ldA, DS.read, g96]
     rfl
    have X46 := (X4.trans' X5).trans' X6
    have c6 := c.keep X46 (by simp) (by simp)
    have g46 := (X5.trans' X6).keep g4 (by simp)
    have hkey : isKey .num (.int .i64 x.1.1) = true := rfl
    have w22 : zf .i64 ((i : Int) + 1) = ((i + 1 : Nat) : Int) := by rw [zi (by have := J7 hB; rw [← hxs] at this; omega) (by have := J7 hB; rw [← hxs] at this; omega)]; omega
    have htk : xs.take (i + 1) = xs.take i ++ [x] := by rw [List.take_add_one, hx]; rfl
    have hli : (xs.take i).length = i := by rw [List.length_take]; omega
    have fin : (∀ y : zX, i ≠ 0 → xs[i - 1]? = some y → y.1.1 < x.1.1) → Zu (xs.take (i + 1)) ∧ YG .num (.int .i64 x.1.1) ((YC (xs.take i)).map trE) 0 = some none ∧ (YC (xs.take i)).map trE ++ [{ key := .int .i64 x.1.1, val := (ZT x).val, born := i }] = (YC (xs.take (i + 1))).map trE := by
     intro hlt
     have ok' : Zu (xs.take (i + 1)) := by
      intro j z hz
      by_cases hj : j < i
      · have hz' : (xs.take i)[j]? = some z := by rw [htk, List.getElem?_append_left (by omega)] at hz; exact hz
        refine ⟨(ok j z hz').1, fun y h1 h2 => (ok j z hz').2 y h1 ?_⟩
        rw [htk, List.getElem?_append_left (by omega)] at h2
        exact h2
      · have hj2 := (List.getElem?_eq_some_iff.1 hz).1
        have hj3 : j = i := by rw [htk] at hj2; simp at hj2; omega
        subst hj3
        have hz2 : x = z := by rw [htk, List.getElem?_append_right (by omega), hli] at hz; simpa using hz
        subst hz2
        refine ⟨hok5.1 rfl, fun y h1 h2 => hlt y h1 ?_⟩
        rw [List.getElem?_take_of_lt (by omega)] at h2
        exact h2
     refine ⟨ok', ?_, ?_⟩
     · have hnone : Go.Dx.Tab.rowOf (YC (xs.take i)) x.1.1 = none := VG _ _ 0 fun y hy => by
        obtain ⟨j, hj, hy⟩ := List.mem_iff_getElem.1 hy
        have := ok'.lt i j x y (by omega) (by rw [htk, List.getElem?_append_right (by omega), hli]; simp) (by rw [htk, List.getElem?_append_left (by omega), List.getElem?_eq_getElem hj, hy])
        omega
       rcases Ws (YC (xs.take i)) x.1.1 0 with ⟨h1, _⟩ | ⟨j, z, _, _, h3, _⟩
       · exact h1
       · rw [hnone] at h3
         cases h3
     · rw [htk, Th, hli, ← TY]
       rfl
    have c7 : ∀ M' : TRs, TabAt (S6.upd s2.next (.map (M'.map trE) (i + 1))) (s2.next + 1) s2.next M' (i + 1) := fun M' => ⟨by rw [DS.upd_get_ne (by omega)]; exact c6.go, by rw [DS.upd_wr]; exact c6.wo, by rw [DS.upd_get_self, c6.gm]; rfl, by rw [DS.upd_wr]; exact c6.wm, by omega⟩
    have X7 : ∀ o, Ext [s2.next] S3 (S6.upd s2.next o) := fun o => (X.trans X46 (by simp)).trans' (Ext.upd (.inl (by simp)))
    by_cases hi0 : i = 0
    · have h0 : ((0 : Int) < (i : Int)) = False := eq_false (by omega)
      obtain ⟨okN, hfnd, hmap⟩ := fin fun y h => absurd hi0 h
      simp (maxDischargeDepth := 8) only [sA, sM, zb, zl, zm, zn, Cells.get, getN, Nat.reduceLT, h0, t4, t6, t20, t21, t22, c6.go, c6.gm, c6.wm, g46, hld9, hkey, hfnd, w22, hmap]
      exact ⟨xs.length - (i + 1), by omega, ⟨i + 1, rfl, by omega, rfl, by simp only [sA, Nat.reduceEqDiff, t4, t6, t20, t21, hln], c7 _, okN, X7 _, (X7 _).good G3⟩⟩
    · have h0 : ((0 : Int) < (i : Int)) = True := eq_true (by omega)
      have hw1 : zf .i64 ((i : Int) - 1) = ((i - 1 : Nat) : Int) := by rw [zi (by have := J7 hB; rw [← hxs] at this; omega) (by have := J7 hB; rw [← hxs] at this; omega)]; omega
      have c2 : (i - 1 < xs.length) = True := eq_true (by omega)
      have hy : xs[i - 1]? = some xs[i - 1] := List.getElem?_eq_getElem (by omega)
      generalize xs[i - 1] = y at hy
      have hv2 : vs[i - 1]? = some vs[i - 1] := List.getElem?_eq_getElem (by omega)
      generalize vs[i - 1] = prow at hv2
      obtain ⟨zz, hpw, _⟩ := W9 _ _ _ _ (hrS.at_ (i - 1) prow y hv2 hy).1
      injection hpw with hpw
      injection hpw with hpw
      subst hpw
      obtain ⟨b', sp', cc', ext, hv'', hroom, hgy⟩ := SlC.read (hsS.keep X46 (by simp)) hok hv2 (j := 0) rfl
      injection hv'' with ha' hb' hc''
      injection ha' with ha'
      injection ha' with ha1 ha2 ha3
      subst ha1
      have gb6 := hroom.get
      simp only [Nat.add_zero] at hgy
      by_cases hyx : x.1.1 ≤ y.1.1
      · simp (maxDischargeDepth := 8) only [sA, sM, zb, zl, zm, za, zd, Cells.get, getN, Nat.reduceLT, h0, t4, t6, t20, t21, t22, c6.go, c6.gm, c6.wm, g46, hld9, hw1, c2, gb6, hgy, hyx]
        exact hQ _ ⟨X05.trans' X6, .inl ⟨(fun h => by have := (h.2 i x hx).2 y hi0 hy; omega), rfl⟩⟩
      · obtain ⟨okN, hfnd, hmap⟩ := fin fun y' _ h => by
         rw [hy] at h
         cases h
         omega
        simp (maxDischargeDepth := 8) only [sA, sM, zb, zl, zm, zn, Cells.get, getN, Nat.reduceLT, h0, t4, t6, t20, t21, t22, c6.go, c6.gm, c6.wm, g46, hld9, hw1, c2, gb6, hgy, hyx, hkey, hfnd, w22, hmap]
        exact ⟨xs.length - (i + 1), by omega, ⟨i + 1, rfl, by omega, rfl, by simp only [sA, Nat.reduceEqDiff, t4, t6, t20, t21, hln], c7 _, okN, X7 _, (X7 _).good G3⟩⟩
 · obtain rfl : i = xs.length := by omega
   have e1 : ¬ ((xs.length : Nat) : Int) < (xs.length : Int) := by omega
   rw [List.take_length] at c ok
   simp only [sA, zl, zm, Nat.reduceEqDiff, za, zd, t4, t6, t20, t21, t22, e1]
   exact hQ _ ⟨(X02.trans' X3).trans X (by simp; omega), .inr ⟨⟨hg, ok⟩, _, _, rfl, c, by omega, by omega⟩⟩
end
end Go.Dx.TbA
namespace Go.Dx.TbA
open Go Go.Dx Go.Dx.Tab Go.Proofs.YtffgmngdgkpflaaGreat
structure R7 (E : Env) : Prop where
 fbFB1 : E.fn 85 = some d85
 ibFB1 : E.intr 85 = none
 fbLL1 : E.fn 81 = some d81
 ibLL1 : E.intr 81 = none
 fblob1 : E.fn 90 = some d90
 iblob1 : E.intr 90 = none
 ftmany1 : E.fn 79 = some d79
 itmany1 : E.intr 79 = none
 fEncT : E.fn 36 = some d36
 iEncT : E.intr 36 = none
def Rx (o : Nat) (s : DS) (v : Value) (x : List Int) : Prop := SlV s 1 v (zC x) ∧ ∀ k, k ∈ blk v → k < o
theorem F3 : ZQ Rx := ⟨fun o s s' v x ⟨h1, h2⟩ hs => ⟨h1.of fun k hk => hs k (h2 k hk), h2⟩, fun o o' s v x ⟨h1, h2⟩ hs => ⟨h1, fun k hk => Nat.lt_of_lt_of_le (h2 k hk) hs⟩⟩
theorem Se : ∀ (o : Nat) (s : DS) (v : Value) (x : List Int), Rx o s v x → ∃ b n c, v = .slice b n c := fun o s v x ⟨h1, _⟩ => by
 rcases h1 with ⟨h, _⟩ | ⟨b, off, sp, c, h, _⟩
 · exact ⟨_, _, _, h⟩
 · exact ⟨_, _, _, h⟩
theorem PA {o : Nat} {s : DS} {v : Value} {x : List Int} (h : Rx o s v x) : ∃ b c, v = .slice b x.length c := by
 rcases h.1 with ⟨e, h2⟩ | ⟨b, off, sp, c, e, _⟩
 · have : x = [] := by simpa [zC] using h2
   subst this
   exact ⟨none, 0, e⟩
 · rw [zt] at e
   exact ⟨_, _, e⟩
def L1 (x : List Int) : List Int := leB (x.length : Int) 4 ++ x
section
variable {E : Env} (hC : QE E) {s : DS} {d : Nat}
include hC
theorem NN {c1 : Nat} {cp cg : Value} {n : Nat} {D : List (Nat × DObj)} (ha : ZD E n cp D GV (W2 4 65536) (fun x => leB x 4)) (hn : 1 ≤ n) (h1 : E.fn 90 = some d90) (i1 : E.intr 90 = none) :
 ZD E (n + 1) (.func (.func 90) #[] #[.pointer (some ⟨c1, 0, none⟩)]) ((c1, .cells (.list [cp, cg]) false) :: D) Rx (fun x => x.length ≤ 65536) L1 := by
 intro d s o bv bs v x hD hb2 h hG hv hx hlen
 have g1 := hD _ (List.mem_cons_self ..)
 simp only at g1
 have hDf : ZI s D := hD.sub fun p hp => List.mem_cons_of_mem _ hp
 have lf : ∀ p, p ∈ D → p.1 < o := fun p hp => hb2 p (List.mem_cons_of_mem _ hp)
 have hol := DS.get_lt' h.go
 unfold L1 at hlen ⊢
 simp only [List.length_append, zB] at hlen
 have hv0 := hv
 obtain ⟨b, c, rfl⟩ := PA hv
 refine zr fun Q hQ => ?_
 obtain ⟨n, rfl⟩ : ∃ n', n = n' + 1 := ⟨n - 1, by omega⟩
 show W (dcall E ((d + n + 1) + 1) _ _ _) Q
 rw [Zo i1 h1 rfl]
 simp only [sA, zb, Nat.reduceEqDiff, Cells.get, getN, reduceCtorEq, pp, pv, d90, g1]
 refine W.mono (ha d s o bv bs _ (x.length : Int) hDf lf h hG rfl (.inr ⟨by omega, by omega⟩) (by rw [zB]; omega)) ?_
 rintro ⟨v3, s3⟩ ⟨hv3, bv3, O3, X3, b3⟩
 simp only at hv3 O3 X3 b3
 subst hv3
 simp only [sA, Nat.reduceEqDiff, reduceCtorEq]
 refine W.mono (SL hC (d := d + n) O3 (X3.good hG) ((F3.stab _ _ _ _ _ hv0 (Wv h X3)).1) (by rw [List.length_append, zB]; omega)) ?_
 rintro ⟨v4, s4⟩ h4
 have hv4 := h4.val
 simp only at hv4
 subst hv4
 simp only [sA, za, zd]
 refine hQ _ ?_
 rw [← List.append_assoc]
 exact Jy.next X3 b3 h4
theorem TK {f1 f2 : Nat} {fp fg gp gg : Value} {α β : Type} {n : Nat} {Df Dg : List (Nat × DObj)} {Ra : Nat → DS → Value → α → Prop} {Rb : Nat → DS → Value → β → Prop} {Oka : α → Prop} {Okb : β → Prop} {ea : α → List Int} {eb : β → List Int}
 (ha : ZD E n fp Df Ra Oka ea) (hb : ZD E n gp Dg Rb Okb eb) (sa : ZQ Ra) (sb : ZQ Rb) (ca : ∀ o s v x, Ra o s v x → (∃ n, v = .bool n)) (cb : ∀ o s v x, Rb o s v x → (∃ b n c, v = .slice b n c)) (hcode : E.fn 85 = some d85) (hintr : E.intr 85 = none) :
 ZD E (n + 1) (.func (.func 85) #[] #[.pointer (some ⟨f1, 0, none⟩), .pointer (some ⟨f2, 0, none⟩)]) ((f1, .cells (.list [fp, fg]) false) :: (f2, .cells (.list [gp, gg]) false) :: (Df ++ Dg)) (XJ Ra Rb) (fun x => Oka x.1 ∧ Okb x.2) (fun x => ea x.1 ++ eb x.2) := by
 intro d s o bv bs v x hD hb2 h hG hv hx hlen
 obtain ⟨a, b, rfl, hra, hrb⟩ := hv
 have g1 := hD _ (List.mem_cons_self ..)
 have g2 := hD (f2, _) (List.mem_cons_of_mem _ (List.mem_cons_self ..))
 have l1 := hb2 _ (List.mem_cons_self ..)
 have l2 := hb2 (f2, _) (List.mem_cons_of_mem _ (List.mem_cons_self ..))
 simp only at g1 g2 l1 l2
 have hDf : ZI s Df := hD.sub fun p hp => List.mem_cons_of_mem _ (List.mem_cons_of_mem _ (List.mem_append_left _ hp))
 have hDg : ZI s Dg := hD.sub fun p hp => List.mem_cons_of_mem _ (List.mem_cons_of_mem _ (List.mem_append_right _ hp))
 have lf : ∀ p, p ∈ Df → p.1 < o := fun p hp => hb2 p (List.mem_cons_of_mem _ (List.mem_cons_of_mem _ (List.mem_append_left _ hp)))
 have lg : ∀ p, p ∈ Dg → p.1 < o := fun p hp => hb2 p (List.mem_cons_of_mem _ (List.mem_cons_of_mem _ (List.mem_append_right _ hp)))
 have hol := DS.get_lt' h.go
 have l1s : f1 < s.next := Nat.lt_trans l1 hol
 have l2s : f2 < s.next := Nat.lt_trans l2 hol
 rw [List.length_append] at hlen
 have hca := ca _ _ _ _ hra
 have hcb := cb _ _ _ _ hrb
 refine zr fun Q hQ => ?_
 show W (dcall E ((d + n) + 1) _ _ _) Q
 rw [Zo hintr hcode rfl]
 obtain ⟨a, rfl⟩ := hca
 obtain ⟨y1, y2, y3, rfl⟩ := hcb
 simp (maxDischargeDepth := 8) only [sA, sM, zb, Cells.get, getN, pp, pv, Nat.reduceLT, d85, g1, g2, hG, l1s, l2s]
 obtain ⟨S1, hS1⟩ : ∃ S1 : DS, S1 = s.new (.cells (.list [.bool a, .slice y1 y2 y3]) false) := ⟨_, rfl⟩
 rw [← hS1]
 have X1 : ∀ F, Ext F s S1 := fun F => by rw [hS1]; exact Ext.new
 have gS : S1.get s.next = some (.cells (.list [.bool a, .slice y1 y2 y3]) false) := by rw [hS1]; exact DS.new_get_self hG
 have Y1 : Same o s S1 := fun k hk => (X1 []).get k (Nat.lt_trans hk hol) (by simp)
 have O1 : WG S1 o bv bs := ⟨(X1 []).keep h.go (by simp), (X1 []).wrs h.wo, h.sl.keep (X1 []) (by simp), h.up, h.len⟩
 refine W.mono (ha d S1 o bv bs _ x.1 (hDf.keep (X1 []) (by simp)) lf O1 ((X1 []).good hG) (sa.stab _ _ _ _ _ hra Y1) hx.1 (by omega)) ?_
 rintro ⟨v2, s2⟩ ⟨hv2, bv2, O2, X2, b2⟩
 simp only at hv2 O2 X2 b2
 have Y2 := Wv O1 X2
 have YY := Y1.trans Y2
 have gS2 := X2.keep gS (by
  simp only [List.mem_cons, not_or]
  exact ⟨by omega, fun hk => by have := h.sl.lt _ hk; omega⟩)
 have g22 := (YY f2 l2).trans g2
 simp only [sA, zb, Nat.reduceEqDiff, Cells.get, getN, reduceCtorEq, gS2, g22]
 refine W.mono (hb d s2 o bv2 (bs ++ ea x.1) _ x.2 (hDg.same lg YY) lg O2 (X2.good ((X1 []).good hG)) (sb.stab _ _ _ _ _ hrb YY) hx.2 (by rw [List.length_append]; omega)) ?_
 rintro ⟨v3, s3⟩ h3
 have hv3 := h3.val
 simp only at hv3
 subst hv3
 have X12 : Ext (o :: blk bv) s s2 := (X1 _).trans' X2
 have h4 := Jy.next X12 (fun k hk => by
  rcases b2 k hk with h | h
  · exact .inl h
  · exact .inr (Nat.le_trans (X1 []).le h)) h3
 simp only [sA, za, zd]
 refine hQ _ ?_
 rw [← List.append_assoc]
 exact h4
theorem TM {f1 f2 : Nat} {fp fg gp gg : Value} {α β : Type} {n : Nat} {Df Dg : List (Nat × DObj)} {Ra : Nat → DS → Value → α → Prop} {Rb : Nat → DS → Value → β → Prop} {Oka : α → Prop} {Okb : β → Prop} {ea : α → List Int} {eb : β → List Int}
 (ha : ZD E n fp Df Ra Oka ea) (hb : ZD E n gp Dg Rb Okb eb) (sa : ZQ Ra) (sb : ZQ Rb) (ca : ∀ o s v x, Ra o s v x → (∃ n1 n2, v = .agg ⟨[.int .i64 n1, .int .i64 n2]⟩)) (cb : ∀ o s v x, Rb o s v x → (∃ q b n c, v = .agg ⟨[.bool q, .slice b n c]⟩)) (hcode : E.fn 81 = some d81) (hintr : E.intr 81 = none) :
 ZD E (n + 1) (.func (.func 81) #[] #[.pointer (some ⟨f1, 0, none⟩), .pointer (some ⟨f2, 0, none⟩)]) ((f1, .cells (.list [fp, fg]) false) :: (f2, .cells (.list [gp, gg]) false) :: (Df ++ Dg)) (XJ Ra Rb) (fun x => Oka x.1 ∧ Okb x.2) (fun x => ea x.1 ++ eb x.2) := by
 intro d s o bv bs v x hD hb2 h hG hv hx hlen
 obtain ⟨a, b, rfl, hra, hrb⟩ := hv
 have g1 := hD _ (List.mem_cons_self ..)
 have g2 := hD (f2, _) (List.mem_cons_of_mem _ (List.mem_cons_self ..))
 have l1 := hb2 _ (List.mem_cons_self ..)
 have l2 := hb2 (f2, _) (List.mem_cons_of_mem _ (List.mem_cons_self ..))
 simp only at g1 g2 l1 l2
 have hDf : ZI s Df := hD.sub fun p hp => List.mem_cons_of_mem _ (List.mem_cons_of_mem _ (List.mem_append_left _ hp))
 have hDg : ZI s Dg := hD.sub fun p hp => List.mem_cons_of_mem _ (List.mem_cons_of_mem _ (List.mem_append_right _ hp))
 have lf : ∀ p, p ∈ Df → p.1 < o := fun p hp => hb2 p (List.mem_cons_of_mem _ (List.mem_cons_of_mem _ (List.mem_append_left _ hp)))
 have lg : ∀ p, p ∈ Dg → p.1 < o := fun p hp => hb2 p (List.mem_cons_of_mem _ (List.mem_cons_of_mem _ (List.mem_append_right _ hp)))
 have hol := DS.get_lt' h.go
 have l1s : f1 < s.next := Nat.lt_trans l1 hol
 have l2s : f2 < s.next := Nat.lt_trans l2 hol
 rw [List.length_append] at hlen
 have hca := ca _ _ _ _ hra
 have hcb := cb _ _ _ _ hrb
 refine zr fun Q hQ => ?_
 show W (dcall E ((d + n) + 1) _ _ _) Q
 rw [Zo hintr hcode rfl]
 obtain ⟨x1, x2, rfl⟩ := hca
 obtain ⟨y1, y2, y3, y4, rfl⟩ := hcb
 simp (maxDischargeDepth := 8) only [sA, sM, zb, Cells.get, getN, pp, pv, ldA, DS.read, Cells.take, Nat.reduceLT, d81, g1, g2, hG, l1s, l2s]
 obtain ⟨S1, hS1⟩ : ∃ S1 : DS, S1 = s.new (.cells (.list [.int .i64 x1, .int .i64 x2, .bool y1, .slice y2 y3 y4]) false) := ⟨_, rfl⟩
 rw [← hS1]
 have X1 : ∀ F, Ext F s S1 := fun F => by rw [hS1]; exact Ext.new
 have gS : S1.get s.next = some (.cells (.list [.int .i64 x1, .int .i64 x2, .bool y1, .slice y2 y3 y4]) false) := by rw [hS1]; exact DS.new_get_self hG
 have Y1 : Same o s S1 := fun k hk => (X1 []).get k (Nat.lt_trans hk hol) (by simp)
 have O1 : WG S1 o bv bs := ⟨(X1 []).keep h.go (by simp), (X1 []).wrs h.wo, h.sl.keep (X1 []) (by simp), h.up, h.len⟩
 refine W.mono (ha d S1 o bv bs _ x.1 (hDf.keep (X1 []) (by simp)) lf O1 ((X1 []).good hG) (sa.stab _ _ _ _ _ hra Y1) hx.1 (by omega)) ?_
 rintro ⟨v2, s2⟩ ⟨hv2, bv2, O2, X2, b2⟩
 simp only at hv2 O2 X2 b2
 have Y2 := Wv O1 X2
 have YY := Y1.trans Y2
 have gS2 := X2.keep gS (by
  simp only [List.mem_cons, not_or]
  exact ⟨by omega, fun hk => by have := h.sl.lt _ hk; omega⟩)
 have g22 := (YY f2 l2).trans g2
 simp only [sA, zb, Nat.reduceEqDiff, Cells.get, getN, reduceCtorEq, ldA, DS.read, Cells.take, gS2, g22]
 refine W.mono (hb d s2 o bv2 (bs ++ ea x.1) _ x.2 (hDg.same lg YY) lg O2 (X2.good ((X1 []).good hG)) (sb.stab _ _ _ _ _ hrb YY) hx.2 (by rw [List.length_append]; omega)) ?_
 rintro ⟨v3, s3⟩ h3
 have hv3 := h3.val
 simp only at hv3
 subst hv3
 have X12 : Ext (o :: blk bv) s s2 := (X1 _).trans' X2
 have h4 := Jy.next X12 (fun k hk => by
  rcases b2 k hk with h | h
  · exact .inl h
  · exact .inr (Nat.le_trans (X1 []).le h)) h3
 simp only [sA, za, zd]
 refine hQ _ ?_
 rw [← List.append_assoc]
 exact h4
def DN {α : Type} (sz : Nat) (R : Nat → DS → Value → α → Prop) (o : Nat) (s : DS) (v : Value) (xs : List α) : Prop := ∃ l : List (List Value), l.length = xs.length ∧ zW sz l ∧ ((v = .slice none 0 0 ∧ l = []) ∨ ∃ b off sp c, v = .slice (some ⟨b, off, sp⟩) l.length c ∧ b < o ∧ s.read b off (l.length * sz) = some l.flatten) ∧ ∀ (i : Nat) (r : List Value) (x : α), l[i]? = some r → xs[i]? = some x → R o s (.agg ⟨r⟩) x
omit hC in
theorem F4 {α : Type} {sz : Nat} {R : Nat → DS → Value → α → Prop} (h : ZQ R) : ZQ (DN sz R) := ⟨fun o s s' v xs ⟨l, h1, h2, h3, h4⟩ hs => ⟨l, h1, h2, by
 rcases h3 with h3 | ⟨b, off, sp, c, e1, e2, e3⟩
 · exact .inl h3
 · refine .inr ⟨b, off, sp, c, e1, e2, ?_⟩
   unfold DS.read at e3 ⊢
   rw [hs b e2]; exact e3, fun i r x hr hx => h.stab _ _ _ _ _ (h4 i r x hr hx) hs⟩, fun o o' s v xs ⟨l, h1, h2, h3, h4⟩ hs => ⟨l, h1, h2, by
 rcases h3 with h3 | ⟨b, off, sp, c, e1, e2, e3⟩
 · exact .inl h3
 · exact .inr ⟨b, off, sp, c, e1, Nat.lt_of_lt_of_le e2 hs, e3⟩, fun i r x hr hx => h.mono _ _ _ _ _ (h4 i r x hr hx) hs⟩⟩
def GX {α : Type} (e : α → List Int) (xs : List α) : List Int := xs.flatMap e
structure M5 {α : Type} (s0 : DS) (o c1 f1 : Nat) (bv v : Value) (bs : List Int) (e : α → List Int) (xs : List α) (n : Nat) (y : St) : Prop where
 ex : ∃ j : Nat, n = xs.length - j ∧ j ≤ xs.length ∧ y.defers = [] ∧ (y.t.get 0 = some (.pointer (some ⟨o, 0, none⟩)) ∧ y.t.get 1 = some v ∧ y.t.get 3 = some (.pointer (some ⟨f1, 0, none⟩)) ∧ y.t.get 6 = some (.int .i64 (j : Int))) ∧
  y.s.Good ∧ Jy s0 o bv (bs ++ GX e (xs.take j)) (.tuple #[], y.s)
theorem Tt {c1 f1 : Nat} {cp cg fp fg : Value} {α : Type} {n : Nat} {Dc Df : List (Nat × DObj)} {R : Nat → DS → Value → α → Prop} {Ok : α → Prop} {e : α → List Int}
 (hc : ZD E n cp Dc GV (W2 2 4096) (fun x => leB x 2)) (hf : ZD E n fp Df R Ok e) (sR : ZQ R) (hcode : E.fn 79 = some d79) (hintr : E.intr 79 = none) :
 ZD E (n + 1) (.func (.func 79) #[] #[.pointer (some ⟨c1, 0, none⟩), .pointer (some ⟨f1, 0, none⟩)]) ((c1, .cells (.list [cp, cg]) false) :: (f1, .cells (.list [fp, fg]) false) :: (Dc ++ Df)) (DN 4 R) (fun xs => xs.length ≤ 4096 ∧ ∀ x, x ∈ xs → Ok x) (fun xs => leB xs.length 2 ++ GX e xs) := by
 intro d s o bv bs v xs hD hb2 h hG hv hx hlen
 have g1 := hD _ (List.mem_cons_self ..)
 have g2 := hD (f1, _) (List.mem_cons_of_mem _ (List.mem_cons_self ..))
 have l1 := hb2 _ (List.mem_cons_self ..)
 have l2 := hb2 (f1, _) (List.mem_cons_of_mem _ (List.mem_cons_self ..))
 simp only at g1 g2 l1 l2
 have hDc : ZI s Dc := hD.sub fun p hp => List.mem_cons_of_mem _ (List.mem_cons_of_mem _ (List.mem_append_left _ hp))
 have hDf : ZI s Df := hD.sub fun p hp => List.mem_cons_of_mem _ (List.mem_cons_of_mem _ (List.mem_append_right _ hp))
 have lc : ∀ p, p ∈ Dc → p.1 < o := fun p hp => hb2 p (List.mem_cons_of_mem _ (List.mem_cons_of_mem _ (List.mem_append_left _ hp)))
 have lf : ∀ p, p ∈ Df → p.1 < o := fun p hp => hb2 p (List.mem_cons_of_mem _ (List.mem_cons_of_mem _ (List.mem_append_right _ hp)))
 have hol := DS.get_lt' h.go
 have hlf := hC.lf
 have hvl : ∃ a c, v = .slice a xs.length c := by
  obtain ⟨l, h1, _, h3 | ⟨b, off, sp, c, e1, _⟩, _⟩ := hv
  · obtain ⟨rfl, rfl⟩ := h3
    rw [← h1]; exact ⟨none, 0, rfl⟩
  · rw [← h1]; exact ⟨_, c, e1⟩
 obtain ⟨va, vc, hvv⟩ := hvl
 rw [List.length_append, zB] at hlen
 refine zr fun Q hQ => ?_
 show W (dcall E ((d + n) + 1) _ _ _) Q
 rw [Zo hintr hcode rfl]
 subst hvv
 simp only [sA, zb, Nat.reduceEqDiff, Cells.get, getN, reduceCtorEq, pp, pv, pw, pg, d79, g1]
 refine W.mono (hc d s o bv bs _ (xs.length : Int) hDc lc h hG rfl (.inr ⟨by omega, by omega⟩) (by rw [zB]; omega)) ?_
 rintro ⟨v2, s2⟩ h2
 have hv2 := h2.val
 simp only at hv2
 subst hv2
 simp only [sA]
 have hG2 : s2.Good := by obtain ⟨_, _, _, X, _⟩ := h2; exact X.good hG
 refine zY (M5 s o c1 f1 bv (.slice va xs.length vc) (bs ++ leB xs.length 2) e xs) xs.length (by omega) ⟨0, rfl, Nat.zero_le _, rfl, ?_, hG2, by simpa [GX] using h2⟩ ?_
 · simp only [sA, Nat.reduceEqDiff, reduceCtorEq]
   rfl
 rintro m ⟨t, s3, ds⟩ hm ⟨j, rfl, hj, hds, ⟨g0, gv, g3, g6⟩, hG3, ⟨_, bv3, O3, X3, b3⟩⟩
 simp only at hds g0 gv g3 g6 hG3 O3 X3 b3
 subst hds
 have Y3 := Wv h X3
 by_cases c2 : j < xs.length
 · have hx0 : xs[j]? = some xs[j] := List.getElem?_eq_getElem c2
   generalize xs[j] = x0 at hx0
   obtain ⟨l, hl1, hl2, hl3, hl4⟩ := (F4 (sz := 4) sR).stab _ _ _ _ _ hv Y3
   have hr0 : l[j]? = some l[j] := List.getElem?_eq_getElem (by omega)
   generalize l[j] = r0 at hr0
   rcases hl3 with ⟨h8, h9⟩ | ⟨b, off, sp, c, h8, h9, h10⟩
   · rw [h9] at hl1; simp at hl1; omega
   rw [hl1] at h8
   cases h8
   have hld : ldA 4 (.pointer (some ⟨b, off + j * 4, none⟩)) s3 = some (.agg ⟨r0⟩) := by
    unfold ldA
    simp only [DK h10 hl2.len hr0]
   have e1 : (j : Int) < (xs.length : Int) := by omega
   have go3 := O3.go
   have g23 := (Y3 f1 l2).trans g2
   have w1 : zf .i64 ((j : Int) + 1) = ((j + 1 : Nat) : Int) := by rw [zi (by omega) (by omega)]; omega
   simp (maxDischargeDepth := 8) only [sA, sM, zb, zl, zm, Cells.get, getN, Nat.reduceLT, g0, gv, g3, g6, e1, go3, c2, g23, hld]
   have hcat : GX e (xs.take (j + 1)) = GX e (xs.take j) ++ e x0 := by
    unfold GX
    rw [List.take_add_one, List.flatMap_append]
    simp [hx0]
   have hle : (GX e (xs.take (j + 1))).length ≤ (GX e xs).length := by
    unfold GX
    have : xs = xs.take (j + 1) ++ xs.drop (j + 1) := (List.take_append_drop _ _).symm
    conv => rhs; rw [this, List.flatMap_append, List.length_append]
    exact Nat.le_add_right _ _
   refine W.mono (hf d s3 o bv3 _ _ x0 (hDf.same lf Y3) lf O3 hG3 (hl4 j r0 x0 hr0 hx0) (hx.2 _ (List.mem_of_getElem? hx0)) ?_) ?_
   · rw [hcat] at hle
     simp only [List.length_append, zB] at hle ⊢
     omega
   rintro ⟨v4, s4⟩ h4
   have hv4 := h4.val
   simp only at hv4
   subst hv4
   have hG4 : s4.Good := by obtain ⟨_, _, _, X, _⟩ := h4; exact X.good hG3
   simp (maxDischargeDepth := 8) only [sA, zl, zm, WF, Nat.reduceLT, g0, gv, g3, g6, w1]
   refine ⟨xs.length - (j + 1), by omega, ⟨j + 1, rfl, by omega, rfl, by simp only [sA, Nat.reduceEqDiff, reduceCtorEq, g0, gv, g3, g6], hG4, ?_⟩⟩
   rw [hcat, ← List.append_assoc]
   exact Jy.next X3 b3 h4
 · obtain rfl : j = xs.length := by omega
   have e1 : ¬ (xs.length : Int) < (xs.length : Int) := by omega
   simp only [sA, zb, zl, zm, Nat.reduceEqDiff, za, zd, g0, gv, g3, g6, e1]
   refine hQ _ ⟨rfl, ?_⟩
   rw [List.take_length, List.append_assoc] at O3
   exact ⟨bv3, O3, X3, b3⟩
end
section
variable {E : Env} (hC : QE E) {s : DS} {d : Nat}
include hC
theorem Dp {α β : Type} {n m : Nat} (hm : m ≤ s.next) {va vb : Value} {Ra : Nat → DS → Value → α → Prop} {Rb : Nat → DS → Value → β → Prop} {Oka : α → Prop} {Okb : β → Prop} {ea : α → List Int} {eb : β → List Int}
 (hG : s.Good) (ha : zE E n m s va Ra Oka ea) (hb : zE E n m s vb Rb Okb eb) (hcode : E.fn 51 = some d51) (hintr : E.intr 51 = none)
 (hput : ∀ {f1 f2 : Nat} {fp fg gp gg : Value} {Df Dg : List (Nat × DObj)}, ZD E n fp Df Ra Oka ea → ZD E n gp Dg Rb Okb eb → ZD E (n + 1) (.func (.func 85) #[] #[.pointer (some ⟨f1, 0, none⟩), .pointer (some ⟨f2, 0, none⟩)]) ((f1, .cells (.list [fp, fg]) false) :: (f2, .cells (.list [gp, gg]) false) :: (Df ++ Dg)) (XJ Ra Rb) (fun x => Oka x.1 ∧ Okb x.2) (fun x => ea x.1 ++ eb x.2)) :
 W (dcall E (d + 1) (.func (.func 51) #[] #[]) [va, vb] s) fun r => zE E (n + 1) m r.2 r.1 (XJ Ra Rb) (fun x => Oka x.1 ∧ Okb x.2) (fun x => ea x.1 ++ eb x.2) ∧ Ext [] s r.2 := by
 obtain ⟨f1, a1, b1, g1, p1, q1, D1, rfl, h2, h3, h4⟩ := ha
 obtain ⟨f2, a2, b2, g2, p2, q2, D2, rfl, k2, k3, k4⟩ := hb
 refine zr fun Q hQ => ?_
 rw [zh hintr hcode rfl]
 simp (maxDischargeDepth := 8) only [sA, sM, zb, zo, zJ, za, zd, Cells.get, getN, Nat.reduceAdd, allOne, ze, Nat.reduceLeDiff, DS.wrC, Cells.size, Cells.fillFrom, Cells.set, zk, zg, pp, pv, pg, DS.read, Cells.take, Nat.reduceLT, d51, hG]
 have X : ∀ o1 o2 o3 o4, Ext [] s ((((s.new o1).new o2).new o3).upd (s.next + 2) o4) := fun _ _ _ _ => (Ext.new.trans' (Ext.new.trans' Ext.new)).trans (Ext.upd (F := [s.next + 2]) (.inl (by simp))) (by simp)
 refine hQ _ ⟨⟨_, _, _, _, _, _, _, rfl, ?_, ?_, hput (f1 := s.next) (f2 := s.next + 1) (fg := .func (.func g1) p1 q1) (gg := .func (.func g2) p2 q2) h4 k4⟩, X _ _ _ _⟩
 · intro p hp
   rcases List.mem_cons.1 hp with rfl | hp
   · simp (maxDischargeDepth := 8) only [sA, sM, Nat.reduceAdd, hG]
   · rcases List.mem_cons.1 hp with rfl | hp
     · simp (maxDischargeDepth := 8) only [sA, sM, Nat.reduceAdd, hG]
     · rcases List.mem_append.1 hp with hp | hp
       · exact (X _ _ _ _).keep (h2 p hp) (by simp)
       · exact (X _ _ _ _).keep (k2 p hp) (by simp)
 · intro p hp
   have hn : ∀ o1 o2 o3 o4, ((((s.new o1).new o2).new o3).upd (s.next + 2) o4).next = s.next + 3 := fun _ _ _ _ => by simp (maxDischargeDepth := 8) only [sA, Nat.reduceAdd, Nat.add_assoc]
   rw [hn]
   rcases List.mem_cons.1 hp with rfl | hp
   · show m ≤ s.next ∧ s.next < s.next + 3; omega
   · rcases List.mem_cons.1 hp with rfl | hp
     · show m ≤ s.next + 1 ∧ s.next + 1 < s.next + 3; omega
     · rcases List.mem_append.1 hp with hp | hp
       · have := h3 p hp; omega
       · have := k3 p hp; omega
theorem Dq {α β : Type} {n m : Nat} (hm : m ≤ s.next) {va vb : Value} {Ra : Nat → DS → Value → α → Prop} {Rb : Nat → DS → Value → β → Prop} {Oka : α → Prop} {Okb : β → Prop} {ea : α → List Int} {eb : β → List Int}
 (hG : s.Good) (ha : zE E n m s va Ra Oka ea) (hb : zE E n m s vb Rb Okb eb) (hcode : E.fn 47 = some d47) (hintr : E.intr 47 = none)
 (hput : ∀ {f1 f2 : Nat} {fp fg gp gg : Value} {Df Dg : List (Nat × DObj)}, ZD E n fp Df Ra Oka ea → ZD E n gp Dg Rb Okb eb → ZD E (n + 1) (.func (.func 81) #[] #[.pointer (some ⟨f1, 0, none⟩), .pointer (some ⟨f2, 0, none⟩)]) ((f1, .cells (.list [fp, fg]) false) :: (f2, .cells (.list [gp, gg]) false) :: (Df ++ Dg)) (XJ Ra Rb) (fun x => Oka x.1 ∧ Okb x.2) (fun x => ea x.1 ++ eb x.2)) :
 W (dcall E (d + 1) (.func (.func 47) #[] #[]) [va, vb] s) fun r => zE E (n + 1) m r.2 r.1 (XJ Ra Rb) (fun x => Oka x.1 ∧ Okb x.2) (fun x => ea x.1 ++ eb x.2) ∧ Ext [] s r.2 := by
 obtain ⟨f1, a1, b1, g1, p1, q1, D1, rfl, h2, h3, h4⟩ := ha
 obtain ⟨f2, a2, b2, g2, p2, q2, D2, rfl, k2, k3, k4⟩ := hb
 refine zr fun Q hQ => ?_
 rw [zh hintr hcode rfl]
 simp (maxDischargeDepth := 8) only [sA, sM, zb, zo, zJ, za, zd, Cells.get, getN, Nat.reduceAdd, allOne, ze, Nat.reduceLeDiff, DS.wrC, Cells.size, Cells.fillFrom, Cells.set, zk, zg, pp, pv, pg, DS.read, Cells.take, Nat.reduceLT, d47, hG]
 have X : ∀ o1 o2 o3 o4, Ext [] s ((((s.new o1).new o2).new o3).upd (s.next + 2) o4) := fun _ _ _ _ => (Ext.new.trans' (Ext.new.trans' Ext.new)).trans (Ext.upd (F := [s.next + 2]) (.inl (by simp))) (by simp)
 refine hQ _ ⟨⟨_, _, _, _, _, _, _, rfl, ?_, ?_, hput (f1 := s.next) (f2 := s.next + 1) (fg := .func (.func g1) p1 q1) (gg := .func (.func g2) p2 q2) h4 k4⟩, X _ _ _ _⟩
 · intro p hp
   rcases List.mem_cons.1 hp with rfl | hp
   · simp (maxDischargeDepth := 8) only [sA, sM, Nat.reduceAdd, hG]
   · rcases List.mem_cons.1 hp with rfl | hp
     · simp (maxDischargeDepth := 8) only [sA, sM, Nat.reduceAdd, hG]
     · rcases List.mem_append.1 hp with hp | hp
       · exact (X _ _ _ _).keep (h2 p hp) (by simp)
       · exact (X _ _ _ _).keep (k2 p hp) (by simp)
 · intro p hp
   have hn : ∀ o1 o2 o3 o4, ((((s.new o1).new o2).new o3).upd (s.next + 2) o4).next = s.next + 3 := fun _ _ _ _ => by simp (maxDischargeDepth := 8) only [sA, Nat.reduceAdd, Nat.add_assoc]
   rw [hn]
   rcases List.mem_cons.1 hp with rfl | hp
   · show m ≤ s.next ∧ s.next < s.next + 3; omega
   · rcases List.mem_cons.1 hp with rfl | hp
     · show m ≤ s.next + 1 ∧ s.next + 1 < s.next + 3; omega
     · rcases List.mem_append.1 hp with hp | hp
       · have := h3 p hp; omega
       · have := k3 p hp; omega
theorem Di {α : Type} {n m : Nat} (hm : m ≤ s.next) {v : Value} {R : Nat → DS → Value → α → Prop} {Ok : α → Prop} {e : α → List Int}
 (hG : s.Good) (ha : zE E n m s v R Ok e) (hn : 3 ≤ n) (sR : ZQ R) (hcode : E.fn 46 = some d46) (hintr : E.intr 46 = none) (hcode1 : E.fn 79 = some d79) (hintr1 : E.intr 79 = none) :
 W (dcall E (d + 2) (.func (.func 46) #[] #[]) [v] s) fun r => zE E (n + 1) m r.2 r.1 (DN 4 R) (fun xs => xs.length ≤ 4096 ∧ ∀ x, x ∈ xs → Ok x) (fun xs => leB xs.length 2 ++ GX e xs) ∧ Ext [] s r.2 := by
 obtain ⟨f1, a1, b1, g1, p1, q1, D1, rfl, h2, h3, h4⟩ := ha
 refine zr fun Q hQ => ?_
 rw [zh hintr hcode rfl]
 simp (maxDischargeDepth := 8) only [sA, sM, zb, zJ, Cells.get, getN, pp, d46, hG]
 obtain ⟨S, hS⟩ : ∃ S : DS, S = (s.new (.cells (.list [.func (.func f1) a1 b1, .func (.func g1) p1 q1]) false)).new (.cells (.list [.nilFunc, .nilFunc]) false) := ⟨_, rfl⟩
 rw [← hS]
 have XS : Ext [] s S := by rw [hS]; exact Ext.new.trans' Ext.new
 have nS : S.next = s.next + 2 := by rw [hS]; simp (maxDischargeDepth := 8) only [Nat.reduceAdd, zU, Nat.add_assoc]
 have hGS := XS.good hG
 have S0 : S.get s.next = some (.cells (.list [.func (.func f1) a1 b1, .func (.func g1) p1 q1]) false) := by rw [hS]; simp (maxDischargeDepth := 8) only [sM, zU, hG]
 have S1 : S.get (s.next + 1) = some (.cells (.list [.nilFunc, .nilFunc]) false) := by rw [hS]; simp (maxDischargeDepth := 8) only [sM, zU, hG]
 have wS : S.wr (s.next + 1) = true := XS.wrs (hG _ (by omega)).2
 refine W.mono (WK hC hGS 2 4096) ?_
 rintro ⟨v2, s2⟩ ⟨hv2, n1, n2, X2, hn2⟩
 simp only at hv2 n1 n2 X2 hn2
 subst hv2
 have hG2 := X2.good hGS
 have T1 := X2.keep S1 (by simp)
 have wT := X2.wrs wS
 have hlt : s.next + 1 < s2.next := by omega
 rw [nS] at n1 n2 hn2 ⊢
 simp (maxDischargeDepth := 8) only [sA, sM, zo, za, zd, Cells.get, getN, Nat.reduceAdd, allOne, ze, Nat.reduceLeDiff, DS.wrC, Cells.size, Cells.fillFrom, Cells.set, zk, zg, DS.read, Cells.take, Nat.reduceLT, hG2, T1, wT, hlt]
 refine hQ _ ⟨⟨_, _, _, _, _, _, (s2.next, .cells (.list [.func (.func 112) #[] #[.pointer (some ⟨s.next + 2, 0, none⟩), .pointer (some ⟨s.next + 3, 0, none⟩)], .func (.func 114) #[] #[.pointer (some ⟨s.next + 2, 0, none⟩), .pointer (some ⟨s.next + 3, 0, none⟩)]]) false) :: (s.next, .cells (.list [.func (.func f1) a1 b1, .func (.func g1) p1 q1]) false) :: ([(s.next + 2, .cells (.list [.int .i64 ((2 : Nat) : Int)]) false), (s.next + 3, .cells (.list [.int .i64 4096]) false)] ++ D1), rfl, ?_, ?_, Tt hC ((J9 hC (b1 := s.next + 2) (b2 := s.next + 3) (size := 2) (most := 4096) (by omega)).mono hn) h4 sR hcode1 hintr1⟩, ?_⟩
 · intro p hp
   rcases List.mem_cons.1 hp with rfl | hp
   · simp (maxDischargeDepth := 8) only [sA, zR, hG2, show ¬ s2.next = s.next + 1 by omega]
   · rcases List.mem_cons.1 hp with rfl | hp
     · simp (maxDischargeDepth := 8) only [sA, sM, hG2, show ¬ s.next = s2.next by omega, show s.next < s2.next by omega, X2.keep S0 (by simp)]
     · rcases List.mem_append.1 hp with hp | hp
       · rcases List.mem_cons.1 hp with rfl | hp
         · simp (maxDischargeDepth := 8) only [sA, sM, hG2, show ¬ s.next + 2 = s2.next by omega, show s.next + 2 < s2.next by omega, n1]
           rfl
         · rcases List.mem_cons.1 hp with rfl | hp
           · simp (maxDischargeDepth := 8) only [sA, sM, Nat.reduceLT, hG2, show ¬ s.next + 3 = s2.next by omega, show s.next + 3 < s2.next by omega, n2]
           · cases hp
       · have h5 := h3 p hp
         have h6 := X2.keep (XS.keep (h2 p hp) (by simp)) (by simp)
         simp (maxDischargeDepth := 8) only [sA, Xo, hG2, show ¬ p.1 = s2.next by omega, show ¬ p.1 = s.next + 1 by omega, show p.1 < s2.next by omega, h6]
 · intro p hp
   have hfin : m ≤ p.1 ∧ p.1 < s2.next + 1 := by
    rcases List.mem_cons.1 hp with rfl | hp
    · show m ≤ s2.next ∧ s2.next < s2.next + 1; omega
    · rcases List.mem_cons.1 hp with rfl | hp
      · show m ≤ s.next ∧ s.next < s2.next + 1; omega
      · rcases List.mem_append.1 hp with hp | hp
        · rcases List.mem_cons.1 hp with rfl | hp
          · show m ≤ s.next + 2 ∧ s.next + 2 < s2.next + 1; omega
          · rcases List.mem_cons.1 hp with rfl | hp
            · show m ≤ s.next + 3 ∧ s.next + 3 < s2.next + 1; omega
            · cases hp
        · have h5 := h3 p hp; omega
   simp (maxDischargeDepth := 8) only [sA]
   exact hfin
 · have X3 := XS.trans' X2
   have X4 : Ext [s2.next, s.next + 1] s2 (((s2.new (.cells (.list [.nilFunc, .nilFunc]) false)).upd s2.next (.cells (.list [.func (.func 112) #[] #[.pointer (some ⟨s.next + 2, 0, none⟩), .pointer (some ⟨s.next + 3, 0, none⟩)], .func (.func 114) #[] #[.pointer (some ⟨s.next + 2, 0, none⟩), .pointer (some ⟨s.next + 3, 0, none⟩)]]) false)).upd (s.next + 1) (.cells (.list [.func (.func 79) #[] #[.pointer (some ⟨s2.next, 0, none⟩), .pointer (some ⟨s.next, 0, none⟩)], .func (.func 80) #[] #[.pointer (some ⟨s2.next, 0, none⟩), .pointer (some ⟨s.next, 0, none⟩)]]) false)) := Ext.new.trans' ((Ext.upd (.inl (by simp))).trans' (Ext.upd (.inl (by simp))))
   exact X3.trans X4 (by simp; omega)
theorem TO (hG : s.Good) {m : Nat} (hm : m ≤ s.next) (hblob : E.fn 53 = some d53) (iblob : E.intr 53 = none) (h1 : E.fn 90 = some d90) (i1 : E.intr 90 = none) :
 W (dcall E (d + 2) (.func (.func 53) #[] #[]) [] s) fun r => zE E 4 m r.2 r.1 Rx (fun x => x.length ≤ 65536) L1 ∧ Ext [] s r.2 := by
 refine zr fun Q hQ => ?_
 rw [zh iblob hblob rfl]
 simp (maxDischargeDepth := 8) only [sA, pp, d53, hG]
 obtain ⟨S, hS⟩ : ∃ S : DS, S = s.new (.cells (.list [.nilFunc, .nilFunc]) false) := ⟨_, rfl⟩
 rw [← hS]
 have XS : Ext [] s S := by rw [hS]; exact Ext.new
 have nS : S.next = s.next + 1 := by rw [hS]; simp (maxDischargeDepth := 8) only [zU]
 have hGS := XS.good hG
 have S0 : S.get s.next = some (.cells (.list [.nilFunc, .nilFunc]) false) := by rw [hS]; simp (maxDischargeDepth := 8) only [zR, hG]
 have wS : S.wr s.next = true := XS.wrs (hG _ (Nat.le_refl _)).2
 clear hS
 refine W.mono (WK hC (d := d) hGS 4 65536) ?_
 rintro ⟨v2, s2⟩ ⟨hv2, n1, n2, X2, hn2⟩
 simp only at hv2 n1 n2 X2 hn2
 subst hv2
 have hG2 := X2.good hGS
 have T0 := X2.keep S0 (by simp)
 have wT := X2.wrs wS
 rw [nS] at n1 n2 hn2 ⊢
 have hlt : s.next < s2.next := by omega
 simp (maxDischargeDepth := 8) only [sA, sM, zo, za, zd, Cells.get, getN, Nat.reduceAdd, allOne, ze, Nat.reduceLeDiff, DS.wrC, Cells.size, Cells.fillFrom, Cells.set, zk, zg, DS.read, Cells.take, Nat.reduceLT, hG2, T0, wT, hlt]
 have X4 : ∀ o1 o2 o3, Ext [] s (((s2.new o1).upd s2.next o2).upd s.next o3) := fun o1 o2 o3 => by
  have e1 : Ext [] s2 (s2.new o1) := Ext.new
  have e2 : Ext [s2.next] (s2.new o1) ((s2.new o1).upd s2.next o2) := Ext.upd (.inl (by simp))
  have e3 : Ext [s.next] ((s2.new o1).upd s2.next o2) (((s2.new o1).upd s2.next o2).upd s.next o3) := Ext.upd (.inl (by simp))
  exact ((XS.trans' X2).trans' (e1.trans e2 (by simp))).trans e3 (by simp)
 refine hQ _ ⟨⟨_, _, _, _, _, _, (s2.next, .cells (.list [.func (.func 112) #[] #[.pointer (some ⟨s.next + 1, 0, none⟩), .pointer (some ⟨s.next + 1 + 1, 0, none⟩)], .func (.func 114) #[] #[.pointer (some ⟨s.next + 1, 0, none⟩), .pointer (some ⟨s.next + 1 + 1, 0, none⟩)]]) false) :: [(s.next + 1, .cells (.list [.int .i64 ((4 : Nat) : Int)]) false), (s.next + 1 + 1, .cells (.list [.int .i64 65536]) false)], rfl, fun p hp => ?_, fun p hp => ?_, NN hC (J9 hC (b1 := s.next + 1) (b2 := s.next + 1 + 1) (size := 4) (most := 65536) (by omega)) (by omega) h1 i1⟩, X4 _ _ _⟩
 · rcases List.mem_cons.1 hp with rfl | hp
   · simp (maxDischargeDepth := 8) only [sA, sM, Nat.reduceAdd, hG2, show ¬ s2.next = s.next by omega]
   · rcases List.mem_cons.1 hp with rfl | hp
     · simp (maxDischargeDepth := 8) only [sA, Xo, hG2, show ¬ s.next + 1 = s.next by omega, show ¬ s.next + 1 = s2.next by omega, show s.next + 1 < s2.next by omega, n1]
       rfl
     · rcases List.mem_cons.1 hp with rfl | hp
       · simp (maxDischargeDepth := 8) only [sA, sM, Nat.reduceAdd, hG2, show ¬ s.next + 1 + 1 = s.next by omega, show ¬ s.next + 1 + 1 = s2.next by omega, show s.next + 1 + 1 < s2.next by omega, n2]
       · cases hp
 · have : m ≤ p.1 ∧ p.1 < s2.next + 1 := by
    rcases List.mem_cons.1 hp with rfl | hp
    · show m ≤ s2.next ∧ s2.next < s2.next + 1; omega
    · rcases List.mem_cons.1 hp with rfl | hp
      · show m ≤ s.next + 1 ∧ s.next + 1 < s2.next + 1; omega
      · rcases List.mem_cons.1 hp with rfl | hp
        · show m ≤ s.next + 1 + 1 ∧ s.next + 1 + 1 < s2.next + 1; omega
        · cases hp
   simp (maxDischargeDepth := 8) only [sA]
   exact this
def PG : Nat → DS → Value → Bool × List Int → Prop := XJ PH Rx
omit hC in
theorem DR : ZQ PG := Jg Vq F3
omit hC in
theorem PF : ∀ (o : Nat) (s : DS) (v : Value) (x : Bool × List Int), PG o s v x → ∃ q b n c, v = .agg ⟨[.bool q, .slice b n c]⟩ := fun o s v x ⟨a, b, e, h1, h2⟩ => by
 have h1 : a = .bool x.1 := h1
 obtain ⟨b', n', c', rfl⟩ := Se _ _ _ _ h2
 subst h1
 exact ⟨_, _, _, _, e⟩
def Fk : Nat → DS → Value → zX → Prop := XJ DP PG
omit hC in
theorem VV : ZQ Fk := Jg WW DR
def P1 (x : zX) : Prop := (W2 1 255 x.1.1 ∧ W2 8 0 x.1.2) ∧ (True ∧ x.2.2.length ≤ 65536)
variable (hT : Jx E) (hE : Dy E) (hF : Kw E) (hW : R7 E)
include hT hE hF hW
theorem Pf (hG : s.Good) : W (dcall E (d + 3) (.func (.func 24) #[] #[]) [] s) fun r => zE E 7 s.next r.2 r.1 (DN 4 Fk) (fun xs => xs.length ≤ 4096 ∧ ∀ x, x ∈ xs → P1 x) JL ∧ Ext [] s r.2 := by
 refine zr fun Q hQ => ?_
 rw [zh hF.itform hF.ftform rfl]
 simp (maxDischargeDepth := 8) only [sA, pp, d24, hG]
 have h0 : ∀ o, (s.new o).get s.next = some o := fun o => DS.new_get_self hG
 have w0 : (s.new (.cells (.list [.nilFunc, .nilFunc]) false)).wr s.next = true := (hG _ (Nat.le_refl _)).2
 refine W.mono (QZ hC (m := s.next + 1) (DS.new_good hG) (Nat.le_refl _) hE.fbyte hE.ibyte) ?_
 rintro ⟨v1, s1⟩ ⟨q1, X1⟩
 simp only at q1 X1
 have hG1 := X1.good (DS.new_good hG)
 have l1 : s.next + 1 ≤ s1.next := X1.le
 simp only [sA]
 refine W.mono (Wy hC (m := s.next + 1) hG1 l1 hE.fint hE.iint) ?_
 rintro ⟨v2, s2⟩ ⟨q2, X2⟩
 simp only at q2 X2
 have hG2 := X2.good hG1
 have l2 := Nat.le_trans l1 X2.le
 simp only [sA, Nat.reduceEqDiff]
 refine W.mono (Qy hC l2 hG2 (q1.keep X2) q2 hE.fII hE.iII fun ha hb => JR hC ha hb Xt Xt (fun _ _ _ x h => ⟨x, h⟩) (fun _ _ _ x h => ⟨x, h⟩) hE.fII1 hE.iII1) ?_
 rintro ⟨v3, s3⟩ ⟨q3, X3⟩
 simp only at q3 X3
 have hG3 := X3.good hG2
 have l3 := Nat.le_trans l2 X3.le
 simp only [sA]
 refine W.mono (Gs hC hG3 l3 hE.fflag hE.iflag hE.fturn hE.iturn hE.fturn1 hE.iturn1 hE.fflag1 hE.iflag1 hE.fr) ?_
 rintro ⟨v4, s4⟩ ⟨q4, X4⟩
 simp only at q4 X4
 have hG4 := X4.good hG3
 have l4 := Nat.le_trans l3 X4.le
 simp only [sA]
 refine W.mono (TO hC hG4 l4 hF.fblob hF.iblob hW.fblob1 hW.iblob1) ?_
 rintro ⟨v5, s5⟩ ⟨q5, X5⟩
 simp only at q5 X5
 have hG5 := X5.good hG4
 have l5 := Nat.le_trans l4 X5.le
 simp only [sA, Nat.reduceEqDiff]
 refine W.mono (Dp hC l5 hG5 (q4.keep X5) q5 hF.fbFB hF.ibFB fun ha hb => TK hC ha hb Vq F3 (fun _ _ _ x h => ⟨x, h⟩) Se hW.fbFB1 hW.ibFB1) ?_
 rintro ⟨v6, s6⟩ ⟨q6, X6⟩
 simp only at q6 X6
 have hG6 := X6.good hG5
 have l6 := Nat.le_trans l5 X6.le
 have X36 := X4.trans' (X5.trans' X6)
 simp only [sA, Nat.reduceEqDiff]
 refine W.mono (Dq hC l6 hG6 ((q3.keep X36).mono (show 4 ≤ 5 by omega)) q6 hF.fbLL hF.ibLL fun ha hb => TM hC ha hb WW DR QV PF hW.fbLL1 hW.ibLL1) ?_
 rintro ⟨v7, s7⟩ ⟨q7, X7⟩
 simp only at q7 X7
 have hG7 := X7.good hG6
 have l7 := Nat.le_trans l6 X7.le
 simp only [sA]
 refine W.mono (Di hC l7 hG7 q7 (by omega) VV hF.ftmany hF.itmany hW.ftmany1 hW.itmany1) ?_
 rintro ⟨v8, s8⟩ ⟨q8, X8⟩
 simp only at q8 X8
 have X08 := (X1.trans' (X2.trans' X3)).trans' (X36.trans' (X7.trans' X8))
 have g6 := X08.keep (h0 _) (by simp)
 have w6 := X08.wrs w0
 obtain ⟨f, a, b, g, a', b', D, rfl, k2, k3, k4⟩ := q8
 simp (maxDischargeDepth := 8) only [sA, sM, zo, za, zd, Cells.get, getN, Nat.reduceAdd, allOne, ze, DS.wrC, Cells.size, Cells.fillFrom, Cells.set, zk, DS.read, Cells.take, g6, w6]
 have XF : ∀ o, Ext [] s (s8.upd s.next o) := fun o => (Ext.new.trans' X08).trans (Ext.upd (F := [s.next]) (.inl (by simp))) (by simp)
 refine hQ _ ⟨⟨f, a, b, g, a', b', D, rfl, fun p hp => ?_, fun p hp => ?_, k4⟩, XF _⟩
 · have := (k3 p hp).1
   simp (maxDischargeDepth := 8) only [sA, k2 p hp, show ¬ p.1 = s.next by omega]
 · have := k3 p hp
   simp (maxDischargeDepth := 8) only [DS.upd_next]
   omega
omit hT hF in
theorem Ml {fv lv : Value} {xs : List zX} (hG : s.Good) (hf : ∃ m, zE E 7 m s fv (DN 4 Fk) (fun xs => xs.length ≤ 4096 ∧ ∀ x, x ∈ xs → P1 x) JL) (hr : DN 4 Fk s.next s lv xs) (hok : xs.length ≤ 4096 ∧ ∀ x, x ∈ xs → P1 x) (hlen : (JL xs).length ≤ 1048576) :
 W (dcall E ((d + 7 + 1) + 1) (.func (.func 36) #[] #[]) [fv, lv] s) fun r => ∃ w, r.1 = .tuple ⟨[w, .int .i64 0]⟩ ∧ SlV r.2 1 w (zC (JL xs)) ∧ (∃ a, w = .slice a (JL xs).length (JL xs).length ∧ ∀ z, a = some z → z.spot = none) ∧ (∀ k, k ∈ blk w → s.next ≤ k ∧ k < r.2.next) ∧ Ext [] s r.2 := by
 obtain ⟨m, hf⟩ := hf
 obtain ⟨f, a, b, g, a', b', D, rfl, h2, h3, h4⟩ := hf
 obtain ⟨la, lb, lc, hlv⟩ : ∃ a n c, lv = .slice a n c := by
  obtain ⟨l, _, _, h3 | ⟨b, off, sp, c, e1, _⟩, _⟩ := hr
  · exact ⟨_, _, _, h3.1⟩
  · exact ⟨_, _, _, e1⟩
 refine zr fun Q hQ => ?_
 rw [zh hW.iEncT hW.fEncT rfl]
 simp (maxDischargeDepth := 8) only [sA, sM, zb, zJ, Cells.get, getN, zg, pp, pv, Nat.reduceLT, d36, hG]
 obtain ⟨S, hS⟩ : ∃ S : DS, S = (s.new (.cells (.list [.func (.func f) a b, .func (.func g) a' b']) false)).new (.cells (.list [.slice none 0 0, .int .i64 0]) false) := ⟨_, rfl⟩
 rw [← hS]
 have XS : Ext [] s S := by rw [hS]; exact Ext.new.trans' Ext.new
 have nS : S.next = s.next + 2 := by rw [hS]; simp (maxDischargeDepth := 8) only [Nat.reduceAdd, zU, Nat.add_assoc]
 have hGS := XS.good hG
 have S0 : S.get s.next = some (.cells (.list [.func (.func f) a b, .func (.func g) a' b']) false) := by rw [hS]; simp (maxDischargeDepth := 8) only [sM, zU, hG]
 have S2 : S.get (s.next + 1) = some (.cells (.list [.slice none 0 0, .int .i64 0]) false) := by rw [hS]; simp (maxDischargeDepth := 8) only [sM, zU, hG]
 have O : WG S (s.next + 1) (.slice none 0 0) [] := ⟨S2, XS.wrs (hG _ (by omega)).2, by simpa [zC] using SlC.nil, by simp [blk], by simp⟩
 have hY : Same (s.next) s S := fun k hk => XS.get k hk (by simp)
 refine W.mono (h4 (d + 1) S (s.next + 1) _ [] _ xs (h2.keep XS (by simp)) (fun p hp => by have := h3 p hp; omega) O hGS ((F4 VV).mono _ _ _ _ _ ((F4 VV).stab _ _ _ _ _ hr hY) (by omega)) hok (by simpa using hlen)) ?_
 rintro ⟨v3, s3⟩ ⟨hv3, bv3, O3, X3, b3⟩
 simp only at hv3 O3 X3 b3
 subst hv3
 rw [List.nil_append] at O3
 have go3 := O3.go
 obtain ⟨w, hw1, hw2, hw3, hw4⟩ := SQ hC (d := d + 7) O3.sl hE.fclip hE.iclip
 simp only [sA, zb, zl, zm, Nat.reduceEqDiff, za, zd, Cells.get, getN, go3, hw1]
 have X4 : Ext [] s s3 := XS.trans X3 (by simp [blk])
 refine hQ _ ⟨w, rfl, hw2, hw3, fun k hk => ?_, X4⟩
 rw [hw4] at hk
 refine ⟨?_, O3.sl.lt k hk⟩
 have := O3.up k hk
 omega
end
end Go.Dx.TbA
namespace Go.Dx.TbA
open Go Go.Dx Go.Dx.Tab Go.Proofs.YtffgmngdgkpflaaGreat
structure R9 (E : Env) : Prop where
 fpack : E.fn 9 = some d9
 ipack : E.intr 9 = none
 fcl : E.fn 20 = some d20
 icl : E.intr 20 = none
 fcl1 : E.fn 42 = some d42
 icl1 : E.intr 42 = none
 ikeys : E.intr 44 = some fun all s => K1 all 77 s
 isorted : E.intr 43 = some fun all s => Xs 77 all s
section
variable {E : Env} (hC : QE E) (hT : Jx E) (hE : Dy E) {s s' : DS} {d : Nat} {t m clock : Nat} {M : TRs}
include hT hC hE
def encR (r : Rp) : List Int := Q5 (((r.c, r.n), r.rej), (r.trap, (r.v, r.gas)))
theorem TE (hG : s.Good) (r : Rp) (hmay : ZR r) : W (dcall E (d + 9) (.func (.func 35) #[] #[]) [.agg ⟨r.cells⟩] s) fun x => ∃ w, x.1 = .tuple ⟨[w, .int .i64 0]⟩ ∧ SlV x.2 1 w (zC (encR r)) ∧ (∃ a, w = .slice a (encR r).length (encR r).length ∧ ∀ z, a = some z → z.spot = none) ∧ (∀ k, k ∈ blk w → s.next ≤ k ∧ k < x.2.next) ∧ Ext [] s x.2 := by
 refine zr fun Q hQ => ?_
 rw [zh hE.iRep hE.fRep rfl]
 simp (maxDischargeDepth := 8) only [sA, sM, Cells.get, getN, pp, ldA, DS.read, Cells.take, Nat.reduceLT, d35, hG, Rp.cells]
 obtain ⟨S0, hS0⟩ : ∃ S0 : DS, S0 = s.new (.cells (.list [.int .i64 r.c, .int .i64 r.n, .bool r.rej, .int .i64 r.trap, .int .i64 r.v, .int .i64 r.gas]) false) := ⟨_, rfl⟩
 rw [← hS0]
 have X0 : Ext [] s S0 := by rw [hS0]; exact Ext.new
 have hG0 := X0.good hG
 have g0 : S0.get s.next = some (.cells (.list [.int .i64 r.c, .int .i64 r.n, .bool r.rej, .int .i64 r.trap, .int .i64 r.v, .int .i64 r.gas]) false) := by rw [hS0]; simp (maxDischargeDepth := 8) only [zR, hG]
 clear hS0
 refine W.mono (De hT (d := d + 5) hG0 r) ?_
 rintro ⟨v1, s1⟩ ⟨h1, X1⟩
 simp only at h1 X1
 subst h1
 have X01 := X0.trans' X1
 have hG1 := X01.good hG
 have g1 := X1.keep g0 (by simp)
 have hl1 : s.next < s1.next := DS.get_lt' g1
 rw [decide_eq_true hmay]
 have hb1 : Nat.ble (s1.next + 1) s1.next = false := by rw [zD]; omega
 have hb2 : Nat.beq s.next s1.next = false := by rw [zH]; omega
 have hb3 : Nat.ble (s1.next + 1) s.next = false := by rw [zD]; omega
 simp (maxDischargeDepth := 8) only [sA, sM, zb, Cells.get, getN, Nat.reduceAdd, allOne, ze, Nat.reduceLeDiff, DS.wrC, Cells.size, Cells.fillFrom, Cells.set, zk, zg, ldA, foot, hidden, noteAt, DS.read, Cells.take, Nat.reduceLT, hG1, g1, hl1, W4, YK, shielded, zx, hb1, hb2, hb3]
 obtain ⟨S3, hS3⟩ : ∃ S3 : DS, S3 = ((((((s1.new (.cells (.list [.int .i64 0, .int .i64 0, .bool false, .int .i64 0, .int .i64 0, .int .i64 0]) false)).upd s1.next (.cells (.list [.int .i64 0, .int .i64 0, .bool false, .int .i64 0, .int .i64 0, .int .i64 0]) false)).upd s1.next (.cells (.list [.int .i64 r.c, .int .i64 r.n, .bool false, .int .i64 0, .int .i64 0, .int .i64 0]) false)).upd s1.next (.cells (.list [.int .i64 r.c, .int .i64 r.n, .bool r.rej, .int .i64 0, .int .i64 0, .int .i64 0]) false)).upd s1.next (.cells (.list [.int .i64 r.c, .int .i64 r.n, .bool r.rej, .int .i64 r.trap, .int .i64 0, .int .i64 0]) false)).upd s1.next (.cells (.list [.int .i64 r.c, .int .i64 r.n, .bool r.rej, .int .i64 r.trap, .int .i64 r.v, .int .i64 r.gas]) false)) := ⟨_, rfl⟩
 rw [← hS3]
 have X3 : Ext [] s1 S3 := by
  rw [hS3]
  have y : ∀ (S : DS) o, Ext [s1.next] S (S.upd s1.next o) := fun S o => Ext.upd (.inl (by simp))
  exact (Ext.new (F := [])).trans ((y _ _).trans' ((y _ _).trans' ((y _ _).trans' ((y _ _).trans' (y _ _))))) (by simp)
 have hG3 := X3.good hG1
 have n3 : S3.next = s1.next + 1 := by rw [hS3]; simp (maxDischargeDepth := 8) only [sA]
 clear hS3
 have hhid : ∀ k, hidden [⟨[s1.next], s1.next + 1, s1.next + 1⟩] [0] k = false := fun k => by (simp only [hidden, shielded, noteAt, zx, Bool.or_false, Bool.or_eq_false_iff, Bool.and_eq_false_iff, zD, zM, zH, true_and, and_true, true_or, or_true] <;> omega)
 refine W.masked (hE.fr _) (SC hC hT hE (d := d + 5) (Zq hG3 fun k hk => ⟨hhid k, ?_⟩)) ?_
 · have : ¬ k = s1.next := by omega
   (simp only [hidden, shielded, noteAt, zx, Bool.or_false, Bool.or_eq_false_iff, Bool.and_eq_false_iff, zD, zM, zH, true_and, and_true, true_or, or_true] <;> omega)
 rintro v4 s4 ⟨h4, X4⟩ df
 simp only at h4 X4
 have X4' := Ext.unmask' X4 df
 obtain ⟨S4, hS4⟩ : ∃ S4 : DS, S4 = unmask S3 s4 := ⟨_, rfl⟩
 have n4 : s4.next = S4.next := by rw [hS4]; rfl
 have h4' : zE E 6 S3.next S4 v4 Fj P0 Q5 := by
  rw [hS4]
  obtain ⟨f, a, b, g, a', b', D, e1, e2, e3, e4⟩ := h4
  exact ⟨f, a, b, g, a', b', D, e1, fun p hp => (QK hhid X4).trans (e2 p hp), fun p hp => e3 p hp, e4⟩
 rw [← hS4] at X4'
 have hG4 := X4'.good hG3
 simp only [sA, Nat.reduceEqDiff, foot, ← hS4, n4]
 have hrep : Fj S4.next S4 (.agg ⟨[.int .i64 r.c, .int .i64 r.n, .bool r.rej, .int .i64 r.trap, .int .i64 r.v, .int .i64 r.gas]⟩) (((r.c, r.n), r.rej), (r.trap, (r.v, r.gas))) :=
  ⟨.agg ⟨[.int .i64 r.c, .int .i64 r.n, .bool r.rej]⟩, .agg ⟨[.int .i64 r.trap, .int .i64 r.v, .int .i64 r.gas]⟩, rfl, ⟨.agg ⟨[.int .i64 r.c, .int .i64 r.n]⟩, .bool r.rej, rfl, ⟨.int .i64 r.c, .int .i64 r.n, rfl, rfl, rfl⟩, rfl⟩, ⟨.int .i64 r.trap, .agg ⟨[.int .i64 r.v, .int .i64 r.gas]⟩, rfl, rfl, ⟨.int .i64 r.v, .int .i64 r.gas, rfl, rfl, rfl⟩⟩⟩
 obtain ⟨_, ⟨w1, w2, w3, w4⟩, w5, w6, w7, w8⟩ := hmay
 have hok : P0 (((r.c, r.n), r.rej), (r.trap, (r.v, r.gas))) := ⟨⟨⟨.inr ⟨w1, by show r.c ≤ 255; omega⟩, .inl rfl⟩, trivial⟩, .inr ⟨w5, by show r.trap ≤ 255; omega⟩, .inl rfl, .inl rfl⟩
 have hlen : (Q5 (((r.c, r.n), r.rej), (r.trap, (r.v, r.gas)))).length ≤ 1048576 := by
  simp only [Q5, Xp, List.length_append, zB]
  omega
 refine W.mono (Va hC (d := d) hG4 h4' hrep DM hok hlen rfl hE.fEnc hE.iEnc hE.fclip hE.iclip) ?_
 rintro ⟨v5, s5⟩ ⟨w, h5, h6, h7, h8, X5⟩
 simp only at h5 h6 h8 X5
 subst h5
 simp only [sA, zb, Nat.reduceEqDiff, za, zd, getN, foot]
 have Y := X01.trans' (X3.trans' X4')
 exact hQ _ ⟨w, rfl, h6, h7, fun k hk => ⟨by have := (h8 k hk).1; have := Y.le; omega, (h8 k hk).2⟩, Y.trans' X5⟩
end
def GK (S : DS) (q : Nat) (ks : List Int) : Prop := ks ≠ [] → S.get q = some (.cells (.list (ks.map encI)) false)
structure ClI (J : Nat → DS → Prop) (ks : List Int) (vS : Value) (y1 c : Nat) (i : Nat) (x : St) : Prop where
 ex : ∃ j : Nat, i = ks.length - j ∧ j ≤ ks.length ∧ x.defers = [] ∧ (x.t.get 0 = some (.func (.yield y1) #[] #[]) ∧ x.t.get 13 = some vS ∧ x.t.get 14 = some (.int .i64 (ks.length : Int)) ∧ x.t.get 15 = some (.int .i64 (j : Int))) ∧ J j x.s
section
variable {E : Env} (hT : Jx E) (hP : R9 E) {s s' : DS} {d : Nat} {t m clock : Nat} {M : TRs} {J : Nat → DS → Prop} {Stop : DS → Prop} {c y1 : Nat}
include hT hP
theorem Tg (hM : Zn M clock) (gm : s.get m = some (.map (M.map trE) clock)) (hG : s.Good) :
 ∃ vS S2, (∀ dd, dcall E (dd + 1) (.func (.func 43) #[] #[]) [.func (.func 77) #[] #[.chan (some s.next)]] (s.new (.cells (.list [.map (some m)]) false)) = some (vS, S2)) ∧ Ext [] s S2 ∧ S2.Good ∧ GK S2 (s.next + 1) (zL M) ∧ (zL M ≠ [] → s.next + 2 ≤ S2.next) ∧
  ∃ aS, vS = .slice aS (zL M).length (zL M).length ∧ (zL M ≠ [] → aS = some ⟨s.next + 1, 0, some 1⟩) := by
 have hml := DS.get_lt' gm
 have g1 : (s.new (.cells (.list [.map (some m)]) false)).get s.next = some (.cells (.list [.map (some m)]) false) := DS.new_get_self hG
 have g2 : (s.new (.cells (.list [.map (some m)]) false)).get m = some (.map (M.map trE) clock) := (DS.new_get_lt hml).trans gm
 have hn : (s.new (.cells (.list [.map (some m)]) false)).next = s.next + 1 := rfl
 have hG1 : (s.new (.cells (.list [.map (some m)]) false)).Good := DS.new_good hG
 have X1 : Ext [] s (s.new (.cells (.list [.map (some m)]) false)) := Ext.new
 obtain ⟨S, hS⟩ : ∃ S : DS, S = s.new (.cells (.list [.map (some m)]) false) := ⟨_, rfl⟩
 rw [← hS] at g1 g2 hn hG1 X1
 have hlk : (M.map fun x => x.1.key).length ≤ 64 := by
  have h1 : (zL M).length ≤ 64 := by rw [Wj hM, List.length_map]; exact W1 _
  unfold zL at h1
  rw [(Xh _).length_eq] at h1
  exact h1
 have hle : Nat.ble (M.map fun x => x.1.key).length 1000000 = true := Nat.ble_eq.mpr (by omega)
 have hrun : ∀ r, (match J1 (M.map fun x => x.1.key) with
               | [] => some (Value.slice none 0 0, S)
               | x :: r => some (.slice (some ⟨S.next, 0, some 1⟩) (r.length + 1) (r.length + 1), S.new (.cells (.list ((x :: r).map encI)) false))) = some r → Xs 77 [.func (.func 77) ⟨[]⟩ ⟨[.chan (some s.next)]⟩] S = some r := fun r hr => by
  unfold Xs
  simp only [Nat.beq_refl, if_true, g1, Cells.get, getN, g2, Ca hM, hle]
  exact hr
 rw [← hS]
 cases hk : zL M with
 | nil =>
  refine ⟨.slice none 0 0, S, fun dd => Ki hP.isorted (hrun _ ?_), X1, hG1, fun h => absurd rfl h, fun h => absurd rfl h, none, rfl, fun h => absurd rfl h⟩
  unfold zL at hk
  rw [hk]
 | cons x r =>
  refine ⟨.slice (some ⟨S.next, 0, some 1⟩) (r.length + 1) (r.length + 1), S.new (.cells (.list ((x :: r).map encI)) false), fun dd => Ki hP.isorted (hrun _ ?_), X1.trans' Ext.new, DS.new_good hG1, fun _ => ?_, fun _ => ?_, some ⟨S.next, 0, some 1⟩, rfl, fun _ => by rw [hn]⟩
  · unfold zL at hk
    rw [hk]
  · rw [← hn]; exact DS.new_get_self hG1
  · show s.next + 2 ≤ S.next + 1
    omega
theorem JO (hG : s.Good) : dcall E (d + 1) (.func (.func 20) #[] #[]) [.pointer (some ⟨t, 0, none⟩)] s = some (.func (.func 42) #[] #[.pointer (some ⟨s.next, 0, none⟩)], s.new (.cells (.list [.pointer (some ⟨t, 0, none⟩)]) false)) := by
 rw [← JH, zh hP.icl hP.fcl rfl]
 simp only [sA, Nat.reduceEqDiff, za, zd, pp, pv, d20]
theorem SR (hM : Zn M clock) (hlf : 1000 ≤ E.lf) (hG : s.Good)
 (gc : s.get c = some (.cells (.list [.pointer (some ⟨t, 0, none⟩)]) false)) (go : s.get t = some (.cells (.list [.map (some m)]) false)) (gm : s.get m = some (.map (M.map trE) clock))
 (hJ : ∀ i S, J i S → GK S (s.next + 1) (zL M))
 (hstep : ∀ (i : Nat) (k : Int) (S : DS), (zL M)[i]? = some k → J i S → W (dcall E (d + 1) (.func (.yield y1) #[] #[]) [.int .i64 k] S) fun r => (r.1 = .bool true ∧ J (i + 1) r.2) ∨ (r.1 = .bool false ∧ Stop r.2))
 (h0 : ∀ S, Ext [] s S → S.Good → GK S (s.next + 1) (zL M) → (zL M ≠ [] → s.next + 2 ≤ S.next) → J 0 S) :
 W (dcall E (d + 2) (.func (.func 42) #[] #[.pointer (some ⟨c, 0, none⟩)]) [.func (.yield y1) #[] #[]] s) fun r => J (zL M).length r.2 ∨ Stop r.2 := by
 have hol := DS.get_lt' go
 have hml := DS.get_lt' gm
 have hcl := DS.get_lt' gc
 have hkl : (zL M).length ≤ 64 := by rw [Wj hM, List.length_map]; exact W1 _
 refine zr fun Q hQ => ?_
 rw [Zo hP.icl1 hP.fcl1 rfl]
 obtain ⟨vS, S2, hs, X2, hG2, hq, hn2, aS, rfl, haS⟩ := Tg hT hP hM gm hG
 have hmade := YS hT go (d := d)
 have hk : ∀ dd, dcall E (dd + 1) (.func (.func 44) #[] #[]) [.map (some m)] s = some (.func (.func 77) #[] #[.chan (some s.next)], s.new (.cells (.list [.map (some m)]) false)) := fun dd => Ki hP.ikeys rfl
 simp only [sA, zb, Nat.reduceEqDiff, Cells.get, getN, pp, pv, d42, gc, go, hmade, hk, hs]
 refine zY (ClI J (zL M) (.slice aS (zL M).length (zL M).length) y1 c) (zL M).length (by omega) ⟨0, rfl, Nat.zero_le _, rfl, ?_, h0 S2 X2 hG2 hq hn2⟩ ?_
 · simp only [sA, Nat.reduceEqDiff, reduceCtorEq]
   rfl
 rintro n ⟨t1, S, ds⟩ hn ⟨i, rfl, hi, hds, ⟨g0, g13, g14, g15⟩, hj⟩
 simp only at hds g0 g13 g14 g15 hj
 subst hds
 by_cases c1 : i < (zL M).length
 · have hx : (zL M)[i]? = some (zL M)[i] := List.getElem?_eq_getElem c1
   generalize (zL M)[i] = k at hx
   have hne : zL M ≠ [] := fun e => by rw [e] at c1; simp at c1
   have hqS := hJ i S hj hne
   rw [haS hne] at g13
   have hg : getN ((zL M).map encI) i = some (.int .i64 k) := by rw [zw, List.getElem?_map, hx]; rfl
   have e1 : (i : Int) < ((zL M).length : Int) := by omega
   have w1 : zf .i64 ((i : Int) + 1) = ((i + 1 : Nat) : Int) := by rw [zi (by omega) (by omega)]; omega
   simp only [sA, zb, zl, zm, Nat.reduceEqDiff, Cells.get, reduceCtorEq, g0, g13, g14, g15, e1, c1, hqS, hg]
   refine W.mono (hstep i k S hx hj) ?_
   rintro ⟨v, S3⟩ (⟨hv, hj3⟩ | ⟨hv, hst⟩)
   · simp only at hv hj3
     subst hv
     simp only [sA, zb, zl, zm, Nat.reduceEqDiff, g0, g13, g14, g15, w1]
     exact ⟨(zL M).length - (i + 1), by omega, ⟨i + 1, rfl, by omega, rfl, by simp only [sA, Nat.reduceEqDiff, reduceCtorEq, g0, g13, g14, g15, haS hne], hj3⟩⟩
   · simp only at hv hst
     subst hv
     simp only [sA, zb, za, zd, g0, g13, g14, g15]
     exact hQ _ (.inr hst)
 · obtain rfl : i = (zL M).length := by omega
   have e1 : ¬ ((zL M).length : Int) < ((zL M).length : Int) := by omega
   simp only [sA, zl, zm, za, zd, g0, g13, g14, g15, e1]
   exact hQ _ (.inl hj)
end
end Go.Dx.TbA
namespace Go.Dx.TbA
open Go Go.Dx Go.Dx.Tab Go.Proofs.YtffgmngdgkpflaaGreat
def XK (x : TR) : zX := ((x.key, x.num), (x.done, if x.done = true then encR x.rep else []))
def XL (A : Int → Option TR) (k : Int) : zX := match A k with | some x => XK x | none => ((0, 0), (false, []))
def Ys (A : Int → Option TR) : List zX := (Yl A).map fun i : Nat => XL A (i : Int)
def Yk (A : Int → Option TR) : List Int := JL (Ys A)
theorem Cw (r : Rp) : (encR r).length = 27 := by
 simp only [encR, Q5, Xp, List.length_append, zB]
theorem FB (x : zX) : (Q6 x).length = 14 + x.2.2.length := by
 simp only [Q6, Xp, List.length_append, zB]
 omega
theorem Kc (A : Int → Option TR) (k : Int) : (XL A k).2.2.length ≤ 27 := by
 unfold XL
 split
 · unfold XK
   split
   · rw [Cw]; exact Nat.le_refl _
   · exact Nat.zero_le _
 · exact Nat.zero_le _
theorem NL : ∀ (l : List zX), (∀ x, x ∈ l → x.2.2.length ≤ 27) → (l.flatMap Q6).length ≤ l.length * 41
 | [], _ => Nat.zero_le _
 | x :: l, h => by
  have h1 := h x (List.mem_cons_self ..)
  have h2 := NL l fun y hy => h y (List.mem_cons_of_mem _ hy)
  rw [List.flatMap_cons, List.length_append, FB, List.length_cons]
  omega
theorem Gf (A : Int → Option TR) : (Ys A).length ≤ 64 := by unfold Ys; rw [List.length_map]; exact W1 A
theorem WZ (A : Int → Option TR) : (Yk A).length ≤ 2626 := by
 have h1 := NL (Ys A) fun x hx => by
  obtain ⟨i, _, rfl⟩ := List.mem_map.1 hx
  exact Kc A _
 have h2 := Gf A
 unfold Yk JL
 rw [List.length_append, zB]
 omega
def HD (n : Nat) (s : DS) (v : Value) (x : zX) : Prop := ∃ b n c, v = .agg ⟨[.int .i64 x.1.1, .int .i64 x.1.2, .bool x.2.1, .slice b n c]⟩ ∧ SlV s 1 (.slice b n c) (zC x.2.2)
theorem XH : Mg HD := fun n s s' row x ⟨b, m, c, h, hw⟩ hg => ⟨b, m, c, h, hw.of fun k hk => hg k (by
 cases h
 simp only [List.flatMap_cons, List.flatMap_nil, List.mem_append, List.append_nil]
 exact .inr (.inr (.inr hk)))⟩
def Vk : DCode := (.region [pv 4 14])
def Qd : DCode := (.block 1 (.seq (.region [pp 15 (.ld none (tm 1)), pp 16 (.nilck (tm 15)), pp 17 (.fadr 0 (tm 16)), pp 18 (.ld none (tm 17)), pv 19 4, pp 20 (.look .num (.agg #[.int .i64 0, .bool false, .int .i64 0, .int .i64 0, .bool false, .int .i64 0, .int .i64 0, .int .i64 0]) false (tm 18) (tm 19)), pp 5 (.alloc [.int .i64 0, .bool false, .int .i64 0, .int .i64 0, .bool false, .int .i64 0, .int .i64 0, .int .i64 0]), ⟨none, .st 8 (tm 5) (tm 20), none, [], false⟩]) (.seq (.region [pv 21 4, pp 22 (.fadr 0 (tm 5)), pp 23 (.ld none (tm 22)), pp 24 (.build [.int .i64 0, .int .i64 0] [(0, 1, .tmp 21), (1, 1, .tmp 23)]), pp 25 (.build [.int .i64 0, .int .i64 0, .bool false, .slice none 0 0] [(0, 2, .tmp 24)]), pp 6 (.alloc [.int .i64 0, .int .i64 0, .bool false, .slice none 0 0]), ⟨none, .st 4 (tm 6) (tm 25), none, [], false⟩]) (.seq (.seq (.region [pp 26 (.fadr 1 (tm 5)), pp 27 (.ld none (tm 26)), pp 28 (.fadr 2 (tm 6)), pp 29 (.fadr 0 (tm 28)), ⟨none, .st 1 (tm 29) (tm 27), none, [], false⟩]) (.seq (.region [pp 30 (.fadr 1 (tm 5)), pp 31 (.ld none (tm 30))]) (.cond (tm 31) (.region [pp 33 (.fadr 2 (tm 5)), pp 34 (.ld (some 6) (tm 33)), pp 35 (.call (.func 35) [.tmp 34]), pv 32 35, pp 36 (.ext (tm 32) 0), pp 37 (.ext (tm 32) 1), pp 38 (.fadr 2 (tm 6)), pp 39 (.fadr 1 (tm 38)), ⟨none, .st 1 (tm 39) (tm 36), none, [], false⟩]) (.skip)))) (.region [pp 40 (.ld none (tm 3)), pp 41 (.ld (some 4) (tm 6)), pp 42 (.bslice 1 4 [.int .i64 0, .int .i64 0, .bool false, .slice none 0 0] [(0, 4, .tmp 41)]), pp 43 (.bapp 48 4 (tm 40) (tm 42)), ⟨none, .st 1 (tm 3) (tm 43), none, [], false⟩])))))
structure PkJ (U : DS) (b0 : Nat) (tt : PT Value) (A : Int → Option TR) (ks : List Int) (i : Nat) (S : DS) : Prop where
 X : Ext [b0 + 1, b0 + 4] U S
 lp : S.get (b0 + 4) = some (.loop .ready .normal tt [14] Vk Qd)
 kat : GK S (U.next + 1) ks
 big : ks ≠ [] → U.next + 2 ≤ S.next
 ex : ∃ lv rows, S.get (b0 + 1) = some (.cells (.list [lv]) false) ∧ SlC S 4 lv rows ∧ zW 4 rows ∧ KP HD (U.next + 2) S lv rows ((ks.take i).map (XL A)) ∧ ∀ k, k ∈ blk lv → U.next + 2 ≤ k
section
variable {E : Env} (hC : QE E) (hT : Jx E) (hE : Dy E) (hF : Kw E) (hW : R7 E) (hP : R9 E) {s s' : DS} {d : Nat} {t m clock : Nat} {M : TRs}
include hC hT hE hF hW hP
theorem Mz (hM : Zn M clock) {U S : DS} {b0 i : Nat} {k : Int} {tt : PT Value} (hGU : U.Good) (hGS : S.Good) (nU : U.next = b0 + 5) (wU : ∀ k, b0 ≤ k → U.wr k = true) (htl : t < b0) (hml : m < b0)
 (gp : U.get b0 = some (.cells (.list [.pointer (some ⟨t, 0, none⟩)]) false)) (go : U.get t = some (.cells (.list [.map (some m)]) false)) (gm : U.get m = some (.map (M.map trE) clock))
 (t1 : tt.get 1 = some (.pointer (some ⟨b0, 0, none⟩))) (t3 : tt.get 3 = some (.pointer (some ⟨b0 + 1, 0, none⟩)))
 (hx : (zL M)[i]? = some k) (hj : PkJ U b0 tt (Go.Dx.Tab.rowOf M) (zL M) i S) :
 W (dcall E (d + 10) (.func (.yield (b0 + 4)) #[] #[]) [.int .i64 k] S) fun r => (r.1 = .bool true ∧ PkJ U b0 tt (Go.Dx.Tab.rowOf M) (zL M) (i + 1) r.2) ∨ (r.1 = .bool false ∧ False) := by
 obtain ⟨X, gy, hks, hbig, lv, rows, gl, hsl, hok, hrr, hlb⟩ := hj
 have hne : zL M ≠ [] := fun e => by rw [e] at hx; simp at hx
 have hbig := hbig hne
 have hks := hks hne
 have hkm : k ∈ zL M := List.mem_of_getElem? hx
 have hsome := (Jo hM).1 hkm
 have hwS : ∀ k, b0 ≤ k → S.wr k = true := fun k hk => X.wrs (wU k hk)
 have gpS := X.keep gp (by simp)
 have goS := X.keep go (by simp; omega)
 have gmS := X.keep gm (by simp; omega)
 refine zr fun Q hQ => ?_
 refine ST gy rfl ?_
 simp only [sA, pv, Vk]
 refine CD gy (hwS _ (by omega)) ?_
 obtain ⟨Sb, hSb⟩ : ∃ Sb : DS, Sb = S.upd (b0 + 4) (.loop .busy .normal tt [14] Vk Qd) := ⟨_, rfl⟩
 have Xb : Ext [b0 + 4] S Sb := by rw [hSb]; exact Ext.upd (.inl (by simp))
 have gby : Sb.get (b0 + 4) = some (.loop .busy .normal tt [14] Vk Qd) := by rw [hSb, DS.upd_get_self, gy]; rfl
 have nb : Sb.next = S.next := by rw [hSb, DS.upd_next]
 show WC _ _ _ Qd ⟨_, S.upd (b0 + 4) (.loop .busy .normal tt [14] Vk Qd), []⟩ _
 rw [← hSb]
 clear hSb
 have hGb := Xb.good hGS
 have bp := Xb.keep gpS (by simp)
 have bo := Xb.keep goS (by simp; omega)
 have bm := Xb.keep gmS (by simp; omega)
 have bl := Xb.keep gl (by simp)
 have lp := DS.get_lt' bp
 have lo := DS.get_lt' bo
 have lm := DS.get_lt' bm
 have ll := DS.get_lt' bl
 have wb' : ∀ k, b0 ≤ k → Sb.wr k = true := fun k hk => Xb.wrs (hwS k hk)
 rcases Ws M k 0 with ⟨_, hno, _⟩ | ⟨j, x, hf, hj2, hk2, _⟩
 · rw [hno] at hsome; cases hsome
 have hxk : x.1.key = k := Yy hk2
 have hrow := hM.row x (List.mem_of_getElem? hj2)
 have hv : (trE x).val = .agg ⟨[.int .i64 x.1.num, .bool x.1.done, .int .i64 x.1.rep.c, .int .i64 x.1.rep.n, .bool x.1.rep.rej, .int .i64 x.1.rep.trap, .int .i64 x.1.rep.v, .int .i64 x.1.rep.gas]⟩ := rfl
 obtain ⟨T1, hT1⟩ : ∃ T1 : DS, T1 = (Sb.new (.cells (.list [.int .i64 0, .bool false, .int .i64 0, .int .i64 0, .bool false, .int .i64 0, .int .i64 0, .int .i64 0]) false)).upd Sb.next (.cells (.list [.int .i64 x.1.num, .bool x.1.done, .int .i64 x.1.rep.c, .int .i64 x.1.rep.n, .bool x.1.rep.rej, .int .i64 x.1.rep.trap, .int .i64 x.1.rep.v, .int .i64 x.1.rep.gas]) false) := ⟨_, rfl⟩
 have Z1 : Ext [] Sb T1 := by
  rw [hT1]
  exact (Ext.new (F := [])).trans (Ext.upd (F := [Sb.next]) (.inl (by simp))) (by simp)
 have G1 := Z1.good hGb
 have n1 : T1.next = Sb.next + 1 := by rw [hT1, DS.upd_next]; rfl
 have g1 : T1.get Sb.next = some (.cells (.list [.int .i64 x.1.num, .bool x.1.done, .int .i64 x.1.rep.c, .int .i64 x.1.rep.n, .bool x.1.rep.rej, .int .i64 x.1.rep.trap, .int .i64 x.1.rep.v, .int .i64 x.1.rep.gas]) false) := by rw [hT1, DS.upd_get_self, DS.new_get_self hGb]; rfl
 have l1 := DS.get_lt' g1
 obtain ⟨T2, hT2⟩ : ∃ T2 : DS, T2 = ((T1.new (.cells (.list [.int .i64 0, .int .i64 0, .bool false, .slice none 0 0]) false)).upd T1.next (.cells (.list [.int .i64 k, .int .i64 x.1.num, .bool false, .slice none 0 0]) false)).upd T1.next (.cells (.list [.int .i64 k, .int .i64 x.1.num, .bool x.1.done, .slice none 0 0]) false) := ⟨_, rfl⟩
 have Z2 : Ext [] T1 T2 := by
  rw [hT2]
  have a1 : Ext [] T1 (T1.new (.cells (.list [.int .i64 0, .int .i64 0, .bool false, .slice none 0 0]) false)) := Ext.new
  have a2 : ∀ (S : DS) o, Ext [T1.next] S (S.upd T1.next o) := fun S o => Ext.upd (.inl (by simp))
  exact a1.trans ((a2 _ _).trans' (a2 _ _)) (by simp)
 have G2 := Z2.good G1
 have n2 : T2.next = T1.next + 1 := by rw [hT2, DS.upd_next, DS.upd_next]; rfl
 have g2 : T2.get T1.next = some (.cells (.list [.int .i64 k, .int .i64 x.1.num, .bool x.1.done, .slice none 0 0]) false) := by rw [hT2, DS.upd_get_self, DS.upd_get_self, DS.new_get_self G1]; rfl
 have g12 := Z2.keep g1 (by simp)
 simp (maxDischargeDepth := 8) only [sA, sM, zb, zo, Cells.get, getN, Nat.reduceAdd, allOne, ze, Nat.reduceLeDiff, DS.wrC, Cells.size, Cells.fillFrom, Cells.set, zk, zg, pp, pv, Nat.reduceLT, Qd, t1, t3, hGb, bp, bo, bm, bl, lp, lo, lm, ll, isKey, hf, hv, ← hT1, g1, l1, G1, ← hT2, g2, g12]
 have hlen : (XK x.1).2.2 = if x.1.done = true then encR x.1.rep else [] := rfl
 cases hd : x.1.done with
 | false =>
  rw [hd] at g2 g12 hlen
  obtain ⟨S5, hS5⟩ : ∃ S5 : DS, S5 = T2 := ⟨_, rfl⟩
  have Y5 : Ext [T1.next] T2 S5 := by rw [hS5]; exact .refl
  obtain ⟨wb, wn, wc, hwE⟩ : ∃ wb wn wc, Value.slice wb wn wc = .slice none 0 0 := ⟨_, _, _, rfl⟩
  have g5 : S5.get T1.next = some (.cells (.list [.int .i64 k, .int .i64 x.1.num, .bool x.1.done, .slice wb wn wc]) false) := by rw [hS5, hwE, hd]; exact g2
  have hw5 : SlV S5 1 (.slice wb wn wc) (zC (XK x.1).2.2) := by rw [hwE, hlen]; exact .inl ⟨rfl, rfl⟩
  have hb5 : ∀ k, k ∈ blk (.slice wb wn wc) → T2.next ≤ k ∧ k < S5.next := by rw [hwE]; exact fun k hk => nomatch hk
  simp only [sA, Nat.reduceEqDiff, Cells.get, t1, t3]
  rw [← hS5]
  have X5b : Ext [] Sb S5 := (Z1.trans' Z2).trans Y5 (by simp; omega)
  have G5 := X5b.good hGb
  have bl5 := X5b.keep bl (by simp)
  have by5 := X5b.keep gby (by simp)
  have hld5 : ldA 4 (.pointer (some ⟨T1.next, 0, none⟩)) S5 = some (.agg ⟨[.int .i64 k, .int .i64 x.1.num, .bool x.1.done, .slice wb wn wc]⟩) := by
   simp only [ldA, DS.read, g5]
   rfl
  simp (maxDischargeDepth := 8) only [sA, sM, getN, Nat.reduceAdd, Nat.reduceLeDiff, zg, repeatZ, Nat.reduceMul, Nat.reduceLT, t1, t3, bl5, hld5, G5]
  obtain ⟨S6, hS6⟩ : ∃ S6 : DS, S6 = S5.new (.cells (.list [.int .i64 k, .int .i64 x.1.num, .bool x.1.done, .slice wb wn wc]) false) := ⟨_, rfl⟩
  rw [← hS6]
  have Z6 : ∀ F, Ext F S5 S6 := fun F => by rw [hS6]; exact Ext.new
  have g6 : S6.get S5.next = some (.cells (.list [.int .i64 k, .int .i64 x.1.num, .bool x.1.done, .slice wb wn wc]) false) := by rw [hS6]; exact DS.new_get_self G5
  have n6 : S6.next = S5.next + 1 := by rw [hS6]; rfl
  clear hS6
  have hw6 : SlV S6 4 (.slice (some ⟨S5.next, 0, none⟩) 1 1) [[.int .i64 k, .int .i64 x.1.num, .bool x.1.done, .slice wb wn wc]] := .inr ⟨S5.next, 0, none, 1, rfl, by unfold DS.read; rw [g6]; simp only [List.length_cons, List.length_nil, List.flatten_cons, List.flatten_nil, List.append_nil]; rfl⟩
  have ok1 : zW 4 [[.int .i64 k, .int .i64 x.1.num, .bool x.1.done, .slice wb wn wc]] := ⟨fun y hy => by rw [List.mem_singleton.1 hy]; rfl, fun y hy => by rw [List.mem_singleton.1 hy]; rfl⟩
  have hkl : (zL M).length ≤ 64 := by rw [Wj hM, List.length_map]; exact W1 _
  have hrl : rows.length ≤ 64 := by rw [hrr.len, List.length_map, List.length_take]; omega
  have bkS : ∀ k, k ∈ blk lv → k < S.next := fun k hk => hsl.lt k hk
  have XS5 : Ext [b0 + 4] S S5 := Xb.trans X5b (by simp)
  have le5 := XS5.le
  have leb := X5b.le
  refine W.mono (VB ((hsl.keep XS5 (fun k hk => by have := hlb k hk; simp; omega)).keep (Z6 []) (by simp)) hw6 hok ok1 ((Z6 []).good G5) (by simp; omega) (by simp; omega)) ?_
  rintro ⟨lv7, S7⟩ ⟨sk7, X7, b7, _⟩
  simp only at sk7 X7 b7
  have bl7 := X7.keep ((Z6 []).keep bl5 (by simp)) (fun h => by have := hlb _ h; omega)
  have by7 := X7.keep ((Z6 []).keep by5 (by simp)) (fun h => by have := hlb _ h; omega)
  have w7 : ∀ k, b0 ≤ k → S7.wr k = true := fun k hk => X7.wrs ((Z6 []).wrs (X5b.wrs (wb' k hk)))
  have le7 := X7.le
  obtain ⟨a7, c7, hlv7⟩ := sk7.shape
  have hcl7 : lv7.cells.toList = [lv7] := by rw [hlv7]; rfl
  have hal7 : allOne [lv7] = true := by rw [hlv7]; rfl
  simp only [sA, Nat.reduceEqDiff, DS.wrC, Cells.size, Cells.fillFrom, Cells.set, zk, t1, t3, bl7, w7 (b0 + 1) (Nat.le_succ _), hcl7, hal7]
  obtain ⟨S8, hS8⟩ : ∃ S8 : DS, S8 = S7.upd (b0 + 1) (.cells (.list [lv7]) false) := ⟨_, rfl⟩
  rw [← hS8]
  have X8 : Ext [b0 + 1] S7 S8 := by rw [hS8]; exact Ext.upd (.inl (by simp))
  have g8 : S8.get (b0 + 1) = some (.cells (.list [lv7]) false) := by rw [hS8, DS.upd_get_self, bl7]; rfl
  clear hS8
  have gy8 := X8.keep by7 (by simp)
  refine Gz gy8 (X8.wrs (w7 _ (by omega))) ?_
  show Q (.bool true, S8.upd (b0 + 4) (.loop .ready .normal tt [14] Vk Qd))
  obtain ⟨S9, hS9⟩ : ∃ S9 : DS, S9 = S8.upd (b0 + 4) (.loop .ready .normal tt [14] Vk Qd) := ⟨_, rfl⟩
  rw [← hS9]
  have X9 : Ext [b0 + 4] S8 S9 := by rw [hS9]; exact Ext.upd (.inl (by simp))
  have g9 : S9.get (b0 + 4) = some (.loop .ready .normal tt [14] Vk Qd) := by rw [hS9, DS.upd_get_self, gy8]; rfl
  clear hS9
  have le8 := X8.le
  have le9 := X9.le
  have nT : S.next ≤ T2.next := by omega
  have hb4 : ∀ k, k < S6.next → k ∉ blk lv → k ∉ blk lv7 := fun k k1 k2 hk => by
   rcases b7 k hk with h | h
   · exact k2 h
   · omega
  have hb7 : ∀ k, k ∈ blk lv7 → U.next + 2 ≤ k := fun k hk => by
   rcases b7 k hk with h | h
   · exact hlb k h
   · omega
  refine hQ _ (.inl ⟨rfl, ⟨?_, g9, fun _ => ?_, fun _ => ?_, lv7, _, X9.keep g8 (by simp), ?_, hok.append ok1, ?_, hb7⟩⟩)
  · exact ((((X.trans' (XS5.weaken (by simp))).trans' (Z6 _)).trans X7 (fun k hk => .inr (by have := hlb k hk; omega))).trans' (X8.weaken (by simp))).trans' (X9.weaken (by simp))
  · exact X9.keep (X8.keep (X7.keep ((Z6 []).keep (XS5.keep hks (by simp; omega)) (by simp)) (fun h => by have := hlb _ h; omega)) (by simp; omega)) (by simp; omega)
  · show U.next + 2 ≤ S9.next
    omega
  · exact (sk7.keep X8 (fun k hk => by have := hb7 k hk; simp; omega)).keep X9 (fun k hk => by have := hb7 k hk; simp; omega)
  · have h3 := hrr.step (s' := S6) (lv' := lv) XH (fun k k1 k2 _ => ((Z6 []).get k (by omega) (by simp)).trans (XS5.get k k2 (by simp; omega))) (by omega) (fun k _ h => h)
    have h4 := h3.step (s' := S7) (lv' := lv7) XH (fun k k1 k2 k3 => X7.get k k2 k3) le7 hb4
    have hfl : ([.int .i64 k, .int .i64 x.1.num, .bool x.1.done, .slice wb wn wc] : List Value).flatMap blk = blk (.slice wb wn wc) := by simp [blk]
    have h5 := h4.snoc (row := [.int .i64 k, .int .i64 x.1.num, .bool x.1.done, .slice wb wn wc]) (x := XK x.1) ⟨wb, wn, wc, by rw [← hxk]; rfl, hw5.of fun k hk => (X7.get k (by have := hb5 k hk; omega) (fun h => by have := hb5 k hk; have := bkS k h; omega)).trans ((Z6 []).get k (hb5 k hk).2 (by simp))⟩ (by
     rw [hfl]
     intro k hk
     have h1 := hb5 k hk
     exact ⟨hb4 k (by omega) (fun h => by have := bkS k h; omega), by omega, by omega⟩)
    have hl : (((zL M).take (i + 1)).map (XL (Go.Dx.Tab.rowOf M))) = ((zL M).take i).map (XL (Go.Dx.Tab.rowOf M)) ++ [XK x.1] := by
     rw [List.take_add_one, hx, List.map_append]
     simp only [Option.toList, z4, z5, XL, hk2]
    rw [hl]
    exact h5.step (s' := S9) (lv' := lv7) XH (fun k k1 k2 _ => (X9.get k (by omega) (by simp; omega)).trans (X8.get k k2 (by simp; omega))) (by omega) (fun k _ h => h)
 | true =>
  rw [hd] at g2 g12 hlen
  have hld : ldA 6 (.pointer (some ⟨Sb.next, 2, none⟩)) T2 = some (.agg ⟨x.1.rep.cells⟩) := by
   simp only [ldA, DS.read, g12]
   rfl
  simp (maxDischargeDepth := 8) only [sA, sM, zb, Nat.reduceLT, hld]
  refine W.mono (TE hC hT hE (d := d) G2 x.1.rep (hrow.done hd).1) ?_
  rintro ⟨v4, s4⟩ ⟨w, h4, h6, ⟨wa, h7, _⟩, h8, X4⟩
  simp only at h4 h6 h8 X4
  subst h4
  subst h7
  have g24 := X4.keep g2 (by simp)
  have w24 : s4.wr T1.next = true := X4.wrs (Z2.wrs (G1 _ (Nat.le_refl _)).2)
  simp only [sA, zb, Nat.reduceEqDiff, Cells.get, getN, Nat.reduceAdd, allOne, ze, DS.wrC, Cells.size, Cells.fillFrom, Cells.set, zk, t1, t3, g24, w24]
  obtain ⟨S5, hS5⟩ : ∃ S5 : DS, S5 = s4.upd T1.next (.cells (.list [.int .i64 k, .int .i64 x.1.num, .bool true, .slice wa (encR x.1.rep).length (encR x.1.rep).length]) false) := ⟨_, rfl⟩
  rw [← hS5]
  have Y5' : Ext [T1.next] s4 S5 := by rw [hS5]; exact Ext.upd (.inl (by simp))
  have Y5 : Ext [T1.next] T2 S5 := (X4.weaken (by simp)).trans' Y5'
  obtain ⟨wb, wn, wc, hwE⟩ : ∃ wb wn wc, Value.slice wb wn wc = .slice wa (encR x.1.rep).length (encR x.1.rep).length := ⟨_, _, _, rfl⟩
  have g5 : S5.get T1.next = some (.cells (.list [.int .i64 k, .int .i64 x.1.num, .bool x.1.done, .slice wb wn wc]) false) := by rw [hS5, DS.upd_get_self, g24, hwE, hd]; rfl
  have hw5 : SlV S5 1 (.slice wb wn wc) (zC (XK x.1).2.2) := by
   rw [hwE, hlen, if_pos rfl]
   exact h6.of fun k hk => Y5'.get k (h8 k hk).2 (by have := (h8 k hk).1; simp; omega)
  have hb5 : ∀ k, k ∈ blk (.slice wb wn wc) → T2.next ≤ k ∧ k < S5.next := by
   rw [hwE]
   exact fun k hk => ⟨(h8 k hk).1, Nat.lt_of_lt_of_le (h8 k hk).2 Y5'.le⟩
  have X5b : Ext [] Sb S5 := (Z1.trans' Z2).trans Y5 (by simp; omega)
  have G5 := X5b.good hGb
  have bl5 := X5b.keep bl (by simp)
  have by5 := X5b.keep gby (by simp)
  have hld5 : ldA 4 (.pointer (some ⟨T1.next, 0, none⟩)) S5 = some (.agg ⟨[.int .i64 k, .int .i64 x.1.num, .bool x.1.done, .slice wb wn wc]⟩) := by
   simp only [ldA, DS.read, g5]
   rfl
  simp (maxDischargeDepth := 8) only [sA, sM, getN, Nat.reduceAdd, Nat.reduceLeDiff, zg, repeatZ, Nat.reduceMul, Nat.reduceLT, t1, t3, bl5, hld5, G5]
  obtain ⟨S6, hS6⟩ : ∃ S6 : DS, S6 = S5.new (.cells (.list [.int .i64 k, .int .i64 x.1.num, .bool x.1.done, .slice wb wn wc]) false) := ⟨_, rfl⟩
  rw [← hS6]
  have Z6 : ∀ F, Ext F S5 S6 := fun F => by rw [hS6]; exact Ext.new
  have g6 : S6.get S5.next = some (.cells (.list [.int .i64 k, .int .i64 x.1.num, .bool x.1.done, .slice wb wn wc]) false) := by rw [hS6]; exact DS.new_get_self G5
  have n6 : S6.next = S5.next + 1 := by rw [hS6]; rfl
  clear hS6
  have hw6 : SlV S6 4 (.slice (some ⟨S5.next, 0, none⟩) 1 1) [[.int .i64 k, .int .i64 x.1.num, .bool x.1.done, .slice wb wn wc]] := .inr ⟨S5.next, 0, none, 1, rfl, by unfold DS.read; rw [g6]; simp only [List.length_cons, List.length_nil, List.flatten_cons, List.flatten_nil, List.append_nil]; rfl⟩
  have ok1 : zW 4 [[.int .i64 k, .int .i64 x.1.num, .bool x.1.done, .slice wb wn wc]] := ⟨fun y hy => by rw [List.mem_singleton.1 hy]; rfl, fun y hy => by rw [List.mem_singleton.1 hy]; rfl⟩
  have hkl : (zL M).length ≤ 64 := by rw [Wj hM, List.length_map]; exact W1 _
  have hrl : rows.length ≤ 64 := by rw [hrr.len, List.length_map, List.length_take]; omega
  have bkS : ∀ k, k ∈ blk lv → k < S.next := fun k hk => hsl.lt k hk
  have XS5 : Ext [b0 + 4] S S5 := Xb.trans X5b (by simp)
  have le5 := XS5.le
  have leb := X5b.le
  refine W.mono (VB ((hsl.keep XS5 (fun k hk => by have := hlb k hk; simp; omega)).keep (Z6 []) (by simp)) hw6 hok ok1 ((Z6 []).good G5) (by simp; omega) (by simp; omega)) ?_
  rintro ⟨lv7, S7⟩ ⟨sk7, X7, b7, _⟩
  simp only at sk7 X7 b7
  have bl7 := X7.keep ((Z6 []).keep bl5 (by simp)) (fun h => by have := hlb _ h; omega)
  have by7 := X7.keep ((Z6 []).keep by5 (by simp)) (fun h => by have := hlb _ h; omega)
  have w7 : ∀ k, b0 ≤ k → S7.wr k = true := fun k hk => X7.wrs ((Z6 []).wrs (X5b.wrs (wb' k hk)))
  have le7 := X7.le
  obtain ⟨a7, c7, hlv7⟩ := sk7.shape
  have hcl7 : lv7.cells.toList = [lv7] := by rw [hlv7]; rfl
  have hal7 : allOne [lv7] = true := by rw [hlv7]; rfl
  simp only [sA, Nat.reduceEqDiff, DS.wrC, Cells.size, Cells.fillFrom, Cells.set, zk, t1, t3, bl7, w7 (b0 + 1) (Nat.le_succ _), hcl7, hal7]
  obtain ⟨S8, hS8⟩ : ∃ S8 : DS, S8 = S7.upd (b0 + 1) (.cells (.list [lv7]) false) := ⟨_, rfl⟩
  rw [← hS8]
  have X8 : Ext [b0 + 1] S7 S8 := by rw [hS8]; exact Ext.upd (.inl (by simp))
  have g8 : S8.get (b0 + 1) = some (.cells (.list [lv7]) false) := by rw [hS8, DS.upd_get_self, bl7]; rfl
  clear hS8
  have gy8 := X8.keep by7 (by simp)
  refine Gz gy8 (X8.wrs (w7 _ (by omega))) ?_
  show Q (.bool true, S8.upd (b0 + 4) (.loop .ready .normal tt [14] Vk Qd))
  obtain ⟨S9, hS9⟩ : ∃ S9 : DS, S9 = S8.upd (b0 + 4) (.loop .ready .normal tt [14] Vk Qd) := ⟨_, rfl⟩
  rw [← hS9]
  have X9 : Ext [b0 + 4] S8 S9 := by rw [hS9]; exact Ext.upd (.inl (by simp))
  have g9 : S9.get (b0 + 4) = some (.loop .ready .normal tt [14] Vk Qd) := by rw [hS9, DS.upd_get_self, gy8]; rfl
  clear hS9
  have le8 := X8.le
  have le9 := X9.le
  have nT : S.next ≤ T2.next := by omega
  have hb4 : ∀ k, k < S6.next → k ∉ blk lv → k ∉ blk lv7 := fun k k1 k2 hk => by
   rcases b7 k hk with h | h
   · exact k2 h
   · omega
  have hb7 : ∀ k, k ∈ blk lv7 → U.next + 2 ≤ k := fun k hk => by
   rcases b7 k hk with h | h
   · exact hlb k h
   · omega
  refine hQ _ (.inl ⟨rfl, ⟨?_, g9, fun _ => ?_, fun _ => ?_, lv7, _, X9.keep g8 (by simp), ?_, hok.append ok1, ?_, hb7⟩⟩)
  · exact ((((X.trans' (XS5.weaken (by simp))).trans' (Z6 _)).trans X7 (fun k hk => .inr (by have := hlb k hk; omega))).trans' (X8.weaken (by simp))).trans' (X9.weaken (by simp))
  · exact X9.keep (X8.keep (X7.keep ((Z6 []).keep (XS5.keep hks (by simp; omega)) (by simp)) (fun h => by have := hlb _ h; omega)) (by simp; omega)) (by simp; omega)
  · show U.next + 2 ≤ S9.next
    omega
  · exact (sk7.keep X8 (fun k hk => by have := hb7 k hk; simp; omega)).keep X9 (fun k hk => by have := hb7 k hk; simp; omega)
  · have h3 := hrr.step (s' := S6) (lv' := lv) XH (fun k k1 k2 _ => ((Z6 []).get k (by omega) (by simp)).trans (XS5.get k k2 (by simp; omega))) (by omega) (fun k _ h => h)
    have h4 := h3.step (s' := S7) (lv' := lv7) XH (fun k k1 k2 k3 => X7.get k k2 k3) le7 hb4
    have hfl : ([.int .i64 k, .int .i64 x.1.num, .bool x.1.done, .slice wb wn wc] : List Value).flatMap blk = blk (.slice wb wn wc) := by simp [blk]
    have h5 := h4.snoc (row := [.int .i64 k, .int .i64 x.1.num, .bool x.1.done, .slice wb wn wc]) (x := XK x.1) ⟨wb, wn, wc, by rw [← hxk]; rfl, hw5.of fun k hk => (X7.get k (by have := hb5 k hk; omega) (fun h => by have := hb5 k hk; have := bkS k h; omega)).trans ((Z6 []).get k (hb5 k hk).2 (by simp))⟩ (by
     rw [hfl]
     intro k hk
     have h1 := hb5 k hk
     exact ⟨hb4 k (by omega) (fun h => by have := bkS k h; omega), by omega, by omega⟩)
    have hl : (((zL M).take (i + 1)).map (XL (Go.Dx.Tab.rowOf M))) = ((zL M).take i).map (XL (Go.Dx.Tab.rowOf M)) ++ [XK x.1] := by
     rw [List.take_add_one, hx, List.map_append]
     simp only [Option.toList, z4, z5, XL, hk2]
    rw [hl]
    exact h5.step (s' := S9) (lv' := lv7) XH (fun k k1 k2 _ => (X9.get k (by omega) (by simp; omega)).trans (X8.get k k2 (by simp; omega))) (by omega) (fun k _ h => h)
theorem Jf (hM : Zn M clock) (c : TabAt s t m M clock) (hG : s.Good) :
 W (dcall E (d + 12) (.func (.func 9) #[] #[]) [.pointer (some ⟨t, 0, none⟩)] s) fun r => SlV r.2 1 r.1 (zC (Yk (Go.Dx.Tab.rowOf M))) ∧ (∃ a, r.1 = .slice a (Yk (Go.Dx.Tab.rowOf M)).length (Yk (Go.Dx.Tab.rowOf M)).length ∧ ∀ z, a = some z → z.spot = none) ∧ (∀ k, k ∈ blk r.1 → s.next ≤ k ∧ k < r.2.next) ∧ Ext [] s r.2 := by
 have hlf := hC.lf
 have gp := c.go
 have gm := c.gm
 have hpl := DS.get_lt' gp
 have hml := DS.get_lt' gm
 refine zr fun Q hQ => ?_
 rw [zh hP.ipack hP.fpack rfl]
 obtain ⟨S1, hS1⟩ : ∃ S1 : DS, S1 = s.new (.cells (.list [.pointer (some ⟨t, 0, none⟩)]) false) := ⟨_, rfl⟩
 have X1 : Ext [] s S1 := by rw [hS1]; exact Ext.new
 have g1 : S1.get s.next = some (.cells (.list [.pointer (some ⟨t, 0, none⟩)]) false) := by rw [hS1]; exact DS.new_get_self hG
 have n1 : S1.next = s.next + 1 := by rw [hS1]; rfl
 have hG1 := X1.good hG
 have hm1 := YS hT (X1.keep gp (by simp)) (d := d + 10)
 simp only [sA, zb, Nat.reduceEqDiff, Cells.get, getN, pp, pv, d9, ← hS1, g1, hm1]
 obtain ⟨S2, hS2⟩ : ∃ S2 : DS, S2 = S1.new (.cells (.list [.slice none 0 0]) false) := ⟨_, rfl⟩
 rw [← hS2]
 have X2 : Ext [] S1 S2 := by rw [hS2]; exact Ext.new
 have g2 : S2.get S1.next = some (.cells (.list [.slice none 0 0]) false) := by rw [hS2]; exact DS.new_get_self hG1
 have n2 : S2.next = s.next + 2 := by rw [hS2]; show S1.next + 1 = _; omega
 have g12 := X2.keep g1 (by simp)
 have hG2 := X2.good hG1
 rw [n1] at g2 ⊢
 clear hS2
 have hcl := JO hT hP (d := d + 10) (t := t) hG2
 simp only [sA, getN, g12, hcl]
 refine LE (by simp only [sA]; rfl) ?_
 generalize hO : Ge _ _ _ _ = O
 obtain ⟨tt, hO2, tt1, tt3⟩ : ∃ tt, O = Ge tt [14] Vk Qd ∧ tt.get 1 = some (.pointer (some ⟨s.next, 0, none⟩)) ∧ tt.get 3 = some (.pointer (some ⟨s.next + 1, 0, none⟩)) := ⟨_, hO.symm, by simp only [sA, Nat.reduceEqDiff], by simp only [sA, Nat.reduceEqDiff]⟩
 obtain ⟨S3, hS3⟩ : ∃ S3 : DS, S3 = S2.new (.cells (.list [.pointer (some ⟨t, 0, none⟩)]) false) := ⟨_, rfl⟩
 rw [← hS3]
 have X3 : Ext [] S2 S3 := by rw [hS3]; exact Ext.new
 have g3 : S3.get S2.next = some (.cells (.list [.pointer (some ⟨t, 0, none⟩)]) false) := by rw [hS3]; exact DS.new_get_self hG2
 have n3 : S3.next = s.next + 3 := by rw [hS3]; show S2.next + 1 = _; omega
 have hG3 := X3.good hG2
 clear hS3
 rw [n2] at g3 ⊢
 obtain ⟨U, hU⟩ : ∃ U : DS, U = (S3.new .dfr).new O := ⟨_, rfl⟩
 rw [← hU]
 have XU : Ext [] S3 U := by rw [hU]; exact Ext.new.trans' Ext.new
 have gy : U.get (s.next + 4) = some O := by rw [hU]; simp (maxDischargeDepth := 8) only [sM, Nat.reduceAdd, zU, hG3, n3]
 have gd : U.get (s.next + 3) = some .dfr := by rw [hU]; simp (maxDischargeDepth := 8) only [sM, Nat.reduceAdd, zU, hG3, n3]
 have nU : U.next = s.next + 5 := by rw [hU]; simp (maxDischargeDepth := 8) only [Nat.reduceAdd, zU, Nat.add_assoc, n3]
 clear hU
 have X03 : Ext [] s S3 := X1.trans' (X2.trans' X3)
 have X0U : Ext [] s U := X03.trans' XU
 have hGU := X0U.good hG
 have wU : ∀ k, s.next ≤ k → U.wr k = true := fun k hk => X0U.wrs (hG k hk).2
 have gpU := X0U.keep gp (by simp)
 have gmU := X0U.keep gm (by simp)
 have g1U := (X3.trans' XU).keep g12 (by simp)
 have g3U := XU.keep g3 (by simp)
 have g2U := (X3.trans' XU).keep g2 (by simp)
 rw [n3]
 refine W.mono (SR hT hP (d := d + 9) (J := PkJ U s.next tt (Go.Dx.Tab.rowOf M) (zL M)) (Stop := fun _ => False) hM (by omega) hGU g3U gpU gmU (fun i S hj => hj.kat) (fun i k S hx hj => ?_) (fun S X hGS hks hbig => ?_)) ?_
 · exact Mz hC hT hE hF hW hP hM hGU (hj.X.good hGU) nU wU (by omega) (by omega) g1U gpU gmU tt1 tt3 hx hj
 · exact ⟨X.weaken (by simp), by rw [X.keep gy (by simp), hO2]; rfl, hks, hbig, _, [], X.keep g2U (by simp), SlC.nil, zW.nil, KP.nil, by simp [blk]⟩
 rintro ⟨v4, s4⟩ (hj | hf)
 case inr => exact absurd hf id
 obtain ⟨X4, gy4, _, _, lv, rows, gl4, hsl, hok, hrr, hlb⟩ := hj
 simp only at X4 gy4 gl4 hsl hrr
 have gd4 := X4.keep gd (by simp)
 have w4 : ∀ k, s.next ≤ k → s4.wr k = true := fun k hk => X4.wrs (wU k hk)
 refine CJ (gy4.trans rfl) (.inl rfl) (w4 _ (by omega)) ?_
 generalize hOE : DObj.loop .exhausted .normal _ _ _ _ = OE
 have X5 : Ext [s.next + 3 + 1] s4 (s4.upd (s.next + 3 + 1) OE) := Ext.upd (.inl (by simp))
 obtain ⟨S5, hS5⟩ : ∃ S5 : DS, S5 = s4.upd (s.next + 3 + 1) OE := ⟨_, rfl⟩
 rw [← hS5] at X5 ⊢
 clear hS5
 have g5 := X5.keep gl4 (by simp)
 have gd5 := X5.keep gd4 (by simp)
 have X05 : Ext [] s S5 := (X0U.trans X4 (by simp)).trans X5 (by simp; omega)
 have hG5 := X05.good hG
 have n5 : s.next + 5 ≤ S5.next := by have := X5.le; have := X4.le; omega
 simp only [sA, Nat.reduceEqDiff, Cells.get, getN, foot, g5]
 have hlb5 : ∀ k, k ∈ blk lv → k ∉ [s.next + 3 + 1] := fun k hk => by have := hlb k hk; simp; omega
 have hsl5 := hsl.keep X5 hlb5
 have hrr5 := hrr.step (s' := S5) (lv' := lv) XH (fun k k1 k2 _ => X5.get k k2 (by simp; omega)) X5.le (fun k _ h => h)
 have hln : ((zL M).take (zL M).length).map (XL (Go.Dx.Tab.rowOf M)) = Ys (Go.Dx.Tab.rowOf M) := by
  rw [List.take_length, Wj hM, List.map_map]
  rfl
 rw [hln] at hrr5
 refine W.masked (hE.fr _) (Pf hC hT hE hF hW (d := d + 8) (Zq hG5 fun k hk => ?_)) ?_
 · exact ⟨by (simp only [hidden, shielded, noteAt, zx, Bool.or_false, Bool.or_eq_false_iff, Bool.and_eq_false_iff, zD, zM, zH, true_and, and_true, true_or, or_true] <;> omega), by (simp only [hidden, shielded, noteAt, zx, Bool.or_false, Bool.or_eq_false_iff, Bool.and_eq_false_iff, zD, zM, zH, true_and, and_true, true_or, or_true] <;> omega)⟩
 rintro v6 s6 ⟨q6, X6⟩ df
 simp only at q6 X6
 have hhid : ∀ k, hidden [⟨[s.next + 1], S5.next, S5.next⟩] [0] k = false ∨ k = s.next + 1 := fun k => by
  by_cases h : k = s.next + 1
  · exact .inr h
  · exact .inl (by (simp only [hidden, shielded, noteAt, zx, Bool.or_false, Bool.or_eq_false_iff, Bool.and_eq_false_iff, zD, zM, zH, true_and, and_true, true_or, or_true] <;> omega))
 have hsame : ∀ k, k ≠ s.next + 1 → (unmask S5 s6).get k = s6.get k := fun k hk => Yn ((hhid k).resolve_right hk) X6
 have X6' := Ext.unmask' X6 df
 obtain ⟨S6, hS6⟩ : ∃ S6 : DS, S6 = unmask S5 s6 := ⟨_, rfl⟩
 have n6 : s6.next = S6.next := by rw [hS6]; rfl
 have q6' : ∃ m, zE E 7 m S6 v6 (DN 4 Fk) (fun xs => xs.length ≤ 4096 ∧ ∀ x, x ∈ xs → P1 x) JL := by
  obtain ⟨f, a, b, g, a', b', D, e1, e2, e3, e4⟩ := q6
  exact ⟨S5.next, f, a, b, g, a', b', D, e1, fun p hp => by rw [hS6]; exact (hsame _ (by have : S5.next ≤ p.1 := (e3 p hp).1; omega)).trans (e2 p hp), fun p hp => by rw [← n6]; exact e3 p hp, e4⟩
 rw [← hS6] at X6'
 have hG6 := X6'.good hG5
 have le6 := X6'.le
 have hsl6 := hsl5.keep X6' (by simp)
 have hrr6 := hrr5.step (s' := S6) (lv' := lv) XH (fun k k1 k2 _ => X6'.get k k2 (by simp)) X6'.le (fun k _ h => h)
 have hlvl := hsl6.lt
 simp only [sA, Nat.reduceEqDiff, foot, ← hS6, n6]
 have hrep : DN 4 Fk S6.next S6 lv (Ys (Go.Dx.Tab.rowOf M)) := by
  refine ⟨rows, hrr6.len, hok, ?_, fun i r x h1 h2 => ?_⟩
  · rcases hsl6.view hok with h | ⟨b, off, sp, c, h1, h2⟩
    · exact .inl h
    · exact .inr ⟨b, off, sp, c, h1, hlvl b (by rw [h1]; simp [blk]), h2⟩
  · obtain ⟨⟨wb, wn, wc, h3, h4⟩, h5⟩ := hrr6.at_ i r x h1 h2
    injection h3 with h3
    injection h3 with h3
    subst h3
    exact ⟨.agg ⟨[.int .i64 x.1.1, .int .i64 x.1.2]⟩, .agg ⟨[.bool x.2.1, .slice wb wn wc]⟩, rfl, ⟨.int .i64 x.1.1, .int .i64 x.1.2, rfl, rfl, rfl⟩, ⟨.bool x.2.1, .slice wb wn wc, rfl, rfl, h4, fun k hk => (h5 k (by simp [blk] at hk ⊢; exact hk)).2.2⟩⟩
 have hokL : (Ys (Go.Dx.Tab.rowOf M)).length ≤ 4096 ∧ ∀ x, x ∈ Ys (Go.Dx.Tab.rowOf M) → P1 x := by
  refine ⟨Nat.le_trans (Gf _) (by omega), fun x hx => ?_⟩
  obtain ⟨i, hi, rfl⟩ := List.mem_map.1 hx
  have hl := Kc (Go.Dx.Tab.rowOf M) (i : Int)
  obtain ⟨y, hy⟩ := Option.isSome_iff_exists.1 (List.mem_filter.1 hi).2
  obtain ⟨b, hb⟩ := Xj hy
  have hw := (hM.row _ hb).who
  have he : XL (Go.Dx.Tab.rowOf M) (i : Int) = XK y := by unfold XL; rw [hy]
  refine ⟨⟨.inr ?_, .inl rfl⟩, trivial, by omega⟩
  rw [he]
  exact ⟨hw.1, by have hw2 : y.key ≤ 63 := hw.2.1; show y.key ≤ 255; omega⟩
 refine W.mono (Ml hC (d := d + 2) hE hW hG6 q6' hrep hokL (Nat.le_trans (WZ _) (by omega))) ?_
 rintro ⟨v7, s7⟩ ⟨w, hv7, hw1, hw2, hw3, X7⟩
 simp only at hv7 hw1 hw3 X7
 subst hv7
 have gd7 := X7.keep (X6'.keep gd5 (by simp)) (by simp)
 have w7 := X7.wrs (X6'.wrs (X5.wrs (w4 (s.next + 3) (by omega))))
 simp only [sA, zb, Nat.reduceEqDiff, getN, foot]
 rw [FU gd7 w7]
 have hX : Ext [] s (s7.rid (s.next + 3)) := ((X05.trans' X6').trans' X7).trans (Ext.rid (F := [s.next + 3]) (.inl (by simp))) (by simp)
 simp only [sA, za, zd]
 refine hQ _ ⟨hw1.of fun k hk => ?_, hw2, fun k hk => ?_, hX⟩
 · have := (hw3 k hk).1
   exact DS.rid_get_ne (by omega)
 · have := hw3 k hk
   rw [DS.rid_next]
   omega
end
end Go.Dx.TbA
