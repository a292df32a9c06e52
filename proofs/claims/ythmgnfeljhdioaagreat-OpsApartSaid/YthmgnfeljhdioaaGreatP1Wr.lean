/- A part. -/
import Derived.Test.YthmgnfeljhdioaaGreatP1Ha
set_option linter.unusedVariables false
set_option linter.unusedSimpArgs false
set_option linter.unusedSectionVars false
set_option maxRecDepth 100000
set_option maxHeartbeats 4000000
namespace Go.Dx.TbA
open Go Go.Dx Go.Dx.Tab Go.Proofs.YthmgnfeljhdioaaGreat
structure Rr (E : Env) : Prop where
 fblob1 : E.fn 87 = some d87
 iblob1 : E.intr 87 = none
 fbLI1 : E.fn 92 = some d92
 ibLI1 : E.intr 92 = none
 fbBP1 : E.fn 85 = some d85
 ibBP1 : E.intr 85 = none
 fbQ1 : E.fn 80 = some d80
 ibQ1 : E.intr 80 = none
 fmanyI1 : E.fn 94 = some d94
 imanyI1 : E.intr 94 = none
 fqEncA : E.fn 25 = some d25
 iqEncA : E.intr 25 = none
 fqEncode : E.fn 7 = some d7
 iqEncode : E.intr 7 = none
def VI (o : Nat) (s : DS) (v : Value) (x : List Int) : Prop := SlI s v x ∧ ∀ k, k ∈ blk v → k < o
theorem Jp : Z2 VI := ⟨fun o s s' v x ⟨h1, h2⟩ hs => ⟨h1.of fun k hk => hs k (h2 k hk), h2⟩, fun o o' s v x ⟨h1, h2⟩ hs => ⟨h1, fun k hk => Nat.lt_of_lt_of_le (h2 k hk) hs⟩⟩
theorem VG : ∀ (o : Nat) (s : DS) (v : Value) (x : List Int), VI o s v x → ∃ b n c, v = .slice b n c := fun o s v x ⟨h1, _⟩ => by
 obtain ⟨a, c, e⟩ := h1.shape
 exact ⟨_, _, _, e⟩
def DH (o : Nat) (s : DS) (v : Value) (x : List Int) : Prop := SlV s 1 v (zH x) ∧ ∀ k, k ∈ blk v → k < o
theorem K1 : Z2 DH := ⟨fun o s s' v x ⟨h1, h2⟩ hs => ⟨h1.of fun k hk => hs k (h2 k hk), h2⟩, fun o o' s v x ⟨h1, h2⟩ hs => ⟨h1, fun k hk => Nat.lt_of_lt_of_le (h2 k hk) hs⟩⟩
theorem FD : ∀ (o : Nat) (s : DS) (v : Value) (x : List Int), DH o s v x → ∃ b n c, v = .slice b n c := fun o s v x ⟨h1, _⟩ => by
 rcases h1 with ⟨h, _⟩ | ⟨b, off, sp, c, h, _⟩
 · exact ⟨_, _, _, h⟩
 · exact ⟨_, _, _, h⟩
theorem CF {o : Nat} {s : DS} {v : Value} {x : List Int} (h : DH o s v x) : ∃ b c, v = .slice b x.length c := by
 rcases h.1 with ⟨e, h2⟩ | ⟨b, off, sp, c, e, _⟩
 · have : x = [] := by simpa [zH] using h2
   subst this
   exact ⟨none, 0, e⟩
 · rw [zG] at e
   exact ⟨_, _, e⟩
def DV (x : List Int) : List Int := leB (x.length : Int) 4 ++ x
section
variable {E : Env} (hC : Fu E) {s : DS} {d : Nat}
include hC
theorem Tr {c1 : Nat} {cp cg : Value} {n : Nat} {D : List (Nat × DObj)} (ha : ZJ E n cp D Jq (WR 4 65536) (fun x => leB x 4)) (hn : 1 ≤ n) (h1 : E.fn 87 = some d87) (i1 : E.intr 87 = none) :
 ZJ E (n + 1) (.func (.func 87) #[] #[.pointer (some ⟨c1, 0, none⟩)]) ((c1, .cells (.list [cp, cg]) false) :: D) DH (fun x => x.length ≤ 65536) DV := by
 intro d s o bv bs v x hD hb2 h hG hv hx hlen
 have g1 := hD _ (List.mem_cons_self ..)
 simp only at g1
 have hDf : Yp s D := hD.sub fun p hp => List.mem_cons_of_mem _ hp
 have lf : ∀ p, p ∈ D → p.1 < o := fun p hp => hb2 p (List.mem_cons_of_mem _ hp)
 have hol := DS.get_lt' h.go
 unfold DV at hlen ⊢
 simp only [List.length_append, zX] at hlen
 have hv0 := hv
 obtain ⟨b, c, rfl⟩ := CF hv
 refine Zz fun Q hQ => ?_
 obtain ⟨n, rfl⟩ : ∃ n', n = n' + 1 := ⟨n - 1, by omega⟩
 show W (dcall E ((d + n + 1) + 1) _ _ _) Q
 rw [YS i1 h1 rfl]
 simp only [sA, zc, Nat.reduceEqDiff, Cells.get, getN, reduceCtorEq, pp, pv, d87, g1]
 refine W.mono (ha d s o bv bs _ (x.length : Int) hDf lf h hG rfl (.inr ⟨by omega, by omega⟩) (by rw [zX]; omega)) ?_
 rintro ⟨v3, s3⟩ ⟨hv3, bv3, O3, X3, b3⟩
 simp only at hv3 O3 X3 b3
 subst hv3
 simp only [sA, Nat.reduceEqDiff, reduceCtorEq]
 refine W.mono (F1 hC (d := d + n) O3 (X3.good hG) ((K1.stab _ _ _ _ _ hv0 (XT h X3)).1) (by rw [List.length_append, zX]; omega)) ?_
 rintro ⟨v4, s4⟩ h4
 have hv4 := h4.val
 simp only at hv4
 subst hv4
 simp only [sA, ze, zh]
 refine hQ _ ?_
 rw [← List.append_assoc]
 exact Qb.next X3 b3 h4
theorem Fj {f1 f2 : Nat} {fp fg gp gg : Value} {α β : Type} {n : Nat} {Df Dg : List (Nat × DObj)} {Ra : Nat → DS → Value → α → Prop} {Rb : Nat → DS → Value → β → Prop} {Oka : α → Prop} {Okb : β → Prop} {ea : α → List Int} {eb : β → List Int}
 (ha : ZJ E n fp Df Ra Oka ea) (hb : ZJ E n gp Dg Rb Okb eb) (sa : Z2 Ra) (sb : Z2 Rb) (ca : ∀ o s v x, Ra o s v x → (∃ b n c, v = .slice b n c)) (cb : ∀ o s v x, Rb o s v x → (∃ n, v = .int .i64 n)) (hcode : E.fn 92 = some d92) (hintr : E.intr 92 = none) :
 ZJ E (n + 1) (.func (.func 92) #[] #[.pointer (some ⟨f1, 0, none⟩), .pointer (some ⟨f2, 0, none⟩)]) ((f1, .cells (.list [fp, fg]) false) :: (f2, .cells (.list [gp, gg]) false) :: (Df ++ Dg)) (XB Ra Rb) (fun x => Oka x.1 ∧ Okb x.2) (fun x => ea x.1 ++ eb x.2) := by
 intro d s o bv bs v x hD hb2 h hG hv hx hlen
 obtain ⟨a, b, rfl, hra, hrb⟩ := hv
 have g1 := hD _ (List.mem_cons_self ..)
 have g2 := hD (f2, _) (List.mem_cons_of_mem _ (List.mem_cons_self ..))
 have l1 := hb2 _ (List.mem_cons_self ..)
 have l2 := hb2 (f2, _) (List.mem_cons_of_mem _ (List.mem_cons_self ..))
 simp only at g1 g2 l1 l2
 have hDf : Yp s Df := hD.sub fun p hp => List.mem_cons_of_mem _ (List.mem_cons_of_mem _ (List.mem_append_left _ hp))
 have hDg : Yp s Dg := hD.sub fun p hp => List.mem_cons_of_mem _ (List.mem_cons_of_mem _ (List.mem_append_right _ hp))
 have lf : ∀ p, p ∈ Df → p.1 < o := fun p hp => hb2 p (List.mem_cons_of_mem _ (List.mem_cons_of_mem _ (List.mem_append_left _ hp)))
 have lg : ∀ p, p ∈ Dg → p.1 < o := fun p hp => hb2 p (List.mem_cons_of_mem _ (List.mem_cons_of_mem _ (List.mem_append_right _ hp)))
 have hol := DS.get_lt' h.go
 have l1s : f1 < s.next := Nat.lt_trans l1 hol
 have l2s : f2 < s.next := Nat.lt_trans l2 hol
 rw [List.length_append] at hlen
 have hca := ca _ _ _ _ hra
 have hcb := cb _ _ _ _ hrb
 refine Zz fun Q hQ => ?_
 show W (dcall E ((d + n) + 1) _ _ _) Q
 rw [YS hintr hcode rfl]
 obtain ⟨x1, x2, x3, rfl⟩ := hca
 obtain ⟨y1, rfl⟩ := hcb
 simp (maxDischargeDepth := 8) only [sA, sM, zc, Cells.get, getN, pp, pv, Nat.reduceLT, d92, g1, g2, hG, l1s, l2s]
 obtain ⟨S1, hS1⟩ : ∃ S1 : DS, S1 = s.new (.cells (.list [.slice x1 x2 x3, .int .i64 y1]) false) := ⟨_, rfl⟩
 rw [← hS1]
 have X1 : ∀ F, Ext F s S1 := fun F => by rw [hS1]; exact Ext.new
 have gS : S1.get s.next = some (.cells (.list [.slice x1 x2 x3, .int .i64 y1]) false) := by rw [hS1]; exact DS.new_get_self hG
 have Y1 : Same o s S1 := fun k hk => (X1 []).get k (Nat.lt_trans hk hol) (by simp)
 have O1 : XP S1 o bv bs := ⟨(X1 []).keep h.go (by simp), (X1 []).wrs h.wo, h.sl.keep (X1 []) (by simp), h.up, h.len⟩
 refine W.mono (ha d S1 o bv bs _ x.1 (hDf.keep (X1 []) (by simp)) lf O1 ((X1 []).good hG) (sa.stab _ _ _ _ _ hra Y1) hx.1 (by omega)) ?_
 rintro ⟨v2, s2⟩ ⟨hv2, bv2, O2, X2, b2⟩
 simp only at hv2 O2 X2 b2
 have Y2 := XT O1 X2
 have YY := Y1.trans Y2
 have gS2 := X2.keep gS (by
  simp only [List.mem_cons, not_or]
  exact ⟨by omega, fun hk => by have := h.sl.lt _ hk; omega⟩)
 have g22 := (YY f2 l2).trans g2
 simp only [sA, zc, Nat.reduceEqDiff, Cells.get, getN, reduceCtorEq, gS2, g22]
 refine W.mono (hb d s2 o bv2 (bs ++ ea x.1) _ x.2 (hDg.same lg YY) lg O2 (X2.good ((X1 []).good hG)) (sb.stab _ _ _ _ _ hrb YY) hx.2 (by rw [List.length_append]; omega)) ?_
 rintro ⟨v3, s3⟩ h3
 have hv3 := h3.val
 simp only at hv3
 subst hv3
 have X12 : Ext (o :: blk bv) s s2 := (X1 _).trans' X2
 have h4 := Qb.next X12 (fun k hk => by
  rcases b2 k hk with h | h
  · exact .inl h
  · exact .inr (Nat.le_trans (X1 []).le h)) h3
 simp only [sA, ze, zh]
 refine hQ _ ?_
 rw [← List.append_assoc]
 exact h4
theorem Fk {f1 f2 : Nat} {fp fg gp gg : Value} {α β : Type} {n : Nat} {Df Dg : List (Nat × DObj)} {Ra : Nat → DS → Value → α → Prop} {Rb : Nat → DS → Value → β → Prop} {Oka : α → Prop} {Okb : β → Prop} {ea : α → List Int} {eb : β → List Int}
 (ha : ZJ E n fp Df Ra Oka ea) (hb : ZJ E n gp Dg Rb Okb eb) (sa : Z2 Ra) (sb : Z2 Rb) (ca : ∀ o s v x, Ra o s v x → (∃ b n c, v = .slice b n c)) (cb : ∀ o s v x, Rb o s v x → (∃ b n c q, v = .agg ⟨[.slice b n c, .int .i64 q]⟩)) (hcode : E.fn 85 = some d85) (hintr : E.intr 85 = none) :
 ZJ E (n + 1) (.func (.func 85) #[] #[.pointer (some ⟨f1, 0, none⟩), .pointer (some ⟨f2, 0, none⟩)]) ((f1, .cells (.list [fp, fg]) false) :: (f2, .cells (.list [gp, gg]) false) :: (Df ++ Dg)) (XB Ra Rb) (fun x => Oka x.1 ∧ Okb x.2) (fun x => ea x.1 ++ eb x.2) := by
 intro d s o bv bs v x hD hb2 h hG hv hx hlen
 obtain ⟨a, b, rfl, hra, hrb⟩ := hv
 have g1 := hD _ (List.mem_cons_self ..)
 have g2 := hD (f2, _) (List.mem_cons_of_mem _ (List.mem_cons_self ..))
 have l1 := hb2 _ (List.mem_cons_self ..)
 have l2 := hb2 (f2, _) (List.mem_cons_of_mem _ (List.mem_cons_self ..))
 simp only at g1 g2 l1 l2
 have hDf : Yp s Df := hD.sub fun p hp => List.mem_cons_of_mem _ (List.mem_cons_of_mem _ (List.mem_append_left _ hp))
 have hDg : Yp s Dg := hD.sub fun p hp => List.mem_cons_of_mem _ (List.mem_cons_of_mem _ (List.mem_append_right _ hp))
 have lf : ∀ p, p ∈ Df → p.1 < o := fun p hp => hb2 p (List.mem_cons_of_mem _ (List.mem_cons_of_mem _ (List.mem_append_left _ hp)))
 have lg : ∀ p, p ∈ Dg → p.1 < o := fun p hp => hb2 p (List.mem_cons_of_mem _ (List.mem_cons_of_mem _ (List.mem_append_right _ hp)))
 have hol := DS.get_lt' h.go
 have l1s : f1 < s.next := Nat.lt_trans l1 hol
 have l2s : f2 < s.next := Nat.lt_trans l2 hol
 rw [List.length_append] at hlen
 have hca := ca _ _ _ _ hra
 have hcb := cb _ _ _ _ hrb
 refine Zz fun Q hQ => ?_
 show W (dcall E ((d + n) + 1) _ _ _) Q
 rw [YS hintr hcode rfl]
 obtain ⟨x1, x2, x3, rfl⟩ := hca
 obtain ⟨y1, y2, y3, y4, rfl⟩ := hcb
 simp (maxDischargeDepth := 8) only [sA, sM, zc, Cells.get, getN, pp, pv, Nat.reduceLT, d85, g1, g2, hG, l1s, l2s]
 obtain ⟨S1, hS1⟩ : ∃ S1 : DS, S1 = s.new (.cells (.list [.slice x1 x2 x3, .slice y1 y2 y3, .int .i64 y4]) false) := ⟨_, rfl⟩
 rw [← hS1]
 have X1 : ∀ F, Ext F s S1 := fun F => by rw [hS1]; exact Ext.new
 have gS : S1.get s.next = some (.cells (.list [.slice x1 x2 x3, .slice y1 y2 y3, .int .i64 y4]) false) := by rw [hS1]; exact DS.new_get_self hG
 have Y1 : Same o s S1 := fun k hk => (X1 []).get k (Nat.lt_trans hk hol) (by simp)
 have O1 : XP S1 o bv bs := ⟨(X1 []).keep h.go (by simp), (X1 []).wrs h.wo, h.sl.keep (X1 []) (by simp), h.up, h.len⟩
 refine W.mono (ha d S1 o bv bs _ x.1 (hDf.keep (X1 []) (by simp)) lf O1 ((X1 []).good hG) (sa.stab _ _ _ _ _ hra Y1) hx.1 (by omega)) ?_
 rintro ⟨v2, s2⟩ ⟨hv2, bv2, O2, X2, b2⟩
 simp only at hv2 O2 X2 b2
 have Y2 := XT O1 X2
 have YY := Y1.trans Y2
 have gS2 := X2.keep gS (by
  simp only [List.mem_cons, not_or]
  exact ⟨by omega, fun hk => by have := h.sl.lt _ hk; omega⟩)
 have g22 := (YY f2 l2).trans g2
 simp only [sA, zc, Nat.reduceEqDiff, Cells.get, getN, reduceCtorEq, ldA, DS.read, Cells.take, gS2, g22]
 refine W.mono (hb d s2 o bv2 (bs ++ ea x.1) _ x.2 (hDg.same lg YY) lg O2 (X2.good ((X1 []).good hG)) (sb.stab _ _ _ _ _ hrb YY) hx.2 (by rw [List.length_append]; omega)) ?_
 rintro ⟨v3, s3⟩ h3
 have hv3 := h3.val
 simp only at hv3
 subst hv3
 have X12 : Ext (o :: blk bv) s s2 := (X1 _).trans' X2
 have h4 := Qb.next X12 (fun k hk => by
  rcases b2 k hk with h | h
  · exact .inl h
  · exact .inr (Nat.le_trans (X1 []).le h)) h3
 simp only [sA, ze, zh]
 refine hQ _ ?_
 rw [← List.append_assoc]
 exact h4
theorem Fm {f1 f2 : Nat} {fp fg gp gg : Value} {α β : Type} {n : Nat} {Df Dg : List (Nat × DObj)} {Ra : Nat → DS → Value → α → Prop} {Rb : Nat → DS → Value → β → Prop} {Oka : α → Prop} {Okb : β → Prop} {ea : α → List Int} {eb : β → List Int}
 (ha : ZJ E n fp Df Ra Oka ea) (hb : ZJ E n gp Dg Rb Okb eb) (sa : Z2 Ra) (sb : Z2 Rb) (ca : ∀ o s v x, Ra o s v x → (∃ n1 n2, v = .agg ⟨[.int .i64 n1, .int .i64 n2]⟩)) (cb : ∀ o s v x, Rb o s v x → (∃ b n c b2 n2 c2 q, v = .agg ⟨[.slice b n c, .slice b2 n2 c2, .int .i64 q]⟩)) (hcode : E.fn 80 = some d80) (hintr : E.intr 80 = none) :
 ZJ E (n + 1) (.func (.func 80) #[] #[.pointer (some ⟨f1, 0, none⟩), .pointer (some ⟨f2, 0, none⟩)]) ((f1, .cells (.list [fp, fg]) false) :: (f2, .cells (.list [gp, gg]) false) :: (Df ++ Dg)) (XB Ra Rb) (fun x => Oka x.1 ∧ Okb x.2) (fun x => ea x.1 ++ eb x.2) := by
 intro d s o bv bs v x hD hb2 h hG hv hx hlen
 obtain ⟨a, b, rfl, hra, hrb⟩ := hv
 have g1 := hD _ (List.mem_cons_self ..)
 have g2 := hD (f2, _) (List.mem_cons_of_mem _ (List.mem_cons_self ..))
 have l1 := hb2 _ (List.mem_cons_self ..)
 have l2 := hb2 (f2, _) (List.mem_cons_of_mem _ (List.mem_cons_self ..))
 simp only at g1 g2 l1 l2
 have hDf : Yp s Df := hD.sub fun p hp => List.mem_cons_of_mem _ (List.mem_cons_of_mem _ (List.mem_append_left _ hp))
 have hDg : Yp s Dg := hD.sub fun p hp => List.mem_cons_of_mem _ (List.mem_cons_of_mem _ (List.mem_append_right _ hp))
 have lf : ∀ p, p ∈ Df → p.1 < o := fun p hp => hb2 p (List.mem_cons_of_mem _ (List.mem_cons_of_mem _ (List.mem_append_left _ hp)))
 have lg : ∀ p, p ∈ Dg → p.1 < o := fun p hp => hb2 p (List.mem_cons_of_mem _ (List.mem_cons_of_mem _ (List.mem_append_right _ hp)))
 have hol := DS.get_lt' h.go
 have l1s : f1 < s.next := Nat.lt_trans l1 hol
 have l2s : f2 < s.next := Nat.lt_trans l2 hol
 rw [List.length_append] at hlen
 have hca := ca _ _ _ _ hra
 have hcb := cb _ _ _ _ hrb
 refine Zz fun Q hQ => ?_
 show W (dcall E ((d + n) + 1) _ _ _) Q
 rw [YS hintr hcode rfl]
 obtain ⟨x1, x2, rfl⟩ := hca
 obtain ⟨y1, y2, y3, y4, y5, y6, y7, rfl⟩ := hcb
 simp (maxDischargeDepth := 8) only [sA, sM, zc, Cells.get, getN, pp, pv, ldA, DS.read, Cells.take, Nat.reduceLT, d80, g1, g2, hG, l1s, l2s]
 obtain ⟨S1, hS1⟩ : ∃ S1 : DS, S1 = s.new (.cells (.list [.int .i64 x1, .int .i64 x2, .slice y1 y2 y3, .slice y4 y5 y6, .int .i64 y7]) false) := ⟨_, rfl⟩
 rw [← hS1]
 have X1 : ∀ F, Ext F s S1 := fun F => by rw [hS1]; exact Ext.new
 have gS : S1.get s.next = some (.cells (.list [.int .i64 x1, .int .i64 x2, .slice y1 y2 y3, .slice y4 y5 y6, .int .i64 y7]) false) := by rw [hS1]; exact DS.new_get_self hG
 have Y1 : Same o s S1 := fun k hk => (X1 []).get k (Nat.lt_trans hk hol) (by simp)
 have O1 : XP S1 o bv bs := ⟨(X1 []).keep h.go (by simp), (X1 []).wrs h.wo, h.sl.keep (X1 []) (by simp), h.up, h.len⟩
 refine W.mono (ha d S1 o bv bs _ x.1 (hDf.keep (X1 []) (by simp)) lf O1 ((X1 []).good hG) (sa.stab _ _ _ _ _ hra Y1) hx.1 (by omega)) ?_
 rintro ⟨v2, s2⟩ ⟨hv2, bv2, O2, X2, b2⟩
 simp only at hv2 O2 X2 b2
 have Y2 := XT O1 X2
 have YY := Y1.trans Y2
 have gS2 := X2.keep gS (by
  simp only [List.mem_cons, not_or]
  exact ⟨by omega, fun hk => by have := h.sl.lt _ hk; omega⟩)
 have g22 := (YY f2 l2).trans g2
 simp only [sA, zc, Nat.reduceEqDiff, Cells.get, getN, reduceCtorEq, ldA, DS.read, Cells.take, gS2, g22]
 refine W.mono (hb d s2 o bv2 (bs ++ ea x.1) _ x.2 (hDg.same lg YY) lg O2 (X2.good ((X1 []).good hG)) (sb.stab _ _ _ _ _ hrb YY) hx.2 (by rw [List.length_append]; omega)) ?_
 rintro ⟨v3, s3⟩ h3
 have hv3 := h3.val
 simp only at hv3
 subst hv3
 have X12 : Ext (o :: blk bv) s s2 := (X1 _).trans' X2
 have h4 := Qb.next X12 (fun k hk => by
  rcases b2 k hk with h | h
  · exact .inl h
  · exact .inr (Nat.le_trans (X1 []).le h)) h3
 simp only [sA, ze, zh]
 refine hQ _ ?_
 rw [← List.append_assoc]
 exact h4
def WE {α : Type} (e : α → List Int) (xs : List α) : List Int := xs.flatMap e
structure SR (s0 : DS) (o c1 f1 : Nat) (bv v : Value) (bs : List Int) (e : Int → List Int) (xs : List Int) (n : Nat) (y : St) : Prop where
 ex : ∃ j : Nat, n = xs.length - j ∧ j ≤ xs.length ∧ y.defers = [] ∧ (y.t.get 0 = some (.pointer (some ⟨o, 0, none⟩)) ∧ y.t.get 1 = some v ∧ y.t.get 3 = some (.pointer (some ⟨f1, 0, none⟩)) ∧ y.t.get 6 = some (.int .i64 (j : Int))) ∧
  y.s.Good ∧ Qb s0 o bv (bs ++ WE e (xs.take j)) (.tuple #[], y.s)
theorem G4 {c1 f1 : Nat} {cp cg fp fg : Value} {n : Nat} {Dc Df : List (Nat × DObj)} {Ok : Int → Prop} {e : Int → List Int}
 (hc : ZJ E n cp Dc Jq (WR 2 4096) (fun x => leB x 2)) (hf : ZJ E n fp Df Jq Ok e) (hcode : E.fn 94 = some d94) (hintr : E.intr 94 = none) :
 ZJ E (n + 1) (.func (.func 94) #[] #[.pointer (some ⟨c1, 0, none⟩), .pointer (some ⟨f1, 0, none⟩)]) ((c1, .cells (.list [cp, cg]) false) :: (f1, .cells (.list [fp, fg]) false) :: (Dc ++ Df)) VI (fun xs => xs.length ≤ 4096 ∧ ∀ x, x ∈ xs → Ok x) (fun xs => leB xs.length 2 ++ WE e xs) := by
 intro d s o bv bs v xs hD hb2 h hG hv hx hlen
 have g1 := hD _ (List.mem_cons_self ..)
 have g2 := hD (f1, _) (List.mem_cons_of_mem _ (List.mem_cons_self ..))
 have l1 := hb2 _ (List.mem_cons_self ..)
 have l2 := hb2 (f1, _) (List.mem_cons_of_mem _ (List.mem_cons_self ..))
 simp only at g1 g2 l1 l2
 have hDc : Yp s Dc := hD.sub fun p hp => List.mem_cons_of_mem _ (List.mem_cons_of_mem _ (List.mem_append_left _ hp))
 have hDf : Yp s Df := hD.sub fun p hp => List.mem_cons_of_mem _ (List.mem_cons_of_mem _ (List.mem_append_right _ hp))
 have lc : ∀ p, p ∈ Dc → p.1 < o := fun p hp => hb2 p (List.mem_cons_of_mem _ (List.mem_cons_of_mem _ (List.mem_append_left _ hp)))
 have lf : ∀ p, p ∈ Df → p.1 < o := fun p hp => hb2 p (List.mem_cons_of_mem _ (List.mem_cons_of_mem _ (List.mem_append_right _ hp)))
 have hol := DS.get_lt' h.go
 have hlf := hC.lf
 have hvl := hv.1.shape
 obtain ⟨va, vc, hvv⟩ := hvl
 rw [List.length_append, zX] at hlen
 refine Zz fun Q hQ => ?_
 show W (dcall E ((d + n) + 1) _ _ _) Q
 rw [YS hintr hcode rfl]
 subst hvv
 simp only [sA, zc, Nat.reduceEqDiff, Cells.get, getN, reduceCtorEq, pp, pv, pw, pg, d94, g1]
 refine W.mono (hc d s o bv bs _ (xs.length : Int) hDc lc h hG rfl (.inr ⟨by omega, by omega⟩) (by rw [zX]; omega)) ?_
 rintro ⟨v2, s2⟩ h2
 have hv2 := h2.val
 simp only at hv2
 subst hv2
 simp only [sA]
 have hG2 : s2.Good := by obtain ⟨_, _, _, X, _⟩ := h2; exact X.good hG
 refine Q9 (SR s o c1 f1 bv (.slice va xs.length vc) (bs ++ leB xs.length 2) e xs) xs.length (by omega) ⟨0, rfl, Nat.zero_le _, rfl, ?_, hG2, by simpa [WE] using h2⟩ ?_
 · simp only [sA, Nat.reduceEqDiff, reduceCtorEq]
   rfl
 rintro m ⟨t, s3, ds⟩ hm ⟨j, rfl, hj, hds, ⟨g0, gv, g3, g6⟩, hG3, ⟨_, bv3, O3, X3, b3⟩⟩
 simp only at hds g0 gv g3 g6 hG3 O3 X3 b3
 subst hds
 have Y3 := XT h X3
 by_cases c2 : j < xs.length
 · have hx0 : xs[j]? = some xs[j] := List.getElem?_eq_getElem c2
   generalize xs[j] = x0 at hx0
   have hv3 := (Jp.stab _ _ _ _ _ hv Y3).1
   rcases hv3 with ⟨_, h9⟩ | ⟨b, sp, c, cc, ro, h8, k1, k2⟩
   · rw [h9] at c2; exact absurd c2 (by simp)
   cases h8
   have k2 := k2 j x0 hx0
   simp only [Cells.get] at k2
   have e1 : (j : Int) < (xs.length : Int) := by omega
   have go3 := O3.go
   have g23 := (Y3 f1 l2).trans g2
   have w1 : zv .i64 ((j : Int) + 1) = ((j + 1 : Nat) : Int) := by rw [ZY (by omega) (by omega)]; omega
   simp only [sA, zc, zy, zn, Nat.reduceEqDiff, Cells.get, getN, reduceCtorEq, g0, gv, g3, g6, e1, go3, c2, g23, k1, k2]
   have hcat : WE e (xs.take (j + 1)) = WE e (xs.take j) ++ e x0 := by
    unfold WE
    rw [List.take_add_one, List.flatMap_append]
    simp [hx0]
   have hle : (WE e (xs.take (j + 1))).length ≤ (WE e xs).length := by
    unfold WE
    have : xs = xs.take (j + 1) ++ xs.drop (j + 1) := (List.take_append_drop _ _).symm
    conv => rhs; rw [this, List.flatMap_append, List.length_append]
    exact Nat.le_add_right _ _
   refine W.mono (hf d s3 o bv3 _ _ x0 (hDf.same lf Y3) lf O3 hG3 rfl (hx.2 _ (List.mem_of_getElem? hx0)) ?_) ?_
   · rw [hcat] at hle
     simp only [List.length_append, zX] at hle ⊢
     omega
   rintro ⟨v4, s4⟩ h4
   have hv4 := h4.val
   simp only at hv4
   subst hv4
   have hG4 : s4.Good := by obtain ⟨_, _, _, X, _⟩ := h4; exact X.good hG3
   simp only [sA, zy, zn, Nat.reduceEqDiff, g0, gv, g3, g6, w1]
   refine ⟨xs.length - (j + 1), by omega, ⟨j + 1, rfl, by omega, rfl, by simp only [sA, Nat.reduceEqDiff, reduceCtorEq, g0, gv, g3, g6], hG4, ?_⟩⟩
   rw [hcat, ← List.append_assoc]
   exact Qb.next X3 b3 h4
 · obtain rfl : j = xs.length := by omega
   have e1 : ¬ (xs.length : Int) < (xs.length : Int) := by omega
   simp only [sA, zc, zy, zn, Nat.reduceEqDiff, ze, zh, g0, gv, g3, g6, e1]
   refine hQ _ ⟨rfl, ?_⟩
   rw [List.take_length, List.append_assoc] at O3
   exact ⟨bv3, O3, X3, b3⟩
end
section
variable {E : Env} (hC : Fu E) {s : DS} {d : Nat}
include hC
theorem Vi {α β : Type} {n m : Nat} (hm : m ≤ s.next) {va vb : Value} {Ra : Nat → DS → Value → α → Prop} {Rb : Nat → DS → Value → β → Prop} {Oka : α → Prop} {Okb : β → Prop} {ea : α → List Int} {eb : β → List Int}
 (hG : s.Good) (ha : zA E n m s va Ra Oka ea) (hb : zA E n m s vb Rb Okb eb) (hcode : E.fn 58 = some d58) (hintr : E.intr 58 = none)
 (hput : ∀ {f1 f2 : Nat} {fp fg gp gg : Value} {Df Dg : List (Nat × DObj)}, ZJ E n fp Df Ra Oka ea → ZJ E n gp Dg Rb Okb eb → ZJ E (n + 1) (.func (.func 92) #[] #[.pointer (some ⟨f1, 0, none⟩), .pointer (some ⟨f2, 0, none⟩)]) ((f1, .cells (.list [fp, fg]) false) :: (f2, .cells (.list [gp, gg]) false) :: (Df ++ Dg)) (XB Ra Rb) (fun x => Oka x.1 ∧ Okb x.2) (fun x => ea x.1 ++ eb x.2)) :
 W (dcall E (d + 1) (.func (.func 58) #[] #[]) [va, vb] s) fun r => zA E (n + 1) m r.2 r.1 (XB Ra Rb) (fun x => Oka x.1 ∧ Okb x.2) (fun x => ea x.1 ++ eb x.2) ∧ Ext [] s r.2 := by
 obtain ⟨f1, a1, b1, g1, p1, q1, D1, rfl, h2, h3, h4⟩ := ha
 obtain ⟨f2, a2, b2, g2, p2, q2, D2, rfl, k2, k3, k4⟩ := hb
 refine Zz fun Q hQ => ?_
 rw [zC hintr hcode rfl]
 simp (maxDischargeDepth := 8) only [sA, sM, zc, zi, zY, ze, zh, Cells.get, getN, Nat.reduceAdd, zm, zB, Nat.reduceLeDiff, DS.wrC, Cells.size, Cells.fillFrom, Cells.set, Zq, zq, pp, pv, pg, DS.read, Cells.take, Nat.reduceLT, d58, hG]
 have X : ∀ o1 o2 o3 o4, Ext [] s ((((s.new o1).new o2).new o3).upd (s.next + 2) o4) := fun _ _ _ _ => (Ext.new.trans' (Ext.new.trans' Ext.new)).trans (Ext.upd (F := [s.next + 2]) (.inl (by simp))) (by simp)
 refine hQ _ ⟨⟨_, _, _, _, _, _, _, rfl, ?_, ?_, hput (f1 := s.next) (f2 := s.next + 1) (fg := .func (.func g1) p1 q1) (gg := .func (.func g2) p2 q2) h4 k4⟩, X _ _ _ _⟩
 · intro p hp
   rcases List.mem_cons.1 hp with rfl | hp
   · simp (maxDischargeDepth := 8) only [sA, sM, Nat.reduceAdd, hG]
   · rcases List.mem_cons.1 hp with rfl | hp
     · simp (maxDischargeDepth := 8) only [sA, sM, Nat.reduceAdd, hG]
     · rcases List.mem_append.1 hp with hp | hp
       · exact (X _ _ _ _).keep (h2 p hp) (by simp)
       · exact (X _ _ _ _).keep (k2 p hp) (by simp)
 · intro p hp
   have hn : ∀ o1 o2 o3 o4, ((((s.new o1).new o2).new o3).upd (s.next + 2) o4).next = s.next + 3 := fun _ _ _ _ => by simp (maxDischargeDepth := 8) only [sA, Nat.reduceAdd, Nat.add_assoc]
   rw [hn]
   rcases List.mem_cons.1 hp with rfl | hp
   · show m ≤ s.next ∧ s.next < s.next + 3; omega
   · rcases List.mem_cons.1 hp with rfl | hp
     · show m ≤ s.next + 1 ∧ s.next + 1 < s.next + 3; omega
     · rcases List.mem_append.1 hp with hp | hp
       · have := h3 p hp; omega
       · have := k3 p hp; omega
theorem Vj {α β : Type} {n m : Nat} (hm : m ≤ s.next) {va vb : Value} {Ra : Nat → DS → Value → α → Prop} {Rb : Nat → DS → Value → β → Prop} {Oka : α → Prop} {Okb : β → Prop} {ea : α → List Int} {eb : β → List Int}
 (hG : s.Good) (ha : zA E n m s va Ra Oka ea) (hb : zA E n m s vb Rb Okb eb) (hcode : E.fn 56 = some d56) (hintr : E.intr 56 = none)
 (hput : ∀ {f1 f2 : Nat} {fp fg gp gg : Value} {Df Dg : List (Nat × DObj)}, ZJ E n fp Df Ra Oka ea → ZJ E n gp Dg Rb Okb eb → ZJ E (n + 1) (.func (.func 85) #[] #[.pointer (some ⟨f1, 0, none⟩), .pointer (some ⟨f2, 0, none⟩)]) ((f1, .cells (.list [fp, fg]) false) :: (f2, .cells (.list [gp, gg]) false) :: (Df ++ Dg)) (XB Ra Rb) (fun x => Oka x.1 ∧ Okb x.2) (fun x => ea x.1 ++ eb x.2)) :
 W (dcall E (d + 1) (.func (.func 56) #[] #[]) [va, vb] s) fun r => zA E (n + 1) m r.2 r.1 (XB Ra Rb) (fun x => Oka x.1 ∧ Okb x.2) (fun x => ea x.1 ++ eb x.2) ∧ Ext [] s r.2 := by
 obtain ⟨f1, a1, b1, g1, p1, q1, D1, rfl, h2, h3, h4⟩ := ha
 obtain ⟨f2, a2, b2, g2, p2, q2, D2, rfl, k2, k3, k4⟩ := hb
 refine Zz fun Q hQ => ?_
 rw [zC hintr hcode rfl]
 simp (maxDischargeDepth := 8) only [sA, sM, zc, zi, zY, ze, zh, Cells.get, getN, Nat.reduceAdd, zm, zB, Nat.reduceLeDiff, DS.wrC, Cells.size, Cells.fillFrom, Cells.set, Zq, zq, pp, pv, pg, DS.read, Cells.take, Nat.reduceLT, d56, hG]
 have X : ∀ o1 o2 o3 o4, Ext [] s ((((s.new o1).new o2).new o3).upd (s.next + 2) o4) := fun _ _ _ _ => (Ext.new.trans' (Ext.new.trans' Ext.new)).trans (Ext.upd (F := [s.next + 2]) (.inl (by simp))) (by simp)
 refine hQ _ ⟨⟨_, _, _, _, _, _, _, rfl, ?_, ?_, hput (f1 := s.next) (f2 := s.next + 1) (fg := .func (.func g1) p1 q1) (gg := .func (.func g2) p2 q2) h4 k4⟩, X _ _ _ _⟩
 · intro p hp
   rcases List.mem_cons.1 hp with rfl | hp
   · simp (maxDischargeDepth := 8) only [sA, sM, Nat.reduceAdd, hG]
   · rcases List.mem_cons.1 hp with rfl | hp
     · simp (maxDischargeDepth := 8) only [sA, sM, Nat.reduceAdd, hG]
     · rcases List.mem_append.1 hp with hp | hp
       · exact (X _ _ _ _).keep (h2 p hp) (by simp)
       · exact (X _ _ _ _).keep (k2 p hp) (by simp)
 · intro p hp
   have hn : ∀ o1 o2 o3 o4, ((((s.new o1).new o2).new o3).upd (s.next + 2) o4).next = s.next + 3 := fun _ _ _ _ => by simp (maxDischargeDepth := 8) only [sA, Nat.reduceAdd, Nat.add_assoc]
   rw [hn]
   rcases List.mem_cons.1 hp with rfl | hp
   · show m ≤ s.next ∧ s.next < s.next + 3; omega
   · rcases List.mem_cons.1 hp with rfl | hp
     · show m ≤ s.next + 1 ∧ s.next + 1 < s.next + 3; omega
     · rcases List.mem_append.1 hp with hp | hp
       · have := h3 p hp; omega
       · have := k3 p hp; omega
theorem Vl {α β : Type} {n m : Nat} (hm : m ≤ s.next) {va vb : Value} {Ra : Nat → DS → Value → α → Prop} {Rb : Nat → DS → Value → β → Prop} {Oka : α → Prop} {Okb : β → Prop} {ea : α → List Int} {eb : β → List Int}
 (hG : s.Good) (ha : zA E n m s va Ra Oka ea) (hb : zA E n m s vb Rb Okb eb) (hcode : E.fn 52 = some d52) (hintr : E.intr 52 = none)
 (hput : ∀ {f1 f2 : Nat} {fp fg gp gg : Value} {Df Dg : List (Nat × DObj)}, ZJ E n fp Df Ra Oka ea → ZJ E n gp Dg Rb Okb eb → ZJ E (n + 1) (.func (.func 80) #[] #[.pointer (some ⟨f1, 0, none⟩), .pointer (some ⟨f2, 0, none⟩)]) ((f1, .cells (.list [fp, fg]) false) :: (f2, .cells (.list [gp, gg]) false) :: (Df ++ Dg)) (XB Ra Rb) (fun x => Oka x.1 ∧ Okb x.2) (fun x => ea x.1 ++ eb x.2)) :
 W (dcall E (d + 1) (.func (.func 52) #[] #[]) [va, vb] s) fun r => zA E (n + 1) m r.2 r.1 (XB Ra Rb) (fun x => Oka x.1 ∧ Okb x.2) (fun x => ea x.1 ++ eb x.2) ∧ Ext [] s r.2 := by
 obtain ⟨f1, a1, b1, g1, p1, q1, D1, rfl, h2, h3, h4⟩ := ha
 obtain ⟨f2, a2, b2, g2, p2, q2, D2, rfl, k2, k3, k4⟩ := hb
 refine Zz fun Q hQ => ?_
 rw [zC hintr hcode rfl]
 simp (maxDischargeDepth := 8) only [sA, sM, zc, zi, zY, ze, zh, Cells.get, getN, Nat.reduceAdd, zm, zB, Nat.reduceLeDiff, DS.wrC, Cells.size, Cells.fillFrom, Cells.set, Zq, zq, pp, pv, pg, DS.read, Cells.take, Nat.reduceLT, d52, hG]
 have X : ∀ o1 o2 o3 o4, Ext [] s ((((s.new o1).new o2).new o3).upd (s.next + 2) o4) := fun _ _ _ _ => (Ext.new.trans' (Ext.new.trans' Ext.new)).trans (Ext.upd (F := [s.next + 2]) (.inl (by simp))) (by simp)
 refine hQ _ ⟨⟨_, _, _, _, _, _, _, rfl, ?_, ?_, hput (f1 := s.next) (f2 := s.next + 1) (fg := .func (.func g1) p1 q1) (gg := .func (.func g2) p2 q2) h4 k4⟩, X _ _ _ _⟩
 · intro p hp
   rcases List.mem_cons.1 hp with rfl | hp
   · simp (maxDischargeDepth := 8) only [sA, sM, Nat.reduceAdd, hG]
   · rcases List.mem_cons.1 hp with rfl | hp
     · simp (maxDischargeDepth := 8) only [sA, sM, Nat.reduceAdd, hG]
     · rcases List.mem_append.1 hp with hp | hp
       · exact (X _ _ _ _).keep (h2 p hp) (by simp)
       · exact (X _ _ _ _).keep (k2 p hp) (by simp)
 · intro p hp
   have hn : ∀ o1 o2 o3 o4, ((((s.new o1).new o2).new o3).upd (s.next + 2) o4).next = s.next + 3 := fun _ _ _ _ => by simp (maxDischargeDepth := 8) only [sA, Nat.reduceAdd, Nat.add_assoc]
   rw [hn]
   rcases List.mem_cons.1 hp with rfl | hp
   · show m ≤ s.next ∧ s.next < s.next + 3; omega
   · rcases List.mem_cons.1 hp with rfl | hp
     · show m ≤ s.next + 1 ∧ s.next + 1 < s.next + 3; omega
     · rcases List.mem_append.1 hp with hp | hp
       · have := h3 p hp; omega
       · have := k3 p hp; omega
theorem K8 {n m : Nat} (hm : m ≤ s.next) {v : Value} {Ok : Int → Prop} {e : Int → List Int}
 (hG : s.Good) (ha : zA E n m s v Jq Ok e) (hn : 3 ≤ n) (hcode : E.fn 59 = some d59) (hintr : E.intr 59 = none) (hcode1 : E.fn 94 = some d94) (hintr1 : E.intr 94 = none) :
 W (dcall E (d + 2) (.func (.func 59) #[] #[]) [v] s) fun r => zA E (n + 1) m r.2 r.1 VI (fun xs => xs.length ≤ 4096 ∧ ∀ x, x ∈ xs → Ok x) (fun xs => leB xs.length 2 ++ WE e xs) ∧ Ext [] s r.2 := by
 obtain ⟨f1, a1, b1, g1, p1, q1, D1, rfl, h2, h3, h4⟩ := ha
 refine Zz fun Q hQ => ?_
 rw [zC hintr hcode rfl]
 simp (maxDischargeDepth := 8) only [sA, sM, zc, zY, Cells.get, getN, pp, d59, hG]
 obtain ⟨S, hS⟩ : ∃ S : DS, S = (s.new (.cells (.list [.func (.func f1) a1 b1, .func (.func g1) p1 q1]) false)).new (.cells (.list [.nilFunc, .nilFunc]) false) := ⟨_, rfl⟩
 rw [← hS]
 have XS : Ext [] s S := by rw [hS]; exact Ext.new.trans' Ext.new
 have nS : S.next = s.next + 2 := by rw [hS]; simp (maxDischargeDepth := 8) only [Nat.reduceAdd, Yl, Nat.add_assoc]
 have hGS := XS.good hG
 have S0 : S.get s.next = some (.cells (.list [.func (.func f1) a1 b1, .func (.func g1) p1 q1]) false) := by rw [hS]; simp (maxDischargeDepth := 8) only [sM, Yl, hG]
 have S1 : S.get (s.next + 1) = some (.cells (.list [.nilFunc, .nilFunc]) false) := by rw [hS]; simp (maxDischargeDepth := 8) only [sM, Yl, hG]
 have wS : S.wr (s.next + 1) = true := XS.wrs (hG _ (by omega)).2
 refine W.mono (K4 hC hGS 2 4096) ?_
 rintro ⟨v2, s2⟩ ⟨hv2, n1, n2, X2, hn2⟩
 simp only at hv2 n1 n2 X2 hn2
 subst hv2
 have hG2 := X2.good hGS
 have T1 := X2.keep S1 (by simp)
 have wT := X2.wrs wS
 have hlt : s.next + 1 < s2.next := by omega
 rw [nS] at n1 n2 hn2 ⊢
 simp (maxDischargeDepth := 8) only [sA, sM, zi, ze, zh, Cells.get, getN, Nat.reduceAdd, zm, zB, Nat.reduceLeDiff, DS.wrC, Cells.size, Cells.fillFrom, Cells.set, Zq, zq, DS.read, Cells.take, Nat.reduceLT, hG2, T1, wT, hlt]
 refine hQ _ ⟨⟨_, _, _, _, _, _, (s2.next, .cells (.list [.func (.func 120) #[] #[.pointer (some ⟨s.next + 2, 0, none⟩), .pointer (some ⟨s.next + 3, 0, none⟩)], .func (.func 122) #[] #[.pointer (some ⟨s.next + 2, 0, none⟩), .pointer (some ⟨s.next + 3, 0, none⟩)]]) false) :: (s.next, .cells (.list [.func (.func f1) a1 b1, .func (.func g1) p1 q1]) false) :: ([(s.next + 2, .cells (.list [.int .i64 ((2 : Nat) : Int)]) false), (s.next + 3, .cells (.list [.int .i64 4096]) false)] ++ D1), rfl, ?_, ?_, G4 hC ((Q1 hC (b1 := s.next + 2) (b2 := s.next + 3) (size := 2) (most := 4096) (by omega)).mono hn) h4 hcode1 hintr1⟩, ?_⟩
 · intro p hp
   rcases List.mem_cons.1 hp with rfl | hp
   · simp (maxDischargeDepth := 8) only [sA, YF, hG2, show ¬ s2.next = s.next + 1 by omega]
   · rcases List.mem_cons.1 hp with rfl | hp
     · simp (maxDischargeDepth := 8) only [sA, sM, hG2, show ¬ s.next = s2.next by omega, show s.next < s2.next by omega, X2.keep S0 (by simp)]
     · rcases List.mem_append.1 hp with hp | hp
       · rcases List.mem_cons.1 hp with rfl | hp
         · simp (maxDischargeDepth := 8) only [sA, sM, hG2, show ¬ s.next + 2 = s2.next by omega, show s.next + 2 < s2.next by omega, n1]
           rfl
         · rcases List.mem_cons.1 hp with rfl | hp
           · simp (maxDischargeDepth := 8) only [sA, sM, Nat.reduceLT, hG2, show ¬ s.next + 3 = s2.next by omega, show s.next + 3 < s2.next by omega, n2]
           · cases hp
       · have h5 := h3 p hp
         have h6 := X2.keep (XS.keep (h2 p hp) (by simp)) (by simp)
         simp (maxDischargeDepth := 8) only [sA, Xi, hG2, show ¬ p.1 = s2.next by omega, show ¬ p.1 = s.next + 1 by omega, show p.1 < s2.next by omega, h6]
 · intro p hp
   have hfin : m ≤ p.1 ∧ p.1 < s2.next + 1 := by
    rcases List.mem_cons.1 hp with rfl | hp
    · show m ≤ s2.next ∧ s2.next < s2.next + 1; omega
    · rcases List.mem_cons.1 hp with rfl | hp
      · show m ≤ s.next ∧ s.next < s2.next + 1; omega
      · rcases List.mem_append.1 hp with hp | hp
        · rcases List.mem_cons.1 hp with rfl | hp
          · show m ≤ s.next + 2 ∧ s.next + 2 < s2.next + 1; omega
          · rcases List.mem_cons.1 hp with rfl | hp
            · show m ≤ s.next + 3 ∧ s.next + 3 < s2.next + 1; omega
            · cases hp
        · have h5 := h3 p hp; omega
   simp (maxDischargeDepth := 8) only [sA]
   exact hfin
 · have X3 := XS.trans' X2
   have X4 : Ext [s2.next, s.next + 1] s2 (((s2.new (.cells (.list [.nilFunc, .nilFunc]) false)).upd s2.next (.cells (.list [.func (.func 120) #[] #[.pointer (some ⟨s.next + 2, 0, none⟩), .pointer (some ⟨s.next + 3, 0, none⟩)], .func (.func 122) #[] #[.pointer (some ⟨s.next + 2, 0, none⟩), .pointer (some ⟨s.next + 3, 0, none⟩)]]) false)).upd (s.next + 1) (.cells (.list [.func (.func 94) #[] #[.pointer (some ⟨s2.next, 0, none⟩), .pointer (some ⟨s.next, 0, none⟩)], .func (.func 95) #[] #[.pointer (some ⟨s2.next, 0, none⟩), .pointer (some ⟨s.next, 0, none⟩)]]) false)) := Ext.new.trans' ((Ext.upd (.inl (by simp))).trans' (Ext.upd (.inl (by simp))))
   exact X3.trans X4 (by simp; omega)
theorem Fo (hG : s.Good) {m : Nat} (hm : m ≤ s.next) (hblob : E.fn 57 = some d57) (iblob : E.intr 57 = none) (h1 : E.fn 87 = some d87) (i1 : E.intr 87 = none) :
 W (dcall E (d + 2) (.func (.func 57) #[] #[]) [] s) fun r => zA E 4 m r.2 r.1 DH (fun x => x.length ≤ 65536) DV ∧ Ext [] s r.2 := by
 refine Zz fun Q hQ => ?_
 rw [zC iblob hblob rfl]
 simp (maxDischargeDepth := 8) only [sA, pp, d57, hG]
 obtain ⟨S, hS⟩ : ∃ S : DS, S = s.new (.cells (.list [.nilFunc, .nilFunc]) false) := ⟨_, rfl⟩
 rw [← hS]
 have XS : Ext [] s S := by rw [hS]; exact Ext.new
 have nS : S.next = s.next + 1 := by rw [hS]; simp (maxDischargeDepth := 8) only [Yl]
 have hGS := XS.good hG
 have S0 : S.get s.next = some (.cells (.list [.nilFunc, .nilFunc]) false) := by rw [hS]; simp (maxDischargeDepth := 8) only [YF, hG]
 have wS : S.wr s.next = true := XS.wrs (hG _ (Nat.le_refl _)).2
 clear hS
 refine W.mono (K4 hC (d := d) hGS 4 65536) ?_
 rintro ⟨v2, s2⟩ ⟨hv2, n1, n2, X2, hn2⟩
 simp only at hv2 n1 n2 X2 hn2
 subst hv2
 have hG2 := X2.good hGS
 have T0 := X2.keep S0 (by simp)
 have wT := X2.wrs wS
 rw [nS] at n1 n2 hn2 ⊢
 have hlt : s.next < s2.next := by omega
 simp (maxDischargeDepth := 8) only [sA, sM, zi, ze, zh, Cells.get, getN, Nat.reduceAdd, zm, zB, Nat.reduceLeDiff, DS.wrC, Cells.size, Cells.fillFrom, Cells.set, Zq, zq, DS.read, Cells.take, Nat.reduceLT, hG2, T0, wT, hlt]
 have X4 : ∀ o1 o2 o3, Ext [] s (((s2.new o1).upd s2.next o2).upd s.next o3) := fun o1 o2 o3 => by
  have e1 : Ext [] s2 (s2.new o1) := Ext.new
  have e2 : Ext [s2.next] (s2.new o1) ((s2.new o1).upd s2.next o2) := Ext.upd (.inl (by simp))
  have e3 : Ext [s.next] ((s2.new o1).upd s2.next o2) (((s2.new o1).upd s2.next o2).upd s.next o3) := Ext.upd (.inl (by simp))
  exact ((XS.trans' X2).trans' (e1.trans e2 (by simp))).trans e3 (by simp)
 refine hQ _ ⟨⟨_, _, _, _, _, _, (s2.next, .cells (.list [.func (.func 120) #[] #[.pointer (some ⟨s.next + 1, 0, none⟩), .pointer (some ⟨s.next + 1 + 1, 0, none⟩)], .func (.func 122) #[] #[.pointer (some ⟨s.next + 1, 0, none⟩), .pointer (some ⟨s.next + 1 + 1, 0, none⟩)]]) false) :: [(s.next + 1, .cells (.list [.int .i64 ((4 : Nat) : Int)]) false), (s.next + 1 + 1, .cells (.list [.int .i64 65536]) false)], rfl, fun p hp => ?_, fun p hp => ?_, Tr hC (Q1 hC (b1 := s.next + 1) (b2 := s.next + 1 + 1) (size := 4) (most := 65536) (by omega)) (by omega) h1 i1⟩, X4 _ _ _⟩
 · rcases List.mem_cons.1 hp with rfl | hp
   · simp (maxDischargeDepth := 8) only [sA, sM, Nat.reduceAdd, hG2, show ¬ s2.next = s.next by omega]
   · rcases List.mem_cons.1 hp with rfl | hp
     · simp (maxDischargeDepth := 8) only [sA, Xi, hG2, show ¬ s.next + 1 = s.next by omega, show ¬ s.next + 1 = s2.next by omega, show s.next + 1 < s2.next by omega, n1]
       rfl
     · rcases List.mem_cons.1 hp with rfl | hp
       · simp (maxDischargeDepth := 8) only [sA, sM, Nat.reduceAdd, hG2, show ¬ s.next + 1 + 1 = s.next by omega, show ¬ s.next + 1 + 1 = s2.next by omega, show s.next + 1 + 1 < s2.next by omega, n2]
       · cases hp
 · have : m ≤ p.1 ∧ p.1 < s2.next + 1 := by
    rcases List.mem_cons.1 hp with rfl | hp
    · show m ≤ s2.next ∧ s2.next < s2.next + 1; omega
    · rcases List.mem_cons.1 hp with rfl | hp
      · show m ≤ s.next + 1 ∧ s.next + 1 < s2.next + 1; omega
      · rcases List.mem_cons.1 hp with rfl | hp
        · show m ≤ s.next + 1 + 1 ∧ s.next + 1 + 1 < s2.next + 1; omega
        · cases hp
   simp (maxDischargeDepth := 8) only [sA]
   exact this
theorem Gk {α : Type} {n m : Nat} {fv xv : Value} {Rep : Nat → DS → Value → α → Prop} {Ok : α → Prop} {enc : α → List Int} {x : α} {x1 x2 x9 : Int} {x3 x6 : Option Addr} {x4 x5 x7 x8 : Nat} (hG : s.Good) (hf : zA E n m s fv Rep Ok enc) (hr : Rep s.next s xv x) (hst : Z2 Rep) (hok : Ok x) (hlen : (enc x).length ≤ 1048576)
 (hxv : xv = .agg ⟨[.int .i64 x1, .int .i64 x2, .slice x3 x4 x5, .slice x6 x7 x8, .int .i64 x9]⟩) (hcode : E.fn 25 = some d25) (hintr : E.intr 25 = none) (hclip : E.fn 51 = some d51) (iclip : E.intr 51 = none) :
 W (dcall E ((d + n + 1) + 1) (.func (.func 25) #[] #[]) [fv, xv] s) fun r => ∃ w, r.1 = .tuple ⟨[w, .int .i64 0]⟩ ∧ SlV r.2 1 w (zH (enc x)) ∧ (∃ a, w = .slice a (enc x).length (enc x).length ∧ ∀ z, a = some z → z.spot = none) ∧ (∀ k, k ∈ blk w → s.next ≤ k ∧ k < r.2.next) ∧ Ext [] s r.2 := by
 obtain ⟨f, a, b, g, a', b', D, rfl, h2, h3, h4⟩ := hf
 subst hxv
 refine Zz fun Q hQ => ?_
 rw [zC hintr hcode rfl]
 simp (maxDischargeDepth := 8) only [sA, sM, zc, zY, Cells.get, getN, Nat.reduceAdd, zq, pp, pv, ldA, DS.read, Cells.take, Nat.reduceLT, d25, hG]
 obtain ⟨S, hS⟩ : ∃ S : DS, S = ((s.new (.cells (.list [.func (.func f) a b, .func (.func g) a' b']) false)).new (.cells (.list [.int .i64 x1, .int .i64 x2, .slice x3 x4 x5, .slice x6 x7 x8, .int .i64 x9]) false)).new (.cells (.list [.slice none 0 0, .int .i64 0]) false) := ⟨_, rfl⟩
 rw [← hS]
 have XS : Ext [] s S := by rw [hS]; exact Ext.new.trans' (Ext.new.trans' Ext.new)
 have nS : S.next = s.next + 3 := by rw [hS]; simp (maxDischargeDepth := 8) only [Nat.reduceAdd, Yl, Nat.add_assoc]
 have hGS := XS.good hG
 have S0 : S.get s.next = some (.cells (.list [.func (.func f) a b, .func (.func g) a' b']) false) := by rw [hS]; simp (maxDischargeDepth := 8) only [sM, Nat.reduceAdd, Yl, hG]
 have S1 : S.get (s.next + 1) = some (.cells (.list [.int .i64 x1, .int .i64 x2, .slice x3 x4 x5, .slice x6 x7 x8, .int .i64 x9]) false) := by rw [hS]; simp (maxDischargeDepth := 8) only [sM, Nat.reduceAdd, Yl, hG]
 have S2 : S.get (s.next + 2) = some (.cells (.list [.slice none 0 0, .int .i64 0]) false) := by rw [hS]; simp (maxDischargeDepth := 8) only [sM, Nat.reduceAdd, Yl, hG]
 have O : XP S (s.next + 2) (.slice none 0 0) [] := ⟨S2, XS.wrs (hG _ (by omega)).2, by simpa [zH] using SlC.nil, by simp [blk], by simp⟩
 have hY : Same (s.next) s S := fun k hk => XS.get k hk (by simp)
 have hld : ldA 5 (.pointer (some ⟨s.next + 1, 0, none⟩)) S = some (.agg ⟨[.int .i64 x1, .int .i64 x2, .slice x3 x4 x5, .slice x6 x7 x8, .int .i64 x9]⟩) := by
  unfold ldA DS.read
  simp only [S1]
  rfl
 rw [show d + (n + 1) = (d + 1) + n by omega]
 refine W.mono (h4 (d + 1) S (s.next + 2) _ [] _ x (h2.keep XS (by simp)) (fun p hp => by have := h3 p hp; omega) O hGS (hst.mono _ _ _ _ _ (hst.stab _ _ _ _ _ hr hY) (by omega)) hok (by simpa using hlen)) ?_
 rintro ⟨v3, s3⟩ ⟨hv3, bv3, O3, X3, b3⟩
 simp only at hv3 O3 X3 b3
 subst hv3
 rw [List.nil_append] at O3
 have go3 := O3.go
 obtain ⟨w, hw1, hw2, hw3, hw4⟩ := SH hC (d := d + n) O3.sl hclip iclip
 rw [show (d + n) + 1 = (d + 1) + n by omega] at hw1
 simp only [sA, zc, zy, zn, Nat.reduceEqDiff, ze, zh, Cells.get, getN, go3, hw1]
 have X4 : Ext [] s s3 := XS.trans X3 (by simp [blk])
 refine hQ _ ⟨w, rfl, hw2, hw3, fun k hk => ?_, X4⟩
 rw [hw4] at hk
 refine ⟨?_, O3.sl.lt k hk⟩
 have := O3.up k hk
 omega
end
end Go.Dx.TbA
