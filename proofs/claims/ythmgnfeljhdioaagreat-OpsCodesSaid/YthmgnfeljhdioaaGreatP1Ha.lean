/- A part. -/
import Derived.Test.YthmgnfeljhdioaaGreatP1Ga
set_option linter.unusedVariables false
set_option linter.unusedSimpArgs false
set_option linter.unusedSectionVars false
set_option maxRecDepth 100000
set_option maxHeartbeats 4000000
namespace Go.Dx.TbA
open Go Go.Dx Go.Dx.Tab Go.Proofs.YthmgnfeljhdioaaGreat
structure Mj (E : Env) : Prop where
 fblob1 : E.fn 87 = some d87
 iblob1 : E.intr 87 = none
 fbLI1 : E.fn 92 = some d92
 ibLI1 : E.intr 92 = none
 fbBP1 : E.fn 85 = some d85
 ibBP1 : E.intr 85 = none
 fbQ1 : E.fn 80 = some d80
 ibQ1 : E.intr 80 = none
 fmanyI1 : E.fn 94 = some d94
 imanyI1 : E.intr 94 = none
 fqEncA : E.fn 25 = some d25
 iqEncA : E.intr 25 = none
 fqEncode : E.fn 7 = some d7
 iqEncode : E.intr 7 = none
def GY (o : Nat) (s : DS) (v : Value) (x : List Int) : Prop := SlI s v x ∧ ∀ k, k ∈ blk v → k < o
theorem Ko : Zu GY := ⟨fun o s s' v x ⟨h1, h2⟩ hs => ⟨h1.of fun k hk => hs k (h2 k hk), h2⟩, fun o o' s v x ⟨h1, h2⟩ hs => ⟨h1, fun k hk => Nat.lt_of_lt_of_le (h2 k hk) hs⟩⟩
theorem GX : ∀ (o : Nat) (s : DS) (v : Value) (x : List Int), GY o s v x → ∃ b n c, v = .slice b n c := fun o s v x ⟨h1, _⟩ => by
 obtain ⟨a, c, e⟩ := h1.shape
 exact ⟨_, _, _, e⟩
def TQ (o : Nat) (s : DS) (v : Value) (x : List Int) : Prop := SlV s 1 v (zI x) ∧ ∀ k, k ∈ blk v → k < o
theorem Ga : Zu TQ := ⟨fun o s s' v x ⟨h1, h2⟩ hs => ⟨h1.of fun k hk => hs k (h2 k hk), h2⟩, fun o o' s v x ⟨h1, h2⟩ hs => ⟨h1, fun k hk => Nat.lt_of_lt_of_le (h2 k hk) hs⟩⟩
theorem CG : ∀ (o : Nat) (s : DS) (v : Value) (x : List Int), TQ o s v x → ∃ b n c, v = .slice b n c := fun o s v x ⟨h1, _⟩ => by
 rcases h1 with ⟨h, _⟩ | ⟨b, off, sp, c, h, _⟩
 · exact ⟨_, _, _, h⟩
 · exact ⟨_, _, _, h⟩
theorem SW {o : Nat} {s : DS} {v : Value} {x : List Int} (h : TQ o s v x) : ∃ b c, v = .slice b x.length c := by
 rcases h.1 with ⟨e, h2⟩ | ⟨b, off, sp, c, e, _⟩
 · have : x = [] := by simpa [zI] using h2
   subst this
   exact ⟨none, 0, e⟩
 · rw [zr] at e
   exact ⟨_, _, e⟩
def FU (x : List Int) : List Int := leB (x.length : Int) 4 ++ x
section
variable {E : Env} (hC : Ja E) {s : DS} {d : Nat}
include hC
theorem Pl {c1 : Nat} {cp cg : Value} {n : Nat} {D : List (Nat × DObj)} (ha : Zg E n cp D Jg (Xk 4 65536) (fun x => leB x 4)) (hn : 1 ≤ n) (h1 : E.fn 87 = some d87) (i1 : E.intr 87 = none) :
 Zg E (n + 1) (.func (.func 87) #[] #[.pointer (some ⟨c1, 0, none⟩)]) ((c1, .cells (.list [cp, cg]) false) :: D) TQ (fun x => x.length ≤ 65536) FU := by
 intro d s o bv bs v x hD hb2 h hG hv hx hlen
 have g1 := hD _ (List.mem_cons_self ..)
 simp only at g1
 have hDf : Zo s D := hD.sub fun p hp => List.mem_cons_of_mem _ hp
 have lf : ∀ p, p ∈ D → p.1 < o := fun p hp => hb2 p (List.mem_cons_of_mem _ hp)
 have hol := DS.get_lt' h.go
 unfold FU at hlen ⊢
 simp only [List.length_append, zB] at hlen
 have hv0 := hv
 obtain ⟨b, c, rfl⟩ := SW hv
 refine zp fun Q hQ => ?_
 obtain ⟨n, rfl⟩ : ∃ n', n = n' + 1 := ⟨n - 1, by omega⟩
 show W (dcall E ((d + n + 1) + 1) _ _ _) Q
 rw [zZ i1 h1 rfl]
 simp only [sA, zb, Nat.reduceEqDiff, Cells.get, getN, reduceCtorEq, pp, pv, d87, g1]
 refine W.mono (ha d s o bv bs _ (x.length : Int) hDf lf h hG rfl (.inr ⟨by omega, by omega⟩) (by rw [zB]; omega)) ?_
 rintro ⟨v3, s3⟩ ⟨hv3, bv3, O3, X3, b3⟩
 simp only at hv3 O3 X3 b3
 subst hv3
 simp only [sA, Nat.reduceEqDiff, reduceCtorEq]
 refine W.mono (Td hC (d := d + n) O3 (X3.good hG) ((Ga.stab _ _ _ _ _ hv0 (Y4 h X3)).1) (by rw [List.length_append, zB]; omega)) ?_
 rintro ⟨v4, s4⟩ h4
 have hv4 := h4.val
 simp only at hv4
 subst hv4
 simp only [sA, za, ze]
 refine hQ _ ?_
 rw [← List.append_assoc]
 exact W2.next X3 b3 h4
theorem Cj {f1 f2 : Nat} {fp fg gp gg : Value} {α β : Type} {n : Nat} {Df Dg : List (Nat × DObj)} {Ra : Nat → DS → Value → α → Prop} {Rb : Nat → DS → Value → β → Prop} {Oka : α → Prop} {Okb : β → Prop} {ea : α → List Int} {eb : β → List Int}
 (ha : Zg E n fp Df Ra Oka ea) (hb : Zg E n gp Dg Rb Okb eb) (sa : Zu Ra) (sb : Zu Rb) (ca : ∀ o s v x, Ra o s v x → (∃ b n c, v = .slice b n c)) (cb : ∀ o s v x, Rb o s v x → (∃ n, v = .int .i64 n)) (hcode : E.fn 92 = some d92) (hintr : E.intr 92 = none) :
 Zg E (n + 1) (.func (.func 92) #[] #[.pointer (some ⟨f1, 0, none⟩), .pointer (some ⟨f2, 0, none⟩)]) ((f1, .cells (.list [fp, fg]) false) :: (f2, .cells (.list [gp, gg]) false) :: (Df ++ Dg)) (Yv Ra Rb) (fun x => Oka x.1 ∧ Okb x.2) (fun x => ea x.1 ++ eb x.2) := by
 intro d s o bv bs v x hD hb2 h hG hv hx hlen
 obtain ⟨a, b, rfl, hra, hrb⟩ := hv
 have g1 := hD _ (List.mem_cons_self ..)
 have g2 := hD (f2, _) (List.mem_cons_of_mem _ (List.mem_cons_self ..))
 have l1 := hb2 _ (List.mem_cons_self ..)
 have l2 := hb2 (f2, _) (List.mem_cons_of_mem _ (List.mem_cons_self ..))
 simp only at g1 g2 l1 l2
 have hDf : Zo s Df := hD.sub fun p hp => List.mem_cons_of_mem _ (List.mem_cons_of_mem _ (List.mem_append_left _ hp))
 have hDg : Zo s Dg := hD.sub fun p hp => List.mem_cons_of_mem _ (List.mem_cons_of_mem _ (List.mem_append_right _ hp))
 have lf : ∀ p, p ∈ Df → p.1 < o := fun p hp => hb2 p (List.mem_cons_of_mem _ (List.mem_cons_of_mem _ (List.mem_append_left _ hp)))
 have lg : ∀ p, p ∈ Dg → p.1 < o := fun p hp => hb2 p (List.mem_cons_of_mem _ (List.mem_cons_of_mem _ (List.mem_append_right _ hp)))
 have hol := DS.get_lt' h.go
 have l1s : f1 < s.next := Nat.lt_trans l1 hol
 have l2s : f2 < s.next := Nat.lt_trans l2 hol
 rw [List.length_append] at hlen
 have hca := ca _ _ _ _ hra
 have hcb := cb _ _ _ _ hrb
 refine zp fun Q hQ => ?_
 show W (dcall E ((d + n) + 1) _ _ _) Q
 rw [zZ hintr hcode rfl]
 obtain ⟨x1, x2, x3, rfl⟩ := hca
 obtain ⟨y1, rfl⟩ := hcb
 simp (maxDischargeDepth := 8) only [sA, sM, zb, Cells.get, getN, pp, pv, Nat.reduceLT, d92, g1, g2, hG, l1s, l2s]
 obtain ⟨S1, hS1⟩ : ∃ S1 : DS, S1 = s.new (.cells (.list [.slice x1 x2 x3, .int .i64 y1]) false) := ⟨_, rfl⟩
 rw [← hS1]
 have X1 : ∀ F, Ext F s S1 := fun F => by rw [hS1]; exact Ext.new
 have gS : S1.get s.next = some (.cells (.list [.slice x1 x2 x3, .int .i64 y1]) false) := by rw [hS1]; exact DS.new_get_self hG
 have Y1 : Same o s S1 := fun k hk => (X1 []).get k (Nat.lt_trans hk hol) (by simp)
 have O1 : Xu S1 o bv bs := ⟨(X1 []).keep h.go (by simp), (X1 []).wrs h.wo, h.sl.keep (X1 []) (by simp), h.up, h.len⟩
 refine W.mono (ha d S1 o bv bs _ x.1 (hDf.keep (X1 []) (by simp)) lf O1 ((X1 []).good hG) (sa.stab _ _ _ _ _ hra Y1) hx.1 (by omega)) ?_
 rintro ⟨v2, s2⟩ ⟨hv2, bv2, O2, X2, b2⟩
 simp only at hv2 O2 X2 b2
 have Y2 := Y4 O1 X2
 have YY := Y1.trans Y2
 have gS2 := X2.keep gS (by
  simp only [List.mem_cons, not_or]
  exact ⟨by omega, fun hk => by have := h.sl.lt _ hk; omega⟩)
 have g22 := (YY f2 l2).trans g2
 simp only [sA, zb, Nat.reduceEqDiff, Cells.get, getN, reduceCtorEq, gS2, g22]
 refine W.mono (hb d s2 o bv2 (bs ++ ea x.1) _ x.2 (hDg.same lg YY) lg O2 (X2.good ((X1 []).good hG)) (sb.stab _ _ _ _ _ hrb YY) hx.2 (by rw [List.length_append]; omega)) ?_
 rintro ⟨v3, s3⟩ h3
 have hv3 := h3.val
 simp only at hv3
 subst hv3
 have X12 : Ext (o :: blk bv) s s2 := (X1 _).trans' X2
 have h4 := W2.next X12 (fun k hk => by
  rcases b2 k hk with h | h
  · exact .inl h
  · exact .inr (Nat.le_trans (X1 []).le h)) h3
 simp only [sA, za, ze]
 refine hQ _ ?_
 rw [← List.append_assoc]
 exact h4
theorem Cl {f1 f2 : Nat} {fp fg gp gg : Value} {α β : Type} {n : Nat} {Df Dg : List (Nat × DObj)} {Ra : Nat → DS → Value → α → Prop} {Rb : Nat → DS → Value → β → Prop} {Oka : α → Prop} {Okb : β → Prop} {ea : α → List Int} {eb : β → List Int}
 (ha : Zg E n fp Df Ra Oka ea) (hb : Zg E n gp Dg Rb Okb eb) (sa : Zu Ra) (sb : Zu Rb) (ca : ∀ o s v x, Ra o s v x → (∃ b n c, v = .slice b n c)) (cb : ∀ o s v x, Rb o s v x → (∃ b n c q, v = .agg ⟨[.slice b n c, .int .i64 q]⟩)) (hcode : E.fn 85 = some d85) (hintr : E.intr 85 = none) :
 Zg E (n + 1) (.func (.func 85) #[] #[.pointer (some ⟨f1, 0, none⟩), .pointer (some ⟨f2, 0, none⟩)]) ((f1, .cells (.list [fp, fg]) false) :: (f2, .cells (.list [gp, gg]) false) :: (Df ++ Dg)) (Yv Ra Rb) (fun x => Oka x.1 ∧ Okb x.2) (fun x => ea x.1 ++ eb x.2) := by
 intro d s o bv bs v x hD hb2 h hG hv hx hlen
 obtain ⟨a, b, rfl, hra, hrb⟩ := hv
 have g1 := hD _ (List.mem_cons_self ..)
 have g2 := hD (f2, _) (List.mem_cons_of_mem _ (List.mem_cons_self ..))
 have l1 := hb2 _ (List.mem_cons_self ..)
 have l2 := hb2 (f2, _) (List.mem_cons_of_mem _ (List.mem_cons_self ..))
 simp only at g1 g2 l1 l2
 have hDf : Zo s Df := hD.sub fun p hp => List.mem_cons_of_mem _ (List.mem_cons_of_mem _ (List.mem_append_left _ hp))
 have hDg : Zo s Dg := hD.sub fun p hp => List.mem_cons_of_mem _ (List.mem_cons_of_mem _ (List.mem_append_right _ hp))
 have lf : ∀ p, p ∈ Df → p.1 < o := fun p hp => hb2 p (List.mem_cons_of_mem _ (List.mem_cons_of_mem _ (List.mem_append_left _ hp)))
 have lg : ∀ p, p ∈ Dg → p.1 < o := fun p hp => hb2 p (List.mem_cons_of_mem _ (List.mem_cons_of_mem _ (List.mem_append_right _ hp)))
 have hol := DS.get_lt' h.go
 have l1s : f1 < s.next := Nat.lt_trans l1 hol
 have l2s : f2 < s.next := Nat.lt_trans l2 hol
 rw [List.length_append] at hlen
 have hca := ca _ _ _ _ hra
 have hcb := cb _ _ _ _ hrb
 refine zp fun Q hQ => ?_
 show W (dcall E ((d + n) + 1) _ _ _) Q
 rw [zZ hintr hcode rfl]
 obtain ⟨x1, x2, x3, rfl⟩ := hca
 obtain ⟨y1, y2, y3, y4, rfl⟩ := hcb
 simp (maxDischargeDepth := 8) only [sA, sM, zb, Cells.get, getN, pp, pv, Nat.reduceLT, d85, g1, g2, hG, l1s, l2s]
 obtain ⟨S1, hS1⟩ : ∃ S1 : DS, S1 = s.new (.cells (.list [.slice x1 x2 x3, .slice y1 y2 y3, .int .i64 y4]) false) := ⟨_, rfl⟩
 rw [← hS1]
 have X1 : ∀ F, Ext F s S1 := fun F => by rw [hS1]; exact Ext.new
 have gS : S1.get s.next = some (.cells (.list [.slice x1 x2 x3, .slice y1 y2 y3, .int .i64 y4]) false) := by rw [hS1]; exact DS.new_get_self hG
 have Y1 : Same o s S1 := fun k hk => (X1 []).get k (Nat.lt_trans hk hol) (by simp)
 have O1 : Xu S1 o bv bs := ⟨(X1 []).keep h.go (by simp), (X1 []).wrs h.wo, h.sl.keep (X1 []) (by simp), h.up, h.len⟩
 refine W.mono (ha d S1 o bv bs _ x.1 (hDf.keep (X1 []) (by simp)) lf O1 ((X1 []).good hG) (sa.stab _ _ _ _ _ hra Y1) hx.1 (by omega)) ?_
 rintro ⟨v2, s2⟩ ⟨hv2, bv2, O2, X2, b2⟩
 simp only at hv2 O2 X2 b2
 have Y2 := Y4 O1 X2
 have YY := Y1.trans Y2
 have gS2 := X2.keep gS (by
  simp only [List.mem_cons, not_or]
  exact ⟨by omega, fun hk => by have := h.sl.lt _ hk; omega⟩)
 have g22 := (YY f2 l2).trans g2
 simp only [sA, zb, Nat.reduceEqDiff, Cells.get, getN, reduceCtorEq, ldA, DS.read, Cells.take, gS2, g22]
 refine W.mono (hb d s2 o bv2 (bs ++ ea x.1) _ x.2 (hDg.same lg YY) lg O2 (X2.good ((X1 []).good hG)) (sb.stab _ _ _ _ _ hrb YY) hx.2 (by rw [List.length_append]; omega)) ?_
 rintro ⟨v3, s3⟩ h3
 have hv3 := h3.val
 simp only at hv3
 subst hv3
 have X12 : Ext (o :: blk bv) s s2 := (X1 _).trans' X2
 have h4 := W2.next X12 (fun k hk => by
  rcases b2 k hk with h | h
  · exact .inl h
  · exact .inr (Nat.le_trans (X1 []).le h)) h3
 simp only [sA, za, ze]
 refine hQ _ ?_
 rw [← List.append_assoc]
 exact h4
theorem Cn {f1 f2 : Nat} {fp fg gp gg : Value} {α β : Type} {n : Nat} {Df Dg : List (Nat × DObj)} {Ra : Nat → DS → Value → α → Prop} {Rb : Nat → DS → Value → β → Prop} {Oka : α → Prop} {Okb : β → Prop} {ea : α → List Int} {eb : β → List Int}
 (ha : Zg E n fp Df Ra Oka ea) (hb : Zg E n gp Dg Rb Okb eb) (sa : Zu Ra) (sb : Zu Rb) (ca : ∀ o s v x, Ra o s v x → (∃ n1 n2, v = .agg ⟨[.int .i64 n1, .int .i64 n2]⟩)) (cb : ∀ o s v x, Rb o s v x → (∃ b n c b2 n2 c2 q, v = .agg ⟨[.slice b n c, .slice b2 n2 c2, .int .i64 q]⟩)) (hcode : E.fn 80 = some d80) (hintr : E.intr 80 = none) :
 Zg E (n + 1) (.func (.func 80) #[] #[.pointer (some ⟨f1, 0, none⟩), .pointer (some ⟨f2, 0, none⟩)]) ((f1, .cells (.list [fp, fg]) false) :: (f2, .cells (.list [gp, gg]) false) :: (Df ++ Dg)) (Yv Ra Rb) (fun x => Oka x.1 ∧ Okb x.2) (fun x => ea x.1 ++ eb x.2) := by
 intro d s o bv bs v x hD hb2 h hG hv hx hlen
 obtain ⟨a, b, rfl, hra, hrb⟩ := hv
 have g1 := hD _ (List.mem_cons_self ..)
 have g2 := hD (f2, _) (List.mem_cons_of_mem _ (List.mem_cons_self ..))
 have l1 := hb2 _ (List.mem_cons_self ..)
 have l2 := hb2 (f2, _) (List.mem_cons_of_mem _ (List.mem_cons_self ..))
 simp only at g1 g2 l1 l2
 have hDf : Zo s Df := hD.sub fun p hp => List.mem_cons_of_mem _ (List.mem_cons_of_mem _ (List.mem_append_left _ hp))
 have hDg : Zo s Dg := hD.sub fun p hp => List.mem_cons_of_mem _ (List.mem_cons_of_mem _ (List.mem_append_right _ hp))
 have lf : ∀ p, p ∈ Df → p.1 < o := fun p hp => hb2 p (List.mem_cons_of_mem _ (List.mem_cons_of_mem _ (List.mem_append_left _ hp)))
 have lg : ∀ p, p ∈ Dg → p.1 < o := fun p hp => hb2 p (List.mem_cons_of_mem _ (List.mem_cons_of_mem _ (List.mem_append_right _ hp)))
 have hol := DS.get_lt' h.go
 have l1s : f1 < s.next := Nat.lt_trans l1 hol
 have l2s : f2 < s.next := Nat.lt_trans l2 hol
 rw [List.length_append] at hlen
 have hca := ca _ _ _ _ hra
 have hcb := cb _ _ _ _ hrb
 refine zp fun Q hQ => ?_
 show W (dcall E ((d + n) + 1) _ _ _) Q
 rw [zZ hintr hcode rfl]
 obtain ⟨x1, x2, rfl⟩ := hca
 obtain ⟨y1, y2, y3, y4, y5, y6, y7, rfl⟩ := hcb
 simp (maxDischargeDepth := 8) only [sA, sM, zb, Cells.get, getN, pp, pv, ldA, DS.read, Cells.take, Nat.reduceLT, d80, g1, g2, hG, l1s, l2s]
 obtain ⟨S1, hS1⟩ : ∃ S1 : DS, S1 = s.new (.cells (.list [.int .i64 x1, .int .i64 x2, .slice y1 y2 y3, .slice y4 y5 y6, .int .i64 y7]) false) := ⟨_, rfl⟩
 rw [← hS1]
 have X1 : ∀ F, Ext F s S1 := fun F => by rw [hS1]; exact Ext.new
 have gS : S1.get s.next = some (.cells (.list [.int .i64 x1, .int .i64 x2, .slice y1 y2 y3, .slice y4 y5 y6, .int .i64 y7]) false) := by rw [hS1]; exact DS.new_get_self hG
 have Y1 : Same o s S1 := fun k hk => (X1 []).get k (Nat.lt_trans hk hol) (by simp)
 have O1 : Xu S1 o bv bs := ⟨(X1 []).keep h.go (by simp), (X1 []).wrs h.wo, h.sl.keep (X1 []) (by simp), h.up, h.len⟩
 refine W.mono (ha d S1 o bv bs _ x.1 (hDf.keep (X1 []) (by simp)) lf O1 ((X1 []).good hG) (sa.stab _ _ _ _ _ hra Y1) hx.1 (by omega)) ?_
 rintro ⟨v2, s2⟩ ⟨hv2, bv2, O2, X2, b2⟩
 simp only at hv2 O2 X2 b2
 have Y2 := Y4 O1 X2
 have YY := Y1.trans Y2
 have gS2 := X2.keep gS (by
  simp only [List.mem_cons, not_or]
  exact ⟨by omega, fun hk => by have := h.sl.lt _ hk; omega⟩)
 have g22 := (YY f2 l2).trans g2
 simp only [sA, zb, Nat.reduceEqDiff, Cells.get, getN, reduceCtorEq, ldA, DS.read, Cells.take, gS2, g22]
 refine W.mono (hb d s2 o bv2 (bs ++ ea x.1) _ x.2 (hDg.same lg YY) lg O2 (X2.good ((X1 []).good hG)) (sb.stab _ _ _ _ _ hrb YY) hx.2 (by rw [List.length_append]; omega)) ?_
 rintro ⟨v3, s3⟩ h3
 have hv3 := h3.val
 simp only at hv3
 subst hv3
 have X12 : Ext (o :: blk bv) s s2 := (X1 _).trans' X2
 have h4 := W2.next X12 (fun k hk => by
  rcases b2 k hk with h | h
  · exact .inl h
  · exact .inr (Nat.le_trans (X1 []).le h)) h3
 simp only [sA, za, ze]
 refine hQ _ ?_
 rw [← List.append_assoc]
 exact h4
def Xv {α : Type} (e : α → List Int) (xs : List α) : List Int := xs.flatMap e
structure NS (s0 : DS) (o c1 f1 : Nat) (bv v : Value) (bs : List Int) (e : Int → List Int) (xs : List Int) (n : Nat) (y : St) : Prop where
 ex : ∃ j : Nat, n = xs.length - j ∧ j ≤ xs.length ∧ y.defers = [] ∧ (y.t.get 0 = some (.pointer (some ⟨o, 0, none⟩)) ∧ y.t.get 1 = some v ∧ y.t.get 3 = some (.pointer (some ⟨f1, 0, none⟩)) ∧ y.t.get 6 = some (.int .i64 (j : Int))) ∧
  y.s.Good ∧ W2 s0 o bv (bs ++ Xv e (xs.take j)) (.tuple #[], y.s)
theorem DR {c1 f1 : Nat} {cp cg fp fg : Value} {n : Nat} {Dc Df : List (Nat × DObj)} {Ok : Int → Prop} {e : Int → List Int}
 (hc : Zg E n cp Dc Jg (Xk 2 4096) (fun x => leB x 2)) (hf : Zg E n fp Df Jg Ok e) (hcode : E.fn 94 = some d94) (hintr : E.intr 94 = none) :
 Zg E (n + 1) (.func (.func 94) #[] #[.pointer (some ⟨c1, 0, none⟩), .pointer (some ⟨f1, 0, none⟩)]) ((c1, .cells (.list [cp, cg]) false) :: (f1, .cells (.list [fp, fg]) false) :: (Dc ++ Df)) GY (fun xs => xs.length ≤ 4096 ∧ ∀ x, x ∈ xs → Ok x) (fun xs => leB xs.length 2 ++ Xv e xs) := by
 intro d s o bv bs v xs hD hb2 h hG hv hx hlen
 have g1 := hD _ (List.mem_cons_self ..)
 have g2 := hD (f1, _) (List.mem_cons_of_mem _ (List.mem_cons_self ..))
 have l1 := hb2 _ (List.mem_cons_self ..)
 have l2 := hb2 (f1, _) (List.mem_cons_of_mem _ (List.mem_cons_self ..))
 simp only at g1 g2 l1 l2
 have hDc : Zo s Dc := hD.sub fun p hp => List.mem_cons_of_mem _ (List.mem_cons_of_mem _ (List.mem_append_left _ hp))
 have hDf : Zo s Df := hD.sub fun p hp => List.mem_cons_of_mem _ (List.mem_cons_of_mem _ (List.mem_append_right _ hp))
 have lc : ∀ p, p ∈ Dc → p.1 < o := fun p hp => hb2 p (List.mem_cons_of_mem _ (List.mem_cons_of_mem _ (List.mem_append_left _ hp)))
 have lf : ∀ p, p ∈ Df → p.1 < o := fun p hp => hb2 p (List.mem_cons_of_mem _ (List.mem_cons_of_mem _ (List.mem_append_right _ hp)))
 have hol := DS.get_lt' h.go
 have hlf := hC.lf
 have hvl := hv.1.shape
 obtain ⟨va, vc, hvv⟩ := hvl
 rw [List.length_append, zB] at hlen
 refine zp fun Q hQ => ?_
 show W (dcall E ((d + n) + 1) _ _ _) Q
 rw [zZ hintr hcode rfl]
 subst hvv
 simp only [sA, zb, Nat.reduceEqDiff, Cells.get, getN, reduceCtorEq, pp, pv, pw, pg, d94, g1]
 refine W.mono (hc d s o bv bs _ (xs.length : Int) hDc lc h hG rfl (.inr ⟨by omega, by omega⟩) (by rw [zB]; omega)) ?_
 rintro ⟨v2, s2⟩ h2
 have hv2 := h2.val
 simp only at hv2
 subst hv2
 simp only [sA]
 have hG2 : s2.Good := by obtain ⟨_, _, _, X, _⟩ := h2; exact X.good hG
 refine Wy (NS s o c1 f1 bv (.slice va xs.length vc) (bs ++ leB xs.length 2) e xs) xs.length (by omega) ⟨0, rfl, Nat.zero_le _, rfl, ?_, hG2, by simpa [Xv] using h2⟩ ?_
 · simp only [sA, Nat.reduceEqDiff, reduceCtorEq]
   rfl
 rintro m ⟨t, s3, ds⟩ hm ⟨j, rfl, hj, hds, ⟨g0, gv, g3, g6⟩, hG3, ⟨_, bv3, O3, X3, b3⟩⟩
 simp only at hds g0 gv g3 g6 hG3 O3 X3 b3
 subst hds
 have Y3 := Y4 h X3
 by_cases c2 : j < xs.length
 · have hx0 : xs[j]? = some xs[j] := List.getElem?_eq_getElem c2
   generalize xs[j] = x0 at hx0
   have hv3 := (Ko.stab _ _ _ _ _ hv Y3).1
   rcases hv3 with ⟨_, h9⟩ | ⟨b, sp, c, cc, ro, h8, k1, k2⟩
   · rw [h9] at c2; exact absurd c2 (by simp)
   cases h8
   have k2 := k2 j x0 hx0
   simp only [Cells.get] at k2
   have e1 : (j : Int) < (xs.length : Int) := by omega
   have go3 := O3.go
   have g23 := (Y3 f1 l2).trans g2
   have w1 : zt .i64 ((j : Int) + 1) = ((j + 1 : Nat) : Int) := by rw [zW (by omega) (by omega)]; omega
   simp only [sA, zb, zo, zm, Nat.reduceEqDiff, Cells.get, getN, reduceCtorEq, g0, gv, g3, g6, e1, go3, c2, g23, k1, k2]
   have hcat : Xv e (xs.take (j + 1)) = Xv e (xs.take j) ++ e x0 := by
    unfold Xv
    rw [List.take_add_one, List.flatMap_append]
    simp [hx0]
   have hle : (Xv e (xs.take (j + 1))).length ≤ (Xv e xs).length := by
    unfold Xv
    have : xs = xs.take (j + 1) ++ xs.drop (j + 1) := (List.take_append_drop _ _).symm
    conv => rhs; rw [this, List.flatMap_append, List.length_append]
    exact Nat.le_add_right _ _
   refine W.mono (hf d s3 o bv3 _ _ x0 (hDf.same lf Y3) lf O3 hG3 rfl (hx.2 _ (List.mem_of_getElem? hx0)) ?_) ?_
   · rw [hcat] at hle
     simp only [List.length_append, zB] at hle ⊢
     omega
   rintro ⟨v4, s4⟩ h4
   have hv4 := h4.val
   simp only at hv4
   subst hv4
   have hG4 : s4.Good := by obtain ⟨_, _, _, X, _⟩ := h4; exact X.good hG3
   simp only [sA, zo, zm, Nat.reduceEqDiff, g0, gv, g3, g6, w1]
   refine ⟨xs.length - (j + 1), by omega, ⟨j + 1, rfl, by omega, rfl, by simp only [sA, Nat.reduceEqDiff, reduceCtorEq, g0, gv, g3, g6], hG4, ?_⟩⟩
   rw [hcat, ← List.append_assoc]
   exact W2.next X3 b3 h4
 · obtain rfl : j = xs.length := by omega
   have e1 : ¬ (xs.length : Int) < (xs.length : Int) := by omega
   simp only [sA, zb, zo, zm, Nat.reduceEqDiff, za, ze, g0, gv, g3, g6, e1]
   refine hQ _ ⟨rfl, ?_⟩
   rw [List.take_length, List.append_assoc] at O3
   exact ⟨bv3, O3, X3, b3⟩
end
section
variable {E : Env} (hC : Ja E) {s : DS} {d : Nat}
include hC
theorem Gv {α β : Type} {n m : Nat} (hm : m ≤ s.next) {va vb : Value} {Ra : Nat → DS → Value → α → Prop} {Rb : Nat → DS → Value → β → Prop} {Oka : α → Prop} {Okb : β → Prop} {ea : α → List Int} {eb : β → List Int}
 (hG : s.Good) (ha : zz E n m s va Ra Oka ea) (hb : zz E n m s vb Rb Okb eb) (hcode : E.fn 58 = some d58) (hintr : E.intr 58 = none)
 (hput : ∀ {f1 f2 : Nat} {fp fg gp gg : Value} {Df Dg : List (Nat × DObj)}, Zg E n fp Df Ra Oka ea → Zg E n gp Dg Rb Okb eb → Zg E (n + 1) (.func (.func 92) #[] #[.pointer (some ⟨f1, 0, none⟩), .pointer (some ⟨f2, 0, none⟩)]) ((f1, .cells (.list [fp, fg]) false) :: (f2, .cells (.list [gp, gg]) false) :: (Df ++ Dg)) (Yv Ra Rb) (fun x => Oka x.1 ∧ Okb x.2) (fun x => ea x.1 ++ eb x.2)) :
 W (dcall E (d + 1) (.func (.func 58) #[] #[]) [va, vb] s) fun r => zz E (n + 1) m r.2 r.1 (Yv Ra Rb) (fun x => Oka x.1 ∧ Okb x.2) (fun x => ea x.1 ++ eb x.2) ∧ Ext [] s r.2 := by
 obtain ⟨f1, a1, b1, g1, p1, q1, D1, rfl, h2, h3, h4⟩ := ha
 obtain ⟨f2, a2, b2, g2, p2, q2, D2, rfl, k2, k3, k4⟩ := hb
 refine zp fun Q hQ => ?_
 rw [zj hintr hcode rfl]
 simp (maxDischargeDepth := 8) only [sA, sM, zb, zk, zH, za, ze, Cells.get, getN, Nat.reduceAdd, zh, zg, Nat.reduceLeDiff, DS.wrC, Cells.size, Cells.fillFrom, Cells.set, zA, zi, pp, pv, pg, DS.read, Cells.take, Nat.reduceLT, d58, hG]
 have X : ∀ o1 o2 o3 o4, Ext [] s ((((s.new o1).new o2).new o3).upd (s.next + 2) o4) := fun _ _ _ _ => (Ext.new.trans' (Ext.new.trans' Ext.new)).trans (Ext.upd (F := [s.next + 2]) (.inl (by simp))) (by simp)
 refine hQ _ ⟨⟨_, _, _, _, _, _, _, rfl, ?_, ?_, hput (f1 := s.next) (f2 := s.next + 1) (fg := .func (.func g1) p1 q1) (gg := .func (.func g2) p2 q2) h4 k4⟩, X _ _ _ _⟩
 · intro p hp
   rcases List.mem_cons.1 hp with rfl | hp
   · simp (maxDischargeDepth := 8) only [sA, sM, Nat.reduceAdd, hG]
   · rcases List.mem_cons.1 hp with rfl | hp
     · simp (maxDischargeDepth := 8) only [sA, sM, Nat.reduceAdd, hG]
     · rcases List.mem_append.1 hp with hp | hp
       · exact (X _ _ _ _).keep (h2 p hp) (by simp)
       · exact (X _ _ _ _).keep (k2 p hp) (by simp)
 · intro p hp
   have hn : ∀ o1 o2 o3 o4, ((((s.new o1).new o2).new o3).upd (s.next + 2) o4).next = s.next + 3 := fun _ _ _ _ => by simp (maxDischargeDepth := 8) only [sA, Nat.reduceAdd, Nat.add_assoc]
   rw [hn]
   rcases List.mem_cons.1 hp with rfl | hp
   · show m ≤ s.next ∧ s.next < s.next + 3; omega
   · rcases List.mem_cons.1 hp with rfl | hp
     · show m ≤ s.next + 1 ∧ s.next + 1 < s.next + 3; omega
     · rcases List.mem_append.1 hp with hp | hp
       · have := h3 p hp; omega
       · have := k3 p hp; omega
theorem Gw {α β : Type} {n m : Nat} (hm : m ≤ s.next) {va vb : Value} {Ra : Nat → DS → Value → α → Prop} {Rb : Nat → DS → Value → β → Prop} {Oka : α → Prop} {Okb : β → Prop} {ea : α → List Int} {eb : β → List Int}
 (hG : s.Good) (ha : zz E n m s va Ra Oka ea) (hb : zz E n m s vb Rb Okb eb) (hcode : E.fn 56 = some d56) (hintr : E.intr 56 = none)
 (hput : ∀ {f1 f2 : Nat} {fp fg gp gg : Value} {Df Dg : List (Nat × DObj)}, Zg E n fp Df Ra Oka ea → Zg E n gp Dg Rb Okb eb → Zg E (n + 1) (.func (.func 85) #[] #[.pointer (some ⟨f1, 0, none⟩), .pointer (some ⟨f2, 0, none⟩)]) ((f1, .cells (.list [fp, fg]) false) :: (f2, .cells (.list [gp, gg]) false) :: (Df ++ Dg)) (Yv Ra Rb) (fun x => Oka x.1 ∧ Okb x.2) (fun x => ea x.1 ++ eb x.2)) :
 W (dcall E (d + 1) (.func (.func 56) #[] #[]) [va, vb] s) fun r => zz E (n + 1) m r.2 r.1 (Yv Ra Rb) (fun x => Oka x.1 ∧ Okb x.2) (fun x => ea x.1 ++ eb x.2) ∧ Ext [] s r.2 := by
 obtain ⟨f1, a1, b1, g1, p1, q1, D1, rfl, h2, h3, h4⟩ := ha
 obtain ⟨f2, a2, b2, g2, p2, q2, D2, rfl, k2, k3, k4⟩ := hb
 refine zp fun Q hQ => ?_
 rw [zj hintr hcode rfl]
 simp (maxDischargeDepth := 8) only [sA, sM, zb, zk, zH, za, ze, Cells.get, getN, Nat.reduceAdd, zh, zg, Nat.reduceLeDiff, DS.wrC, Cells.size, Cells.fillFrom, Cells.set, zA, zi, pp, pv, pg, DS.read, Cells.take, Nat.reduceLT, d56, hG]
 have X : ∀ o1 o2 o3 o4, Ext [] s ((((s.new o1).new o2).new o3).upd (s.next + 2) o4) := fun _ _ _ _ => (Ext.new.trans' (Ext.new.trans' Ext.new)).trans (Ext.upd (F := [s.next + 2]) (.inl (by simp))) (by simp)
 refine hQ _ ⟨⟨_, _, _, _, _, _, _, rfl, ?_, ?_, hput (f1 := s.next) (f2 := s.next + 1) (fg := .func (.func g1) p1 q1) (gg := .func (.func g2) p2 q2) h4 k4⟩, X _ _ _ _⟩
 · intro p hp
   rcases List.mem_cons.1 hp with rfl | hp
   · simp (maxDischargeDepth := 8) only [sA, sM, Nat.reduceAdd, hG]
   · rcases List.mem_cons.1 hp with rfl | hp
     · simp (maxDischargeDepth := 8) only [sA, sM, Nat.reduceAdd, hG]
     · rcases List.mem_append.1 hp with hp | hp
       · exact (X _ _ _ _).keep (h2 p hp) (by simp)
       · exact (X _ _ _ _).keep (k2 p hp) (by simp)
 · intro p hp
   have hn : ∀ o1 o2 o3 o4, ((((s.new o1).new o2).new o3).upd (s.next + 2) o4).next = s.next + 3 := fun _ _ _ _ => by simp (maxDischargeDepth := 8) only [sA, Nat.reduceAdd, Nat.add_assoc]
   rw [hn]
   rcases List.mem_cons.1 hp with rfl | hp
   · show m ≤ s.next ∧ s.next < s.next + 3; omega
   · rcases List.mem_cons.1 hp with rfl | hp
     · show m ≤ s.next + 1 ∧ s.next + 1 < s.next + 3; omega
     · rcases List.mem_append.1 hp with hp | hp
       · have := h3 p hp; omega
       · have := k3 p hp; omega
theorem Gx {α β : Type} {n m : Nat} (hm : m ≤ s.next) {va vb : Value} {Ra : Nat → DS → Value → α → Prop} {Rb : Nat → DS → Value → β → Prop} {Oka : α → Prop} {Okb : β → Prop} {ea : α → List Int} {eb : β → List Int}
 (hG : s.Good) (ha : zz E n m s va Ra Oka ea) (hb : zz E n m s vb Rb Okb eb) (hcode : E.fn 52 = some d52) (hintr : E.intr 52 = none)
 (hput : ∀ {f1 f2 : Nat} {fp fg gp gg : Value} {Df Dg : List (Nat × DObj)}, Zg E n fp Df Ra Oka ea → Zg E n gp Dg Rb Okb eb → Zg E (n + 1) (.func (.func 80) #[] #[.pointer (some ⟨f1, 0, none⟩), .pointer (some ⟨f2, 0, none⟩)]) ((f1, .cells (.list [fp, fg]) false) :: (f2, .cells (.list [gp, gg]) false) :: (Df ++ Dg)) (Yv Ra Rb) (fun x => Oka x.1 ∧ Okb x.2) (fun x => ea x.1 ++ eb x.2)) :
 W (dcall E (d + 1) (.func (.func 52) #[] #[]) [va, vb] s) fun r => zz E (n + 1) m r.2 r.1 (Yv Ra Rb) (fun x => Oka x.1 ∧ Okb x.2) (fun x => ea x.1 ++ eb x.2) ∧ Ext [] s r.2 := by
 obtain ⟨f1, a1, b1, g1, p1, q1, D1, rfl, h2, h3, h4⟩ := ha
 obtain ⟨f2, a2, b2, g2, p2, q2, D2, rfl, k2, k3, k4⟩ := hb
 refine zp fun Q hQ => ?_
 rw [zj hintr hcode rfl]
 simp (maxDischargeDepth := 8) only [sA, sM, zb, zk, zH, za, ze, Cells.get, getN, Nat.reduceAdd, zh, zg, Nat.reduceLeDiff, DS.wrC, Cells.size, Cells.fillFrom, Cells.set, zA, zi, pp, pv, pg, DS.read, Cells.take, Nat.reduceLT, d52, hG]
 have X : ∀ o1 o2 o3 o4, Ext [] s ((((s.new o1).new o2).new o3).upd (s.next + 2) o4) := fun _ _ _ _ => (Ext.new.trans' (Ext.new.trans' Ext.new)).trans (Ext.upd (F := [s.next + 2]) (.inl (by simp))) (by simp)
 refine hQ _ ⟨⟨_, _, _, _, _, _, _, rfl, ?_, ?_, hput (f1 := s.next) (f2 := s.next + 1) (fg := .func (.func g1) p1 q1) (gg := .func (.func g2) p2 q2) h4 k4⟩, X _ _ _ _⟩
 · intro p hp
   rcases List.mem_cons.1 hp with rfl | hp
   · simp (maxDischargeDepth := 8) only [sA, sM, Nat.reduceAdd, hG]
   · rcases List.mem_cons.1 hp with rfl | hp
     · simp (maxDischargeDepth := 8) only [sA, sM, Nat.reduceAdd, hG]
     · rcases List.mem_append.1 hp with hp | hp
       · exact (X _ _ _ _).keep (h2 p hp) (by simp)
       · exact (X _ _ _ _).keep (k2 p hp) (by simp)
 · intro p hp
   have hn : ∀ o1 o2 o3 o4, ((((s.new o1).new o2).new o3).upd (s.next + 2) o4).next = s.next + 3 := fun _ _ _ _ => by simp (maxDischargeDepth := 8) only [sA, Nat.reduceAdd, Nat.add_assoc]
   rw [hn]
   rcases List.mem_cons.1 hp with rfl | hp
   · show m ≤ s.next ∧ s.next < s.next + 3; omega
   · rcases List.mem_cons.1 hp with rfl | hp
     · show m ≤ s.next + 1 ∧ s.next + 1 < s.next + 3; omega
     · rcases List.mem_append.1 hp with hp | hp
       · have := h3 p hp; omega
       · have := k3 p hp; omega
theorem Gh {n m : Nat} (hm : m ≤ s.next) {v : Value} {Ok : Int → Prop} {e : Int → List Int}
 (hG : s.Good) (ha : zz E n m s v Jg Ok e) (hn : 3 ≤ n) (hcode : E.fn 59 = some d59) (hintr : E.intr 59 = none) (hcode1 : E.fn 94 = some d94) (hintr1 : E.intr 94 = none) :
 W (dcall E (d + 2) (.func (.func 59) #[] #[]) [v] s) fun r => zz E (n + 1) m r.2 r.1 GY (fun xs => xs.length ≤ 4096 ∧ ∀ x, x ∈ xs → Ok x) (fun xs => leB xs.length 2 ++ Xv e xs) ∧ Ext [] s r.2 := by
 obtain ⟨f1, a1, b1, g1, p1, q1, D1, rfl, h2, h3, h4⟩ := ha
 refine zp fun Q hQ => ?_
 rw [zj hintr hcode rfl]
 simp (maxDischargeDepth := 8) only [sA, sM, zb, zH, Cells.get, getN, pp, d59, hG]
 obtain ⟨S, hS⟩ : ∃ S : DS, S = (s.new (.cells (.list [.func (.func f1) a1 b1, .func (.func g1) p1 q1]) false)).new (.cells (.list [.nilFunc, .nilFunc]) false) := ⟨_, rfl⟩
 rw [← hS]
 have XS : Ext [] s S := by rw [hS]; exact Ext.new.trans' Ext.new
 have nS : S.next = s.next + 2 := by rw [hS]; simp (maxDischargeDepth := 8) only [Nat.reduceAdd, z8, Nat.add_assoc]
 have hGS := XS.good hG
 have S0 : S.get s.next = some (.cells (.list [.func (.func f1) a1 b1, .func (.func g1) p1 q1]) false) := by rw [hS]; simp (maxDischargeDepth := 8) only [sM, z8, hG]
 have S1 : S.get (s.next + 1) = some (.cells (.list [.nilFunc, .nilFunc]) false) := by rw [hS]; simp (maxDischargeDepth := 8) only [sM, z8, hG]
 have wS : S.wr (s.next + 1) = true := XS.wrs (hG _ (by omega)).2
 refine W.mono (XL hC hGS 2 4096) ?_
 rintro ⟨v2, s2⟩ ⟨hv2, n1, n2, X2, hn2⟩
 simp only at hv2 n1 n2 X2 hn2
 subst hv2
 have hG2 := X2.good hGS
 have T1 := X2.keep S1 (by simp)
 have wT := X2.wrs wS
 have hlt : s.next + 1 < s2.next := by omega
 rw [nS] at n1 n2 hn2 ⊢
 simp (maxDischargeDepth := 8) only [sA, sM, zk, za, ze, Cells.get, getN, Nat.reduceAdd, zh, zg, Nat.reduceLeDiff, DS.wrC, Cells.size, Cells.fillFrom, Cells.set, zA, zi, DS.read, Cells.take, Nat.reduceLT, hG2, T1, wT, hlt]
 refine hQ _ ⟨⟨_, _, _, _, _, _, (s2.next, .cells (.list [.func (.func 120) #[] #[.pointer (some ⟨s.next + 2, 0, none⟩), .pointer (some ⟨s.next + 3, 0, none⟩)], .func (.func 122) #[] #[.pointer (some ⟨s.next + 2, 0, none⟩), .pointer (some ⟨s.next + 3, 0, none⟩)]]) false) :: (s.next, .cells (.list [.func (.func f1) a1 b1, .func (.func g1) p1 q1]) false) :: ([(s.next + 2, .cells (.list [.int .i64 ((2 : Nat) : Int)]) false), (s.next + 3, .cells (.list [.int .i64 4096]) false)] ++ D1), rfl, ?_, ?_, DR hC ((QO hC (b1 := s.next + 2) (b2 := s.next + 3) (size := 2) (most := 4096) (by omega)).mono hn) h4 hcode1 hintr1⟩, ?_⟩
 · intro p hp
   rcases List.mem_cons.1 hp with rfl | hp
   · simp (maxDischargeDepth := 8) only [sA, ZD, hG2, show ¬ s2.next = s.next + 1 by omega]
   · rcases List.mem_cons.1 hp with rfl | hp
     · simp (maxDischargeDepth := 8) only [sA, sM, hG2, show ¬ s.next = s2.next by omega, show s.next < s2.next by omega, X2.keep S0 (by simp)]
     · rcases List.mem_append.1 hp with hp | hp
       · rcases List.mem_cons.1 hp with rfl | hp
         · simp (maxDischargeDepth := 8) only [sA, sM, hG2, show ¬ s.next + 2 = s2.next by omega, show s.next + 2 < s2.next by omega, n1]
           rfl
         · rcases List.mem_cons.1 hp with rfl | hp
           · simp (maxDischargeDepth := 8) only [sA, sM, Nat.reduceLT, hG2, show ¬ s.next + 3 = s2.next by omega, show s.next + 3 < s2.next by omega, n2]
           · cases hp
       · have h5 := h3 p hp
         have h6 := X2.keep (XS.keep (h2 p hp) (by simp)) (by simp)
         simp (maxDischargeDepth := 8) only [sA, YM, hG2, show ¬ p.1 = s2.next by omega, show ¬ p.1 = s.next + 1 by omega, show p.1 < s2.next by omega, h6]
 · intro p hp
   have hfin : m ≤ p.1 ∧ p.1 < s2.next + 1 := by
    rcases List.mem_cons.1 hp with rfl | hp
    · show m ≤ s2.next ∧ s2.next < s2.next + 1; omega
    · rcases List.mem_cons.1 hp with rfl | hp
      · show m ≤ s.next ∧ s.next < s2.next + 1; omega
      · rcases List.mem_append.1 hp with hp | hp
        · rcases List.mem_cons.1 hp with rfl | hp
          · show m ≤ s.next + 2 ∧ s.next + 2 < s2.next + 1; omega
          · rcases List.mem_cons.1 hp with rfl | hp
            · show m ≤ s.next + 3 ∧ s.next + 3 < s2.next + 1; omega
            · cases hp
        · have h5 := h3 p hp; omega
   simp (maxDischargeDepth := 8) only [sA]
   exact hfin
 · have X3 := XS.trans' X2
   have X4 : Ext [s2.next, s.next + 1] s2 (((s2.new (.cells (.list [.nilFunc, .nilFunc]) false)).upd s2.next (.cells (.list [.func (.func 120) #[] #[.pointer (some ⟨s.next + 2, 0, none⟩), .pointer (some ⟨s.next + 3, 0, none⟩)], .func (.func 122) #[] #[.pointer (some ⟨s.next + 2, 0, none⟩), .pointer (some ⟨s.next + 3, 0, none⟩)]]) false)).upd (s.next + 1) (.cells (.list [.func (.func 94) #[] #[.pointer (some ⟨s2.next, 0, none⟩), .pointer (some ⟨s.next, 0, none⟩)], .func (.func 95) #[] #[.pointer (some ⟨s2.next, 0, none⟩), .pointer (some ⟨s.next, 0, none⟩)]]) false)) := Ext.new.trans' ((Ext.upd (.inl (by simp))).trans' (Ext.upd (.inl (by simp))))
   exact X3.trans X4 (by simp; omega)
theorem Cp (hG : s.Good) {m : Nat} (hm : m ≤ s.next) (hblob : E.fn 57 = some d57) (iblob : E.intr 57 = none) (h1 : E.fn 87 = some d87) (i1 : E.intr 87 = none) :
 W (dcall E (d + 2) (.func (.func 57) #[] #[]) [] s) fun r => zz E 4 m r.2 r.1 TQ (fun x => x.length ≤ 65536) FU ∧ Ext [] s r.2 := by
 refine zp fun Q hQ => ?_
 rw [zj iblob hblob rfl]
 simp (maxDischargeDepth := 8) only [sA, pp, d57, hG]
 obtain ⟨S, hS⟩ : ∃ S : DS, S = s.new (.cells (.list [.nilFunc, .nilFunc]) false) := ⟨_, rfl⟩
 rw [← hS]
 have XS : Ext [] s S := by rw [hS]; exact Ext.new
 have nS : S.next = s.next + 1 := by rw [hS]; simp (maxDischargeDepth := 8) only [z8]
 have hGS := XS.good hG
 have S0 : S.get s.next = some (.cells (.list [.nilFunc, .nilFunc]) false) := by rw [hS]; simp (maxDischargeDepth := 8) only [ZD, hG]
 have wS : S.wr s.next = true := XS.wrs (hG _ (Nat.le_refl _)).2
 clear hS
 refine W.mono (XL hC (d := d) hGS 4 65536) ?_
 rintro ⟨v2, s2⟩ ⟨hv2, n1, n2, X2, hn2⟩
 simp only at hv2 n1 n2 X2 hn2
 subst hv2
 have hG2 := X2.good hGS
 have T0 := X2.keep S0 (by simp)
 have wT := X2.wrs wS
 rw [nS] at n1 n2 hn2 ⊢
 have hlt : s.next < s2.next := by omega
 simp (maxDischargeDepth := 8) only [sA, sM, zk, za, ze, Cells.get, getN, Nat.reduceAdd, zh, zg, Nat.reduceLeDiff, DS.wrC, Cells.size, Cells.fillFrom, Cells.set, zA, zi, DS.read, Cells.take, Nat.reduceLT, hG2, T0, wT, hlt]
 have X4 : ∀ o1 o2 o3, Ext [] s (((s2.new o1).upd s2.next o2).upd s.next o3) := fun o1 o2 o3 => by
  have e1 : Ext [] s2 (s2.new o1) := Ext.new
  have e2 : Ext [s2.next] (s2.new o1) ((s2.new o1).upd s2.next o2) := Ext.upd (.inl (by simp))
  have e3 : Ext [s.next] ((s2.new o1).upd s2.next o2) (((s2.new o1).upd s2.next o2).upd s.next o3) := Ext.upd (.inl (by simp))
  exact ((XS.trans' X2).trans' (e1.trans e2 (by simp))).trans e3 (by simp)
 refine hQ _ ⟨⟨_, _, _, _, _, _, (s2.next, .cells (.list [.func (.func 120) #[] #[.pointer (some ⟨s.next + 1, 0, none⟩), .pointer (some ⟨s.next + 1 + 1, 0, none⟩)], .func (.func 122) #[] #[.pointer (some ⟨s.next + 1, 0, none⟩), .pointer (some ⟨s.next + 1 + 1, 0, none⟩)]]) false) :: [(s.next + 1, .cells (.list [.int .i64 ((4 : Nat) : Int)]) false), (s.next + 1 + 1, .cells (.list [.int .i64 65536]) false)], rfl, fun p hp => ?_, fun p hp => ?_, Pl hC (QO hC (b1 := s.next + 1) (b2 := s.next + 1 + 1) (size := 4) (most := 65536) (by omega)) (by omega) h1 i1⟩, X4 _ _ _⟩
 · rcases List.mem_cons.1 hp with rfl | hp
   · simp (maxDischargeDepth := 8) only [sA, sM, Nat.reduceAdd, hG2, show ¬ s2.next = s.next by omega]
   · rcases List.mem_cons.1 hp with rfl | hp
     · simp (maxDischargeDepth := 8) only [sA, YM, hG2, show ¬ s.next + 1 = s.next by omega, show ¬ s.next + 1 = s2.next by omega, show s.next + 1 < s2.next by omega, n1]
       rfl
     · rcases List.mem_cons.1 hp with rfl | hp
       · simp (maxDischargeDepth := 8) only [sA, sM, Nat.reduceAdd, hG2, show ¬ s.next + 1 + 1 = s.next by omega, show ¬ s.next + 1 + 1 = s2.next by omega, show s.next + 1 + 1 < s2.next by omega, n2]
       · cases hp
 · have : m ≤ p.1 ∧ p.1 < s2.next + 1 := by
    rcases List.mem_cons.1 hp with rfl | hp
    · show m ≤ s2.next ∧ s2.next < s2.next + 1; omega
    · rcases List.mem_cons.1 hp with rfl | hp
      · show m ≤ s.next + 1 ∧ s.next + 1 < s2.next + 1; omega
      · rcases List.mem_cons.1 hp with rfl | hp
        · show m ≤ s.next + 1 + 1 ∧ s.next + 1 + 1 < s2.next + 1; omega
        · cases hp
   simp (maxDischargeDepth := 8) only [sA]
   exact this
theorem FT {α : Type} {n m : Nat} {fv xv : Value} {Rep : Nat → DS → Value → α → Prop} {Ok : α → Prop} {enc : α → List Int} {x : α} {x1 x2 x9 : Int} {x3 x6 : Option Addr} {x4 x5 x7 x8 : Nat} (hG : s.Good) (hf : zz E n m s fv Rep Ok enc) (hr : Rep s.next s xv x) (hst : Zu Rep) (hok : Ok x) (hlen : (enc x).length ≤ 1048576)
 (hxv : xv = .agg ⟨[.int .i64 x1, .int .i64 x2, .slice x3 x4 x5, .slice x6 x7 x8, .int .i64 x9]⟩) (hcode : E.fn 25 = some d25) (hintr : E.intr 25 = none) (hclip : E.fn 51 = some d51) (iclip : E.intr 51 = none) :
 W (dcall E ((d + n + 1) + 1) (.func (.func 25) #[] #[]) [fv, xv] s) fun r => ∃ w, r.1 = .tuple ⟨[w, .int .i64 0]⟩ ∧ SlV r.2 1 w (zI (enc x)) ∧ (∃ a, w = .slice a (enc x).length (enc x).length ∧ ∀ z, a = some z → z.spot = none) ∧ (∀ k, k ∈ blk w → s.next ≤ k ∧ k < r.2.next) ∧ Ext [] s r.2 := by
 obtain ⟨f, a, b, g, a', b', D, rfl, h2, h3, h4⟩ := hf
 subst hxv
 refine zp fun Q hQ => ?_
 rw [zj hintr hcode rfl]
 simp (maxDischargeDepth := 8) only [sA, sM, zb, zH, Cells.get, getN, Nat.reduceAdd, zi, pp, pv, ldA, DS.read, Cells.take, Nat.reduceLT, d25, hG]
 obtain ⟨S, hS⟩ : ∃ S : DS, S = ((s.new (.cells (.list [.func (.func f) a b, .func (.func g) a' b']) false)).new (.cells (.list [.int .i64 x1, .int .i64 x2, .slice x3 x4 x5, .slice x6 x7 x8, .int .i64 x9]) false)).new (.cells (.list [.slice none 0 0, .int .i64 0]) false) := ⟨_, rfl⟩
 rw [← hS]
 have XS : Ext [] s S := by rw [hS]; exact Ext.new.trans' (Ext.new.trans' Ext.new)
 have nS : S.next = s.next + 3 := by rw [hS]; simp (maxDischargeDepth := 8) only [Nat.reduceAdd, z8, Nat.add_assoc]
 have hGS := XS.good hG
 have S0 : S.get s.next = some (.cells (.list [.func (.func f) a b, .func (.func g) a' b']) false) := by rw [hS]; simp (maxDischargeDepth := 8) only [sM, Nat.reduceAdd, z8, hG]
 have S1 : S.get (s.next + 1) = some (.cells (.list [.int .i64 x1, .int .i64 x2, .slice x3 x4 x5, .slice x6 x7 x8, .int .i64 x9]) false) := by rw [hS]; simp (maxDischargeDepth := 8) only [sM, Nat.reduceAdd, z8, hG]
 have S2 : S.get (s.next + 2) = some (.cells (.list [.slice none 0 0, .int .i64 0]) false) := by rw [hS]; simp (maxDischargeDepth := 8) only [sM, Nat.reduceAdd, z8, hG]
 have O : Xu S (s.next + 2) (.slice none 0 0) [] := ⟨S2, XS.wrs (hG _ (by omega)).2, by simpa [zI] using SlC.nil, by simp [blk], by simp⟩
 have hY : Same (s.next) s S := fun k hk => XS.get k hk (by simp)
 have hld : ldA 5 (.pointer (some ⟨s.next + 1, 0, none⟩)) S = some (.agg ⟨[.int .i64 x1, .int .i64 x2, .slice x3 x4 x5, .slice x6 x7 x8, .int .i64 x9]⟩) := by
  unfold ldA DS.read
  simp only [S1]
  rfl
 rw [show d + (n + 1) = (d + 1) + n by omega]
 refine W.mono (h4 (d + 1) S (s.next + 2) _ [] _ x (h2.keep XS (by simp)) (fun p hp => by have := h3 p hp; omega) O hGS (hst.mono _ _ _ _ _ (hst.stab _ _ _ _ _ hr hY) (by omega)) hok (by simpa using hlen)) ?_
 rintro ⟨v3, s3⟩ ⟨hv3, bv3, O3, X3, b3⟩
 simp only at hv3 O3 X3 b3
 subst hv3
 rw [List.nil_append] at O3
 have go3 := O3.go
 obtain ⟨w, hw1, hw2, hw3, hw4⟩ := Th hC (d := d + n) O3.sl hclip iclip
 rw [show (d + n) + 1 = (d + 1) + n by omega] at hw1
 simp only [sA, zb, zo, zm, Nat.reduceEqDiff, za, ze, Cells.get, getN, go3, hw1]
 have X4 : Ext [] s s3 := XS.trans X3 (by simp [blk])
 refine hQ _ ⟨w, rfl, hw2, hw3, fun k hk => ?_, X4⟩
 rw [hw4] at hk
 refine ⟨?_, O3.sl.lt k hk⟩
 have := O3.up k hk
 omega
end
end Go.Dx.TbA
namespace Go.Dx.TbA
open Go Go.Dx Go.Dx.Tab Go.Proofs.YthmgnfeljhdioaaGreat
def SY : Nat → DS → Value → List Int × Int → Prop := Yv GY Jg
def Rg : Nat → DS → Value → List Int × (List Int × Int) → Prop := Yv TQ SY
def PZ : Nat → DS → Value → Yn → Prop := Yv G8 Rg
theorem GW : Zu SY := Wk Ko Yj
theorem Fa : Zu Rg := Wk Ga GW
theorem PY : Zu PZ := Wk XX Fa
theorem GV : ∀ (o : Nat) (s : DS) (v : Value) (x : List Int × Int), SY o s v x → ∃ b n c q, v = .agg ⟨[.slice b n c, .int .i64 q]⟩ := fun o s v x ⟨a, b, e, h1, h2⟩ => by
 have h2 : b = _ := h2
 obtain ⟨b', n', c', rfl⟩ := GX _ _ _ _ h1
 subst h2
 exact ⟨_, _, _, _, e⟩
theorem Rf : ∀ (o : Nat) (s : DS) (v : Value) (x : List Int × (List Int × Int)), Rg o s v x → ∃ b n c b2 n2 c2 q, v = .agg ⟨[.slice b n c, .slice b2 n2 c2, .int .i64 q]⟩ := fun o s v x ⟨a, b, e, h1, h2⟩ => by
 obtain ⟨b', n', c', rfl⟩ := CG _ _ _ _ h1
 obtain ⟨b2, n2, c2, q, rfl⟩ := GV _ _ _ _ h2
 exact ⟨_, _, _, _, _, _, _, e⟩
def okQ (x : Yn) : Prop := (Xk 1 255 x.1.1 ∧ Xk 8 0 x.1.2) ∧ (x.2.1.length ≤ 65536 ∧ ((x.2.2.1.length ≤ 4096 ∧ ∀ a, a ∈ x.2.2.1 → Xk 8 0 a) ∧ Xk 8 0 x.2.2.2))
def YE (x : Yn) : List Int := (leB x.1.1 1 ++ leB x.1.2 8) ++ (FU x.2.1 ++ ((leB x.2.2.1.length 2 ++ Xv (fun a => leB a 8) x.2.2.1) ++ leB x.2.2.2 8))
theorem Dd : ∀ l : List Int, (Xv (fun a => leB a 8) l).length = l.length * 8
 | [] => rfl
 | a :: l => by
  have := Dd l
  unfold Xv at this ⊢
  rw [List.flatMap_cons, List.length_append, zB, this, List.length_cons]
  omega
theorem KU {x : Yn} (h : XT x) : (YE x).length ≤ 20000 := by
 obtain ⟨_, h1, h2, _⟩ := h
 unfold YE FU
 simp only [List.length_append, zB, Dd]
 omega
theorem XT.ok {x : Yn} (h : XT x) : okQ x := by
 obtain ⟨⟨h1, h2, h3, h4⟩, h5, h6, h7, h8⟩ := h
 exact ⟨⟨.inr ⟨h1, by omega⟩, .inl rfl⟩, by omega, ⟨by omega, fun _ _ => .inl rfl⟩, .inl rfl⟩
section
variable {E : Env} (hC : Ja E) (hE : PM E) (hQf : PL E) (hW : Mj E) {s : DS} {d : Nat}
include hC hE hQf hW
theorem TT (hG : s.Good) : W (dcall E (d + 3) (.func (.func 26) #[] #[]) [] s) fun r => zz E 7 s.next r.2 r.1 PZ okQ YE ∧ Ext [] s r.2 := by
 refine zp fun Q hQ => ?_
 rw [zj hQf.iqform hQf.fqform rfl]
 simp (maxDischargeDepth := 8) only [sA, pp, d26, hG]
 have h0 : ∀ o, (s.new o).get s.next = some o := fun o => DS.new_get_self hG
 have w0 : (s.new (.cells (.list [.nilFunc, .nilFunc]) false)).wr s.next = true := (hG _ (Nat.le_refl _)).2
 have l0 : s.next + 1 ≤ (s.new (.cells (.list [.nilFunc, .nilFunc]) false)).next := Nat.le_refl _
 have hG0 := DS.new_good (o := .cells (.list [.nilFunc, .nilFunc]) false) hG
 refine W.mono (WV hC (m := s.next + 1) hG0 l0 hE.fbyte hE.ibyte) ?_
 rintro ⟨v1, s1⟩ ⟨q1, X1⟩
 simp only at q1 X1
 have hG1 := X1.good hG0
 have l1 := Nat.le_trans l0 X1.le
 simp only [sA]
 refine W.mono (Ys hC (m := s.next + 1) hG1 l1 hE.fint hE.iint) ?_
 rintro ⟨v2, s2⟩ ⟨q2, X2⟩
 simp only at q2 X2
 have hG2 := X2.good hG1
 have l2 := Nat.le_trans l1 X2.le
 simp only [sA, Nat.reduceEqDiff]
 refine W.mono (Wv hC l2 hG2 (q1.keep X2) q2 hE.fII hE.iII fun ha hb => QD hC ha hb Yj Yj (fun _ _ _ x h => ⟨x, h⟩) (fun _ _ _ x h => ⟨x, h⟩) hE.fII1 hE.iII1) ?_
 rintro ⟨v3, s3⟩ ⟨q3, X3⟩
 simp only at q3 X3
 have hG3 := X3.good hG2
 have l3 := Nat.le_trans l2 X3.le
 simp only [sA]
 refine W.mono (Cp hC hG3 l3 hQf.fblob hQf.iblob hW.fblob1 hW.iblob1) ?_
 rintro ⟨v4, s4⟩ ⟨q4, X4⟩
 simp only at q4 X4
 have hG4 := X4.good hG3
 have l4 := Nat.le_trans l3 X4.le
 simp only [sA]
 refine W.mono (Ys hC (m := s.next + 1) hG4 l4 hE.fint hE.iint) ?_
 rintro ⟨v5, s5⟩ ⟨q5, X5⟩
 simp only at q5 X5
 have hG5 := X5.good hG4
 have l5 := Nat.le_trans l4 X5.le
 simp only [sA]
 refine W.mono (Gh hC l5 hG5 q5 (Nat.le_refl _) hQf.fmanyI hQf.imanyI hW.fmanyI1 hW.imanyI1) ?_
 rintro ⟨v6, s6⟩ ⟨q6, X6⟩
 simp only at q6 X6
 have hG6 := X6.good hG5
 have l6 := Nat.le_trans l5 X6.le
 simp only [sA]
 refine W.mono (Ys hC (m := s.next + 1) hG6 l6 hE.fint hE.iint) ?_
 rintro ⟨v7, s7⟩ ⟨q7, X7⟩
 simp only at q7 X7
 have hG7 := X7.good hG6
 have l7 := Nat.le_trans l6 X7.le
 simp only [sA, Nat.reduceEqDiff]
 refine W.mono (Gv hC l7 hG7 (q6.keep X7) (q7.mono (show 3 ≤ 4 by omega)) hQf.fbLI hQf.ibLI fun ha hb => Cj hC ha hb Ko Yj GX (fun _ _ _ x h => ⟨x, h⟩) hW.fbLI1 hW.ibLI1) ?_
 rintro ⟨v8, s8⟩ ⟨q8, X8⟩
 simp only at q8 X8
 have hG8 := X8.good hG7
 have l8 := Nat.le_trans l7 X8.le
 simp only [sA, Nat.reduceEqDiff]
 refine W.mono (Gw hC l8 hG8 ((q4.keep (X5.trans' (X6.trans' (X7.trans' X8)))).mono (show 4 ≤ 5 by omega)) q8 hQf.fbBP hQf.ibBP fun ha hb => Cl hC ha hb Ga GW CG GV hW.fbBP1 hW.ibBP1) ?_
 rintro ⟨v9, s9⟩ ⟨q9, X9⟩
 simp only at q9 X9
 have hG9 := X9.good hG8
 have l9 := Nat.le_trans l8 X9.le
 simp only [sA, Nat.reduceEqDiff]
 have X39 := X4.trans' (X5.trans' (X6.trans' (X7.trans' (X8.trans' X9))))
 refine W.mono (Gx hC l9 hG9 ((q3.keep X39).mono (show 4 ≤ 6 by omega)) q9 hQf.fbQ hQf.ibQ fun ha hb => Cn hC ha hb XX Fa WR Rf hW.fbQ1 hW.ibQ1) ?_
 rintro ⟨vb, sb⟩ ⟨qb, Xb⟩
 simp only at qb Xb
 have X0b := (X1.trans' (X2.trans' X3)).trans' (X39.trans' Xb)
 have g6 := X0b.keep (h0 _) (by simp)
 have w6 := X0b.wrs w0
 obtain ⟨f, a, b, g, a', b', D, rfl, k2, k3, k4⟩ := qb
 simp (maxDischargeDepth := 8) only [sA, sM, zk, za, ze, Cells.get, getN, Nat.reduceAdd, zh, zg, DS.wrC, Cells.size, Cells.fillFrom, Cells.set, zA, DS.read, Cells.take, g6, w6]
 have XF : ∀ o, Ext [] s (sb.upd s.next o) := fun o => (Ext.new.trans' X0b).trans (Ext.upd (F := [s.next]) (.inl (by simp))) (by simp)
 refine hQ _ ⟨⟨f, a, b, g, a', b', D, rfl, fun p hp => ?_, fun p hp => ?_, k4⟩, XF _⟩
 · have := (k3 p hp).1
   simp (maxDischargeDepth := 8) only [sA, k2 p hp, show ¬ p.1 = s.next by omega]
 · have := k3 p hp
   simp (maxDischargeDepth := 8) only [DS.upd_next]
   omega
theorem DK (hT : GD E) {n : Nat} {cs : List Value} {x : Yn} (hG : s.Good) (hr : Yu n s cs x) :
 W (dcall E (d + 10) (.func (.func 7) #[] #[]) [.agg ⟨cs⟩] s) fun p => Ext [] s p.2 ∧ ((¬ XT x ∧ p.1 = .tuple ⟨[.slice none 0 0, .int .i64 1]⟩) ∨
  (XT x ∧ ∃ w, p.1 = .tuple ⟨[w, .int .i64 0]⟩ ∧ SlV p.2 1 w (zI (YE x)) ∧ (∃ a, w = .slice a (YE x).length (YE x).length ∧ ∀ z, a = some z → z.spot = none) ∧ ∀ k, k ∈ blk w → s.next ≤ k ∧ k < p.2.next)) := by
 obtain ⟨b1, c1, b2, c2, rfl, m1, a1⟩ := hr
 refine zp fun Q hQ => ?_
 rw [zj hW.iqEncode hW.fqEncode rfl]
 simp (maxDischargeDepth := 8) only [sA, sM, Cells.get, getN, pp, ldA, DS.read, Cells.take, Nat.reduceLT, d7, hG]
 obtain ⟨S0, hS0⟩ : ∃ S0 : DS, S0 = s.new (.cells (.list [.int .i64 x.1.1, .int .i64 x.1.2, .slice b1 x.2.1.length c1, .slice b2 x.2.2.1.length c2, .int .i64 x.2.2.2]) false) := ⟨_, rfl⟩
 rw [← hS0]
 have X0 : Ext [] s S0 := by rw [hS0]; exact Ext.new
 have hG0 := X0.good hG
 have g0 : S0.get s.next = some (.cells (.list [.int .i64 x.1.1, .int .i64 x.1.2, .slice b1 x.2.1.length c1, .slice b2 x.2.2.1.length c2, .int .i64 x.2.2.2]) false) := by rw [hS0]; simp (maxDischargeDepth := 8) only [ZD, hG]
 clear hS0
 refine W.mono (Gb hT (d := d + 6) hG0 x b1 b2 c1 c2) ?_
 rintro ⟨v1, s1⟩ ⟨h1, X1⟩
 simp only at h1 X1
 subst h1
 have X01 := X0.trans' X1
 have hG1 := X01.good hG
 have g1 := X1.keep g0 (by simp)
 have hl1 : s.next < s1.next := DS.get_lt' g1
 by_cases hmay : XT x
 · rw [decide_eq_true hmay]
   have hb1 : Nat.ble (s1.next + 1) s1.next = false := by rw [Zk]; omega
   have hb2 : Nat.beq s.next s1.next = false := by rw [Zs]; omega
   have hb3 : Nat.ble (s1.next + 1) s.next = false := by rw [Zk]; omega
   simp (maxDischargeDepth := 8) only [sA, sM, zb, Cells.get, getN, Nat.reduceAdd, zh, zg, Nat.reduceLeDiff, DS.wrC, Cells.size, Cells.fillFrom, Cells.set, zA, zi, ldA, foot, hidden, noteAt, DS.read, Cells.take, Nat.reduceLT, hG1, g1, hl1, Fo, Jr, shielded, zO, hb1, hb2, hb3]
   obtain ⟨S3, hS3⟩ : ∃ S3 : DS, S3 = (((((s1.new (.cells (.list [.int .i64 0, .int .i64 0, .slice none 0 0, .slice none 0 0, .int .i64 0]) false)).upd s1.next (.cells (.list [.int .i64 x.1.1, .int .i64 x.1.2, .slice none 0 0, .slice none 0 0, .int .i64 0]) false)).upd s1.next (.cells (.list [.int .i64 x.1.1, .int .i64 x.1.2, .slice b1 x.2.1.length c1, .slice none 0 0, .int .i64 0]) false)).upd s1.next (.cells (.list [.int .i64 x.1.1, .int .i64 x.1.2, .slice b1 x.2.1.length c1, .slice b2 x.2.2.1.length c2, .int .i64 0]) false)).upd s1.next (.cells (.list [.int .i64 x.1.1, .int .i64 x.1.2, .slice b1 x.2.1.length c1, .slice b2 x.2.2.1.length c2, .int .i64 x.2.2.2]) false)) := ⟨_, rfl⟩
   rw [← hS3]
   have X3 : Ext [] s1 S3 := by
    rw [hS3]
    have y : ∀ (S : DS) o, Ext [s1.next] S (S.upd s1.next o) := fun S o => Ext.upd (.inl (by simp))
    exact (Ext.new (F := [])).trans ((y _ _).trans' ((y _ _).trans' ((y _ _).trans' (y _ _)))) (by simp)
   have hG3 := X3.good hG1
   have n3 : S3.next = s1.next + 1 := by rw [hS3]; simp (maxDischargeDepth := 8) only [sA]
   clear hS3
   have hhid : ∀ k, hidden [⟨[s1.next], s1.next + 1, s1.next + 1⟩] [0] k = false := fun k => by (simp only [hidden, shielded, noteAt, zO, Bool.or_false, Bool.or_eq_false_iff, Bool.and_eq_false_iff, Zk, Zv, Zs, true_and, and_true, true_or, or_true] <;> omega)
   refine W.masked (hE.fr _) (TT hC hE hQf hW (d := d + 6) (Yb hG3 fun k hk => ⟨hhid k, ?_⟩)) ?_
   · have : ¬ k = s1.next := by omega
     (simp only [hidden, shielded, noteAt, zO, Bool.or_false, Bool.or_eq_false_iff, Bool.and_eq_false_iff, Zk, Zv, Zs, true_and, and_true, true_or, or_true] <;> omega)
   rintro v4 s4 ⟨h4, X4⟩ df
   simp only at h4 X4
   have X4' := Ext.unmask' X4 df
   obtain ⟨S4, hS4⟩ : ∃ S4 : DS, S4 = Zi S3 s4 := ⟨_, rfl⟩
   have n4 : s4.next = S4.next := by rw [hS4]; rfl
   have h4' : zz E 7 S3.next S4 v4 PZ okQ YE := by
    rw [hS4]
    obtain ⟨f, a, b, g, a', b', D, e1, e2, e3, e4⟩ := h4
    exact ⟨f, a, b, g, a', b', D, e1, fun p hp => (Js hhid X4).trans (e2 p hp), fun p hp => e3 p hp, e4⟩
   rw [← hS4] at X4'
   have hG4 := X4'.good hG3
   simp only [sA, Nat.reduceEqDiff, foot, ← hS4, n4]
   have X04 := X01.trans' (X3.trans' X4')
   have hm4 := m1.1.keep X04 (by simp)
   have ha4 := a1.1.keep X04 (by simp)
   have hmv := hm4.view
   rw [← YV] at hmv
   have hrep : PZ S4.next S4 (.agg ⟨[.int .i64 x.1.1, .int .i64 x.1.2, .slice b1 x.2.1.length c1, .slice b2 x.2.2.1.length c2, .int .i64 x.2.2.2]⟩) x :=
    ⟨.agg ⟨[.int .i64 x.1.1, .int .i64 x.1.2]⟩, .agg ⟨[.slice b1 x.2.1.length c1, .slice b2 x.2.2.1.length c2, .int .i64 x.2.2.2]⟩, rfl, ⟨.int .i64 x.1.1, .int .i64 x.1.2, rfl, rfl, rfl⟩,
     ⟨.slice b1 x.2.1.length c1, .agg ⟨[.slice b2 x.2.2.1.length c2, .int .i64 x.2.2.2]⟩, rfl, ⟨hmv, hm4.lt⟩, ⟨.slice b2 x.2.2.1.length c2, .int .i64 x.2.2.2, rfl, ⟨ha4, ha4.lt⟩, rfl⟩⟩⟩
   have hlen := KU hmay
   refine W.mono (FT hC (d := d) hG4 h4' hrep PY hmay.ok (by omega) rfl hW.fqEncA hW.iqEncA hE.fclip hE.iclip) ?_
   rintro ⟨v5, s5⟩ ⟨w, h5, h6, h7, h8, X5⟩
   simp only at h5 h6 h8 X5
   subst h5
   simp only [sA, zb, Nat.reduceEqDiff, za, ze, getN, foot]
   have le4 := X04.le
   exact hQ _ ⟨X04.trans' X5, .inr ⟨hmay, w, rfl, h6, h7, fun k hk => ⟨by have := (h8 k hk).1; omega, (h8 k hk).2⟩⟩⟩
 · rw [decide_eq_false hmay]
   simp only [sA, zb, Nat.reduceEqDiff, za, ze]
   exact hQ _ ⟨X01, .inl ⟨hmay, rfl⟩⟩
end
end Go.Dx.TbA
