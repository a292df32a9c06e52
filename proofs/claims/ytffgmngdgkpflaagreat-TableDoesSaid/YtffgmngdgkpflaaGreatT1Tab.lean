/- A part. -/
import Derived.Test.YtffgmngdgkpflaaGreatT1Cd
import Derived.Test.YtffgmngdgkpflaaGreatDxTab
set_option linter.unusedVariables false
set_option linter.unusedSimpArgs false
set_option linter.unusedSectionVars false
set_option maxRecDepth 100000
set_option maxHeartbeats 4000000
namespace Go.Dx.TbA
open Go Go.Dx Go.Dx.Tab Go.Proofs.YtffgmngdgkpflaaGreat
structure Jx (E : Env) : Prop where
 fNew : E.fn 10 = some d10
 iNew : E.intr 10 = none
 fMade : E.fn 34 = some d34
 iMade : E.intr 34 = none
 fLast : E.fn 22 = some d22
 iLast : E.intr 22 = none
 fBegin : E.fn 11 = some d11
 iBegin : E.intr 11 = none
 fFinish : E.fn 13 = some d13
 iFinish : E.intr 13 = none
 fReply : E.fn 21 = some d21
 iReply : E.intr 21 = none
 fmay : E.fn 37 = some d37
 imay : E.intr 37 = none
 foMay : E.fn 68 = some d68
 ioMay : E.intr 68 = none
 fmayR : E.fn 64 = some d64
 imayR : E.intr 64 = none
 fwho : E.fn 99 = some d99
 iwho : E.intr 99 = none
 fwithin : E.fn 100 = some d100
 iwithin : E.intr 100 = none
structure TabAt (s : DS) (t m : Nat) (M : TRs) (clock : Nat) : Prop where
 go : s.get t = some (.cells (.list [.map (some m)]) false)
 wo : s.wr t = true
 gm : s.get m = some (.map (M.map trE) clock)
 wm : s.wr m = true
 ne : t ≠ m
theorem TabAt.keep {s s' : DS} {t m : Nat} {M : TRs} {clock : Nat} {F : List Nat} (c : TabAt s t m M clock) (e : Ext F s s') (h1 : t ∉ F) (h2 : m ∉ F) : TabAt s' t m M clock :=
 ⟨e.keep c.go h1, e.wrs c.wo, e.keep c.gm h2, e.wrs c.wm, c.ne⟩
section
variable {E : Env} (hT : Jx E) {s s' : DS} {d : Nat} {t m clock : Nat} {M : TRs}
include hT
theorem T9 (hG : s.Good) : W (dcall E (d + 1) (.func (.func 10) #[] #[]) [] s) fun r => r.1 = .pointer (some ⟨s.next + 1, 0, none⟩) ∧ TabAt r.2 (s.next + 1) s.next [] 0 ∧ Ext [] s r.2 := by
 refine zr fun Q hQ => ?_
 rw [zh hT.iNew hT.fNew rfl]
 simp (maxDischargeDepth := 8) only [sA, za, zd, zg, pp, pv, d10, hG]
 refine hQ _ ⟨rfl, ⟨?_, (hG _ (Nat.le_succ _)).2, ?_, (hG _ (Nat.le_refl _)).2, by omega⟩, Ext.new.trans' Ext.new⟩
 · simp (maxDischargeDepth := 8) only [sM, zU, hG]
 · simp (maxDischargeDepth := 8) only [sA, sM, hG]
theorem YS (go : s.get t = some (.cells (.list [.map (some m)]) false)) : dcall E (d + 1) (.func (.func 34) #[] #[]) [.pointer (some ⟨t, 0, none⟩)] s = some (.bool true, s) := by
 rw [← JH, zh hT.iMade hT.fMade rfl]
 simp only [sA, zb, zJ, Nat.reduceEqDiff, za, zd, Cells.get, getN, reduceCtorEq, pp, pv, pw, pg, d34, go]
theorem WR (n a b : Int) : dcall E (d + 1) (.func (.func 100) #[] #[]) [.int .i64 n, .int .i64 a, .int .i64 b] s = some (.bool (decide (a ≤ n ∧ n ≤ b)), s) := by
 rw [← JH, zh hT.iwithin hT.fwithin rfl]
 by_cases h1 : a ≤ n
 · by_cases h2 : n ≤ b
   · simp only [sA, zb, zl, zm, Nat.reduceEqDiff, za, zd, reduceCtorEq, pp, pv, pw, pg, d100, h1, h2] <;> simp
   · simp only [sA, zb, zl, zm, Nat.reduceEqDiff, za, zd, reduceCtorEq, pp, pv, pw, pg, d100, h1, h2] <;> simp
 · simp only [sA, zb, zl, zm, Nat.reduceEqDiff, za, zd, reduceCtorEq, pp, pv, pw, pg, d100, h1] <;> simp
theorem Pe (c n : Int) : dcall E (d + 2) (.func (.func 99) #[] #[]) [.int .i64 c, .int .i64 n] s = some (.bool (decide (Who c n)), s) := by
 rw [← JH, zh hT.iwho hT.fwho rfl]
 have h1 := WR hT (d := d) (s := s) c 0 63
 have h2 := WR hT (d := d) (s := s) n 1 1099511627776
 by_cases c1 : 0 ≤ c ∧ c ≤ 63
 · rw [decide_eq_true c1] at h1
   simp only [sA, zb, Nat.reduceEqDiff, za, zd, reduceCtorEq, pp, pv, pw, pg, d99, h1, h2]
   simp only [Who]
   congr 3
   simp [c1.1, c1.2]
 · rw [decide_eq_false c1] at h1
   simp only [sA, zb, Nat.reduceEqDiff, za, zd, reduceCtorEq, pp, pv, pw, pg, d99, h1]
   have : ¬ Who c n := fun h => c1 ⟨h.1, h.2.1⟩
   simp [this]
theorem MA (hG : s.Good) (c n : Int) : W (dcall E (d + 3) (.func (.func 68) #[] #[]) [.agg ⟨[.int .i64 c, .int .i64 n, .slice none 0 0, .slice none 0 0, .int .i64 0]⟩] s) fun r => r.1 = .bool (decide (Who c n)) ∧ Ext [] s r.2 := by
 refine zr fun Q hQ => ?_
 rw [zh hT.ioMay hT.foMay rfl]
 have h1 := fun S => Pe hT (d := d) (s := S) c n
 have h2 := fun S => WR hT (d := d + 1) (s := S) 0 0 1048576
 have e2 : decide ((0 : Int) ≤ 0 ∧ (0 : Int) ≤ 1048576) = true := by decide
 rw [e2] at h2
 have hz : ((0 : Nat) : Int) = 0 := rfl
 cases hw : decide (Who c n) with
 | true =>
  simp only [hw] at h1
  simp (maxDischargeDepth := 8) only [sA, sM, zb, zl, zm, za, zd, Cells.get, getN, pp, pv, pg, Int.reduceLE, Nat.reduceLT, d68, hG, h1, h2, hz]
  exact hQ _ ⟨by rw [hw], Ext.new⟩
 | false =>
  simp only [hw] at h1
  simp (maxDischargeDepth := 8) only [sA, sM, zb, za, zd, Cells.get, getN, pp, pv, pg, Nat.reduceLT, d68, hG, h1, h2, hz]
  exact hQ _ ⟨by rw [hw], Ext.new⟩
theorem FX (hG : s.Good) (c n : Int) : W (dcall E (d + 4) (.func (.func 37) #[] #[]) [.int .i64 c, .int .i64 n] s) fun r => r.1 = .bool (decide (Who c n)) ∧ Ext [] s r.2 := by
 refine zr fun Q hQ => ?_
 rw [zh hT.imay hT.fmay rfl]
 simp (maxDischargeDepth := 8) only [sA, sM, Nat.reduceAdd, Nat.reduceLeDiff, zg, pp, pv, Nat.reduceLT, d37, hG]
 refine W.mono (MA hT (d := d) hG c n) ?_
 rintro ⟨v, s1⟩ ⟨h1, X1⟩
 simp only at h1 X1
 subst h1
 simp only [sA, za, zd]
 exact hQ _ ⟨rfl, X1⟩
theorem VJ (c : TabAt s t m M clock) (hG : s.Good) (k : Int) : W (dcall E (d + 2) (.func (.func 22) #[] #[]) [.pointer (some ⟨t, 0, none⟩), .int .i64 k] s) fun r => r.1 = .int .i64 (((rowOf M k).map (·.num)).getD 0) ∧ Ext [] s r.2 := by
 have go := c.go
 have gm := c.gm
 have hol := DS.get_lt' go
 have hml := DS.get_lt' gm
 have hmade := YS hT c.go (d := d)
 refine zr fun Q hQ => ?_
 rw [zh hT.iLast hT.fLast rfl]
 rcases Ws M k 0 with ⟨hf, hr, _⟩ | ⟨j, x, hf, hj, hr, _⟩
 · simp (maxDischargeDepth := 8) only [sA, sM, zb, zo, za, zd, Cells.get, getN, pp, pv, Nat.reduceLT, d22, go, gm, hmade, hf, isKey, hG, hol, hml, zb, partOf, getN]
   rw [hr] at hQ
   exact hQ _ ⟨rfl, .refl⟩
 · have hv : (trE x).val = .agg ⟨[.int .i64 x.1.num, .bool x.1.done, .int .i64 x.1.rep.c, .int .i64 x.1.rep.n, .bool x.1.rep.rej, .int .i64 x.1.rep.trap, .int .i64 x.1.rep.v, .int .i64 x.1.rep.gas]⟩ := rfl
   simp (maxDischargeDepth := 8) only [sA, sM, zb, zo, za, zd, Cells.get, getN, pp, pv, Nat.reduceLT, d22, go, gm, hmade, hf, hv, isKey, hG, hol, hml, zb, partOf, getN]
   rw [hr] at hQ
   exact hQ _ ⟨rfl, .refl⟩
omit hT in
theorem JZ (c : TabAt s t m M clock) (M' : TRs) (clock' : Nat) : TabAt (s.upd m (.map (M'.map trE) clock')) t m M' clock' := by
 have go := c.go
 have gm := c.gm
 have ne := c.ne
 refine ⟨?_, ?_, ?_, ?_, ne⟩
 · rw [DS.upd_get_ne ne]; exact go
 · rw [DS.upd_wr]; exact c.wo
 · rw [DS.upd_get_self, gm]; rfl
 · rw [DS.upd_wr]; exact c.wm
def Dv (M M' : TRs) (b : Bool) (y : TR) : Prop := ∀ k, rowOf M' k = if b = true ∧ k = y.key then some y else rowOf M k
def VS (x : Option TR) (n : Int) : List Value := match x with
 | some x => if x.done = true ∧ x.num = n then [.agg ⟨x.rep.cells⟩, .bool true] else [.agg ⟨Rp.zero.cells⟩, .bool false]
 | none => [.agg ⟨Rp.zero.cells⟩, .bool false]
theorem Fe (c : TabAt s t m M clock) (hG : s.Good) (k n : Int) : W (dcall E (d + 2) (.func (.func 21) #[] #[]) [.pointer (some ⟨t, 0, none⟩), .int .i64 k, .int .i64 n] s) fun r => r.1 = .tuple ⟨VS (rowOf M k) n⟩ ∧ Ext [] s r.2 := by
 have go := c.go
 have gm := c.gm
 have hol := DS.get_lt' go
 have hml := DS.get_lt' gm
 have hmade := YS hT (c.keep (F := []) (Ext.new (o := .cells (.list [.int .i64 0, .int .i64 0, .bool false, .int .i64 0, .int .i64 0, .int .i64 0]) false)) (by simp) (by simp)).go (d := d)
 refine zr fun Q hQ => ?_
 rw [zh hT.iReply hT.fReply rfl]
 have XR : ∀ o1 o2 o3 o4, Ext [] s ((((s.new o1).new o2).upd (s.next + 1) o3).upd s.next o4) := fun o1 o2 o3 o4 => by
  have y1 : Ext [] s ((s.new o1).new o2) := Ext.new.trans' Ext.new
  have y2 : Ext [s.next, s.next + 1] ((s.new o1).new o2) (((s.new o1).new o2).upd (s.next + 1) o3) := Ext.upd (.inl (by simp))
  have y3 : Ext [s.next, s.next + 1] (((s.new o1).new o2).upd (s.next + 1) o3) ((((s.new o1).new o2).upd (s.next + 1) o3).upd s.next o4) := Ext.upd (.inl (by simp))
  exact y1.trans (y2.trans' y3) (by simp)
 rcases Ws M k 0 with ⟨hf, hr, _⟩ | ⟨j, x, hf, hj, hr, _⟩
 · simp (maxDischargeDepth := 8) only [sA, sM, zb, zo, za, zd, Cells.get, getN, Nat.reduceAdd, allOne, ze, DS.wrC, Cells.size, Cells.fillFrom, Cells.set, zk, zg, pp, pv, pw, pg, DS.read, Cells.take, Nat.reduceLT, d21, go, gm, hmade, hf, isKey, hG, hol, hml]
   rw [hr] at hQ
   exact hQ _ ⟨rfl, XR _ _ _ _⟩
 · have hv : (trE x).val = .agg ⟨[.int .i64 x.1.num, .bool x.1.done, .int .i64 x.1.rep.c, .int .i64 x.1.rep.n, .bool x.1.rep.rej, .int .i64 x.1.rep.trap, .int .i64 x.1.rep.v, .int .i64 x.1.rep.gas]⟩ := rfl
   rw [hr] at hQ
   unfold VS at hQ
   cases hd : x.1.done with
   | false =>
    rw [hd] at hv
    simp (maxDischargeDepth := 8) only [sA, sM, zb, zo, za, zd, Cells.get, getN, Nat.reduceAdd, allOne, ze, DS.wrC, Cells.size, Cells.fillFrom, Cells.set, zk, zg, pp, pv, pw, pg, DS.read, Cells.take, Nat.reduceLT, d21, go, gm, hmade, hf, hv, isKey, hG, hol, hml]
    exact hQ _ ⟨by simp [hd, Rp.cells, Rp.zero], XR _ _ _ _⟩
   | true =>
    rw [hd] at hv
    by_cases hn : x.1.num = n
    · have hn' : (x.1.num = n) = True := eq_true hn
      simp (maxDischargeDepth := 8) only [sA, sM, zb, zl, zm, zo, za, zd, Cells.get, getN, Nat.reduceAdd, allOne, ze, DS.wrC, Cells.size, Cells.fillFrom, Cells.set, zk, pp, pv, pw, pg, ldA, DS.read, Cells.take, Nat.reduceLT, d21, go, gm, hmade, hf, hv, isKey, hG, hol, hml, hn']
      exact hQ _ ⟨by simp [hd, hn, Rp.cells], XR _ _ _ _⟩
    · simp (maxDischargeDepth := 8) only [sA, sM, zb, zl, zm, zo, za, zd, Cells.get, getN, Nat.reduceAdd, allOne, ze, DS.wrC, Cells.size, Cells.fillFrom, Cells.set, zk, zg, pp, pv, pw, pg, DS.read, Cells.take, Nat.reduceLT, d21, go, gm, hmade, hf, hv, isKey, hG, hol, hml, hn]
      exact hQ _ ⟨by simp [hd, hn, Rp.cells, Rp.zero], XR _ _ _ _⟩
end
end Go.Dx.TbA
namespace Go.Dx.TbA
open Go Go.Dx Go.Dx.Tab Go.Proofs.YtffgmngdgkpflaaGreat
structure Dy (E : Env) : Prop where
 fbyte : E.fn 49 = some d49
 ibyte : E.intr 49 = none
 fint : E.fn 50 = some d50
 iint : E.intr 50 = none
 fII : E.fn 48 = some d48
 iII : E.intr 48 = none
 fII1 : E.fn 83 = some d83
 iII1 : E.intr 83 = none
 fHB : E.fn 102 = some d102
 iHB : E.intr 102 = none
 fHB1 : E.fn 121 = some d121
 iHB1 : E.intr 121 = none
 fIH : E.fn 103 = some d103
 iIH : E.intr 103 = none
 fIH1 : E.fn 123 = some d123
 iIH1 : E.intr 123 = none
 fTT : E.fn 101 = some d101
 iTT : E.intr 101 = none
 fTT1 : E.fn 119 = some d119
 iTT1 : E.intr 119 = none
 fflag : E.fn 52 = some d52
 iflag : E.intr 52 = none
 fflag1 : E.fn 88 = some d88
 iflag1 : E.intr 88 = none
 fturn : E.fn 87 = some d87
 iturn : E.intr 87 = none
 fturn1 : E.fn 116 = some d116
 iturn1 : E.intr 116 = none
 fclip : E.fn 67 = some d67
 iclip : E.intr 67 = none
 fEnc : E.fn 65 = some d65
 iEnc : E.intr 65 = none
 fform : E.fn 66 = some d66
 iform : E.intr 66 = none
 fRep : E.fn 35 = some d35
 iRep : E.intr 35 = none
 fr : ∀ d, zG (dcall E d)
abbrev Told := ((Int × Int) × Bool) × (Int × (Int × Int))
def DP : Nat → DS → Value → Int × Int → Prop := XJ GV GV
theorem WW : ZQ DP := Jg Xt Xt
theorem QV : ∀ (o : Nat) (s : DS) (v : Value) (x : Int × Int), DP o s v x → ∃ n1 n2, v = .agg ⟨[.int .i64 n1, .int .i64 n2]⟩ := fun o s v x ⟨a, b, e, h1, h2⟩ => by
 have h1 : a = .int .i64 x.1 := h1
 have h2 : b = .int .i64 x.2 := h2
 subst h1 h2
 exact ⟨_, _, e⟩
def PE : Nat → DS → Value → (Int × Int) × Bool → Prop := XJ DP PH
theorem DQ : ZQ PE := Jg WW Vq
theorem PD : ∀ (o : Nat) (s : DS) (v : Value) (x : (Int × Int) × Bool), PE o s v x → ∃ n1 n2 n3, v = .agg ⟨[.int .i64 n1, .int .i64 n2, .bool n3]⟩ := fun o s v x ⟨a, b, e, h1, h2⟩ => by
 obtain ⟨n1, n2, rfl⟩ := QV _ _ _ _ h1
 have h2 : b = .bool x.2 := h2
 subst h2
 exact ⟨_, _, _, e⟩
def PC : Nat → DS → Value → Int × (Int × Int) → Prop := XJ GV DP
theorem DO : ZQ PC := Jg Xt WW
theorem PB : ∀ (o : Nat) (s : DS) (v : Value) (x : Int × (Int × Int)), PC o s v x → ∃ n1 n2 n3, v = .agg ⟨[.int .i64 n1, .int .i64 n2, .int .i64 n3]⟩ := fun o s v x ⟨a, b, e, h1, h2⟩ => by
 obtain ⟨n1, n2, rfl⟩ := QV _ _ _ _ h2
 have h1 : a = .int .i64 x.1 := h1
 subst h1
 exact ⟨_, _, _, e⟩
def Fj : Nat → DS → Value → Told → Prop := XJ PE PC
theorem DM : ZQ Fj := Jg DQ DO
def P0 (x : Told) : Prop := ((W2 1 255 x.1.1.1 ∧ W2 8 0 x.1.1.2) ∧ True) ∧ (W2 1 255 x.2.1 ∧ (W2 8 0 x.2.2.1 ∧ W2 8 0 x.2.2.2))
def Q5 (x : Told) : List Int := ((leB x.1.1.1 1 ++ leB x.1.1.2 8) ++ Xp x.1.2) ++ (leB x.2.1 1 ++ (leB x.2.2.1 8 ++ leB x.2.2.2 8))
section
variable {E : Env} (hC : QE E) (hT : Jx E) (hE : Dy E) {s s' : DS} {d : Nat} {t m clock : Nat} {M : TRs}
include hT
theorem De (hG : s.Good) (r : Rp) : W (dcall E (d + 3) (.func (.func 64) #[] #[]) [.agg ⟨r.cells⟩] s) fun x => x.1 = .bool (decide (ZR r)) ∧ Ext [] s x.2 := by
 refine zr fun Q hQ => ?_
 rw [zh hT.imayR hT.fmayR rfl]
 have hwho : ∀ S, dcall E (d + 2) (.func (.func 99) #[] #[]) [.int .i64 r.c, .int .i64 r.n] S = some (.bool (decide (Who r.c r.n)), S) := fun S => Pe hT r.c r.n
 have hin1 : ∀ S, dcall E (d + 2) (.func (.func 100) #[] #[]) [.int .i64 r.trap, .int .i64 0, .int .i64 6] S = some (.bool (decide (0 ≤ r.trap ∧ r.trap ≤ 6)), S) := fun S => WR hT (d := d + 1) r.trap 0 6
 have hin2 : ∀ S, dcall E (d + 2) (.func (.func 100) #[] #[]) [.int .i64 r.gas, .int .i64 0, .int .i64 1048576] S = some (.bool (decide (0 ≤ r.gas ∧ r.gas ≤ 1048576)), S) := fun S => WR hT (d := d + 1) r.gas 0 1048576
 have h1 : True := trivial
 cases hrej : r.rej with
 | false =>
  have hnr : ¬ (r.rej = true ∧ (r.trap ≠ 0 ∨ r.v ≠ 0 ∨ r.gas ≠ 0)) := fun h => by rw [hrej] at h; cases h.1
  simp (maxDischargeDepth := 8) only [sA, sM, zb, Cells.get, getN, pp, pv, pw, pg, Nat.reduceLT, d64, hG, Rp.cells, hrej]
  cases hw : decide (Who r.c r.n) with
  | false =>
   have hno : ¬ ZR r := fun h => by rw [decide_eq_true h.2.1] at hw; cases hw
   rw [decide_eq_false hno] at hQ
   rw [hw] at hwho
   simp (maxDischargeDepth := 8) only [sA, sM, zb, za, zd, Nat.reduceLT, hG, hrej, h1, hwho]
   exact hQ _ ⟨rfl, Ext.new⟩
  | true =>
   rw [hw] at hwho
   by_cases c1 : 0 ≤ r.trap ∧ r.trap ≤ 6
   · rw [decide_eq_true c1] at hin1
     by_cases c2 : 0 ≤ r.gas ∧ r.gas ≤ 1048576
     · rw [decide_eq_true c2] at hin2
       have hyes : ZR r := ⟨hnr, of_decide_eq_true hw, c1.1, c1.2, c2.1, c2.2⟩
       rw [decide_eq_true hyes] at hQ
       simp (maxDischargeDepth := 8) only [sA, sM, zb, za, zd, Cells.get, getN, Nat.reduceLT, hG, hrej, h1, hwho, hin1, hin2]
       exact hQ _ ⟨rfl, Ext.new⟩
     · rw [decide_eq_false c2] at hin2
       have hno : ¬ ZR r := fun h => c2 ⟨h.2.2.2.2.1, h.2.2.2.2.2⟩
       rw [decide_eq_false hno] at hQ
       simp (maxDischargeDepth := 8) only [sA, sM, zb, za, zd, Cells.get, getN, Nat.reduceLT, hG, hrej, h1, hwho, hin1, hin2]
       exact hQ _ ⟨rfl, Ext.new⟩
   · rw [decide_eq_false c1] at hin1
     have hno : ¬ ZR r := fun h => c1 ⟨h.2.2.1, h.2.2.2.1⟩
     rw [decide_eq_false hno] at hQ
     simp (maxDischargeDepth := 8) only [sA, sM, zb, za, zd, Cells.get, getN, Nat.reduceLT, hG, hrej, h1, hwho, hin1]
     exact hQ _ ⟨rfl, Ext.new⟩
 | true =>
  by_cases a1 : r.trap = 0
  · by_cases a2 : r.v = 0
    · by_cases a3 : r.gas = 0
      · have hnr : ¬ (r.rej = true ∧ (r.trap ≠ 0 ∨ r.v ≠ 0 ∨ r.gas ≠ 0)) := fun h => by rcases h.2 with h | h | h <;> contradiction
        have e1 : decide (0 ≤ r.trap ∧ r.trap ≤ 6) = true := decide_eq_true (by omega)
        have e2 : decide (0 ≤ r.gas ∧ r.gas ≤ 1048576) = true := decide_eq_true (by omega)
        rw [e1, a1] at hin1
        rw [e2, a3] at hin2
        cases hw : decide (Who r.c r.n) with
        | false =>
         have hno : ¬ ZR r := fun h => by rw [decide_eq_true h.2.1] at hw; cases hw
         rw [decide_eq_false hno] at hQ
         rw [hw] at hwho
         simp (maxDischargeDepth := 8) only [sA, sM, zb, zl, zm, za, zd, Cells.get, getN, pp, pv, pw, pg, Nat.reduceLT, d64, hG, Rp.cells, hrej, a1, a2, a3, hwho]
         exact hQ _ ⟨rfl, Ext.new⟩
        | true =>
         rw [hw] at hwho
         have hyes : ZR r := ⟨hnr, of_decide_eq_true hw, by omega, by omega, by omega, by omega⟩
         rw [decide_eq_true hyes] at hQ
         simp (maxDischargeDepth := 8) only [sA, sM, zb, zl, zm, za, zd, Cells.get, getN, pp, pv, pw, pg, Nat.reduceLT, d64, hG, Rp.cells, hrej, a1, a2, a3, hwho, hin1, hin2]
         exact hQ _ ⟨rfl, Ext.new⟩
      · have hno : ¬ ZR r := fun h => h.1 ⟨hrej, .inr (.inr a3)⟩
        simp (maxDischargeDepth := 8) only [sA, sM, zb, zl, zm, za, zd, Cells.get, getN, pp, pv, pw, pg, Nat.reduceLT, d64, hG, Rp.cells, hrej, a1, a2, a3]
        rw [decide_eq_false hno] at hQ
        exact hQ _ ⟨rfl, Ext.new⟩
    · have hno : ¬ ZR r := fun h => h.1 ⟨hrej, .inr (.inl a2)⟩
      simp (maxDischargeDepth := 8) only [sA, sM, zb, zl, zm, za, zd, Cells.get, getN, pp, pv, pw, pg, Nat.reduceLT, d64, hG, Rp.cells, hrej, a1, a2]
      rw [decide_eq_false hno] at hQ
      exact hQ _ ⟨rfl, Ext.new⟩
  · have hno : ¬ ZR r := fun h => h.1 ⟨hrej, .inl a1⟩
    simp (maxDischargeDepth := 8) only [sA, sM, zb, zl, zm, za, zd, Cells.get, getN, pp, pv, pw, pg, Nat.reduceLT, d64, hG, Rp.cells, hrej, a1]
    rw [decide_eq_false hno] at hQ
    exact hQ _ ⟨rfl, Ext.new⟩
include hC hE
theorem SC (hG : s.Good) : W (dcall E (d + 3) (.func (.func 66) #[] #[]) [] s) fun r => zE E 6 s.next r.2 r.1 Fj P0 Q5 ∧ Ext [] s r.2 := by
 refine zr fun Q hQ => ?_
 rw [zh hE.iform hE.fform rfl]
 simp (maxDischargeDepth := 8) only [sA, pp, d66, hG]
 have h0 : ∀ o, (s.new o).get s.next = some o := fun o => DS.new_get_self hG
 have w0 : (s.new (.cells (.list [.nilFunc, .nilFunc]) false)).wr s.next = true := (hG _ (Nat.le_refl _)).2
 refine W.mono (QZ hC (m := s.next + 1) (DS.new_good hG) (Nat.le_refl _) hE.fbyte hE.ibyte) ?_
 rintro ⟨v1, s1⟩ ⟨q1, X1⟩
 simp only at q1 X1
 have hG1 := X1.good (DS.new_good hG)
 have l1 : s.next + 1 ≤ s1.next := X1.le
 simp only [sA]
 refine W.mono (Wy hC (m := s.next + 1) hG1 l1 hE.fint hE.iint) ?_
 rintro ⟨v2, s2⟩ ⟨q2, X2⟩
 simp only at q2 X2
 have hG2 := X2.good hG1
 have l2 := Nat.le_trans l1 X2.le
 simp only [sA, Nat.reduceEqDiff]
 refine W.mono (Qy hC l2 hG2 (q1.keep X2) q2 hE.fII hE.iII fun ha hb => JR hC ha hb Xt Xt (fun _ _ _ x h => ⟨x, h⟩) (fun _ _ _ x h => ⟨x, h⟩) hE.fII1 hE.iII1) ?_
 rintro ⟨v3, s3⟩ ⟨q3, X3⟩
 simp only at q3 X3
 have hG3 := X3.good hG2
 have l3 := Nat.le_trans l2 X3.le
 simp only [sA]
 refine W.mono (Gs hC hG3 l3 hE.fflag hE.iflag hE.fturn hE.iturn hE.fturn1 hE.iturn1 hE.fflag1 hE.iflag1 hE.fr) ?_
 rintro ⟨v4, s4⟩ ⟨q4, X4⟩
 simp only at q4 X4
 have hG4 := X4.good hG3
 have l4 := Nat.le_trans l3 X4.le
 simp only [sA, Nat.reduceEqDiff]
 refine W.mono (Fb hC l4 hG4 (q3.keep X4) q4 hE.fHB hE.iHB fun ha hb => CP hC ha hb WW Vq QV (fun _ _ _ x h => ⟨x, h⟩) hE.fHB1 hE.iHB1) ?_
 rintro ⟨v5, s5⟩ ⟨q5, X5⟩
 simp only at q5 X5
 have hG5 := X5.good hG4
 have l5 := Nat.le_trans l4 X5.le
 simp only [sA]
 refine W.mono (QZ hC (m := s.next + 1) hG5 l5 hE.fbyte hE.ibyte) ?_
 rintro ⟨v6, s6⟩ ⟨q6, X6⟩
 simp only at q6 X6
 have hG6 := X6.good hG5
 have l6 := Nat.le_trans l5 X6.le
 simp only [sA]
 refine W.mono (Wy hC (m := s.next + 1) hG6 l6 hE.fint hE.iint) ?_
 rintro ⟨v7, s7⟩ ⟨q7, X7⟩
 simp only at q7 X7
 have hG7 := X7.good hG6
 have l7 := Nat.le_trans l6 X7.le
 simp only [sA]
 refine W.mono (Wy hC (m := s.next + 1) hG7 l7 hE.fint hE.iint) ?_
 rintro ⟨v8, s8⟩ ⟨q8, X8⟩
 simp only at q8 X8
 have hG8 := X8.good hG7
 have l8 := Nat.le_trans l7 X8.le
 simp only [sA, Nat.reduceEqDiff]
 refine W.mono (Qy hC l8 hG8 (q7.keep X8) q8 hE.fII hE.iII fun ha hb => JR hC ha hb Xt Xt (fun _ _ _ x h => ⟨x, h⟩) (fun _ _ _ x h => ⟨x, h⟩) hE.fII1 hE.iII1) ?_
 rintro ⟨v9, s9⟩ ⟨q9, X9⟩
 simp only at q9 X9
 have hG9 := X9.good hG8
 have l9 := Nat.le_trans l8 X9.le
 simp only [sA, Nat.reduceEqDiff]
 refine W.mono (Fa hC l9 hG9 ((q6.keep (X7.trans' (X8.trans' X9))).mono (show 3 ≤ 4 by omega)) q9 hE.fIH hE.iIH fun ha hb => CN hC ha hb Xt WW (fun _ _ _ x h => ⟨x, h⟩) QV hE.fIH1 hE.iIH1) ?_
 rintro ⟨va, sa⟩ ⟨qa, Xa⟩
 simp only at qa Xa
 have hGa := Xa.good hG9
 have la := Nat.le_trans l9 Xa.le
 have X5a := X6.trans' (X7.trans' (X8.trans' (X9.trans' Xa)))
 simp only [sA, Nat.reduceEqDiff]
 refine W.mono (Fc hC la hGa (q5.keep X5a) qa hE.fTT hE.iTT fun ha hb => CR hC ha hb DQ DO PD PB hE.fTT1 hE.iTT1) ?_
 rintro ⟨vb, sb⟩ ⟨qb, Xb⟩
 simp only at qb Xb
 have X0b := (X1.trans' (X2.trans' (X3.trans' (X4.trans' X5)))).trans' (X5a.trans' Xb)
 have g6 := X0b.keep (h0 _) (by simp)
 have w6 := X0b.wrs w0
 obtain ⟨f, a, b, g, a', b', D, rfl, k2, k3, k4⟩ := qb
 simp (maxDischargeDepth := 8) only [sA, sM, zo, za, zd, Cells.get, getN, Nat.reduceAdd, allOne, ze, DS.wrC, Cells.size, Cells.fillFrom, Cells.set, zk, DS.read, Cells.take, g6, w6]
 have XF : ∀ o, Ext [] s (sb.upd s.next o) := fun o => (Ext.new.trans' X0b).trans (Ext.upd (F := [s.next]) (.inl (by simp))) (by simp)
 refine hQ _ ⟨⟨f, a, b, g, a', b', D, rfl, fun p hp => ?_, fun p hp => ?_, k4⟩, XF _⟩
 · have := (k3 p hp).1
   simp (maxDischargeDepth := 8) only [sA, k2 p hp, show ¬ p.1 = s.next by omega]
 · have := k3 p hp
   simp (maxDischargeDepth := 8) only [DS.upd_next]
   omega
omit hT hC hE in
theorem W4 {s : DS} {nt : List ZW} {haz : List Nat} {k : Nat} : (mask s nt haz).wr k = (s.wr k && !hidden nt haz k && !shielded nt haz k) := Eq.trans rfl rfl
omit hT hC hE in
theorem YK {s : DS} {nt : List ZW} {haz : List Nat} {k : Nat} {o : DObj} (h : hidden nt haz k = false) : unmask s ((mask s nt haz).upd k o) = s.upd k o := by
 unfold DS.upd
 rw [Zg h]
 split <;> rfl
theorem RP (hG : s.Good) (r : Rp) : W (dcall E (d + 9) (.func (.func 35) #[] #[]) [.agg ⟨r.cells⟩] s) fun x => (∃ w, x.1 = .tuple ⟨[w, .int .i64 (if ZR r then 0 else 1)]⟩) ∧ Ext [] s x.2 := by
 refine zr fun Q hQ => ?_
 rw [zh hE.iRep hE.fRep rfl]
 simp (maxDischargeDepth := 8) only [sA, sM, Cells.get, getN, pp, ldA, DS.read, Cells.take, Nat.reduceLT, d35, hG, Rp.cells]
 obtain ⟨S0, hS0⟩ : ∃ S0 : DS, S0 = s.new (.cells (.list [.int .i64 r.c, .int .i64 r.n, .bool r.rej, .int .i64 r.trap, .int .i64 r.v, .int .i64 r.gas]) false) := ⟨_, rfl⟩
 rw [← hS0]
 have X0 : Ext [] s S0 := by rw [hS0]; exact Ext.new
 have hG0 := X0.good hG
 have g0 : S0.get s.next = some (.cells (.list [.int .i64 r.c, .int .i64 r.n, .bool r.rej, .int .i64 r.trap, .int .i64 r.v, .int .i64 r.gas]) false) := by rw [hS0]; simp (maxDischargeDepth := 8) only [zR, hG]
 clear hS0
 refine W.mono (De hT (d := d + 5) hG0 r) ?_
 rintro ⟨v1, s1⟩ ⟨h1, X1⟩
 simp only at h1 X1
 subst h1
 have X01 := X0.trans' X1
 have hG1 := X01.good hG
 have g1 := X1.keep g0 (by simp)
 have hl1 : s.next < s1.next := DS.get_lt' g1
 by_cases hmay : ZR r
 · rw [if_pos hmay] at hQ
   rw [decide_eq_true hmay]
   have hb1 : Nat.ble (s1.next + 1) s1.next = false := by rw [zD]; omega
   have hb2 : Nat.beq s.next s1.next = false := by rw [zH]; omega
   have hb3 : Nat.ble (s1.next + 1) s.next = false := by rw [zD]; omega
   simp (maxDischargeDepth := 8) only [sA, sM, zb, Cells.get, getN, Nat.reduceAdd, allOne, ze, Nat.reduceLeDiff, DS.wrC, Cells.size, Cells.fillFrom, Cells.set, zk, zg, ldA, foot, hidden, noteAt, DS.read, Cells.take, Nat.reduceLT, hG1, g1, hl1, W4, YK, shielded, zx, hb1, hb2, hb3]
   obtain ⟨S3, hS3⟩ : ∃ S3 : DS, S3 = ((((((s1.new (.cells (.list [.int .i64 0, .int .i64 0, .bool false, .int .i64 0, .int .i64 0, .int .i64 0]) false)).upd s1.next (.cells (.list [.int .i64 0, .int .i64 0, .bool false, .int .i64 0, .int .i64 0, .int .i64 0]) false)).upd s1.next (.cells (.list [.int .i64 r.c, .int .i64 r.n, .bool false, .int .i64 0, .int .i64 0, .int .i64 0]) false)).upd s1.next (.cells (.list [.int .i64 r.c, .int .i64 r.n, .bool r.rej, .int .i64 0, .int .i64 0, .int .i64 0]) false)).upd s1.next (.cells (.list [.int .i64 r.c, .int .i64 r.n, .bool r.rej, .int .i64 r.trap, .int .i64 0, .int .i64 0]) false)).upd s1.next (.cells (.list [.int .i64 r.c, .int .i64 r.n, .bool r.rej, .int .i64 r.trap, .int .i64 r.v, .int .i64 r.gas]) false)) := ⟨_, rfl⟩
   rw [← hS3]
   have X3 : Ext [] s1 S3 := by
    rw [hS3]
    have y : ∀ (S : DS) o, Ext [s1.next] S (S.upd s1.next o) := fun S o => Ext.upd (.inl (by simp))
    exact (Ext.new (F := [])).trans ((y _ _).trans' ((y _ _).trans' ((y _ _).trans' ((y _ _).trans' (y _ _))))) (by simp)
   have hG3 := X3.good hG1
   have n3 : S3.next = s1.next + 1 := by rw [hS3]; simp (maxDischargeDepth := 8) only [sA]
   clear hS3
   have hhid : ∀ k, hidden [⟨[s1.next], s1.next + 1, s1.next + 1⟩] [0] k = false := fun k => by (simp only [hidden, shielded, noteAt, zx, Bool.or_false, Bool.or_eq_false_iff, Bool.and_eq_false_iff, zD, zM, zH, true_and, and_true, true_or, or_true] <;> omega)
   refine W.masked (hE.fr _) (SC hC hT hE (d := d + 5) (Zq hG3 fun k hk => ⟨hhid k, ?_⟩)) ?_
   · have : ¬ k = s1.next := by omega
     (simp only [hidden, shielded, noteAt, zx, Bool.or_false, Bool.or_eq_false_iff, Bool.and_eq_false_iff, zD, zM, zH, true_and, and_true, true_or, or_true] <;> omega)
   rintro v4 s4 ⟨h4, X4⟩ df
   simp only at h4 X4
   have X4' := Ext.unmask' X4 df
   obtain ⟨S4, hS4⟩ : ∃ S4 : DS, S4 = unmask S3 s4 := ⟨_, rfl⟩
   have n4 : s4.next = S4.next := by rw [hS4]; rfl
   have h4' : zE E 6 S3.next S4 v4 Fj P0 Q5 := by
    rw [hS4]
    obtain ⟨f, a, b, g, a', b', D, e1, e2, e3, e4⟩ := h4
    exact ⟨f, a, b, g, a', b', D, e1, fun p hp => (QK hhid X4).trans (e2 p hp), fun p hp => e3 p hp, e4⟩
   rw [← hS4] at X4'
   have hG4 := X4'.good hG3
   simp only [sA, Nat.reduceEqDiff, foot, ← hS4, n4]
   have hrep : Fj S4.next S4 (.agg ⟨[.int .i64 r.c, .int .i64 r.n, .bool r.rej, .int .i64 r.trap, .int .i64 r.v, .int .i64 r.gas]⟩) (((r.c, r.n), r.rej), (r.trap, (r.v, r.gas))) :=
    ⟨.agg ⟨[.int .i64 r.c, .int .i64 r.n, .bool r.rej]⟩, .agg ⟨[.int .i64 r.trap, .int .i64 r.v, .int .i64 r.gas]⟩, rfl, ⟨.agg ⟨[.int .i64 r.c, .int .i64 r.n]⟩, .bool r.rej, rfl, ⟨.int .i64 r.c, .int .i64 r.n, rfl, rfl, rfl⟩, rfl⟩, ⟨.int .i64 r.trap, .agg ⟨[.int .i64 r.v, .int .i64 r.gas]⟩, rfl, rfl, ⟨.int .i64 r.v, .int .i64 r.gas, rfl, rfl, rfl⟩⟩⟩
   obtain ⟨_, ⟨w1, w2, w3, w4⟩, w5, w6, w7, w8⟩ := hmay
   have hok : P0 (((r.c, r.n), r.rej), (r.trap, (r.v, r.gas))) := ⟨⟨⟨.inr ⟨w1, by show r.c ≤ 255; omega⟩, .inl rfl⟩, trivial⟩, .inr ⟨w5, by show r.trap ≤ 255; omega⟩, .inl rfl, .inl rfl⟩
   have hlen : (Q5 (((r.c, r.n), r.rej), (r.trap, (r.v, r.gas)))).length ≤ 1048576 := by
    simp only [Q5, Xp, List.length_append, zB]
    omega
   refine W.mono (Va hC (d := d) hG4 h4' hrep DM hok hlen rfl hE.fEnc hE.iEnc hE.fclip hE.iclip) ?_
   rintro ⟨v5, s5⟩ ⟨w, h5, _, _, _, X5⟩
   simp only at h5 X5
   subst h5
   simp only [sA, zb, Nat.reduceEqDiff, za, zd, getN, foot]
   exact hQ _ ⟨⟨_, rfl⟩, X01.trans' (X3.trans' (X4'.trans' X5))⟩
 · rw [if_neg hmay] at hQ
   rw [decide_eq_false hmay]
   simp only [sA, zb, Nat.reduceEqDiff, za, zd]
   exact hQ _ ⟨⟨_, rfl⟩, X01⟩
end
end Go.Dx.TbA
