/- A part. -/
import Derived.Test.YtpfkbiaikfbpeaaGreatQ2Tb
import Derived.Test.YtpfkbiaikfbpeaaGreatQ1Ga
import Derived.Test.YtpfkbiaikfbpeaaGreatDxTopM
set_option linter.unusedVariables false
set_option linter.unusedSimpArgs false
set_option linter.unusedSectionVars false
set_option maxRecDepth 100000
set_option maxHeartbeats 8000000
namespace Go.Dx.RpA
open Go Go.Dx Go.Dx.Search Go.Dx.St Go.Proofs.YtpfkbiaikfbpeaaGreat
def NL : DCode := (.seq (.region [pv 158 7, pp 159 (.call (.func 7) [.tmp 158]), pv 12 159]) (.seq (.region [⟨some 160, .mv (tm 7), none, [], true⟩, ⟨some 162, .mv (tm 11), none, [], true⟩, ⟨some 161, .call (.func 8) [.tmp 160], none, [], true⟩, ⟨some 163, .bin .eql (tm 161) (tm 162), none, [], true⟩, ⟨some 164, .mv (tm 163), none, [], true⟩, ⟨some 165, .mv (tm 7), some (164, true), [], true⟩, ⟨some 166, .call (.func 9) [.tmp 165], some (164, true), [], true⟩, ⟨some 167, .bin .eql (tm 166) (.const (.int .i64 0)), some (164, true), [], true⟩, ⟨some 168, .pick (tm 164) (tm 167) (.const (.bool false)), none, [], true⟩, ⟨some 169, .mv (tm 168), none, [], true⟩, ⟨some 170, .mv (tm 7), some (169, true), [], true⟩, ⟨some 171, .call (.func 10) [.tmp 170], some (169, true), [], true⟩, ⟨some 172, .bin .eql (tm 171) (.const (.int .i64 0)), some (169, true), [], true⟩, ⟨some 173, .pick (tm 169) (tm 172) (.const (.bool false)), none, [], true⟩, ⟨some 174, .mv (tm 173), none, [], true⟩, ⟨some 175, .mv (tm 7), some (174, true), [], true⟩, ⟨some 176, .call (.func 11) [.tmp 175], some (174, true), [], true⟩, ⟨some 177, .bin .eql (tm 176) (.const (.int .i64 0)), some (174, true), [], true⟩, ⟨some 178, .pick (tm 174) (tm 177) (.const (.bool false)), none, [], true⟩, ⟨some 179, .mv (tm 178), none, [], true⟩, ⟨some 180, .mv (tm 7), some (179, true), [], true⟩, ⟨some 181, .call (.func 12) [.tmp 180], some (179, true), [], true⟩, ⟨some 182, .bin .eql (tm 181) (.const (.int .i64 0)), some (179, true), [], true⟩, ⟨some 183, .pick (tm 179) (tm 182) (.const (.bool false)), none, [], true⟩, ⟨some 184, .mv (tm 183), none, [], true⟩, ⟨some 185, .mv (tm 12), some (184, true), [], true⟩, ⟨some 186, .eq true (.one .ptr) (tm 185) (.const (.pointer none)), some (184, true), [], true⟩, ⟨some 187, .pick (tm 184) (tm 186) (.const (.bool false)), none, [], true⟩, ⟨some 188, .mv (tm 187), none, [], true⟩, ⟨some 189, .mv (tm 12), some (188, true), [], true⟩, ⟨some 190, .call (.func 13) [.tmp 189], some (188, true), [], true⟩, ⟨some 191, .bin .eql (tm 190) (.const (.int .i64 0)), some (188, true), [], true⟩, ⟨some 192, .pick (tm 188) (tm 191) (.const (.bool false)), none, [], true⟩, ⟨some 193, .mv (tm 192), none, [], true⟩, ⟨some 194, .mv (tm 12), some (193, true), [], true⟩, ⟨some 196, .fadr 2 (tm 3), some (193, true), [], true⟩, ⟨some 197, .ld none (tm 196), some (193, true), [], true⟩, ⟨some 195, .call (.func 14) [.tmp 194], some (193, true), [36], true⟩, ⟨some 198, .bin .eql (tm 195) (tm 197), some (193, true), [], true⟩, ⟨some 199, .pick (tm 193) (tm 198) (.const (.bool false)), none, [], true⟩, ⟨some 6, .mv (tm 199), none, [], true⟩]) (.ret)))
def Pm : DCode := (.seq (.region [pp 11 (.mv (.const (.int .i64 1)))]) (.seq (.seq (.region [pv 156 1, pp 157 (.bin .gtr (tm 156) (.const (.int .i64 0)))]) (.cond (tm 157) (.region [pp 11 (.mv (.const (.int .i64 3)))]) (.skip))) NL))
def FQ : DCode := (.seq (.seq (.region [pp 107 (.call (.func 5) []), pp 108 (.un .not (tm 107)), pv 109 108, pw 110 8 109 false, pg 111 (.bin .eql (tm 110) (.const (.int .i64 0))) 109 false, pw 112 9 109 false, pg 113 (.eq true (.one .bool) (tm 111) (tm 112)) 109 false, pp 114 (.pick (tm 109) (.const (.bool true)) (tm 113)), pv 115 114, pw 116 7 115 false, pg 117 (.eq true (.one .ptr) (tm 116) (.const (.pointer none))) 115 false, pw 118 9 115 false, pg 119 (.eq true (.one .bool) (tm 117) (tm 118)) 115 false, pp 120 (.pick (tm 115) (.const (.bool true)) (tm 119)), pv 121 120, pw 122 9 121 false, pg 123 (.un .not (tm 122)) 121 false, pw 124 123 121 false, pw 125 8 124 true, pg 126 (.bin .neq (tm 125) (.const (.int .i64 1))) 124 true, pg 127 (.pick (tm 124) (tm 126) (.const (.bool false))) 121 false, pp 128 (.pick (tm 121) (.const (.bool true)) (tm 127))]) (.cond (tm 128) (.seq (.region [pp 6 (.mv (.const (.bool false)))]) (.ret)) (.skip))) (.seq (.region [pp 10 (.mv (.const (.int .i64 0)))]) (.seq (.seq (.region [pv 129 2, pp 130 (.bin .geq (tm 129) (.const (.int .i64 0))), pv 131 130, pg 132 (.fadr 0 (tm 3)) 131 true, pg 133 (.ld none (tm 132)) 131 true, pg 134 (.bin .geq (tm 133) (.const (.int .i64 1))) 131 true, pp 135 (.pick (tm 131) (tm 134) (.const (.bool false)))]) (.cond (tm 135) (.region [pv 136 2, pp 137 (.fadr 0 (tm 3)), pp 138 (.ld none (tm 137)), pp 139 (.bin .rem (tm 136) (tm 138)), pv 10 139]) (.skip))) (.seq (.seq (.region [pv 140 2, pp 141 (.fadr 0 (tm 3)), pp 142 (.ld none (tm 141)), pp 143 (.call (.func 6) [.tmp 140, .tmp 142]), pv 144 10, pp 145 (.bin .neq (tm 143) (tm 144)), pv 146 145, pw 147 9 146 false, pg 148 (.un .not (tm 147)) 146 false, pp 149 (.pick (tm 146) (.const (.bool true)) (tm 148))]) (.cond (tm 149) (.seq (.region [pv 150 2, pp 151 (.fadr 0 (tm 3)), pp 152 (.ld none (tm 151)), pp 153 (.call (.func 6) [.tmp 150, .tmp 152]), pv 154 10, pp 155 (.bin .eql (tm 153) (tm 154)), pv 6 155]) (.ret)) (.skip))) Pm))))
def QS : DCode := (.seq (.region [pp 19 (.fadr 0 (tm 3)), pp 20 (.ld none (tm 19)), pp 21 (.bin .eql (tm 20) (.const (.int .i64 1))), pv 22 21, pg 23 (.fadr 0 (tm 3)) 22 false, pg 24 (.ld none (tm 23)) 22 false, pg 25 (.bin .eql (tm 24) (.const (.int .i64 3))) 22 false, pp 26 (.pick (tm 22) (.const (.bool true)) (tm 25)), pv 27 26, pg 28 (.fadr 0 (tm 3)) 27 false, pg 29 (.ld none (tm 28)) 27 false, pg 30 (.bin .eql (tm 29) (.const (.int .i64 5))) 27 false, pp 31 (.pick (tm 27) (.const (.bool true)) (tm 30)), pv 32 31, pg 33 (.fadr 0 (tm 3)) 32 false, pg 34 (.ld none (tm 33)) 32 false, pg 35 (.bin .eql (tm 34) (.const (.int .i64 7))) 32 false, pp 36 (.pick (tm 32) (.const (.bool true)) (tm 35)), pv 37 36, pg 38 (.fadr 1 (tm 3)) 37 true, pg 39 (.ld none (tm 38)) 37 true, pg 40 (.bin .geq (tm 39) (.const (.int .i64 0))) 37 true, pp 41 (.pick (tm 37) (tm 40) (.const (.bool false))), pv 42 41, pg 43 (.fadr 1 (tm 3)) 42 true, pg 44 (.ld none (tm 43)) 42 true, pg 45 (.fadr 0 (tm 3)) 42 true, pg 46 (.ld none (tm 45)) 42 true, pg 47 (.bin .lss (tm 44) (tm 46)) 42 true, pp 48 (.pick (tm 42) (tm 47) (.const (.bool false))), pv 49 48, pg 50 (.fadr 2 (tm 3)) 49 true, pg 51 (.ld none (tm 50)) 49 true, pg 52 (.bin .geq (tm 51) (.const (.int .i64 0))) 49 true, pp 53 (.pick (tm 49) (tm 52) (.const (.bool false))), pv 54 53, pg 55 (.fadr 2 (tm 3)) 54 true, pg 56 (.ld none (tm 55)) 54 true, pg 57 (.bin .leq (tm 56) (.const (.int .i64 4096))) 54 true, pp 58 (.pick (tm 54) (tm 57) (.const (.bool false))), pv 59 58, pg 60 (.fadr 3 (tm 3)) 59 true, pg 61 (.ld none (tm 60)) 59 true, pg 62 (.bin .eql (tm 61) (.const (.int .i64 1))) 59 true, pw 63 62 59 true, pg 64 (.fadr 3 (tm 3)) 63 false, pg 65 (.ld none (tm 64)) 63 false, pg 66 (.bin .eql (tm 65) (.const (.int .i64 2))) 63 false, pg 67 (.pick (tm 63) (.const (.bool true)) (tm 66)) 59 true, pp 68 (.pick (tm 59) (tm 67) (.const (.bool false))), pv 69 68, pg 70 (.fadr 4 (tm 3)) 69 true, pg 71 (.ld none (tm 70)) 69 true, pg 72 (.bin .geq (tm 71) (.const (.int .i64 0))) 69 true, pp 73 (.pick (tm 69) (tm 72) (.const (.bool false))), pv 74 73, pg 75 (.fadr 4 (tm 3)) 74 true, pg 76 (.ld none (tm 75)) 74 true, pg 77 (.bin .leq (tm 76) (.const (.int .i64 65536))) 74 true, pp 78 (.pick (tm 74) (tm 77) (.const (.bool false))), pv 79 78, pg 80 (.fadr 5 (tm 3)) 79 true, pg 81 (.ld none (tm 80)) 79 true, pg 82 (.bin .geq (tm 81) (.const (.int .i64 1))) 79 true, pp 83 (.pick (tm 79) (tm 82) (.const (.bool false))), pv 84 83, pg 85 (.fadr 5 (tm 3)) 84 true, pg 86 (.ld none (tm 85)) 84 true, pg 87 (.bin .leq (tm 86) (.const (.int .i64 1000))) 84 true, pp 88 (.pick (tm 84) (tm 87) (.const (.bool false))), pv 89 88, pg 90 (.fadr 6 (tm 3)) 89 true, pg 91 (.ld none (tm 90)) 89 true, pg 92 (.bin .geq (tm 91) (.const (.int .i64 1))) 89 true, pp 93 (.pick (tm 89) (tm 92) (.const (.bool false))), pv 94 93, pg 95 (.fadr 6 (tm 3)) 94 true, pg 96 (.ld none (tm 95)) 94 true, pg 97 (.bin .leq (tm 96) (.const (.int .i64 1000))) 94 true, pp 98 (.pick (tm 94) (tm 97) (.const (.bool false))), pv 99 98, pw 100 1 99 true, pg 101 (.bin .geq (tm 100) (.const (.int .i64 0))) 99 true, pp 102 (.pick (tm 99) (tm 101) (.const (.bool false))), pv 103 102, pw 104 1 103 true, pg 105 (.bin .leq (tm 104) (.const (.int .i64 1099511627776))) 103 true, pp 106 (.pick (tm 103) (tm 105) (.const (.bool false))), pv 9 106]) FQ)
def Nd : zp := { ntmps := 200, results := [.tmp 6], body := .seq (.region [pp 3 (.box (tm 0)), pp 6 (.mv (.const (.bool false)))]) (.seq (.region [pp 14 (.ld (some 7) (tm 3)), pv 15 1, pp 16 (.call (.func 4) [.tmp 14, .tmp 15]), pv 13 16, pp 17 (.ext (tm 13) 0), pp 18 (.ext (tm 13) 1), pv 7 17, pv 8 18]) QS) }
def NJ (x y : Value) (s : DS) : Option (Value × DS) := Zw (fun o => match o with | .const v => v | _ => Zb) s (.mkslice 8 [.int .i64 0] (.const x) (.const y))
theorem MW {call : zN} {ρ : Operand → Value} {R : Value × DS → Prop} {s : DS} {l c : Operand} : W (dop call ρ s (.mkslice 8 [.int .i64 0] l c)) R = W (NJ (ρ l) (ρ c) s) R := by
 rw [N1 rfl]
 rfl
structure CS (E : Env) : Prop where
 fQlaw : E.fn 3 = some Nd
 iQlaw : E.intr 3 = none
 fQNew : E.fn 4 = some d4
 iQNew : E.intr 4 = none
 fQView : E.fn 9 = some d9
 iQView : E.intr 9 = none
 fQCommit : E.fn 10 = some d10
 iQCommit : E.intr 10 = none
 fQLast : E.fn 12 = some d12
 iQLast : E.intr 12 = none
 fQState : E.fn 8 = some d8
 iQState : E.intr 8 = none
 fQLeader : E.fn 6 = some d6
 iQLeader : E.intr 6 = none
 fQStore : E.fn 7 = some d7
 iQStore : E.intr 7 = none
 fQDone : E.fn 11 = some d11
 iQDone : E.intr 11 = none
 fQmay : E.fn 15 = some d15
 iQmay : E.intr 15 = none
 fQwithin : E.fn 16 = some d16
 iQwithin : E.intr 16 = none
 fQEng : E.fn 17 = some d17
 iQEng : E.intr 17 = none
 fQLog : E.fn 18 = some d18
 iQLog : E.intr 18 = none
 fQsum : E.fn 21 = some d21
 iQsum : E.intr 21 = none
 fQLogLast : E.fn 25 = some d25
 iQLogLast : E.intr 25 = none
 fQCache : E.fn 26 = some d26
 iQCache : E.intr 26 = none
 fQCloneR : E.fn 27 = some d27
 iQCloneR : E.intr 27 = none
 fTBNew : E.fn 20 = some d20
 iTBNew : E.intr 20 = none
 fRoom : E.fn 14 = some d14
 iRoom : E.intr 14 = none
 fdg : E.fn 28 = some d28
 idg : E.intr 28 = none
 fr : ∀ d, ZM (dcall E d)
 lf : 10000 ≤ E.lf
def Zm (c me rm kd lm ev pt b : Int) : Prop := (c = 1 ∨ c = 3 ∨ c = 5 ∨ c = 7) ∧ 0 ≤ me ∧ me < c ∧ 0 ≤ rm ∧ rm ≤ 4096 ∧ (kd = 1 ∨ kd = 2) ∧ 0 ≤ lm ∧ lm ≤ 65536 ∧ 1 ≤ ev ∧ ev ≤ 1000 ∧ 1 ≤ pt ∧ pt ≤ 1000 ∧ 0 ≤ b ∧ b ≤ 1099511627776
instance (c me rm kd lm ev pt b : Int) : Decidable (Zm c me rm kd lm ev pt b) := by unfold Zm; infer_instance
section
variable {E : Env} (hQ0 : CS E) {s : DS} {d : Nat} {c me rm kd lm ev pt b : Int}
include hQ0
theorem Vz (n x y : Int) : dcall E (d + 1) (.func (.func 16) #[] #[]) [.int .i64 n, .int .i64 x, .int .i64 y] s = some (.bool (decide (x ≤ n ∧ n ≤ y)), s) := by
 rw [← XH, zF hQ0.iQwithin hQ0.fQwithin rfl]
 by_cases c1 : x ≤ n
 · by_cases c2 : n ≤ y
   · rw [decide_eq_true (show x ≤ n ∧ n ≤ y from ⟨c1, c2⟩)]
     simp (maxSteps := 4000000) only [zr, zf, zI, zc, zg, zn, zt, ZK, z8, ze, zu, zi, zM, zU, zT, zm, zY, zP, zx, zl, zk, zd, zb, za, Nat.reduceEqDiff, z0, zq, List.getElem?_cons_zero, List.getElem?_cons_succ, z1, zo, zz, if_true, reduceCtorEq, pp, pv, pw, pg, decide_true, d16, c1, c2]
   · rw [decide_eq_false (show ¬ (x ≤ n ∧ n ≤ y) from fun h => c2 h.2)]
     simp (maxSteps := 4000000) only [zr, zf, zI, zc, zg, zn, zt, ZK, z8, ze, zu, zi, zM, zU, zT, zm, zY, zP, zx, zl, zk, zd, zb, za, Nat.reduceEqDiff, z0, zq, List.getElem?_cons_zero, List.getElem?_cons_succ, z1, zo, zz, if_true, reduceCtorEq, pp, pv, pw, pg, decide_true, decide_false, d16, c1, c2]
 · rw [decide_eq_false (show ¬ (x ≤ n ∧ n ≤ y) from fun h => c1 h.1)]
   simp (maxSteps := 4000000) only [zr, zf, zI, zc, zg, zn, zt, ZK, Zu, ze, zu, zi, zM, zU, zT, zm, zY, zP, zx, zl, zk, zd, zb, za, Nat.reduceEqDiff, z0, zq, List.getElem?_cons_zero, List.getElem?_cons_succ, z1, zo, zz, if_true, if_false, reduceCtorEq, z3, List.nil_append, pp, pv, pw, pg, decide_false, d16, c1]
def Q5 (c me rm ev pt : Int) : Prop := (c = 1 ∨ c = 3 ∨ c = 5 ∨ c = 7) ∧ 0 ≤ me ∧ me < c ∧ 0 ≤ rm ∧ rm ≤ 4096 ∧ 1 ≤ ev ∧ ev ≤ 1000 ∧ 1 ≤ pt ∧ pt ≤ 1000
theorem Pc (hG : s.Good) : W (dcall E (d + 2) (.func (.func 15) #[] #[]) [.agg ⟨[.int .i64 c, .int .i64 me, .int .i64 rm, .int .i64 kd, .int .i64 lm, .int .i64 ev, .int .i64 pt]⟩] s) fun r => (∃ B : Bool, r.1 = .bool B ∧ (B = true ↔ Q5 c me rm ev pt)) ∧ Ext [] s r.2 := by
 refine Zz fun Q hQ => ?_
 rw [zF hQ0.iQmay hQ0.fQmay rfl]
 obtain ⟨S, hS⟩ : ∃ S : DS, S = s.new (.cells (.list [.int .i64 c, .int .i64 me, .int .i64 rm, .int .i64 kd, .int .i64 lm, .int .i64 ev, .int .i64 pt]) false) := ⟨_, rfl⟩
 have X : Ext [] s S := by rw [hS]; exact Ext.new
 have g : S.get s.next = some (.cells (.list [.int .i64 c, .int .i64 me, .int .i64 rm, .int .i64 kd, .int .i64 lm, .int .i64 ev, .int .i64 pt]) false) := by rw [hS]; exact DS.new_get_self hG
 have hw := fun n x y => Vz hQ0 (d := d) (s := S) n x y
 have fin : ∀ B : Bool, (B = true ↔ Q5 c me rm ev pt) → Q (.bool B, S) := fun B hB => hQ _ ⟨⟨B, rfl, hB⟩, X⟩
 have w0 : 1 ≤ c ∧ c ≤ 7 → zR .i64 (c - 1) = c - 1 := fun h => ZB (by omega) (by omega)
 have ht : c.tmod 2 = 1 → (1 ≤ c ∧ c ≤ 7) → c = 1 ∨ c = 3 ∨ c = 5 ∨ c = 7 := fun h1 h2 => by
  obtain ⟨n, rfl⟩ := Int.eq_ofNat_of_zero_le (show 0 ≤ c by omega)
  have : ((n : Int).tmod 2) = ((n % 2 : Nat) : Int) := rfl
  omega
 have ht2 : (c = 1 ∨ c = 3 ∨ c = 5 ∨ c = 7) → c.tmod 2 = 1 := fun h => by rcases h with rfl | rfl | rfl | rfl <;> rfl
 by_cases c1 : 1 ≤ c ∧ c ≤ 7
 rotate_left
 · have e1 : decide (1 ≤ c ∧ c ≤ 7) = false := decide_eq_false c1
   have := fin false ⟨fun h => (nomatch h), fun h => absurd h (by unfold Q5; intro h; omega)⟩
   simp (maxSteps := 4000000) only [zr, zf, zI, zc, zg, zn, zt, ZK, Zu, ze, zu, zi, zM, zU, zH, Zh, Z4, zB, zm, zx, zl, zk, zy, zd, zb, za, Nat.reduceEqDiff, z0, zq, List.getElem?_cons_zero, z1, zo, zz, z4, z5, zC, Cells.get, getN, zD, if_false, z3, List.nil_append, pp, pv, pg, Nat.add_zero, d15, ← hS, g, hw, e1]
   exact this
 have e1 : decide (1 ≤ c ∧ c ≤ 7) = true := decide_eq_true c1
 have w1 := w0 c1
 by_cases c2 : c.tmod 2 = 1
 rotate_left
 · have e2 : (c.tmod 2 = 1) = False := eq_false c2
   have := fin false ⟨fun h => (nomatch h), fun h => absurd h (by unfold Q5; intro h; exact c2 (ht2 h.1))⟩
   simp (maxSteps := 4000000) only [zr, zf, zI, zc, zg, zn, zt, ZK, z8, Zu, ze, zu, zi, zM, zU, zT, zH, Zh, Z4, zB, zm, zY, zP, zx, zl, zk, zy, zd, zb, za, Nat.reduceEqDiff, z0, zq, List.getElem?_cons_zero, z1, zo, zz, z4, z5, zC, Cells.get, getN, zD, if_true, if_false, z3, List.nil_append, pp, pv, pg, Nat.add_zero, decide_false, Int.reduceEq, d15, ← hS, g, hw, e1, e2]
   exact this
 have e2 : (c.tmod 2 = 1) = True := eq_true c2
 by_cases c3 : 0 ≤ me ∧ me ≤ c - 1
 rotate_left
 · have e3 : decide (0 ≤ me ∧ me ≤ c - 1) = false := decide_eq_false c3
   have := fin false ⟨fun h => (nomatch h), fun h => absurd h (by unfold Q5; intro h; omega)⟩
   simp (maxSteps := 4000000) only [zr, zf, zI, zc, zg, zn, zt, ZK, z8, Zu, ze, zu, zi, zM, zU, zT, zH, Zh, Z4, zB, zm, zY, zP, zx, zl, zk, zy, zd, zb, za, Nat.reduceEqDiff, z0, zq, List.getElem?_cons_zero, z1, zo, zz, z4, z5, zC, Cells.get, getN, Nat.zero_add, zD, if_true, if_false, z3, List.nil_append, pp, pv, pg, Nat.add_zero, decide_true, Int.reduceEq, d15, ← hS, g, hw, w1, e1, e2, e3]
   exact this
 have e3 : decide (0 ≤ me ∧ me ≤ c - 1) = true := decide_eq_true c3
 by_cases c4 : 0 ≤ rm ∧ rm ≤ 4096
 rotate_left
 · have e4 : decide (0 ≤ rm ∧ rm ≤ 4096) = false := decide_eq_false c4
   have := fin false ⟨fun h => (nomatch h), fun h => absurd h (by unfold Q5; intro h; omega)⟩
   simp (maxSteps := 4000000) only [zr, zf, zI, zc, zg, zn, zt, ZK, z8, Zu, ze, zu, zi, zM, zU, zT, zH, Zh, Z4, zB, zm, zY, zP, zx, zl, zk, zy, zd, zb, za, Nat.reduceEqDiff, z0, zq, List.getElem?_cons_zero, z1, zo, zz, z4, z5, zC, Cells.get, getN, Nat.zero_add, zD, if_true, if_false, z3, List.nil_append, pp, pv, pg, Nat.add_zero, decide_true, Int.reduceEq, d15, ← hS, g, hw, w1, e1, e2, e3, e4]
   exact this
 have e4 : decide (0 ≤ rm ∧ rm ≤ 4096) = true := decide_eq_true c4
 by_cases c5 : 1 ≤ ev ∧ ev ≤ 1000
 rotate_left
 · have e5 : decide (1 ≤ ev ∧ ev ≤ 1000) = false := decide_eq_false c5
   have := fin false ⟨fun h => (nomatch h), fun h => absurd h (by unfold Q5; intro h; omega)⟩
   simp (maxSteps := 4000000) only [zr, zf, zI, zc, zg, zn, zt, ZK, z8, Zu, ze, zu, zi, zM, zU, zT, zH, Zh, Z4, zB, zm, zY, zP, zx, zl, zk, zy, zd, zb, za, Nat.reduceEqDiff, z0, zq, List.getElem?_cons_zero, z1, zo, zz, z4, z5, zC, Cells.get, getN, Nat.zero_add, zD, if_true, if_false, z3, List.nil_append, pp, pv, pg, Nat.add_zero, decide_true, Int.reduceEq, d15, ← hS, g, hw, w1, e1, e2, e3, e4, e5]
   exact this
 have e5 : decide (1 ≤ ev ∧ ev ≤ 1000) = true := decide_eq_true c5
 by_cases c6 : 1 ≤ pt ∧ pt ≤ 1000
 rotate_left
 · have e6 : decide (1 ≤ pt ∧ pt ≤ 1000) = false := decide_eq_false c6
   have := fin false ⟨fun h => (nomatch h), fun h => absurd h (by unfold Q5; intro h; omega)⟩
   simp (maxSteps := 4000000) only [zr, zf, zI, zc, zg, zn, zt, ZK, z8, ze, zu, zi, zM, zU, zT, zH, Zh, Z4, zB, zm, zY, zP, zx, zl, zk, zy, zd, zb, za, Nat.reduceEqDiff, z0, zq, List.getElem?_cons_zero, z1, zo, zz, z4, z5, zC, Cells.get, getN, Nat.zero_add, zD, if_true, if_false, pp, pv, pg, Nat.add_zero, decide_true, Int.reduceEq, d15, ← hS, g, hw, w1, e1, e2, e3, e4, e5, e6]
   exact this
 have e6 : decide (1 ≤ pt ∧ pt ≤ 1000) = true := decide_eq_true c6
 have := fin true ⟨fun _ => by have := ht c2 c1; unfold Q5; omega, fun _ => rfl⟩
 simp (maxSteps := 4000000) only [zr, zf, zI, zc, zg, zn, zt, ZK, z8, ze, zu, zi, zM, zU, zT, zH, Zh, Z4, zB, zm, zY, zP, zx, zl, zk, zy, zd, zb, za, Nat.reduceEqDiff, z0, zq, List.getElem?_cons_zero, z1, zo, zz, z4, z5, zC, Cells.get, getN, Nat.zero_add, zD, if_true, if_false, pp, pv, pg, Nat.add_zero, decide_true, Int.reduceEq, d15, ← hS, g, hw, w1, e1, e2, e3, e4, e5, e6]
 exact this
def Gb (kd lm : Int) : Prop := (kd = 1 ∨ kd = 2) ∧ 0 ≤ lm ∧ lm ≤ 65536
theorem Ta : dcall E (d + 1) (.func (.func 26) #[] #[]) [.int .i64 8] s = some (.tuple ⟨[.pointer (some ⟨s.next + 1, 0, none⟩), .int .i64 0]⟩, (s.new (.map [] 0)).new (.cells (.list [.map (some s.next), .int .i64 8, .int .i64 0, .int .i64 0, .int .i64 0]) false)) := by
 rw [← XH, zF hQ0.iQCache hQ0.fQCache rfl]
 simp (maxSteps := 4000000) only [zr, zf, zA, zO, zI, zc, zg, zn, zt, ZK, zV, zv, ze, zu, Z3, zi, zM, zU, zT, ZG, Z4, Fj, zm, zY, zP, zx, zl, zk, zd, zb, za, Nat.reduceEqDiff, z0, zq, List.getElem?_cons_zero, z1, zo, zz, Nat.zero_add, Nat.reduceAdd, Zg, Kp, zD, List.length_cons, List.length_nil, Bool.and_self, Bool.and_eq_true, Nat.beq_eq, Nat.ble_eq, Nat.reduceLeDiff, and_self, if_true, if_false, reduceCtorEq, z3, zL, List.take_zero, List.take_succ_cons, List.drop_succ_cons, List.drop_zero, List.nil_append, List.cons_append, pp, pv, pw, pg, z7, decide_false, Int.reduceLT, d26]
theorem Pd (hG : s.Good) : W (dcall E (d + 2) (.func (.func 17) #[] #[]) [.int .i64 kd, .int .i64 8, .int .i64 lm] s) fun r => Ext [] s r.2 ∧ ((Gb kd lm ∧ ∃ p, r.1 = .tuple ⟨[.pointer (some ⟨p, 0, none⟩), .int .i64 0]⟩ ∧ s.next ≤ p) ∨ (¬ Gb kd lm ∧ r.1 = .tuple ⟨[.pointer none, .int .i64 1]⟩)) := by
 refine Zz fun Q hQ => ?_
 rw [zF hQ0.iQEng hQ0.fQEng rfl]
 have hc := Ta hQ0 (d := d) (s := s)
 have bad : ∀ S, Ext [] s S → ¬ Gb kd lm → Q (.tuple ⟨[.pointer none, .int .i64 1]⟩, S) := fun S X h => hQ _ ⟨X, .inr ⟨h, rfl⟩⟩
 have X1 : ∀ o1 o2, Ext [] s ((s.new o1).new o2) := fun _ _ => Ext.new.trans' Ext.new
 have good : Gb kd lm → ∀ o1 o2 o3, Q (.tuple ⟨[.pointer (some ⟨((s.new o1).new o2).next, 0, none⟩), .int .i64 0]⟩, ((s.new o1).new o2).new o3) := fun h o1 o2 o3 => hQ _ ⟨(X1 _ _).trans' Ext.new, .inl ⟨h, _, rfl, by simp only [DS.new_next]; omega⟩⟩
 have key : ∀ k1 : kd = 1 ∨ kd = 2 ∨ (kd ≠ 1 ∧ kd ≠ 2), True := fun _ => trivial
 by_cases k1 : kd = 1 ∨ kd = 2
 · by_cases k2 : lm < 0
   · have := fun a b => bad _ (X1 a b) (show ¬ Gb kd lm from fun h => by unfold Gb at h; omega)
     rcases k1 with rfl | rfl
     · simp (maxSteps := 4000000) only [zr, zf, zA, zI, zc, ZE, zg, zn, zt, ZK, ZH, Zu, zV, zS, ze, zu, zi, zM, zU, zT, WS, zB, zm, zY, zP, zx, zl, zk, zy, zd, zb, za, Nat.reduceEqDiff, z0, zq, List.getElem?_cons_zero, List.getElem?_cons_succ, z1, zo, zz, z4, z5, getN, if_true, if_false, reduceCtorEq, Bool.not_true, z3, List.nil_append, pp, pv, pw, pg, z7, decide_true, d17, hc, k2]
       exact this _ _
     · simp (maxSteps := 4000000) only [zr, zf, zA, zI, zc, ZE, zg, zn, zt, ZK, z8, ZH, zV, zS, ze, zu, zi, zM, zU, zT, WS, zB, zm, zY, zP, zx, zl, zk, zy, zd, zb, za, Nat.reduceEqDiff, z0, zq, List.getElem?_cons_zero, List.getElem?_cons_succ, z1, zo, zz, z4, z5, getN, if_true, if_false, reduceCtorEq, Bool.not_true, Bool.not_false, z3, List.nil_append, pp, pv, pw, pg, z7, decide_true, decide_false, Int.reduceEq, d17, hc, k2]
       exact this _ _
   · by_cases k3 : 65536 < lm
     · have := fun a b => bad _ (X1 a b) (show ¬ Gb kd lm from fun h => by unfold Gb at h; omega)
       rcases k1 with rfl | rfl
       · simp (maxSteps := 4000000) only [zr, zf, zA, zI, zc, ZE, zg, zn, zt, ZK, Zu, zV, zS, ze, zu, zi, zM, zU, zT, WS, zB, zm, zY, zP, zx, zl, zk, zy, zd, zb, za, Nat.reduceEqDiff, z0, zq, List.getElem?_cons_zero, List.getElem?_cons_succ, z1, zo, zz, z4, z5, getN, if_true, if_false, reduceCtorEq, Bool.not_true, z3, List.nil_append, pp, pv, pw, pg, z7, decide_true, decide_false, d17, hc, k2, k3]
         exact this _ _
       · simp (maxSteps := 4000000) only [zr, zf, zA, zI, zc, ZE, zg, zn, zt, ZK, z8, zV, zS, ze, zu, zi, zM, zU, zT, WS, zB, zm, zY, zP, zx, zl, zk, zy, zd, zb, za, Nat.reduceEqDiff, z0, zq, List.getElem?_cons_zero, List.getElem?_cons_succ, z1, zo, zz, z4, z5, getN, if_true, if_false, reduceCtorEq, Bool.not_true, Bool.not_false, z3, pp, pv, pw, pg, decide_true, decide_false, Int.reduceEq, d17, hc, k2, k3]
         exact this _ _
     · have := good ⟨k1, by omega, by omega⟩
       rcases k1 with rfl | rfl
       · simp (maxSteps := 4000000) only [zr, zf, zA, zO, zI, zc, zg, zn, zt, ZK, Zu, zV, zv, ze, zu, Z3, zi, zM, zU, zT, ZG, WS, Z4, zB, zm, zY, zP, zx, zl, zk, zy, zd, zb, za, Nat.reduceEqDiff, z0, zq, List.getElem?_cons_zero, List.getElem?_cons_succ, z1, zo, zz, z4, z5, getN, Nat.zero_add, Nat.reduceAdd, Zg, Xb, zD, List.length_cons, List.length_nil, Bool.and_self, Bool.and_eq_true, Nat.beq_eq, Nat.ble_eq, Nat.reduceLeDiff, Nat.le_refl, and_self, if_true, if_false, reduceCtorEq, Bool.not_true, z3, zL, List.take_zero, List.take_succ_cons, List.drop_succ_cons, List.drop_zero, List.nil_append, List.cons_append, List.drop_nil, List.append_nil, pp, pv, pw, pg, z7, decide_true, decide_false, d17, hc, k2, k3]
         exact this _ _ _
       · simp (maxSteps := 4000000) only [zr, zf, zA, zO, zI, zc, zg, zn, zt, ZK, z8, zV, zv, ze, zu, Z3, zi, zM, zU, zT, ZG, WS, Z4, zB, zm, zY, zP, zx, zl, zk, zy, zd, zb, za, Nat.reduceEqDiff, z0, zq, List.getElem?_cons_zero, List.getElem?_cons_succ, z1, zo, zz, z4, z5, getN, Nat.zero_add, Nat.reduceAdd, Zg, Xb, zD, List.length_cons, List.length_nil, Bool.and_self, Bool.and_eq_true, Nat.beq_eq, Nat.ble_eq, Nat.reduceLeDiff, Nat.le_refl, and_self, if_true, if_false, reduceCtorEq, Bool.not_true, Bool.not_false, z3, zL, List.take_zero, List.take_succ_cons, List.drop_succ_cons, List.drop_zero, List.nil_append, List.cons_append, List.drop_nil, List.append_nil, pp, pv, pw, pg, z7, decide_true, decide_false, Int.reduceEq, d17, hc, k2, k3]
         exact this _ _ _
 · have h1 : ¬ kd = 1 := fun h => k1 (.inl h)
   have h2 : ¬ kd = 2 := fun h => k1 (.inr h)
   have := fun a b => bad _ (X1 a b) (show ¬ Gb kd lm from fun h => k1 h.1)
   simp (maxSteps := 4000000) only [zr, zf, zA, zI, zc, ZE, zg, zn, zt, ZK, z8, ZH, zV, zS, ze, zu, zi, zM, zU, zT, WS, zB, zm, zY, zP, zx, zl, zk, zy, zd, zb, za, Nat.reduceEqDiff, z0, zq, List.getElem?_cons_zero, List.getElem?_cons_succ, z1, zo, zz, z4, z5, getN, if_true, if_false, reduceCtorEq, Bool.not_true, Bool.not_false, z3, List.nil_append, pp, pv, pw, pg, z7, decide_true, decide_false, d17, hc, h1, h2]
   exact this _ _
theorem Cp : dcall E (d + 2) (.func (.func 18) #[] #[]) [.int .i64 0, .slice none 0 0] s = some (.tuple ⟨[.pointer (some ⟨s.next, 0, none⟩), .int .i64 0]⟩, s.new (.cells (.list [.int .i64 0, .slice none 0 0]) false)) := by
 have hc : dcall E (d + 1) (.func (.func 27) #[] #[]) [.slice none 0 0] s = some (.slice none 0 0, s) := by
  rw [← XH, zF hQ0.iQCloneR hQ0.fQCloneR rfl]
  simp (maxSteps := 4000000) only [zr, zf, zA, zI, zc, ZE, zg, zn, zt, zS, ze, ZF, zi, zM, Z8, Zl, zx, zl, zk, zd, zb, za, z0, zq, List.getElem?_cons_zero, z1, zo, zz, if_false, reduceCtorEq, Bool.not_true, z3, pp, pv, Option.isNone_none, d27]
 rw [← XH, zF hQ0.iQLog hQ0.fQLog rfl]
 simp (maxSteps := 4000000) only [zr, zf, zA, Zq, zO, zI, zc, Zo, zg, zn, zt, ZK, zV, zv, ze, zu, Z3, zi, zM, zU, zT, ZG, Yf, Z4, zB, zm, zY, zP, zx, zl, zk, zy, zd, zb, za, Nat.reduceEqDiff, z0, zq, List.getElem?_cons_zero, List.getElem?_cons_succ, z1, zo, zz, z4, z5, Nat.zero_add, Nat.reduceAdd, Zg, YD, zD, List.length_cons, List.length_nil, Bool.and_self, Bool.and_eq_true, Nat.beq_eq, Nat.ble_eq, Nat.reduceLeDiff, Nat.le_refl, and_self, if_true, if_false, reduceCtorEq, z3, zL, List.take_zero, List.take_succ_cons, List.drop_succ_cons, List.drop_zero, List.nil_append, List.cons_append, List.drop_nil, List.append_nil, pp, pv, pw, pg, decide_false, Int.reduceLT, d18, hc, show ((4096 : Int) < ((0 : Nat) : Int)) = False from eq_false (by decide)]
theorem R9 : dcall E (d + 1) (.func (.func 20) #[] #[]) [] s = some (.pointer (some ⟨s.next + 1, 0, none⟩), (s.new (.map [] 0)).new (.cells (.list [.map (some s.next)]) false)) := by
 rw [← XH, zF hQ0.iTBNew hQ0.fTBNew rfl]
 simp (maxSteps := 4000000) only [zr, zf, zI, zc, zg, zn, zt, ze, Z3, zi, zM, ZG, Z4, Fj, zx, zl, zk, zd, zb, z1, zo, zz, Nat.zero_add, Kp, zD, List.length_cons, List.length_nil, Bool.and_self, Bool.and_eq_true, Nat.beq_eq, Nat.ble_eq, Nat.le_refl, and_self, if_true, zL, List.take_zero, List.drop_succ_cons, List.nil_append, List.drop_nil, List.append_nil, pp, pv, z7, d20]
theorem Sz {S : DS} {P : Nat} {t : PT Value} {vw : Int} {v7 v8 : Value} {KK : DExit → St → Prop} (gS : S.get P = some (.cells (.list [.int .i64 c, .int .i64 me, .int .i64 rm, .int .i64 kd, .int .i64 lm, .int .i64 ev, .int .i64 pt]) false))
 (t1 : t.get 1 = some (.int .i64 b)) (t2 : t.get 2 = some (.int .i64 vw)) (t3 : t.get 3 = some (.pointer (some ⟨P, 0, none⟩))) (t7 : t.get 7 = some v7) (t8 : t.get 8 = some v8)
 (hK : ∀ t', (t'.get 1 = some (.int .i64 b) ∧ t'.get 2 = some (.int .i64 vw) ∧ t'.get 3 = some (.pointer (some ⟨P, 0, none⟩)) ∧ t'.get 7 = some v7 ∧ t'.get 8 = some v8) → t'.get 9 = some (.bool (decide (Zm c me rm kd lm ev pt b))) → WC (dcall E (d + 17)) E.lf false FQ ⟨t', S, []⟩ KK) :
 WC (dcall E (d + 17)) E.lf false QS ⟨t, S, []⟩ KK := by
 by_cases hc : c = 1 ∨ c = 3 ∨ c = 5 ∨ c = 7
 rotate_left
 · have hB : decide (Zm c me rm kd lm ev pt b) = false := decide_eq_false fun h => hc h.1
   have h1 : ¬ c = 1 := fun h => hc (.inl h)
   have h3 : ¬ c = 3 := fun h => hc (.inr (.inl h))
   have h5 : ¬ c = 5 := fun h => hc (.inr (.inr (.inl h)))
   have h7 : ¬ c = 7 := fun h => hc (.inr (.inr (.inr h)))
   rw [hB] at hK
   simp (maxSteps := 4000000) only [zr, zf, zc, zg, zn, zt, ZK, Zu, zV, ze, zu, zi, zM, zU, zT, zH, Zh, zm, zY, zP, zl, zk, zd, zb, za, Nat.reduceEqDiff, z0, z1, zC, Cells.get, getN, if_true, if_false, z3, List.nil_append, pp, pv, pw, pg, Nat.add_zero, decide_false, WM, QS, t1, t2, t3, gS, h1, h3, h5, h7]
   exact hK _ ⟨by simp (maxSteps := 4000000) only [za, Nat.reduceEqDiff, z0, t1], by simp (maxSteps := 4000000) only [za, Nat.reduceEqDiff, z0, t2], by simp (maxSteps := 4000000) only [za, Nat.reduceEqDiff, z0, t3], by simp (maxSteps := 4000000) only [za, Nat.reduceEqDiff, z0, t7], by simp (maxSteps := 4000000) only [za, Nat.reduceEqDiff, z0, t8]⟩ (by simp (maxSteps := 4000000) only [zb])
 by_cases me0 : 0 ≤ me
 rotate_left
 · have hB : decide (Zm c me rm kd lm ev pt b) = false := decide_eq_false fun h => by unfold Zm at h; omega
   rcases hc with hc | hc | hc | hc
   all_goals
    subst hc
    rw [hB] at hK
    simp (maxSteps := 4000000) only [zr, zf, zc, zg, zn, zt, ZK, z8, ZH, Zu, zV, ze, zu, zi, zM, zU, zT, zH, Zh, zm, zY, zP, zl, zk, zd, zb, za, Nat.reduceEqDiff, z0, z1, zC, Cells.get, getN, Nat.zero_add, if_true, if_false, z3, List.nil_append, pp, pv, pw, pg, Nat.add_zero, decide_true, decide_false, Int.reduceEq, WM, QS, t1, t2, t3, gS, me0]
    exact hK _ ⟨by simp (maxSteps := 4000000) only [za, Nat.reduceEqDiff, z0, t1], by simp (maxSteps := 4000000) only [za, Nat.reduceEqDiff, z0, t2], by simp (maxSteps := 4000000) only [za, Nat.reduceEqDiff, z0, t3], by simp (maxSteps := 4000000) only [za, Nat.reduceEqDiff, z0, t7], by simp (maxSteps := 4000000) only [za, Nat.reduceEqDiff, z0, t8]⟩ (by simp (maxSteps := 4000000) only [zb])
 by_cases me1 : me < c
 rotate_left
 · have hB : decide (Zm c me rm kd lm ev pt b) = false := decide_eq_false fun h => by unfold Zm at h; omega
   rcases hc with hc | hc | hc | hc
   all_goals
    subst hc
    rw [hB] at hK
    simp (maxSteps := 4000000) only [zr, zf, zc, zg, zn, zt, ZK, z8, ZH, Zu, zV, ze, zu, zi, zM, zU, zT, zH, Zh, zm, zY, zP, zl, zk, zd, zb, za, Nat.reduceEqDiff, z0, z1, zC, Cells.get, getN, Nat.zero_add, if_true, if_false, z3, List.nil_append, pp, pv, pw, pg, Nat.add_zero, decide_true, decide_false, Int.reduceEq, WM, QS, t1, t2, t3, gS, me0, me1]
    exact hK _ ⟨by simp (maxSteps := 4000000) only [za, Nat.reduceEqDiff, z0, t1], by simp (maxSteps := 4000000) only [za, Nat.reduceEqDiff, z0, t2], by simp (maxSteps := 4000000) only [za, Nat.reduceEqDiff, z0, t3], by simp (maxSteps := 4000000) only [za, Nat.reduceEqDiff, z0, t7], by simp (maxSteps := 4000000) only [za, Nat.reduceEqDiff, z0, t8]⟩ (by simp (maxSteps := 4000000) only [zb])
 by_cases rm0 : 0 ≤ rm
 rotate_left
 · have hB : decide (Zm c me rm kd lm ev pt b) = false := decide_eq_false fun h => by unfold Zm at h; omega
   rcases hc with hc | hc | hc | hc
   all_goals
    subst hc
    rw [hB] at hK
    simp (maxSteps := 4000000) only [zr, zf, zc, zg, zn, zt, ZK, z8, ZH, Zu, zV, ze, zu, zi, zM, zU, zT, zH, Zh, zm, zY, zP, zl, zk, zd, zb, za, Nat.reduceEqDiff, z0, z1, zC, Cells.get, getN, Nat.zero_add, if_true, if_false, z3, List.nil_append, pp, pv, pw, pg, Nat.add_zero, decide_true, decide_false, Int.reduceEq, WM, QS, t1, t2, t3, gS, me0, me1, rm0]
    exact hK _ ⟨by simp (maxSteps := 4000000) only [za, Nat.reduceEqDiff, z0, t1], by simp (maxSteps := 4000000) only [za, Nat.reduceEqDiff, z0, t2], by simp (maxSteps := 4000000) only [za, Nat.reduceEqDiff, z0, t3], by simp (maxSteps := 4000000) only [za, Nat.reduceEqDiff, z0, t7], by simp (maxSteps := 4000000) only [za, Nat.reduceEqDiff, z0, t8]⟩ (by simp (maxSteps := 4000000) only [zb])
 by_cases rm1 : rm ≤ 4096
 rotate_left
 · have hB : decide (Zm c me rm kd lm ev pt b) = false := decide_eq_false fun h => by unfold Zm at h; omega
   rcases hc with hc | hc | hc | hc
   all_goals
    subst hc
    rw [hB] at hK
    simp (maxSteps := 4000000) only [zr, zf, zc, zg, zn, zt, ZK, z8, ZH, Zu, zV, ze, zu, zi, zM, zU, zT, zH, Zh, zm, zY, zP, zl, zk, zd, zb, za, Nat.reduceEqDiff, z0, z1, zC, Cells.get, getN, Nat.zero_add, if_true, if_false, z3, List.nil_append, pp, pv, pw, pg, Nat.add_zero, decide_true, decide_false, Int.reduceEq, WM, QS, t1, t2, t3, gS, me0, me1, rm0, rm1]
    exact hK _ ⟨by simp (maxSteps := 4000000) only [za, Nat.reduceEqDiff, z0, t1], by simp (maxSteps := 4000000) only [za, Nat.reduceEqDiff, z0, t2], by simp (maxSteps := 4000000) only [za, Nat.reduceEqDiff, z0, t3], by simp (maxSteps := 4000000) only [za, Nat.reduceEqDiff, z0, t7], by simp (maxSteps := 4000000) only [za, Nat.reduceEqDiff, z0, t8]⟩ (by simp (maxSteps := 4000000) only [zb])
 by_cases kd1 : kd = 1 ∨ kd = 2
 rotate_left
 · have hB : decide (Zm c me rm kd lm ev pt b) = false := decide_eq_false fun h => by unfold Zm at h; omega
   have kx : ¬ kd = 1 := fun h => kd1 (.inl h)
   have ky : ¬ kd = 2 := fun h => kd1 (.inr h)
   rcases hc with hc | hc | hc | hc
   all_goals
    subst hc
    rw [hB] at hK
    simp (maxSteps := 4000000) only [zr, zf, zc, zg, zn, zt, ZK, z8, ZH, Zu, zV, ze, zu, zi, zM, zU, zT, zH, Zh, zm, zY, zP, zl, zk, zd, zb, za, Nat.reduceEqDiff, z0, z1, zC, Cells.get, getN, Nat.zero_add, if_true, if_false, z3, List.nil_append, pp, pv, pw, pg, Nat.add_zero, decide_true, decide_false, Int.reduceEq, QS, t1, t2, t3, gS, me0, me1, rm0, rm1, kx, ky]
    exact hK _ ⟨by simp (maxSteps := 4000000) only [za, Nat.reduceEqDiff, z0, t1], by simp (maxSteps := 4000000) only [za, Nat.reduceEqDiff, z0, t2], by simp (maxSteps := 4000000) only [za, Nat.reduceEqDiff, z0, t3], by simp (maxSteps := 4000000) only [za, Nat.reduceEqDiff, z0, t7], by simp (maxSteps := 4000000) only [za, Nat.reduceEqDiff, z0, t8]⟩ (by simp (maxSteps := 4000000) only [zb])
 by_cases lm0 : 0 ≤ lm
 rotate_left
 · have hB : decide (Zm c me rm kd lm ev pt b) = false := decide_eq_false fun h => by unfold Zm at h; omega
   rcases kd1 with kx | kx <;> rcases hc with hc | hc | hc | hc
   all_goals
    subst hc kx
    rw [hB] at hK
    simp (maxSteps := 4000000) only [zr, zf, zc, zg, zn, zt, ZK, z8, ZH, Zu, zV, ze, zu, zi, zM, zU, zT, zH, Zh, zm, zY, zP, zl, zk, zd, zb, za, Nat.reduceEqDiff, z0, z1, zC, Cells.get, getN, Nat.zero_add, if_true, if_false, z3, List.nil_append, pp, pv, pw, pg, Nat.add_zero, decide_true, decide_false, Int.reduceEq, QS, t1, t2, t3, gS, me0, me1, rm0, rm1, lm0]
    exact hK _ ⟨by simp (maxSteps := 4000000) only [za, Nat.reduceEqDiff, z0, t1], by simp (maxSteps := 4000000) only [za, Nat.reduceEqDiff, z0, t2], by simp (maxSteps := 4000000) only [za, Nat.reduceEqDiff, z0, t3], by simp (maxSteps := 4000000) only [za, Nat.reduceEqDiff, z0, t7], by simp (maxSteps := 4000000) only [za, Nat.reduceEqDiff, z0, t8]⟩ (by simp (maxSteps := 4000000) only [zb])
 by_cases lm1 : lm ≤ 65536
 rotate_left
 · have hB : decide (Zm c me rm kd lm ev pt b) = false := decide_eq_false fun h => by unfold Zm at h; omega
   rcases kd1 with kx | kx <;> rcases hc with hc | hc | hc | hc
   all_goals
    subst hc kx
    rw [hB] at hK
    simp (maxSteps := 4000000) only [zr, zf, zc, zg, zn, zt, ZK, z8, ZH, Zu, zV, ze, zu, zi, zM, zU, zT, zH, Zh, zm, zY, zP, zl, zk, zd, zb, za, Nat.reduceEqDiff, z0, z1, zC, Cells.get, getN, Nat.zero_add, if_true, if_false, z3, List.nil_append, pp, pv, pw, pg, Nat.add_zero, decide_true, decide_false, Int.reduceEq, QS, t1, t2, t3, gS, me0, me1, rm0, rm1, lm0, lm1]
    exact hK _ ⟨by simp (maxSteps := 4000000) only [za, Nat.reduceEqDiff, z0, t1], by simp (maxSteps := 4000000) only [za, Nat.reduceEqDiff, z0, t2], by simp (maxSteps := 4000000) only [za, Nat.reduceEqDiff, z0, t3], by simp (maxSteps := 4000000) only [za, Nat.reduceEqDiff, z0, t7], by simp (maxSteps := 4000000) only [za, Nat.reduceEqDiff, z0, t8]⟩ (by simp (maxSteps := 4000000) only [zb])
 by_cases ev0 : 1 ≤ ev
 rotate_left
 · have hB : decide (Zm c me rm kd lm ev pt b) = false := decide_eq_false fun h => by unfold Zm at h; omega
   rcases kd1 with kx | kx <;> rcases hc with hc | hc | hc | hc
   all_goals
    subst hc kx
    rw [hB] at hK
    simp (maxSteps := 4000000) only [zr, zf, zc, zg, zn, zt, ZK, z8, ZH, Zu, zV, ze, zu, zi, zM, zU, zT, zH, Zh, zm, zY, zP, zl, zk, zd, zb, za, Nat.reduceEqDiff, z0, z1, zC, Cells.get, getN, Nat.zero_add, if_true, if_false, z3, List.nil_append, pp, pv, pw, pg, Nat.add_zero, decide_true, decide_false, Int.reduceEq, QS, t1, t2, t3, gS, me0, me1, rm0, rm1, lm0, lm1, ev0]
    exact hK _ ⟨by simp (maxSteps := 4000000) only [za, Nat.reduceEqDiff, z0, t1], by simp (maxSteps := 4000000) only [za, Nat.reduceEqDiff, z0, t2], by simp (maxSteps := 4000000) only [za, Nat.reduceEqDiff, z0, t3], by simp (maxSteps := 4000000) only [za, Nat.reduceEqDiff, z0, t7], by simp (maxSteps := 4000000) only [za, Nat.reduceEqDiff, z0, t8]⟩ (by simp (maxSteps := 4000000) only [zb])
 by_cases ev1 : ev ≤ 1000
 rotate_left
 · have hB : decide (Zm c me rm kd lm ev pt b) = false := decide_eq_false fun h => by unfold Zm at h; omega
   rcases kd1 with kx | kx <;> rcases hc with hc | hc | hc | hc
   all_goals
    subst hc kx
    rw [hB] at hK
    simp (maxSteps := 4000000) only [zr, zf, zc, zg, zn, zt, ZK, z8, ZH, Zu, zV, ze, zu, zi, zM, zU, zT, zH, Zh, zm, zY, zP, zl, zk, zd, zb, za, Nat.reduceEqDiff, z0, z1, zC, Cells.get, getN, Nat.zero_add, if_true, if_false, z3, List.nil_append, pp, pv, pw, pg, Nat.add_zero, decide_true, decide_false, Int.reduceEq, QS, t1, t2, t3, gS, me0, me1, rm0, rm1, lm0, lm1, ev0, ev1]
    exact hK _ ⟨by simp (maxSteps := 4000000) only [za, Nat.reduceEqDiff, z0, t1], by simp (maxSteps := 4000000) only [za, Nat.reduceEqDiff, z0, t2], by simp (maxSteps := 4000000) only [za, Nat.reduceEqDiff, z0, t3], by simp (maxSteps := 4000000) only [za, Nat.reduceEqDiff, z0, t7], by simp (maxSteps := 4000000) only [za, Nat.reduceEqDiff, z0, t8]⟩ (by simp (maxSteps := 4000000) only [zb])
 by_cases pt0 : 1 ≤ pt
 rotate_left
 · have hB : decide (Zm c me rm kd lm ev pt b) = false := decide_eq_false fun h => by unfold Zm at h; omega
   rcases kd1 with kx | kx <;> rcases hc with hc | hc | hc | hc
   all_goals
    subst hc kx
    rw [hB] at hK
    simp (maxSteps := 4000000) only [zr, zf, zc, zg, zn, zt, ZK, z8, ZH, Zu, zV, ze, zu, zi, zM, zU, zT, zH, Zh, zm, zY, zP, zl, zk, zd, zb, za, Nat.reduceEqDiff, z0, z1, zC, Cells.get, getN, Nat.zero_add, if_true, if_false, z3, List.nil_append, pp, pv, pw, pg, Nat.add_zero, decide_true, decide_false, Int.reduceEq, QS, t1, t2, t3, gS, me0, me1, rm0, rm1, lm0, lm1, ev0, ev1, pt0]
    exact hK _ ⟨by simp (maxSteps := 4000000) only [za, Nat.reduceEqDiff, z0, t1], by simp (maxSteps := 4000000) only [za, Nat.reduceEqDiff, z0, t2], by simp (maxSteps := 4000000) only [za, Nat.reduceEqDiff, z0, t3], by simp (maxSteps := 4000000) only [za, Nat.reduceEqDiff, z0, t7], by simp (maxSteps := 4000000) only [za, Nat.reduceEqDiff, z0, t8]⟩ (by simp (maxSteps := 4000000) only [zb])
 by_cases pt1 : pt ≤ 1000
 rotate_left
 · have hB : decide (Zm c me rm kd lm ev pt b) = false := decide_eq_false fun h => by unfold Zm at h; omega
   rcases kd1 with kx | kx <;> rcases hc with hc | hc | hc | hc
   all_goals
    subst hc kx
    rw [hB] at hK
    simp (maxSteps := 4000000) only [zr, zf, zc, zg, zn, zt, ZK, z8, ZH, Zu, zV, ze, zu, zi, zM, zU, zT, zH, Zh, zm, zY, zP, zl, zk, zd, zb, za, Nat.reduceEqDiff, z0, z1, zC, Cells.get, getN, Nat.zero_add, if_true, if_false, z3, List.nil_append, pp, pv, pw, pg, Nat.add_zero, decide_true, decide_false, Int.reduceEq, QS, t1, t2, t3, gS, me0, me1, rm0, rm1, lm0, lm1, ev0, ev1, pt0, pt1]
    exact hK _ ⟨by simp (maxSteps := 4000000) only [za, Nat.reduceEqDiff, z0, t1], by simp (maxSteps := 4000000) only [za, Nat.reduceEqDiff, z0, t2], by simp (maxSteps := 4000000) only [za, Nat.reduceEqDiff, z0, t3], by simp (maxSteps := 4000000) only [za, Nat.reduceEqDiff, z0, t7], by simp (maxSteps := 4000000) only [za, Nat.reduceEqDiff, z0, t8]⟩ (by simp (maxSteps := 4000000) only [zb])
 by_cases b0 : 0 ≤ b
 rotate_left
 · have hB : decide (Zm c me rm kd lm ev pt b) = false := decide_eq_false fun h => by unfold Zm at h; omega
   rcases kd1 with kx | kx <;> rcases hc with hc | hc | hc | hc
   all_goals
    subst hc kx
    rw [hB] at hK
    simp (maxSteps := 4000000) only [zr, zf, zc, zg, zn, zt, ZK, z8, ZH, Zu, zV, ze, zu, zi, zM, zU, zT, zH, Zh, zm, zY, zP, zl, zk, zd, zb, za, Nat.reduceEqDiff, z0, z1, zC, Cells.get, getN, Nat.zero_add, if_true, if_false, z3, List.nil_append, pp, pv, pw, pg, Nat.add_zero, decide_true, decide_false, Int.reduceEq, QS, t1, t2, t3, gS, me0, me1, rm0, rm1, lm0, lm1, ev0, ev1, pt0, pt1, b0]
    exact hK _ ⟨by simp (maxSteps := 4000000) only [za, Nat.reduceEqDiff, z0, t1], by simp (maxSteps := 4000000) only [za, Nat.reduceEqDiff, z0, t2], by simp (maxSteps := 4000000) only [za, Nat.reduceEqDiff, z0, t3], by simp (maxSteps := 4000000) only [za, Nat.reduceEqDiff, z0, t7], by simp (maxSteps := 4000000) only [za, Nat.reduceEqDiff, z0, t8]⟩ (by simp (maxSteps := 4000000) only [zb])
 by_cases b1 : b ≤ 1099511627776
 rotate_left
 · have hB : decide (Zm c me rm kd lm ev pt b) = false := decide_eq_false fun h => by unfold Zm at h; omega
   rcases kd1 with kx | kx <;> rcases hc with hc | hc | hc | hc
   all_goals
    subst hc kx
    rw [hB] at hK
    simp (maxSteps := 4000000) only [zr, zf, zc, zg, zn, zt, ZK, z8, ZH, zV, ze, zu, zi, zM, zU, zT, zH, Zh, zm, zY, zP, zl, zk, zd, zb, za, Nat.reduceEqDiff, z0, z1, zC, Cells.get, getN, Nat.zero_add, if_true, if_false, z3, List.nil_append, pp, pv, pw, pg, Nat.add_zero, decide_true, decide_false, Int.reduceEq, QS, t1, t2, t3, gS, me0, me1, rm0, rm1, lm0, lm1, ev0, ev1, pt0, pt1, b0, b1]
    exact hK _ ⟨by simp (maxSteps := 4000000) only [za, Nat.reduceEqDiff, z0, t1], by simp (maxSteps := 4000000) only [za, Nat.reduceEqDiff, z0, t2], by simp (maxSteps := 4000000) only [za, Nat.reduceEqDiff, z0, t3], by simp (maxSteps := 4000000) only [za, Nat.reduceEqDiff, z0, t7], by simp (maxSteps := 4000000) only [za, Nat.reduceEqDiff, z0, t8]⟩ (by simp (maxSteps := 4000000) only [zb])
 have hB : decide (Zm c me rm kd lm ev pt b) = true := decide_eq_true (by unfold Zm; omega)
 rcases kd1 with kx | kx <;> rcases hc with hc | hc | hc | hc
 all_goals
  subst hc kx
  rw [hB] at hK
  simp (maxSteps := 4000000) only [zr, zf, zc, zg, zn, zt, ZK, z8, ZH, zV, ze, zu, zi, zM, zU, zT, zH, Zh, zm, zY, zP, zl, zk, zd, zb, za, Nat.reduceEqDiff, z0, z1, zC, Cells.get, getN, Nat.zero_add, if_true, if_false, z3, List.nil_append, pp, pv, pw, pg, Nat.add_zero, decide_true, decide_false, Int.reduceEq, QS, t1, t2, t3, gS, me0, me1, rm0, rm1, lm0, lm1, ev0, ev1, pt0, pt1, b0, b1]
  exact hK _ ⟨by simp (maxSteps := 4000000) only [za, Nat.reduceEqDiff, z0, t1], by simp (maxSteps := 4000000) only [za, Nat.reduceEqDiff, z0, t2], by simp (maxSteps := 4000000) only [za, Nat.reduceEqDiff, z0, t3], by simp (maxSteps := 4000000) only [za, Nat.reduceEqDiff, z0, t7], by simp (maxSteps := 4000000) only [za, Nat.reduceEqDiff, z0, t8]⟩ (by simp (maxSteps := 4000000) only [zb])
theorem DM (v n : Int) : dcall E (d + 1) (.func (.func 6) #[] #[]) [.int .i64 v, .int .i64 n] s = some (.int .i64 (if v < 0 ∨ n < 1 then 0 else v.tmod n), s) := by
 rw [← XH, zF hQ0.iQLeader hQ0.fQLeader rfl]
 by_cases c1 : v < 0
 · rw [if_pos (.inl c1)]
   simp (maxSteps := 4000000) only [zr, zf, zA, zI, zc, ZE, zg, zn, zt, ZK, ZH, zS, ze, zu, zi, zM, zU, zT, zm, zY, zP, zx, zl, zk, zd, zb, za, Nat.reduceEqDiff, z0, zq, List.getElem?_cons_zero, z1, zo, zz, if_true, if_false, reduceCtorEq, z3, List.nil_append, pp, pv, pw, pg, decide_true, d6, c1]
 · by_cases c2 : n < 1
   · rw [if_pos (.inr c2)]
     simp (maxSteps := 4000000) only [zr, zf, zA, zI, zc, ZE, zg, zn, zt, ZK, zV, zS, ze, zu, zi, zM, zU, zT, zm, zY, zP, zx, zl, zk, zd, zb, za, Nat.reduceEqDiff, z0, zq, List.getElem?_cons_zero, List.getElem?_cons_succ, z1, zo, zz, if_true, if_false, reduceCtorEq, z3, pp, pv, pw, pg, decide_true, decide_false, d6, c1, c2]
   · rw [if_neg (fun h => h.elim c1 c2)]
     have c3 : ¬ n = 0 := by omega
     simp (maxSteps := 4000000) only [zr, zf, zA, zO, zI, zc, zg, zn, zt, ZK, zV, zv, ze, zu, zi, zM, zU, zT, zm, zY, zP, zx, zl, zk, zd, zb, za, Nat.reduceEqDiff, z0, zq, List.getElem?_cons_zero, List.getElem?_cons_succ, z1, zo, zz, if_true, if_false, reduceCtorEq, z3, pp, pv, pw, pg, decide_false, d6, c1, c2, c3]
theorem C9 {R : Nat} {l : List Value} {v : Int} (g : s.get R = some (.cells (.list l) false)) (h : getN l 8 = some (.int .i64 v)) : dcall E (d + 1) (.func (.func 8) #[] #[]) [.pointer (some ⟨R, 0, none⟩)] s = some (.int .i64 v, s) := by
 rw [← XH, zF hQ0.iQState hQ0.fQState rfl]
 simp (maxSteps := 4000000) only [zr, zf, zA, zO, zI, zc, zg, zn, zt, zv, ze, zu, ZF, zi, zM, Z8, Za, zH, Zh, zm, Zl, zx, zl, zk, zd, zb, za, z0, zq, List.getElem?_cons_zero, z1, zo, zz, zC, Cells.get, Nat.zero_add, if_false, reduceCtorEq, Bool.not_false, z3, pp, pv, d8, g, h]
theorem Sx {R : Nat} {l : List Value} {v : Int} (g : s.get R = some (.cells (.list l) false)) (h : getN l 9 = some (.int .i64 v)) : dcall E (d + 1) (.func (.func 9) #[] #[]) [.pointer (some ⟨R, 0, none⟩)] s = some (.int .i64 v, s) := by
 rw [← XH, zF hQ0.iQView hQ0.fQView rfl]
 simp (maxSteps := 4000000) only [zr, zf, zA, zO, zI, zc, zg, zn, zt, zv, ze, zu, ZF, zi, zM, Z8, Za, zH, Zh, zm, Zl, zx, zl, zk, zd, zb, za, z0, zq, List.getElem?_cons_zero, z1, zo, zz, zC, Cells.get, Nat.zero_add, if_false, reduceCtorEq, Bool.not_false, z3, pp, pv, d9, g, h]
theorem DN {R : Nat} {l : List Value} {v : Int} (g : s.get R = some (.cells (.list l) false)) (h : getN l 12 = some (.int .i64 v)) : dcall E (d + 1) (.func (.func 10) #[] #[]) [.pointer (some ⟨R, 0, none⟩)] s = some (.int .i64 v, s) := by
 rw [← XH, zF hQ0.iQCommit hQ0.fQCommit rfl]
 simp (maxSteps := 4000000) only [zr, zf, zA, zO, zI, zc, zg, zn, zt, zv, ze, zu, ZF, zi, zM, Z8, Za, zH, Zh, zm, Zl, zx, zl, zk, zd, zb, za, z0, zq, List.getElem?_cons_zero, z1, zo, zz, zC, Cells.get, Nat.zero_add, if_false, reduceCtorEq, Bool.not_false, z3, pp, pv, d10, g, h]
theorem SC {R : Nat} {l : List Value} {v : Int} (g : s.get R = some (.cells (.list l) false)) (h : getN l 13 = some (.int .i64 v)) : dcall E (d + 1) (.func (.func 11) #[] #[]) [.pointer (some ⟨R, 0, none⟩)] s = some (.int .i64 v, s) := by
 rw [← XH, zF hQ0.iQDone hQ0.fQDone rfl]
 simp (maxSteps := 4000000) only [zr, zf, zA, zO, zI, zc, zg, zn, zt, zv, ze, zu, ZF, zi, zM, Z8, Za, zH, Zh, zm, Zl, zx, zl, zk, zd, zb, za, z0, zq, List.getElem?_cons_zero, z1, zo, zz, zC, Cells.get, Nat.zero_add, if_false, reduceCtorEq, Bool.not_false, z3, pp, pv, d11, g, h]
theorem SB {R lg : Nat} {l : List Value} (g : s.get R = some (.cells (.list l) false)) (h : getN l 11 = some (.pointer (some ⟨lg, 0, none⟩))) (gl : s.get lg = some (.cells (.list [.int .i64 0, .slice none 0 0]) false)) : dcall E (d + 2) (.func (.func 12) #[] #[]) [.pointer (some ⟨R, 0, none⟩)] s = some (.int .i64 0, s) := by
 have hl : dcall E (d + 1) (.func (.func 25) #[] #[]) [.pointer (some ⟨lg, 0, none⟩)] s = some (.int .i64 0, s) := by
  rw [← XH, zF hQ0.iQLogLast hQ0.fQLogLast rfl]
  simp (maxSteps := 4000000) only [zr, zf, zA, zO, zI, zc, zg, zn, zt, zv, ze, zu, ZF, zi, zM, zT, Z8, Za, zH, Yf, Zh, zm, zY, zP, Zl, zx, zl, zk, zd, zb, za, Nat.reduceEqDiff, z0, zq, List.getElem?_cons_zero, z1, zo, zz, zC, Cells.get, getN, Nat.zero_add, if_true, if_false, reduceCtorEq, Bool.not_false, z3, pp, pv, Nat.add_zero, d25, gl, show zR .i64 (0 + ((0 : Nat) : Int)) = 0 from rfl]
 rw [← XH, zF hQ0.iQLast hQ0.fQLast rfl]
 simp (maxSteps := 4000000) only [zr, zf, zA, zO, zI, zc, zg, zn, zt, zv, ze, zu, ZF, zi, zM, Z8, Za, zH, Zh, zB, zm, Zl, zx, zl, zk, zy, zd, zb, za, z0, zq, List.getElem?_cons_zero, z1, zo, zz, z4, z5, zC, Cells.get, Nat.zero_add, if_false, reduceCtorEq, Bool.not_false, z3, pp, pv, d12, g, h, hl]
theorem Sy {q : Nat} {kv vv : Value} {L : List Ent} {room : Int} (cb : Qd s q kv vv L room) : dcall E (d + 1) (.func (.func 14) #[] #[]) [.pointer (some ⟨q, 0, none⟩)] s = some (.int .i64 room, s) := by
 have gp := cb.gp
 rw [← XH, zF hQ0.iRoom hQ0.fRoom rfl]
 simp (maxSteps := 4000000) only [zr, zf, zA, zO, zI, zc, zg, zn, zt, zv, ze, zu, ZF, zi, zM, Z8, Za, zH, Zh, zm, Zl, zx, zl, zk, zd, zb, za, z0, zq, List.getElem?_cons_zero, z1, zo, zz, zC, Cells.get, getN, Nat.zero_add, if_false, reduceCtorEq, Bool.not_false, z3, pp, pv, d14, gp]
end
structure MY (S : DS) (R lg st : Nat) (rm state : Int) : Prop where
 ex : ∃ l : List Value, S.get R = some (.cells (.list l) false) ∧ getN l 8 = some (.int .i64 state) ∧ getN l 9 = some (.int .i64 0) ∧ getN l 11 = some (.pointer (some ⟨lg, 0, none⟩)) ∧ getN l 12 = some (.int .i64 0) ∧ getN l 13 = some (.int .i64 0) ∧ getN l 14 = some (.pointer (some ⟨st, 0, none⟩))
 gl : S.get lg = some (.cells (.list [.int .i64 0, .slice none 0 0]) false)
 cs : Qd S st (.slice none 0 0) (.slice none 0 0) [] rm
end Go.Dx.RpA
