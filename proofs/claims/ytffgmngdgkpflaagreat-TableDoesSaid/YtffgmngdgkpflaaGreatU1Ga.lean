/- A part. -/
import Derived.Test.YtffgmngdgkpflaaGreatDxTz
import Derived.Test.YtffgmngdgkpflaaGreatDxBk
import Derived.Test.YtffgmngdgkpflaaGreatDxF
import Derived.Test.YtffgmngdgkpflaaGreatDxOut
set_option linter.unusedVariables false
set_option linter.unusedSimpArgs false
set_option linter.unusedSectionVars false
set_option maxRecDepth 100000
set_option maxHeartbeats 8000000
namespace Go.Dx.RpA
open Go Go.Dx Go.Proofs.YtffgmngdgkpflaaGreat
def Na : DCode := (.seq (.region [pp 135 (.ld (some 16) (tm 7)), ⟨none, .st 16 (tm 14) (tm 135), none, [], false⟩]) (.ret))
def HF : zp := { ntmps := 136, results := [.cell 14 (some 16)], body := .seq (.region [pp 7 (.box (tm 0)), pp 14 (.alloc [.int .u32 0, .int .u32 0, .int .u32 0, .int .u32 0, .int .u32 0, .int .u32 0, .int .u32 0, .int .u32 0, .int .u32 0, .int .u32 0, .int .u32 0, .int .u32 0, .int .u32 0, .int .u32 0, .int .u32 0, .int .u32 0])]) (.seq (.region [pv 18 1, pv 19 2, pv 20 3, pv 21 4, pp 22 (.bslice 4 1 [.int .i64 0] [(0, 1, .tmp 18), (1, 1, .tmp 19), (2, 1, .tmp 20), (3, 1, .tmp 21)]), pv 15 22]) (.seq (.seq (.region [pp 16 (.mv (.const (.int .i64 0)))]) (.block 0 (.loop (.seq (.seq (.region [pv 23 16, pp 24 (.bin .lss (tm 23) (.const (.int .i64 4)))]) (.cond (tm 24) (.skip) (.exit 0))) (.seq (.block 1 (.seq (.seq (.region [pv 27 15, pv 28 16, pp 29 (.ixL 1 (tm 27) (tm 28)), pp 30 (.ld none (tm 29)), pp 31 (.bin .lss (tm 30) (.const (.int .i64 0))), pv 32 31, pw 33 15 32 false, pw 34 16 32 false, pg 35 (.ixL 1 (tm 33) (tm 34)) 32 false, pg 36 (.ld none (tm 35)) 32 false, pg 37 (.bin .gtr (tm 36) (.const (.int .i64 15))) 32 false, pp 38 (.pick (tm 32) (.const (.bool true)) (tm 37))]) (.cond (tm 38) (.seq (.region [pp 39 (.ld (some 16) (tm 7)), ⟨none, .st 16 (tm 14) (tm 39), none, [], false⟩]) (.ret)) (.skip))) (.seq (.region [pp 17 (.mv (.const (.int .i64 0)))]) (.block 2 (.loop (.seq (.seq (.region [pv 40 17, pv 41 16, pp 42 (.bin .lss (tm 40) (tm 41))]) (.cond (tm 42) (.skip) (.exit 2))) (.seq (.block 3 (.seq (.region [pv 45 15, pv 46 16, pp 47 (.ixL 1 (tm 45) (tm 46)), pp 48 (.ld none (tm 47)), pv 49 15, pv 50 17, pp 51 (.ixL 1 (tm 49) (tm 50)), pp 52 (.ld none (tm 51)), pp 53 (.bin .eql (tm 48) (tm 52))]) (.cond (tm 53) (.seq (.region [pp 54 (.ld (some 16) (tm 7)), ⟨none, .st 16 (tm 14) (tm 54), none, [], false⟩]) (.ret)) (.skip)))) (.region [pv 43 17, pp 44 (.bin .add (tm 43) (.const (.int .i64 1))), pv 17 44])))))))) (.region [pv 25 16, pp 26 (.bin .add (tm 25) (.const (.int .i64 1))), pv 16 26])))))) (.seq (.region [pv 55 1, pv 56 1, pp 57 (.ixA 16 1 (tm 7) (tm 56)), pp 58 (.ld none (tm 57)), pv 59 2, pp 60 (.ixA 16 1 (tm 7) (tm 59)), pp 61 (.ld none (tm 60)), pp 62 (.bin .add (tm 58) (tm 61)), pv 63 5, pp 64 (.bin .add (tm 62) (tm 63)), pp 65 (.ixA 16 1 (tm 7) (tm 55)), ⟨none, .st 1 (tm 65) (tm 64), none, [], false⟩]) (.seq (.region [pv 66 4, pv 67 4, pp 68 (.ixA 16 1 (tm 7) (tm 67)), pp 69 (.ld none (tm 68)), pv 70 1, pp 71 (.ixA 16 1 (tm 7) (tm 70)), pp 72 (.ld none (tm 71)), pp 73 (.bin .xor (tm 69) (tm 72)), pp 74 (.call (.func 127) [.tmp 73, .const (.int .i64 16)]), pp 75 (.ixA 16 1 (tm 7) (tm 66)), ⟨none, .st 1 (tm 75) (tm 74), none, [], false⟩]) (.seq (.region [pv 76 3, pv 77 3, pp 78 (.ixA 16 1 (tm 7) (tm 77)), pp 79 (.ld none (tm 78)), pv 80 4, pp 81 (.ixA 16 1 (tm 7) (tm 80)), pp 82 (.ld none (tm 81)), pp 83 (.bin .add (tm 79) (tm 82)), pp 84 (.ixA 16 1 (tm 7) (tm 76)), ⟨none, .st 1 (tm 84) (tm 83), none, [], false⟩]) (.seq (.region [pv 85 2, pv 86 2, pp 87 (.ixA 16 1 (tm 7) (tm 86)), pp 88 (.ld none (tm 87)), pv 89 3, pp 90 (.ixA 16 1 (tm 7) (tm 89)), pp 91 (.ld none (tm 90)), pp 92 (.bin .xor (tm 88) (tm 91)), pp 93 (.call (.func 127) [.tmp 92, .const (.int .i64 12)]), pp 94 (.ixA 16 1 (tm 7) (tm 85)), ⟨none, .st 1 (tm 94) (tm 93), none, [], false⟩]) (.seq (.region [pv 95 1, pv 96 1, pp 97 (.ixA 16 1 (tm 7) (tm 96)), pp 98 (.ld none (tm 97)), pv 99 2, pp 100 (.ixA 16 1 (tm 7) (tm 99)), pp 101 (.ld none (tm 100)), pp 102 (.bin .add (tm 98) (tm 101)), pv 103 6, pp 104 (.bin .add (tm 102) (tm 103)), pp 105 (.ixA 16 1 (tm 7) (tm 95)), ⟨none, .st 1 (tm 105) (tm 104), none, [], false⟩]) (.seq (.region [pv 106 4, pv 107 4, pp 108 (.ixA 16 1 (tm 7) (tm 107)), pp 109 (.ld none (tm 108)), pv 110 1, pp 111 (.ixA 16 1 (tm 7) (tm 110)), pp 112 (.ld none (tm 111)), pp 113 (.bin .xor (tm 109) (tm 112)), pp 114 (.call (.func 127) [.tmp 113, .const (.int .i64 8)]), pp 115 (.ixA 16 1 (tm 7) (tm 106)), ⟨none, .st 1 (tm 115) (tm 114), none, [], false⟩]) (.seq (.region [pv 116 3, pv 117 3, pp 118 (.ixA 16 1 (tm 7) (tm 117)), pp 119 (.ld none (tm 118)), pv 120 4, pp 121 (.ixA 16 1 (tm 7) (tm 120)), pp 122 (.ld none (tm 121)), pp 123 (.bin .add (tm 119) (tm 122)), pp 124 (.ixA 16 1 (tm 7) (tm 116)), ⟨none, .st 1 (tm 124) (tm 123), none, [], false⟩]) (.seq (.region [pv 125 2, pv 126 2, pp 127 (.ixA 16 1 (tm 7) (tm 126)), pp 128 (.ld none (tm 127)), pv 129 3, pp 130 (.ixA 16 1 (tm 7) (tm 129)), pp 131 (.ld none (tm 130)), pp 132 (.bin .xor (tm 128) (tm 131)), pp 133 (.call (.func 127) [.tmp 132, .const (.int .i64 7)]), pp 134 (.ixA 16 1 (tm 7) (tm 125)), ⟨none, .st 1 (tm 134) (tm 133), none, [], false⟩]) Na)))))))))) }
structure Mf (E : Env) : Prop where
 fright : E.fn 127 = some d127
 iright : E.intr 127 = none
 fmul : E.fn 106 = some d106
 imul : E.intr 106 = none
 fstart : E.fn 73 = some d73
 istart : E.intr 73 = none
 ford : E.fn 107 = some d107
 iord : E.intr 107 = none
 fstir : E.fn 108 = some HF
 istir : E.intr 108 = none
 fwork : E.fn 74 = some d74
 iwork : E.intr 74 = none
 fsum : E.fn 41 = some d41
 isum : E.intr 41 = none
 fr : ∀ d, zG (dcall E d)
 lf : 10000 ≤ E.lf
theorem Hm {n : Nat} (h : n < 32) (a : Int) : Zx .shr .u32 a (n : Int) = some (.int .u32 (a.fdiv (Int.ofNat (2 ^ n)))) := by
 unfold Zx
 rw [if_neg (by omega)]
 have e2 : Nat.ble (bitsOf .u32) (n : Int).toNat = false := by rw [zD]; simp [bitsOf]; omega
 simp only [e2, z3, if_false]
 rfl
theorem HU {call : zy} {lf : Nat} {r : Bool} {c : DCode} {t : PT Value} {s : DS} {K : DExit → St → Prop} (I : PT Value → DS → Prop) (h : I t s) (k : ∀ t s, I t s → WC call lf r c ⟨t, s, []⟩ K) : WC call lf r c ⟨t, s, []⟩ K := k t s h
theorem RL {l : List Value} {i : Nat} {v : Value} (h : i < l.length) : getN (zk l i v) i = some v := by rw [W6 _ _ _ _ h, if_pos rfl]
theorem H8 {n : Nat} (h : n < 32) (a : Int) : Zx .shl .u32 a (n : Int) = some (.int .u32 (zf .u32 (a * Int.ofNat (2 ^ n)))) := by
 unfold Zx
 rw [if_neg (by omega)]
 have e2 : Nat.ble (bitsOf .u32) (n : Int).toNat = false := by rw [zD]; simp [bitsOf]; omega
 simp only [e2, z3, if_false]
 rfl
section
variable {E : Env} (hR : Mf E) {s : DS} {d : Nat}
include hR
theorem J4 {n : Nat} (h0 : 0 < n) (h : n < 32) (x : Int) : dcall E (d + 1) (.func (.func 127) #[] #[]) [.int .u32 x, .int .i64 (n : Int)] s = some (.int .u32 (Ww n x), s) := by
 have w1 : zf .i64 (32 - (n : Int)) = ((32 - n : Nat) : Int) := by rw [zi (by omega) (by omega)]; omega
 rw [← JH, zh hR.iright hR.fright rfl]
 simp only [sA, zl, zm, Nat.reduceEqDiff, za, zd, reduceCtorEq, pp, pv, d127, w1, Hm h, H8 (show 32 - n < 32 by omega)]
 unfold Ww
 rw [Nat.or_comm]
theorem LV (x y : Int) : dcall E (d + 1) (.func (.func 106) #[] #[]) [.int .u64 x, .int .u64 y] s = some (.tuple ⟨[.int .u64 (V9 x y), .int .u64 (zf .u64 (x * y))]⟩, s) := by
 rw [← JH, zh hR.imul hR.fmul rfl]
 simp only [sA, zl, zm, Nat.reduceEqDiff, za, zd, reduceCtorEq, pp, pv, d106, VL]
 rfl
structure StI (S : DS) (p : Int) (n : Nat) (y : St) : Prop where
 ex : ∃ x : Int, n ≤ 35 ∧ y.s = S ∧ y.defers = [] ∧ (y.t.get 3 = some (.int .u64 p) ∧ y.t.get 4 = some (.int .u64 x) ∧ y.t.get 5 = some (.int .i64 ((n : Int) - 1))) ∧ sF p x n = sF p 0 35
theorem DH (hG : s.Good) {i : Nat} (hi : i < 8) : W (dcall E (d + 2) (.func (.func 73) #[] #[]) [.int .i64 (i : Int)] s) fun r => r.1 = .int .u32 ((ivI[i]?).getD 0) ∧ Ext [] s r.2 := by
 have hlf := hR.lf
 refine zr fun Q hQ => ?_
 rw [zh hR.istart hR.fstart rfl]
 have e1 : ¬ (i : Int) < 0 := by omega
 have e2 : ¬ (7 : Int) < (i : Int) := by omega
 have hp := PR hi
 have hpl : i < 8 := hi
 obtain ⟨p, hpp⟩ : ∃ p, p = (F8[i]?).getD 0 := ⟨_, rfl⟩
 rw [← hpp] at hp
 have hsv := Rs i hi
 rw [← hpp] at hsv
 have hp' : getN [Value.int .u64 2, .int .u64 3, .int .u64 5, .int .u64 7, .int .u64 11, .int .u64 13, .int .u64 17, .int .u64 19] i = some (.int .u64 p) := hp
 simp (maxDischargeDepth := 8) only [sA, sM, zb, zl, zm, Cells.get, Nat.reduceAdd, Nat.reduceLeDiff, zg, pp, pv, pw, pg, repeatZ, Nat.reduceLT, d73, e1, e2, hp', hG, hpl]
 obtain ⟨S, hS⟩ : ∃ S : DS, S = s.new (.cells (.list [.int .u64 2, .int .u64 3, .int .u64 5, .int .u64 7, .int .u64 11, .int .u64 13, .int .u64 17, .int .u64 19]) false) := ⟨_, rfl⟩
 rw [← hS]
 have XS : Ext [] s S := by rw [hS]; exact Ext.new
 clear hS
 refine zY (StI S p) 35 (by omega) ⟨0, by omega, rfl, rfl, ?_, rfl⟩ ?_
 · simp only [sA, Nat.reduceEqDiff]
   rfl
 rintro n ⟨t, s2, ds⟩ hn ⟨x, hn35, hs2, hds, ⟨g3, g4, g5⟩, hx⟩
 simp only at hs2 hds g3 g4 g5
 subst hs2 hds
 cases n with
 | zero =>
  have e3 : ¬ (0 : Int) ≤ ((0 : Nat) : Int) - 1 := by omega
  simp only [sA, zb, zl, zm, Nat.reduceEqDiff, za, zd, g3, g4, g5, e3]
  refine hQ _ ⟨?_, XS⟩
  rw [← hsv, ← hx]
  rfl
 | succ k =>
  have e3 : (0 : Int) ≤ ((k + 1 : Nat) : Int) - 1 := by omega
  have w0 : ((k + 1 : Nat) : Int) - 1 = (k : Int) := by omega
  have w1 : zf .i64 ((k : Int) - 1) = (k : Int) - 1 := zi (by omega) (by omega)
  rw [w0] at g5 e3
  have hsh := LM (k := k) (by omega) 1
  obtain ⟨y, hy⟩ : ∃ y, y = Hw x (zf .u64 (1 * Int.ofNat (2 ^ k))) := ⟨_, rfl⟩
  have hy' : zf .u64 (Int.ofNat (low .u64 x ||| low .u64 (zf .u64 (1 * Int.ofNat (2 ^ k))))) = y := hy.symm
  have hst : stS p x k = if V9 y y < p then y else if V9 y y = p ∧ zf .u64 (y * y) = 0 then y else x := by rw [hy]; rfl
  have hmul := fun s => LV hR (s := s) (d := d) y y
  by_cases c1 : V9 y y < p
  · rw [if_pos c1] at hst
    simp only [sA, zb, zl, zm, Nat.reduceEqDiff, getN, g3, g4, g5, e3, hsh, hy', hmul, c1, w1]
    exact ⟨k, by omega, ⟨y, by omega, rfl, rfl, by simp only [sA, Nat.reduceEqDiff, g3], by rw [show sF p x (k + 1) = sF p (stS p x k) k from rfl, hst] at hx; exact hx⟩⟩
  · rw [if_neg c1] at hst
    by_cases c2 : V9 y y = p
    · have c1' : ¬ p < p := by omega
      by_cases c3 : zf .u64 (y * y) = 0
      · rw [if_pos ⟨c2, c3⟩] at hst
        simp only [sA, zb, zl, zm, Nat.reduceEqDiff, getN, g3, g4, g5, e3, hsh, hy', hmul, c1', c2, c3, w1]
        exact ⟨k, by omega, ⟨y, by omega, rfl, rfl, by simp only [sA, Nat.reduceEqDiff, g3], by rw [show sF p x (k + 1) = sF p (stS p x k) k from rfl, hst] at hx; exact hx⟩⟩
      · rw [if_neg (fun h => c3 h.2)] at hst
        simp only [sA, zb, zl, zm, Nat.reduceEqDiff, getN, g3, g4, g5, e3, hsh, hy', hmul, c1', c2, c3, w1]
        exact ⟨k, by omega, ⟨x, by omega, rfl, rfl, by simp only [sA, Nat.reduceEqDiff, g3, g4], by rw [show sF p x (k + 1) = sF p (stS p x k) k from rfl, hst] at hx; exact hx⟩⟩
    · rw [if_neg (fun h => c2 h.1)] at hst
      simp only [sA, zb, zl, zm, Nat.reduceEqDiff, getN, g3, g4, g5, e3, hsh, hy', hmul, c1, c2, w1]
      exact ⟨k, by omega, ⟨x, by omega, rfl, rfl, by simp only [sA, Nat.reduceEqDiff, g3, g4], by rw [show sF p x (k + 1) = sF p (stS p x k) k from rfl, hst] at hx; exact hx⟩⟩
theorem Mt (hG : s.Good) : W (dcall E (d + 1) (.func (.func 107) #[] #[]) [] s) fun r => r.1 = .agg ⟨Db⟩ ∧ Ext [] s r.2 := by
 refine zr fun Q hQ => ?_
 rw [zh hR.iord hR.ford rfl]
 simp (maxDischargeDepth := 8) only [sA, sM, zo, za, zd, Cells.get, getN, Nat.reduceAdd, allOne, ze, Nat.reduceLeDiff, DS.wrC, Cells.size, Cells.fillFrom, Cells.set, zk, zg, pp, DS.read, Cells.take, Nat.reduceLT, d107, hG]
 refine hQ _ ⟨rfl, ?_⟩
 exact (Ext.new (F := [])).trans (Ext.upd (F := [s.next]) (.inl (by simp))) (by simp)
def pV (pl : List Nat) : List Value := pl.map fun n => .int .i64 ((n : Nat) : Int)
structure El (S : DS) (N a b c e : Nat) (x y : Int) (n : Nat) (z : St) : Prop where
 ex : ∃ i : Nat, n = 4 - i ∧ i ≤ 4 ∧ z.s = S ∧ z.defers = [] ∧ (z.t.get 1 = some (.int .i64 (a : Int)) ∧ z.t.get 2 = some (.int .i64 (b : Int)) ∧ z.t.get 3 = some (.int .i64 (c : Int)) ∧ z.t.get 4 = some (.int .i64 (e : Int)) ∧ z.t.get 5 = some (.int .u32 x) ∧ z.t.get 6 = some (.int .u32 y) ∧ z.t.get 7 = some (.pointer (some ⟨N, 0, none⟩)) ∧ z.t.get 14 = some (.pointer (some ⟨N + 1, 0, none⟩)) ∧ z.t.get 15 = some (.slice (some ⟨N + 2, 0, none⟩) 4 4) ∧ z.t.get 16 = some (.int .i64 (i : Int)))
structure Ek (S : DS) (N a b c e : Nat) (x y : Int) (i : Nat) (n : Nat) (z : St) : Prop where
 ex : ∃ j : Nat, n = i - j ∧ j ≤ i ∧ z.s = S ∧ z.defers = [] ∧ (z.t.get 1 = some (.int .i64 (a : Int)) ∧ z.t.get 2 = some (.int .i64 (b : Int)) ∧ z.t.get 3 = some (.int .i64 (c : Int)) ∧ z.t.get 4 = some (.int .i64 (e : Int)) ∧ z.t.get 5 = some (.int .u32 x) ∧ z.t.get 6 = some (.int .u32 y) ∧ z.t.get 7 = some (.pointer (some ⟨N, 0, none⟩)) ∧ z.t.get 14 = some (.pointer (some ⟨N + 1, 0, none⟩)) ∧ z.t.get 15 = some (.slice (some ⟨N + 2, 0, none⟩) 4 4) ∧ z.t.get 16 = some (.int .i64 (i : Int)) ∧ z.t.get 17 = some (.int .i64 (j : Int)))
theorem DJ (hG : s.Good) {l : List Value} {a b c e : Nat} {x y : Int} (hU : U .u32 16 l) (ha : a < 16) (hb : b < 16) (hc : c < 16) (he : e < 16) (ab : a ≠ b) (ac : a ≠ c) (ae : a ≠ e) (bc : b ≠ c) (be : b ≠ e) (ce : c ≠ e) :
 W (dcall E (d + 2) (.func (.func 108) #[] #[]) [.agg ⟨l⟩, .int .i64 (a : Int), .int .i64 (b : Int), .int .i64 (c : Int), .int .i64 (e : Int), .int .u32 x, .int .u32 y] s) fun r => r.1 = .agg ⟨YD a b c e x y l⟩ ∧ Ext [] s r.2 := by
 have hlf := hR.lf
 refine zr fun Q hQ => ?_
 rw [zh hR.istir hR.fstir rfl]
 simp (maxDischargeDepth := 8) only [sA, sM, Nat.reduceAdd, Nat.reduceLeDiff, zg, pp, pv, pw, pg, repeatZ, Nat.reduceLT, HF, hG]
 obtain ⟨S, hS⟩ : ∃ S : DS, S = ((s.new (.cells (.list l) false)).new (.cells (.list [.int .u32 0, .int .u32 0, .int .u32 0, .int .u32 0, .int .u32 0, .int .u32 0, .int .u32 0, .int .u32 0, .int .u32 0, .int .u32 0, .int .u32 0, .int .u32 0, .int .u32 0, .int .u32 0, .int .u32 0, .int .u32 0]) false)).new (.cells (.list [.int .i64 (a : Int), .int .i64 (b : Int), .int .i64 (c : Int), .int .i64 (e : Int)]) false) := ⟨_, rfl⟩
 rw [← hS]
 have XS : Ext [] s S := by rw [hS]; exact Ext.new.trans' (Ext.new.trans' Ext.new)
 have hGS := XS.good hG
 have gN : S.get s.next = some (.cells (.list l) false) := by rw [hS]; simp (maxDischargeDepth := 8) only [sM, Nat.reduceAdd, zU, hG]
 have gO : S.get (s.next + 1) = some (.cells (.list (zq .u32 16)) false) := by rw [hS]; simp (maxDischargeDepth := 8) only [sM, Nat.reduceAdd, zU, hG]; rfl
 have gP : S.get (s.next + 2) = some (.cells (.list (pV [a, b, c, e])) false) := by rw [hS]; simp (maxDischargeDepth := 8) only [sM, Nat.reduceAdd, zU, hG]; rfl
 have wN : S.wr s.next = true := XS.wrs (hG _ (Nat.le_refl _)).2
 have wO : S.wr (s.next + 1) = true := XS.wrs (hG _ (Nat.le_succ _)).2
 obtain ⟨N, hN⟩ : ∃ N, N = s.next := ⟨_, rfl⟩
 simp only [← hN] at gN gO gP wN wO ⊢
 clear hS
 have hpg : ∀ i, i < 4 → ∃ p : Nat, getN (pV [a, b, c, e]) i = some (.int .i64 (p : Int)) ∧ p < 16 := fun i hi => by
  match i, hi with
  | 0, _ => exact ⟨a, rfl, ha⟩
  | 1, _ => exact ⟨b, rfl, hb⟩
  | 2, _ => exact ⟨c, rfl, hc⟩
  | 3, _ => exact ⟨e, rfl, he⟩
  | _ + 4, h => omega
 have hpn : ∀ i j p q, i < 4 → j < i → getN (pV [a, b, c, e]) i = some (.int .i64 ((p : Nat) : Int)) → getN (pV [a, b, c, e]) j = some (.int .i64 ((q : Nat) : Int)) → p ≠ q := fun i j p q hi hj h1 h2 => by
  match i, hi, j, hj with
  | 0, _, j, h => omega
  | 1, _, 0, _ => cases h1; cases h2; omega
  | 2, _, 0, _ => cases h1; cases h2; omega
  | 2, _, 1, _ => cases h1; cases h2; omega
  | 3, _, 0, _ => cases h1; cases h2; omega
  | 3, _, 1, _ => cases h1; cases h2; omega
  | 3, _, 2, _ => cases h1; cases h2; omega
  | 1, _, _ + 1, h => omega
  | 2, _, _ + 2, h => omega
  | 3, _, _ + 3, h => omega
  | _ + 4, h, _, _ => omega
 refine zY (El S N a b c e x y) 4 (by omega) ⟨0, rfl, by omega, rfl, rfl, ?_⟩ ?_
 · simp only [sA, Nat.reduceEqDiff]
   rfl
 rintro n ⟨t, s2, ds⟩ hn ⟨i, rfl, hi, hs2, hds, ⟨g1, g2, g3, g4, g5, g6, g7, g14, g15, g16⟩⟩
 simp only at hs2 hds g1 g2 g3 g4 g5 g6 g7 g14 g15 g16
 subst hs2 hds
 by_cases c1 : i < 4
 · have e1 : (i : Int) < 4 := by omega
   have w1 : zf .i64 ((i : Int) + 1) = ((i + 1 : Nat) : Int) := by rw [zi (by omega) (by omega)]; omega
   obtain ⟨p, hp, hp16⟩ := hpg i c1
   have e2 : ¬ (p : Int) < 0 := by omega
   have e3 : ¬ (15 : Int) < (p : Int) := by omega
   simp only [sA, zb, zl, zm, Nat.reduceEqDiff, Cells.get, g1, g2, g3, g4, g5, g6, g7, g14, g15, g16, e1, gP, hp, c1, e2, e3]
   refine zY (Ek s2 N a b c e x y i) i (by omega) ⟨0, rfl, by omega, rfl, rfl, ?_⟩ ?_
   · simp only [sA, Nat.reduceEqDiff, g1, g2, g3, g4, g5, g6, g7, g14, g15, g16]
     rfl
   rintro n ⟨t, s3, ds⟩ hn ⟨j, rfl, hj, hs3, hds, ⟨g1, g2, g3, g4, g5, g6, g7, g14, g15, g16, g17⟩⟩
   simp only at hs3 hds g1 g2 g3 g4 g5 g6 g7 g14 g15 g16 g17
   subst hs3 hds
   by_cases c2 : j < i
   · have e4 : (j : Int) < (i : Int) := by omega
     have w2 : zf .i64 ((j : Int) + 1) = ((j + 1 : Nat) : Int) := by rw [zi (by omega) (by omega)]; omega
     obtain ⟨q, hq, hq16⟩ := hpg j (by omega)
     have hne := hpn i j p q c1 c2 hp hq
     have e5 : ¬ (p : Int) = (q : Int) := by omega
     have c3 : j < 4 := by omega
     simp only [sA, zb, zl, zm, Nat.reduceEqDiff, Cells.get, g1, g2, g3, g4, g5, g6, g7, g14, g15, g16, g17, e4, gP, hp, hq, c1, c3, e5, w2]
     exact ⟨i - (j + 1), by omega, ⟨j + 1, rfl, by omega, rfl, rfl, by simp only [sA, Nat.reduceEqDiff, g1, g2, g3, g4, g5, g6, g7, g14, g15, g16]⟩⟩
   · have e4 : ¬ (j : Int) < (i : Int) := by omega
     simp only [sA, zl, zm, Nat.reduceEqDiff, g1, g2, g3, g4, g5, g6, g7, g14, g15, g16, g17, e4, w1]
     exact ⟨4 - (i + 1), by omega, ⟨i + 1, rfl, by omega, rfl, rfl, by simp only [sA, Nat.reduceEqDiff, g1, g2, g3, g4, g5, g6, g7, g14, g15]⟩⟩
 · obtain rfl : i = 4 := by omega
   have e1 : ¬ ((4 : Nat) : Int) < 4 := by omega
   have ga := hU.at ha
   have gb := hU.at hb
   have gc := hU.at hc
   have ge := hU.at he
   have r16 : ∀ s x, dcall E (d + 1) (.func (.func 127) #[] #[]) [.int .u32 x, .int .i64 16] s = some (.int .u32 (Ww 16 x), s) := fun s x => J4 hR (n := 16) (by decide) (by decide) x
   have r12 : ∀ s x, dcall E (d + 1) (.func (.func 127) #[] #[]) [.int .u32 x, .int .i64 12] s = some (.int .u32 (Ww 12 x), s) := fun s x => J4 hR (n := 12) (by decide) (by decide) x
   have r8 : ∀ s x, dcall E (d + 1) (.func (.func 127) #[] #[]) [.int .u32 x, .int .i64 8] s = some (.int .u32 (Ww 8 x), s) := fun s x => J4 hR (n := 8) (by decide) (by decide) x
   have r7 : ∀ s x, dcall E (d + 1) (.func (.func 127) #[] #[]) [.int .u32 x, .int .i64 7] s = some (.int .u32 (Ww 7 x), s) := fun s x => J4 hR (n := 7) (by decide) (by decide) x
   have ha' : a ≤ 15 := by omega
   have hb' : b ≤ 15 := by omega
   have hc' : c ≤ 15 := by omega
   have he' : e ≤ 15 := by omega
   simp only [sA, zb, zl, zm, Nat.reduceEqDiff, Cells.get, allOne, ze, Nat.reduceLeDiff, DS.wrC, Cells.size, Cells.fillFrom, Cells.set, ha', hb', hc', he', gO, wO, g1, g2, g3, g4, g5, g6, g7, g14, g15, g16, e1, gN, wN, ga, gb, gc, ge, ha, hb, hc, he, hU.1, zI, RL, WA, ab, ac, ae, bc, be, ce, ab.symm, ac.symm, ae.symm, bc.symm, be.symm, ce.symm, ne_eq, r16, r12, r8, r7]
   have kx : ∀ p q, zf .u32 (zf .u32 (p + q) + x) = XO p (XO q x) := fun p q => Vg p q x
   have ky : ∀ p q, zf .u32 (zf .u32 (p + q) + y) = XO p (XO q y) := fun p q => Vg p q y
   refine HU (fun t S => (t.get 7 = some (.pointer (some ⟨N, 0, none⟩)) ∧ t.get 14 = some (.pointer (some ⟨N + 1, 0, none⟩))) ∧ Ext [N] s2 S ∧ S.get N = some (.cells (.list (YD a b c e x y l)) false)) ⟨by simp only [sA, Nat.reduceEqDiff, g7, g14], ?_, ?_⟩ ?_
   · exact (((((((Ext.upd (.inl (by simp))).trans' (Ext.upd (.inl (by simp)))).trans' (Ext.upd (.inl (by simp)))).trans' (Ext.upd (.inl (by simp)))).trans' (Ext.upd (.inl (by simp)))).trans' (Ext.upd (.inl (by simp)))).trans' (Ext.upd (.inl (by simp)))).trans' (Ext.upd (.inl (by simp)))
   · simp only [sA, gN]
     simp only [kx, ky]
     rfl
   rintro t S3 ⟨⟨g7, g14⟩, X3, gN3⟩
   have hF := hU.stir a b c e x y
   generalize YD a b c e x y l = o at gN3 hF hQ
   have gO3 := X3.keep gO (by simp)
   have wO3 := X3.wrs wO
   have hld : ldA 16 (.pointer (some ⟨N, 0, none⟩)) S3 = some (.agg ⟨o⟩) := by
    unfold ldA DS.read
    simp only [gN3]
    rw [zQ _ _ _ (by rw [hF.1]; decide)]
    simp only [List.drop_zero]
    rw [List.take_of_length_le (by rw [hF.1]; exact Nat.le_refl _)]
   have hfill : (Cells.list (zq .u32 16)).fillFrom 0 o = .list o := by
    rw [ZC _ _ _ (by rw [hF.1]; decide), hF.1]
    simp [zq]
   have hrd : (S3.upd (N + 1) (.cells (.list o) false)).read (N + 1) 0 16 = some o := by
    unfold DS.read
    simp only [DS.upd_get_self, gO3, Option.map_some]
    rw [zQ _ _ _ (by rw [hF.1]; decide)]
    simp only [List.drop_zero]
    rw [List.take_of_length_le (by rw [hF.1]; exact Nat.le_refl _)]
   simp (maxDischargeDepth := 8) only [sA, zo, za, zd, DS.wrC, Cells.size, pp, WF, Nat.reduceLT, Na, g7, g14, hld, gO3, wO3, hF.1, hF.allOne, hfill, (Zi .u32 16).1, hrd]
   exact hQ _ ⟨rfl, (XS.trans X3 (by simp [hN])).trans (Ext.upd (F := [N + 1]) (.inl (by simp))) (by simp [hN])⟩
end
end Go.Dx.RpA
namespace Go.Dx.RpA
open Go Go.Dx Go.Proofs.YtffgmngdgkpflaaGreat
def cW4 : DCode := (.seq (.seq (.region [pp 18 (.mv (.const (.int .i64 0)))]) (.block 10 (.loop (.seq (.seq (.region [pv 157 18, pp 158 (.bin .lss (tm 157) (.const (.int .i64 8)))]) (.cond (tm 158) (.skip) (.exit 10))) (.seq (.block 11 (.region [pv 161 18, pv 162 18, pp 163 (.ixA 8 1 (tm 4) (tm 162)), pp 164 (.ld none (tm 163)), pv 165 18, pp 166 (.ixA 16 1 (tm 10) (tm 165)), pp 167 (.ld none (tm 166)), pp 168 (.bin .xor (tm 164) (tm 167)), pv 169 18, pp 170 (.bin .add (tm 169) (.const (.int .i64 8))), pp 171 (.ixA 16 1 (tm 10) (tm 170)), pp 172 (.ld none (tm 171)), pp 173 (.bin .xor (tm 168) (tm 172)), pp 174 (.ixA 8 1 (tm 4) (tm 161)), ⟨none, .st 1 (tm 174) (tm 173), none, [], false⟩])) (.region [pv 159 18, pp 160 (.bin .add (tm 159) (.const (.int .i64 1))), pv 18 160])))))) (.seq (.region [pp 175 (.ld (some 8) (tm 4)), ⟨none, .st 8 (tm 8) (tm 175), none, [], false⟩]) (.ret)))
def cR2 : DCode := (.seq (.region [pp 17 (.mv (.const (.int .i64 0)))]) (.block 8 (.loop (.seq (.seq (.region [pv 124 17, pp 125 (.bin .lss (tm 124) (.const (.int .i64 4)))]) (.cond (tm 125) (.skip) (.exit 8))) (.seq (.block 9 (.region [pp 128 (.ld (some 16) (tm 10)), pv 129 17, pv 130 17, pp 131 (.bin .add (tm 130) (.const (.int .i64 1))), pp 132 (.bin .rem (tm 131) (.const (.int .i64 4))), pp 133 (.bin .add (.const (.int .i64 4)) (tm 132)), pv 134 17, pp 135 (.bin .add (tm 134) (.const (.int .i64 2))), pp 136 (.bin .rem (tm 135) (.const (.int .i64 4))), pp 137 (.bin .add (.const (.int .i64 8)) (tm 136)), pv 138 17, pp 139 (.bin .add (tm 138) (.const (.int .i64 3))), pp 140 (.bin .rem (tm 139) (.const (.int .i64 4))), pp 141 (.bin .add (.const (.int .i64 12)) (tm 140)), pv 142 17, pp 143 (.bin .mul (.const (.int .i64 2)) (tm 142)), pp 144 (.bin .add (.const (.int .i64 8)) (tm 143)), pp 145 (.ixA 16 1 (tm 15) (tm 144)), pp 146 (.ld none (tm 145)), pp 147 (.ixA 16 1 (tm 9) (tm 146)), pp 148 (.ld none (tm 147)), pv 149 17, pp 150 (.bin .mul (.const (.int .i64 2)) (tm 149)), pp 151 (.bin .add (.const (.int .i64 9)) (tm 150)), pp 152 (.ixA 16 1 (tm 15) (tm 151)), pp 153 (.ld none (tm 152)), pp 154 (.ixA 16 1 (tm 9) (tm 153)), pp 155 (.ld none (tm 154)), pp 156 (.call (.func 108) [.tmp 128, .tmp 129, .tmp 133, .tmp 137, .tmp 141, .tmp 148, .tmp 155]), ⟨none, .st 16 (tm 10) (tm 156), none, [], false⟩])) (.region [pv 126 17, pp 127 (.bin .add (tm 126) (.const (.int .i64 1))), pv 17 127]))))))
def cW3 : DCode := (.seq (.seq (.region [pp 14 (.mv (.const (.int .i64 0)))]) (.block 4 (.loop (.seq (.seq (.region [pv 91 14, pp 92 (.bin .lss (tm 91) (.const (.int .i64 10)))]) (.cond (tm 92) (.skip) (.exit 4))) (.seq (.block 5 (.seq (.region [pv 95 14, pp 96 (.ixA 10 16 (tm 13) (tm 95)), pp 97 (.ld (some 16) (tm 96)), pp 15 (.alloc [.int .i64 0, .int .i64 0, .int .i64 0, .int .i64 0, .int .i64 0, .int .i64 0, .int .i64 0, .int .i64 0, .int .i64 0, .int .i64 0, .int .i64 0, .int .i64 0, .int .i64 0, .int .i64 0, .int .i64 0, .int .i64 0]), ⟨none, .st 16 (tm 15) (tm 97), none, [], false⟩]) (.seq (.seq (.region [pp 16 (.mv (.const (.int .i64 0)))]) (.block 6 (.loop (.seq (.seq (.region [pv 98 16, pp 99 (.bin .lss (tm 98) (.const (.int .i64 4)))]) (.cond (tm 99) (.skip) (.exit 6))) (.seq (.block 7 (.region [pp 102 (.ld (some 16) (tm 10)), pv 103 16, pv 104 16, pp 105 (.bin .add (tm 104) (.const (.int .i64 4))), pv 106 16, pp 107 (.bin .add (tm 106) (.const (.int .i64 8))), pv 108 16, pp 109 (.bin .add (tm 108) (.const (.int .i64 12))), pv 110 16, pp 111 (.bin .mul (.const (.int .i64 2)) (tm 110)), pp 112 (.ixA 16 1 (tm 15) (tm 111)), pp 113 (.ld none (tm 112)), pp 114 (.ixA 16 1 (tm 9) (tm 113)), pp 115 (.ld none (tm 114)), pv 116 16, pp 117 (.bin .mul (.const (.int .i64 2)) (tm 116)), pp 118 (.bin .add (tm 117) (.const (.int .i64 1))), pp 119 (.ixA 16 1 (tm 15) (tm 118)), pp 120 (.ld none (tm 119)), pp 121 (.ixA 16 1 (tm 9) (tm 120)), pp 122 (.ld none (tm 121)), pp 123 (.call (.func 108) [.tmp 102, .tmp 103, .tmp 105, .tmp 107, .tmp 109, .tmp 115, .tmp 122]), ⟨none, .st 16 (tm 10) (tm 123), none, [], false⟩])) (.region [pv 100 16, pp 101 (.bin .add (tm 100) (.const (.int .i64 1))), pv 16 101])))))) cR2))) (.region [pv 93 14, pp 94 (.bin .add (tm 93) (.const (.int .i64 1))), pv 14 94])))))) cW4)
def cW2 : DCode := (.seq (.region [pp 90 (.call (.func 107) []), pp 13 (.alloc [.int .i64 0, .int .i64 0, .int .i64 0, .int .i64 0, .int .i64 0, .int .i64 0, .int .i64 0, .int .i64 0, .int .i64 0, .int .i64 0, .int .i64 0, .int .i64 0, .int .i64 0, .int .i64 0, .int .i64 0, .int .i64 0, .int .i64 0, .int .i64 0, .int .i64 0, .int .i64 0, .int .i64 0, .int .i64 0, .int .i64 0, .int .i64 0, .int .i64 0, .int .i64 0, .int .i64 0, .int .i64 0, .int .i64 0, .int .i64 0, .int .i64 0, .int .i64 0, .int .i64 0, .int .i64 0, .int .i64 0, .int .i64 0, .int .i64 0, .int .i64 0, .int .i64 0, .int .i64 0, .int .i64 0, .int .i64 0, .int .i64 0, .int .i64 0, .int .i64 0, .int .i64 0, .int .i64 0, .int .i64 0, .int .i64 0, .int .i64 0, .int .i64 0, .int .i64 0, .int .i64 0, .int .i64 0, .int .i64 0, .int .i64 0, .int .i64 0, .int .i64 0, .int .i64 0, .int .i64 0, .int .i64 0, .int .i64 0, .int .i64 0, .int .i64 0, .int .i64 0, .int .i64 0, .int .i64 0, .int .i64 0, .int .i64 0, .int .i64 0, .int .i64 0, .int .i64 0, .int .i64 0, .int .i64 0, .int .i64 0, .int .i64 0, .int .i64 0, .int .i64 0, .int .i64 0, .int .i64 0, .int .i64 0, .int .i64 0, .int .i64 0, .int .i64 0, .int .i64 0, .int .i64 0, .int .i64 0, .int .i64 0, .int .i64 0, .int .i64 0, .int .i64 0, .int .i64 0, .int .i64 0, .int .i64 0, .int .i64 0, .int .i64 0, .int .i64 0, .int .i64 0, .int .i64 0, .int .i64 0, .int .i64 0, .int .i64 0, .int .i64 0, .int .i64 0, .int .i64 0, .int .i64 0, .int .i64 0, .int .i64 0, .int .i64 0, .int .i64 0, .int .i64 0, .int .i64 0, .int .i64 0, .int .i64 0, .int .i64 0, .int .i64 0, .int .i64 0, .int .i64 0, .int .i64 0, .int .i64 0, .int .i64 0, .int .i64 0, .int .i64 0, .int .i64 0, .int .i64 0, .int .i64 0, .int .i64 0, .int .i64 0, .int .i64 0, .int .i64 0, .int .i64 0, .int .i64 0, .int .i64 0, .int .i64 0, .int .i64 0, .int .i64 0, .int .i64 0, .int .i64 0, .int .i64 0, .int .i64 0, .int .i64 0, .int .i64 0, .int .i64 0, .int .i64 0, .int .i64 0, .int .i64 0, .int .i64 0, .int .i64 0, .int .i64 0, .int .i64 0, .int .i64 0, .int .i64 0, .int .i64 0, .int .i64 0, .int .i64 0, .int .i64 0, .int .i64 0, .int .i64 0, .int .i64 0, .int .i64 0]), ⟨none, .st 160 (tm 13) (tm 90), none, [], false⟩]) cW3)
def cW1 : DCode := (.seq (.seq (.region [pp 12 (.mv (.const (.int .i64 0)))]) (.block 2 (.loop (.seq (.seq (.region [pv 58 12, pp 59 (.bin .lss (tm 58) (.const (.int .i64 8)))]) (.cond (tm 59) (.skip) (.exit 2))) (.seq (.block 3 (.region [⟨some 62, .mv (tm 12), none, [], true⟩, ⟨some 63, .mv (tm 12), none, [], true⟩, ⟨some 64, .bin .add (tm 63) (.const (.int .i64 8)), none, [], true⟩, ⟨some 65, .mv (tm 12), none, [], true⟩, ⟨some 66, .ixA 8 1 (tm 4) (tm 65), none, [], true⟩, ⟨some 67, .ld none (tm 66), none, [], true⟩, ⟨some 68, .mv (tm 12), none, [], true⟩, ⟨some 70, .ixA 16 1 (tm 10) (tm 62), none, [], true⟩, ⟨some 69, .call (.func 73) [.tmp 68], none, [5], true⟩, ⟨none, .st 1 (tm 70) (tm 67), none, [], true⟩, ⟨some 71, .ixA 16 1 (tm 10) (tm 64), none, [], true⟩, ⟨none, .st 1 (tm 71) (tm 69), none, [], true⟩])) (.region [pv 60 12, pp 61 (.bin .add (tm 60) (.const (.int .i64 1))), pv 12 61])))))) (.seq (.region [pp 72 (.ixA 16 1 (tm 10) (.const (.int .i64 12))), pp 73 (.ld none (tm 72)), pv 74 2, pp 75 (.cvInt .u32 (tm 74)), pp 76 (.bin .xor (tm 73) (tm 75)), pp 77 (.ixA 16 1 (tm 10) (.const (.int .i64 12))), ⟨none, .st 1 (tm 77) (tm 76), none, [], false⟩]) (.seq (.region [pp 78 (.ixA 16 1 (tm 10) (.const (.int .i64 13))), pp 79 (.ld none (tm 78)), pv 80 2, pp 81 (.bin .shr (tm 80) (.const (.int .u64 32))), pp 82 (.cvInt .u32 (tm 81)), pp 83 (.bin .xor (tm 79) (tm 82)), pp 84 (.ixA 16 1 (tm 10) (.const (.int .i64 13))), ⟨none, .st 1 (tm 84) (tm 83), none, [], false⟩]) (.seq (.seq (.region [pv 85 3]) (.cond (tm 85) (.region [pp 86 (.ixA 16 1 (tm 10) (.const (.int .i64 14))), pp 87 (.ld none (tm 86)), pp 88 (.un .xor (tm 87)), pp 89 (.ixA 16 1 (tm 10) (.const (.int .i64 14))), ⟨none, .st 1 (tm 89) (tm 88), none, [], false⟩]) (.skip))) cW2))))
def HE : zp := { ntmps := 176, results := [.cell 8 (some 8)], body := .seq (.region [pp 4 (.box (tm 0)), pp 8 (.alloc [.int .u32 0, .int .u32 0, .int .u32 0, .int .u32 0, .int .u32 0, .int .u32 0, .int .u32 0, .int .u32 0])]) (.seq (.region [pp 9 (.alloc [.int .u32 0, .int .u32 0, .int .u32 0, .int .u32 0, .int .u32 0, .int .u32 0, .int .u32 0, .int .u32 0, .int .u32 0, .int .u32 0, .int .u32 0, .int .u32 0, .int .u32 0, .int .u32 0, .int .u32 0, .int .u32 0])]) (.seq (.region [pp 10 (.alloc [.int .u32 0, .int .u32 0, .int .u32 0, .int .u32 0, .int .u32 0, .int .u32 0, .int .u32 0, .int .u32 0, .int .u32 0, .int .u32 0, .int .u32 0, .int .u32 0, .int .u32 0, .int .u32 0, .int .u32 0, .int .u32 0])]) (.seq (.seq (.region [pp 11 (.mv (.const (.int .i64 0)))]) (.block 0 (.loop (.seq (.seq (.region [pv 19 11, pp 20 (.bin .lss (tm 19) (.const (.int .i64 16)))]) (.cond (tm 20) (.skip) (.exit 0))) (.seq (.block 1 (.region [pv 23 11, pv 24 1, pv 25 11, pp 26 (.bin .mul (.const (.int .i64 4)) (tm 25)), pp 27 (.ixL 1 (tm 24) (tm 26)), pp 28 (.ld none (tm 27)), pp 29 (.cvInt .u32 (tm 28)), pv 30 1, pv 31 11, pp 32 (.bin .mul (.const (.int .i64 4)) (tm 31)), pp 33 (.bin .add (tm 32) (.const (.int .i64 1))), pp 34 (.ixL 1 (tm 30) (tm 33)), pp 35 (.ld none (tm 34)), pp 36 (.cvInt .u32 (tm 35)), pp 37 (.bin .shl (tm 36) (.const (.int .u64 8))), pp 38 (.bin .or (tm 29) (tm 37)), pv 39 1, pv 40 11, pp 41 (.bin .mul (.const (.int .i64 4)) (tm 40)), pp 42 (.bin .add (tm 41) (.const (.int .i64 2))), pp 43 (.ixL 1 (tm 39) (tm 42)), pp 44 (.ld none (tm 43)), pp 45 (.cvInt .u32 (tm 44)), pp 46 (.bin .shl (tm 45) (.const (.int .u64 16))), pp 47 (.bin .or (tm 38) (tm 46)), pv 48 1, pv 49 11, pp 50 (.bin .mul (.const (.int .i64 4)) (tm 49)), pp 51 (.bin .add (tm 50) (.const (.int .i64 3))), pp 52 (.ixL 1 (tm 48) (tm 51)), pp 53 (.ld none (tm 52)), pp 54 (.cvInt .u32 (tm 53)), pp 55 (.bin .shl (tm 54) (.const (.int .u64 24))), pp 56 (.bin .or (tm 47) (tm 55)), pp 57 (.ixA 16 1 (tm 9) (tm 23)), ⟨none, .st 1 (tm 57) (tm 56), none, [], false⟩])) (.region [pv 21 11, pp 22 (.bin .add (tm 21) (.const (.int .i64 1))), pv 11 22])))))) cW1))) }
theorem MT : d74 = HE := rfl
theorem R8 {k : IntKind} {n N : Nat} {S : DS} {o : List Value} {ro : Bool} (hF : U k n o) (gN : S.get N = some (.cells (.list o) ro)) : ldA n (.pointer (some ⟨N, 0, none⟩)) S = some (.agg ⟨o⟩) := by
 unfold ldA DS.read
 simp only [gN]
 rw [zQ _ _ _ (by rw [hF.1]; omega)]
 simp only [List.drop_zero]
 rw [List.take_of_length_le (by rw [hF.1]; exact Nat.le_refl _)]
theorem KO {k k' : IntKind} {n : Nat} {o z : List Value} (hF : U k n o) (hz : U k' n z) : (Cells.list z).fillFrom 0 o = .list o := by
 rw [ZC _ _ _ (by rw [hF.1, hz.1]; omega), hF.1]
 simp [← hz.1]
structure W4I (S : DS) (P R V : Nat) (h v : List Value) (n : Nat) (z : St) : Prop where
 ex : ∃ j : Nat, n = 8 - j ∧ j ≤ 8 ∧ z.defers = [] ∧ (z.t.get 4 = some (.pointer (some ⟨P, 0, none⟩)) ∧ z.t.get 8 = some (.pointer (some ⟨R, 0, none⟩)) ∧ z.t.get 10 = some (.pointer (some ⟨V, 0, none⟩)) ∧ z.t.get 18 = some (.int .i64 (j : Int))) ∧
  Ext [P] S z.s ∧ z.s.get P = some (.cells (.list (xrF h v j)) false)
theorem Mh {h v : List Value} (hh : U .u32 8 h) : ∀ j, U .u32 8 (xrF h v j)
 | 0 => hh
 | j + 1 => (Mh hh j).set _ _
theorem Hg {h v : List Value} (hh : U .u32 8 h) {j : Nat} (hj : j < 8) : getN (xrF h v j) j = some (.int .u32 (nAt h j)) := by
 rw [DB, JW (Nat.le_refl _)]
 exact hh.at hj
section
variable {E : Env} (hR : Mf E) {S : DS} {d : Nat} {P R V M : Nat} {h v m : List Value} {t : PT Value} {KK : DExit → St → Prop}
include hR
theorem rw4 (hh : U .u32 8 h) (hv : U .u32 16 v) (gP : S.get P = some (.cells (.list h) false)) (wP : S.wr P = true) (gR : S.get R = some (.cells (.list (zq .u32 8)) false)) (wR : S.wr R = true) (gV : S.get V = some (.cells (.list v) false))
 (n1 : P ≠ R) (n2 : P ≠ V) (n3 : R ≠ V) (t4 : t.get 4 = some (.pointer (some ⟨P, 0, none⟩))) (t8 : t.get 8 = some (.pointer (some ⟨R, 0, none⟩))) (t10 : t.get 10 = some (.pointer (some ⟨V, 0, none⟩)))
 (hK : ∀ t' S', t'.get 8 = some (.pointer (some ⟨R, 0, none⟩)) → Ext [P, R] S S' → S'.get R = some (.cells (.list (QF h v 8)) false) → KK .ret ⟨t', S', []⟩) :
 WC (dcall E (d + 2)) E.lf false cW4 ⟨t, S, []⟩ KK := by
 have hlf := hR.lf
 simp only [sA, pp, pv, cW4]
 refine zY (W4I S P R V h v) 8 (by omega) ⟨0, rfl, by omega, rfl, by simp only [sA, Nat.reduceEqDiff, t4, t8, t10]; rfl, .refl, gP⟩ ?_
 rintro n ⟨t, s2, ds⟩ hn ⟨j, rfl, hj, hds, ⟨g4, g8, g10, g18⟩, X2, gP2⟩
 simp only at hds g4 g8 g10 g18 X2 gP2
 subst hds
 have hxl := (Mh (v := v) hh j).1
 have gV2 := X2.keep gV (by simp; omega)
 have wP2 := X2.wrs wP
 by_cases c1 : j < 8
 · have e1 : (j : Int) < 8 := by omega
   have w1 : zf .i64 ((j : Int) + 1) = ((j + 1 : Nat) : Int) := by rw [zi (by omega) (by omega)]; omega
   have w8 : zf .i64 ((j : Int) + 8) = ((j + 8 : Nat) : Int) := by rw [zi (by omega) (by omega)]; omega
   have q1 := Hg (v := v) hh c1
   have q2 := hv.at (i := j) (by omega)
   have q3 := hv.at (i := j + 8) (by omega)
   have l1 : j < 16 := by omega
   have l2 : j + 8 < 16 := by omega
   have l3 : j ≤ 7 := by omega
   simp only [sA, zb, zl, zm, Nat.reduceEqDiff, Cells.get, allOne, ze, Nat.reduceLeDiff, DS.wrC, Cells.size, Cells.fillFrom, Cells.set, g4, g8, g10, g18, e1, w1, w8, gP2, gV2, wP2, q1, q2, q3, c1, l1, l2, l3, hxl]
   refine ⟨8 - (j + 1), by omega, ⟨j + 1, rfl, by omega, rfl, by simp only [sA, Nat.reduceEqDiff, g4, g8, g10], X2.trans' (Ext.upd (.inl (by simp))), ?_⟩⟩
   simp only [sA, gP2]
   rfl
 · obtain rfl : j = 8 := by omega
   have e1 : ¬ ((8 : Nat) : Int) < 8 := by omega
   rw [DB] at gP2
   have hO : U .u32 8 (QF h v 8) := by rw [← DB]; exact Mh hh 8
   have gR2 := X2.keep gR (by simp; omega)
   have wR2 := X2.wrs wR
   have hld := R8 hO gP2
   have hfill := KO hO (Zi .u32 8)
   simp (maxDischargeDepth := 8) only [sA, zl, zm, DS.wrC, Cells.size, WF, Nat.reduceLT, g4, g8, g10, g18, e1, hld, gR2, wR2, hO.1, hO.allOne, hfill, (Zi .u32 8).1]
   refine hK _ _ (by simp only [sA, Nat.reduceEqDiff, g8]) ((X2.weaken (by simp)).trans' (Ext.upd (.inl (by simp)))) ?_
   rw [DS.upd_get_self, gR2]; rfl
structure W3I (S : DS) (P R V M O : Nat) (m v : List Value) (n : Nat) (z : St) : Prop where
 ex : ∃ j : Nat, n = 10 - j ∧ j ≤ 10 ∧ z.defers = [] ∧ (z.t.get 4 = some (.pointer (some ⟨P, 0, none⟩)) ∧ z.t.get 8 = some (.pointer (some ⟨R, 0, none⟩)) ∧ z.t.get 9 = some (.pointer (some ⟨M, 0, none⟩)) ∧ z.t.get 10 = some (.pointer (some ⟨V, 0, none⟩)) ∧ z.t.get 13 = some (.pointer (some ⟨O, 0, none⟩)) ∧ z.t.get 14 = some (.int .i64 (j : Int))) ∧
  Ext [V] S z.s ∧ z.s.get V = some (.cells (.list (ZZ m v j)) false)
structure H1I (S : DS) (P R V M O B : Nat) (j : Nat) (m v : List Value) (n : Nat) (z : St) : Prop where
 ex : ∃ i : Nat, n = 4 - i ∧ i ≤ 4 ∧ z.defers = [] ∧ (z.t.get 4 = some (.pointer (some ⟨P, 0, none⟩)) ∧ z.t.get 8 = some (.pointer (some ⟨R, 0, none⟩)) ∧ z.t.get 9 = some (.pointer (some ⟨M, 0, none⟩)) ∧ z.t.get 10 = some (.pointer (some ⟨V, 0, none⟩)) ∧ z.t.get 13 = some (.pointer (some ⟨O, 0, none⟩)) ∧ z.t.get 14 = some (.int .i64 (j : Int)) ∧ z.t.get 15 = some (.pointer (some ⟨B, 0, none⟩)) ∧ z.t.get 16 = some (.int .i64 (i : Int))) ∧
  Ext [V] S z.s ∧ z.s.get V = some (.cells (.list (h1F (Yq j) m v i)) false)
structure H2I (S : DS) (P R V M O B : Nat) (j : Nat) (m v : List Value) (n : Nat) (z : St) : Prop where
 ex : ∃ i : Nat, n = 4 - i ∧ i ≤ 4 ∧ z.defers = [] ∧ (z.t.get 4 = some (.pointer (some ⟨P, 0, none⟩)) ∧ z.t.get 8 = some (.pointer (some ⟨R, 0, none⟩)) ∧ z.t.get 9 = some (.pointer (some ⟨M, 0, none⟩)) ∧ z.t.get 10 = some (.pointer (some ⟨V, 0, none⟩)) ∧ z.t.get 13 = some (.pointer (some ⟨O, 0, none⟩)) ∧ z.t.get 14 = some (.int .i64 (j : Int)) ∧ z.t.get 15 = some (.pointer (some ⟨B, 0, none⟩)) ∧ z.t.get 17 = some (.int .i64 (i : Int))) ∧
  Ext [V] S z.s ∧ z.s.get V = some (.cells (.list (h2F (Yq j) m v i)) false)
theorem Hp {O B j : Nat} (hm : U .u32 16 m) (hv : U .u32 16 v) (hj : j < 10) (hG : S.Good) (gM : S.get M = some (.cells (.list m) false)) (gV : S.get V = some (.cells (.list v) false)) (wV : S.wr V = true) (gB : S.get B = some (.cells (.list (KE j)) false)) (n1 : M ≠ V) (n2 : B ≠ V)
 (t4 : t.get 4 = some (.pointer (some ⟨P, 0, none⟩))) (t8 : t.get 8 = some (.pointer (some ⟨R, 0, none⟩))) (t9 : t.get 9 = some (.pointer (some ⟨M, 0, none⟩))) (t10 : t.get 10 = some (.pointer (some ⟨V, 0, none⟩))) (t13 : t.get 13 = some (.pointer (some ⟨O, 0, none⟩))) (t14 : t.get 14 = some (.int .i64 (j : Int))) (t15 : t.get 15 = some (.pointer (some ⟨B, 0, none⟩)))
 (hK : ∀ t' S', (t'.get 4 = some (.pointer (some ⟨P, 0, none⟩)) ∧ t'.get 8 = some (.pointer (some ⟨R, 0, none⟩)) ∧ t'.get 9 = some (.pointer (some ⟨M, 0, none⟩)) ∧ t'.get 10 = some (.pointer (some ⟨V, 0, none⟩)) ∧ t'.get 13 = some (.pointer (some ⟨O, 0, none⟩)) ∧ t'.get 14 = some (.int .i64 (j : Int))) → Ext [V] S S' → S'.get V = some (.cells (.list (h2F (Yq j) m v 4)) false) → KK .normal ⟨t', S', []⟩) :
 WC (dcall E (d + 2)) E.lf false cR2 ⟨t, S, []⟩ KK := by
 have hlf := hR.lf
 simp only [sA, pp, pv, cR2]
 refine zY (H2I S P R V M O B j m v) 4 (by omega) ⟨0, rfl, by omega, rfl, by simp only [sA, Nat.reduceEqDiff, t4, t8, t9, t10, t13, t14, t15]; rfl, .refl, gV⟩ ?_
 rintro n ⟨t, s2, ds⟩ hn ⟨i, rfl, hi, hds, ⟨g4, g8, g9, g10, g13, g14, g15, g17⟩, X2, gV2⟩
 simp only at hds g4 g8 g9 g10 g13 g14 g15 g17 X2 gV2
 subst hds
 have hVU := LZ (r := Yq j) (m := m) hv i
 have gM2 := X2.keep gM (by simp; omega)
 have gB2 := X2.keep gB (by simp; omega)
 have wV2 := X2.wrs wV
 have hrl := VR j hj
 by_cases c1 : i < 4
 · have e1 : (i : Int) < 4 := by omega
   have w1 : zf .i64 ((i : Int) + 1) = ((i + 1 : Nat) : Int) := by rw [zi (by omega) (by omega)]; omega
   have w2 : zf .i64 ((i : Int) + 2) = ((i + 2 : Nat) : Int) := by rw [zi (by omega) (by omega)]; omega
   have w3 : zf .i64 ((i : Int) + 3) = ((i + 3 : Nat) : Int) := by rw [zi (by omega) (by omega)]; omega
   have r1 : ((i + 1 : Nat) : Int).tmod 4 = (((i + 1) % 4 : Nat) : Int) := rfl
   have r2 : ((i + 2 : Nat) : Int).tmod 4 = (((i + 2) % 4 : Nat) : Int) := rfl
   have r3 : ((i + 3 : Nat) : Int).tmod 4 = (((i + 3) % 4 : Nat) : Int) := rfl
   have v1 : zf .i64 (4 + (((i + 1) % 4 : Nat) : Int)) = ((4 + (i + 1) % 4 : Nat) : Int) := by rw [zi (by omega) (by omega)]; omega
   have v2 : zf .i64 (8 + (((i + 2) % 4 : Nat) : Int)) = ((8 + (i + 2) % 4 : Nat) : Int) := by rw [zi (by omega) (by omega)]; omega
   have v3 : zf .i64 (12 + (((i + 3) % 4 : Nat) : Int)) = ((12 + (i + 3) % 4 : Nat) : Int) := by rw [zi (by omega) (by omega)]; omega
   have u0 : zf .i64 (2 * (i : Int)) = ((2 * i : Nat) : Int) := by rw [zi (by omega) (by omega)]; omega
   have u1 : zf .i64 (8 + ((2 * i : Nat) : Int)) = ((8 + 2 * i : Nat) : Int) := by rw [zi (by omega) (by omega)]; omega
   have u2 : zf .i64 (9 + ((2 * i : Nat) : Int)) = ((9 + 2 * i : Nat) : Int) := by rw [zi (by omega) (by omega)]; omega
   have k1 := J3 (j := j) hj (i := 8 + 2 * i) (by omega)
   have k2 := J3 (j := j) hj (i := 9 + 2 * i) (by omega)
   have a1 := KD j hj (8 + 2 * i) (by omega)
   have a2 := KD j hj (9 + 2 * i) (by omega)
   have m1 := hm.at a1
   have m2 := hm.at a2
   have l1 : 8 + 2 * i < 16 := by omega
   have l2 : 9 + 2 * i < 16 := by omega
   have hld := R8 hVU gV2
   simp (maxDischargeDepth := 8) only [sA, sM, zb, zl, zm, Cells.get, Int.reduceEq, Nat.reduceLT, g4, g8, g9, g10, g13, g14, g15, g17, e1, w1, w2, w3, r1, r2, r3, v1, v2, v3, u0, u1, u2, k1, k2, a1, a2, m1, m2, l1, l2, hld, gM2, gB2]
   refine W.mono (DJ hR (X2.good hG) hVU (show i < 16 by omega) (show 4 + (i + 1) % 4 < 16 by omega) (show 8 + (i + 2) % 4 < 16 by omega) (show 12 + (i + 3) % 4 < 16 by omega) (by omega) (by omega) (by omega) (by omega) (by omega) (by omega)) ?_
   rintro ⟨vv, s3⟩ ⟨hv3, X3⟩
   simp only at hv3 X3
   subst hv3
   have gV3 := X3.keep gV2 (by simp)
   have wV3 := X3.wrs wV2
   have hNU : U .u32 16 (h2F (Yq j) m v (i + 1)) := LZ hv (i + 1)
   rw [show YD i (4 + (i + 1) % 4) (8 + (i + 2) % 4) (12 + (i + 3) % 4) (nAt m (Yq j (8 + 2 * i))) (nAt m (Yq j (9 + 2 * i))) (h2F (Yq j) m v i) = h2F (Yq j) m v (i + 1) from rfl]
   have hfill := KO hNU hVU
   simp (maxDischargeDepth := 8) only [sA, zl, zm, DS.wrC, Cells.size, WF, Nat.reduceLT, g4, g8, g9, g10, g13, g14, g15, g17, w1, gV3, wV3, hNU.1, hNU.allOne, hfill, hVU.1]
   refine ⟨4 - (i + 1), by omega, ⟨i + 1, rfl, by omega, rfl, by simp only [sA, Nat.reduceEqDiff, g4, g8, g9, g10, g13, g14, g15], (X2.trans' (X3.weaken (by simp))).trans' (Ext.upd (.inl (by simp))), ?_⟩⟩
   show (DS.upd _ _ _).get V = _
   rw [DS.upd_get_self, gV3]; rfl
 · obtain rfl : i = 4 := by omega
   have e1 : ¬ ((4 : Nat) : Int) < 4 := by omega
   simp only [sA, zl, zm, g4, g8, g9, g10, g13, g14, g15, g17, e1]
   exact hK _ _ (by simp only [sA, Nat.reduceEqDiff, g4, g8, g9, g10, g13, g14]) X2 gV2
theorem rw3 {O : Nat} (hm : U .u32 16 m) (hv : U .u32 16 v) (hh : U .u32 8 h) (hG : S.Good) (gM : S.get M = some (.cells (.list m) false)) (gV : S.get V = some (.cells (.list v) false)) (wV : S.wr V = true) (gO : S.get O = some (.cells (.list Db) false))
 (gP : S.get P = some (.cells (.list h) false)) (wP : S.wr P = true) (gR : S.get R = some (.cells (.list (zq .u32 8)) false)) (wR : S.wr R = true)
 (n1 : P ≠ R) (n2 : P ≠ V) (n3 : R ≠ V) (n4 : M ≠ V) (n5 : O ≠ V)
 (t4 : t.get 4 = some (.pointer (some ⟨P, 0, none⟩))) (t8 : t.get 8 = some (.pointer (some ⟨R, 0, none⟩))) (t9 : t.get 9 = some (.pointer (some ⟨M, 0, none⟩))) (t10 : t.get 10 = some (.pointer (some ⟨V, 0, none⟩))) (t13 : t.get 13 = some (.pointer (some ⟨O, 0, none⟩)))
 (hK : ∀ t' S', t'.get 8 = some (.pointer (some ⟨R, 0, none⟩)) → Ext [P, R, V] S S' → S'.get R = some (.cells (.list (QF h (ZZ m v 10) 8)) false) → KK .ret ⟨t', S', []⟩) :
 WC (dcall E (d + 2)) E.lf false cW3 ⟨t, S, []⟩ KK := by
 have hlf := hR.lf
 have hol := DS.get_lt' gO
 have hml := DS.get_lt' gM
 have hvl := DS.get_lt' gV
 simp only [sA, pp, pv, cW3]
 refine zY (W3I S P R V M O m v) 10 (by omega) ⟨0, rfl, by omega, rfl, by simp only [sA, Nat.reduceEqDiff, t4, t8, t9, t10, t13]; rfl, .refl, gV⟩ ?_
 rintro n ⟨t, s2, ds⟩ hn ⟨j, rfl, hj, hds, ⟨g4, g8, g9, g10, g13, g14⟩, X2, gV2⟩
 simp only at hds g4 g8 g9 g10 g13 g14 X2 gV2
 subst hds
 have hVU := hv.rounds (m := m) j
 have hG2 := X2.good hG
 have gM2 := X2.keep gM (by simp; omega)
 have gO2 := X2.keep gO (by simp; omega)
 have wV2 := X2.wrs wV
 have hle2 := X2.le
 by_cases c1 : j < 10
 · have e1 : (j : Int) < 10 := by omega
   have w1 : zf .i64 ((j : Int) + 1) = ((j + 1 : Nat) : Int) := by rw [zi (by omega) (by omega)]; omega
   have hrl := VR j c1
   have hra := Py j c1
   have hld : ldA 16 (.pointer (some ⟨O, j * 16, none⟩)) s2 = some (.agg ⟨KE j⟩) := by
    unfold ldA DS.read
    simp only [gO2]
    rw [Fs j c1]
   have hldn : ∀ ob, ldA 16 (.pointer (some ⟨O, j * 16, none⟩)) (s2.new ob) = some (.agg ⟨KE j⟩) := fun ob => by
    unfold ldA DS.read
    simp only [DS.new_get_lt (show O < s2.next by omega), gO2]
    rw [Fs j c1]
   have hfill : (Cells.list [Value.int .i64 0, .int .i64 0, .int .i64 0, .int .i64 0, .int .i64 0, .int .i64 0, .int .i64 0, .int .i64 0, .int .i64 0, .int .i64 0, .int .i64 0, .int .i64 0, .int .i64 0, .int .i64 0, .int .i64 0, .int .i64 0]).fillFrom 0 (KE j) = .list (KE j) := by
    rw [ZC _ _ _ (by rw [hrl]; decide), hrl]
    simp
   simp (maxDischargeDepth := 8) only [sA, sM, zb, zl, zm, Nat.reduceAdd, DS.wrC, Cells.size, Nat.reduceLT, g4, g8, g9, g10, g13, g14, e1, c1, hld, hldn, hrl, hra, hG2, hfill]
   obtain ⟨S3, hS3⟩ : ∃ S3 : DS, S3 = (s2.new (.cells (.list [.int .i64 0, .int .i64 0, .int .i64 0, .int .i64 0, .int .i64 0, .int .i64 0, .int .i64 0, .int .i64 0, .int .i64 0, .int .i64 0, .int .i64 0, .int .i64 0, .int .i64 0, .int .i64 0, .int .i64 0, .int .i64 0]) false)).upd s2.next (.cells (.list (KE j)) false) := ⟨_, rfl⟩
   rw [← hS3]
   have X3 : Ext [] s2 S3 := by rw [hS3]; exact (Ext.new (F := [])).trans (Ext.upd (F := [s2.next]) (.inl (by simp))) (by simp)
   have gB3 : S3.get s2.next = some (.cells (.list (KE j)) false) := by rw [hS3]; simp (maxDischargeDepth := 8) only [sA, zR, hG2]
   clear hS3
   have hG3 := X3.good hG2
   have gV3 := X3.keep gV2 (by simp)
   have gM3 := X3.keep gM2 (by simp)
   have wV3 := X3.wrs wV2
   obtain ⟨B, hB⟩ : ∃ B, B = s2.next := ⟨_, rfl⟩
   simp only [← hB] at gB3 hle2 ⊢
   have hBV : B ≠ V := by omega
   refine zY (H1I S3 P R V M O B j m (ZZ m v j)) 4 (by omega) ⟨0, rfl, by omega, rfl, by simp only [sA, Nat.reduceEqDiff, g4, g8, g9, g10, g13, g14]; rfl, .refl, gV3⟩ ?_
   rintro n ⟨t, s4, ds⟩ hn ⟨i, rfl, hi, hds, ⟨g4, g8, g9, g10, g13, g14, g15, g16⟩, X4, gV4⟩
   simp only at hds g4 g8 g9 g10 g13 g14 g15 g16 X4 gV4
   subst hds
   have hHU := L0 (r := Yq j) (m := m) hVU i
   have gM4 := X4.keep gM3 (by simp; omega)
   have gB4 := X4.keep gB3 (by simp; omega)
   have wV4 := X4.wrs wV3
   have hG4 := X4.good hG3
   by_cases c2 : i < 4
   · have e2 : (i : Int) < 4 := by omega
     have v1 : zf .i64 ((i : Int) + 1) = ((i + 1 : Nat) : Int) := by rw [zi (by omega) (by omega)]; omega
     have v4 : zf .i64 ((i : Int) + 4) = ((i + 4 : Nat) : Int) := by rw [zi (by omega) (by omega)]; omega
     have v8 : zf .i64 ((i : Int) + 8) = ((i + 8 : Nat) : Int) := by rw [zi (by omega) (by omega)]; omega
     have v12 : zf .i64 ((i : Int) + 12) = ((i + 12 : Nat) : Int) := by rw [zi (by omega) (by omega)]; omega
     have u0 : zf .i64 (2 * (i : Int)) = ((2 * i : Nat) : Int) := by rw [zi (by omega) (by omega)]; omega
     have u1 : zf .i64 (((2 * i : Nat) : Int) + 1) = ((2 * i + 1 : Nat) : Int) := by rw [zi (by omega) (by omega)]; omega
     have k1 := J3 (j := j) c1 (i := 2 * i) (by omega)
     have k2 := J3 (j := j) c1 (i := 2 * i + 1) (by omega)
     have a1 := KD j c1 (2 * i) (by omega)
     have a2 := KD j c1 (2 * i + 1) (by omega)
     have m1 := hm.at a1
     have m2 := hm.at a2
     have l1 : 2 * i < 16 := by omega
     have l2 : 2 * i + 1 < 16 := by omega
     have l3 : 2 * i ≤ 14 := by omega
     have hld4 := R8 hHU gV4
     simp (maxDischargeDepth := 8) only [sA, sM, zb, zl, zm, Cells.get, Nat.reduceLT, g4, g8, g9, g10, g13, g14, g15, g16, e2, v1, v4, v8, v12, u0, u1, k1, k2, a1, a2, m1, m2, l1, l2, l3, hld4, gM4, gB4]
     refine W.mono (DJ hR hG4 hHU (show i < 16 by omega) (show i + 4 < 16 by omega) (show i + 8 < 16 by omega) (show i + 12 < 16 by omega) (by omega) (by omega) (by omega) (by omega) (by omega) (by omega)) ?_
     rintro ⟨vv, s5⟩ ⟨hv5, X5⟩
     simp only at hv5 X5
     subst hv5
     have gV5 := X5.keep gV4 (by simp)
     have wV5 := X5.wrs wV4
     have hNU : U .u32 16 (h1F (Yq j) m (ZZ m v j) (i + 1)) := L0 hVU (i + 1)
     rw [show YD i (i + 4) (i + 8) (i + 12) (nAt m (Yq j (2 * i))) (nAt m (Yq j (2 * i + 1))) (h1F (Yq j) m (ZZ m v j) i) = h1F (Yq j) m (ZZ m v j) (i + 1) from rfl]
     have hfill5 := KO hNU hHU
     simp (maxDischargeDepth := 8) only [sA, zl, zm, DS.wrC, Cells.size, WF, Nat.reduceLT, g4, g8, g9, g10, g13, g14, g15, g16, v1, gV5, wV5, hNU.1, hNU.allOne, hfill5, hHU.1]
     refine ⟨4 - (i + 1), by omega, ⟨i + 1, rfl, by omega, rfl, by simp only [sA, Nat.reduceEqDiff, g4, g8, g9, g10, g13, g14, g15], (X4.trans' (X5.weaken (by simp))).trans' (Ext.upd (.inl (by simp))), ?_⟩⟩
     show (DS.upd _ _ _).get V = _
     rw [DS.upd_get_self, gV5]; rfl
   · obtain rfl : i = 4 := by omega
     have e2 : ¬ ((4 : Nat) : Int) < 4 := by omega
     simp only [sA, zl, zm, g4, g8, g9, g10, g13, g14, g15, g16, e2]
     refine Hp (P := P) (R := R) (O := O) hR hm hHU c1 hG4 gM4 gV4 wV4 gB4 n4 hBV (by simp only [sA, Nat.reduceEqDiff, g4]) (by simp only [sA, Nat.reduceEqDiff, g8]) (by simp only [sA, Nat.reduceEqDiff, g9]) (by simp only [sA, Nat.reduceEqDiff, g10]) (by simp only [sA, Nat.reduceEqDiff, g13]) (by simp only [sA, Nat.reduceEqDiff, g14]) (by simp only [sA, Nat.reduceEqDiff, g15]) ?_
     rintro t' S' ⟨g4, g8, g9, g10, g13, g14⟩ X5 gV5
     simp only [sA, zl, zm, g4, g8, g9, g10, g13, g14, w1]
     exact ⟨10 - (j + 1), by omega, ⟨j + 1, rfl, by omega, rfl, by simp only [sA, Nat.reduceEqDiff, g4, g8, g9, g10, g13], ((X2.trans' (X3.weaken (by simp))).trans' X4).trans' X5, gV5⟩⟩
 · obtain rfl : j = 10 := by omega
   have e1 : ¬ ((10 : Nat) : Int) < 10 := by omega
   simp only [sA, zl, zm, g4, g8, g9, g10, g13, g14, e1]
   refine rw4 hR hh hVU (X2.keep gP (by simp; omega)) (X2.wrs wP) (X2.keep gR (by simp; omega)) (X2.wrs wR) gV2 n1 n2 n3 (by simp only [sA, Nat.reduceEqDiff, g4]) (by simp only [sA, Nat.reduceEqDiff, g8]) (by simp only [sA, Nat.reduceEqDiff, g10]) ?_
   intro t' S' g8 X5 gR5
   exact hK t' S' g8 ((X2.weaken (by simp)).trans' (X5.weaken (by simp))) gR5
theorem rw2 (hm : U .u32 16 m) (hv : U .u32 16 v) (hh : U .u32 8 h) (hG : S.Good) (gM : S.get M = some (.cells (.list m) false)) (gV : S.get V = some (.cells (.list v) false)) (wV : S.wr V = true)
 (gP : S.get P = some (.cells (.list h) false)) (wP : S.wr P = true) (gR : S.get R = some (.cells (.list (zq .u32 8)) false)) (wR : S.wr R = true)
 (n1 : P ≠ R) (n2 : P ≠ V) (n3 : R ≠ V) (n4 : M ≠ V)
 (t4 : t.get 4 = some (.pointer (some ⟨P, 0, none⟩))) (t8 : t.get 8 = some (.pointer (some ⟨R, 0, none⟩))) (t9 : t.get 9 = some (.pointer (some ⟨M, 0, none⟩))) (t10 : t.get 10 = some (.pointer (some ⟨V, 0, none⟩)))
 (hK : ∀ t' S', t'.get 8 = some (.pointer (some ⟨R, 0, none⟩)) → Ext [P, R, V] S S' → S'.get R = some (.cells (.list (QF h (ZZ m v 10) 8)) false) → KK .ret ⟨t', S', []⟩) :
 WC (dcall E (d + 2)) E.lf false cW2 ⟨t, S, []⟩ KK := by
 have hlf := hR.lf
 have hvl := DS.get_lt' gV
 simp only [sA, pp, cW2]
 refine W.mono (Mt hR (d := d + 1) hG) ?_
 rintro ⟨v1, s1⟩ ⟨h1, X1⟩
 simp only at h1 X1
 subst h1
 have hG1 := X1.good hG
 have hol : Db.length = 160 := rfl
 have hoa : allOne Db = true := by decide +kernel
 obtain ⟨Z, hZ⟩ : ∃ Z : List Value, Z = List.replicate 160 (.int .i64 0) := ⟨_, rfl⟩
 have hfill : (Cells.list Z).fillFrom 0 Db = .list Db := by
  rw [ZC _ _ _ (by rw [hZ]; decide), hZ]
  rfl
 have hZl : Z.length = 160 := by rw [hZ]; rfl
 simp only [List.replicate] at hZ
 simp only [← hZ]
 clear hZ
 have hxl : (160 : Nat) ≤ 160 := Nat.le_refl _
 simp (maxDischargeDepth := 8) only [sA, sM, DS.wrC, Cells.size, Nat.reduceLT, t4, t8, t9, t10, hG1, hol, hoa, hfill, hZl]
 obtain ⟨S3, hS3⟩ : ∃ S3 : DS, S3 = (s1.new (.cells (.list Z) false)).upd s1.next (.cells (.list Db) false) := ⟨_, rfl⟩
 rw [← hS3]
 have X3 : Ext [] s1 S3 := by rw [hS3]; exact (Ext.new (F := [])).trans (Ext.upd (F := [s1.next]) (.inl (by simp))) (by simp)
 have gO3 : S3.get s1.next = some (.cells (.list Db) false) := by rw [hS3]; simp (maxDischargeDepth := 8) only [sA, zR, hG1]
 clear hS3
 have XA := X1.trans' X3
 have hle := X1.le
 refine rw3 hR hm hv hh (XA.good hG) (XA.keep gM (by simp)) (XA.keep gV (by simp)) (XA.wrs wV) gO3 (XA.keep gP (by simp)) (XA.wrs wP) (XA.keep gR (by simp)) (XA.wrs wR) n1 n2 n3 n4 (by omega) (by simp only [sA, Nat.reduceEqDiff, t4]) (by simp only [sA, Nat.reduceEqDiff, t8]) (by simp only [sA, Nat.reduceEqDiff, t9]) (by simp only [sA, Nat.reduceEqDiff, t10]) (by simp only [Wm]) ?_
 intro t' S' g8 X5 gR5
 exact hK t' S' g8 ((XA.weaken (by simp)).trans' X5) gR5
structure W1I (S : DS) (P R V M : Nat) (tt : Int) (last : Bool) (h : List Value) (n : Nat) (z : St) : Prop where
 ex : ∃ j : Nat, n = 8 - j ∧ j ≤ 8 ∧ z.defers = [] ∧ (z.t.get 2 = some (.int .u64 tt) ∧ z.t.get 3 = some (.bool last) ∧ z.t.get 4 = some (.pointer (some ⟨P, 0, none⟩)) ∧ z.t.get 8 = some (.pointer (some ⟨R, 0, none⟩)) ∧ z.t.get 9 = some (.pointer (some ⟨M, 0, none⟩)) ∧ z.t.get 10 = some (.pointer (some ⟨V, 0, none⟩)) ∧ z.t.get 12 = some (.int .i64 (j : Int))) ∧
  Ext [V] S z.s ∧ z.s.get V = some (.cells (.list (viF h j)) false)
theorem rw1 {tt : Int} {last : Bool} (hm : U .u32 16 m) (hh : U .u32 8 h) (hG : S.Good) (gM : S.get M = some (.cells (.list m) false)) (gV : S.get V = some (.cells (.list (zq .u32 16)) false)) (wV : S.wr V = true)
 (gP : S.get P = some (.cells (.list h) false)) (wP : S.wr P = true) (gR : S.get R = some (.cells (.list (zq .u32 8)) false)) (wR : S.wr R = true)
 (n1 : P ≠ R) (n2 : P ≠ V) (n3 : R ≠ V) (n4 : M ≠ V) (t2 : t.get 2 = some (.int .u64 tt)) (t3 : t.get 3 = some (.bool last))
 (t4 : t.get 4 = some (.pointer (some ⟨P, 0, none⟩))) (t8 : t.get 8 = some (.pointer (some ⟨R, 0, none⟩))) (t9 : t.get 9 = some (.pointer (some ⟨M, 0, none⟩))) (t10 : t.get 10 = some (.pointer (some ⟨V, 0, none⟩)))
 (hK : ∀ t' S', t'.get 8 = some (.pointer (some ⟨R, 0, none⟩)) → Ext [P, R, V] S S' → S'.get R = some (.cells (.list (QF h (ZZ m (v0F h tt last) 10) 8)) false) → KK .ret ⟨t', S', []⟩) :
 WC (dcall E (d + 2)) E.lf false cW1 ⟨t, S, []⟩ KK := by
 have hlf := hR.lf
 have hvl := DS.get_lt' gV
 have hpl := DS.get_lt' gP
 have hhA : UA .u32 0 8 h := hh.part (Nat.le_refl _)
 simp only [sA, pp, pv, cW1]
 refine zY (W1I S P R V M tt last h) 8 (by omega) ⟨0, rfl, by omega, rfl, by simp only [sA, Nat.reduceEqDiff, t2, t3, t4, t8, t9, t10]; rfl, .refl, gV⟩ ?_
 rintro n ⟨t, s2, ds⟩ hn ⟨j, rfl, hj, hds, ⟨g2, g3, g4, g8, g9, g10, g12⟩, X2, gV2⟩
 simp only at hds g2 g3 g4 g8 g9 g10 g12 X2 gV2
 subst hds
 have hG2 := X2.good hG
 have gP2 := X2.keep gP (by simp; omega)
 have wV2 := X2.wrs wV
 have hle := X2.le
 have hVU := Mm h j
 by_cases c1 : j < 8
 · have e1 : (j : Int) < 8 := by omega
   have w1 : zf .i64 ((j : Int) + 1) = ((j + 1 : Nat) : Int) := by rw [zi (by omega) (by omega)]; omega
   have w8 : zf .i64 ((j : Int) + 8) = ((j + 8 : Nat) : Int) := by rw [zi (by omega) (by omega)]; omega
   have q1 := hh.at c1
   have l1 : j < 16 := by omega
   have l2 : j + 8 < 16 := by omega
   have l3 : j ≤ 15 := by omega
   have l4 : j ≤ 7 := by omega
   simp only [sA, zb, zl, zm, Nat.reduceEqDiff, Cells.get, foot, g2, g3, g4, g8, g9, g10, g12, e1, w1, w8, gP2, q1, c1, l1, l2]
   refine W.masked (hR.fr _) (DH hR (d := d) (Zq hG2 fun k hk => ?_) c1) ?_
   · exact ⟨by (simp only [hidden, shielded, noteAt, zx, Bool.or_false, Bool.or_eq_false_iff, Bool.and_eq_false_iff, zD, zM, zH, true_and, and_true, true_or, or_true] <;> omega), by (simp only [hidden, shielded, noteAt, zx, Bool.or_false, Bool.or_eq_false_iff, Bool.and_eq_false_iff, zD, zM, zH, true_and, and_true, true_or, or_true] <;> omega)⟩
   rintro v3 s3 ⟨h3, X3⟩ df
   simp only at h3 X3
   subst h3
   have X3' := Ext.unmask' X3 df
   obtain ⟨S3, hS3⟩ : ∃ S3 : DS, S3 = unmask s2 s3 := ⟨_, rfl⟩
   rw [← hS3] at X3'
   have n3 : s3.next = S3.next := by rw [hS3]; rfl
   have gV3 := X3'.keep gV2 (by simp)
   have wV3 := X3'.wrs wV2
   have hVl := hVU.1
   simp only [sA, zb, zl, zm, Nat.reduceEqDiff, allOne, ze, Nat.reduceLeDiff, DS.wrC, Cells.size, Cells.fillFrom, Cells.set, foot, ← hS3, n3, g2, g3, g4, g8, g9, g10, g12, gV3, wV3, hVl, zI, l1, l2, l3, l4, w1]
   refine ⟨8 - (j + 1), by omega, ⟨j + 1, rfl, by omega, rfl, by simp only [sA, Nat.reduceEqDiff, g2, g3, g4, g8, g9, g10], ((X2.trans' (X3'.weaken (by simp))).trans' (Ext.upd (.inl (by simp)))).trans' (Ext.upd (.inl (by simp))), ?_⟩⟩
   simp only [sA, gV3]
   rfl
 · obtain rfl : j = 8 := by omega
   have e1 : ¬ ((8 : Nat) : Int) < 8 := by omega
   rw [H0 hhA] at gV2
   have hBU := Ph hhA
   have q12 := hBU.at (i := 12) (by decide)
   have q13 := hBU.at (i := 13) (by decide)
   have q14 := hBU.at (i := 14) (by decide)
   simp only [sA, zb, zl, zm, Nat.reduceEqDiff, Cells.get, Nat.reduceAdd, allOne, ze, Nat.reduceLeDiff, DS.wrC, Cells.size, Cells.fillFrom, Cells.set, g2, g3, g4, g8, g9, g10, g12, e1, gV2, wV2, q12, q13, q14, hBU.1, zI, YW, ne_eq, VL, CZ, CY, CX, Nat.reduceLT]
   refine JN (K := fun e y => e = .normal ∧ y.defers = [] ∧ (y.t.get 4 = some (.pointer (some ⟨P, 0, none⟩)) ∧ y.t.get 8 = some (.pointer (some ⟨R, 0, none⟩)) ∧ y.t.get 9 = some (.pointer (some ⟨M, 0, none⟩)) ∧ y.t.get 10 = some (.pointer (some ⟨V, 0, none⟩))) ∧ Ext [V] s2 y.s ∧ y.s.get V = some (.cells (.list (v0F h tt last)) false)) ?_ ?_
   · cases last
     · simp only [sA, Nat.reduceEqDiff, g2, g3, g4, g8, g9, g10, gV2]
       exact ⟨(Ext.upd (.inl (by simp))).trans' (Ext.upd (.inl (by simp))), rfl⟩
     · simp only [sA, zb, zm, Nat.reduceEqDiff, Cells.get, Nat.reduceAdd, allOne, ze, Nat.reduceLeDiff, DS.wrC, Cells.size, Cells.fillFrom, Cells.set, g2, g3, g4, g8, g9, g10, gV2, wV2, q12, q13, q14, hBU.1, CZ, CY, CX, Nat.reduceLT, zI, YW, ne_eq, VL]
       exact ⟨((Ext.upd (.inl (by simp))).trans' (Ext.upd (.inl (by simp)))).trans' (Ext.upd (.inl (by simp))), rfl⟩
   · rintro e ⟨t7, s7, ds⟩ ⟨rfl, h7, ⟨g4, g8, g9, g10⟩, X7, g7⟩
     simp only at h7 g4 g8 g9 g10 X7 g7
     subst h7
     have XB := X2.trans' X7
     simp only [Qx]
     refine rw2 hR hm (Hi hhA tt last) hh (XB.good hG) (XB.keep gM (by simp; omega)) g7 (XB.wrs wV) (XB.keep gP (by simp; omega)) (XB.wrs wP) (XB.keep gR (by simp; omega)) (XB.wrs wR) n1 n2 n3 n4 g4 g8 g9 g10 ?_
     intro t' S' g8 X5 gR5
     exact hK t' S' g8 ((XB.weaken (by simp)).trans' X5) gR5
structure W0I (S : DS) (P R V M q o n0 c0 : Nat) (sp : Option Nat) (lq : List Value) (tt : Int) (last : Bool) (n : Nat) (z : St) : Prop where
 ex : ∃ j : Nat, n = 16 - j ∧ j ≤ 16 ∧ z.defers = [] ∧ (z.t.get 1 = some (.slice (some ⟨q, o, sp⟩) n0 c0) ∧ z.t.get 2 = some (.int .u64 tt) ∧ z.t.get 3 = some (.bool last) ∧ z.t.get 4 = some (.pointer (some ⟨P, 0, none⟩)) ∧ z.t.get 8 = some (.pointer (some ⟨R, 0, none⟩)) ∧ z.t.get 9 = some (.pointer (some ⟨M, 0, none⟩)) ∧ z.t.get 10 = some (.pointer (some ⟨V, 0, none⟩)) ∧ z.t.get 11 = some (.int .i64 (j : Int))) ∧
  Ext [M] S z.s ∧ z.s.get M = some (.cells (.list (mF lq o j)) false)
theorem DI {s : DS} {q o n0 c0 : Nat} {sp : Option Nat} {lq : List Value} {ro : Bool} {tt : Int} {last : Bool} (hG : s.Good) (hh : U .u32 8 h) (gq : s.get q = some (.cells (.list lq) ro)) (hq : UA .u8 o 64 lq) (hn0 : 64 ≤ n0) :
 W (dcall E (d + 3) (.func (.func 74) #[] #[]) [.agg ⟨h⟩, .slice (some ⟨q, o, sp⟩) n0 c0, .int .u64 tt, .bool last] s) fun r => r.1 = .agg ⟨Yj h lq o tt last⟩ ∧ Ext [] s r.2 := by
 have hlf := hR.lf
 have hql := DS.get_lt' gq
 refine zr fun Q hQ => ?_
 rw [zh hR.iwork (hR.fwork.trans (congrArg some MT)) rfl]
 simp (maxDischargeDepth := 8) only [sA, Nat.reduceAdd, pp, pv, Nat.add_assoc, HE, hG]
 obtain ⟨S, hS⟩ : ∃ S : DS, S = (((s.new (.cells (.list h) false)).new (.cells (.list (zq .u32 8)) false)).new (.cells (.list (zq .u32 16)) false)).new (.cells (.list (zq .u32 16)) false) := ⟨_, rfl⟩
 simp only [show [Value.int .u32 0, .int .u32 0, .int .u32 0, .int .u32 0, .int .u32 0, .int .u32 0, .int .u32 0, .int .u32 0, .int .u32 0, .int .u32 0, .int .u32 0, .int .u32 0, .int .u32 0, .int .u32 0, .int .u32 0, .int .u32 0] = zq .u32 16 from rfl]
 simp only [show [Value.int .u32 0, .int .u32 0, .int .u32 0, .int .u32 0, .int .u32 0, .int .u32 0, .int .u32 0, .int .u32 0] = zq .u32 8 from rfl]
 rw [← hS]
 have XS : Ext [] s S := by rw [hS]; exact Ext.new.trans' (Ext.new.trans' (Ext.new.trans' Ext.new))
 have hGS := XS.good hG
 have gP : S.get s.next = some (.cells (.list h) false) := by rw [hS]; simp (maxDischargeDepth := 8) only [sM, Nat.reduceAdd, zU, hG]
 have gR : S.get (s.next + 1) = some (.cells (.list (zq .u32 8)) false) := by rw [hS]; simp (maxDischargeDepth := 8) only [sM, Nat.reduceAdd, zU, Nat.reduceLT, hG]
 have gM : S.get (s.next + 2) = some (.cells (.list (zq .u32 16)) false) := by rw [hS]; simp (maxDischargeDepth := 8) only [sM, Nat.reduceAdd, zU, hG]
 have gV : S.get (s.next + 3) = some (.cells (.list (zq .u32 16)) false) := by rw [hS]; simp (maxDischargeDepth := 8) only [sM, Nat.reduceAdd, zU, hG]
 have wP : S.wr s.next = true := XS.wrs (hG _ (by omega)).2
 have wR : S.wr (s.next + 1) = true := XS.wrs (hG _ (by omega)).2
 have wM : S.wr (s.next + 2) = true := XS.wrs (hG _ (by omega)).2
 have wV : S.wr (s.next + 3) = true := XS.wrs (hG _ (by omega)).2
 have gqS := XS.keep gq (by simp)
 obtain ⟨P, hP⟩ : ∃ P, P = s.next := ⟨_, rfl⟩
 simp only [← hP] at gP gR gM gV wP wR wM wV ⊢
 clear hS
 refine zY (W0I S P (P + 1) (P + 3) (P + 2) q o n0 c0 sp lq tt last) 16 (by omega) ⟨0, rfl, by omega, rfl, by simp only [sA, Nat.reduceEqDiff]; rfl, .refl, gM⟩ ?_
 rintro n ⟨t, s2, ds⟩ hn ⟨j, rfl, hj, hds, ⟨g1, g2, g3, g4, g8, g9, g10, g11⟩, X2, gM2⟩
 simp only at hds g1 g2 g3 g4 g8 g9 g10 g11 X2 gM2
 subst hds
 have wM2 := X2.wrs wM
 have gq2 := X2.keep gqS (by simp; omega)
 have hmU := P4 lq o j
 by_cases c1 : j < 16
 · have e1 : (j : Int) < 16 := by omega
   have w1 : zf .i64 ((j : Int) + 1) = ((j + 1 : Nat) : Int) := by rw [zi (by omega) (by omega)]; omega
   have w4 : zf .i64 (4 * (j : Int)) = ((4 * j : Nat) : Int) := by rw [zi (by omega) (by omega)]; omega
   have wa : zf .i64 (((4 * j : Nat) : Int) + 1) = ((4 * j + 1 : Nat) : Int) := by rw [zi (by omega) (by omega)]; omega
   have wb : zf .i64 (((4 * j : Nat) : Int) + 2) = ((4 * j + 2 : Nat) : Int) := by rw [zi (by omega) (by omega)]; omega
   have wc : zf .i64 (((4 * j : Nat) : Int) + 3) = ((4 * j + 3 : Nat) : Int) := by rw [zi (by omega) (by omega)]; omega
   have c15 : j ≤ 15 := by omega
   have l0 : 4 * j < n0 := by omega
   have l1 : 4 * j + 1 < n0 := by omega
   have l2 : 4 * j + 2 < n0 := by omega
   have l3 : 4 * j + 3 < n0 := by omega
   have b0 := hq.at (i := 4 * j) (by omega)
   have b1 := hq.at (i := 4 * j + 1) (by omega)
   have b2 := hq.at (i := 4 * j + 2) (by omega)
   have b3 := hq.at (i := 4 * j + 3) (by omega)
   simp only [sA, zb, zl, zm, Nat.reduceEqDiff, Cells.get, allOne, ze, Nat.reduceLeDiff, DS.wrC, Cells.size, Cells.fillFrom, Cells.set, g1, g2, g3, g4, g8, g9, g10, g11, e1, w1, w4, wa, wb, wc, b0, b1, b2, b3, l0, l1, l2, l3, gM2, gq2, wM2, c1, hmU.1, Lb, Pv, Pu, c15]
   refine ⟨16 - (j + 1), by omega, ⟨j + 1, rfl, by omega, rfl, by simp only [sA, Nat.reduceEqDiff, g1, g2, g3, g4, g8, g9, g10], X2.trans' (Ext.upd (.inl (by simp))), ?_⟩⟩
   simp only [sA, gM2]
   rfl
 · obtain rfl : j = 16 := by omega
   have e1 : ¬ ((16 : Nat) : Int) < 16 := by omega
   simp only [sA, zl, zm, g1, g2, g3, g4, g8, g9, g10, g11, e1]
   refine rw1 hR (P := P) (R := P + 1) (V := P + 3) (M := P + 2) hmU hh (X2.good hGS) gM2 (X2.keep gV (by simp)) (X2.wrs wV) (X2.keep gP (by simp)) (X2.wrs wP) (X2.keep gR (by simp)) (X2.wrs wR) (by omega) (by omega) (by omega) (by omega) (tt := tt) (last := last) (by simp only [sA, Nat.reduceEqDiff, g2]) (by simp only [sA, Nat.reduceEqDiff, g3]) (by simp only [sA, Nat.reduceEqDiff, g4]) (by simp only [sA, Nat.reduceEqDiff, g8]) (by simp only [sA, Nat.reduceEqDiff, g9]) (by simp only [sA, Nat.reduceEqDiff, g10]) ?_
   intro t' S' g8 X5 gR5
   have hO : U .u32 8 (QF h (ZZ (mF lq o 16) (v0F h tt last) 10) 8) := by rw [← DB]; exact Mh hh 8
   have hrd : S'.read (P + 1) 0 8 = some (QF h (ZZ (mF lq o 16) (v0F h tt last) 10) 8) := by
    unfold DS.read
    simp only [gR5]
    rw [zQ _ _ _ (by rw [hO.1]; decide)]
    simp only [List.drop_zero]
    rw [List.take_of_length_le (by rw [hO.1]; exact Nat.le_refl _)]
   simp (maxDischargeDepth := 8) only [sA, zo, za, zd, g8, hrd]
   exact hQ _ ⟨rfl, (XS.trans X2 (by simp [hP])).trans X5 (by simp [hP])⟩
end
end Go.Dx.RpA
namespace Go.Dx.RpA
open Go Go.Dx Go.Proofs.YtffgmngdgkpflaaGreat
def cS3 : DCode := (.seq (.region [pp 8 (.alloc [.int .u8 0, .int .u8 0, .int .u8 0, .int .u8 0, .int .u8 0, .int .u8 0, .int .u8 0, .int .u8 0, .int .u8 0, .int .u8 0, .int .u8 0, .int .u8 0, .int .u8 0, .int .u8 0, .int .u8 0, .int .u8 0, .int .u8 0, .int .u8 0, .int .u8 0, .int .u8 0, .int .u8 0, .int .u8 0, .int .u8 0, .int .u8 0, .int .u8 0, .int .u8 0, .int .u8 0, .int .u8 0, .int .u8 0, .int .u8 0, .int .u8 0, .int .u8 0])]) (.seq (.seq (.region [pp 9 (.mv (.const (.int .i64 0)))]) (.block 4 (.loop (.seq (.seq (.region [pv 55 9, pp 56 (.bin .lss (tm 55) (.const (.int .i64 32)))]) (.cond (tm 56) (.skip) (.exit 4))) (.seq (.block 5 (.region [pv 59 9, pv 60 9, pp 61 (.bin .quo (tm 60) (.const (.int .i64 4))), pp 62 (.ixA 8 1 (tm 3) (tm 61)), pp 63 (.ld none (tm 62)), pv 64 9, pp 65 (.bin .rem (tm 64) (.const (.int .i64 4))), pp 66 (.bin .mul (.const (.int .i64 8)) (tm 65)), pp 67 (.bin .shr (tm 63) (tm 66)), pp 68 (.cvInt .u8 (tm 67)), pp 69 (.ixA 32 1 (tm 8) (tm 59)), ⟨none, .st 1 (tm 69) (tm 68), none, [], false⟩])) (.region [pv 57 9, pp 58 (.bin .add (tm 57) (.const (.int .i64 1))), pv 9 58])))))) (.seq (.region [pp 70 (.ld (some 32) (tm 8)), ⟨none, .st 32 (tm 2) (tm 70), none, [], false⟩]) (.ret))))
def cS2 : DCode := (.seq (.region [pp 40 (.bslice 0 1 [.int .u8 0] []), pv 41 0, pv 42 6, pp 43 (.slL 1 (tm 41) (some (tm 42)) none none), pp 44 (.bapp 1 1 (tm 40) (tm 43)), pv 45 5, pv 46 6, pp 47 (.bin .sub (tm 45) (tm 46)), pp 48 (.bin .sub (.const (.int .i64 64)) (tm 47)), pp 49 (.bappZ 1 [.int .u8 0] (tm 44) (tm 48)), pv 7 49]) (.seq (.region [pp 50 (.ld (some 8) (tm 3)), pv 51 7, pv 52 5, pp 53 (.cvInt .u64 (tm 52)), pp 54 (.call (.func 74) [.tmp 50, .tmp 51, .tmp 53, .const (.bool true)]), ⟨none, .st 8 (tm 3) (tm 54), none, [], false⟩]) cS3))
def cS1 : DCode := (.seq (.region [pv 22 0, pp 23 (.blenL (tm 22)), pv 5 23]) (.seq (.region [pp 6 (.mv (.const (.int .i64 0)))]) (.seq (.block 2 (.loop (.seq (.seq (.region [pv 24 5, pv 25 6, pp 26 (.bin .sub (tm 24) (tm 25)), pp 27 (.bin .gtr (tm 26) (.const (.int .i64 64)))]) (.cond (tm 27) (.skip) (.exit 2))) (.block 3 (.seq (.region [pp 28 (.ld (some 8) (tm 3)), pv 29 0, pv 30 6, pv 31 6, pp 32 (.bin .add (tm 31) (.const (.int .i64 64))), pp 33 (.slL 1 (tm 29) (some (tm 30)) (some (tm 32)) none), pv 34 6, pp 35 (.bin .add (tm 34) (.const (.int .i64 64))), pp 36 (.cvInt .u64 (tm 35)), pp 37 (.call (.func 74) [.tmp 28, .tmp 33, .tmp 36, .const (.bool false)]), ⟨none, .st 8 (tm 3) (tm 37), none, [], false⟩]) (.region [pv 38 6, pp 39 (.bin .add (tm 38) (.const (.int .i64 64))), pv 6 39])))))) cS2)))
def HG : zp := { ntmps := 71, results := [.cell 2 (some 32)], body := .seq (.region [pp 2 (.alloc [.int .u8 0, .int .u8 0, .int .u8 0, .int .u8 0, .int .u8 0, .int .u8 0, .int .u8 0, .int .u8 0, .int .u8 0, .int .u8 0, .int .u8 0, .int .u8 0, .int .u8 0, .int .u8 0, .int .u8 0, .int .u8 0, .int .u8 0, .int .u8 0, .int .u8 0, .int .u8 0, .int .u8 0, .int .u8 0, .int .u8 0, .int .u8 0, .int .u8 0, .int .u8 0, .int .u8 0, .int .u8 0, .int .u8 0, .int .u8 0, .int .u8 0, .int .u8 0])]) (.seq (.region [pp 3 (.alloc [.int .u32 0, .int .u32 0, .int .u32 0, .int .u32 0, .int .u32 0, .int .u32 0, .int .u32 0, .int .u32 0])]) (.seq (.seq (.region [pp 4 (.mv (.const (.int .i64 0)))]) (.block 0 (.loop (.seq (.seq (.region [pv 10 4, pp 11 (.bin .lss (tm 10) (.const (.int .i64 8)))]) (.cond (tm 11) (.skip) (.exit 0))) (.seq (.block 1 (.region [pv 14 4, pv 15 4, pp 16 (.call (.func 73) [.tmp 15]), pp 17 (.ixA 8 1 (tm 3) (tm 14)), ⟨none, .st 1 (tm 17) (tm 16), none, [], false⟩])) (.region [pv 12 4, pp 13 (.bin .add (tm 12) (.const (.int .i64 1))), pv 4 13])))))) (.seq (.region [pp 18 (.ixA 8 1 (tm 3) (.const (.int .i64 0))), pp 19 (.ld none (tm 18)), pp 20 (.bin .xor (tm 19) (.const (.int .u32 16842784))), pp 21 (.ixA 8 1 (tm 3) (.const (.int .i64 0))), ⟨none, .st 1 (tm 21) (tm 20), none, [], false⟩]) cS1))) }
theorem MU : d41 = HG := rfl
theorem H7 (k : Nat) (h : k < 32) (a : Int) : Zx .shr .u32 a ((k : Nat) : Int) = some (.int .u32 (QP k a)) := Hm h a
structure S3I (S : DS) (H T O : Nat) (w : List Value) (n : Nat) (z : St) : Prop where
 ex : ∃ i : Nat, n = 32 - i ∧ i ≤ 32 ∧ z.defers = [] ∧ (z.t.get 2 = some (.pointer (some ⟨T, 0, none⟩)) ∧ z.t.get 3 = some (.pointer (some ⟨H, 0, none⟩)) ∧ z.t.get 8 = some (.pointer (some ⟨O, 0, none⟩)) ∧ z.t.get 9 = some (.int .i64 (i : Int))) ∧
  Ext [O] S z.s ∧ z.s.get O = some (.cells (.list (F9 w i)) false)
section
variable {E : Env} (hR : Mf E) {S : DS} {d : Nat} {H T q : Nat} {w h : List Value} {bs : List Int} {sp : Option Nat} {t : PT Value} {KK : DExit → St → Prop}
include hR
theorem rs3 (hw : U .u32 8 w) (hG : S.Good) (gH : S.get H = some (.cells (.list w) false)) (gT : S.get T = some (.cells (.list (zq .u8 32)) false)) (wT : S.wr T = true)
 (t2 : t.get 2 = some (.pointer (some ⟨T, 0, none⟩))) (t3 : t.get 3 = some (.pointer (some ⟨H, 0, none⟩)))
 (hK : ∀ t' S', t'.get 2 = some (.pointer (some ⟨T, 0, none⟩)) → Ext [T] S S' → S'.get T = some (.cells (.list (W0 w 8)) false) → KK .ret ⟨t', S', []⟩) :
 WC (dcall E (d + 3)) E.lf false cS3 ⟨t, S, []⟩ KK := by
 have hlf := hR.lf
 have hHl := DS.get_lt' gH
 have hTl := DS.get_lt' gT
 simp only [sA, pp, pv, cS3]
 obtain ⟨S1, hS1⟩ : ∃ S1 : DS, S1 = S.new (.cells (.list (zq .u8 32)) false) := ⟨_, rfl⟩
 rw [show ([.int .u8 0, .int .u8 0, .int .u8 0, .int .u8 0, .int .u8 0, .int .u8 0, .int .u8 0, .int .u8 0, .int .u8 0, .int .u8 0, .int .u8 0, .int .u8 0, .int .u8 0, .int .u8 0, .int .u8 0, .int .u8 0, .int .u8 0, .int .u8 0, .int .u8 0, .int .u8 0, .int .u8 0, .int .u8 0, .int .u8 0, .int .u8 0, .int .u8 0, .int .u8 0, .int .u8 0, .int .u8 0, .int .u8 0, .int .u8 0, .int .u8 0, .int .u8 0] : List Value) = zq .u8 32 from rfl, ← hS1]
 have X1 : Ext [] S S1 := by rw [hS1]; exact Ext.new
 have gO1 : S1.get S.next = some (.cells (.list (zq .u8 32)) false) := by rw [hS1]; exact DS.new_get_self hG
 have wO1 : S1.wr S.next = true := X1.wrs (hG _ (Nat.le_refl _)).2
 clear hS1
 have gH1 := X1.keep gH (by simp)
 have gT1 := X1.keep gT (by simp)
 have wT1 := X1.wrs wT
 obtain ⟨O, hO⟩ : ∃ O, O = S.next := ⟨_, rfl⟩
 simp only [← hO] at gO1 wO1 hHl hTl ⊢
 refine zY (S3I S1 H T O w) 32 (by omega) ⟨0, rfl, by omega, rfl, by simp only [sA, Nat.reduceEqDiff, t2, t3]; rfl, .refl, gO1⟩ ?_
 rintro n ⟨t, s2, ds⟩ hn ⟨i, rfl, hi, hds, ⟨g2, g3, g8, g9⟩, X2, gO2⟩
 simp only at hds g2 g3 g8 g9 X2 gO2
 subst hds
 have gH2 := X2.keep gH1 (by simp; omega)
 have wO2 := X2.wrs wO1
 have hBU := PS w i
 by_cases c1 : i < 32
 · have e1 : (i : Int) < 32 := by omega
   have w1 : zf .i64 ((i : Int) + 1) = ((i + 1 : Nat) : Int) := by rw [zi (by omega) (by omega)]; omega
   have q0 : (i : Int).tdiv 4 = ((i / 4 : Nat) : Int) := rfl
   have q1 : zf .i64 ((i / 4 : Nat) : Int) = ((i / 4 : Nat) : Int) := zi (by omega) (by omega)
   have r0 : (i : Int).tmod 4 = ((i % 4 : Nat) : Int) := rfl
   have r1 : zf .i64 (8 * ((i % 4 : Nat) : Int)) = ((8 * (i % 4) : Nat) : Int) := by rw [zi (by omega) (by omega)]; omega
   have hg := hw.at (i := i / 4) (by omega)
   have l1 : i / 4 < 8 := by omega
   have l2 : i ≤ 31 := by omega
   have hsh := H7 (8 * (i % 4)) (by omega) (nAt w (i / 4))
   simp only [sA, zb, zl, zm, Nat.reduceEqDiff, Cells.get, allOne, ze, Nat.reduceLeDiff, DS.wrC, Cells.size, Cells.fillFrom, Cells.set, Int.reduceEq, g2, g3, g8, g9, e1, w1, q0, q1, r0, r1, gH2, hg, l1, l2, c1, hsh, gO2, wO2, hBU.1]
   refine ⟨32 - (i + 1), by omega, ⟨i + 1, rfl, by omega, rfl, by simp only [sA, Nat.reduceEqDiff, g2, g3, g8], X2.trans' (Ext.upd (.inl (by simp))), ?_⟩⟩
   simp only [sA, gO2]
   rfl
 · obtain rfl : i = 32 := by omega
   have e1 : ¬ ((32 : Nat) : Int) < 32 := by omega
   rw [PU w 8] at gO2
   have hO := Fr w 8
   have gT2 := X2.keep gT1 (by simp; omega)
   have wT2 := X2.wrs wT1
   have hld := R8 hO gO2
   have hfill := KO hO (Zi .u8 32)
   simp (maxDischargeDepth := 8) only [sA, zl, zm, DS.wrC, Cells.size, WF, Nat.reduceLT, g2, g3, g8, g9, e1, hld, gT2, wT2, hO.1, hO.allOne, hfill, (Zi .u8 32).1]
   refine hK _ _ (by simp only [sA, Nat.reduceEqDiff, g2]) (((X1.weaken (by simp)).trans X2 (by simp; omega)).trans' (Ext.upd (.inl (by simp)))) ?_
   rw [DS.upd_get_self, gT2]; rfl
theorem rs2 {n at' : Nat} (hh : U .u32 8 h) (hG : S.Good) (gH : S.get H = some (.cells (.list h) false)) (wH : S.wr H = true) (gT : S.get T = some (.cells (.list (zq .u8 32)) false)) (wT : S.wr T = true) (gq : S.get q = some (.cells (.list (u8s bs)) false)) (hsp : sp = none ∨ sp = some 1)
 (hHT : H ≠ T) (hn : n = bs.length) (hn2 : n ≤ 1048576) (ha1 : at' < n) (ha2 : n - at' ≤ 64)
 (t0 : t.get 0 = some (.slice (some ⟨q, 0, sp⟩) n n)) (t2 : t.get 2 = some (.pointer (some ⟨T, 0, none⟩))) (t3 : t.get 3 = some (.pointer (some ⟨H, 0, none⟩))) (t5 : t.get 5 = some (.int .i64 (n : Int))) (t6 : t.get 6 = some (.int .i64 (at' : Int)))
 (hK : ∀ t' S', t'.get 2 = some (.pointer (some ⟨T, 0, none⟩)) → Ext [H, T] S S' → S'.get T = some (.cells (.list (W0 (Yj h (u8s (bs.drop at') ++ zq .u8 (64 - (n - at'))) 0 (zf .u64 (n : Int)) true) 8)) false) → KK .ret ⟨t', S', []⟩) :
 WC (dcall E (d + 3)) E.lf false cS2 ⟨t, S, []⟩ KK := by
 have hlf := hR.lf
 have hql := DS.get_lt' gq
 have hHl := DS.get_lt' gH
 have hTl := DS.get_lt' gT
 have hsr : SlR S (.slice (some ⟨q, 0, sp⟩) n n) bs := by
  refine .inr ⟨q, 0, sp, n, by rw [hn], hsp, by omega, ?_⟩
  unfold DS.read
  rw [gq]
  have hl : (u8s bs).length = bs.length := List.length_map ..
  simp only
  rw [zQ _ _ _ (by rw [hl]; omega)]
  simp only [List.drop_zero]
  rw [List.take_of_length_le (by rw [hl]; exact Nat.le_refl _)]
 obtain ⟨w1, hw1, r1, b1⟩ := hsr.drop (i := at') (by omega)
 have hdl : (bs.drop at').length = n - at' := by rw [List.length_drop, hn]
 have v0 : zf .i64 ((n : Int) - (at' : Int)) = ((n - at' : Nat) : Int) := by rw [zi (by omega) (by omega)]; omega
 have v1 : zf .i64 (64 - ((n - at' : Nat) : Int)) = ((64 - (n - at') : Nat) : Int) := by rw [zi (by omega) (by omega)]; omega
 simp (maxDischargeDepth := 8) only [sA, sM, Nat.reduceLeDiff, zg, pp, pv, repeatZ, Nat.reduceLT, cS2, t0, t2, t3, t5, t6, hw1, hG]
 obtain ⟨S1, hS1⟩ : ∃ S1 : DS, S1 = S.new (.cells (.list []) false) := ⟨_, rfl⟩
 rw [← hS1]
 have X1 : Ext [] S S1 := by rw [hS1]; exact Ext.new
 have g1 : S1.get S.next = some (.cells (.list []) false) := by rw [hS1]; exact DS.new_get_self hG
 have hG1 := X1.good hG
 have n1 : S1.next = S.next + 1 := by rw [hS1]; rfl
 clear hS1
 have hlu : (u8s (bs.drop at')).length = n - at' := by unfold u8s; rw [List.length_map, hdl]
 have hv := (r1.keep X1 (by simp)).view
 have hfr := TT (bytes := 1) g1 hv (by rw [← YP]; exact ZK _) (by intro e; have := congrArg List.length e; rw [Yo, hlu] at this; simp at this; omega) (by rw [Yo, hlu]; omega) (by rw [Yo, hlu]; omega)
 rw [Yo, hlu, Yf] at hfr
 simp only [sA, zl, zm, Nat.reduceEqDiff, hfr, t0, t2, t3, t5, t6, v0, v1, Hd]
 obtain ⟨S2, hS2⟩ : ∃ S2 : DS, S2 = S1.new (.cells (.list (u8s (bs.drop at'))) false) := ⟨_, rfl⟩
 rw [← hS2]
 have X2 : Ext [] S1 S2 := by rw [hS2]; exact Ext.new
 have g2 : S2.get S1.next = some (.cells (.list (u8s (bs.drop at'))) false) := by rw [hS2]; exact DS.new_get_self hG1
 have hG2 := X2.good hG1
 have w2 : S2.wr S1.next = true := X2.wrs (hG1 _ (Nat.le_refl _)).2
 clear hS2
 have hU8 := DE (bs.drop at')
 refine W.mono (NW (n := 64 - (n - at')) g2 w2 hG2 hlu hU8.allOne ha2 (by omega)) ?_
 rintro ⟨v3, s3⟩ ⟨b', hv3, g3, X3⟩
 simp only at hv3 g3 X3
 rw [show n - at' + (64 - (n - at')) = 64 by omega] at hv3
 subst hv3
 have XA : Ext [] S s3 := (X1.trans' X2).trans X3 (by simp; omega)
 have hG3 := XA.good hG
 have gH3 := XA.keep gH (by simp)
 have hldH := R8 hh gH3
 have hNow : zf .u64 (n : Int) = zf .u64 (n : Int) := rfl
 simp (maxDischargeDepth := 8) only [sA, sM, zb, Nat.reduceLT, t2, t3, t5, t6, hldH]
 obtain ⟨lb, hlb⟩ : ∃ lb, lb = u8s (bs.drop at') ++ zq .u8 (64 - (n - at')) := ⟨_, rfl⟩
 rw [← hlb] at g3 hK
 have hlbU : UA .u8 0 64 lb := by
  have := (hU8.app (Zi .u8 (64 - (n - at')))).part (m := 64) (by rw [hdl]; omega)
  rwa [← hlb] at this
 refine W.mono (DI hR hG3 hh g3 hlbU (Nat.le_refl _)) ?_
 rintro ⟨v4, s4⟩ ⟨hv4, X4⟩
 simp only at hv4 X4
 subst hv4
 have hWU : U .u32 8 (Yj h lb 0 (zf .u64 (n : Int)) true) := (Vm (hh.part (Nat.le_refl _))).all (by rw [QG]; exact hh.1)
 have XB := XA.trans' X4
 have gH4 := XB.keep gH (by simp)
 have wH4 := XB.wrs wH
 have hfill := KO hWU hh
 simp (maxDischargeDepth := 8) only [sA, DS.wrC, Cells.size, WF, Nat.reduceLT, t2, t3, t5, t6, gH4, wH4, hWU.1, hWU.allOne, hfill, hh.1]
 have X5 : Ext [H] s4 (s4.upd H (.cells (.list (Yj h lb 0 (zf .u64 (n : Int)) true)) false)) := Ext.upd (.inl (by simp))
 refine rs3 hR hWU (X5.good (XB.good hG)) (by rw [DS.upd_get_self, gH4]; rfl) (X5.keep (XB.keep gT (by simp)) (by simp; omega)) (X5.wrs (XB.wrs wT)) (by simp only [sA, Nat.reduceEqDiff, t2]) (by simp only [sA, Nat.reduceEqDiff, t3]) ?_
 intro t' S' g2' X6 gT6
 exact hK t' S' g2' (((XB.weaken (by simp)).trans' (X5.weaken (by simp))).trans' (X6.weaken (by simp))) gT6
omit hR in
theorem H6 {n i : Nat} (hi : i + 64 ≤ n) (hsp : sp = none ∨ sp = some 1) : slV 1 (.slice (some ⟨q, 0, sp⟩) n n) (some (.int .i64 (i : Int))) (some (.int .i64 ((i + 64 : Nat) : Int))) none = some (.slice (some ⟨q, i, sp⟩) 64 (n - i)) := by
 have e : i + 64 - i = 64 := by omega
 unfold slV Zy
 simp only [Zz, Nat.ble_eq.mpr hi, Nat.ble_eq.mpr (show i ≤ i + 64 by omega), if_true, Option.isSome_none, e]
 rcases hsp with rfl | rfl
 · simp only [sA, ZU, Nat.add_sub_cancel_left]
 · simp only [sA, ZU, Nat.beq_refl, Nat.add_sub_cancel_left]
structure S1I (S : DS) (H T q n : Nat) (sp : Option Nat) (bs : List Int) (m : Nat) (z : St) : Prop where
 ex : ∃ k : Nat, m = (n - 1) / 64 - k ∧ k ≤ (n - 1) / 64 ∧ z.defers = [] ∧ (z.t.get 0 = some (.slice (some ⟨q, 0, sp⟩) n n) ∧ z.t.get 2 = some (.pointer (some ⟨T, 0, none⟩)) ∧ z.t.get 3 = some (.pointer (some ⟨H, 0, none⟩)) ∧ z.t.get 5 = some (.int .i64 (n : Int)) ∧ z.t.get 6 = some (.int .i64 ((64 * k : Nat) : Int))) ∧
  Ext [H] S z.s ∧ z.s.get H = some (.cells (.list (hAt bs k)) false)
theorem rs1 {n : Nat} (hG : S.Good) (gH : S.get H = some (.cells (.list rh0) false)) (wH : S.wr H = true) (gT : S.get T = some (.cells (.list (zq .u8 32)) false)) (wT : S.wr T = true) (gq : S.get q = some (.cells (.list (u8s bs)) false)) (hsp : sp = none ∨ sp = some 1)
 (hHT : H ≠ T) (hqH : q ≠ H) (hn : n = bs.length) (hn2 : n ≤ 500000) (h0 : 0 < n)
 (t0 : t.get 0 = some (.slice (some ⟨q, 0, sp⟩) n n)) (t2 : t.get 2 = some (.pointer (some ⟨T, 0, none⟩))) (t3 : t.get 3 = some (.pointer (some ⟨H, 0, none⟩)))
 (hK : ∀ t' S', t'.get 2 = some (.pointer (some ⟨T, 0, none⟩)) → Ext [H, T] S S' → S'.get T = some (.cells (.list (W0 (rsF bs) 8)) false) → KK .ret ⟨t', S', []⟩) :
 WC (dcall E (d + 3)) E.lf false cS1 ⟨t, S, []⟩ KK := by
 have hlf := hR.lf
 have hul : (u8s bs).length = n := by rw [hn]; exact List.length_map ..
 simp only [sA, zb, pp, pv, cS1, t0]
 refine zY (S1I S H T q n sp bs) ((n - 1) / 64) (by omega) ⟨0, rfl, by omega, rfl, by simp only [sA, Nat.reduceEqDiff, reduceCtorEq, Nat.reduceMul, t0, t2, t3]; rfl, .refl, gH⟩ ?_
 rintro m ⟨t, s2, ds⟩ hm ⟨k, rfl, hk, hds, ⟨g0, g2, g3, g5, g6⟩, X2, gH2⟩
 simp only at hds g0 g2 g3 g5 g6 X2 gH2
 subst hds
 have hG2 := X2.good hG
 have gq2 := X2.keep gq (by simp; omega)
 have wH2 := X2.wrs wH
 have hhU := Sz bs k
 have v0 : zf .i64 ((n : Int) - ((64 * k : Nat) : Int)) = ((n - 64 * k : Nat) : Int) := by rw [zi (by omega) (by omega)]; omega
 by_cases c1 : 64 < n - 64 * k
 · have e1 : (64 : Int) < ((n - 64 * k : Nat) : Int) := by omega
   have v1 : zf .i64 (((64 * k : Nat) : Int) + 64) = ((64 * k + 64 : Nat) : Int) := by rw [zi (by omega) (by omega)]; omega
   have hsl := H6 (q := q) (sp := sp) (n := n) (i := 64 * k) (by omega) hsp
   have hld := R8 hhU gH2
   simp (maxDischargeDepth := 8) only [sA, sM, zb, zl, zm, Nat.reduceLT, g0, g2, g3, g5, g6, v0, e1, v1, hld, hsl]
   have hbU : UA .u8 (64 * k) 64 (u8s bs) := by
    have := DE bs
    refine ⟨by rw [hul]; omega, fun i hi => this.2 _ (by omega)⟩
   refine W.mono (DI hR hG2 hhU gq2 hbU (Nat.le_refl _)) ?_
   rintro ⟨v4, s4⟩ ⟨hv4, X4⟩
   simp only at hv4 X4
   subst hv4
   have hWU := Sz bs (k + 1)
   rw [show Yj (hAt bs k) (u8s bs) (64 * k) (zf .u64 ((64 * k + 64 : Nat) : Int)) false = hAt bs (k + 1) from rfl]
   have gH4 := X4.keep gH2 (by simp)
   have wH4 := X4.wrs wH2
   have hfill := KO hWU hhU
   simp (maxDischargeDepth := 8) only [sA, zl, zm, DS.wrC, Cells.size, WF, Nat.reduceLT, g0, g2, g3, g5, g6, v1, gH4, wH4, hWU.1, hWU.allOne, hfill, hhU.1]
   refine ⟨(n - 1) / 64 - (k + 1), by omega, ⟨k + 1, rfl, by omega, rfl, by simp only [sA, Nat.reduceEqDiff, reduceCtorEq, g0, g2, g3, g5]; rfl, (X2.trans' (X4.weaken (by simp))).trans' (Ext.upd (.inl (by simp))), ?_⟩⟩
   show (DS.upd _ _ _).get H = _
   rw [DS.upd_get_self, gH4]; rfl
 · have hk2 : k = (n - 1) / 64 := by omega
   have e1 : ¬ (64 : Int) < ((n - 64 * k : Nat) : Int) := by omega
   simp only [sA, zl, zm, Nat.reduceEqDiff, g0, g2, g3, g5, g6, v0, e1]
   refine rs2 hR hhU hG2 gH2 wH2 (X2.keep gT (by simp; omega)) (X2.wrs wT) gq2 hsp hHT hn (by omega) (at' := 64 * k) (by omega) (by omega) (by simp only [sA, reduceCtorEq, g0]) (by simp only [sA, Nat.reduceEqDiff, g2]) (by simp only [sA, Nat.reduceEqDiff, g3]) (by simp only [sA, Nat.reduceEqDiff, g5]) (by simp only [sA, Nat.reduceEqDiff, g6]) ?_
   intro t' S' g2' X5 gT5
   refine hK t' S' g2' ((X2.weaken (by simp)).trans' X5) ?_
   rw [gT5]
   unfold rsF Nc
   rw [← hn, ← hk2]
structure S0I (S : DS) (H T q n : Nat) (sp : Option Nat) (m : Nat) (z : St) : Prop where
 ex : ∃ j : Nat, m = 8 - j ∧ j ≤ 8 ∧ z.defers = [] ∧ (z.t.get 0 = some (.slice (some ⟨q, 0, sp⟩) n n) ∧ z.t.get 2 = some (.pointer (some ⟨T, 0, none⟩)) ∧ z.t.get 3 = some (.pointer (some ⟨H, 0, none⟩)) ∧ z.t.get 4 = some (.int .i64 (j : Int))) ∧
  Ext [H] S z.s ∧ z.s.get H = some (.cells (.list (siF j)) false)
theorem HZ {s : DS} {v : Value} (hG : s.Good) (hx : SlX s 1 v (zC bs)) (h0 : bs ≠ []) (hn2 : bs.length ≤ 500000) :
 W (dcall E (d + 4) (.func (.func 41) #[] #[]) [v] s) fun r => r.1 = .agg ⟨W0 (rsF bs) 8⟩ ∧ Ext [] s r.2 := by
 have hlf := hR.lf
 obtain ⟨q, sp, hv, hsp, gq, wq⟩ := hx.at (fun e => h0 (by have := congrArg List.length e; rw [zt] at this; exact List.eq_nil_of_length_eq_zero this))
 rw [zt] at hv
 rw [YP, Yf] at gq
 subst hv
 have hql := DS.get_lt' gq
 obtain ⟨n, hn⟩ : ∃ n, n = bs.length := ⟨_, rfl⟩
 rw [← hn]
 have hn0 : 0 < n := by rw [hn]; exact List.length_pos_iff.2 h0
 refine zr fun Q hQ => ?_
 rw [zh hR.isum (hR.fsum.trans (congrArg some MU)) rfl]
 simp (maxDischargeDepth := 8) only [sA, pp, pv, HG, hG]
 obtain ⟨S, hS⟩ : ∃ S : DS, S = (s.new (.cells (.list (zq .u8 32)) false)).new (.cells (.list (zq .u32 8)) false) := ⟨_, rfl⟩
 simp only [show [Value.int .u8 0, .int .u8 0, .int .u8 0, .int .u8 0, .int .u8 0, .int .u8 0, .int .u8 0, .int .u8 0, .int .u8 0, .int .u8 0, .int .u8 0, .int .u8 0, .int .u8 0, .int .u8 0, .int .u8 0, .int .u8 0, .int .u8 0, .int .u8 0, .int .u8 0, .int .u8 0, .int .u8 0, .int .u8 0, .int .u8 0, .int .u8 0, .int .u8 0, .int .u8 0, .int .u8 0, .int .u8 0, .int .u8 0, .int .u8 0, .int .u8 0, .int .u8 0] = zq .u8 32 from rfl, show [Value.int .u32 0, .int .u32 0, .int .u32 0, .int .u32 0, .int .u32 0, .int .u32 0, .int .u32 0, .int .u32 0] = zq .u32 8 from rfl, ← hS]
 have XS : Ext [] s S := by rw [hS]; exact Ext.new.trans' Ext.new
 have hGS := XS.good hG
 have gT : S.get s.next = some (.cells (.list (zq .u8 32)) false) := by rw [hS]; simp (maxDischargeDepth := 8) only [sM, zU, hG]
 have gH : S.get (s.next + 1) = some (.cells (.list (zq .u32 8)) false) := by rw [hS]; simp (maxDischargeDepth := 8) only [sM, zU, hG]
 have wT : S.wr s.next = true := XS.wrs (hG _ (by omega)).2
 have wH : S.wr (s.next + 1) = true := XS.wrs (hG _ (by omega)).2
 have gqS := XS.keep gq (by simp)
 obtain ⟨T, hT⟩ : ∃ T, T = s.next := ⟨_, rfl⟩
 simp only [← hT] at gT gH wT wH hql ⊢
 clear hS
 refine zY (S0I S (T + 1) T q n sp) 8 (by omega) ⟨0, rfl, by omega, rfl, by simp only [sA, Nat.reduceEqDiff, reduceCtorEq]; rfl, .refl, gH⟩ ?_
 rintro m ⟨t, s2, ds⟩ hm ⟨j, rfl, hj, hds, ⟨g0, g2, g3, g4⟩, X2, gH2⟩
 simp only at hds g0 g2 g3 g4 X2 gH2
 subst hds
 have hG2 := X2.good hGS
 have wH2 := X2.wrs wH
 have hsU := LJ j
 by_cases c1 : j < 8
 · have e1 : (j : Int) < 8 := by omega
   have w1 : zf .i64 ((j : Int) + 1) = ((j + 1 : Nat) : Int) := by rw [zi (by omega) (by omega)]; omega
   have l1 : j ≤ 7 := by omega
   simp only [sA, zl, zm, Nat.reduceEqDiff, g0, g2, g3, g4, e1]
   refine W.mono (DH hR (d := d + 1) hG2 c1) ?_
   rintro ⟨v3, s3⟩ ⟨h3, X3⟩
   simp only at h3 X3
   subst h3
   have gH3 := X3.keep gH2 (by simp)
   have wH3 := X3.wrs wH2
   simp only [sA, zb, zl, zm, Nat.reduceEqDiff, allOne, ze, Nat.reduceLeDiff, DS.wrC, Cells.size, Cells.fillFrom, Cells.set, g0, g2, g3, g4, w1, gH3, wH3, l1, c1, hsU.1]
   refine ⟨8 - (j + 1), by omega, ⟨j + 1, rfl, by omega, rfl, by simp only [sA, Nat.reduceEqDiff, reduceCtorEq, g0, g2, g3], (X2.trans' (X3.weaken (by simp))).trans' (Ext.upd (.inl (by simp))), ?_⟩⟩
   simp only [sA, gH3]
   rfl
 · obtain rfl : j = 8 := by omega
   have e1 : ¬ ((8 : Nat) : Int) < 8 := by omega
   have q0 : getN (siF 8) 0 = some (.int .u32 1779033703) := rfl
   simp only [sA, zb, zl, zm, Nat.reduceEqDiff, Cells.get, allOne, ze, Nat.reduceLeDiff, DS.wrC, Cells.size, Cells.fillFrom, Cells.set, g0, g2, g3, g4, e1, gH2, wH2, q0, hsU.1, MZ, Nat.reduceLT]
   have X5 : ∀ ob, Ext [T + 1] s2 (s2.upd (T + 1) ob) := fun ob => Ext.upd (.inl (by simp))
   refine rs1 hR (H := T + 1) (T := T) (q := q) (sp := sp) (n := n) (bs := bs) ((X5 _).good hG2) (by rw [DS.upd_get_self, gH2]; rfl) (by rw [DS.upd_wr]; exact wH2) ((X5 _).keep (X2.keep gT (by simp)) (by simp)) (by rw [DS.upd_wr]; exact X2.wrs wT) ((X5 _).keep (X2.keep gqS (by simp; omega)) (by simp; omega)) hsp (by omega) (by omega) hn (by omega) hn0 (by simp only [sA, reduceCtorEq, g0]) (by simp only [sA, Nat.reduceEqDiff, g2]) (by simp only [sA, Nat.reduceEqDiff, g3]) ?_
   intro t' S' g2' X6 gT6
   have hOU := Fr (rsF bs) 8
   have hrd : S'.read T 0 32 = some (W0 (rsF bs) 8) := by
    unfold DS.read
    simp only [gT6]
    rw [zQ _ _ _ (by rw [hOU.1]; decide)]
    simp only [List.drop_zero]
    rw [List.take_of_length_le (by rw [hOU.1]; exact Nat.le_refl _)]
   simp (maxDischargeDepth := 8) only [sA, zo, za, zd, g2', hrd]
   exact hQ _ ⟨rfl, ((XS.trans X2 (by simp [hT])).trans (X5 _) (by simp [hT])).trans X6 (by simp [hT])⟩
end
end Go.Dx.RpA
