/- A part. -/
import Derived.Test.YtnmajohhfcgddaaS1Ga
import Derived.Test.YtnmajohhfcgddaaS1Wi
import Derived.Test.YtnmajohhfcgddaaS1Ha
import Derived.Test.YtnmajohhfcgddaaS1Ia
import Derived.Test.YtnmajohhfcgddaaDxFv
import Derived.Test.YtnmajohhfcgddaaDxTopM
set_option linter.unusedVariables false
set_option linter.unusedSimpArgs false
set_option linter.unusedSectionVars false
set_option maxRecDepth 100000
set_option maxHeartbeats 8000000
namespace Go.Dx.StA
open Go Go.Dx Go.Dx.Search Go.Dx.St Go.Proofs.Ytnmajohhfcgddaa
def DB : DCode := (.seq (.region [⟨some 206, .mv (tm 7), none, [], true⟩, ⟨some 207, .eq false (.one .ptr) (tm 206) (.const (.pointer none)), none, [], true⟩, ⟨some 208, .mv (tm 207), none, [], true⟩, ⟨some 209, .mv (tm 5), some (208, false), [], true⟩, ⟨some 212, .mv (tm 7), some (208, false), [], true⟩, ⟨some 210, .call (.func 18) [.tmp 209], some (208, false), [], true⟩, ⟨some 211, .cvToStr (tm 210), some (208, false), [], true⟩, ⟨some 213, .call (.func 31) [.tmp 212], some (208, false), [6], true⟩, ⟨some 214, .cvToStr (tm 213), some (208, false), [], true⟩, ⟨some 215, .bin .eql (tm 211) (tm 214), some (208, false), [], true⟩, ⟨some 216, .mv (tm 215), some (208, false), [], true⟩, ⟨some 217, .mv (tm 5), some (216, true), [], true⟩, ⟨some 219, .mv (tm 7), some (216, true), [], true⟩, ⟨some 218, .call (.func 20) [.tmp 217], some (216, true), [], true⟩, ⟨some 220, .call (.func 32) [.tmp 219], some (216, true), [], true⟩, ⟨some 221, .eq false (.arr 32 1 (.one .int)) (tm 218) (tm 220), some (216, true), [], true⟩, ⟨some 222, .pick (tm 216) (tm 221) (.const (.bool false)), some (208, false), [], true⟩, ⟨some 223, .pick (tm 208) (.const (.bool true)) (tm 222), none, [], true⟩, ⟨some 4, .mv (tm 223), none, [], true⟩]) (.ret))
def SF : DCode := (.seq (.region [pv 124 5, pp 125 (.fadr 1 (tm 10)), pp 126 (.ld none (tm 125)), pp 127 (.call (.func 21) [.tmp 124, .tmp 126]), pv 123 127, pp 128 (.ext (tm 123) 0), pp 129 (.ext (tm 123) 1), pv 15 128, pv 16 129]) (.seq (.region [pv 131 7, pp 132 (.fadr 1 (tm 10)), pp 133 (.ld none (tm 132)), pp 134 (.call (.func 28) [.tmp 131, .tmp 133]), pv 130 134, pp 135 (.ext (tm 130) 0), pp 136 (.ext (tm 130) 1), pv 17 135, pv 18 136]) (.seq (.region [pv 138 5, pp 139 (.fadr 2 (tm 10)), pp 140 (.ld none (tm 139)), pp 141 (.call (.func 13) [.tmp 138, .tmp 140]), pv 137 141, pp 142 (.ext (tm 137) 0), pp 143 (.ext (tm 137) 1), pp 144 (.ext (tm 137) 2), pv 19 142, pv 20 143, pv 21 144]) (.seq (.region [pv 146 7, pp 147 (.fadr 2 (tm 10)), pp 148 (.ld none (tm 147)), pp 149 (.call (.func 29) [.tmp 146, .tmp 148]), pv 145 149, pp 150 (.ext (tm 145) 0), pp 151 (.ext (tm 145) 1), pp 152 (.ext (tm 145) 2), pv 22 150, pv 23 151, pv 24 152]) (.seq (.region [pv 153 11, pp 154 (.un .not (tm 153)), pv 155 154, pw 156 15 155 false, pw 157 17 155 false, pg 158 (.bin .neq (tm 156) (tm 157)) 155 false, pp 159 (.pick (tm 155) (.const (.bool true)) (tm 158)), pv 160 159, pw 161 16 160 false, pw 162 18 160 false, pg 163 (.eq true (.one .bool) (tm 161) (tm 162)) 160 false, pp 164 (.pick (tm 160) (.const (.bool true)) (tm 163)), pv 165 164, pw 166 19 165 false, pw 167 22 165 false, pg 168 (.bin .neq (tm 166) (tm 167)) 165 false, pp 169 (.pick (tm 165) (.const (.bool true)) (tm 168)), pv 170 169, pw 171 20 170 false, pw 172 23 170 false, pg 173 (.bin .neq (tm 171) (tm 172)) 170 false, pp 174 (.pick (tm 170) (.const (.bool true)) (tm 173)), pv 175 174, pw 176 21 175 false, pw 177 24 175 false, pg 178 (.eq true (.one .bool) (tm 176) (tm 177)) 175 false, pp 179 (.pick (tm 175) (.const (.bool true)) (tm 178)), pv 180 179, pw 181 5 180 false, pw 182 7 180 false, pg 183 (.call (.func 17) [.tmp 181, .tmp 182]) 180 false, pg 184 (.un .not (tm 183)) 180 false, pp 185 (.pick (tm 180) (.const (.bool true)) (tm 184)), pv 186 185, pw 187 5 186 false, pw 188 7 186 false, pg 189 (.fadr 1 (tm 10)) 186 false, pg 190 (.ld none (tm 189)) 186 false, pg 191 (.fadr 2 (tm 10)) 186 false, pg 192 (.ld none (tm 191)) 186 false, pg 193 (.call (.func 30) [.tmp 187, .tmp 188, .tmp 190, .tmp 192, .const (.int .i64 (-1))]) 186 false, pg 194 (.un .not (tm 193)) 186 false, pp 195 (.pick (tm 186) (.const (.bool true)) (tm 194)), pv 196 195, pw 197 5 196 false, pw 198 7 196 false, pg 199 (.fadr 2 (tm 10)) 196 false, pg 200 (.ld none (tm 199)) 196 false, pg 201 (.fadr 1 (tm 10)) 196 false, pg 202 (.ld none (tm 201)) 196 false, pg 203 (.call (.func 30) [.tmp 197, .tmp 198, .tmp 200, .tmp 202, .const (.int .i64 1)]) 196 false, pg 204 (.un .not (tm 203)) 196 false, pp 205 (.pick (tm 196) (.const (.bool true)) (tm 204))]) (.cond (tm 205) (.seq (.region [pp 4 (.mv (.const (.bool false)))]) (.ret)) (.skip)))))))
def d8x : Zc := { ntmps := 224, results := [.tmp 4], body := .seq (.region [pp 4 (.mv (.const (.bool false)))]) (.seq (.region [pv 26 0, pp 27 (.call (.func 9) [.tmp 26]), pv 25 27, pp 28 (.ext (tm 25) 0), pp 29 (.ext (tm 25) 1), pv 5 28, pv 6 29]) (.seq (.region [pv 31 0, pp 32 (.call (.func 25) [.tmp 31]), pv 30 32, pp 33 (.ext (tm 30) 0), pp 34 (.ext (tm 30) 1), pv 7 33, pv 8 34]) (.seq (.seq (.region [pp 35 (.call (.func 10) []), pp 36 (.un .not (tm 35)), pv 37 36, pw 38 6 37 false, pw 39 8 37 false, pg 40 (.bin .neq (tm 38) (tm 39)) 37 false, pp 41 (.pick (tm 37) (.const (.bool true)) (tm 40)), pv 42 41, pw 43 5 42 false, pg 44 (.eq false (.one .ptr) (tm 43) (.const (.pointer none))) 42 false, pw 45 7 42 false, pg 46 (.eq false (.one .ptr) (tm 45) (.const (.pointer none))) 42 false, pg 47 (.eq true (.one .bool) (tm 44) (tm 46)) 42 false, pp 48 (.pick (tm 42) (.const (.bool true)) (tm 47))]) (.cond (tm 48) (.seq (.region [pp 4 (.mv (.const (.bool false)))]) (.ret)) (.skip))) (.seq (.seq (.region [pp 9 (.mv (.const (.int .i64 0)))]) (.block 0 (.loop (.seq (.seq (.region [pv 49 9, pv 50 1, pp 51 (.blenL (tm 50)), pp 52 (.bin .lss (tm 49) (tm 51)), pv 53 52, pw 54 7 53 true, pg 55 (.eq true (.one .ptr) (tm 54) (.const (.pointer none))) 53 true, pp 56 (.pick (tm 53) (tm 55) (.const (.bool false)))]) (.cond (tm 56) (.skip) (.exit 0))) (.seq (.block 1 (.seq (.region [pv 59 1, pv 60 9, pp 61 (.ixL 3 (tm 59) (tm 60)), pp 62 (.ld (some 3) (tm 61)), pp 10 (.alloc [.int .i64 0, .int .i64 0, .int .i64 0]), ⟨none, .st 3 (tm 10) (tm 62), none, [], false⟩]) (.seq (.region [pp 11 (.mv (.const (.bool true)))]) (.seq (.seq (.region [pp 63 (.fadr 0 (tm 10)), pp 64 (.ld none (tm 63))]) (.block 2 (.seq (.region [pp 66 (.bin .eql (tm 64) (.const (.int .i64 1))), pv 65 66]) (.cond (tm 65) (.region [⟨some 67, .mv (tm 5), none, [], true⟩, ⟨some 68, .fadr 1 (tm 10), none, [], true⟩, ⟨some 69, .ld none (tm 68), none, [], true⟩, ⟨some 70, .fadr 2 (tm 10), none, [], true⟩, ⟨some 71, .ld none (tm 70), none, [], true⟩, ⟨some 73, .mv (tm 7), none, [], true⟩, ⟨some 74, .fadr 1 (tm 10), none, [], true⟩, ⟨some 75, .ld none (tm 74), none, [], true⟩, ⟨some 76, .fadr 2 (tm 10), none, [], true⟩, ⟨some 77, .ld none (tm 76), none, [], true⟩, ⟨some 72, .call (.func 11) [.tmp 67, .tmp 69, .tmp 71], none, [7, 9], true⟩, ⟨some 78, .call (.func 26) [.tmp 73, .tmp 75, .tmp 77], none, [], true⟩, ⟨some 79, .bin .eql (tm 72) (tm 78), none, [], true⟩, ⟨some 11, .mv (tm 79), none, [], true⟩]) (.seq (.region [pp 81 (.bin .eql (tm 64) (.const (.int .i64 2))), pv 80 81]) (.cond (tm 80) (.region [⟨some 82, .mv (tm 5), none, [], true⟩, ⟨some 83, .fadr 1 (tm 10), none, [], true⟩, ⟨some 84, .ld none (tm 83), none, [], true⟩, ⟨some 86, .mv (tm 7), none, [], true⟩, ⟨some 87, .fadr 1 (tm 10), none, [], true⟩, ⟨some 88, .ld none (tm 87), none, [], true⟩, ⟨some 85, .call (.func 19) [.tmp 82, .tmp 84], none, [5], true⟩, ⟨some 89, .call (.func 27) [.tmp 86, .tmp 88], none, [], true⟩, ⟨some 90, .eq false (.one .bool) (tm 85) (tm 89), none, [], true⟩, ⟨some 11, .mv (tm 90), none, [], true⟩]) (.seq (.region [pp 92 (.bin .eql (tm 64) (.const (.int .i64 3))), pv 91 92]) (.cond (tm 91) (.seq (.region [pv 93 5, pp 94 (.call (.func 24) [.tmp 93]), pv 12 94]) (.seq (.seq (.region [pv 95 12, pp 96 (.eq false (.one .ptr) (tm 95) (.const (.pointer none)))]) (.cond (tm 96) (.seq (.region [pp 4 (.mv (.const (.bool false)))]) (.ret)) (.skip))) (.seq (.region [pv 97 5, pp 98 (.fadr 1 (tm 10)), pp 99 (.ld none (tm 98)), pp 100 (.fadr 2 (tm 10)), pp 101 (.ld none (tm 100)), pp 102 (.call (.func 11) [.tmp 97, .tmp 99, .tmp 101])]) (.seq (.region [pv 103 5, pp 104 (.fadr 2 (tm 10)), pp 105 (.ld none (tm 104)), pp 106 (.call (.func 19) [.tmp 103, .tmp 105])]) (.region [pv 107 12, pv 5 107]))))) (.seq (.region [pp 109 (.bin .eql (tm 64) (.const (.int .i64 4))), pv 108 109]) (.cond (tm 108) (.seq (.region [pv 111 5, pp 112 (.call (.func 18) [.tmp 111]), pp 113 (.call (.func 15) [.tmp 112]), pv 110 113, pp 114 (.ext (tm 110) 0), pp 115 (.ext (tm 110) 1), pv 13 114, pv 14 115]) (.seq (.seq (.region [pv 116 14, pp 117 (.bin .neq (tm 116) (.const (.int .i64 0))), pv 118 117, pw 119 13 118 false, pg 120 (.eq false (.one .ptr) (tm 119) (.const (.pointer none))) 118 false, pp 121 (.pick (tm 118) (.const (.bool true)) (tm 120))]) (.cond (tm 121) (.seq (.region [pp 4 (.mv (.const (.bool false)))]) (.ret)) (.skip))) (.region [pv 122 13, pv 5 122]))) (.skip))))))))))) SF)))) (.region [pv 57 9, pp 58 (.bin .add (tm 57) (.const (.int .i64 1))), pv 9 58])))))) DB)))) }
theorem MZ : d8 = d8x := rfl
theorem SM {L : List Ent} {k v room : Int} (hr : XZ L) (hl : (L.length : Int) ≤ room) (h : Cd L) (hk : I64 k) (hv : I64 v) : XZ (Jl k v L room) ∧ ((Jl k v L room).length : Int) ≤ room ∧ Cd (Jl k v L room) := by
 unfold Jl
 split
 · rename_i hi
   exact ⟨Q5 hr _ _, by rw [St.put_len, if_pos hi]; exact hl, C6 h ⟨hk, hv⟩⟩
 · split
   · exact ⟨hr, hl, h⟩
   · rename_i hi hf
     exact ⟨Q5 hr _ _, by rw [St.put_len, if_neg hi]; omega, C6 h ⟨hk, hv⟩⟩
theorem SlX.toR {s : DS} {v : Value} {l : List Int} (h : SlX s 1 v (ZZ l)) : SlR s v l := by
 rcases h with ⟨rfl, h0⟩ | ⟨b, sp, rfl, h1, h2, h3⟩
 · exact .inl ⟨rfl, by simpa [ZZ] using h0⟩
 · refine .inr ⟨b, 0, sp, (ZZ l).length, by rw [Zp], h1, by rw [Zp]; exact Nat.le_refl _, ?_⟩
   unfold DS.read
   rw [h2]
   show (Cells.list (ZZ l).flatten).take 0 l.length = some (u8s l)
   rw [QT, XH]
   refine JR (List.length_map ..) fun i hi => ?_
   rw [Nat.zero_add]
   show getN (u8s l) i = _
   rw [Zs]
theorem KX.keep {s s' : DS} {F : List Nat} {v : Value} {l : List (List Value)} (h : KX s v l) (e : Ext F s s') (hF : ∀ k, k ∈ F → ∀ c, s.get k ≠ some (.cells c true)) : KX s' v l := by
 rcases h with h | ⟨b, c, h1, h2⟩
 · exact .inl h
 · exact .inr ⟨b, c, h1, e.keep h2 fun hb => hF b hb _ h2⟩
def NF (x : List Value) : Int := TO (getN x 1)
def NE (x : List Value) : Int := TO (getN x 2)
theorem VS : ∀ r : List Int, Ww (u8s r) = some (r.map fun n => UInt8.ofNat n.toNat)
 | [] => rfl
 | n :: r => by
  show (match Ww (u8s r) with | some l => some (UInt8.ofNat n.toNat :: l) | none => none) = _
  rw [VS r]; rfl
theorem FY (l : List UInt8) : WG l l = true := by rw [WZ]; exact beq_self_eq_true l
theorem TY (bs : List Int) : Ry .eql ⟨⟨bs.map fun n => UInt8.ofNat n.toNat⟩⟩ ⟨⟨bs.map fun n => UInt8.ofNat n.toNat⟩⟩ = some (.bool true) := by
 show some (Value.bool (WG _ _)) = _
 rw [FY]
theorem Gz : ∀ (n f : Nat) (l : List Value), (∀ x, x ∈ l → ∃ a, x = .int .u8 a) → l.length = n → n < f → Xr f (.one .int) 1 l l n = some true
 | 0, f + 1, _, _, _, _ => rfl
 | n + 1, f + 1, [], _, h, _ => by simp at h
 | n + 1, f + 1, x :: l, h, hl, hf => by
  obtain ⟨a, rfl⟩ := h x (List.mem_cons_self ..)
  unfold Xr
  have e1 : Zv .int (.int .u8 a) (.int .u8 a) = some true := by simp [Zv]
  simp only [e1]
  exact Gz n f l (fun y hy => h y (List.mem_cons_of_mem _ hy)) (by simpa using hl) (by omega)
theorem D3 {l : List Value} (h : U .u8 32 l) : QF 5000 (.arr 32 1 (.one .int)) (.agg ⟨l⟩) (.agg ⟨l⟩) = some true := by
 show Xr 4999 (.one .int) 1 l l 32 = some true
 refine Gz 32 4999 l (fun x hx => ?_) h.1 (by omega)
 obtain ⟨i, hi, e⟩ := List.getElem_of_mem hx
 have := h.2 i (by rw [← h.1]; exact hi)
 rw [Zs, List.getElem?_eq_getElem hi] at this
 exact ⟨_, by rw [← e]; exact Option.some.inj this⟩
theorem FF {room : Int} {L : List Ent} (hr : 0 ≤ room ∧ room ≤ 4096) (hl : (L.length : Int) ≤ room) (h : Cd L) : Wz (XJ room L, false) = ((room, L), ([], false)) := by
 have hx : ∀ x, x ∈ L → ∀ rest, rdP (rdN 8 0) (rdN 8 0) (Jw x ++ rest, false) = (x, (rest, false)) := fun x hx rest => by
  have h1 := h x hx
  show (((rdN 8 0 ((leB x.1 8 ++ leB x.2 8) ++ rest, false)).1, (rdN 8 0 (rdN 8 0 ((leB x.1 8 ++ leB x.2 8) ++ rest, false)).2).1), (rdN 8 0 (rdN 8 0 ((leB x.1 8 ++ leB x.2 8) ++ rest, false)).2).2) = _
  rw [List.append_assoc, C1 h1.1]
  show ((x.1, (rdN 8 0 (leB x.2 8 ++ rest, false)).1), (rdN 8 0 (leB x.2 8 ++ rest, false)).2) = _
  rw [C1 h1.2]
 have h2 := PA (rest := []) (xs := L) (by omega) hx
 rw [List.append_nil] at h2
 show (((rdN 2 65535 (leB room 2 ++ (leB (L.length : Int) 2 ++ Qh Jw L), false)).1, (rdL (rdP (rdN 8 0) (rdN 8 0)) (rdN 2 65535 (leB room 2 ++ (leB (L.length : Int) 2 ++ Qh Jw L), false)).2).1), (rdL (rdP (rdN 8 0) (rdN 8 0)) (rdN 2 65535 (leB room 2 ++ (leB (L.length : Int) 2 ++ Qh Jw L), false)).2).2) = _
 rw [Dp hr.1 (by omega) (by omega)]
 show ((room, (rdL (rdP (rdN 8 0) (rdN 8 0)) (leB (L.length : Int) 2 ++ L.flatMap Jw, false)).1), (rdL (rdP (rdN 8 0) (rdN 8 0)) (leB (L.length : Int) 2 ++ L.flatMap Jw, false)).2) = _
 rw [h2]
theorem Dr (room : Int) (L : List Ent) : IsB (XJ room L) := fun b hb => by
 have hb : b ∈ leB room 2 ++ (leB (L.length : Int) 2 ++ L.flatMap Jw) := hb
 rcases List.mem_append.1 hb with h | h
 · exact VK _ _ b h
 · rcases List.mem_append.1 h with h | h
   · exact VK _ _ b h
   · obtain ⟨x, _, h⟩ := List.mem_flatMap.1 h
     rcases List.mem_append.1 (show b ∈ leB x.1 8 ++ leB x.2 8 from h) with h | h
     · exact VK _ _ b h
     · exact VK _ _ b h
theorem GY {room : Int} {L : List Ent} (hr : 0 ≤ room ∧ room ≤ 4096) (hl : (L.length : Int) ≤ room) (h : Cd L) (hri : XZ L) : GoodS (XJ room L) := by
 have e := FF hr hl h
 refine ⟨⟨by rw [e], by rw [e]⟩, by rw [e]; exact hr.2, by rw [e]; exact hl, by rw [e]; exact hri⟩
structure Pb (E : Env) : Prop where
 fdg : E.fn 20 = some d20
 idg : E.intr 20 = none
 frdg : E.fn 32 = some d32
 irdg : E.intr 32 = none
section
variable {E : Env} (hO : KV E) (hS : Fs E) (hD : Pb E) {s : DS} {d : Nat} {q : Nat} {v : Value} {L : List Ent} {room : Int}
include hO hS hD
theorem Px (c : Jh s q v L room) (hG : s.Good) (hroom : 0 ≤ room ∧ room ≤ 4096) (hl : L.length ≤ 4096) :
 W (dcall E (d + 6) (.func (.func 32) #[] #[]) [.pointer (some ⟨q, 0, none⟩)] s) fun r => r.1 = .agg ⟨JC [XJ room L]⟩ ∧ Ext [] s r.2 := by
 refine Zw fun Q hQ => ?_
 rw [zT hD.irdg hD.frdg rfl]
 simp (maxSteps := 4000000) (maxDischargeDepth := 8) only [zr, zh, ze, zi, zm, zq, zg, zI, Zi, zF, zl, zB, zf, zd, zc, z0, zn, List.getElem?_cons_zero, z1, z4, z5, pp, pv, zX, Nat.succ_pos, d32, hG]
 obtain ⟨S1, hS1⟩ : ∃ S1 : DS, S1 = s.new (.cells (.list (Za .u8 32)) false) := ⟨_, rfl⟩
 rw [show ([.int .u8 0, .int .u8 0, .int .u8 0, .int .u8 0, .int .u8 0, .int .u8 0, .int .u8 0, .int .u8 0, .int .u8 0, .int .u8 0, .int .u8 0, .int .u8 0, .int .u8 0, .int .u8 0, .int .u8 0, .int .u8 0, .int .u8 0, .int .u8 0, .int .u8 0, .int .u8 0, .int .u8 0, .int .u8 0, .int .u8 0, .int .u8 0, .int .u8 0, .int .u8 0, .int .u8 0, .int .u8 0, .int .u8 0, .int .u8 0, .int .u8 0, .int .u8 0] : List Value) = Za .u8 32 from rfl, ← hS1]
 have X1 : Ext [] s S1 := by rw [hS1]; exact Ext.new
 have hG1 := X1.good hG
 have gT1 : S1.get s.next = some (.cells (.list (Za .u8 32)) false) := by rw [hS1]; exact DS.new_get_self hG
 have wT1 : S1.wr s.next = true := X1.wrs (hG _ (Nat.le_refl _)).2
 clear hS1
 refine W.mono (Dl hO (d := d) (c.keep X1 (by simp) (by simp)) hG1 hroom hl) ?_
 rintro ⟨v2, s2⟩ ⟨x2, X2, b2⟩
 simp only at x2 X2 b2
 have hpl := Q6 room L
 simp (maxSteps := 4000000) only [zq, zg, zF, zl, zB, zf, zd, z1, z4, z5]
 refine W.mono (Pn hS (d := d + 1) (X2.good hG1) x2 (fun e => by rw [e] at hpl; simp at hpl; omega) (by omega)) ?_
 rintro ⟨v3, s3⟩ ⟨h3, X3⟩
 simp only at h3 X3
 rw [NC (fun e => by rw [e] at hpl; simp at hpl; omega) (by omega)] at h3
 subst h3
 have hO' : U .u8 32 (JC [XJ room L]) := GB _
 generalize JC [XJ room L] = o at hO' hQ
 have gT3 := X3.keep (X2.keep gT1 (by simp)) (by simp)
 have wT3 := X3.wrs (X2.wrs wT1)
 have hfill := Kp hO' (Yd .u8 32)
 have hrd : (s3.upd s.next (.cells (.list o) false)).read s.next 0 32 = some o := by
  unfold DS.read
  simp only [DS.upd_get_self, gT3, Option.map_some]
  rw [ZJ _ _ _ (by rw [hO'.1]; decide)]
  simp only [List.drop_zero]
  rw [List.take_of_length_le (by rw [hO'.1]; exact Nat.le_refl _)]
 simp (maxSteps := 4000000) (maxDischargeDepth := 8) only [zV, ze, zi, zm, zq, zg, zY, zk, Zz, Zo, zH, zl, zf, zy, zd, zc, z0, z1, zw, zG, Nat.zero_add, Zh, zO, Bool.and_true, Nat.beq_eq, Nat.ble_eq, Nat.le_refl, if_true, DS.wrC, Cells.size, zX, Nat.reduceLT, Nat.lt_add_one, gT3, wT3, hO'.1, hO'.allOne, hfill, (Yd .u8 32).1, hrd]
 exact hQ _ ⟨rfl, ((X1.trans' X2).trans' X3).trans (Ext.upd (F := [s.next]) (.inl (by simp))) (by simp)⟩
end
structure SdA (S : DS) (n0 p q : Nat) (kv vv w : Value) (L : List Ent) (room : Int) : Prop where
 st : Xg S p kv vv L room
 rf : Jh S q w L room
 ok : Cd L
 ll : (L.length : Int) ≤ room
 s1 : ∀ k, k ∈ own p kv vv → k ∉ q :: blk w ∧ n0 ≤ k
 s2 : ∀ k, k ∈ q :: blk w → n0 ≤ k
theorem SdA.keep {S S' : DS} {n0 p q : Nat} {kv vv w : Value} {L : List Ent} {room : Int} (c : SdA S n0 p q kv vv w L room) (X : Ext [] S S') : SdA S' n0 p q kv vv w L room :=
 ⟨c.st.keep X (by simp), c.rf.keep X (by simp) (by simp), c.ok, c.ll, c.s1, c.s2⟩
section
variable {E : Env} (hF : Fns E) (hI : Its E) (hR : Tz E) (hR2 : CS E) (hK : R9 E) (hL : R6 E) (hW : R0 E) {s : DS} {d : Nat}
include hF hI hR hR2 hK hL hW
theorem VY {S : DS} {n0 p q : Nat} {kv vv w : Value} {L : List Ent} {room : Int} {t : PT Value} {g10 : Nat} {kind K V : Int} {KK : DExit → St → Prop}
 (c : SdA S n0 p q kv vv w L room) (hroom : room ≤ 4096) (hG : S.Good)
 (t5 : t.get 5 = some (.pointer (some ⟨p, 0, none⟩))) (t7 : t.get 7 = some (.pointer (some ⟨q, 0, none⟩))) (t10 : t.get 10 = some (.pointer (some ⟨g10, 0, none⟩))) (t11 : t.get 11 = some (.bool true))
 (gq : S.get g10 = some (.cells (.list [.int .i64 kind, .int .i64 K, .int .i64 V]) false))
 (hK' : ∀ t' S', (∀ j, j ∈ [1, 5, 7, 9] → t'.get j = t.get j) → Ext [] S S' → KK .normal ⟨t', S', []⟩) :
 WC (dcall E (d + 13)) E.lf false SF ⟨t, S, []⟩ KK := by
 have hlf := hF.lf
 have hll := c.ll
 have hget := N6 hF (d := d + 8) c.st K
 have hrg := Pu hR hR2 (d := d + 11) (by omega) (by omega) c.rf K
 have hrn := fun (S' : DS) (c : Jh S' q w L room) => SE hR hR2 (d := d + 11) (by omega) (by omega) c V
 simp (maxSteps := 4000000) only [zr, zh, ze, zi, zm, zq, zg, zp, zk, zI, zQ, Yg, Zl, zF, zt, zl, zB, zf, zd, zc, Nat.reduceEqDiff, z0, z1, z4, z5, zL, Cells.get, getN, Nat.zero_add, pp, pv, pw, pg, SF, t5, t7, t10, gq, hget, hrg]
 refine W.mono (TA hF hI (d := d + 6) c.st hG V) ?_
 rintro ⟨v1, s1⟩ ⟨h1, X1⟩
 simp only at h1 X1
 subst h1
 have c1 := c.keep X1
 have hG1 := X1.good hG
 have gq1 := X1.keep gq (by simp)
 have hrn1 := hrn s1 c1.rf
 obtain ⟨k1, u1, is1, hna⟩ : ∃ (k1 u1 : Int) (is1 : Bool), Q8 V L = [.int .i64 k1, .int .i64 u1, .bool is1] := by
  unfold Q8
  split
  · exact ⟨_, _, _, rfl⟩
  · exact ⟨_, _, _, rfl⟩
 rw [hna] at hrn1 ⊢
 simp (maxSteps := 4000000) only [zr, zh, ze, zi, zm, zq, ZH, Zm, zg, zp, ZD, zk, zI, Zd, zP, Z5, Qn, zQ, Yg, Zl, zF, zt, z7, Zb, Zv, zl, zj, zB, zf, zd, zc, Nat.reduceEqDiff, z0, z1, z4, z5, zL, Cells.get, getN, Nat.zero_add, if_true, if_false, Bool.not_true, z3, decide_true, t5, t7, t10, t11, gq1, hrn1, beq_self_eq_true, Bool.not_true]
 have hpq : ∀ k, k ∈ own p kv vv → k ≠ q := fun k hk e => (c.s1 k hk).1 (by simp [e])
 refine W.mono (Rd hF hI hL (d := d + 10) c1.st c1.rf hG1 (by omega) hpq) ?_
 rintro ⟨v2, s2⟩ ⟨h2, X2⟩
 simp only at h2 X2
 subst h2
 have c2 := c1.keep X2
 have hG2 := X2.good hG1
 have gq2 := X2.keep gq1 (by simp)
 simp (maxSteps := 4000000) only [zq, ZH, Zm, zg, zp, zk, zI, Zd, Qn, zQ, Zl, zF, zt, zl, zj, zB, zf, zd, zc, Nat.reduceEqDiff, z0, z1, z4, z5, zL, Cells.get, getN, Nat.zero_add, if_false, Bool.not_true, z3, t5, t7, t10, gq2]
 refine W.mono (GV hF hI hW (d := d + 6) c2.st c2.rf hG2 (by omega)) ?_
 rintro ⟨v3, s3⟩ ⟨h3, X3⟩
 simp only at h3 X3
 subst h3
 have c3 := c2.keep X3
 have hG3 := X3.good hG2
 have gq3 := X3.keep gq2 (by simp)
 simp (maxSteps := 4000000) only [zq, ZH, Zm, zg, zp, zk, zI, Zd, Qn, zQ, Zl, zF, zt, zl, zj, zB, zf, zd, zc, Nat.reduceEqDiff, z0, z1, z4, z5, zL, Cells.get, getN, Nat.zero_add, if_false, Bool.not_true, z3, t5, t7, t10, gq3]
 refine W.mono (GV hF hI hW (d := d + 6) c3.st c3.rf hG3 (by omega)) ?_
 rintro ⟨v4, s4⟩ ⟨h4, X4⟩
 simp only at h4 X4
 subst h4
 simp (maxSteps := 4000000) only [zx, zM, ze, zi, zm, zq, ZH, Zm, zu, zg, zp, zk, Zd, Qn, zt, zl, zj, zf, zd, zc, Nat.reduceEqDiff, z0, z1, if_false, Bool.not_true, z3]
 refine hK' _ _ (fun j hj => ?_) (X1.trans' (X2.trans' (X3.trans' X4)))
 simp only [List.mem_cons, List.not_mem_nil, or_false] at hj
 rcases hj with rfl | rfl | rfl | rfl <;> simp (maxSteps := 4000000) only [zc, Nat.reduceEqDiff, z0]
end
theorem Xg.unmask {s s1 : DS} {p : Nat} {kv vv : Value} {L : List Ent} {room : Int} {F : List Nat} {nt : List Xf} {haz : List Nat} (c : Xg s1 p kv vv L room) (X : Ext F (Go.Dx.mask s nt haz) s1) (h : ∀ k, k ∈ own p kv vv → hidden nt haz k = false) : Xg (Go.Dx.unmask s s1) p kv vv L room := by
 have hk : ∀ k, k ∈ own p kv vv → (Go.Dx.unmask s s1).get k = s1.get k ∧ (s1.wr k = true → (Go.Dx.unmask s s1).wr k = true) := fun k hk => ⟨WP (h k hk) X, fun hw => by
  rw [X.wr] at hw
  simp [Go.Dx.mask] at hw
  exact hw.1.1⟩
 have h0 := hk p (List.mem_cons_self ..)
 exact ⟨h0.1.trans c.gp, h0.2 c.wp, c.ks.of fun k h' => hk k (by simp [own, h']), c.vs.of fun k h' => hk k (by simp [own, h']), c.pk, c.pv, c.kv, c.so, c.len⟩
theorem Jh.mask {S : DS} {q : Nat} {w : Value} {L : List Ent} {room : Int} {nt : List Xf} {haz : List Nat} (c : Jh S q w L room) (hq : ∀ k, k ∈ q :: blk w → hidden nt haz k = false ∧ shielded nt haz k = false) : Jh (mask S nt haz) q w L room :=
 ⟨by rw [YC (hq q (List.mem_cons_self ..)).1]; exact c.gq, QN c.wq (hq q (List.mem_cons_self ..)).1 (hq q (List.mem_cons_self ..)).2, c.sl.of fun k hk => ⟨YC (hq k (List.mem_cons_of_mem _ hk)).1, fun hw => QN hw (hq k (List.mem_cons_of_mem _ hk)).1 (hq k (List.mem_cons_of_mem _ hk)).2⟩, c.ne, c.so⟩
section
variable {E : Env} (hC : Ch E) (hP : Fu E) (hF : Fns E) (hI : Its E) (hB : Ni E) (hO : KV E) (hS : Fs E) (hD : Pb E) {s : DS} {d : Nat}
include hC hP hF hI hB hO hS hD
theorem NB {S : DS} {n0 p q : Nat} {kv vv w : Value} {L : List Ent} {room : Int} {t : PT Value} {Q : Value × DS → Prop}
 (c : SdA S n0 p q kv vv w L room) (hroom : 0 ≤ room ∧ room ≤ 4096) (hG : S.Good) (hlf : 70000 < E.lf)
 (t5 : t.get 5 = some (.pointer (some ⟨p, 0, none⟩))) (t7 : t.get 7 = some (.pointer (some ⟨q, 0, none⟩)))
 (hQ : ∀ S', Q (.bool true, S')) :
 WC (dcall E (d + 13)) E.lf false DB ⟨t, S, []⟩ (Ends [.tmp 4] Q) := by
 have hll := c.ll
 have hcl := c.st.lt
 have hwl := c.rf.sl.lt
 have hql := DS.get_lt' c.rf.gq
 simp (maxSteps := 4000000) only [zr, zh, YO, ZH, Zm, ZV, ZD, zk, zI, Z5, zF, Zv, zl, zj, zB, zf, zd, zc, Nat.reduceEqDiff, z0, z1, z4, z5, if_false, Bool.not_false, z3, List.nil_append, List.cons_append, foot, DB, t5, t7]
 refine W.mono (VP hC hP hF hI (d := d + 1) c.st hG ⟨hroom.1, by omega⟩ (by omega)) ?_
 rintro ⟨v1, s1⟩ ⟨hv1, hsh1, hb1, X1⟩
 simp only at hv1 hsh1 hb1 X1
 have c1 := c.keep X1
 have hG1 := X1.good hG
 have hpl := Q6 room L
 have hne : XJ room L ≠ [] := fun e => by rw [e] at hpl; simp at hpl; omega
 obtain ⟨bs, hbs⟩ : ∃ bs, bs = XJ room L := ⟨_, rfl⟩
 rw [← hbs] at hv1 hsh1 hpl hne
 have htb := VS bs
 have hTE := TY bs
 rcases SlR.of hv1 hsh1 with ⟨_, h0⟩ | ⟨b8, o8, sp8, cc8, rfl, _, _, hrd8⟩
 · exact absurd h0 hne
 have hb8 : S.next ≤ b8 ∧ b8 < s1.next := hb1 b8 (by simp [blk])
 simp (maxSteps := 4000000) (maxDischargeDepth := 8) only [YO, ZH, Jv, Zm, ZV, zp, zk, zF, Zo, zl, zB, zf, zd, zc, z0, z1, z4, z5, List.nil_append, List.cons_append, foot, Fq, zX, ZW, Nat.reduceLT, Nat.lt_add_one, t5, t7, hrd8, htb]
 refine W.masked (hS.fr _) (Dl hO (d := d + 8) (c1.rf.mask fun k hk => ?_) (Wu hG1 fun k hk => ?_) hroom (by omega)) ?_
 · have hk2 : k < S.next := by
    rcases List.mem_cons.1 hk with rfl | h
    · exact hql
    · exact hwl k h
   exact ⟨by (simp only [hidden, shielded, noteAt, Z2, Bool.or_false, Bool.or_eq_false_iff, Bool.and_eq_false_iff, Yb, Yr, Yv, true_and, and_true, true_or, or_true] <;> omega), by (simp only [hidden, shielded, noteAt, Z2, Bool.or_false, Bool.or_eq_false_iff, Bool.and_eq_false_iff, Yb, Yr, Yv, true_and, and_true, true_or, or_true] <;> omega)⟩
 · have := X1.le
   exact ⟨by (simp only [hidden, shielded, noteAt, Z2, Bool.or_false, Bool.or_eq_false_iff, Bool.and_eq_false_iff, Yb, Yr, Yv, true_and, and_true, true_or, or_true] <;> omega), by (simp only [hidden, shielded, noteAt, Z2, Bool.or_false, Bool.or_eq_false_iff, Bool.and_eq_false_iff, Yb, Yr, Yv, true_and, and_true, true_or, or_true] <;> omega)⟩
 rintro v2 s2 ⟨x2, X2, b2⟩ df
 simp only at x2 X2 b2
 have X2' := Ext.unmask' X2 df
 have hm : ∀ k, k ∈ blk v2 → s1.next ≤ k := b2
 obtain ⟨S2, hS2⟩ : ∃ S2 : DS, S2 = unmask s1 s2 := ⟨_, rfl⟩
 have x2' : SlX S2 1 v2 (ZZ bs) := by
  rw [hbs, hS2]
  refine x2.of fun k hk => ?_
  have hk2 := hm k hk
  refine ⟨WP (by (simp only [hidden, shielded, noteAt, Z2, Bool.or_false, Bool.or_eq_false_iff, Bool.and_eq_false_iff, Yb, Yr, Yv, true_and, and_true, true_or, or_true] <;> omega)) X2, fun hw => ?_⟩
  rw [X2.wr] at hw
  simp [mask] at hw
  exact hw.1.1
 rw [← hS2] at X2'
 have c2 := c1.keep X2'
 have hG2 := X2'.good hG1
 have hO' : U .u8 32 (JC [XJ room L]) := GB _
 have hoo := D3 hO'
 rcases SlX.toR x2' with ⟨_, h0⟩ | ⟨b9, o9, sp9, cc9, rfl, _, _, hrd9⟩
 · exact absurd h0 hne
 simp (maxSteps := 4000000) (maxDischargeDepth := 8) only [YO, ZH, ZB, Zm, ZV, Yu, zp, zk, zI, zP, zF, z7, Zo, zl, zB, zf, zd, zc, z0, z1, z4, z5, List.nil_append, List.cons_append, foot, Fq, zX, Nat.reduceLT, Nat.lt_add_one, ← hS2, hrd9, htb, hTE, t5, t7]
 refine W.mono (Vb hC hP hF hI hB (d := d) c2.st hG2 ⟨hroom.1, by omega⟩ (by omega) (by omega) hD.fdg hD.idg) ?_
 rintro ⟨v3, s3⟩ ⟨h3, X3⟩
 simp only at h3 X3
 subst h3
 simp (maxSteps := 4000000) (maxDischargeDepth := 8) only [YO, ZH, ZB, ZV, zF, zl, zB, zf, zd, zc, z0, z1, z4, z5, List.nil_append, List.cons_append, foot, zX, ZW, Nat.reduceLT, Nat.lt_add_one, t5, t7]
 refine W.mono (Px hO hS hD (d := d + 7) (c2.keep X3).rf (X3.good hG2) hroom (by omega)) ?_
 rintro ⟨v4, s4⟩ ⟨h4, X4⟩
 simp only at h4 X4
 subst h4
 simp (maxSteps := 4000000) (maxDischargeDepth := 8) only [zV, ze, zi, zm, YO, ZH, ZB, Zm, ZV, zp, zk, zI, Zd, zt, zH, zl, zj, zf, zd, zc, z0, z1, zw, zG, if_true, if_false, Bool.not_true, z3, List.nil_append, List.cons_append, foot, zX, Nat.reduceLT, Nat.lt_add_one, N1, hoo]
 exact hQ _
end
theorem ND {l : List (List Value)} (hl : ∀ x, x ∈ l → Yz [.int .i64, .int .i64, .int .i64] x) {x : List Value} (hx : x ∈ l) : I64 (NF x) ∧ I64 (NE x) := by
 have hfx := hl x hx
 obtain ⟨x0, r0, rfl, ⟨kind, rfl, _⟩, hf0⟩ := Yz.cons hfx
 obtain ⟨x1, r1, rfl, ⟨K, rfl, hK⟩, hf1⟩ := Yz.cons hf0
 obtain ⟨x2, r2, rfl, ⟨V, rfl, hV⟩, hf2⟩ := Yz.cons hf1
 show I64 K ∧ I64 V
 simp [Lit.wf, IntKind.min, IntKind.max, IntKind.signed, IntKind.bits] at hK hV
 exact ⟨⟨by omega, by omega⟩, ⟨by omega, by omega⟩⟩
theorem Mi {s : DS} {v0 : Value} {l : List (List Value)} (hr : KX s v0 l) (hl : ∀ x, x ∈ l → Yz [.int .i64, .int .i64, .int .i64] x) {i : Nat} (hi : i < l.length) :
 ∃ x vb vc, l[i]? = some x ∧ v0 = .slice (some ⟨vb, 0, none⟩) l.length vc ∧ s.get vb = some (.cells (.list l.flatten) true) ∧ ldA 3 (.pointer (some ⟨vb, i * 3, none⟩)) s = some (.agg ⟨[.int .i64 (TO (getN x 0)), .int .i64 (NF x), .int .i64 (NE x)]⟩) := by
 obtain ⟨x, hx⟩ : ∃ x, l[i]? = some x := ⟨l[i], List.getElem?_eq_getElem hi⟩
 have hfx := hl x (List.mem_of_getElem? hx)
 obtain ⟨x0, r0, rfl, ⟨kind, rfl, _⟩, hf0⟩ := Yz.cons hfx
 obtain ⟨x1, r1, rfl, ⟨K, rfl, hK⟩, hf1⟩ := Yz.cons hf0
 obtain ⟨x2, r2, rfl, ⟨V, rfl, hV⟩, hf2⟩ := Yz.cons hf1
 obtain rfl := Yz.nil hf2
 have hm3 : ∀ y, y ∈ l → y.length = 3 := fun y hy => Yz.length (hl y hy)
 rcases hr with ⟨_, rfl⟩ | ⟨vb, vc, rfl, hb⟩
 · simp at hx
 · have hlen : l.flatten.length = l.length * 3 := JK hm3
   have hrd : s.read vb 0 (l.length * 3) = some l.flatten := by
    unfold DS.read
    rw [hb]
    simp only
    rw [ZJ _ _ _ (by omega)]
    simp only [List.drop_zero]
    rw [List.take_of_length_le (by omega)]
   have h := VZ hrd hm3 hx
   rw [Nat.zero_add] at h
   refine ⟨_, vb, vc, hx, rfl, hb, ?_⟩
   unfold ldA
   simp only [h]
   rfl
structure SdI (s0 : DS) (q : Nat) (room : Int) (v1 : Value) (l : List (List Value)) (n : Nat) (x : St) : Prop where
 ex : ∃ (i p : Nat) (kv vv w : Value) (L : List Ent), n = l.length - i ∧ i ≤ l.length ∧ x.defers = [] ∧
  (x.t.get 1 = some v1 ∧ x.t.get 5 = some (.pointer (some ⟨p, 0, none⟩)) ∧ x.t.get 7 = some (.pointer (some ⟨q, 0, none⟩)) ∧ x.t.get 9 = some (.int .i64 (i : Int))) ∧
  SdA x.s s0.next p q kv vv w L room ∧ Ext [] s0 x.s
section
variable {E : Env} (hC : Ch E) (hG' : R8 E) (hP : Fu E) (hU : Tx E) (hF : Fns E) (hI : Its E) (hB : Ni E) (hO : KV E) (hS : Fs E) (hD : Pb E) (hR : Tz E) (hR2 : CS E) (hK : R9 E) (hL : R6 E) (hW : R0 E) {s : DS} {d : Nat}
include hC hG' hP hU hF hI hB hO hS hD hR hR2 hK hL hW
theorem CY (hG : s.Good) (hlf7 : 70000 < E.lf) (f10 : E.fn 10 = some d10) (i10 : E.intr 10 = none) : W (dcall E (d + 14) (.func (.func 10) #[] #[]) [] s) fun r => r.1 = .bool true ∧ Ext [] s r.2 := by
 have hlf := hF.lf
 refine Zw fun Q hQ => ?_
 rw [zT i10 f10 rfl]
 simp (maxSteps := 4000000) only [zr, zh, ze, zi, zm, zq, zg, zI, zF, zj, zB, zf, z4, z5, pp, pv, pw, pg, d10]
 refine W.mono (R4 hF (d := d + 12) hG 2) ?_
 rintro ⟨r1, s1⟩ ⟨X1, ⟨_, _, hr', c1⟩ | ⟨hno, _, _⟩⟩
 rotate_left
 · exact absurd ⟨by omega, by omega⟩ hno
 simp only at hr' c1 X1
 subst hr'
 have hG1 := X1.good hG
 simp (maxSteps := 4000000) only [zr, zh, zx, zM, ze, zi, zm, zq, ZH, Zm, zu, zg, zp, ZD, zk, zI, Zd, zP, Z5, Yg, zF, zt, z7, Zb, Zv, zl, zj, zB, zf, zd, zc, Nat.reduceEqDiff, z0, z1, z4, z5, getN, if_true, if_false, Bool.not_true, Bool.not_false, z3, zU, decide_true, CT hI, Dq hW]
 generalize hT : DS.new _ _ = T
 have XT : Ext [] s1 T := by rw [← hT]; exact Ext.new.trans' (Ext.new.trans' (Ext.new.trans' Ext.new))
 clear hT
 have c2 := c1.keep XT (by simp)
 have hG2 := XT.good hG1
 obtain ⟨p, hp⟩ : ∃ p, p = s.next := ⟨_, rfl⟩
 simp only [← hp] at c2 ⊢
 have hp0 : s.next ≤ p := by omega
 clear c1
 have hnT : s.next ≤ T.next := by have := X1.le; have := XT.le; omega
 refine W.mono (GG hF (d := d + 7) c2 hG2 5 1 (by omega)) ?_
 rintro ⟨v3, s3⟩ ⟨h3, kv3, vv3, c3, X3, o3⟩
 simp only at h3 c3 X3
 rw [show J2 5 [] 2 = 0 from rfl] at h3
 rw [show Jl 5 1 [] 2 = [(5, 1)] from rfl] at c3
 subst h3
 simp (maxSteps := 4000000) only [zq, zg, zI, zF, zl, zj, zB, zf, zd, zc, Nat.reduceEqDiff, z0, z1, z4, z5]
 refine W.mono (GG hF (d := d + 7) c3 (X3.good hG2) (-3) 2 (by omega)) ?_
 rintro ⟨v4, s4⟩ ⟨h4, kv4, vv4, c4, X4, o4⟩
 simp only at h4 c4 X4
 rw [show J2 (-3) [(5, 1)] 2 = 0 from rfl] at h4
 rw [show Jl (-3) 2 [(5, 1)] 2 = [(-3, 2), (5, 1)] from rfl] at c4
 subst h4
 simp (maxSteps := 4000000) only [zq, zg, zI, zF, zl, zj, zB, zf, zd, zc, Nat.reduceEqDiff, z0, z1, z4, z5]
 have hG4 := X4.good (X3.good hG2)
 refine W.mono (GG hF (d := d + 7) c4 hG4 6 3 (by omega)) ?_
 rintro ⟨v5, s5⟩ ⟨h5, kv5, vv5, c5, X5, o5⟩
 simp only at h5 c5 X5
 rw [show J2 6 [(-3, 2), (5, 1)] 2 = 2 from rfl] at h5
 rw [show Jl 6 3 [(-3, 2), (5, 1)] 2 = [(-3, 2), (5, 1)] from rfl] at c5
 subst h5
 have hG5 := X5.good hG4
 have h3n : ∀ k, k ∈ own p kv3 vv3 → s.next ≤ k := fun k hk => by
  rcases o3 k hk with h | h
  · have : k = p := by simpa [own, blk] using h
    omega
  · exact Nat.le_trans hnT h
 have h4n : ∀ k, k ∈ own p kv4 vv4 → s.next ≤ k := fun k hk => by
  rcases o4 k hk with h | h
  · exact h3n k h
  · have := X3.le; exact Nat.le_trans hnT (Nat.le_trans this h)
 have X05 : Ext [] s s5 := (((X1.trans' XT).trans X3 (fun k hk => .inr (by have : k = p := by simpa [own, blk] using hk
                                                                           omega))).trans X4 (fun k hk => .inr (h3n k hk))).trans X5 (fun k hk => .inr (h4n k hk))
 simp (maxSteps := 4000000) only [zr, zh, ze, zi, zm, zq, zg, zI, zF, zl, zj, zB, zf, zd, zc, Nat.reduceEqDiff, z0, z1, z4, z5]
 refine W.mono (TA hF hI (d := d + 6) c5 hG5 (-9)) ?_
 rintro ⟨v6, s6⟩ ⟨h6, X6⟩
 simp only at h6 X6
 rw [show Q8 (-9) [(-3, 2), (5, 1)] = [.int .i64 (-3), .int .i64 2, .bool true] from rfl] at h6
 subst h6
 have c6 := c5.keep X6 (by simp)
 have hG6 := X6.good hG5
 simp (maxSteps := 4000000) only [zr, zh, ze, zi, zm, zq, zg, zp, zk, zI, Yg, zF, zt, zl, zB, zf, zd, zc, Nat.reduceEqDiff, z0, z1, z4, z5, getN]
 refine W.mono (VP hC hP hF hI (d := d + 1) c6 hG6 ⟨by omega, by omega⟩ (by simp)) ?_
 rintro ⟨v7, s7⟩ ⟨hv7, hsh7, hb7, X7⟩
 simp only at hv7 hsh7 hb7 X7
 have hG7 := X7.good hG6
 have c7 := c6.keep X7 (by simp)
 have hok : Cd [((-3 : Int), (2 : Int)), (5, 1)] := fun x hx => by
  simp only [List.mem_cons, List.not_mem_nil, or_false] at hx
  rcases hx with rfl | rfl <;> exact ⟨⟨by decide, by decide⟩, ⟨by decide, by decide⟩⟩
 have hri : XZ [((-3 : Int), (2 : Int)), (5, 1)] := c5.so
 simp (maxSteps := 4000000) only [zq, zg, zF, zl, zB, zf, zd, z1, z4, z5]
 refine W.mono (Fr hC hG' hP hU (d := d + 4) (SlR.of hv7 hsh7) (Dr _ _) (by rw [Q6]; simp) hG7) ?_
 rintro ⟨v8, s8⟩ ⟨X8, h8⟩
 simp only at X8 h8
 have hgood := GY (room := 2) ⟨by omega, by omega⟩ (by simp) hok hri
 rcases h8 with ⟨hng, _⟩ | ⟨_, p', kv', vv', hv8, c8, n8⟩
 · exact absurd hgood hng
 rw [FF ⟨by omega, by omega⟩ (by simp) hok] at c8
 have c8 : Xg s8 p' kv' vv' [(-3, 2), (5, 1)] 2 := c8
 subst hv8
 have hG8 := X8.good hG7
 have c78 := c7.keep X8 (by simp)
 simp (maxSteps := 4000000) only [zr, zh, ze, zi, zm, zq, ZH, ZB, zg, zp, ZD, zk, zI, Zd, zP, Z5, Yg, zF, zt, z7, Zb, Zv, zl, zj, zB, zf, zd, zc, Nat.reduceEqDiff, z0, z1, z4, z5, getN, if_true, Bool.not_false, decide_true]
 refine W.mono (Vb hC hP hF hI hB (d := d) c8 hG8 ⟨by omega, by omega⟩ (by simp) (by simp; omega) hD.fdg hD.idg) ?_
 rintro ⟨v9, s9⟩ ⟨h9, X9⟩
 simp only at h9 X9
 subst h9
 have hG9 := X9.good hG8
 have c9 := c78.keep X9 (by simp)
 simp (maxSteps := 4000000) only [zq, ZH, ZB, zg, zI, zF, zl, zB, zf, zd, zc, Nat.reduceEqDiff, z0, z1, z4, z5]
 refine W.mono (Vb hC hP hF hI hB (d := d) c9 hG9 ⟨by omega, by omega⟩ (by simp) (by simp; omega) hD.fdg hD.idg) ?_
 rintro ⟨v10, s10⟩ ⟨h10, X10⟩
 simp only at h10 X10
 subst h10
 have c10 := c9.keep X10 (by simp)
 have hO' : U .u8 32 (JC [XJ 2 [(-3, 2), (5, 1)]]) := GB _
 have hoo := D3 hO'
 have hln := R7 hF c10 (d := d + 12)
 simp (maxSteps := 4000000) (maxDischargeDepth := 8) only [zV, ze, zi, zm, zq, ZH, ZB, zg, zp, zk, zI, Zd, zP, zF, zt, z7, Zb, zH, zl, zj, zB, zf, zd, zc, z0, z1, zw, zG, z4, z5, Nat.zero_add, Nat.reduceAdd, List.length_cons, List.length_nil, if_true, if_false, Bool.not_true, z3, zX, Nat.add_assoc, Nat.reduceLT, Nat.lt_add_one, N1, hoo, hln]
 exact hQ _ ⟨rfl, X05.trans' (X6.trans' (X7.trans' (X8.trans' (X9.trans' X10))))⟩
theorem Me (f8 : E.fn 8 = some d8x) (i8 : E.intr 8 = none) (f10 : E.fn 10 = some d10) (i10 : E.intr 10 = none) (hG : s.Good) {v1 : Value} {room : Int} {l : List (List Value)} (hr : KX s v1 l) (hl : ∀ x, x ∈ l → Yz [.int .i64, .int .i64, .int .i64] x) (hlf2 : l.length < E.lf) (hlf7 : 70000 < E.lf) (hmax : (l.length : Int) ≤ 9223372036854775807) :
 W (dcall E (d + 15) (.func (.func 8) #[] #[]) [.int .i64 room, v1] s) fun r => r.1 = .bool true := by
 have hlf := hF.lf
 have hvl : ∃ a c, v1 = .slice a l.length c := by
  rcases hr with ⟨rfl, rfl⟩ | ⟨b, c, rfl, _⟩
  · exact ⟨_, _, rfl⟩
  · exact ⟨_, _, rfl⟩
 rw [zT i8 f8 rfl]
 simp (maxSteps := 4000000) only [zr, zh, ze, zi, zm, zq, zg, zI, zF, zl, zj, zB, zf, zd, zc, z0, zn, List.getElem?_cons_zero, z1, z4, z5, reduceCtorEq, pp, pv, pw, pg, d8x]
 refine W.mono (R4 hF (d := d + 13) hG room) ?_
 rintro ⟨r1, s1⟩ ⟨X1, ⟨hr0, hr1, hr', cb⟩ | ⟨hno, hr', hs1⟩⟩
 rotate_left
 · simp only at hr' hs1
   subst hr' hs1
   have hrn : ∀ dd, dcall E (dd + 1) (.func (.func 25) #[] #[]) [.int .i64 room] s1 = some (.tuple ⟨[.pointer none, .int .i64 1]⟩, s1) := fun dd => by
    rw [← Jg, zT hR.iNew hR.fNew rfl]
    by_cases h1 : room < 0
    · simp (maxSteps := 4000000) only [zr, zh, zx, zV, ze, Zx, zi, zm, zq, ZH, XL, zC, zg, zp, zk, zI, Zd, zP, zt, z7, Zb, zH, zl, zj, zf, zd, zc, Nat.reduceEqDiff, z0, zn, List.getElem?_cons_zero, z1, zw, zG, if_true, if_false, reduceCtorEq, z3, List.nil_append, pp, pv, pw, pg, decide_true, d25, h1]
    · have h2 : room > 4096 := by omega
      simp (maxSteps := 4000000) only [zr, zh, zx, zV, ze, Zx, zi, zm, zq, ZH, Zm, zC, zg, zp, zk, zI, Zd, zP, zt, z7, Zb, zH, zl, zj, zf, zd, zc, Nat.reduceEqDiff, z0, zn, List.getElem?_cons_zero, z1, zw, zG, if_true, if_false, reduceCtorEq, z3, pp, pv, pw, pg, decide_true, decide_false, d25, h1, h2]
   obtain ⟨a, c, hv1⟩ := hvl
   subst hv1
   simp (maxSteps := 4000000) only [zr, zh, ze, zi, zm, zq, zg, zp, zk, zI, Yg, zF, zt, zl, zB, zf, zd, zc, Nat.reduceEqDiff, z0, zn, List.getElem?_cons_zero, z1, z4, z5, getN, reduceCtorEq, hrn]
   refine W.mono (CY hC hG' hP hU hF hI hB hO hS hD hR hR2 hK hL hW (d := d) hG hlf7 f10 i10) ?_
   rintro ⟨r4, s4⟩ ⟨h4, X4⟩
   simp only at h4 X4
   subst h4
   simp (maxSteps := 4000000) only [zr, zh, zx, zN, zM, ze, zi, zm, zq, ZH, Zm, zu, zg, zp, ZD, zk, zI, Zd, zP, Z5, Qn, zt, z7, Zb, Zv, zl, zj, zf, zd, zc, Nat.reduceEqDiff, z0, z1, if_true, if_false, Bool.not_true, z3, decide_true, Option.isNone_none, beq_self_eq_true, Bool.not_true]
   refine ZP (fun n x => n = 0 ∧ x.s = s4 ∧ x.defers = [] ∧ x.t.get 1 = some (.slice a l.length c) ∧ x.t.get 7 = some (.pointer none) ∧ x.t.get 9 = some (.int .i64 0)) 0 (by omega) ⟨rfl, rfl, rfl, by simp (maxSteps := 4000000) only [zc, Nat.reduceEqDiff, z0, zn, List.getElem?_cons_zero, List.getElem?_cons_succ], by simp (maxSteps := 4000000) only [zd, zc, Nat.reduceEqDiff, z0], by simp (maxSteps := 4000000) only [zd]⟩ ?_
   rintro n ⟨t, s3, ds⟩ hn ⟨hn0, hs3, hds, g1, g7, g9⟩
   simp only at hs3 hds g1 g7 g9
   subst hs3 hds
   by_cases c0 : (0 : Int) < (l.length : Int)
   · simp (maxSteps := 4000000) only [zr, zh, zx, ZA, ze, Ze, Zg, zi, Zf, zm, zq, ZH, ZB, zu, zg, zp, ZD, zk, zI, Zd, zP, Z5, Zk, zt, z7, Zb, Zv, zl, zj, zf, zd, zc, Nat.reduceEqDiff, z0, z1, if_true, Bool.not_true, decide_true, Option.isNone_none, g1, g7, g9, c0]
     simp (maxSteps := 4000000) only [zr, zh, zV, ze, zi, zm, YO, ZH, XL, ZV, zp, ZD, zk, zI, Zd, Z5, zt, Zv, zH, zl, zj, zf, zd, zc, Nat.reduceEqDiff, z0, z1, zw, zG, if_true, if_false, Bool.not_true, z3, List.nil_append, List.cons_append, Option.isNone_none, foot, KI, DB, g7]
   · simp (maxSteps := 4000000) only [zr, zh, zx, ZA, ze, Ze, Zg, zi, Zf, zm, zq, ZH, XM, zu, zg, zp, zk, zI, Zd, zP, Zk, zt, z7, Zb, zl, zj, zf, zd, zc, Nat.reduceEqDiff, z0, z1, if_true, if_false, z3, List.nil_append, decide_false, g1, g7, g9, c0]
     simp (maxSteps := 4000000) only [zr, zh, zV, ze, zi, zm, YO, ZH, XL, ZV, zp, ZD, zk, zI, Zd, Z5, zt, Zv, zH, zl, zj, zf, zd, zc, Nat.reduceEqDiff, z0, z1, zw, zG, if_true, if_false, Bool.not_true, z3, List.nil_append, List.cons_append, Option.isNone_none, foot, KI, DB, g7]
 · simp only at hr' cb X1
   subst hr'
   have hG1 := X1.good hG
   simp (maxSteps := 4000000) only [zr, zh, ze, zi, zm, zq, zg, zp, zk, zI, Yg, zF, zt, zl, zB, zf, zd, zc, Nat.reduceEqDiff, z0, zn, List.getElem?_cons_zero, z1, z4, z5, getN, reduceCtorEq]
   refine W.mono (Ps hR (d := d + 13) ⟨hr0, hr1⟩ hG1) ?_
   rintro ⟨r2, s2⟩ ⟨hr', crf, X2⟩
   simp only at hr' crf X2
   subst hr'
   have hG2 := X2.good hG1
   have hbl := cb.lt
   have hle1 := X1.le
   obtain ⟨q, hq⟩ : ∃ q, q = s1.next := ⟨_, rfl⟩
   rw [← hq] at crf ⊢
   have cA : SdA s2 s.next s.next q (.slice none 0 0) (.slice none 0 0) (.slice none 0 0) [] room := by
    refine ⟨cb.keep X2 (by simp), crf, fun x hx => (nomatch hx), hr0, fun k hk => ?_, fun k hk => ?_⟩
    · have h1 := hbl k hk
      have hk' : k = s.next := by simpa [own, blk] using hk
      exact ⟨by simp [blk]; omega, by omega⟩
    · have hk' : k = q := by simpa [blk] using hk
      omega
   simp (maxSteps := 4000000) only [zr, zh, ze, zi, zm, zq, zg, zp, zk, zI, Yg, zF, zt, zl, zB, zf, zd, zc, Nat.reduceEqDiff, z0, z1, z5, getN]
   refine W.mono (CY hC hG' hP hU hF hI hB hO hS hD hR hR2 hK hL hW (d := d) hG2 hlf7 f10 i10) ?_
   rintro ⟨r4, s4⟩ ⟨h4, X4⟩
   simp only at h4 X4
   subst h4
   have cA := cA.keep X4
   simp (maxSteps := 4000000) only [zr, zh, zx, zN, zM, ze, zi, zm, zq, ZH, Zm, zu, zg, zp, ZD, zk, zI, Zd, zP, Z5, Qn, zt, z7, Zb, Zv, zl, zj, zf, zd, zc, Nat.reduceEqDiff, z0, z1, if_true, if_false, Bool.not_true, Bool.not_false, z3, decide_true, beq_self_eq_true, Bool.not_true]
   refine ZP (SdI s q room v1 l) l.length hlf2 ⟨0, s.next, .slice none 0 0, .slice none 0 0, .slice none 0 0, [], rfl, Nat.zero_le _, rfl, by simp (maxSteps := 4000000) only [zd, zc, Nat.reduceEqDiff, z0, zn, List.getElem?_cons_zero, List.getElem?_cons_succ, Bool.true_and, true_and]; rfl, cA, X1.trans' (X2.trans' X4)⟩ ?_
   clear cA cb crf hbl
   rintro n ⟨tt, S, ds⟩ hn ⟨i, p, kv, vv, w, L, rfl, hi, hds, ⟨g1, g5, g7, g9⟩, cS, XS⟩
   simp only at hds g1 g5 g7 g9 cS XS
   subst hds
   have hGS := XS.good hG
   have hrS := KX.keep hr XS (by simp)
   have hXS := XS.le
   have hll := cS.ll
   by_cases c1 : i < l.length
   · have e1 : (i : Int) < (l.length : Int) := by omega
     have w1 : zE .i64 ((i : Int) + 1) = ((i + 1 : Nat) : Int) := by rw [zR (by omega) (by omega)]; omega
     obtain ⟨x, vb, vc, hx, hv2, hb, hld⟩ := Mi hrS hl c1
     obtain ⟨hkI, hvI⟩ := ND hl (List.mem_of_getElem? hx)
     obtain ⟨kind, hkind⟩ : ∃ kind, kind = TO (getN x 0) := ⟨_, rfl⟩
     obtain ⟨K, hKx⟩ : ∃ K, K = NF x := ⟨_, rfl⟩
     obtain ⟨V, hVx⟩ : ∃ V, V = NE x := ⟨_, rfl⟩
     rw [← hkind, ← hKx, ← hVx] at hld
     rw [← hKx] at hkI
     rw [← hVx] at hvI
     rw [hv2] at g1
     obtain ⟨S1, hS1⟩ : ∃ S1 : DS, S1 = (S.new (.cells (.list [.int .i64 0, .int .i64 0, .int .i64 0]) false)).upd S.next (.cells (.list [.int .i64 kind, .int .i64 K, .int .i64 V]) false) := ⟨_, rfl⟩
     have XQ : Ext [] S S1 := by rw [hS1]; exact (Ext.new (F := [])).trans (Ext.upd (F := [S.next]) (.inl (by simp))) (by simp)
     have hGQ := XQ.good hGS
     have gq := (show S1.get S.next = some (.cells (.list [.int .i64 kind, .int .i64 K, .int .i64 V]) false) by rw [hS1]; simp (maxSteps := 4000000) (maxDischargeDepth := 8) only [DS.upd_get_self, Option.map_some, zo, hGS])
     have nQ : S1.next = S.next + 1 := by rw [hS1]; simp (maxSteps := 4000000) (maxDischargeDepth := 8) only [DS.upd_next, zU]
     have cQ := cS.keep XQ
     have hpl := cS.st.lt
     have hwl := cS.rf.sl.lt
     have hql := DS.get_lt' cS.rf.gq
     have hqw : ∀ k, k ∈ q :: blk w → k < S.next := fun k hk => by
      rcases List.mem_cons.1 hk with rfl | h
      · exact hql
      · exact hwl k h
     have hfin : ∀ (S5 : DS) (p' : Nat) (kv' vv' w' : Value) (L' : List Ent) (t5 : PT Value), SdA S5 s.next p' q kv' vv' w' L' room → Ext [] s S5 → (t5.get 1 = some v1 ∧ t5.get 5 = some (.pointer (some ⟨p', 0, none⟩)) ∧ t5.get 7 = some (.pointer (some ⟨q, 0, none⟩)) ∧ t5.get 9 = some (.int .i64 ((i + 1 : Nat) : Int))) → ∃ m', m' < l.length - i ∧ SdI s q room v1 l m' ⟨t5, S5, []⟩ :=
      fun S5 p' kv' vv' w' L' t5 cA X hh => ⟨l.length - (i + 1), by omega, ⟨i + 1, p', kv', vv', w', L', rfl, by omega, rfl, hh, cA, X⟩⟩
     by_cases k1 : kind = 1
     · simp (maxSteps := 4000000) (maxDischargeDepth := 8) only [zr, zh, zx, zN, zM, ze, zi, zm, zq, YO, ZH, Jv, ZB, zC, zg, ZV, zp, zY, ZD, zk, zI, Zd, zP, Z5, zQ, Yy, Zk, Zl, Zz, Zi, zF, zt, z7, Zb, Zv, zl, zj, zB, zf, zy, zd, zc, z0, z1, z4, z5, zL, Cells.get, getN, Nat.zero_add, Nat.reduceAdd, Zh, zO, List.length_cons, List.length_nil, allOne, zJ, Bool.and_self, Bool.and_true, Nat.beq_eq, Nat.ble_eq, Nat.blt_eq, Nat.le_refl, if_true, Bool.not_false, DS.wrC, Cells.size, Cells.fillFrom, Cells.set, Zj, List.nil_append, List.cons_append, DS.upd_get_self, DS.upd_next, Option.map_some, zU, wrN, YF, Nat.add_zero, zD, decide_true, foot, zo, zA, ZF, zX, ZW, Nat.reduceLT, Nat.lt_add_one, g1, g5, g7, g9, e1, c1, hld, hGS, k1]
       rw [k1] at hS1 gq
       rw [← hS1]
       refine W.masked (hW.fr _) (GG hF (d := d + 8) (cQ.st.mask fun k hk => ?_) (Wu hGQ fun k hk => ?_) K V (by omega)) ?_
       · have := hpl k hk
         have : ¬ k = S.next := by omega
         exact ⟨by (simp only [hidden, shielded, noteAt, Z2, Bool.or_false, Bool.or_eq_false_iff, Bool.and_eq_false_iff, Yb, Yr, Yv, true_and, and_true, true_or, or_true] <;> omega), by (simp only [hidden, shielded, noteAt, Z2, Bool.or_false, Bool.or_eq_false_iff, Bool.and_eq_false_iff, Yb, Yr, Yv, true_and, and_true, true_or, or_true] <;> omega)⟩
       · have : ¬ k = S.next := by omega
         exact ⟨by (simp only [hidden, shielded, noteAt, Z2, Bool.or_false, Bool.or_eq_false_iff, Bool.and_eq_false_iff, Yb, Yr, Yv, true_and, and_true, true_or, or_true] <;> omega), by (simp only [hidden, shielded, noteAt, Z2, Bool.or_false, Bool.or_eq_false_iff, Bool.and_eq_false_iff, Yb, Yr, Yv, true_and, and_true, true_or, or_true] <;> omega)⟩
       rintro v6 s6 ⟨h6, kv6, vv6, c6, X6, o6⟩ df
       simp only at h6 c6 X6
       subst h6
       have X6' := Ext.unmask' X6 df
       have hown : ∀ k, k ∈ own p kv6 vv6 → k ∈ own p kv vv ∨ S.next + 1 ≤ k := fun k hk => by
        rcases o6 k hk with h | h
        · exact .inl h
        · exact .inr (by rw [← nQ]; exact h)
       have c6' := Xg.unmask c6 X6 (fun k hk => by
        have : ¬ k = S.next := by
         rcases hown k hk with h | h
         · have := hpl k h; omega
         · omega
        (simp only [hidden, shielded, noteAt, Z2, Bool.or_false, Bool.or_eq_false_iff, Bool.and_eq_false_iff, Yb, Yr, Yv, true_and, and_true, true_or, or_true] <;> omega))
       obtain ⟨S6, hS6⟩ : ∃ S6 : DS, S6 = Go.Dx.unmask S1 s6 := ⟨_, rfl⟩
       have n6 : s6.next = S6.next := by rw [hS6]; rfl
       rw [← hS6] at X6' c6'
       have hG6 := X6'.good hGQ
       have hle6 := X6'.le
       have hl6 := c6'.lt
       have cr6 := cQ.rf.keep X6' (fun hk => (cS.s1 q hk).1 (by simp)) (fun k hk h => (cS.s1 k h).1 (by simp [hk]))
       have gq6 := X6'.keep gq (fun h => by have := hpl _ h; omega)
       simp (maxSteps := 4000000) only [YO, Yu, zF, zl, zB, zf, zd, zc, Nat.reduceEqDiff, z0, z1, z4, z5, List.nil_append, List.cons_append, foot, ← hS6, n6, g7]
       refine W.mono (Po hR (d := d + 12) (by omega) (by omega) cr6 hG6 K V) ?_
       rintro ⟨v7, s7⟩ ⟨h7, w7, c7, X7, n7⟩
       simp only at h7 c7 X7 n7
       subst h7
       have hGE := X7.good hG6
       have gqE := X7.keep gq6 (by simp; omega)
       have hq0 := cS.s2 q (by simp)
       have X0E : Ext [] s s7 := (XS.trans' XQ).trans ((X6'.weaken (G := q :: own p kv vv) (by intro k hk; exact .inl (List.mem_cons_of_mem _ hk))).trans' (X7.weaken (by simp))) (fun k hk => by
        rcases List.mem_cons.1 hk with rfl | h
        · exact .inr hq0
        · exact .inr (cS.s1 k h).2)
       obtain ⟨_, hi2, hi3⟩ := SM cS.st.so hll cS.ok hkI hvI
       have cA : SdA s7 s.next p q kv6 vv6 w7 (Jl K V L room) room := by
        refine ⟨c6'.keep X7 (fun k hk => ?_), c7, hi3, hi2, fun k hk => ⟨fun hk2 => ?_, ?_⟩, fun k hk => ?_⟩
        · rcases hown k hk with h | h
          · have := (cS.s1 k h).1
            simp only [List.mem_cons, not_or] at this
            simp [this.1]
          · simp; omega
        · have hk6 := hl6 k hk
          have hk7 : k = q ∨ k ∈ blk w ∨ S6.next ≤ k := by
           rcases List.mem_cons.1 hk2 with h | h
           · exact .inl h
           · rcases n7 k h with h | h
             · exact .inr (.inl h)
             · exact .inr (.inr h)
          rcases hown k hk with h | h
          · have := (cS.s1 k h).1
            simp only [List.mem_cons, not_or] at this
            rcases hk7 with h7 | h7 | h7
            · exact this.1 h7
            · exact this.2 h7
            · omega
          · rcases hk7 with h7 | h7 | h7
            · omega
            · have := hwl k h7; omega
            · omega
        · rcases hown k hk with h | h
          · exact (cS.s1 k h).2
          · omega
        · rcases List.mem_cons.1 hk with rfl | h
          · exact hq0
          · rcases n7 k h with h | h
            · exact cS.s2 k (List.mem_cons_of_mem _ h)
            · omega
       have hPE : (J2 K L room = J2 K L room) = True := eq_true rfl
       simp (maxSteps := 4000000) only [ze, zK, zi, zm, YO, ZV, zp, zk, zI, zP, z7, Zb, zl, zf, zd, zc, Nat.reduceEqDiff, z0, z1, if_true, List.nil_append, List.cons_append, decide_true, foot, hPE]
       refine VY hF hI hR hR2 hK hL hW (d := d + 1) cA hr1 hGE (by simp (maxSteps := 4000000) only [zc, Nat.reduceEqDiff, z0, g5]) (by simp (maxSteps := 4000000) only [zc, Nat.reduceEqDiff, z0, g7]) (by simp (maxSteps := 4000000) only [zd, zc, Nat.reduceEqDiff, z0]) (by simp (maxSteps := 4000000) only [zd]) gqE (fun t' S' ht X' => ?_)
       have h1' : t'.get 1 = some v1 := by rw [ht 1 (by simp), hv2]; simp (maxSteps := 4000000) only [zc, Nat.reduceEqDiff, z0, g1]
       have h5' := ht 5 (by simp)
       have h7' : t'.get 7 = some (.pointer (some ⟨q, 0, none⟩)) := by rw [ht 7 (by simp)]; simp (maxSteps := 4000000) only [zc, Nat.reduceEqDiff, z0, g7]
       have h9' : t'.get 9 = some (.int .i64 (i : Int)) := by rw [ht 9 (by simp)]; simp (maxSteps := 4000000) only [zc, Nat.reduceEqDiff, z0, g9]
       simp only [PT.get_put, Nat.reduceEqDiff, if_true, if_false, g5] at h5'
       simp (maxSteps := 4000000) only [zh, ze, zK, zi, zW, zm, zq, zg, zp, zk, zI, zP, z7, Zb, zl, zj, zf, zd, z1, if_true, h9', w1]
       exact hfin _ _ _ _ _ _ _ (cA.keep X') (X0E.trans' X') ⟨by simp (maxSteps := 4000000) only [zc, Nat.reduceEqDiff, z0, h1'], by simp (maxSteps := 4000000) only [zc, Nat.reduceEqDiff, z0, h5'], by simp (maxSteps := 4000000) only [zc, Nat.reduceEqDiff, z0, h7'], by simp (maxSteps := 4000000) only [zd]⟩
     · by_cases k2 : kind = 2
       · simp (maxSteps := 4000000) (maxDischargeDepth := 8) only [zr, zh, zx, zN, zM, ze, zi, zm, zq, YO, ZH, Jv, ZB, zC, zu, zg, ZV, zp, zY, ZD, zk, zI, Zd, zP, Z5, zQ, Yy, Zk, Zl, Zz, Zi, zF, zt, z7, Zb, Zv, zl, zj, zB, zf, zy, zd, zc, z0, z1, z4, z5, zL, Cells.get, getN, Nat.zero_add, Nat.reduceAdd, Zh, zO, List.length_cons, List.length_nil, allOne, zJ, Bool.and_self, Bool.and_true, Nat.beq_eq, Nat.ble_eq, Nat.blt_eq, Nat.le_refl, if_true, Bool.not_false, DS.wrC, Cells.size, Cells.fillFrom, Cells.set, Zj, List.nil_append, List.cons_append, DS.upd_get_self, DS.upd_next, Option.map_some, zU, wrN, YF, Nat.add_zero, zD, decide_true, decide_false, Int.reduceEq, foot, zo, zA, ZF, zX, ZW, Nat.reduceLT, Nat.lt_add_one, g1, g5, g7, g9, e1, c1, hld, hGS, k2]
         rw [k2] at hS1 gq
         rw [← hS1]
         refine W.masked (hW.fr _) (Fw hF (d := d + 8) (cQ.st.mask fun k hk => ?_) (Wu hGQ fun k hk => ?_) K) ?_
         · have := hpl k hk
           have : ¬ k = S.next := by omega
           exact ⟨by (simp only [hidden, shielded, noteAt, Z2, Bool.or_false, Bool.or_eq_false_iff, Bool.and_eq_false_iff, Yb, Yr, Yv, true_and, and_true, true_or, or_true] <;> omega), by (simp only [hidden, shielded, noteAt, Z2, Bool.or_false, Bool.or_eq_false_iff, Bool.and_eq_false_iff, Yb, Yr, Yv, true_and, and_true, true_or, or_true] <;> omega)⟩
         · have : ¬ k = S.next := by omega
           exact ⟨by (simp only [hidden, shielded, noteAt, Z2, Bool.or_false, Bool.or_eq_false_iff, Bool.and_eq_false_iff, Yb, Yr, Yv, true_and, and_true, true_or, or_true] <;> omega), by (simp only [hidden, shielded, noteAt, Z2, Bool.or_false, Bool.or_eq_false_iff, Bool.and_eq_false_iff, Yb, Yr, Yv, true_and, and_true, true_or, or_true] <;> omega)⟩
         rintro v6 s6 ⟨h6, kv6, vv6, c6, X6, o6⟩ df
         simp only at h6 c6 X6
         subst h6
         have X6' := Ext.unmask' X6 df
         have hown : ∀ k, k ∈ own p kv6 vv6 → k ∈ own p kv vv ∨ S.next + 1 ≤ k := fun k hk => by
          rcases o6 k hk with h | h
          · exact .inl h
          · exact .inr (by rw [← nQ]; exact h)
         have c6' := Xg.unmask c6 X6 (fun k hk => by
          have : ¬ k = S.next := by
           rcases hown k hk with h | h
           · have := hpl k h; omega
           · omega
          (simp only [hidden, shielded, noteAt, Z2, Bool.or_false, Bool.or_eq_false_iff, Bool.and_eq_false_iff, Yb, Yr, Yv, true_and, and_true, true_or, or_true] <;> omega))
         obtain ⟨S6, hS6⟩ : ∃ S6 : DS, S6 = Go.Dx.unmask S1 s6 := ⟨_, rfl⟩
         have n6 : s6.next = S6.next := by rw [hS6]; rfl
         rw [← hS6] at X6' c6'
         have hG6 := X6'.good hGQ
         have hle6 := X6'.le
         have hl6 := c6'.lt
         have cr6 := cQ.rf.keep X6' (fun hk => (cS.s1 q hk).1 (by simp)) (fun k hk h => (cS.s1 k h).1 (by simp [hk]))
         have gq6 := X6'.keep gq (fun h => by have := hpl _ h; omega)
         simp (maxSteps := 4000000) only [YO, Yu, zF, zl, zB, zf, zd, zc, Nat.reduceEqDiff, z0, z1, z4, z5, List.nil_append, List.cons_append, foot, ← hS6, n6, g7]
         refine W.mono (Py hR hR2 (d := d + 12) (by omega) (by omega) cr6 hG6 K) ?_
         rintro ⟨v7, s7⟩ ⟨h7, w7, c7, X7, n7⟩
         simp only at h7 c7 X7 n7
         subst h7
         have hGE := X7.good hG6
         have gqE := X7.keep gq6 (by simp; omega)
         have hq0 := cS.s2 q (by simp)
         have X0E : Ext [] s s7 := (XS.trans' XQ).trans ((X6'.weaken (G := q :: own p kv vv) (by intro k hk; exact .inl (List.mem_cons_of_mem _ hk))).trans' (X7.weaken (by simp))) (fun k hk => by
          rcases List.mem_cons.1 hk with rfl | h
          · exact .inr hq0
          · exact .inr (cS.s1 k h).2)
         obtain ⟨_, hi2, hi3⟩ := P0 (k := K) cS.st.so hll cS.ok
         have cA : SdA s7 s.next p q kv6 vv6 w7 (WY K L) room := by
          refine ⟨c6'.keep X7 (fun k hk => ?_), c7, hi3, hi2, fun k hk => ⟨fun hk2 => ?_, ?_⟩, fun k hk => ?_⟩
          · rcases hown k hk with h | h
            · have := (cS.s1 k h).1
              simp only [List.mem_cons, not_or] at this
              simp [this.1]
            · simp; omega
          · have hk6 := hl6 k hk
            have hk7 : k = q ∨ k ∈ blk w ∨ S6.next ≤ k := by
             rcases List.mem_cons.1 hk2 with h | h
             · exact .inl h
             · rcases n7 k h with h | h
               · exact .inr (.inl h)
               · exact .inr (.inr h)
            rcases hown k hk with h | h
            · have := (cS.s1 k h).1
              simp only [List.mem_cons, not_or] at this
              rcases hk7 with h7 | h7 | h7
              · exact this.1 h7
              · exact this.2 h7
              · omega
            · rcases hk7 with h7 | h7 | h7
              · omega
              · have := hwl k h7; omega
              · omega
          · rcases hown k hk with h | h
            · exact (cS.s1 k h).2
            · omega
          · rcases List.mem_cons.1 hk with rfl | h
            · exact hq0
            · rcases n7 k h with h | h
              · exact cS.s2 k (List.mem_cons_of_mem _ h)
              · omega
         simp (maxSteps := 4000000) only [ze, zK, zi, zm, YO, ZV, ZD, zk, zI, Z5, Zv, zl, zf, zd, zc, Nat.reduceEqDiff, z0, z1, if_false, Bool.not_true, z3, List.nil_append, List.cons_append, foot, beq_self_eq_true]
         refine VY hF hI hR hR2 hK hL hW (d := d + 1) cA hr1 hGE (by simp (maxSteps := 4000000) only [zc, Nat.reduceEqDiff, z0, g5]) (by simp (maxSteps := 4000000) only [zc, Nat.reduceEqDiff, z0, g7]) (by simp (maxSteps := 4000000) only [zd, zc, Nat.reduceEqDiff, z0]) (by simp (maxSteps := 4000000) only [zd]) gqE (fun t' S' ht X' => ?_)
         have h1' : t'.get 1 = some v1 := by rw [ht 1 (by simp), hv2]; simp (maxSteps := 4000000) only [zc, Nat.reduceEqDiff, z0, g1]
         have h5' := ht 5 (by simp)
         have h7' : t'.get 7 = some (.pointer (some ⟨q, 0, none⟩)) := by rw [ht 7 (by simp)]; simp (maxSteps := 4000000) only [zc, Nat.reduceEqDiff, z0, g7]
         have h9' : t'.get 9 = some (.int .i64 (i : Int)) := by rw [ht 9 (by simp)]; simp (maxSteps := 4000000) only [zc, Nat.reduceEqDiff, z0, g9]
         simp only [PT.get_put, Nat.reduceEqDiff, if_true, if_false, g5] at h5'
         simp (maxSteps := 4000000) only [zh, ze, zK, zi, zW, zm, zq, zg, zp, zk, zI, zP, z7, Zb, zl, zj, zf, zd, z1, if_true, h9', w1]
         exact hfin _ _ _ _ _ _ _ (cA.keep X') (X0E.trans' X') ⟨by simp (maxSteps := 4000000) only [zc, Nat.reduceEqDiff, z0, h1'], by simp (maxSteps := 4000000) only [zc, Nat.reduceEqDiff, z0, h5'], by simp (maxSteps := 4000000) only [zc, Nat.reduceEqDiff, z0, h7'], by simp (maxSteps := 4000000) only [zd]⟩
       · by_cases k3 : kind = 3
         · simp (maxSteps := 4000000) (maxDischargeDepth := 8) only [zr, zh, zx, zN, zM, ze, zi, zm, zq, ZH, ZB, zC, zu, zg, zp, zY, ZD, zk, zI, Zd, zP, Z5, zQ, Yy, Zk, Zl, Zz, Zi, zF, zt, z7, Zb, Zv, zl, zj, zB, zf, zy, zd, zc, z0, z1, z4, z5, zL, Cells.get, getN, Nat.zero_add, Nat.reduceAdd, Zh, zO, List.length_cons, List.length_nil, allOne, zJ, Bool.and_self, Bool.and_true, Nat.beq_eq, Nat.ble_eq, Nat.blt_eq, Nat.le_refl, if_true, Bool.not_false, DS.wrC, Cells.size, Cells.fillFrom, Cells.set, Zj, DS.upd_get_self, Option.map_some, wrN, YF, Nat.add_zero, zD, decide_true, decide_false, Int.reduceEq, zo, zA, ZF, zX, ZW, Nat.reduceLT, Nat.lt_add_one, g1, g5, g7, g9, e1, c1, hld, hGS, k3]
           rw [k3] at hS1 gq
           rw [← hS1]
           refine W.mono (Nh hK (d := d + 12) cQ.st hGQ) ?_
           rintro ⟨v6, s6⟩ ⟨p', kv', vv', h6, c6, X6, n6⟩
           simp only at h6 c6 X6 n6
           subst h6
           have hG6 := X6.good hGQ
           have gq6 := X6.keep gq (by simp)
           have c61 := cQ.keep X6
           have hl6 := c6.lt
           simp (maxSteps := 4000000) only [zr, zh, zx, zM, ze, zi, zm, zq, zu, zg, zp, ZD, zk, zI, Z5, zQ, Zl, zF, zt, Zv, zl, zj, zB, zf, zd, zc, Nat.reduceEqDiff, z0, z1, z4, z5, zL, Cells.get, getN, Nat.zero_add, if_false, Bool.not_false, z3, g5, gq6]
           refine W.mono (GG hF (d := d + 8) c61.st hG6 K V (by omega)) ?_
           rintro ⟨v7, s7⟩ ⟨_, kv7, vv7, c7, X7, o7⟩
           simp only at c7 X7 o7
           have hG7 := X7.good hG6
           have gq7 := X7.keep gq6 (fun h => by have := hpl _ h; omega)
           simp (maxSteps := 4000000) only [zr, zh, ze, zi, zm, zq, zg, zp, zk, zI, zQ, Zl, zF, zt, zl, zB, zf, zd, zc, Nat.reduceEqDiff, z0, z1, z4, z5, zL, Cells.get, getN, Nat.zero_add, g5, gq7]
           refine W.mono (Fw hF (d := d + 8) c7 hG7 V) ?_
           rintro ⟨v8, s8⟩ ⟨_, kv8, vv8, c8, X8, o8⟩
           simp only at c8 X8 o8
           have hGE := X8.good hG7
           have hle6 := X6.le
           have hle7 := X7.le
           have h78 : ∀ k, k ∈ own p kv7 vv7 → k ∈ own p kv vv ∨ s6.next ≤ k := o7
           have gqE := X8.keep gq7 (fun h => by
            rcases h78 _ h with h | h
            · have := hpl _ h; omega
            · omega)
           have X68 : Ext (own p kv vv) s6 s8 := X7.trans X8 h78
           have X0E : Ext [] s s8 := ((XS.trans' XQ).trans' X6).trans X68 (fun k hk => .inr (cS.s1 k hk).2)
           have cA : SdA s8 s.next p' q kv' vv' w L room := by
            refine ⟨c6.keep X68 (fun k hk h => ?_), c61.rf.keep X68 (fun hk => (cS.s1 q hk).1 (by simp)) (fun k hk h => (cS.s1 k h).1 (by simp [hk])), cS.ok, cS.ll, fun k hk => ⟨fun hk2 => ?_, ?_⟩, cS.s2⟩
            · have h1 := n6 k hk
              have h2 := hpl k h
              omega
            · have h1 := n6 k hk
              have h2 := hqw k hk2
              omega
            · have h1 := n6 k hk
              omega
           simp (maxSteps := 4000000) only [zh, ze, zK, zi, zm, zq, zg, zI, zl, zf, zd, zc, Nat.reduceEqDiff, z0, z1]
           refine VY hF hI hR hR2 hK hL hW (d := d + 1) cA hr1 hGE (by simp (maxSteps := 4000000) only [zd, g5]) (by simp (maxSteps := 4000000) only [zc, Nat.reduceEqDiff, z0, g7]) (by simp (maxSteps := 4000000) only [zd, zc, Nat.reduceEqDiff, z0]) (by simp (maxSteps := 4000000) only [zd, zc, Nat.reduceEqDiff, z0]) gqE (fun t' S' ht X' => ?_)
           have h1' : t'.get 1 = some v1 := by rw [ht 1 (by simp), hv2]; simp (maxSteps := 4000000) only [zc, Nat.reduceEqDiff, z0, g1]
           have h5' := ht 5 (by simp)
           have h7' : t'.get 7 = some (.pointer (some ⟨q, 0, none⟩)) := by rw [ht 7 (by simp)]; simp (maxSteps := 4000000) only [zc, Nat.reduceEqDiff, z0, g7]
           have h9' : t'.get 9 = some (.int .i64 (i : Int)) := by rw [ht 9 (by simp)]; simp (maxSteps := 4000000) only [zc, Nat.reduceEqDiff, z0, g9]
           simp only [PT.get_put, Nat.reduceEqDiff, if_true, if_false, g5] at h5'
           simp (maxSteps := 4000000) only [zh, ze, zK, zi, zW, zm, zq, zg, zp, zk, zI, zP, z7, Zb, zl, zj, zf, zd, z1, if_true, h9', w1]
           exact hfin _ _ _ _ _ _ _ (cA.keep X') (X0E.trans' X') ⟨by simp (maxSteps := 4000000) only [zc, Nat.reduceEqDiff, z0, h1'], by simp (maxSteps := 4000000) only [zc, Nat.reduceEqDiff, z0, h5'], by simp (maxSteps := 4000000) only [zc, Nat.reduceEqDiff, z0, h7'], by simp (maxSteps := 4000000) only [zd]⟩
         · by_cases k4 : kind = 4
           · simp (maxSteps := 4000000) (maxDischargeDepth := 8) only [zr, zh, zx, zN, zM, ze, zi, zm, zq, ZH, ZB, zC, zu, zg, zp, zY, ZD, zk, zI, Zd, zP, Z5, zQ, Yy, Zk, Zl, Zz, Zi, zF, zt, z7, Zb, Zv, zl, zj, zB, zf, zy, zd, zc, z0, z1, z4, z5, zL, Cells.get, getN, Nat.zero_add, Nat.reduceAdd, Zh, zO, List.length_cons, List.length_nil, allOne, zJ, Bool.and_self, Bool.and_true, Nat.beq_eq, Nat.ble_eq, Nat.blt_eq, Nat.le_refl, if_true, Bool.not_false, DS.wrC, Cells.size, Cells.fillFrom, Cells.set, Zj, DS.upd_get_self, Option.map_some, wrN, YF, Nat.add_zero, zD, decide_true, decide_false, Int.reduceEq, zo, zA, ZF, zX, ZW, Nat.reduceLT, Nat.lt_add_one, g1, g5, g7, g9, e1, c1, hld, hGS, k4]
             rw [k4] at hS1 gq
             rw [← hS1]
             refine W.mono (VP hC hP hF hI (d := d + 2) cQ.st hGQ ⟨hr0, by omega⟩ (by omega)) ?_
             rintro ⟨v6, s6⟩ ⟨hv6, hsh6, hb6, X6⟩
             simp only at hv6 hsh6 hb6 X6
             have hG6 := X6.good hGQ
             have hSR := SlR.of hv6 hsh6
             simp (maxSteps := 4000000) only [zq, zg, zF, zl, zB, zf, zd, z1, z4, z5]
             refine W.mono (Fr hC hG' hP hU (d := d + 5) hSR (Dr room L) (by rw [Q6]; omega) hG6) ?_
             rintro ⟨v7, s7⟩ ⟨X7, h7⟩
             simp only at X7 h7
             have hgood := GY ⟨hr0, hr1⟩ hll cS.ok cS.st.so
             rcases h7 with ⟨hng, _⟩ | ⟨_, p', kv', vv', hv7, c7, n7⟩
             · exact absurd hgood hng
             rw [FF ⟨hr0, hr1⟩ hll cS.ok] at c7
             subst hv7
             have hGE := X7.good hG6
             have X67 := X6.trans' X7
             have gqE := X67.keep gq (by simp)
             have X0E : Ext [] s s7 := (XS.trans' XQ).trans' X67
             have hle6 := X6.le
             have cA : SdA s7 s.next p' q kv' vv' w L room := by
              refine ⟨c7, (cQ.keep X67).rf, cS.ok, cS.ll, fun k hk => ⟨fun hk2 => ?_, ?_⟩, cS.s2⟩
              · have h1 := n7 k hk
                have h2 := hqw k hk2
                have h3 : s6.next ≤ k := h1
                omega
              · have h3 : s6.next ≤ k := n7 k hk
                omega
             simp (maxSteps := 4000000) only [zr, zh, zx, zM, ze, zK, zi, zm, zq, ZH, Zm, zu, zg, zp, ZD, zk, zI, Zd, zP, Z5, Yg, zt, z7, Zb, Zv, zl, zj, zf, zd, zc, Nat.reduceEqDiff, z0, z1, getN, if_true, if_false, Bool.not_true, Bool.not_false, z3, decide_true]
             refine VY hF hI hR hR2 hK hL hW (d := d + 1) cA hr1 hGE (by simp (maxSteps := 4000000) only [zd, g5]) (by simp (maxSteps := 4000000) only [zc, Nat.reduceEqDiff, z0, g7]) (by simp (maxSteps := 4000000) only [zd, zc, Nat.reduceEqDiff, z0]) (by simp (maxSteps := 4000000) only [zd, zc, Nat.reduceEqDiff, z0]) gqE (fun t' S' ht X' => ?_)
             have h1' : t'.get 1 = some v1 := by rw [ht 1 (by simp), hv2]; simp (maxSteps := 4000000) only [zc, Nat.reduceEqDiff, z0, g1]
             have h5' := ht 5 (by simp)
             have h7' : t'.get 7 = some (.pointer (some ⟨q, 0, none⟩)) := by rw [ht 7 (by simp)]; simp (maxSteps := 4000000) only [zc, Nat.reduceEqDiff, z0, g7]
             have h9' : t'.get 9 = some (.int .i64 (i : Int)) := by rw [ht 9 (by simp)]; simp (maxSteps := 4000000) only [zc, Nat.reduceEqDiff, z0, g9]
             simp only [PT.get_put, Nat.reduceEqDiff, if_true, if_false, g5] at h5'
             simp (maxSteps := 4000000) only [zh, ze, zK, zi, zW, zm, zq, zg, zp, zk, zI, zP, z7, Zb, zl, zj, zf, zd, z1, if_true, h9', w1]
             exact hfin _ _ _ _ _ _ _ (cA.keep X') (X0E.trans' X') ⟨by simp (maxSteps := 4000000) only [zc, Nat.reduceEqDiff, z0, h1'], by simp (maxSteps := 4000000) only [zc, Nat.reduceEqDiff, z0, h5'], by simp (maxSteps := 4000000) only [zc, Nat.reduceEqDiff, z0, h7'], by simp (maxSteps := 4000000) only [zd]⟩
           · simp (maxSteps := 4000000) (maxDischargeDepth := 8) only [zr, zh, zx, zN, zM, ze, zK, zi, zm, zq, ZH, ZB, zC, zu, zg, zp, zY, ZD, zk, zI, Zd, zP, Z5, zQ, Yy, Zk, Zl, Zz, Zi, zt, z7, Zb, Zv, zl, zj, zf, zy, zd, zc, z0, z1, zL, Cells.get, getN, Nat.zero_add, Nat.reduceAdd, Zh, zO, List.length_cons, List.length_nil, allOne, zJ, Bool.and_self, Bool.and_true, Nat.beq_eq, Nat.ble_eq, Nat.blt_eq, Nat.le_refl, if_true, Bool.not_false, DS.wrC, Cells.size, Cells.fillFrom, Cells.set, Zj, DS.upd_get_self, Option.map_some, wrN, YF, Nat.add_zero, zD, decide_true, decide_false, zo, zA, ZF, zX, ZW, Nat.reduceLT, Nat.lt_add_one, g1, g5, g7, g9, e1, c1, hld, hGS, k1, k2, k3, k4]
             rw [← hS1]
             have hGE := hGQ
             have gqE := gq
             have X0E := XS.trans' XQ
             have cA := cQ
             refine VY hF hI hR hR2 hK hL hW (d := d + 1) cA hr1 hGE (by simp (maxSteps := 4000000) only [zc, Nat.reduceEqDiff, z0, g5]) (by simp (maxSteps := 4000000) only [zc, Nat.reduceEqDiff, z0, g7]) (by simp (maxSteps := 4000000) only [zd, zc, Nat.reduceEqDiff, z0]) (by simp (maxSteps := 4000000) only [zd, zc, Nat.reduceEqDiff, z0]) gqE (fun t' S' ht X' => ?_)
             have h1' : t'.get 1 = some v1 := by rw [ht 1 (by simp), hv2]; simp (maxSteps := 4000000) only [zc, Nat.reduceEqDiff, z0, g1]
             have h5' := ht 5 (by simp)
             have h7' : t'.get 7 = some (.pointer (some ⟨q, 0, none⟩)) := by rw [ht 7 (by simp)]; simp (maxSteps := 4000000) only [zc, Nat.reduceEqDiff, z0, g7]
             have h9' : t'.get 9 = some (.int .i64 (i : Int)) := by rw [ht 9 (by simp)]; simp (maxSteps := 4000000) only [zc, Nat.reduceEqDiff, z0, g9]
             simp only [PT.get_put, Nat.reduceEqDiff, if_true, if_false, g5] at h5'
             simp (maxSteps := 4000000) only [zh, ze, zK, zi, zW, zm, zq, zg, zp, zk, zI, zP, z7, Zb, zl, zj, zf, zd, z1, if_true, h9', w1]
             exact hfin _ _ _ _ _ _ _ (cA.keep X') (X0E.trans' X') ⟨by simp (maxSteps := 4000000) only [zc, Nat.reduceEqDiff, z0, h1'], by simp (maxSteps := 4000000) only [zc, Nat.reduceEqDiff, z0, h5'], by simp (maxSteps := 4000000) only [zc, Nat.reduceEqDiff, z0, h7'], by simp (maxSteps := 4000000) only [zd]⟩
   · obtain rfl : i = l.length := by omega
     have e1 : ¬ (l.length : Int) < (l.length : Int) := by omega
     obtain ⟨a, cc, hv2⟩ := hvl
     rw [hv2] at g1
     simp (maxSteps := 4000000) only [zr, zh, zx, ZA, ze, Ze, Zg, zi, Zf, zm, zq, ZH, XM, zu, zg, zp, zk, zI, Zd, zP, Zk, zt, z7, Zb, zl, zj, zf, zd, zc, Nat.reduceEqDiff, z0, z1, if_true, if_false, z3, List.nil_append, decide_false, g1, g5, g7, g9, e1]
     exact NB hC hP hF hI hB hO hS hD (d := d + 1) cS ⟨hr0, hr1⟩ hGS hlf7 (by simp (maxSteps := 4000000) only [zc, Nat.reduceEqDiff, z0, g5]) (by simp (maxSteps := 4000000) only [zc, Nat.reduceEqDiff, z0, g7]) (fun S' => rfl)
end
end Go.Dx.StA
