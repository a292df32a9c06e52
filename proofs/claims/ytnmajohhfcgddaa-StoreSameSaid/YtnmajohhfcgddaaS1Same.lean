/- StoreSame, at the evaluator's level (made by tools/gen.py out of same.t). -/
import Derived.Test.YtnmajohhfcgddaaS1Pk
import Derived.Test.YtnmajohhfcgddaaS1Bl
import Derived.Test.YtnmajohhfcgddaaDxSm
import Derived.Test.YtnmajohhfcgddaaDxRow
import Derived.Test.YtnmajohhfcgddaaDxTopM
set_option linter.unusedVariables false
set_option linter.unusedSimpArgs false
set_option linter.unusedSectionVars false
set_option maxRecDepth 100000
set_option maxHeartbeats 4000000
namespace Go.Dx.StA
open Go Go.Dx Go.Dx.Search Go.Dx.St Go.Proofs.Ytnmajohhfcgddaa
theorem toBytes_u8 : ∀ r : List Int, toBytes (u8s r) = some (r.map fun n => UInt8.ofNat n.toNat)
  | [] => rfl
  | x :: r => by
    show (match toBytes (u8s r) with | some l => some (UInt8.ofNat x.toNat :: l) | none => none) = _
    rw [toBytes_u8 r]; rfl
theorem bytesEq_self (l : List UInt8) : bytesEq l l = true := by rw [bytesEq_eq]; exact beq_self_eq_true l
theorem elems_self : ∀ (n f : Nat) (l : List Value), (∀ x, x ∈ l → ∃ a, x = .int .u8 a) → l.length = n → n < f → eqElemsF f (.one .int) 1 l l n = some true
  | 0, f + 1, _, _, _, _ => rfl
  | n + 1, f + 1, [], _, h, _ => by simp at h
  | n + 1, f + 1, x :: l, h, hl, hf => by
    obtain ⟨a, rfl⟩ := h x (List.mem_cons_self ..)
    unfold eqElemsF
    have e1 : eqOne .int (.int .u8 a) (.int .u8 a) = some true := by simp [eqOne]
    simp only [e1]
    exact elems_self n f l (fun y hy => h y (List.mem_cons_of_mem _ hy)) (by simpa using hl) (by omega)
theorem arr_self {l : List Value} (h : U .u8 32 l) : eqValF 5000 (.arr 32 1 (.one .int)) (.agg ⟨l⟩) (.agg ⟨l⟩) = some true := by
  show eqElemsF 4999 (.one .int) 1 l l 32 = some true
  refine elems_self 32 4999 l (fun x hx => ?_) h.1 (by omega)
  obtain ⟨i, hi, e⟩ := List.getElem_of_mem hx
  have := h.2 i (by rw [← h.1]; exact hi)
  rw [getN_eq, List.getElem?_eq_getElem hi] at this
  exact ⟨_, by rw [← e]; exact Option.some.inj this⟩
theorem InRow.keep {s s' : DS} {F : List Nat} {v : Value} {l : List (List Value)} (h : InRow s v l) (e : Ext F s s') (hF : ∀ k, k ∈ F → ∀ c, s.get k ≠ some (.cells c true)) : InRow s' v l := by
  rcases h with h | ⟨b, c, h1, h2⟩
  · exact .inl h
  · exact .inr ⟨b, c, h1, e.keep h2 fun hb => hF b hb _ h2⟩
theorem StAt.notRo {s : DS} {p : Nat} {kv vv : Value} {L : List Ent} {room : Int} (c : StAt s p kv vv L room) : ∀ k, k ∈ own p kv vv → ∀ x, s.get k ≠ some (.cells x true) := by
  intro k hk x hx
  simp only [own, List.mem_cons, List.mem_append] at hk
  rcases hk with rfl | hk | hk
  · rw [c.gp] at hx; cases hx
  · rcases c.ks with ⟨rfl, _⟩ | ⟨b, sp, cc, ext, rfl, h⟩
    · simp [blk] at hk
    · simp [blk] at hk; subst hk; rw [h.get] at hx; cases hx
  · rcases c.vs with ⟨rfl, _⟩ | ⟨b, sp, cc, ext, rfl, h⟩
    · simp [blk] at hk
    · simp [blk] at hk; subst hk; rw [h.get] at hx; cases hx
theorem putR_eq {k v : Int} {L : List Ent} {room : Int} (h : (L.length : Int) < room) : putR k v L room = putL k v L := by
  unfold putR
  split
  · rfl
  · rw [if_neg (by omega)]
def entOf (x : List Value) : Ent := (nAt x 1, nAt x 2)
def finC : DCode := (.seq (.region [⟨some 110, .mv (tm 3), none, [], true⟩, ⟨some 113, .mv (tm 5), none, [], true⟩, ⟨some 111, .call (.func 18) [.tmp 110], none, [], true⟩, ⟨some 112, .cvToStr (tm 111), none, [], true⟩, ⟨some 114, .call (.func 18) [.tmp 113], none, [3], true⟩, ⟨some 115, .cvToStr (tm 114), none, [], true⟩, ⟨some 116, .bin .eql (tm 112) (tm 115), none, [], true⟩, ⟨some 117, .mv (tm 116), none, [], true⟩, ⟨some 118, .mv (tm 3), some (117, true), [], true⟩, ⟨some 120, .mv (tm 5), some (117, true), [], true⟩, ⟨some 119, .call (.func 20) [.tmp 118], some (117, true), [], true⟩, ⟨some 121, .call (.func 20) [.tmp 120], some (117, true), [], true⟩, ⟨some 122, .eq false (.arr 32 1 (.one .int)) (tm 119) (tm 121), some (117, true), [], true⟩, ⟨some 123, .pick (tm 117) (tm 122) (.const (.bool false)), none, [], true⟩, ⟨some 124, .mv (tm 123), none, [], true⟩, ⟨some 125, .mv (tm 3), some (124, true), [], true⟩, ⟨some 127, .mv (tm 7), some (124, true), [], true⟩, ⟨some 126, .call (.func 14) [.tmp 125], some (124, true), [], true⟩, ⟨some 128, .blenM (tm 127), some (124, true), [], true⟩, ⟨some 129, .bin .eql (tm 126) (tm 128), some (124, true), [], true⟩, ⟨some 130, .pick (tm 124) (tm 129) (.const (.bool false)), none, [], true⟩, ⟨some 2, .mv (tm 130), none, [], true⟩]) (.ret))
def restB : DCode := (.seq (.seq (.region [pv 59 0, pp 60 (.blenL (tm 59)), pp 61 (.bin .sub (tm 60) (.const (.int .i64 1))), pv 9 61]) (.block 2 (.loop (.seq (.seq (.region [pv 62 9, pp 63 (.bin .geq (tm 62) (.const (.int .i64 0)))]) (.cond (tm 63) (.skip) (.exit 2))) (.seq (.block 3 (.seq (.region [pv 66 9, pp 67 (.bin .lss (tm 66) (.const (.int .i64 100))), pv 68 67, pw 69 7 68 true, pw 70 0 68 true, pw 71 9 68 true, pg 72 (.ixL 3 (tm 70) (tm 71)) 68 true, pg 73 (.fadr 1 (tm 72)) 68 true, pg 74 (.ld none (tm 73)) 68 true, pg 75 (.look .num (.bool false) false (tm 69) (tm 74)) 68 true, pg 76 (.un .not (tm 75)) 68 true, pp 77 (.pick (tm 68) (tm 76) (.const (.bool false)))]) (.cond (tm 77) (.seq (.region [pv 78 7, pv 79 0, pv 80 9, pp 81 (.ixL 3 (tm 79) (tm 80)), pp 82 (.fadr 1 (tm 81)), pp 83 (.ld none (tm 82)), ⟨none, .mupd .num (tm 78) (tm 83) (.const (.bool true)), none, [], false⟩]) (.seq (.region [pv 84 5, pv 85 0, pv 86 9, pp 87 (.ixL 3 (tm 85) (tm 86)), pp 88 (.fadr 1 (tm 87)), pp 89 (.ld none (tm 88)), pp 90 (.call (.func 11) [.tmp 84, .tmp 89, .const (.int .i64 7)])]) (.seq (.region [pv 91 5, pv 92 0, pv 93 9, pp 94 (.ixL 3 (tm 92) (tm 93)), pp 95 (.fadr 1 (tm 94)), pp 96 (.ld none (tm 95)), pp 97 (.call (.func 19) [.tmp 91, .tmp 96])]) (.region [pv 98 5, pv 99 0, pv 100 9, pp 101 (.ixL 3 (tm 99) (tm 100)), pp 102 (.fadr 1 (tm 101)), pp 103 (.ld none (tm 102)), pv 104 0, pv 105 9, pp 106 (.ixL 3 (tm 104) (tm 105)), pp 107 (.fadr 2 (tm 106)), pp 108 (.ld none (tm 107)), pp 109 (.call (.func 11) [.tmp 98, .tmp 103, .tmp 108])])))) (.skip)))) (.region [pv 64 9, pp 65 (.bin .sub (tm 64) (.const (.int .i64 1))), pv 9 65])))))) finC)
def d5x : DFunc := { ntmps := 131, results := [.tmp 2], body := .seq (.region [pp 2 (.mv (.const (.bool false)))]) (.seq (.region [pp 11 (.call (.func 9) [.const (.int .i64 4096)]), pv 10 11, pp 12 (.ext (tm 10) 0), pp 13 (.ext (tm 10) 1), pv 3 12, pv 4 13]) (.seq (.region [pp 15 (.call (.func 9) [.const (.int .i64 4096)]), pv 14 15, pp 16 (.ext (tm 14) 0), pp 17 (.ext (tm 14) 1), pv 5 16, pv 6 17]) (.seq (.seq (.region [pp 18 (.call (.func 10) []), pp 19 (.un .not (tm 18)), pv 20 19, pw 21 4 20 false, pg 22 (.bin .neq (tm 21) (.const (.int .i64 0))) 20 false, pp 23 (.pick (tm 20) (.const (.bool true)) (tm 22)), pv 24 23, pw 25 6 24 false, pg 26 (.bin .neq (tm 25) (.const (.int .i64 0))) 24 false, pp 27 (.pick (tm 24) (.const (.bool true)) (tm 26)), pv 28 27, pw 29 3 28 false, pg 30 (.eq false (.one .ptr) (tm 29) (.const (.pointer none))) 28 false, pp 31 (.pick (tm 28) (.const (.bool true)) (tm 30)), pv 32 31, pw 33 5 32 false, pg 34 (.eq false (.one .ptr) (tm 33) (.const (.pointer none))) 32 false, pp 35 (.pick (tm 32) (.const (.bool true)) (tm 34))]) (.cond (tm 35) (.seq (.region [pp 2 (.mv (.const (.bool false)))]) (.ret)) (.skip))) (.seq (.region [pp 36 (.mkmap none), pv 7 36]) (.seq (.seq (.region [pp 8 (.mv (.const (.int .i64 0)))]) (.block 0 (.loop (.seq (.seq (.region [pv 37 8, pv 38 0, pp 39 (.blenL (tm 38)), pp 40 (.bin .lss (tm 37) (tm 39)), pv 41 40, pw 42 8 41 true, pg 43 (.bin .lss (tm 42) (.const (.int .i64 100))) 41 true, pp 44 (.pick (tm 41) (tm 43) (.const (.bool false)))]) (.cond (tm 44) (.skip) (.exit 0))) (.seq (.block 1 (.region [pv 47 3, pv 48 0, pv 49 8, pp 50 (.ixL 3 (tm 48) (tm 49)), pp 51 (.fadr 1 (tm 50)), pp 52 (.ld none (tm 51)), pv 53 0, pv 54 8, pp 55 (.ixL 3 (tm 53) (tm 54)), pp 56 (.fadr 2 (tm 55)), pp 57 (.ld none (tm 56)), pp 58 (.call (.func 11) [.tmp 47, .tmp 52, .tmp 57])])) (.region [pv 45 8, pp 46 (.bin .add (tm 45) (.const (.int .i64 1))), pv 8 46])))))) restB))))) }
theorem d5x_eq : d5 = d5x := rfl
structure BI (s0 : DS) (p : Nat) (kv vv v0 : Value) (l : List (List Value)) (q m : Nat) (n : Nat) (x : St) : Prop where
  ex : ∃ (j : Nat) (kw vw : Value) (es : List DEntry) (clock : Nat) (Lb : List Ent) (Sn : List Int), n = j ∧ j ≤ l.length ∧ x.defers = [] ∧
    (x.t.get 0 = some v0 ∧ x.t.get 3 = some (.pointer (some ⟨p, 0, none⟩)) ∧ x.t.get 5 = some (.pointer (some ⟨q, 0, none⟩)) ∧ x.t.get 7 = some (.map (some m)) ∧ x.t.get 9 = some (.int .i64 ((j : Int) - 1))) ∧
    StAt x.s p kv vv (puts ((l.take 100).map entOf) []) 4096 ∧ InRow x.s v0 l ∧ StAt x.s q kw vw Lb 4096 ∧ Suf (((l.take 100).map entOf).drop j) Lb Sn ∧ Seen es Sn ∧ x.s.get m = some (.map es clock) ∧ x.s.wr m = true ∧
    Lb.length ≤ 100 - j ∧ x.s.Good ∧ s0.next ≤ x.s.next ∧ ∀ k, k ∈ own q kw vw → k = q ∨ s0.next ≤ k
structure AI2 (s0 : DS) (p q m : Nat) (v0 : Value) (l : List (List Value)) (n : Nat) (x : St) : Prop where
  ex : ∃ (i : Nat) (kv vv : Value), n = 101 - i ∧ i ≤ 100 ∧ i ≤ l.length ∧ x.defers = [] ∧
    (x.t.get 0 = some v0 ∧ x.t.get 3 = some (.pointer (some ⟨p, 0, none⟩)) ∧ x.t.get 5 = some (.pointer (some ⟨q, 0, none⟩)) ∧ x.t.get 7 = some (.map (some m)) ∧ x.t.get 8 = some (.int .i64 (i : Int))) ∧
    StAt x.s p kv vv (puts ((l.take i).map entOf) []) 4096 ∧ InRow x.s v0 l ∧ StAt x.s q (.slice none 0 0) (.slice none 0 0) [] 4096 ∧ x.s.get m = some (.map [] 0) ∧ x.s.wr m = true ∧ x.s.Good ∧ s0.next ≤ x.s.next ∧ ∀ k, k ∈ own p kv vv → k = p ∨ s0.next ≤ k
section
variable {E : Env} (hC : CFns E) (hP : PkFns E) (hF : Fns E) (hI : Its E) (hB : BFns E) {s : DS} {d : Nat} {p : Nat} {kv vv : Value} {L : List Ent} {room : Int}
theorem packB_len (room : Int) (L : List Ent) : (packB room L).length = 4 + L.length * 16 := by
  have hcat : ∀ M : List Ent, (catE entB M).length = M.length * 16 := fun M => by
    induction M with
    | nil => rfl
    | cons a M ih => unfold catE at ih ⊢; rw [List.flatMap_cons, List.length_append, ih]; simp [entB, leB_len]; omega
  show (leB room 2 ++ (leB (L.length : Int) 2 ++ catE entB L)).length = _
  rw [List.length_append, List.length_append, leB_len, leB_len, hcat]
  omega
include hC hP hF hI hB
theorem Digest_ok (c : StAt s p kv vv L room) (hG : s.Good) (hroom : 0 ≤ room ∧ room ≤ 65535) (hl : L.length ≤ 4096) (hlf : 4 + L.length * 16 < E.lf) (f20 : E.fn 20 = some d20) (i20 : E.intr 20 = none) :
    W (dcall E (d + 13) (.func (.func 20) #[] #[]) [.pointer (some ⟨p, 0, none⟩)] s) fun r => r.1 = .agg ⟨sumsF [packB room L]⟩ ∧ Ext [] s r.2 := by
  refine W_cps fun Q hQ => ?_
  rw [W_enter0 i20 f20 rfl]
  simp (maxSteps := 4000000) (maxDischargeDepth := 8) only [WC_seq, WC_region, WC_cond, WC_skip, contS_normal, contR_ap, WO_nil, WO_pp, condC_false, contO_ap, atB_ap, W_some, W_mv, W_eq1, W_alloc, W_call, eqOne, ev_tmp, ev_const, ev_func, putT_some, get_put_eq, get_put_ne, not_false_eq_true, ofList_get, List.getElem?_cons_zero, Option.getD_some, List.map_cons, List.map_nil, if_false, Bool.not_false, Bool.false_eq_true, pp, pv, eq_lt, Nat.succ_pos, d20, hG]
  obtain ⟨S1, hS1⟩ : ∃ S1 : DS, S1 = s.new (.cells (.list [.int .u8 0, .int .u8 0, .int .u8 0, .int .u8 0, .int .u8 0, .int .u8 0, .int .u8 0, .int .u8 0, .int .u8 0, .int .u8 0, .int .u8 0, .int .u8 0, .int .u8 0, .int .u8 0, .int .u8 0, .int .u8 0, .int .u8 0, .int .u8 0, .int .u8 0, .int .u8 0, .int .u8 0, .int .u8 0, .int .u8 0, .int .u8 0, .int .u8 0, .int .u8 0, .int .u8 0, .int .u8 0, .int .u8 0, .int .u8 0, .int .u8 0, .int .u8 0]) false) := ⟨_, rfl⟩
  rw [← hS1]
  rw [show ([.int .u8 0, .int .u8 0, .int .u8 0, .int .u8 0, .int .u8 0, .int .u8 0, .int .u8 0, .int .u8 0, .int .u8 0, .int .u8 0, .int .u8 0, .int .u8 0, .int .u8 0, .int .u8 0, .int .u8 0, .int .u8 0, .int .u8 0, .int .u8 0, .int .u8 0, .int .u8 0, .int .u8 0, .int .u8 0, .int .u8 0, .int .u8 0, .int .u8 0, .int .u8 0, .int .u8 0, .int .u8 0, .int .u8 0, .int .u8 0, .int .u8 0, .int .u8 0] : List Value) = zerosV .u8 32 from rfl] at hS1
  have X1 : Ext [] s S1 := by rw [hS1]; exact Ext.new
  have hG1 := X1.good hG
  have gD1 : S1.get s.next = some (.cells (.list (zerosV .u8 32)) false) := by rw [hS1]; simp (maxSteps := 4000000) (maxDischargeDepth := 8) only [get_new_at, hG]
  have wD1 : S1.wr s.next = true := X1.wrs (hG _ (Nat.le_refl _)).2
  clear hS1
  refine W.mono (Pack_ok hC hP hF hI (c.keep X1 (by simp)) hG1 hroom hl) ?_
  rintro ⟨v2, s2⟩ ⟨hv, hsh, hb, X2⟩
  simp only at hv hsh hb X2
  have hR := SlR.of hv hsh
  have hG2 := X2.good hG1
  have gD2 := X2.keep gD1 (by simp)
  have wD2 := X2.wrs wD1
  obtain ⟨a, hv2, _⟩ := hsh
  have hcell : v2.cells.toList = [v2] := by rw [hv2]; rfl
  simp (maxSteps := 4000000) (maxDischargeDepth := 8) only [WO_pp, contO_ap, atL_ap, W_some, W_call, ev_tmp, ev_func, putT_some, get_put_eq, Option.getD_some, List.map_cons, List.map_nil, Nat.zero_add, List.length_cons, List.length_nil, Bool.and_self, Bool.and_eq_true, Nat.beq_eq, Nat.ble_eq, Nat.reduceLeDiff, Nat.le_refl, and_self, if_true, fillParts, List.take_zero, List.drop_succ_cons, List.nil_append, List.drop_nil, List.append_nil, W_bslice, repeatZ, atL_ap, Nat.mul_one, hG2, hcell]
  have gP : (s2.new (.cells (.list [v2]) false)).get s2.next = some (.cells (.list ([(v2, packB room L)].map Prod.fst)) false) := DS.new_get_self hG2
  have hG3 : (s2.new (.cells (.list [v2]) false)).Good := DS.new_good hG2
  have hpl := packB_len room L
  refine W.mono (sum_ok hB (d := d + 7) (b := s2.next) (ps := [(v2, packB room L)]) hG3 gP ?_ ?_ ?_ ?_) ?_
  · intro q hq
    obtain rfl := List.mem_singleton.1 hq
    exact hR.keep (Ext.new (F := [])) (by simp)
  · show 1 < E.lf
    omega
  · show 1 ≤ 1000000
    omega
  · intro q hq
    obtain rfl := List.mem_singleton.1 hq
    show (packB room L).length < E.lf
    omega
  rintro ⟨v3, s3⟩ ⟨h3, X3⟩
  simp only at h3 X3
  subst h3
  have hO : U .u8 32 (sumsF [packB room L]) := digF_U _
  have X23 : Ext [] s2 s3 := Ext.new.trans' X3
  have gD3 := X23.keep gD2 (by simp)
  have wD3 := X23.wrs wD2
  show contO _ _ _ _ _ _ (.agg ⟨sumsF [packB room L]⟩, s3)
  obtain ⟨o, ho⟩ : ∃ o, o = sumsF [packB room L] := ⟨_, rfl⟩
  rw [← ho] at hO ⊢
  have hfill9 : (Cells.list (zerosV .u8 32)).fillFrom 0 o = .list o := by
    rw [fill_list _ _ _ (by rw [hO.1]; decide), hO.1]
    simp [zerosV]
  have hrd : (s3.upd s.next (.cells (.list o) false)).read s.next 0 32 = some o := by
    unfold DS.read
    simp only [DS.upd_get_self, gD3, Option.map_some]
    rw [take_list _ _ _ (by rw [hO.1]; decide)]
    simp only [List.drop_zero]
    rw [List.take_of_length_le (by rw [hO.1]; exact Nat.le_refl _)]
  simp (maxSteps := 4000000) (maxDischargeDepth := 8) only [WC_ret, contS_normal, contR_ap, WO_nil, WO_pp, contO_ap, atD_ap, W_some, W_st, dread, Ends_ret, ev_tmp, putT_some, putT_none, get_put_eq, get_put_ne, not_false_eq_true, Option.getD_some, dresults, tupled, Nat.zero_add, st_wr, cells_agg, Bool.and_true, Nat.beq_eq, Nat.ble_eq, Nat.le_refl, if_true, DS.wrC, Cells.size, eq_lt, Nat.reduceLT, Nat.lt_add_one, gD3, wD3, hO.1, hO.allOne, hfill9, (zeros_U .u8 32).1, hrd]
  refine hQ _ ⟨by rw [ho], ?_⟩
  exact ((X1.trans' X2).trans' X23).trans (Ext.upd (F := [s.next]) (.inl (by simp))) (by simp)
theorem fin_ok (f20 : E.fn 20 = some d20) (i20 : E.intr 20 = none) {q m : Nat} {kw vw : Value} {es : List DEntry} {clock : Nat} {t : PT Value} (c : StAt s p kv vv L 4096) (c2 : StAt s q kw vw L 4096) (gm : s.get m = some (.map es clock)) (hes : es.length = L.length) (hG : s.Good) (hl : L.length ≤ 100)
    (g3 : t.get 3 = some (.pointer (some ⟨p, 0, none⟩))) (g5 : t.get 5 = some (.pointer (some ⟨q, 0, none⟩))) (g7 : t.get 7 = some (.map (some m))) :
    WC (dcall E (d + 13)) E.lf false finC ⟨t, s, []⟩ (Ends [.tmp 2] fun r => r.1 = .bool true) := by
  have hlf := hF.lf
  simp (maxSteps := 4000000) (maxDischargeDepth := 8) only [WC_seq, WC_region, WO_pn, contN_ap, W_mv, W_call, ev_tmp, ev_func, putT_some, get_put_eq, get_put_ne, not_false_eq_true, Option.getD_some, List.map_cons, List.map_nil, List.nil_append, List.cons_append, foot, eq_lt, Nat.reduceLT, finC, g3, g5, g7]
  refine W.mono (Pack_ok hC hP hF hI (d := d + 1) c hG (by omega) (by omega)) ?_
  rintro ⟨v1, s1⟩ ⟨hv1, hsh1, hb1, X1⟩
  simp only at hv1 hsh1 hb1 X1
  have hR1 := SlR.of hv1 hsh1
  have hpl := packB_len 4096 L
  rcases hR1 with ⟨_, h0⟩ | ⟨b1, o1, sp1, cc1, rfl, _, _, hrd1⟩
  · exfalso; rw [h0] at hpl; simp only [List.length_nil] at hpl; omega
  have htb := toBytes_u8 (packB 4096 L)
  simp (maxSteps := 4000000) (maxDischargeDepth := 8) only [WO_pn, WO_hn, contN_ap, atS_ap, W_some, W_call, dread, ev_tmp, ev_func, putT_some, get_put_eq, get_put_ne, not_false_eq_true, Option.getD_some, List.map_cons, List.map_nil, List.nil_append, List.cons_append, foot, W_cvToStr, eq_gt, Nat.reduceLT, Nat.lt_add_one, hrd1, htb]
  have hb1' : s.next ≤ b1 ∧ b1 < s1.next := hb1 b1 (by simp [blk])
  have hG1 := X1.good hG
  have c1' := c2.keep X1 (by simp)
  have hlt2 := c2.lt
  refine W.masked (hP.fr _) (Pack_ok hC hP hF hI (d := d + 1) (c1'.mask fun k hk => ?_) (mask_good hG1 fun k hk => ?_) (by omega) (by omega)) ?_
  · have := hlt2 k hk
    exact ⟨by (simp only [hidden, shielded, noteAt, memN, Bool.or_false, Bool.or_eq_false_iff, Bool.and_eq_false_iff, bleF, bltF, beqF, true_and, and_true, true_or, or_true] <;> omega), by (simp only [hidden, shielded, noteAt, memN, Bool.or_false, Bool.or_eq_false_iff, Bool.and_eq_false_iff, bleF, bltF, beqF, true_and, and_true, true_or, or_true] <;> omega)⟩
  · exact ⟨by (simp only [hidden, shielded, noteAt, memN, Bool.or_false, Bool.or_eq_false_iff, Bool.and_eq_false_iff, bleF, bltF, beqF, true_and, and_true, true_or, or_true] <;> omega), by (simp only [hidden, shielded, noteAt, memN, Bool.or_false, Bool.or_eq_false_iff, Bool.and_eq_false_iff, bleF, bltF, beqF, true_and, and_true, true_or, or_true] <;> omega)⟩
  rintro v2 s2 ⟨hv2, hsh2, hb2, X2⟩ df
  simp only at hv2 hsh2 hb2 X2
  rcases SlR.of hv2 hsh2 with ⟨_, h0⟩ | ⟨b2, o2, sp2, cc2, rfl, _, _, hrd2⟩
  · exfalso; rw [h0] at hpl; simp only [List.length_nil] at hpl; omega
  have X2' := Ext.unmask' X2 df
  have hsame : ∀ k, (unmask s1 s2).get k = s2.get k := fun k => unmask_at (by (simp only [hidden, shielded, noteAt, memN, Bool.or_false, Bool.or_eq_false_iff, Bool.and_eq_false_iff, bleF, bltF, beqF, true_and, and_true, true_or, or_true] <;> omega)) X2
  obtain ⟨S2, hS2⟩ : ∃ S2 : DS, S2 = unmask s1 s2 := ⟨_, rfl⟩
  have hrd2' : S2.read b2 o2 (packB 4096 L).length = some (u8s (packB 4096 L)) := by
    rw [hS2]
    unfold DS.read at hrd2 ⊢
    rw [hsame]
    exact hrd2
  rw [← hS2] at X2'
  have hG2 := X2'.good hG1
  have cA := (c.keep X1 (by simp)).keep X2' (by simp)
  have cB := c1'.keep X2' (by simp)
  have gm2 := X2'.keep (X1.keep gm (by simp)) (by simp)
  have hbe : dstr .eql ⟨⟨(packB 4096 L).map fun n => UInt8.ofNat n.toNat⟩⟩ ⟨⟨(packB 4096 L).map fun n => UInt8.ofNat n.toNat⟩⟩ = some (.bool true) := by
    show some (Value.bool (bytesEq _ _)) = _
    rw [bytesEq_self]
  have hO : U .u8 32 (sumsF [packB 4096 L]) := digF_U _
  have hoo := arr_self hO
  simp (maxSteps := 4000000) (maxDischargeDepth := 8) only [WO_pn, WO_g, gateO_tt, contN_ap, contHN_ap, atS_ap, W_some, W_mv, W_bin, W_call, dbin, dread, ev_tmp, ev_func, putT_some, get_put_eq, get_put_ne, not_false_eq_true, Option.getD_some, List.map_cons, List.map_nil, List.nil_append, List.cons_append, foot, W_cvToStr, eq_lt, Nat.reduceLT, Nat.lt_add_one, ← hS2, hrd2', htb, hbe, g3, g5, g7]
  refine W.mono (Digest_ok hC hP hF hI hB (d := d) cA hG2 (by omega) (by omega) (by omega) f20 i20) ?_
  rintro ⟨v3, s3⟩ ⟨h3, X3⟩
  simp only at h3 X3
  subst h3
  simp (maxSteps := 4000000) (maxDischargeDepth := 8) only [WO_pn, WO_g, gateO_tt, contN_ap, W_call, ev_tmp, ev_func, putT_some, get_put_eq, get_put_ne, not_false_eq_true, Option.getD_some, List.map_cons, List.map_nil, List.nil_append, List.cons_append, foot, eq_lt, eq_gt, Nat.reduceLT, Nat.lt_add_one, g3, g5, g7]
  refine W.mono (Digest_ok hC hP hF hI hB (d := d) (cB.keep X3 (by simp)) (X3.good hG2) (by omega) (by omega) (by omega) f20 i20) ?_
  rintro ⟨v4, s4⟩ ⟨h4, X4⟩
  simp only at h4 X4
  subst h4
  have cA4 := (cA.keep X3 (by simp)).keep X4 (by simp)
  have gm4 := X4.keep (X3.keep gm2 (by simp)) (by simp)
  have hln := Len_ok hF cA4 (d := d + 12)
  simp (maxSteps := 4000000) (maxDischargeDepth := 8) only [WC_ret, contS_normal, contR_ap, WO_nil, WO_pn, WO_g, gateO_tt, contN_ap, atS_ap, W_some, W_mv, W_pick, W_bin, W_blenM, W_call, dpure, dbin, dint, dread, Ends_ret, ev_tmp, ev_const, ev_func, putT_some, get_put_eq, get_put_ne, not_false_eq_true, Option.getD_some, dresults, tupled, List.map_cons, List.map_nil, if_true, if_false, Bool.not_true, Bool.false_eq_true, List.nil_append, List.cons_append, decide_true, foot, eq_lt, eq_gt, Nat.reduceLT, Nat.lt_add_one, g3, g5, g7, W_eq, hoo, hln, gm4, hes]
theorem bphase_ok (f20 : E.fn 20 = some d20) (i20 : E.intr 20 = none) {q m : Nat} {t : PT Value} {v0 : Value} {l : List (List Value)} (hr : InRow s v0 l) (hl : ∀ x, x ∈ l → FitK [.int .i64, .int .i64, .int .i64] x) (hll : l.length < E.lf) (hmax : (l.length : Int) ≤ 9223372036854775807)
    (c : StAt s p kv vv (puts ((l.take 100).map entOf) []) 4096) (c2 : StAt s q (.slice none 0 0) (.slice none 0 0) [] 4096) (gm : s.get m = some (.map [] 0)) (wm : s.wr m = true) (hG : s.Good) (hqm : q ≠ m)
    (hA : ∀ k, k ∈ own p kv vv → k ≠ q ∧ k ≠ m)
    (g0 : t.get 0 = some v0) (g3 : t.get 3 = some (.pointer (some ⟨p, 0, none⟩))) (g5 : t.get 5 = some (.pointer (some ⟨q, 0, none⟩))) (g7 : t.get 7 = some (.map (some m))) :
    WC (dcall E (d + 13)) E.lf false restB ⟨t, s, []⟩ (Ends [.tmp 2] fun r => r.1 = .bool true) := by
  have hlf := hF.lf
  have hlt := c.lt
  have hml := DS.get_lt' gm
  have hrl : ((l.take 100).map entOf).length = min 100 l.length := by rw [List.length_map, List.length_take]
  have hvl : ∃ a c, v0 = .slice a l.length c := by
    rcases hr with ⟨rfl, rfl⟩ | ⟨b, c, rfl, _⟩
    · exact ⟨_, _, rfl⟩
    · exact ⟨_, _, rfl⟩
  obtain ⟨va, vc0, hv0⟩ := hvl
  have g0' := g0
  rw [hv0] at g0'
  have w0 : dwrap .i64 ((l.length : Int) - 1) = (l.length : Int) - 1 := dwrap_in (by omega) (by omega)
  simp (maxSteps := 4000000) only [WC_seq, WC_region, WC_block, contS_normal, contR_ap, WO_nil, WO_pp, contO_ap, atS_ap, W_some, W_mv, W_bin, W_blenL, dpure, dbin, dint, ev_tmp, ev_const, putT_some, get_put_eq, Option.getD_some, if_true, pp, pv, pw, pg, restB, g0', g3, g5, g7, w0]
  refine WC_loop (BI s p kv vv v0 l q m) l.length hll ⟨l.length, .slice none 0 0, .slice none 0 0, [], 0, [], [], rfl, Nat.le_refl _, rfl, by simp (maxSteps := 4000000) only [get_put_eq, get_put_ne, Nat.reduceEqDiff, not_false_eq_true, Bool.and_self, and_self, reduceCtorEq, g0', g3, g5, g7, hv0], c, hr, c2, ?_, .nil, gm, wm, by simp, hG, Nat.le_refl _, by simp [own, blk]⟩ ?_
  · rw [List.drop_eq_nil_of_le (by rw [hrl]; omega)]; exact .nil
  rintro j ⟨t2, s2, ds⟩ hn ⟨j', kw, vw, es, clock, Lb, Sn, rfl, hj, hds, ⟨g0, g3, g5, g7, g9⟩, cA, hr2, cB, hS, hes, gm2, wm2, hlb, hG2, hle, hB2⟩
  simp only at hds g0 g3 g5 g7 g9 cA hr2 cB gm2 wm2 hG2 hle
  subst hds
  have hAB : ∀ k, k ∈ own p kv vv → k ∉ own q kw vw := fun k hk hk2 => by
    rcases hB2 k hk2 with h | h
    · exact (hA k hk).1 h
    · have := hlt k hk; omega
  have hmB : m ∉ own q kw vw := fun hk => by
    rcases hB2 m hk with h | h
    · exact hqm h.symm
    · omega
  cases j with
  | zero =>
    have e1 : ¬ (0 : Int) ≤ ((0 : Nat) : Int) - 1 := by omega
    have hsame := hS.same
    rw [List.drop_zero] at hsame
    rw [hsame] at cA
    have hel : es.length = Lb.length := by rw [hes.len, hS.len]
    simp (maxSteps := 4000000) only [WC_seq, WC_region, WC_cond, WC_exit, contS_normal, contS_exit, contB_exit, contR_ap, contL_exit, WO_nil, WO_pp, condC_false, contO_ap, atS_ap, W_some, W_mv, W_bin, dbin, dint, ev_tmp, ev_const, putT_some, get_put_eq, Option.getD_some, if_true, decide_false, g0, g3, g5, g7, g9, e1]
    exact fin_ok hC hP hF hI hB f20 i20 cA cB gm2 hel hG2 (by omega) (by simp (maxSteps := 4000000) only [get_put_ne, Nat.reduceEqDiff, not_false_eq_true, g3]) (by simp (maxSteps := 4000000) only [get_put_ne, Nat.reduceEqDiff, not_false_eq_true, g5]) (by simp (maxSteps := 4000000) only [get_put_ne, Nat.reduceEqDiff, not_false_eq_true, g7])
  | succ i =>
    have g9' : t2.get 9 = some (.int .i64 (i : Int)) := by rw [g9]; congr 2; omega
    have e1 : (0 : Int) ≤ (i : Int) := by omega
    have w1 : dwrap .i64 ((i : Int) - 1) = (i : Int) - 1 := dwrap_in (by omega) (by omega)
    obtain ⟨x, hx⟩ : ∃ x, l[i]? = some x := ⟨l[i], List.getElem?_eq_getElem (by omega)⟩
    have hfx := hl x (List.mem_of_getElem? hx)
    obtain ⟨x0, r0, rfl, ⟨kind, rfl, _⟩, hf0⟩ := FitK.cons hfx
    obtain ⟨x1, r1, rfl, ⟨K, rfl, hK⟩, hf1⟩ := FitK.cons hf0
    obtain ⟨x2, r2, rfl, ⟨V, rfl, hV⟩, hf2⟩ := FitK.cons hf1
    obtain rfl := FitK.nil hf2
    have hm3 : ∀ y, y ∈ l → y.length = 3 := fun y hy => FitK.length (hl y hy)
    obtain ⟨vb, vc, rfl, hb⟩ : ∃ vb vc, v0 = .slice (some ⟨vb, 0, none⟩) l.length vc ∧ s2.get vb = some (.cells (.list l.flatten) true) := by
      rcases hr2 with ⟨_, rfl⟩ | ⟨vb, vc, rfl, hb⟩
      · simp at hx
      · exact ⟨vb, vc, rfl, hb⟩
    have q1 : getN l.flatten (i * 3 + 1) = some (.int .i64 K) := flatten_get (j := 1) hm3 hx rfl
    have q2 : getN l.flatten (i * 3 + 2) = some (.int .i64 V) := flatten_get (j := 2) hm3 hx rfl
    have hil : i < l.length := by omega
    have hnext : (i : Int) - 1 = ((i : Nat) : Int) - 1 := rfl
    by_cases c2 : i < 100
    · have e2 : (i : Int) < 100 := by omega
      have hrows : ((l.take 100).map entOf).drop i = (K, V) :: ((l.take 100).map entOf).drop (i + 1) := by
        rw [List.drop_eq_getElem?_toList_append, List.getElem?_map, List.getElem?_take, if_pos c2, hx]
        rfl
      rcases seen_find hes K 0 with ⟨h1, hfind⟩ | ⟨h1, je, e, hfind, hval⟩
      · simp (maxSteps := 4000000) only [WC_seq, WC_region, WC_cond, WC_block, WC_skip, contS_normal, contR_ap, WO_nil, WO_pp, WO_g, gateO_tt, condC_true, contO_ap, atS_ap, W_some, W_mv, W_pick, W_bin, W_un, W_fadr, W_ixL, W_ld, W_look, W_mupd, dpure, dbin, dint, dread, dwrite, ev_tmp, ev_const, putT_some, putT_none, get_put_eq, get_put_ne, Nat.reduceEqDiff, not_false_eq_true, Option.getD_some, ldV_at, Cells.get, Nat.zero_add, Nat.blt_eq, if_true, if_false, reduceCtorEq, Bool.not_false, Bool.false_eq_true, Option.isSome_some, DS.set_upd, asIdx_cast, decide_true, g0, g3, g5, g7, g9', e1, e2, hb, q1, q2, hil, gm2, isKey, hfind, wm2]
        have hbm : ¬ vb = m := fun h => by rw [h, gm2] at hb; cases hb
        obtain ⟨S1, hS1⟩ : ∃ S1 : DS, S1 = s2.upd m (.map (es ++ [{ key := .int .i64 K, val := .bool true, born := clock }]) (clock + 1)) := ⟨_, rfl⟩
        rw [← hS1]
        have X1 : Ext [m] s2 S1 := by rw [hS1]; exact Ext.upd (.inl (by simp))
        have gm3 : S1.get m = some (.map (es ++ [{ key := .int .i64 K, val := .bool true, born := clock }]) (clock + 1)) := by rw [hS1]; simp (maxSteps := 4000000) only [DS.upd_get_self, Option.map_some, gm2]
        clear hS1
        have hb1 := X1.keep hb (by simp [hbm])
        have cA1 := cA.keep X1 (fun k hk => by simp; exact (hA k hk).2)
        have cB1 := cB.keep X1 (fun k hk => by simp; rintro rfl; exact hmB hk)
        have hG1 := X1.good hG2
        have wm3 := X1.wrs wm2
        obtain ⟨hS', hl1, hl2, hno⟩ := hS.fresh (x := (K, V)) h1 7
        have hno1 := hS.not h1
        simp (maxSteps := 4000000) only [WO_pp, contO_ap, atS_ap, W_some, W_call, ev_tmp, ev_const, ev_func, putT_some, get_put_eq, get_put_ne, Nat.reduceEqDiff, not_false_eq_true, Option.getD_some, List.map_cons, List.map_nil, g0, g3, g5, g7, g9', hb1, q1, q2, hil]
        refine W.mono (Put_ok hF (d := d + 7) cB1 hG1 K 7 (by omega)) ?_
        rintro ⟨v3, s3⟩ ⟨_, kw3, vw3, cB3, X3, o3⟩
        simp only at cB3 X3 o3
        rw [putR_eq (by omega)] at cB3
        have hB3 : ∀ k, k ∈ own q kw3 vw3 → k = q ∨ s.next ≤ k := fun k hk => by
          rcases o3 k hk with h | h
          · exact hB2 k h
          · have := X1.le; exact .inr (by omega)
        have hAB3 : ∀ k, k ∈ own p kv vv → k ∉ own q kw3 vw3 := fun k hk hk2 => by
          rcases hB3 k hk2 with h | h
          · exact (hA k hk).1 h
          · have := hlt k hk; omega
        have hmB3 : m ∉ own q kw3 vw3 := fun hk => by
          rcases hB3 m hk with h | h
          · exact hqm h.symm
          · omega
        have hb3 := X3.keep hb1 (fun hk => cB1.notRo _ hk _ hb1)
        have cA3 := cA1.keep X3 hAB
        have gm4 := X3.keep gm3 hmB
        have wm4 := X3.wrs wm3
        have hG3 := X3.good hG1
        simp (maxSteps := 4000000) only [WC_seq, WC_region, contS_normal, contR_ap, WO_nil, WO_pp, contO_ap, atS_ap, W_some, W_mv, W_fadr, W_ixL, W_ld, W_call, dpure, ev_tmp, ev_func, putT_some, get_put_eq, get_put_ne, Nat.reduceEqDiff, not_false_eq_true, Option.getD_some, List.map_cons, List.map_nil, ldV_at, Cells.get, Nat.zero_add, Nat.blt_eq, if_true, reduceCtorEq, asIdx_cast, g0, g3, g5, g7, g9', hb3, q1, q2, hil]
        refine W.mono (Delete_ok hF (d := d + 7) cB3 hG3 K) ?_
        rintro ⟨v4, s4⟩ ⟨_, kw4, vw4, cB4, X4, o4⟩
        simp only at cB4 X4 o4
        have hB4 : ∀ k, k ∈ own q kw4 vw4 → k = q ∨ s.next ≤ k := fun k hk => by
          rcases o4 k hk with h | h
          · exact hB3 k h
          · have := X1.le; have := X3.le; exact .inr (by omega)
        have hAB4 : ∀ k, k ∈ own p kv vv → k ∉ own q kw4 vw4 := fun k hk hk2 => by
          rcases hB4 k hk2 with h | h
          · exact (hA k hk).1 h
          · have := hlt k hk; omega
        have hmB4 : m ∉ own q kw4 vw4 := fun hk => by
          rcases hB4 m hk with h | h
          · exact hqm h.symm
          · omega
        have hb4 := X4.keep hb3 (fun hk => cB3.notRo _ hk _ hb3)
        have cA4 := cA3.keep X4 hAB3
        have gm5 := X4.keep gm4 hmB3
        have wm5 := X4.wrs wm4
        have hG4 := X4.good hG3
        simp (maxSteps := 4000000) only [WC_region, contS_normal, contR_ap, WO_nil, WO_pp, contO_ap, atS_ap, W_some, W_mv, W_fadr, W_ixL, W_ld, W_call, dpure, ev_tmp, ev_func, putT_some, get_put_eq, get_put_ne, Nat.reduceEqDiff, not_false_eq_true, Option.getD_some, List.map_cons, List.map_nil, ldV_at, Cells.get, Nat.zero_add, Nat.blt_eq, if_true, reduceCtorEq, asIdx_cast, g0, g3, g5, g7, g9', hb4, q1, q2, hil]
        refine W.mono (Put_ok hF (d := d + 7) cB4 hG4 K V (by omega)) ?_
        rintro ⟨v5, s5⟩ ⟨_, kw5, vw5, cB5, X5, o5⟩
        simp only at cB5 X5 o5
        simp only at hl1 hl2 hno hS'
        rw [putR_eq (by omega)] at cB5
        have hB5 : ∀ k, k ∈ own q kw5 vw5 → k = q ∨ s.next ≤ k := fun k hk => by
          rcases o5 k hk with h | h
          · exact hB4 k h
          · have := X1.le; have := X3.le; have := X4.le; exact .inr (by omega)
        have hb5 := X5.keep hb4 (fun hk => cB4.notRo _ hk _ hb4)
        have cA5 := cA4.keep X5 hAB4
        have gm6 := X5.keep gm5 hmB4
        have wm6 := X5.wrs wm5
        have hG5 := X5.good hG4
        have hl5 : (putL K V (delL K (putL K 7 Lb))).length = Lb.length + 1 := by rw [St.put_len, hno, hl2]; rfl
        simp (maxSteps := 4000000) only [WC_region, contS_normal, contB_normal, contR_ap, contL_normal, WO_nil, WO_pp, contO_ap, atS_ap, W_some, W_mv, W_bin, dbin, dint, ev_tmp, ev_const, putT_some, get_put_eq, get_put_ne, Nat.reduceEqDiff, not_false_eq_true, Option.getD_some, if_true, g0, g3, g5, g7, g9', w1]
        refine ⟨i, by omega, ⟨i, kw5, vw5, _, _, _, _, rfl, by omega, rfl, by simp (maxSteps := 4000000) only [get_put_eq, get_put_ne, Nat.reduceEqDiff, not_false_eq_true, Bool.and_self, and_self, reduceCtorEq, g0, g3, g5, g7], cA5, .inr ⟨vb, vc, rfl, hb5⟩, cB5, ?_, hes.snoc K clock, gm6, wm6, by omega, hG5, ?_, hB5⟩⟩
        · rw [hrows]
          exact hS'
        · have := X1.le; have := X3.le; have := X4.le; have := X5.le
          show s.next ≤ s5.next
          omega
      · simp (maxSteps := 4000000) only [WC_seq, WC_region, WC_cond, WC_block, WC_skip, contS_normal, contB_normal, contR_ap, contL_normal, WO_nil, WO_pp, WO_g, gateO_tt, condC_true, condC_false, contO_ap, atS_ap, W_some, W_mv, W_pick, W_bin, W_un, W_fadr, W_ixL, W_ld, W_look, dpure, dbin, dint, dread, ev_tmp, ev_const, putT_some, get_put_eq, get_put_ne, Nat.reduceEqDiff, not_false_eq_true, Option.getD_some, ldV_at, Cells.get, Nat.zero_add, Nat.blt_eq, if_true, if_false, reduceCtorEq, Bool.not_true, Bool.false_eq_true, asIdx_cast, decide_true, g0, g3, g5, g7, g9', e1, e2, hb, q1, q2, hil, gm2, isKey, hfind, hval, w1]
        refine ⟨i, by omega, ⟨i, kw, vw, es, clock, Lb, Sn, rfl, by omega, rfl, by simp (maxSteps := 4000000) only [get_put_eq, get_put_ne, Nat.reduceEqDiff, not_false_eq_true, Bool.and_self, and_self, reduceCtorEq, g0, g3, g5, g7], cA, .inr ⟨vb, vc, rfl, hb⟩, cB, ?_, hes, gm2, wm2, by omega, hG2, hle, hB2⟩⟩
        rw [hrows]
        exact hS.seen h1
    · have e2 : ¬ (i : Int) < 100 := by omega
      simp (maxSteps := 4000000) only [WC_seq, WC_region, WC_cond, WC_block, WC_skip, contS_normal, contB_normal, contR_ap, contL_normal, WO_nil, WO_pp, WO_g, gateO_ft, condC_true, condC_false, contO_ap, atS_ap, W_some, W_mv, W_pick, W_bin, dpure, dbin, dint, ev_tmp, ev_const, putT_some, get_put_eq, get_put_ne, Nat.reduceEqDiff, not_false_eq_true, Option.getD_some, if_true, if_false, Bool.false_eq_true, List.nil_append, decide_true, decide_false, g0, g3, g5, g7, g9', e1, e2, w1]
      refine ⟨i, by omega, ⟨i, kw, vw, es, clock, Lb, Sn, rfl, by omega, rfl, by simp (maxSteps := 4000000) only [get_put_eq, get_put_ne, Nat.reduceEqDiff, not_false_eq_true, Bool.and_self, and_self, reduceCtorEq, g0, g3, g5, g7], cA, .inr ⟨vb, vc, rfl, hb⟩, cB, ?_, hes, gm2, wm2, by omega, hG2, hle, hB2⟩⟩
      have h1 : ((l.take 100).map entOf).drop i = [] := List.drop_eq_nil_of_le (by rw [hrl]; omega)
      have h2 : ((l.take 100).map entOf).drop (i + 1) = [] := List.drop_eq_nil_of_le (by rw [hrl]; omega)
      rw [h1]
      rw [h2] at hS
      exact hS
theorem sameLaw (f5 : E.fn 5 = some d5x) (i5 : E.intr 5 = none) (f20 : E.fn 20 = some d20) (i20 : E.intr 20 = none) (h10 : E.intr 10 = some trueD) (hG : s.Good) {v0 : Value} {l : List (List Value)} (hr : InRow s v0 l) (hl : ∀ x, x ∈ l → FitK [.int .i64, .int .i64, .int .i64] x) (hll : l.length < E.lf) (hmax : (l.length : Int) ≤ 9223372036854775807) :
    W (dcall E (d + 14) (.func (.func 5) #[] #[]) [v0] s) fun r => r.1 = .bool true := by
  have lv : ∀ dd s, dcall E (dd + 1) (.func (.func 10) #[] #[]) [] s = some (.bool true, s) := fun _ _ => intr_run h10 rfl
  have hlf := hF.lf
  rw [W_enter0 i5 f5 rfl]
  simp (maxSteps := 4000000) only [WC_seq, WC_region, contS_normal, contR_ap, WO_nil, WO_pp, contO_ap, W_mv, W_call, ev_const, ev_func, putT_some, List.map_cons, List.map_nil, pp, pv, pw, pg, d5x]
  refine W.mono (New_ok hF (d := d + 12) hG 4096) ?_
  rintro ⟨r, s1⟩ ⟨X1, ⟨_, _, hr1, c1⟩ | ⟨hno, _⟩⟩
  rotate_left
  · exfalso; omega
  simp only at X1 hr1 c1
  subst hr1
  have hG1 := X1.good hG
  simp (maxSteps := 4000000) only [WC_seq, WC_region, contS_normal, contR_ap, WO_nil, WO_pp, contO_ap, atS_ap, W_some, W_mv, W_ext, W_call, dpure, ev_tmp, ev_const, ev_func, putT_some, get_put_eq, get_put_ne, Nat.reduceEqDiff, not_false_eq_true, Option.getD_some, List.map_cons, List.map_nil, getN]
  refine W.mono (New_ok hF (d := d + 12) hG1 4096) ?_
  rintro ⟨r, s2⟩ ⟨X2, ⟨_, _, hr2, c2⟩ | ⟨hno, _⟩⟩
  rotate_left
  · exfalso; omega
  simp only at X2 hr2 c2
  subst hr2
  have hG2 := X2.good hG1
  simp (maxSteps := 4000000) only [WC_seq, WC_region, WC_cond, WC_block, WC_skip, contS_normal, contR_ap, WO_nil, WO_pp, WO_g, gateO_ff, condC_false, contO_ap, atS_ap, atB_ap, W_some, W_mv, W_pick, W_bin, W_eq1, W_un, W_ext, W_mkmap, W_call, dpure, dbin, dint, eqOne, ev_tmp, ev_const, ev_func, putT_some, get_put_eq, get_put_ne, Nat.reduceEqDiff, not_false_eq_true, Option.getD_some, List.map_nil, getN, if_true, if_false, Bool.not_true, Bool.not_false, Bool.false_eq_true, decide_true, lv]
  obtain ⟨S, hS⟩ : ∃ S : DS, S = s2.new (.map [] 0) := ⟨_, rfl⟩
  rw [← hS]
  have X3 : Ext [] s2 S := by rw [hS]; exact Ext.new
  have gm : S.get s2.next = some (.map [] 0) := by rw [hS]; exact DS.new_get_self hG2
  have hG3 := X3.good hG2
  have wm : S.wr s2.next = true := X3.wrs (hG2 _ (Nat.le_refl _)).2
  have n1 := DS.get_lt' c1.gp
  have n2 := DS.get_lt' c2.gp
  have nS : S.next = s2.next + 1 := by rw [hS]; rfl
  have c1' := (c1.keep X2 (by simp)).keep X3 (by simp)
  have c2' := c2.keep X3 (by simp)
  have hr3 := InRow.keep (InRow.keep (InRow.keep hr X1 (by simp)) X2 (by simp)) X3 (by simp)
  clear hS
  obtain ⟨p, hp⟩ : ∃ p, p = s.next := ⟨_, rfl⟩
  obtain ⟨q, hq⟩ : ∃ q, q = s1.next := ⟨_, rfl⟩
  obtain ⟨m, hm⟩ : ∃ m, m = s2.next := ⟨_, rfl⟩
  have hle1 := X1.le
  have hle2 := X2.le
  have n1' : s.next < s1.next := n1
  have n2' : s1.next < s2.next := n2
  simp only [← hp, ← hq, ← hm] at n1' n2' nS gm wm c1' c2' ⊢
  refine WC_loop (AI2 S p q m v0 l) 101 (by omega) ⟨0, _, _, rfl, by omega, by omega, rfl, ?_, c1', hr3, c2', gm, wm, hG3, Nat.le_refl _, by simp [own, blk]⟩ ?_
  · simp (maxSteps := 4000000) only [get_put_eq, get_put_ne, Nat.reduceEqDiff, not_false_eq_true, ofList_get, List.getElem?_cons_zero, Bool.true_and, true_and, reduceCtorEq]
    rfl
  rintro n ⟨t4, s4, ds⟩ hn ⟨i, kv, vv, rfl, hi, hil, hds, ⟨g0, g3, g5, g7, g8⟩, cA, hr4, cB, gm4, wm4, hG4, hle4, hA4⟩
  simp only at hds g0 g3 g5 g7 g8 cA hr4 cB gm4 wm4 hG4 hle4
  subst hds
  have hpl := cA.gp
  have hAq : ∀ k, k ∈ own p kv vv → k ≠ q ∧ k ≠ m := fun k hk => by
    rcases hA4 k hk with h | h <;> omega
  have hvl : ∃ a c, v0 = .slice a l.length c := by
    rcases hr4 with ⟨rfl, rfl⟩ | ⟨b, c, rfl, _⟩
    · exact ⟨_, _, rfl⟩
    · exact ⟨_, _, rfl⟩
  by_cases c1 : i < l.length ∧ i < 100
  · obtain ⟨hi1, hi2⟩ := c1
    have e1 : (i : Int) < (l.length : Int) := by omega
    have e2 : (i : Int) < 100 := by omega
    have w1 : dwrap .i64 ((i : Int) + 1) = ((i + 1 : Nat) : Int) := by rw [dwrap_in (by omega) (by omega)]; omega
    obtain ⟨x, hx⟩ : ∃ x, l[i]? = some x := ⟨l[i], List.getElem?_eq_getElem hi1⟩
    have hfx := hl x (List.mem_of_getElem? hx)
    obtain ⟨x0, r0, rfl, ⟨kind, rfl, _⟩, hf0⟩ := FitK.cons hfx
    obtain ⟨x1, r1, rfl, ⟨K, rfl, hK⟩, hf1⟩ := FitK.cons hf0
    obtain ⟨x2, r2, rfl, ⟨V, rfl, hV⟩, hf2⟩ := FitK.cons hf1
    obtain rfl := FitK.nil hf2
    have hm3 : ∀ y, y ∈ l → y.length = 3 := fun y hy => FitK.length (hl y hy)
    obtain ⟨vb, vc, rfl, hb⟩ : ∃ vb vc, v0 = .slice (some ⟨vb, 0, none⟩) l.length vc ∧ s4.get vb = some (.cells (.list l.flatten) true) := by
      rcases hr4 with ⟨_, rfl⟩ | ⟨vb, vc, rfl, hb⟩
      · simp at hx
      · exact ⟨vb, vc, rfl, hb⟩
    have q1 : getN l.flatten (i * 3 + 1) = some (.int .i64 K) := flatten_get (j := 1) hm3 hx rfl
    have q2 : getN l.flatten (i * 3 + 2) = some (.int .i64 V) := flatten_get (j := 2) hm3 hx rfl
    have htk : (l.take (i + 1)).map entOf = (l.take i).map entOf ++ [(K, V)] := by
      rw [List.take_add_one, hx, List.map_append]; rfl
    have hpln : (puts ((l.take i).map entOf) []).length ≤ i := by
      have := puts_len ((l.take i).map entOf) []
      simp only [List.length_nil, List.length_map, List.length_take] at this
      omega
    simp (maxSteps := 4000000) only [WC_seq, WC_region, WC_cond, WC_block, WC_skip, contS_normal, contR_ap, WO_nil, WO_pp, WO_g, gateO_tt, condC_true, contO_ap, atS_ap, W_some, W_mv, W_pick, W_bin, W_fadr, W_ixL, W_blenL, W_ld, W_call, dpure, dbin, dint, ev_tmp, ev_const, ev_func, putT_some, get_put_eq, get_put_ne, Nat.reduceEqDiff, not_false_eq_true, Option.getD_some, List.map_cons, List.map_nil, ldV_at, Cells.get, Nat.zero_add, Nat.blt_eq, if_true, reduceCtorEq, asIdx_cast, decide_true, g0, g3, g5, g7, g8, e1, e2, hb, q1, q2, hi1]
    refine W.mono (Put_ok hF (d := d + 7) cA hG4 K V (by omega)) ?_
    rintro ⟨v5, s5⟩ ⟨_, kv5, vv5, cA5, X5, o5⟩
    simp only at cA5 X5 o5
    rw [putR_eq (by omega)] at cA5
    simp (maxSteps := 4000000) only [WC_region, contS_normal, contB_normal, contR_ap, contL_normal, WO_nil, WO_pp, contO_ap, atS_ap, W_some, W_mv, W_bin, dbin, dint, ev_tmp, ev_const, putT_some, get_put_eq, get_put_ne, Nat.reduceEqDiff, not_false_eq_true, Option.getD_some, if_true, g0, g3, g5, g7, g8, w1]
    refine ⟨101 - (i + 1), by omega, ⟨i + 1, kv5, vv5, rfl, by omega, by omega, rfl, by simp (maxSteps := 4000000) only [get_put_eq, get_put_ne, Nat.reduceEqDiff, not_false_eq_true, Bool.and_self, and_self, reduceCtorEq, g0, g3, g5, g7], ?_, .inr ⟨vb, vc, rfl, X5.keep hb (fun hk => cA.notRo _ hk _ hb)⟩, cB.keep X5 (fun k hk => ?_), X5.keep gm4 (fun hk => (hAq _ hk).2 rfl), X5.wrs wm4, X5.good hG4, ?_, fun k hk => ?_⟩⟩
    · rw [htk, puts_snoc]; exact cA5
    · simp only [own, blk, List.append_nil, List.mem_singleton] at hk
      subst hk
      exact fun hk2 => (hAq _ hk2).1 rfl
    · have := X5.le
      show S.next ≤ s5.next
      omega
    · rcases o5 k hk with h | h
      · exact hA4 k h
      · exact .inr (by omega)
  · have htk : l.take i = l.take 100 := by
      by_cases h : i < l.length
      · have : i = 100 := by omega
        rw [this]
      · rw [List.take_of_length_le (by omega), List.take_of_length_le (by omega)]
    rw [htk] at cA
    obtain ⟨a, cc, hv0⟩ := hvl
    have hqm : q ≠ m := by omega
    have g0' := g0
    rw [hv0] at g0'
    by_cases c2 : (i : Int) < (l.length : Int)
    · have c3 : ¬ (i : Int) < 100 := by omega
      simp (maxSteps := 4000000) only [WC_seq, WC_region, WC_cond, WC_exit, contS_normal, contS_exit, contB_exit, contR_ap, contL_exit, WO_nil, WO_pp, WO_g, gateO_tt, condC_false, contO_ap, atS_ap, W_some, W_mv, W_pick, W_bin, W_blenL, dpure, dbin, dint, ev_tmp, ev_const, putT_some, get_put_eq, get_put_ne, Nat.reduceEqDiff, not_false_eq_true, Option.getD_some, if_true, reduceCtorEq, decide_true, decide_false, g0', g3, g5, g7, g8, c2, c3]
      exact bphase_ok hC hP hF hI hB f20 i20 hr4 hl hll hmax cA cB gm4 wm4 hG4 hqm hAq (by simp (maxSteps := 4000000) only [get_put_ne, not_false_eq_true, reduceCtorEq, g0]) (by simp (maxSteps := 4000000) only [get_put_ne, Nat.reduceEqDiff, not_false_eq_true, g3]) (by simp (maxSteps := 4000000) only [get_put_ne, Nat.reduceEqDiff, not_false_eq_true, g5]) (by simp (maxSteps := 4000000) only [get_put_ne, Nat.reduceEqDiff, not_false_eq_true, g7])
    · simp (maxSteps := 4000000) only [WC_seq, WC_region, WC_cond, WC_exit, contS_normal, contS_exit, contB_exit, contR_ap, contL_exit, WO_nil, WO_pp, WO_g, gateO_ft, condC_false, contO_ap, atS_ap, W_some, W_mv, W_pick, W_bin, W_blenL, dpure, dbin, dint, ev_tmp, ev_const, putT_some, get_put_eq, get_put_ne, Nat.reduceEqDiff, not_false_eq_true, Option.getD_some, if_true, if_false, reduceCtorEq, Bool.false_eq_true, List.nil_append, decide_false, g0', g3, g5, g7, g8, c2]
      exact bphase_ok hC hP hF hI hB f20 i20 hr4 hl hll hmax cA cB gm4 wm4 hG4 hqm hAq (by simp (maxSteps := 4000000) only [get_put_ne, not_false_eq_true, reduceCtorEq, g0]) (by simp (maxSteps := 4000000) only [get_put_ne, Nat.reduceEqDiff, not_false_eq_true, g3]) (by simp (maxSteps := 4000000) only [get_put_ne, Nat.reduceEqDiff, not_false_eq_true, g5]) (by simp (maxSteps := 4000000) only [get_put_ne, Nat.reduceEqDiff, not_false_eq_true, g7])
end
end Go.Dx.StA
