/- ReplicaNobody returns true for every input, and leaves what it was given as it was. -/
import Derived.Test.YtfodfkpnbopdbaaGreatNobodyRun
import Derived.Test.YtfodfkpnbopdbaaGreatNobodyFacts
namespace Go.Proofs.YtfodfkpnbopdbaaGreat.replicaNobody
open Go.ChangeShapes Go.WideShapes Go.ChangeAt Go.RowKit Go.Dx Go.Shelf
set_option linter.unusedVariables false
set_option linter.unusedSimpArgs false
set_option maxRecDepth 100000
theorem own : ownKnob Tryz.prog.godebug = none := by kernel_rfl
theorem shape3 : shapeK Tryz.prog 9 3 = some [.int .i64] := by kernel_rfl
theorem shape33 : shapeK Tryz.prog 9 33 = some [.int .i64, .int .i64, .int .i64, .int .i64, .int .i64, .int .i64, .bool, .int .u8, .int .u8, .int .u8, .int .u8, .int .u8, .int .u8, .int .u8, .int .u8, .int .u8, .int .u8, .int .u8, .int .u8, .int .u8, .int .u8, .int .u8, .int .u8, .int .u8, .int .u8, .int .u8, .int .u8, .int .u8, .int .u8, .int .u8, .int .u8, .int .u8, .int .u8, .int .u8, .int .u8, .int .u8, .int .u8, .int .u8, .int .u8, .opq, .int .i64, .int .i64, .opq, .opq, .int .i64, .int .i64, .int .i64, .bool, .int .i64, .int .i64, .int .i64, .int .i64, .opq, .opq, .opq] := by kernel_rfl
theorem readable : ∀ t ∈ Tryz.f5.params.toList, Tryz.prog.readableRec t = true ∧ t < Tryz.prog.types.size := by
  rw [Tryz.params5]
  intro t ht
  simp only [List.mem_cons, List.not_mem_nil, or_false] at ht
  rcases ht with rfl | rfl | rfl <;> exact ⟨by kernel_rfl, of_decide_eq_true (by kernel_rfl)⟩
/-- WHAT THE WALK GIVES, FOR EVERY ARGUMENT. -/
theorem contract (H : Type) (enc : TypeId × Value → H) (W : World) (base : Nat) (args : Array Value) (ds gs : List (DataW H)) (before : List MemPlace)
    (hval : ∀ (j : Nat) t v, Tryz.f5.params[j]? = some t → args[j]? = some v → Value.okWide Tryz.prog W .any base t v)
    (hW : DataW.Whole enc Tryz.prog Tryz.f5.params.toList Rows.replicaNobodySpec.vars false W args.toList ds gs before) :
    Calls Tryz.prog 5 args W fun e W' => ∃ v, e = .returned v ∧ Rows.replicaNobodySpec.post enc Tryz.prog Tryz.f5 false true false false W args v W' := by
  have hW' := hW
  obtain ⟨p, q, hA0, hV, _, _, _⟩ := hW
  have hA : DataW.TrodAll enc Tryz.prog W 0 (fun _ => true) true Tryz.f5.params.toList args.toList ds p := hA0
  rw [Tryz.params5] at hA hval
  obtain ⟨v0, vs0, d0, ds0, p0, q0, hargs0, hds0, _, t0, r0⟩ := trodAll_cons hA
  obtain ⟨v1, vs1, d1, ds1, p1, q1, hargs1, hds1, _, t1, r1⟩ := trodAll_cons r0
  obtain ⟨v2, vs2, d2, ds2, p2, q2, hargs2, hds2, _, t2, r2⟩ := trodAll_cons r1
  obtain ⟨hn1, hn2, _⟩ := trodAll_nil r2
  subst hn1 hn2
  subst hds2
  subst hds1
  subst hds0
  subst hargs2
  subst hargs1
  obtain rfl : args = #[v0, v1, v2] := by cases args; simp_all
  obtain ⟨rfl, rfl⟩ := trodVars_none hV
  obtain ⟨fu0, tf0⟩ := t0
  have k0_0 := fits_trod 9 fu0 _ _ _ _ shape3 tf0
  have hv0 := hval 0 3 v0 rfl rfl
  obtain ⟨a0, rfl⟩ := okInt Tryz.underlying3 hv0
  obtain ⟨fu1, tf1⟩ := t1
  have k1_0 := fits_trod 9 fu1 _ _ _ _ shape33 tf1
  have hv1 := hval 1 33 v1 rfl rfl
  simp only [Value.okWide, Tryz.underlying33] at hv1
  obtain ⟨cs1, rfl, _, _⟩ := hv1
  obtain ⟨cs1⟩ := cs1
  simp only [Value.cells] at k1_0
  obtain ⟨c1, x1, e1, g1, k1_1⟩ := FitK.cons k1_0
  obtain ⟨c2, x2, e2, g2, k1_2⟩ := FitK.cons k1_1
  obtain ⟨c3, x3, e3, g3, k1_3⟩ := FitK.cons k1_2
  obtain ⟨c4, x4, e4, g4, k1_4⟩ := FitK.cons k1_3
  obtain ⟨c5, x5, e5, g5, k1_5⟩ := FitK.cons k1_4
  obtain ⟨c6, x6, e6, g6, k1_6⟩ := FitK.cons k1_5
  obtain ⟨c7, x7, e7, g7, k1_7⟩ := FitK.cons k1_6
  obtain ⟨c8, x8, e8, g8, k1_8⟩ := FitK.cons k1_7
  obtain ⟨c9, x9, e9, g9, k1_9⟩ := FitK.cons k1_8
  obtain ⟨c10, x10, e10, g10, k1_10⟩ := FitK.cons k1_9
  obtain ⟨c11, x11, e11, g11, k1_11⟩ := FitK.cons k1_10
  obtain ⟨c12, x12, e12, g12, k1_12⟩ := FitK.cons k1_11
  obtain ⟨c13, x13, e13, g13, k1_13⟩ := FitK.cons k1_12
  obtain ⟨c14, x14, e14, g14, k1_14⟩ := FitK.cons k1_13
  obtain ⟨c15, x15, e15, g15, k1_15⟩ := FitK.cons k1_14
  obtain ⟨c16, x16, e16, g16, k1_16⟩ := FitK.cons k1_15
  obtain ⟨c17, x17, e17, g17, k1_17⟩ := FitK.cons k1_16
  obtain ⟨c18, x18, e18, g18, k1_18⟩ := FitK.cons k1_17
  obtain ⟨c19, x19, e19, g19, k1_19⟩ := FitK.cons k1_18
  obtain ⟨c20, x20, e20, g20, k1_20⟩ := FitK.cons k1_19
  obtain ⟨c21, x21, e21, g21, k1_21⟩ := FitK.cons k1_20
  obtain ⟨c22, x22, e22, g22, k1_22⟩ := FitK.cons k1_21
  obtain ⟨c23, x23, e23, g23, k1_23⟩ := FitK.cons k1_22
  obtain ⟨c24, x24, e24, g24, k1_24⟩ := FitK.cons k1_23
  obtain ⟨c25, x25, e25, g25, k1_25⟩ := FitK.cons k1_24
  obtain ⟨c26, x26, e26, g26, k1_26⟩ := FitK.cons k1_25
  obtain ⟨c27, x27, e27, g27, k1_27⟩ := FitK.cons k1_26
  obtain ⟨c28, x28, e28, g28, k1_28⟩ := FitK.cons k1_27
  obtain ⟨c29, x29, e29, g29, k1_29⟩ := FitK.cons k1_28
  obtain ⟨c30, x30, e30, g30, k1_30⟩ := FitK.cons k1_29
  obtain ⟨c31, x31, e31, g31, k1_31⟩ := FitK.cons k1_30
  obtain ⟨c32, x32, e32, g32, k1_32⟩ := FitK.cons k1_31
  obtain ⟨c33, x33, e33, g33, k1_33⟩ := FitK.cons k1_32
  obtain ⟨c34, x34, e34, g34, k1_34⟩ := FitK.cons k1_33
  obtain ⟨c35, x35, e35, g35, k1_35⟩ := FitK.cons k1_34
  obtain ⟨c36, x36, e36, g36, k1_36⟩ := FitK.cons k1_35
  obtain ⟨c37, x37, e37, g37, k1_37⟩ := FitK.cons k1_36
  obtain ⟨c38, x38, e38, g38, k1_38⟩ := FitK.cons k1_37
  obtain ⟨c39, x39, e39, g39, k1_39⟩ := FitK.cons k1_38
  obtain ⟨c40, x40, e40, g40, k1_40⟩ := FitK.cons k1_39
  obtain ⟨c41, x41, e41, g41, k1_41⟩ := FitK.cons k1_40
  obtain ⟨c42, x42, e42, g42, k1_42⟩ := FitK.cons k1_41
  obtain ⟨c43, x43, e43, g43, k1_43⟩ := FitK.cons k1_42
  obtain ⟨c44, x44, e44, g44, k1_44⟩ := FitK.cons k1_43
  obtain ⟨c45, x45, e45, g45, k1_45⟩ := FitK.cons k1_44
  obtain ⟨c46, x46, e46, g46, k1_46⟩ := FitK.cons k1_45
  obtain ⟨c47, x47, e47, g47, k1_47⟩ := FitK.cons k1_46
  obtain ⟨c48, x48, e48, g48, k1_48⟩ := FitK.cons k1_47
  obtain ⟨c49, x49, e49, g49, k1_49⟩ := FitK.cons k1_48
  obtain ⟨c50, x50, e50, g50, k1_50⟩ := FitK.cons k1_49
  obtain ⟨c51, x51, e51, g51, k1_51⟩ := FitK.cons k1_50
  obtain ⟨c52, x52, e52, g52, k1_52⟩ := FitK.cons k1_51
  obtain ⟨c53, x53, e53, g53, k1_53⟩ := FitK.cons k1_52
  obtain ⟨c54, x54, e54, g54, k1_54⟩ := FitK.cons k1_53
  obtain ⟨c55, x55, e55, g55, k1_55⟩ := FitK.cons k1_54
  have z1 := FitK.nil k1_55
  subst z1
  subst e55
  subst e54
  subst e53
  subst e52
  subst e51
  subst e50
  subst e49
  subst e48
  subst e47
  subst e46
  subst e45
  subst e44
  subst e43
  subst e42
  subst e41
  subst e40
  subst e39
  subst e38
  subst e37
  subst e36
  subst e35
  subst e34
  subst e33
  subst e32
  subst e31
  subst e30
  subst e29
  subst e28
  subst e27
  subst e26
  subst e25
  subst e24
  subst e23
  subst e22
  subst e21
  subst e20
  subst e19
  subst e18
  subst e17
  subst e16
  subst e15
  subst e14
  subst e13
  subst e12
  subst e11
  subst e10
  subst e9
  subst e8
  subst e7
  subst e6
  subst e5
  subst e4
  subst e3
  subst e2
  subst e1
  obtain ⟨a1, rfl, _⟩ := g1
  obtain ⟨a2, rfl, _⟩ := g2
  obtain ⟨a3, rfl, _⟩ := g3
  obtain ⟨a4, rfl, _⟩ := g4
  obtain ⟨a5, rfl, _⟩ := g5
  obtain ⟨a6, rfl, _⟩ := g6
  obtain ⟨a7, rfl⟩ := g7
  obtain ⟨a8, rfl, _⟩ := g8
  obtain ⟨a9, rfl, _⟩ := g9
  obtain ⟨a10, rfl, _⟩ := g10
  obtain ⟨a11, rfl, _⟩ := g11
  obtain ⟨a12, rfl, _⟩ := g12
  obtain ⟨a13, rfl, _⟩ := g13
  obtain ⟨a14, rfl, _⟩ := g14
  obtain ⟨a15, rfl, _⟩ := g15
  obtain ⟨a16, rfl, _⟩ := g16
  obtain ⟨a17, rfl, _⟩ := g17
  obtain ⟨a18, rfl, _⟩ := g18
  obtain ⟨a19, rfl, _⟩ := g19
  obtain ⟨a20, rfl, _⟩ := g20
  obtain ⟨a21, rfl, _⟩ := g21
  obtain ⟨a22, rfl, _⟩ := g22
  obtain ⟨a23, rfl, _⟩ := g23
  obtain ⟨a24, rfl, _⟩ := g24
  obtain ⟨a25, rfl, _⟩ := g25
  obtain ⟨a26, rfl, _⟩ := g26
  obtain ⟨a27, rfl, _⟩ := g27
  obtain ⟨a28, rfl, _⟩ := g28
  obtain ⟨a29, rfl, _⟩ := g29
  obtain ⟨a30, rfl, _⟩ := g30
  obtain ⟨a31, rfl, _⟩ := g31
  obtain ⟨a32, rfl, _⟩ := g32
  obtain ⟨a33, rfl, _⟩ := g33
  obtain ⟨a34, rfl, _⟩ := g34
  obtain ⟨a35, rfl, _⟩ := g35
  obtain ⟨a36, rfl, _⟩ := g36
  obtain ⟨a37, rfl, _⟩ := g37
  obtain ⟨a38, rfl, _⟩ := g38
  obtain ⟨a39, rfl, _⟩ := g39
  have h40 : opq c40 = true := g40
  obtain ⟨a41, rfl, _⟩ := g41
  obtain ⟨a42, rfl, _⟩ := g42
  have h43 : opq c43 = true := g43
  have h44 : opq c44 = true := g44
  obtain ⟨a45, rfl, _⟩ := g45
  obtain ⟨a46, rfl, _⟩ := g46
  obtain ⟨a47, rfl, _⟩ := g47
  obtain ⟨a48, rfl⟩ := g48
  obtain ⟨a49, rfl, _⟩ := g49
  obtain ⟨a50, rfl, _⟩ := g50
  obtain ⟨a51, rfl, _⟩ := g51
  obtain ⟨a52, rfl, _⟩ := g52
  have h53 : opq c53 = true := g53
  have h54 : opq c54 = true := g54
  have h55 : opq c55 = true := g55
  obtain ⟨fu2, tf2⟩ := t2
  have k2_0 := fits_trod 9 fu2 _ _ _ _ shape3 tf2
  have hv2 := hval 2 3 v2 rfl rfl
  obtain ⟨a56, rfl⟩ := okInt Tryz.underlying3 hv2
  refine (walk a0 a1 a2 a3 a4 a5 a6 a7 a8 a9 a10 a11 a12 a13 a14 a15 a16 a17 a18 a19 a20 a21 a22 a23 a24 a25 a26 a27 a28 a29 a30 a31 a32 a33 a34 a35 a36 a37 a38 a39 c40 a41 a42 c43 c44 a45 a46 a47 a48 a49 a50 a51 a52 c53 c54 c55 a56 h40 h43 h44 h53 h54 h55 W).mono fun e W' ⟨he, hk⟩ => ?_
  subst he
  exact ⟨_, rfl, post_kept laid readable hW' rfl (fun _ _ _ => trodAll_cons_mk (shut_bool Tryz.underlying4 _) trodAll_mk0) rfl rfl hk⟩

def zargs : Array Value := #[.int .i64 0, .agg #[.int .i64 0, .int .i64 0, .int .i64 0, .int .i64 0, .int .i64 0, .int .i64 0, .bool false, .int .u8 0, .int .u8 0, .int .u8 0, .int .u8 0, .int .u8 0, .int .u8 0, .int .u8 0, .int .u8 0, .int .u8 0, .int .u8 0, .int .u8 0, .int .u8 0, .int .u8 0, .int .u8 0, .int .u8 0, .int .u8 0, .int .u8 0, .int .u8 0, .int .u8 0, .int .u8 0, .int .u8 0, .int .u8 0, .int .u8 0, .int .u8 0, .int .u8 0, .int .u8 0, .int .u8 0, .int .u8 0, .int .u8 0, .int .u8 0, .int .u8 0, .int .u8 0, .slice none 0 0, .int .i64 0, .int .i64 0, .slice none 0 0, .slice none 0 0, .int .i64 0, .int .i64 0, .int .i64 0, .bool false, .int .i64 0, .int .i64 0, .int .i64 0, .int .i64 0, .slice none 0 0, .slice none 0 0, .slice none 0 0], .int .i64 0]
theorem laid_met (os : Os) : laidMet Tryz.prog Rows.replicaNobodyRow.laid ((World.holding Tryz.prog os ⟨#[], #[], []⟩).forCall (fun _ _ => 0) ⟨#[], zargs, []⟩).memory :=
  laidMet_of_run' 8 (by kernel_rfl) (by kernel_rfl)
theorem reads (os : Os) {H : Type} (enc : TypeId × Value → H) : ∃ places, DataW.whole enc Tryz.prog ((World.holding Tryz.prog os ⟨#[], #[], []⟩).forCall (fun _ _ => 0) ⟨#[], zargs, []⟩).memory Tryz.f5.params.toList Rows.replicaNobodySpec.vars false zargs.toList 12 = some ([.lit (.int .i64 0), .agg [.lit (.int .i64 0), .lit (.int .i64 0), .lit (.int .i64 0), .lit (.int .i64 0), .lit (.int .i64 0), .lit (.int .i64 0), .lit (.bool false), .agg [.lit (.int .u8 0), .lit (.int .u8 0), .lit (.int .u8 0), .lit (.int .u8 0), .lit (.int .u8 0), .lit (.int .u8 0), .lit (.int .u8 0), .lit (.int .u8 0), .lit (.int .u8 0), .lit (.int .u8 0), .lit (.int .u8 0), .lit (.int .u8 0), .lit (.int .u8 0), .lit (.int .u8 0), .lit (.int .u8 0), .lit (.int .u8 0), .lit (.int .u8 0), .lit (.int .u8 0), .lit (.int .u8 0), .lit (.int .u8 0), .lit (.int .u8 0), .lit (.int .u8 0), .lit (.int .u8 0), .lit (.int .u8 0), .lit (.int .u8 0), .lit (.int .u8 0), .lit (.int .u8 0), .lit (.int .u8 0), .lit (.int .u8 0), .lit (.int .u8 0), .lit (.int .u8 0), .lit (.int .u8 0)], .nil, .agg [.lit (.int .i64 0), .lit (.int .i64 0), .nil, .nil, .lit (.int .i64 0)], .agg [.lit (.int .i64 0), .lit (.int .i64 0), .lit (.bool false), .lit (.int .i64 0), .lit (.int .i64 0), .lit (.int .i64 0)], .agg [.lit (.int .i64 0), .nil, .nil, .nil]], .lit (.int .i64 0)], [], places) :=
  ⟨[], by kernel_rfl⟩
theorem lifted (os : Os) (started : os.Started) (H : Type) (enc : TypeId × Value → H) (F : Stop.Interp) :
    ReturnsInHanded {} Tryz.checked os 5 .any ((OpenSpec.ofChange Rows.replicaNobodySpec).preRow enc Tryz.prog Tryz.f5 Rows.replicaNobodyRow.domain false Rows.replicaNobodyRow.laid) (((OpenSpec.ofChange Rows.replicaNobodySpec).at F).post enc Tryz.prog Tryz.f5 false true false false) := by
  obtain ⟨places, hx⟩ := reads os enc
  refine returnsInHanded_of_row (C := Tryz.checked) (s := OpenSpec.ofChange Rows.replicaNobodySpec) own started (by kernel_rfl) Tryz.func5
    (witness_row_at (enc := enc) (C := Tryz.checked) false (World.holding Tryz.prog os ⟨#[], #[], []⟩) zargs rfl (by kernel_rfl) (by kernel_rfl) (by kernel_rfl)
      (OpenSpec.preRow_of_cond 12 hx (by kernel_rfl) (fun k hk => by cases hk) (by kernel_rfl) (laid_met os))) ?_
  intro W base args ds gs before hval hW _ _ _ _ _ _
  exact contract H enc W base args ds gs before hval hW
theorem proved : Rows.ReplicaNobodySaid :=
  OpenClaim.holds_of_cond 5 Tryz.f5 rfl rfl rfl rfl rfl rfl rfl ⟨rfl, rfl, rfl, rfl, rfl⟩ rfl rfl rfl rfl rfl (by kernel_rfl) Tryz.func5 closed
    (of_decide_eq_true (by kernel_rfl)) (by unfold Func.isWrapper; first | (rw [if_pos (by decide +kernel)]; kernel_rfl) | (rw [if_neg (by decide +kernel)]; exact ⟨rfl, rfl⟩))
    (fun os started H enc _ F => by rw [OpenClaim.pre_eq_preRow]; exact lifted os started H enc F)
end Go.Proofs.YtfodfkpnbopdbaaGreat.replicaNobody
