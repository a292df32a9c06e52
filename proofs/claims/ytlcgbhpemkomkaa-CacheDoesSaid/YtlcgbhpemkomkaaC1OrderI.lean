/- cache.order at numbers (made by tools/gen_order.py out of C1Order). -/
import Derived.Test.YtlcgbhpemkomkaaC1Order
set_option linter.unusedVariables false
set_option linter.unusedSimpArgs false
namespace Go.Dx
open Go Go.Proofs Go.Shelf Go.RowKit Go.Maps
set_option maxRecDepth 100000
set_option maxHeartbeats 2000000
theorem cmp_walkI {bx bp off bm : Nat} {x y : Int} {va vb ua ub : Int} (W : World) (hbox : W.cell? ⟨bx, 0, none⟩ = some (.pointer (some ⟨bp, off, none⟩))) (hp : W.cell? ⟨bp, off, none⟩ = some (.map (some bm)))
    (hx : ∀ n, (Instr.lookup 67 (.map (some bm)) (.int .i64 x) false).run Try.prog (W.drewN n) = .ok (.agg #[.int .i64 va, .int .i64 ua]) (W.drewN n))
    (hy : ∀ n, (Instr.lookup 67 (.map (some bm)) (.int .i64 y) false).run Try.prog (W.drewN n) = .ok (.agg #[.int .i64 vb, .int .i64 ub]) (W.drewN n)) :
    Calls Try.prog 39 #[.int .i64 x, .int .i64 y, .pointer (some ⟨bx, 0, none⟩)] W fun e w' => e = .returned (.int .i64 (wrap64 (ub - ua))) ∧ ∃ q, w' = W.drewN q := by
  have hfd : ∀ (a b : Int) (w : World), (Instr.field 64 (.agg #[.int .i64 a, .int .i64 b]) 1).run Try.prog w = .ok (.int .i64 b) w := fun _ _ _ => by kernel_rfl
  go_enter Try.func39, Try.ntmps39
  go_wp2
  go_quiet (fail)
  go_wp2
  go_ret
  exact ⟨rfl, _, rfl⟩

def renFI : Ren := { f := fun n => match n with | 6 => 38 | 14 => 42 | 15 => 41 | 20 => 53 | 21 => 54 | 22 => 55 | 23 => 56 | 24 => 57 | 25 => 58 | 26 => 59 | 27 => 60 | 28 => 51 | 29 => 52 | 46 => 66 | 47 => 62 | 48 => 63 | 49 => 67 | 50 => 68 | 57 => 70 | n => n, t := fun n => match n with | 0 => 0 | 3 => 3 | 4 => 4 | 5 => 5 | 9 => 9 | 22 => 72 | 24 => 3 | 25 => 77 | 39 => 80 | 45 => 83 | 46 => 84 | 50 => 34 | 53 => 90 | 55 => 92 | 66 => 98 | 70 => 102 | 76 => 106 | 77 => 38 | n => n, g := fun n => n }
theorem laysFI : SlLaysF.n6 Try.prog renFI := by
  constructor
  all_goals first
    | kernel_rfl
    | (intro w; kernel_rfl)
    | exact bears_auto (by kernel_rfl) (by kernel_rfl)
theorem law3 : Keyed Try.prog 3 := int_keyed Try.underlying3
theorem info3 : (Try.prog.info? 3).map (fun i => (i.zero, i.size, i.bytes)) = some (some (.int .i64 0), 1, 8) := by kernel_rfl

theorem order_walkI {bp off bm nn : Nat} {D0 : DataW Unit} {R : Value → Option (DataW Unit × List MemPlace)} (w : World) (hp : w.cell? ⟨bp, off, none⟩ = some (.map (some bm))) (hown : w.ownsMap Try.prog 3 R bm nn D0)
    (xs : Array MapEntry) (clock : Nat) (hxs : w.heap[bm]? = some (.map xs clock)) (K : List Value) (hK : ((intKeys D0).map encZ).Perm K) (uf : Value → Int)
    (hlook : ∀ v, v ∈ K → ∃ a, ∀ W' : World, W'.heap[bm]? = some (.map xs clock) → (Instr.lookup 67 (.map (some bm)) v false).run Try.prog W' = .ok (.agg #[.int .i64 a, .int .i64 (uf v)]) W')
    (hstr : ∀ v, v ∈ K → ∃ x, v = .int .i64 x) (hpos : ∀ v, v ∈ K → 0 ≤ uf v ∧ uf v < 9223372036854775808) (hinj : ∀ v u, v ∈ K → u ∈ K → uf v = uf u → v = u) (hlen : Maps.size D0 ≤ 1000000) :
    Calls Try.prog 35 #[.pointer (some ⟨bp, off, none⟩)] w fun e w' => ∃ v r, e = .returned v ∧ r.Perm K ∧ r.Pairwise (fun a b => uf b ≤ uf a) ∧ w'.ownsRow w.heap.size 3 1 v r.length r ∧ Below w.heap.size w w' ∧ (r = [] → v = .slice none 0 0) := by
  obtain ⟨i0, hi, hz0, hz1, hz2⟩ := info_parts info3
  have hpl : bp < w.heap.size := by
    unfold World.cell? at hp
    split at hp
    · rename_i h; exact (Array.getElem?_eq_some_iff.1 h).1
    · cases hp
  have hg1 : w.grownBy (w.alloc (.cells #[.pointer (some ⟨bp, off, none⟩)] 50)) none := World.grownBy_alloc w _ none
  have hp1 : ∀ o, (w.alloc o).cell? ⟨bp, off, none⟩ = some (.map (some bm)) := fun o => (World.cell?_alloc_lt (a := ⟨bp, off, none⟩) (w := w) (o := o) hpl).trans hp
  go_enter Try.func35, Try.ntmps35
  go_wp2_with (first
    | (at_range; refine wpList_range_own _ rfl _ 67 rfl 3 64 law3 Try.underlying67 _ bm nn _ rfl (hown.kept hg1 (by simp)) ?_; intro w0 hrg0 hg0 hs0)
    | go_in)
  go_frame
  have hbl := hown.lt
  have e1 : w.heap.size + 1 ≤ (w.alloc (.cells #[.pointer (some ⟨bp, off, none⟩)] 50)).heap.size ∧ (w.alloc (.cells #[.pointer (some ⟨bp, off, none⟩)] 50)).heap.size ≤ w.heap.size + 1 := by constructor <;> exact Nat.le_of_eq (by rw [World.size_alloc])
  let W0 : World := w.alloc (.cells #[.pointer (some ⟨bp, off, none⟩)] 50)
  go_loopw [3] (fun v wr => ∃ (left : Lit → Bool) (cnt : Nat) (ss : List Int), wr.ranges Try.prog 3 R bm (w.alloc (.cells #[.pointer (some ⟨bp, off, none⟩)] 50)).heap.size nn D0 left cnt ∧ ss.length + cnt ≤ Maps.size D0 ∧
      wr.ownsRow (w.alloc (.cells #[.pointer (some ⟨bp, off, none⟩)] 50)).heap.size 3 1 v ss.length (ss.map encZ) ∧ CollectedI D0 left ss ∧ (ss = [] → v = .slice none 0 0) ∧ Below (w.alloc (.cells #[.pointer (some ⟨bp, off, none⟩)] 50)).heap.size W0 wr)
    (fun _ wr => wr.rangeLeft bm (w.alloc (.cells #[.pointer (some ⟨bp, off, none⟩)] 50)).heap.size)
  case atStart =>
    refine ⟨_, _, [], hrg0, by simp, ⟨rfl, .inl ⟨rfl, rfl⟩⟩, CollectedI.start D0, fun _ => rfl, ?_⟩
    exact (Below.refl _ _).grown hg0 (Nat.le_refl _) (fun j hj => by cases hj)
  case round =>
    obtain ⟨left, cnt, ss, hrg, hcs, hrow, hC, hnn, hnx⟩ := hrel
    go_wp2_with (first
      | (at_next; refine wpList_next_ranges _ rfl _ rfl 3 law3 R encZ id (fun key kl hk => by obtain ⟨x, hx, _⟩ := Maps.keyOf_i64 Try.underlying3 hk; exact ⟨x, hx⟩) (fun v _ _ => ⟨v, rfl⟩) bm (w.alloc (.cells #[.pointer (some ⟨bp, off, none⟩)] 50)).heap.size nn _ _ _ rfl hrg ?_ ?_)
      | go_in)
    · intro hc0 hl0
      have hperm : ss.Perm (intKeys D0) := hC.perm hown law3 Try.underlying3 hl0
      have hW : ∀ i, i < w.heap.size → wr.heap[i]? = w.heap[i]? := fun i hi => (hnx.block i (by omega)).trans (hg1.block i hi (by simp))
      have hbw : Below w.heap.size w wr := ⟨hnx.os, hnx.tape, hnx.output, by have := hnx.size; exact Nat.le_trans (Nat.le_of_succ_le e1.1) this, hW⟩
      rcases hrow.2 with ⟨rfl, hn⟩ | ⟨g, cap, cur, rfl, hbase, hb, h1, h2, h3, h4⟩
      · have hc := Go.Proofs.AnyF.slices_SortFunc_none (P := Try.prog) (ρ := renFI) { laysFI with } none 0 (.func (.func 39) #[] #[.pointer (some ⟨w.heap.size, 0, none⟩)]) wr
        change Calls Try.prog 38 _ _ _ at hc
        go_wp2_with (go_at_call 38; refine hc.mono ?_; rintro e w' ⟨rfl, rfl⟩)
        go_ret
        have hs0 : ss = [] := List.eq_nil_of_length_eq_zero hn
        subst hs0
        refine ⟨_, [], rfl, (hperm.map encZ).trans hK, .nil, ⟨rfl, .inl ⟨rfl, rfl⟩⟩, hbw, fun _ => rfl⟩
      · have hgl : g < wr.heap.size := (Array.getElem?_eq_some_iff.1 hb).1
        have hmem : ∀ v, v ∈ ss.map encZ → v ∈ K := fun v hv => ((hperm.map encZ).trans hK).mem_iff.1 hv
        rcases Nat.eq_zero_or_pos ss.length with hz | hz
        · cases hnn (List.eq_nil_of_length_eq_zero hz)
        · let d : List {v : Value // v ∈ K} := (ss.map encZ).pmap (fun v h => ⟨v, h⟩) hmem
          have hdl : d.length = ss.length := by simp [d]
          have hdv : d.map Subtype.val = ss.map encZ := by simp only [d, List.map_pmap]; exact List.pmap_eq_self.2 (fun _ _ => rfl)
          haveI : Inhabited {v : Value // v ∈ K} := ⟨d[0]'(by omega)⟩
          have hH : Go.Sort.Holds Subtype.val wr g 0 d.toArray := holds_row hb (by rw [hdv, hdl]; simpa using h4)
          have hcmp : CmpReads Try.prog 39 #[.pointer (some ⟨w.heap.size, 0, none⟩)] Subtype.val (fun x y : {v : Value // v ∈ K} => uf y.1 - uf x.1) g 0 d.toArray.size wr := by
            intro m os dk hs x y
            obtain ⟨sx, hsx⟩ := hstr x.1 x.2
            obtain ⟨sy, hsy⟩ := hstr y.1 y.2
            obtain ⟨va, ha⟩ := hlook x.1 x.2
            obtain ⟨vb, hb'⟩ := hlook y.1 y.2
            have hgr : wr.grownBy (Go.Proofs.sortWorld Subtype.val wr g 0 m dk os) (some g) := grownBy_row dk
            have hold : ∀ i, i < (w.alloc (.cells #[.pointer (some ⟨bp, off, none⟩)] 50)).heap.size → (Go.Proofs.sortWorld Subtype.val wr g 0 m dk os).heap[i]? = W0.heap[i]? := fun i hi =>
              (hgr.block i (Nat.lt_of_lt_of_le hi hnx.size) (fun e => by cases e; omega)).trans (hnx.block i hi)
            have hbx : (Go.Proofs.sortWorld Subtype.val wr g 0 m dk os).cell? ⟨w.heap.size, 0, none⟩ = some (.pointer (some ⟨bp, off, none⟩)) := by
              rw [World.cell?_of_block (a := ⟨w.heap.size, 0, none⟩) (hold w.heap.size (by omega))]
              exact World.cell?_alloc_at _ _ _ _ rfl
            have hpx : (Go.Proofs.sortWorld Subtype.val wr g 0 m dk os).cell? ⟨bp, off, none⟩ = some (.map (some bm)) := by
              rw [World.cell?_of_block (a := ⟨bp, off, none⟩) (hold bp (by omega))]
              exact hp1 _
            have hmx : ∀ q, ((Go.Proofs.sortWorld Subtype.val wr g 0 m dk os).drewN q).heap[bm]? = some (.map xs clock) := fun q => by
              show (Go.Proofs.sortWorld Subtype.val wr g 0 m dk os).heap[bm]? = _
              rw [hold bm (by omega)]
              exact (hg1.block bm hbl (by simp)).trans hxs
            have hc := cmp_walkI (x := sx) (y := sy) (va := va) (vb := vb) (ua := uf x.1) (ub := uf y.1) _ hbx hpx (fun q => by rw [← hsx]; exact ha _ (hmx q)) (fun q => by rw [← hsy]; exact hb' _ (hmx q))
            have e0 : #[x.1, y.1] ++ #[Value.pointer (some ⟨w.heap.size, 0, none⟩)] = #[.int .i64 sx, .int .i64 sy, .pointer (some ⟨w.heap.size, 0, none⟩)] := by rw [hsx, hsy]; rfl
            rw [e0]
            refine hc.mono ?_
            rintro e w' ⟨rfl, q, rfl⟩
            have := hpos x.1 x.2
            have := hpos y.1 y.2
            have e1 : wrap64 (uf y.1 - uf x.1) = uf y.1 - uf x.1 := by unfold wrap64; omega
            rw [e1]
            exact ⟨rfl, q, rfl⟩
          have lt_eq : ∀ x y : {v : Value // v ∈ K}, Go.Proofs.ltOf (fun x y : {v : Value // v ∈ K} => uf y.1 - uf x.1) x y = decide (uf y.1 < uf x.1) := fun x y => by
            unfold Go.Proofs.ltOf
            show decide (uf y.1 - uf x.1 < 0) = _; exact decide_eq_decide.2 (by constructor <;> intro h <;> omega)
          have hS := Go.Proofs.Any.slices_SortFunc_total laysFI Subtype.val (fun x => by obtain ⟨sx, hsx⟩ := hstr x.1 x.2; rw [hsx]; rfl) (fun x y : {v : Value // v ∈ K} => uf y.1 - uf x.1)
            ⟨fun x => by rw [lt_eq]; simp, fun x y z h5 h6 => by rw [lt_eq] at *; simp at *; omega, fun x y z h5 h6 => by rw [lt_eq] at *; simp at *; omega⟩ 39 #[.pointer (some ⟨w.heap.size, 0, none⟩)] g 0 cap d.toArray wr
            (fun args w => callFunc_run Try.func39 (by kernel_rfl) (by kernel_rfl) args w) hcmp.lays hH hgl (by simp; omega) (fun x y h5 h6 => by rw [lt_eq] at *; simp at *; exact Subtype.ext (hinj _ _ x.2 y.2 (by omega)))
          rw [show d.toArray.size = ss.length by simpa using hdl] at hS
          have le_eq : (fun x y : {v : Value // v ∈ K} => !Go.Proofs.ltOf (fun x y : {v : Value // v ∈ K} => uf y.1 - uf x.1) y x) = fun x y => decide (uf y.1 ≤ uf x.1) := by
            funext x y
            rw [lt_eq]
            by_cases h : uf y.1 ≤ uf x.1
            · have h' : ¬ uf x.1 < uf y.1 := by omega
              simp [h, h']
            · have h' : uf x.1 < uf y.1 := by omega
              simp [h, h']
          rw [le_eq] at hS
          have hpm : (d.toArray.toList.mergeSort fun x y => decide (uf y.1 ≤ uf x.1)).Perm d := by simpa using List.mergeSort_perm d fun x y => decide (uf y.1 ≤ uf x.1)
          have hpw := List.pairwise_mergeSort (le := fun x y : {v : Value // v ∈ K} => decide (uf y.1 ≤ uf x.1)) (fun a b c h5 h6 => by simp at *; omega) (fun a b => by simp; omega) d.toArray.toList
          generalize (d.toArray.toList.mergeSort fun x y => decide (uf y.1 ≤ uf x.1)) = T at hpm hpw hS
          have hTl : T.length = ss.length := hpm.length_eq.trans hdl
          change Calls Try.prog 38 _ _ _ at hS
          go_wp2_with (go_at_call 38; refine hS.mono ?_; rintro e w' ⟨rfl, nq, os, rfl⟩)
          go_ret
          refine ⟨_, T.map Subtype.val, rfl, ((hpm.map _).trans (hdv ▸ (hperm.map encZ).trans hK)), List.pairwise_map.2 (hpw.imp fun h => by simpa using h), ?_, ?_, fun e => absurd (List.eq_nil_of_map_eq_nil e) (fun e => by rw [e] at hTl; simp at hTl; omega)⟩
          · rw [List.length_map, hTl]
            exact ownsRow_row hTl (by omega) hb h1 h2 h3
          · have hgr : wr.grownBy (Go.Proofs.sortWorld Subtype.val wr g 0 nq T.toArray os) (some g) := grownBy_row _
            exact hbw.grown hgr (by have := hnx.size; omega) (fun j hj => by cases hj; omega)
    · intro x c kl yd yp w2 cnt2 hkey hlk hv hat hrg2 hlt hg2 hs2 hen
      obtain ⟨x', ex, rfl, _⟩ := Maps.keyOf_i64 Try.underlying3 hkey
      obtain rfl : x = x' := encZ_inj ex
      simp only [World.size_alloc] at hrg hrg2 hg2 hrow hen
      have hrow2 := hrow.kept hg2 (Or.inr (row_ne_iter hrow hrg).symm)
      clear hs2
      have hsz2 : w.heap.size + 1 ≤ wr.heap.size := Nat.le_trans e1.1 hnx.size
      have hsz3 := hg2.size
      go_wp2_with (first
        | (at_builtin; go_loud (refine wpList_append_own _ rfl _ _ 72 rfl (w.heap.size + 1) 3 i0 (.int .i64 0) 1 8 Try.underlying72 hi hz0 hz1 hz2 rfl (by decide) _ _ _ rfl (hrow2.alloc _) ⟨w2.heap.size, 0, none⟩ 1 1 [encZ x] rfl rfl (cell_one_new _ _ _) (by simp [Value.oneCell', encZ]) (by unfold maxLen at *; omega) (by omega) (by simp; omega) ?_); intro v' w3 hown' hg3 hnil3; go_frame)
        | go_in)
      have hrg3 := (hrg2.alloc (.cells #[encZ x] 3)).kept hg3 (row_ne_low hrow2 (by omega)) (row_ne_iter hrow2 hrg2)
      go_roundw
      case rel =>
        refine ⟨_, cnt2, hrg3, ss ++ [x], by simp; omega, by simpa using hown', hC.step hlk hat, fun e => by simp at e, ?_⟩
        have hB := ((hnx.grown hg2 hnx.size (fun j hj => by cases hj; omega)).alloc (by omega) _).grown hg3 (by simp; omega) (fun j hj => by have := (hrow2.lt j hj).1; omega)
        rwa [World.size_alloc] at hB
      case measure => rw [hrg3.left_eq, hrg.left_eq]; exact hlt
end Go.Dx
