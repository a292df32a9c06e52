/- cache.order at strings: all keys of the map, the one used last first. -/
import Derived.Test.YtlcgbhpemkomkaaProg
import Derived.Test.YtlcgbhpemkomkaaDxSorted
import Derived.Sort.MapsRangeIn
import Derived.Sort.KeysCollected
import Derived.Sort.OwnSorted
import Derived.Maps.AppendAt
import Derived.OwnWalkIn
import Derived.TacticsInMore
import Derived.RegionIn
import Derived.LoopNIn
import Derived.LoopIn
import Derived.Shelf.SlSortCmp.NoneTotal
import Derived.Deep.QuietTactic
import Derived.BigQuiet
import Derived.WalkKit
set_option linter.unusedVariables false
set_option linter.unusedSimpArgs false
namespace Go.Dx
open Go Go.Proofs Go.Shelf Go.RowKit Go.Maps
set_option maxRecDepth 100000
set_option maxHeartbeats 2000000

theorem cmp_walk {bx bp off bm : Nat} {x y : ByteArray} {va vb ua ub : Int} (W : World) (hbox : W.cell? ⟨bx, 0, none⟩ = some (.pointer (some ⟨bp, off, none⟩))) (hp : W.cell? ⟨bp, off, none⟩ = some (.map (some bm)))
    (hx : ∀ n, (Instr.lookup 55 (.map (some bm)) (.string x) false).run Try.prog (W.drewN n) = .ok (.agg #[.int .i64 va, .int .i64 ua]) (W.drewN n))
    (hy : ∀ n, (Instr.lookup 55 (.map (some bm)) (.string y) false).run Try.prog (W.drewN n) = .ok (.agg #[.int .i64 vb, .int .i64 ub]) (W.drewN n)) :
    Calls Try.prog 37 #[.string x, .string y, .pointer (some ⟨bx, 0, none⟩)] W fun e w' => e = .returned (.int .i64 (wrap64 (ub - ua))) ∧ ∃ q, w' = W.drewN q := by
  have hfd : ∀ (a b : Int) (w : World), (Instr.field 64 (.agg #[.int .i64 a, .int .i64 b]) 1).run Try.prog w = .ok (.int .i64 b) w := fun _ _ _ => by kernel_rfl
  go_enter Try.func37, Try.ntmps37
  go_wp2
  go_quiet (fail)
  go_wp2
  go_ret
  exact ⟨rfl, _, rfl⟩

/-! ### Rows of values under their own type -/
section
variable {α : Type} [Inhabited α] {enc : α → Value}
theorem holds_row {w : World} {g : Nat} {cur : Array Value} {e : TypeId} {ss : List α} (hb : w.heap[g]? = some (.cells cur e (0, 0))) (ht : cur.toList.take ss.length = ss.map enc) : Go.Sort.Holds enc w g 0 ss.toArray := by
  intro j hj
  have hj' : j < ss.length := by simpa using hj
  refine ⟨?_, by simp [World.frozen?, hb]⟩
  have h1 : (cur.toList.take ss.length)[j]? = (ss.map enc)[j]? := by rw [ht]
  rw [List.getElem?_take_of_lt hj'] at h1
  simp only [World.cell?, hb, Nat.zero_add]
  simp only [Option.isSome_none, Bool.false_eq_true, if_false]
  rw [← Array.getElem?_toList, h1]
  simp [hj']
theorem heap_row {w : World} {g n : Nat} {os : Array Obj} {cur : Array Value} {e : TypeId} {fr : Nat × Nat} (d : Array α) (hb : w.heap[g]? = some (.cells cur e fr)) :
    (Go.Sort.grow (Go.Sort.putRow enc (Go.Sort.ahead w n) g 0 d) os).heap[g]? = some (.cells (Go.Sort.putCells enc 0 d cur) e fr) := by
  have hg : g < w.heap.size := (Array.getElem?_eq_some_iff.1 hb).1
  rw [Go.Sort.heap_grow_old _ _ (by simpa using hg)]
  simp [Go.Sort.putRow, Go.Sort.mapBlock, Go.Sort.ahead, Array.getElem?_modify, hb, Go.Sort.onCells]
theorem grownBy_row {w : World} {g n : Nat} {os : Array Obj} (d : Array α) : w.grownBy (Go.Sort.grow (Go.Sort.putRow enc (Go.Sort.ahead w n) g 0 d) os) (some g) := by
  refine ⟨rfl, rfl, rfl, by simp, fun k hk hne => ?_⟩
  rw [Go.Sort.heap_grow_old _ _ (by simpa using hk)]
  have : g ≠ k := fun e => hne (by rw [e])
  simp [Go.Sort.putRow, Go.Sort.mapBlock, Go.Sort.ahead, Array.getElem?_modify, this]
theorem take_row (cur : Array Value) (ts : List α) (h : ts.length ≤ cur.size) : (Go.Sort.putCells enc 0 ts.toArray cur).toList.take ts.length = ts.map enc := by
  apply List.ext_getElem?
  intro j
  by_cases hj : j < ts.length
  · rw [List.getElem?_take_of_lt hj, Array.getElem?_toList]
    simp [Go.Sort.putCells, hj, show j < cur.size by omega]
  · rw [List.getElem?_take_eq_none (by omega), List.getElem?_eq_none (by simp; omega)]
theorem ownsRow_row {w : World} {base g cap n m : Nat} {e : TypeId} {os : Array Obj} {cur : Array Value} {ts : List α} (hl : ts.length = m) (hbase : base ≤ g) (hb : w.heap[g]? = some (.cells cur e (0, 0)))
    (h1 : m ≤ cap) (h2 : cap ≤ maxLen) (h3 : cur.size = cap * 1) :
    (Go.Sort.grow (Go.Sort.putRow enc (Go.Sort.ahead w n) g 0 ts.toArray) os).ownsRow base e 1 (.slice (some ⟨g, 0, none⟩) m cap) m (ts.map enc) :=
  ⟨by simp [hl], .inr ⟨g, cap, _, rfl, hbase, heap_row _ hb, h1, h2, by simp [Go.Sort.putCells, h3], by rw [Nat.mul_one, ← hl]; exact take_row cur ts (by omega)⟩⟩
end

theorem bears_auto {P : Program} {f : FuncId} {B : Func} (h1 : (((P.funcs[f]?).getD default).name == "runtime.NumGoroutine") = false) (h2 : P.funcs[f]? = some { B with name := ((P.funcs[f]?).getD default).name }) : Go.Proofs.Bears P f B := ⟨_, h1, h2⟩
def renFS : Ren := { f := fun n => match n with | 6 => 36 | 14 => 40 | 15 => 41 | 20 => 43 | 21 => 44 | 22 => 45 | 23 => 46 | 24 => 47 | 25 => 48 | 26 => 49 | 27 => 50 | 28 => 51 | 29 => 52 | 46 => 61 | 47 => 62 | 48 => 63 | 49 => 64 | 50 => 65 | 57 => 69 | n => n, t := fun n => match n with | 0 => 0 | 3 => 3 | 4 => 4 | 5 => 5 | 9 => 9 | 22 => 42 | 24 => 9 | 25 => 75 | 39 => 80 | 45 => 83 | 46 => 84 | 50 => 34 | 53 => 90 | 55 => 92 | 66 => 98 | 70 => 102 | 76 => 106 | 77 => 38 | n => n, g := fun n => n }
theorem laysFS : SlLaysF.n6 Try.prog renFS := by
  constructor
  all_goals first
    | kernel_rfl
    | (intro w; kernel_rfl)
    | exact bears_auto (by kernel_rfl) (by kernel_rfl)
theorem law9 : Keyed Try.prog 9 := string_keyed Try.underlying9
theorem info9 : (Try.prog.info? 9).map (fun i => (i.zero, i.size, i.bytes)) = some (some (.string ⟨#[]⟩), 1, 16) := by kernel_rfl

theorem order_walk {bp off bm nn : Nat} {D0 : DataW Unit} {R : Value → Option (DataW Unit × List MemPlace)} (w : World) (hp : w.cell? ⟨bp, off, none⟩ = some (.map (some bm))) (hown : w.ownsMap Try.prog 9 R bm nn D0)
    (xs : Array MapEntry) (clock : Nat) (hxs : w.heap[bm]? = some (.map xs clock)) (K : List Value) (hK : ((strKeys D0).map encStr).Perm K) (uf : Value → Int)
    (hlook : ∀ v, v ∈ K → ∃ a, ∀ W' : World, W'.heap[bm]? = some (.map xs clock) → (Instr.lookup 55 (.map (some bm)) v false).run Try.prog W' = .ok (.agg #[.int .i64 a, .int .i64 (uf v)]) W')
    (hstr : ∀ v, v ∈ K → ∃ x, v = .string x) (hpos : ∀ v, v ∈ K → 0 ≤ uf v ∧ uf v < 9223372036854775808) (hinj : ∀ v u, v ∈ K → u ∈ K → uf v = uf u → v = u) (hlen : Maps.size D0 ≤ 1000000) :
    Calls Try.prog 30 #[.pointer (some ⟨bp, off, none⟩)] w fun e w' => ∃ v r, e = .returned v ∧ r.Perm K ∧ r.Pairwise (fun a b => uf b ≤ uf a) ∧ w'.ownsRow w.heap.size 9 1 v r.length r ∧ Below w.heap.size w w' ∧ (r = [] → v = .slice none 0 0) := by
  obtain ⟨i0, hi, hz0, hz1, hz2⟩ := info_parts info9
  have hpl : bp < w.heap.size := by
    unfold World.cell? at hp
    split at hp
    · rename_i h; exact (Array.getElem?_eq_some_iff.1 h).1
    · cases hp
  have hg1 : w.grownBy (w.alloc (.cells #[.pointer (some ⟨bp, off, none⟩)] 23)) none := World.grownBy_alloc w _ none
  have hp1 : ∀ o, (w.alloc o).cell? ⟨bp, off, none⟩ = some (.map (some bm)) := fun o => (World.cell?_alloc_lt (a := ⟨bp, off, none⟩) (w := w) (o := o) hpl).trans hp
  go_enter Try.func30, Try.ntmps30
  go_wp2_with (first
    | (at_range; refine wpList_range_own _ rfl _ 55 rfl 9 64 law9 Try.underlying55 _ bm nn _ rfl (hown.kept hg1 (by simp)) ?_; intro w0 hrg0 hg0 hs0)
    | go_in)
  go_frame
  have hbl := hown.lt
  have e1 : w.heap.size + 1 ≤ (w.alloc (.cells #[.pointer (some ⟨bp, off, none⟩)] 23)).heap.size ∧ (w.alloc (.cells #[.pointer (some ⟨bp, off, none⟩)] 23)).heap.size ≤ w.heap.size + 1 := by constructor <;> exact Nat.le_of_eq (by rw [World.size_alloc])
  let W0 : World := w.alloc (.cells #[.pointer (some ⟨bp, off, none⟩)] 23)
  go_loopw [3] (fun v wr => ∃ (left : Lit → Bool) (cnt : Nat) (ss : List (List UInt8)), wr.ranges Try.prog 9 R bm (w.alloc (.cells #[.pointer (some ⟨bp, off, none⟩)] 23)).heap.size nn D0 left cnt ∧ ss.length + cnt ≤ Maps.size D0 ∧
      wr.ownsRow (w.alloc (.cells #[.pointer (some ⟨bp, off, none⟩)] 23)).heap.size 9 1 v ss.length (ss.map encStr) ∧ Collected D0 left ss ∧ (ss = [] → v = .slice none 0 0) ∧ Below (w.alloc (.cells #[.pointer (some ⟨bp, off, none⟩)] 23)).heap.size W0 wr)
    (fun _ wr => wr.rangeLeft bm (w.alloc (.cells #[.pointer (some ⟨bp, off, none⟩)] 23)).heap.size)
  case atStart =>
    refine ⟨_, _, [], hrg0, by simp, ⟨rfl, .inl ⟨rfl, rfl⟩⟩, Collected.start D0, fun _ => rfl, ?_⟩
    exact (Below.refl _ _).grown hg0 (Nat.le_refl _) (fun j hj => by cases hj)
  case round =>
    obtain ⟨left, cnt, ss, hrg, hcs, hrow, hC, hnn, hnx⟩ := hrel
    go_wp2_with (first
      | (at_next; refine wpList_next_ranges _ rfl _ rfl 9 law9 R encStr id (fun key kl hk => by obtain ⟨x, hx, _⟩ := Maps.keyOf_str Try.underlying9 hk; exact ⟨x, hx⟩) (fun v _ _ => ⟨v, rfl⟩) bm (w.alloc (.cells #[.pointer (some ⟨bp, off, none⟩)] 23)).heap.size nn _ _ _ rfl hrg ?_ ?_)
      | go_in)
    · intro hc0 hl0
      have hperm : ss.Perm (strKeys D0) := hC.perm hown law9 Try.underlying9 hl0
      have hW : ∀ i, i < w.heap.size → wr.heap[i]? = w.heap[i]? := fun i hi => (hnx.block i (by omega)).trans (hg1.block i hi (by simp))
      have hbw : Below w.heap.size w wr := ⟨hnx.os, hnx.tape, hnx.output, by have := hnx.size; exact Nat.le_trans (Nat.le_of_succ_le e1.1) this, hW⟩
      rcases hrow.2 with ⟨rfl, hn⟩ | ⟨g, cap, cur, rfl, hbase, hb, h1, h2, h3, h4⟩
      · have hc := Go.Proofs.AnyF.slices_SortFunc_none (P := Try.prog) (ρ := renFS) { laysFS with } none 0 (.func (.func 37) #[] #[.pointer (some ⟨w.heap.size, 0, none⟩)]) wr
        change Calls Try.prog 36 _ _ _ at hc
        go_wp2_with (go_at_call 36; refine hc.mono ?_; rintro e w' ⟨rfl, rfl⟩)
        go_ret
        have hs0 : ss = [] := List.eq_nil_of_length_eq_zero hn
        subst hs0
        refine ⟨_, [], rfl, (hperm.map encStr).trans hK, .nil, ⟨rfl, .inl ⟨rfl, rfl⟩⟩, hbw, fun _ => rfl⟩
      · have hgl : g < wr.heap.size := (Array.getElem?_eq_some_iff.1 hb).1
        have hmem : ∀ v, v ∈ ss.map encStr → v ∈ K := fun v hv => ((hperm.map encStr).trans hK).mem_iff.1 hv
        rcases Nat.eq_zero_or_pos ss.length with hz | hz
        · cases hnn (List.eq_nil_of_length_eq_zero hz)
        · let d : List {v : Value // v ∈ K} := (ss.map encStr).pmap (fun v h => ⟨v, h⟩) hmem
          have hdl : d.length = ss.length := by simp [d]
          have hdv : d.map Subtype.val = ss.map encStr := by simp only [d, List.map_pmap]; exact List.pmap_eq_self.2 (fun _ _ => rfl)
          haveI : Inhabited {v : Value // v ∈ K} := ⟨d[0]'(by omega)⟩
          have hH : Go.Sort.Holds Subtype.val wr g 0 d.toArray := holds_row hb (by rw [hdv, hdl]; simpa using h4)
          have hcmp : CmpReads Try.prog 37 #[.pointer (some ⟨w.heap.size, 0, none⟩)] Subtype.val (fun x y : {v : Value // v ∈ K} => uf y.1 - uf x.1) g 0 d.toArray.size wr := by
            intro m os dk hs x y
            obtain ⟨sx, hsx⟩ := hstr x.1 x.2
            obtain ⟨sy, hsy⟩ := hstr y.1 y.2
            obtain ⟨va, ha⟩ := hlook x.1 x.2
            obtain ⟨vb, hb'⟩ := hlook y.1 y.2
            have hgr : wr.grownBy (Go.Proofs.sortWorld Subtype.val wr g 0 m dk os) (some g) := grownBy_row dk
            have hold : ∀ i, i < (w.alloc (.cells #[.pointer (some ⟨bp, off, none⟩)] 23)).heap.size → (Go.Proofs.sortWorld Subtype.val wr g 0 m dk os).heap[i]? = W0.heap[i]? := fun i hi =>
              (hgr.block i (Nat.lt_of_lt_of_le hi hnx.size) (fun e => by cases e; omega)).trans (hnx.block i hi)
            have hbx : (Go.Proofs.sortWorld Subtype.val wr g 0 m dk os).cell? ⟨w.heap.size, 0, none⟩ = some (.pointer (some ⟨bp, off, none⟩)) := by
              rw [World.cell?_of_block (a := ⟨w.heap.size, 0, none⟩) (hold w.heap.size (by omega))]
              exact World.cell?_alloc_at _ _ _ _ rfl
            have hpx : (Go.Proofs.sortWorld Subtype.val wr g 0 m dk os).cell? ⟨bp, off, none⟩ = some (.map (some bm)) := by
              rw [World.cell?_of_block (a := ⟨bp, off, none⟩) (hold bp (by omega))]
              exact hp1 _
            have hmx : ∀ q, ((Go.Proofs.sortWorld Subtype.val wr g 0 m dk os).drewN q).heap[bm]? = some (.map xs clock) := fun q => by
              show (Go.Proofs.sortWorld Subtype.val wr g 0 m dk os).heap[bm]? = _
              rw [hold bm (by omega)]
              exact (hg1.block bm hbl (by simp)).trans hxs
            have hc := cmp_walk (x := sx) (y := sy) (va := va) (vb := vb) (ua := uf x.1) (ub := uf y.1) _ hbx hpx (fun q => by rw [← hsx]; exact ha _ (hmx q)) (fun q => by rw [← hsy]; exact hb' _ (hmx q))
            have e0 : #[x.1, y.1] ++ #[Value.pointer (some ⟨w.heap.size, 0, none⟩)] = #[.string sx, .string sy, .pointer (some ⟨w.heap.size, 0, none⟩)] := by rw [hsx, hsy]; rfl
            rw [e0]
            refine hc.mono ?_
            rintro e w' ⟨rfl, q, rfl⟩
            have := hpos x.1 x.2
            have := hpos y.1 y.2
            have e1 : wrap64 (uf y.1 - uf x.1) = uf y.1 - uf x.1 := by unfold wrap64; omega
            rw [e1]
            exact ⟨rfl, q, rfl⟩
          have lt_eq : ∀ x y : {v : Value // v ∈ K}, Go.Proofs.ltOf (fun x y : {v : Value // v ∈ K} => uf y.1 - uf x.1) x y = decide (uf y.1 < uf x.1) := fun x y => by
            unfold Go.Proofs.ltOf
            show decide (uf y.1 - uf x.1 < 0) = _; exact decide_eq_decide.2 (by constructor <;> intro h <;> omega)
          have hS := Go.Proofs.Any.slices_SortFunc_total laysFS Subtype.val (fun x => by obtain ⟨sx, hsx⟩ := hstr x.1 x.2; rw [hsx]; rfl) (fun x y : {v : Value // v ∈ K} => uf y.1 - uf x.1)
            ⟨fun x => by rw [lt_eq]; simp, fun x y z h5 h6 => by rw [lt_eq] at *; simp at *; omega, fun x y z h5 h6 => by rw [lt_eq] at *; simp at *; omega⟩ 37 #[.pointer (some ⟨w.heap.size, 0, none⟩)] g 0 cap d.toArray wr
            (fun args w => callFunc_run Try.func37 (by kernel_rfl) (by kernel_rfl) args w) hcmp.lays hH hgl (by simp; omega) (fun x y h5 h6 => by rw [lt_eq] at *; simp at *; exact Subtype.ext (hinj _ _ x.2 y.2 (by omega)))
          rw [show d.toArray.size = ss.length by simpa using hdl] at hS
          have le_eq : (fun x y : {v : Value // v ∈ K} => !Go.Proofs.ltOf (fun x y : {v : Value // v ∈ K} => uf y.1 - uf x.1) y x) = fun x y => decide (uf y.1 ≤ uf x.1) := by
            funext x y
            rw [lt_eq]
            by_cases h : uf y.1 ≤ uf x.1
            · have h' : ¬ uf x.1 < uf y.1 := by omega
              simp [h, h']
            · have h' : uf x.1 < uf y.1 := by omega
              simp [h, h']
          rw [le_eq] at hS
          have hpm : (d.toArray.toList.mergeSort fun x y => decide (uf y.1 ≤ uf x.1)).Perm d := by simpa using List.mergeSort_perm d fun x y => decide (uf y.1 ≤ uf x.1)
          have hpw := List.pairwise_mergeSort (le := fun x y : {v : Value // v ∈ K} => decide (uf y.1 ≤ uf x.1)) (fun a b c h5 h6 => by simp at *; omega) (fun a b => by simp; omega) d.toArray.toList
          generalize (d.toArray.toList.mergeSort fun x y => decide (uf y.1 ≤ uf x.1)) = T at hpm hpw hS
          have hTl : T.length = ss.length := hpm.length_eq.trans hdl
          change Calls Try.prog 36 _ _ _ at hS
          go_wp2_with (go_at_call 36; refine hS.mono ?_; rintro e w' ⟨rfl, nq, os, rfl⟩)
          go_ret
          refine ⟨_, T.map Subtype.val, rfl, ((hpm.map _).trans (hdv ▸ (hperm.map encStr).trans hK)), List.pairwise_map.2 (hpw.imp fun h => by simpa using h), ?_, ?_, fun e => absurd (List.eq_nil_of_map_eq_nil e) (fun e => by rw [e] at hTl; simp at hTl; omega)⟩
          · rw [List.length_map, hTl]
            exact ownsRow_row hTl (by omega) hb h1 h2 h3
          · have hgr : wr.grownBy (Go.Proofs.sortWorld Subtype.val wr g 0 nq T.toArray os) (some g) := grownBy_row _
            exact hbw.grown hgr (by have := hnx.size; omega) (fun j hj => by cases hj; omega)
    · intro x c kl yd yp w2 cnt2 hkey hlk hv hat hrg2 hlt hg2 hs2 hen
      obtain ⟨x', ex, rfl, _⟩ := Maps.keyOf_str Try.underlying9 hkey
      obtain rfl : x = x' := encStr_inj ex
      simp only [World.size_alloc] at hrg hrg2 hg2 hrow hen
      have hrow2 := hrow.kept hg2 (Or.inr (row_ne_iter hrow hrg).symm)
      clear hs2
      have hsz2 : w.heap.size + 1 ≤ wr.heap.size := Nat.le_trans e1.1 hnx.size
      have hsz3 := hg2.size
      go_wp2_with (first
        | (at_builtin; go_loud (refine wpList_append_own _ rfl _ _ 42 rfl (w.heap.size + 1) 9 i0 (.string ⟨#[]⟩) 1 16 Try.underlying42 hi hz0 hz1 hz2 rfl (by decide) _ _ _ rfl (hrow2.alloc _) ⟨w2.heap.size, 0, none⟩ 1 1 [encStr x] rfl rfl (cell_one_new _ _ _) (by simp [Value.oneCell', encStr]) (by unfold maxLen at *; omega) (by omega) (by simp; omega) ?_); intro v' w3 hown' hg3 hnil3; go_frame)
        | go_in)
      have hrg3 := (hrg2.alloc (.cells #[encStr x] 9)).kept hg3 (row_ne_low hrow2 (by omega)) (row_ne_iter hrow2 hrg2)
      go_roundw
      case rel =>
        refine ⟨_, cnt2, hrg3, ss ++ [x], by simp; omega, by simpa using hown', hC.step hlk hat, fun e => by simp at e, ?_⟩
        have hB := ((hnx.grown hg2 hnx.size (fun j hj => by cases hj; omega)).alloc (by omega) _).grown hg3 (by simp; omega) (fun j hj => by have := (hrow2.lt j hj).1; omega)
        rwa [World.size_alloc] at hB
      case measure => rw [hrg3.left_eq, hrg.left_eq]; exact hlt
end Go.Dx
