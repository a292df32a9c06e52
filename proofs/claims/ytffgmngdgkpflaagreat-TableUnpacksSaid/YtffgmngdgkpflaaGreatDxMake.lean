/- A part. -/
import Derived.Test.YtffgmngdgkpflaaGreatDxRead
import Derived.IntWalk
set_option linter.unusedVariables false
set_option linter.unusedSimpArgs false
set_option linter.unusedSectionVars false
namespace Go.Dx
open Go
section
variable {P : Program} {β : Emb} {w w' : World} {ρ ρ' : Operand → Value} {v : Value} {s s' : DS}
theorem Yu (l : List Value) (i : Nat) : getN l i = l[i]? := by
 induction l generalizing i with
 | nil => simp [getN]
 | cons x l ih => cases i <;> simp [getN, ih]
theorem LRel.get? {l l' : List Value} (h : LRel β l l') {i : Nat} {v : Value} (hi : l[i]? = some v) : ∃ v', l'[i]? = some v' ∧ VRel β v v' :=
 h.getN (by rw [Yu]; exact hi)
theorem DO {B : Nat} {arr : Array Value} {t : TypeId} {fr : Nat × Nat} {l l' more : List Value} {c : Cells} {ext sz : Nat}
 (hh : w'.heap[B]? = some (.cells arr t fr)) (harr : arr.toList = l' ++ more) (hl : LRel β l l') (hc : ∀ i v, c.get i = some v → l[i]? = some v) (hsz : c.size = l.length)
 (hm : more.length = ext * sz) (hfr : fr = (0, 0) ∨ (c.plain = false ∧ arr.size ≤ fr.1)) :
 Gc P β ⟨B, 0, ext, sz, l.length⟩ (.cells c false) w' := by
 have hlen := hl.length
 have hsize : arr.size = l.length + ext * sz := by rw [← Array.length_toList, harr]; simp [hlen, hm]
 have hcell : ∀ i, w'.cell? ⟨B, i, none⟩ = arr[i]? := by
  intro i; simp [World.cell?, hh]
 refine ⟨(Array.getElem?_eq_some_iff.1 hh).1, hsz, ?_, ?_, fun _ hp => by
  rcases hfr with rfl | ⟨h, _⟩
  · exact ⟨fun i => by simp [World.frozen?, hh], by simp [JK, hh]⟩
  · rw [hp] at h; cases h⟩
 · intro i v hv
   obtain ⟨v', h1, h2⟩ := hl.get? (hc i v hv)
   refine ⟨v', ?_, h2⟩
   simp only [Nat.zero_add]
   rw [hcell, ← Array.getElem?_toList, harr, List.getElem?_append_left (by
    rcases Nat.lt_or_ge i l'.length with h | h
    · exact h
    · simp [List.getElem?_eq_none h] at h1)]
   exact h1
 · intro _ i hi
   simp only [Nat.zero_add] at hi ⊢
   have hi' : i < arr.size := by omega
   refine ⟨⟨arr[i], by rw [hcell]; exact Array.getElem?_eq_getElem hi'⟩, ?_⟩
   simp only [World.frozen?, hh]
   rcases hfr with rfl | ⟨_, h⟩
   · simp
   · obtain ⟨lo, hi2⟩ := fr
     simp only at h ⊢
     have : ¬ lo ≤ i := by omega
     simp [this]
theorem YF (l : List Value) : (∀ i v, (Cells.list l).get i = some v → l[i]? = some v) ∧ (Cells.list l).size = l.length :=
 ⟨fun i v h => by rw [← Yu]; exact h, rfl⟩
theorem Dl (l : List Value) : (∀ i v, (Cells.str l).get i = some v → l[i]? = some v) ∧ (Cells.str l).size = l.length :=
 ⟨fun i v h => by rw [← Yu]; exact h, rfl⟩
theorem WR (c : Cells) (l : List Value) : (∀ i v, (c.like l).get i = some v → l[i]? = some v) ∧ (c.like l).size = l.length := by
 unfold Cells.like
 split
 · exact YF l
 · exact Dl l
theorem Jp (c : Cells) (l : List Value) : (c.like l).plain = c.plain := by
 unfold Cells.like
 cases h : c.plain <;> simp [Cells.plain]
theorem JO (w : World) (O : Obj) : (w.heap.push O)[w.heap.size]? = some O := by simp
theorem row_step (hR : Rel P β s.get w) (hf : β s.next = none) {arr : Array Value} {t : TypeId} {fr : Nat × Nat} {l l' more : List Value} {c : Cells} {ext sz : Nat}
 (hh : w'.heap = w.heap.push (.cells arr t fr)) (hos : w'.os = w.os) (ht : w'.tape = w.tape) (hu : w'.output = w.output)
 (harr : arr.toList = l' ++ more) (hl : LRel β l l') (hc : (∀ i v, c.get i = some v → l[i]? = some v) ∧ c.size = l.length) (hm : more.length = ext * sz) (hfr : fr = (0, 0) ∨ (c.plain = false ∧ arr.size ≤ fr.1)) :
 Step P β s.get s.next w (β.upd s.next ⟨w.heap.size, 0, ext, sz, l.length⟩) (s.new (.cells c false)).get (s.new (.cells c false)).next w' :=
 Step.new hR hf rfl hh hos ht hu (DO (by rw [hh]; exact JO w _) harr (hl.mono (Emb.le_upd hf)) hc.1 hc.2 hm hfr)
theorem WQ (t : TypeId) (cs : Array Value) : (newRow t cs).run P w = .ok ⟨w.heap.size, 0, none⟩ { w with heap := w.heap.push (.cells cs t) } := by
 simp [newRow]
theorem Kf (z : Array Value) (hz : 0 < z.size) : ∀ (n : Nat), ((Array.range (n * z.size)).map (z[· % z.size]!)).toList = repeatZ z.toList n := by
 intro n
 simp only [Array.toList_map, Array.toList_range]
 induction n with
 | zero => simp [repeatZ]
 | succ n ih =>
  rw [Nat.add_mul, Nat.one_mul, Nat.add_comm (n * z.size), List.range_add, List.map_append]
  simp only [repeatZ]
  congr 1
  · apply List.ext_getElem
    · simp
    · intro i h1 h2
      simp at h1
      simp [Nat.mod_eq_of_lt h1, h1, getElem!_pos]
  · rw [← ih, List.map_map]
    apply List.map_congr_left
    intro i _
    simp
theorem LRel.repeatZ {z z' : List Value} (h : LRel β z z') : ∀ n, LRel β (repeatZ z n) (repeatZ z' n)
 | 0 => .nil
 | n + 1 => by simp only [Dx.repeatZ]; exact h.append (LRel.repeatZ h n)
theorem JM (z : List Value) : ∀ n, (repeatZ z n).length = n * z.length
 | 0 => by simp [repeatZ]
 | n + 1 => by simp only [repeatZ, List.length_append, JM z n, Nat.add_mul]; omega
theorem VJ (v : Value) : ∀ (n i : Nat), i < n → (repeatZ [v] n)[i]? = some v
 | 0, _, h => absurd h (Nat.not_lt_zero _)
 | n + 1, 0, _ => by simp [repeatZ]
 | n + 1, i + 1, h => by simp only [repeatZ]; simpa using VJ v n i (by omega)
abbrev PY (P : Program) (o : Oper) (β : Emb) (ρ' : Operand → Value) (w : World) (s s' : DS) (v : Value) : Prop :=
 ∃ β' v' w', ((execOp ρ' o).run P w = .ok (.value v') w' ∨ (v' = undef ∧ (execOp ρ' o).run P w = .ok .skip w')) ∧ VRel β' v v' ∧ Step P β s.get s.next w β' s'.get s'.next w'
theorem N4 (o : Oper) (hR : Rel P β s.get w) (hρ : ∀ x ∈ o.op.operands, VRel β (ρ x) (ρ' x)) (hf : s.next < s'.next → β s.next = none) (h : Z9 ρ s (ZJ P o) = some (v, s')) :
 PY P o β ρ' w s s' v := by
 obtain ⟨dst, op, type, pos, after, guard⟩ := o
 have hn : ∀ x, (s.new x).next = s.next + 1 := fun _ => rfl
 cases op
 case alloc t =>
  simp only [ZJ] at h
  cases hz : zeroOf P t with
  | none => simp [hz, Z9] at h
  | some z =>
   simp only [hz, Z9, z2, Prod.mk.injEq] at h
   obtain ⟨rfl, rfl⟩ := h
   obtain ⟨z0, hz1, hz2, hz3⟩ := Xf (w := w) hz
   have hf := hf (by simp [hn])
   have st := row_step (P := P) (w' := { w with heap := w.heap.push (.cells z0.cells t) }) hR hf rfl rfl rfl rfl (l := z) (l' := z0.cells.toList) (more := []) (by simp) (by rw [hz2]; exact LRel.closedA hz3) (YF z) (ext := 0) (sz := 0) (by simp) (.inl rfl)
   refine ⟨_, .pointer (some ⟨w.heap.size, 0, none⟩), _, .inl ?_, .ptr (Emb.upd_same _ _ _), st⟩
   simp [execOp, Instr.alloc, hz1, newVar, WQ]
 case box t x =>
  have hx := hρ x (by simp [Op.operands])
  simp only [ZJ, Z9, z2, Prod.mk.injEq] at h
  obtain ⟨rfl, rfl⟩ := h
  have hf := hf (by simp [hn])
  have st := row_step (P := P) (w' := { w with heap := w.heap.push (.cells (ρ' x).cells t) }) hR hf rfl rfl rfl rfl (l := (ρ x).cells.toList) (l' := (ρ' x).cells.toList) (more := []) (by simp) hx.cells (YF _) (ext := 0) (sz := 0) (by simp) (.inl rfl)
  refine ⟨_, .pointer (some ⟨w.heap.size, 0, none⟩), _, .inl ?_, .ptr (Emb.upd_same _ _ _), st⟩
  simp [execOp, Instr.box, newVar, WQ]
 case buildSlice t n parts =>
  simp only [ZJ] at h
  have hρ' : ∀ p ∈ parts.toList, VRel β (ρ p.2) (ρ' p.2) := fun p hp => hρ p.2 (by simp [Op.operands]; exact ⟨p.1, by simpa using hp⟩)
  split at h
  · rename_i e hu
    split at h
    · rename_i sz z hs hz
      split at h
      · rename_i hzl
        have hzl := Nat.eq_of_beq_eq_true hzl
        split at h
        · rename_i l hl
          obtain ⟨z0, hz1, hz2, hz3⟩ := Xf (w := w) hz
          simp only [Z9] at h
          split at h
          · rename_i hle
            have hle := Nat.le_of_ble_eq_true hle
            split at h
            · rename_i cs hcs
              simp only [z2, Prod.mk.injEq] at h
              obtain ⟨rfl, rfl⟩ := h
              have hf := hf (by simp [hn])
              have hzs : z0.cells.size = sz + 1 := by rw [← Array.length_toList, hz2, hzl]
              have hzero : ((Array.range (n * (sz + 1))).map (z0.cells[· % z0.cells.size]!)).toList = repeatZ z n := by
               have := Kf z0.cells (by omega) n
               rw [hzs] at this
               rw [hzs, this, hz2]
              have hzr : LRel β (repeatZ z n) ((Array.range (n * (sz + 1))).map (z0.cells[· % z0.cells.size]!)).toList := by
               rw [hzero]; exact (LRel.closedA hz3).repeatZ n
              obtain ⟨cs', hc1, hc2⟩ := Fw (β := β) (ρ' := ρ') hl hρ' hzr hcs
              have st := row_step (P := P) (w' := { w with heap := w.heap.push (.cells cs' e) }) hR hf rfl rfl rfl rfl (l := cs) (l' := cs'.toList) (more := []) (by simp) hc2 (YF cs) (ext := 0) (sz := 0) (by simp) (.inl rfl)
              refine ⟨_, .slice (some ⟨w.heap.size, 0, none⟩) n n, _, .inl ?_, .closed (Emb.upd_same _ _ _) (Nat.le_refl _) (.inr rfl), st⟩
              have hp : (parts.map fun x => (x.1, ρ' x.2)).toList = parts.toList.map fun p => (p.1, ρ' p.2) := by simp
              have hbig : ¬ n * (sz + 1) > 2 ^ 24 := by omega
              have hfill : Instr.fill (fun i => some (i * (sz + 1), sz + 1)) ((Array.range (n * (sz + 1))).map (z0.cells[· % z0.cells.size]!)) (parts.toList.map fun p => (p.1, ρ' p.2)) = some cs' := hc1
              by_cases h0 : n * (sz + 1) = 0
              · have hn0 : n = 0 := by
                 rcases Nat.mul_eq_zero.1 h0 with h | h
                 · exact h
                 · omega
                subst hn0
                have hr0 : ∀ f : Nat → Value, (Array.range (0 * (sz + 1))).map f = #[] := by intro f; simp
                rw [hr0] at hfill
                have hb0 : ¬ (0 * (sz + 1) > 2 ^ 24) := by omega
                have he0 : 0 * (sz + 1) = 0 := by omega
                simp only [execOp, Instr.buildSlice, Sem.run_bind, zv hu, Result.andThen_ok, Zs hs, hp, hb0, if_false, he0, if_true, Sem.run_pure]
                simp only [he0] at hr0
                have hz0 : ¬ (0 > 2 ^ 24) := by omega
                simp only [hz0, if_false, Sem.run_bind, Sem.run_pure, Result.andThen_ok, hr0, hfill, WQ]
              · simp only [execOp, Instr.buildSlice, Sem.run_bind, zv hu, Result.andThen_ok, Zs hs, hp, hbig, if_false, h0, hz1, Sem.run_pure, hfill, WQ]
            · simp at h
          · simp at h
        · simp [Z9] at h
      · simp [Z9] at h
    · simp [Z9] at h
  · simp [Z9] at h
 case makeMap t r =>
  simp only [ZJ] at h
  split at h
  · rename_i a b hu
    simp only [Z9] at h
    have hr : ∀ x, r = some x → VRel β (ρ x) (ρ' x) := fun x hx => hρ x (by subst hx; simp [Op.operands])
    split at h
    · rename_i hok
      simp only [z2, Prod.mk.injEq] at h
      obtain ⟨rfl, rfl⟩ := h
      have hf := hf (by simp [hn])
      have st : Step P β s.get s.next w (β.upd s.next ⟨w.heap.size, 0, 0, 0, 0⟩) (s.new (.map [] 0)).get (s.new (.map [] 0)).next { w with heap := w.heap.push (.map #[] 0) } :=
       Step.new hR hf rfl rfl rfl rfl rfl ⟨#[], JO w _, trivial⟩
      refine ⟨_, .map (some w.heap.size), _, .inl ?_, VRel.map (l := ⟨w.heap.size, 0, 0, 0, 0⟩) (Emb.upd_same _ _ _), st⟩
      cases r with
      | none => simp [execOp, Instr.makeMap]
      | some x =>
       have hx := hr x rfl
       simp only at hok
       generalize ρ x = X at hx hok
       generalize hX : ρ' x = X' at hx
       cases hx <;> simp at hok
       simp [execOp, Instr.makeMap, zv hu, hX, asInt, asIntOf]
    · simp at h
  · simp [Z9] at h
 case makeSlice t lo ca =>
  have hx := hρ lo (by simp [Op.operands])
  have hy := hρ ca (by simp [Op.operands])
  simp only [ZJ] at h
  split at h
  · rename_i e hu
    split at h
    · rename_i sz by_ z hs hb hz
      split at h
      · rename_i hzl
        have hzl := Nat.eq_of_beq_eq_true hzl
        obtain ⟨z0, hz1, hz2, hz3⟩ := Xf (w := w) hz
        simp only [Z9] at h
        cases hi : Yk (ρ lo) with
        | none => simp [hi] at h
        | some a =>
         cases hj : Yk (ρ ca) with
         | none => simp [hi, hj] at h
         | some b =>
          obtain ⟨k1, _, e1⟩ := hx.idx hi
          obtain ⟨k2, _, e2⟩ := hy.idx hj
          simp only [hi, hj] at h
          split at h
          · rename_i hle
            simp only [Bool.and_eq_true] at hle
            have l1 := Nat.le_of_ble_eq_true hle.1.1
            have l2 := Nat.le_of_ble_eq_true hle.1.2
            have l3 := Nat.le_of_ble_eq_true hle.2
            simp only [z2, Prod.mk.injEq] at h
            obtain ⟨rfl, rfl⟩ := h
            have hf := hf (by simp [hn])
            have hzs : z0.cells.size = sz + 1 := by rw [← Array.length_toList, hz2, hzl]
            have hzero : ((Array.range (b * (sz + 1))).map (z0.cells[· % z0.cells.size]!)).toList = repeatZ z b := by
             have := Kf z0.cells (by omega) b
             rw [hzs] at this
             rw [hzs, this, hz2]
            have hc : (∀ i v, (match z with | [v] => if Nat.blt 32 b then Cells.tree b v .nil else .list (repeatZ z b) | _ => .list (repeatZ z b)).get i = some v → (repeatZ z b)[i]? = some v) ∧
             (match z with | [v] => if Nat.blt 32 b then Cells.tree b v .nil else .list (repeatZ z b) | _ => .list (repeatZ z b)).size = (repeatZ z b).length := by
             split
             · rename_i v0
               split
               · constructor
                 · intro i v hv
                   simp only [Cells.get, PT.get_nil] at hv
                   split at hv
                   · rename_i hlt
                     simp at hv; subst hv; exact VJ _ _ _ hlt
                   · cases hv
                 · simp [Cells.size, JM]
               · exact YF _
             · exact YF _
            have st := row_step (P := P) (w' := { w with heap := w.heap.push (.cells ((Array.range (b * (sz + 1))).map (z0.cells[· % z0.cells.size]!)) e) }) hR hf rfl rfl rfl rfl (l := repeatZ z b) (l' := repeatZ z b) (more := []) (by rw [hzero]; simp) ((LRel.closedA hz3).repeatZ b) hc (ext := 0) (sz := 0) (by simp) (.inl rfl)
            refine ⟨_, .slice (some ⟨w.heap.size, 0, none⟩) a b, _, .inl ?_, .closed (Emb.upd_same _ _ _) l1 (.inr rfl), st⟩
            have hinfo : ∃ i, P.info? e = some i ∧ i.bytes = by_ := by
             unfold YI at hb
             cases hi : P.info? e with
             | none => simp [hi] at hb
             | some i => simp [hi] at hb; exact ⟨i, rfl, hb⟩
            obtain ⟨i0, hi0, hby⟩ := hinfo
            have w1 : IntKind.i64.wrap (Int.ofNat a) = (a : Int) := IntWalk.i64_in _ (by rw [Int.ofNat_eq_natCast]; omega)
            have w2 : IntKind.i64.wrap (Int.ofNat b) = (b : Int) := IntWalk.i64_in _ (by rw [Int.ofNat_eq_natCast]; omega)
            have t1 : ¬ (((b : Int) < 0 || (by_ : Int) * (b : Int) > 2 ^ 48) || (a : Int) < 0 || (a : Int) > (b : Int)) = true := by
             have h4 : (by_ : Int) * (b : Int) ≤ 1099511627776 := by
              have h5 : ((b * by_ : Nat) : Int) ≤ ((1099511627776 : Nat) : Int) := Int.ofNat_le.2 l3
              rw [Int.natCast_mul, Int.mul_comm] at h5
              generalize (by_ : Int) * (b : Int) = q at *
              omega
             simp only [Bool.or_eq_true, decide_eq_true_eq, not_or]
             generalize (by_ : Int) * (b : Int) = q at *
             refine ⟨⟨⟨by omega, by omega⟩, by omega⟩, by omega⟩
            simp only [execOp, Instr.makeSlice, Sem.run_bind, zv hu, Result.andThen_ok, e1, e2, asInt, asIntOf, Sem.run_pure, typeInfo, run_program, hi0, hby, w1, w2, t1, z3, if_false]
            simp only [run_askRoom, Result.andThen_ok, Int.toNat_natCast, Zs hs, Sem.run_bind]
            by_cases h0 : b * (sz + 1) = 0
            · have hb0 : b = 0 := by
               rcases Nat.mul_eq_zero.1 h0 with h | h
               · exact h
               · omega
              subst hb0
              have e0 : ∀ f : Nat → Value, (Array.range (0 * (sz + 1))).map f = #[] := by intro f; simp
              have e0' : 0 * (sz + 1) = 0 := by omega
              simp only [e0, e0', if_true, Sem.run_pure, Result.andThen_ok, Sem.run_bind]
              have e1 : ∀ f : Nat → Value, (Array.range 0).map f = #[] := by intro f; simp
              simp only [e1, WQ, Result.andThen_ok]
            · simp only [h0, if_false, hz1, Result.andThen_ok, Sem.run_pure, WQ, Sem.run_bind]
          · simp at h
      · simp [Z9] at h
    · simp [Z9] at h
  · simp [Z9] at h
 case convert src dst' x =>
  have hx := hρ x (by simp [Op.operands])
  simp only [ZJ] at h
  split at h <;> rename_i hs hd
  · simp [Z9] at h
  · simp [Z9] at h
  · split at h
    · rename_i hu8
      obtain ⟨eT, hd, hu8⟩ : ∃ eT, P.underlying dst' = some (.slice eT) ∧ P.underlying eT = some (.int .u8) := ⟨_, hd, hu8⟩
      simp only [Z9] at h
      generalize ρ x = X at hx h
      generalize hX : ρ' x = X' at hx
      cases hx <;> try (simp only [reduceCtorEq] at h; done)
      rename_i b
      simp only at h
      split at h
      · rename_i hle
        simp only [z2, Prod.mk.injEq] at h
        obtain ⟨rfl, rfl⟩ := h
        have hf := hf (by simp [hn])
        have hge := grownCap_ge w b.size 0 eT
        have hlen : b.data.toList.length = b.size := rfl
        have hheap : (Lib.bytesWorld w eT b).heap = w.heap.push (.cells (Lib.bytesCells w eT b) eT ((Lib.bytesCells w eT b).size, (Lib.bytesCells w eT b).size + 1)) := by
         apply Array.ext_getElem?
         intro i
         rcases Nat.lt_trichotomy i w.heap.size with h | h | h
         · rw [Lib.bytesWorld_at_old w eT b i h, Array.getElem?_push]; simp [Nat.ne_of_lt h]
         · subst h; rw [Lib.bytesWorld_at_new, JO]
         · rw [Array.getElem?_eq_none (by rw [Lib.bytesWorld_size]; omega), Array.getElem?_eq_none (by simp; omega)]
        have hrel : LRel β (b.data.toList.map fun c => Value.int .u8 c.toNat) (b.data.toList.map fun c => Value.int .u8 c.toNat) := by
         generalize b.data.toList = L
         induction L with
         | nil => exact .nil
         | cons c L ih => exact .cons (.int _ _) ih
        have st := row_step (P := P) (w' := Lib.bytesWorld w eT b) hR hf hheap rfl rfl rfl (l := b.data.toList.map fun c => Value.int .u8 c.toNat) (l' := b.data.toList.map fun c => Value.int .u8 c.toNat)
         (more := List.replicate (grownCap w b.size 0 eT - b.size) (.int .u8 0)) (by simp [Lib.bytesCells]) hrel (Dl _) (ext := grownCap w b.size 0 eT - b.size) (sz := 1) (by simp) (.inr ⟨rfl, Nat.le_refl _⟩)
        refine ⟨_, .slice (some ⟨w.heap.size, 0, none⟩) b.size (grownCap w b.size 0 eT), _, .inl ?_, ?_, st⟩
        · simp only [execOp, Sem.run_bind, hX, Lib.run_convert_string_bytes w src dst' eT b hs hd hu8, Result.andThen_ok, Sem.run_pure]
        · have hcap : b.size + (grownCap w b.size 0 eT - b.size) = grownCap w b.size 0 eT := by omega
          have hv := VRel.opened (β := β.upd s.next ⟨w.heap.size, 0, grownCap w b.size 0 eT - b.size, 1, (b.data.toList.map fun c => Value.int .u8 c.toNat).length⟩) (n := b.size) (c := b.size) (off := 0) (k := s.next) (a := ⟨w.heap.size, 0, none⟩)
           (Emb.upd_same _ _ ⟨w.heap.size, 0, grownCap w b.size 0 eT - b.size, 1, (b.data.toList.map fun c => Value.int .u8 c.toNat).length⟩) (Nat.le_refl _) (by simp) (.inr rfl) (by
            show b.size + (grownCap w b.size 0 eT - b.size) ≤ _
            have h1 := Nat.le_of_ble_eq_true hle
            have h2 := grownCap_le_maxLen w b.size 0 eT (by simp only [maxLen]; omega)
            simp only [maxLen] at h2
            omega)
          simp only [hcap] at hv
          exact hv
      · simp at h
    · simp [Z9] at h
  · split at h <;> simp [Z9] at h
  · (repeat' split at h) <;> simp [Z9] at h
  · simp [Z9] at h
 case range t x =>
  have hx := hρ x (by simp [Op.operands])
  simp only [ZJ] at h
  split at h
  · rename_i a b hu
    simp only [Z9] at h
    generalize ρ x = X at hx h
    generalize hX : ρ' x = X' at hx
    cases hx <;> try (simp only [reduceCtorEq] at h; done)
    · simp only [z2, Prod.mk.injEq] at h
      obtain ⟨rfl, rfl⟩ := h
      have hf := hf (by simp [hn])
      have st : Step P β s.get s.next w (β.upd s.next ⟨w.heap.size, 0, 0, 0, 0⟩) (s.new (.iter none 0 [] 0)).get (s.new (.iter none 0 [] 0)).next { w with heap := w.heap.push (.mapIter none 0 #[] 0) } :=
       Step.new hR hf rfl rfl rfl rfl rfl ⟨rfl, none, #[], JO w _, rfl, rfl⟩
      refine ⟨_, .pointer (some ⟨w.heap.size, 0, none⟩), _, .inl ?_, VRel.ptr (l := ⟨w.heap.size, 0, 0, 0, 0⟩) (Emb.upd_same _ _ _), st⟩
      simp [execOp, Instr.range, zv hu, hX]
    · rename_i m loc hl
      cases hg : s.get m with
      | none => simp [hg] at h
      | some ob =>
       cases ob <;> simp only [hg, reduceCtorEq, z2, Prod.mk.injEq] at h
       rename_i es clock
       obtain ⟨rfl, rfl⟩ := h
       have hf := hf (by simp [hn])
       obtain ⟨l2, h1, xs, hxs, hE⟩ := hR.obj m _ hg
       rw [hl] at h1; cases h1
       have st : Step P β s.get s.next w (β.upd s.next ⟨w.heap.size, 0, 0, 0, 0⟩) (s.new (.iter (some m) clock [] clock)).get (s.new (.iter (some m) clock [] clock)).next { w with heap := w.heap.push (.mapIter (some loc.blk) clock #[] clock) } :=
        Step.new hR hf rfl rfl rfl rfl rfl ⟨rfl, some loc.blk, #[], JO w _, rfl, loc, Emb.le_upd hf _ _ hl, rfl⟩
       refine ⟨_, .pointer (some ⟨w.heap.size, 0, none⟩), _, .inl ?_, VRel.ptr (l := ⟨w.heap.size, 0, 0, 0, 0⟩) (Emb.upd_same _ _ _), st⟩
       simp [execOp, Instr.range, zv hu, hX, Yq hxs]
  · simp [Z9] at h
 case next it b => cases b <;> simp [ZJ, Z9] at h
 case makeFunc f a b => cases f <;> simp [ZJ, Z9] at h
 case binOp op t x y z => cases op <;> simp only [ZJ, CA] at h <;> (repeat' split at h) <;> simp [Z9] at h
 case call c =>
  obtain ⟨callee, args, ats⟩ := c
  cases callee with
  | value f => simp only [ZJ, Z9] at h; cases h
  | invoke r n => simp only [ZJ, Z9] at h; cases h
  | builtin b =>
   simp only [ZJ] at h
   unfold Qj WZ at h
   (repeat' split at h) <;> simp [Z9] at h
 all_goals (simp only [ZJ] at h; (repeat' split at h) <;> simp [Z9] at h)
end
end Go.Dx
