/- The compiled form of Dx: operations. -/
import Derived.Test.YtnmajohhfcgddaaDxX
set_option linter.unusedVariables false
set_option linter.unusedSimpArgs false
set_option linter.unusedSectionVars false
namespace Go.Dx
open Go
noncomputable section

theorem oneX_cells {v : Value} (h : oneX v = true) : v.cells.toList = [v] ∧ oneCellD v = true := by
  cases v <;> first | exact ⟨rfl, rfl⟩ | cases h
theorem setN_pos : ∀ (l : List Value) (i : Nat), (getN l i).isSome = Nat.ble (i + 1) l.length
  | [], i => rfl
  | x :: l, 0 => rfl
  | x :: l, i + 1 => setN_pos l i
theorem get_pos (c : Cells) (i : Nat) : (c.get i).isSome = Nat.ble (i + 1) c.size := by
  cases c with
  | list l => exact setN_pos l i
  | str l => exact setN_pos l i
  | tree n z t =>
    show (if i < n then some ((t.get i).getD z) else none).isSome = Nat.blt i n
    by_cases h : i < n
    · rw [if_pos h, blt_true h]; rfl
    · rw [if_neg h, blt_false h]; rfl
theorem xst1_eq (a v : Value) (s : DS) : xst1 a v s = s_st 1 a v s := by
  unfold xst1
  cases h : oneX v with
  | false => rfl
  | true =>
    show PV.rec (motive := fun _ => Option DS) none _ (asP a) = _
    rw [asP_rec]
    obtain ⟨h1, h2⟩ := oneX_cells h
    cases a with
    | pointer p =>
      cases p with
      | none => rfl
      | some ad =>
        obtain ⟨k, off, sp⟩ := ad
        cases sp with
        | some z => rfl
        | none =>
          have hc : (Nat.beq v.cells.toList.length 1 && allOne v.cells.toList) = true := by
            rw [h1]; simp only [List.length_singleton, allOne, h2]; rfl
          simp only [s_st, hc, if_true, forceN_eq, cells1_eq, hp_eq, xget_eq, xset_eq, xput_eq]
          unfold DS.write
          rw [h1]
          cases s.get k with
          | none => rfl
          | some ob =>
            cases ob with
            | cells c ro =>
              cases ro with
              | true => rfl
              | false =>
                have hp := get_pos c off
                show Option.rec (motive := fun _ => Option DS) none (fun _ => s.set k (.cells (c.set off v) false)) (c.get off) = if Nat.ble (off + 1) c.size = true then s.set k (.cells (c.set off v) false) else none
                rw [← hp]
                cases c.get off <;> rfl
            | _ => rfl
    | _ => rfl

/-! ### Many cells at once -/
def lenN (l : List Value) : Nat := List.rec (motive := fun _ => Nat) 0 (fun _ _ ih => Nat.succ ih) l
theorem lenN_eq : ∀ l : List Value, lenN l = l.length
  | [] => rfl
  | _ :: l => congrArg Nat.succ (lenN_eq l)
def allX (l : List Value) : Bool := List.rec (motive := fun _ => Bool) true (fun v _ ih => Bool.rec (motive := fun _ => Bool) false ih (oneX v)) l
theorem oneX_eq (v : Value) : oneX v = oneCellD v := by cases v <;> rfl
theorem allX_eq : ∀ l : List Value, allX l = allOne l
  | [] => rfl
  | v :: l => by
    show Bool.rec (motive := fun _ => Bool) false (allX l) (oneX v) = (oneCellD v && allOne l)
    rw [oneX_eq, allX_eq l]
    cases oneCellD v <;> rfl
def dropX (n : Nat) : List Value → List Value := Nat.rec (motive := fun _ => List Value → List Value) (fun l => l) (fun _ ih l => List.rec (motive := fun _ => List Value) [] (fun _ t _ => ih t) l) n
theorem dropX_eq : ∀ (n : Nat) (l : List Value), dropX n l = l.drop n
  | 0, _ => rfl
  | n + 1, [] => rfl
  | n + 1, _ :: l => dropX_eq n l
def tkX (n : Nat) : List Value → Option (List Value) := Nat.rec (motive := fun _ => List Value → Option (List Value)) (fun _ => some []) (fun _ ih l => List.rec (motive := fun _ => Option (List Value)) none (fun x t _ => Option.rec (motive := fun _ => Option (List Value)) none (fun r => some (x :: r)) (ih t)) l) n
theorem getN_drop : ∀ (l : List Value) (off : Nat), getN l off = (l.drop off).head?
  | [], off => by simp [getN]
  | x :: l, 0 => rfl
  | x :: l, off + 1 => getN_drop l off
theorem tkX_eq (c : Cells) (l : List Value) (hc : ∀ i, c.get i = getN l i) : ∀ (n off : Nat), tkX n (l.drop off) = c.take off n
  | 0, _ => rfl
  | n + 1, off => by
    simp only [Cells.take, hc, getN_drop]
    cases hd : l.drop off with
    | nil => rfl
    | cons x t =>
      have ht : t = l.drop (off + 1) := by
        rw [← List.drop_drop, hd]; rfl
      show Option.rec (motive := fun _ => Option (List Value)) none (fun r => some (x :: r)) (tkX n t) = (match c.take (off + 1) n with | none => none | some l => some (x :: l))
      rw [ht, tkX_eq c l hc n (off + 1)]
      cases c.take (off + 1) n <;> rfl
def xtake (c : Cells) (off n : Nat) : Option (List Value) := Cells.rec (motive := fun _ => Option (List Value)) (fun l => tkX n (dropX off l)) (fun _ _ _ => c.take off n) (fun l => tkX n (dropX off l)) c
theorem xtake_eq (c : Cells) (off n : Nat) : xtake c off n = c.take off n := by
  cases c with
  | list l => show tkX n (dropX off l) = _; rw [dropX_eq]; exact tkX_eq _ l (fun _ => rfl) n off
  | str l => show tkX n (dropX off l) = _; rw [dropX_eq]; exact tkX_eq _ l (fun _ => rfl) n off
  | tree m z t => rfl
def overX (vs : List Value) : List Value → List Value := List.rec (motive := fun _ => List Value → List Value) (fun l => l) (fun v _ ih l => List.rec (motive := fun _ => List Value) [] (fun _ t _ => v :: ih t) l) vs
def fillX (off : Nat) (vs : List Value) : List Value → List Value := Nat.rec (motive := fun _ => List Value → List Value) (overX vs) (fun _ ih l => List.rec (motive := fun _ => List Value) [] (fun x t _ => x :: ih t) l) off
theorem fillX_nil : ∀ (off : Nat) (l : List Value), fillX off [] l = l
  | 0, _ => rfl
  | off + 1, [] => rfl
  | off + 1, x :: l => congrArg (x :: ·) (fillX_nil off l)
theorem fillX_cons : ∀ (off : Nat) (v : Value) (vs l : List Value), fillX off (v :: vs) l = fillX (off + 1) vs (setN l off v)
  | 0, v, vs, [] => by cases vs <;> rfl
  | 0, v, vs, x :: l => rfl
  | off + 1, v, vs, [] => rfl
  | off + 1, v, vs, x :: l => congrArg (x :: ·) (fillX_cons off v vs l)
theorem fillX_list : ∀ (vs : List Value) (off : Nat) (l : List Value), Cells.list (fillX off vs l) = (Cells.list l).fillFrom off vs
  | [], off, l => by rw [fillX_nil]; rfl
  | v :: vs, off, l => by rw [fillX_cons]; exact fillX_list vs (off + 1) _
theorem fillX_str : ∀ (vs : List Value) (off : Nat) (l : List Value), Cells.str (fillX off vs l) = (Cells.str l).fillFrom off vs
  | [], off, l => by rw [fillX_nil]; rfl
  | v :: vs, off, l => by rw [fillX_cons]; exact fillX_str vs (off + 1) _
def xfill (c : Cells) (off : Nat) (vs : List Value) : Cells := Cells.rec (motive := fun _ => Cells) (fun l => .list (fillX off vs l)) (fun _ _ _ => c.fillFrom off vs) (fun l => .str (fillX off vs l)) c
theorem xfill_eq (c : Cells) (off : Nat) (vs : List Value) : xfill c off vs = c.fillFrom off vs := by
  cases c with
  | list l => exact fillX_list vs off l
  | str l => exact fillX_str vs off l
  | tree m z t => rfl
def xsize (c : Cells) : Nat := Cells.rec (motive := fun _ => Nat) lenN (fun n _ _ => n) lenN c
theorem xsize_eq (c : Cells) : xsize c = c.size := by
  cases c with
  | list l => exact lenN_eq l
  | str l => exact lenN_eq l
  | tree m z t => rfl
def xread (s : DS) (k off n : Nat) : Option (List Value) := cells1 none (fun c _ => xtake c off n) (hp s k)
theorem xread_eq (s : DS) (k off n : Nat) : xread s k off n = s.read k off n := by
  unfold xread DS.read
  simp only [cells1_eq, hp_eq, xtake_eq]
  cases s.get k with
  | none => rfl
  | some ob => cases ob <;> rfl
def xwrite (s : DS) (k off : Nat) (l : List Value) : Option DS :=
  cells1 none (fun c ro => Bool.rec (motive := fun _ => Option DS) (Bool.rec (motive := fun _ => Option DS) none (xput s k (.cells (xfill c off l) false)) (Nat.ble (Nat.add off (lenN l)) (xsize c))) none ro) (hp s k)
theorem xwrite_eq (s : DS) (k off : Nat) (l : List Value) : xwrite s k off l = s.write k off l := by
  unfold xwrite DS.write
  simp only [cells1_eq, hp_eq, xfill_eq, xput_eq, xsize_eq, lenN_eq, brec_if]
  cases s.get k with
  | none => rfl
  | some ob =>
    cases ob with
    | cells c ro => cases ro <;> rfl
    | _ => rfl
def appR (l r : List Value) : List Value := List.rec (motive := fun _ => List Value) l (fun _ _ _ => l ++ r) r
theorem appR_eq (l r : List Value) : appR l r = l ++ r := by
  cases r with
  | nil => exact (List.append_nil l).symm
  | cons x r => rfl
def appX (l r : List Value) : List Value := List.rec (motive := fun _ => List Value) r (fun x _ ih => x :: ih) l
theorem appX_eq (l r : List Value) : appX l r = l ++ r := by
  induction l with
  | nil => rfl
  | cons x l ih => exact congrArg (x :: ·) ih
/-- operands, by functions that are made once -/
def evX (t : PT Value) (x : Operand) : Value := Rd.rec (motive := fun _ => Value) (fun f => f t) (rd x)
theorem evX_eq (t : PT Value) : evX t = ev t := by
  funext x
  unfold evX
  rw [rd_eq]
/-! parts that stand in order -/
def skipK (n : Nat) (k : List Value → Option (List Value)) : List Value → Option (List Value) :=
  Nat.rec (motive := fun _ => List Value → Option (List Value)) k (fun _ ih zs => List.rec (motive := fun _ => Option (List Value)) none (fun z t _ => Option.rec (motive := fun _ => Option (List Value)) none (fun r => some (z :: r)) (ih t)) zs) n
def overK (vs : List Value) (k : List Value → Option (List Value)) : List Value → Option (List Value) :=
  List.rec (motive := fun _ => List Value → Option (List Value)) k (fun v _ ih zs => List.rec (motive := fun _ => Option (List Value)) none (fun _ t _ => Option.rec (motive := fun _ => Option (List Value)) none (fun r => some (v :: r)) (ih t)) zs) vs
def fillA (ρ : Operand → Value) (parts : List (Nat × Nat × Operand)) : Nat → List Value → Option (List Value) :=
  List.rec (motive := fun _ => Nat → List Value → Option (List Value)) (fun _ zs => some zs)
    (fun p _ ih pos zs => Bool.rec (motive := fun _ => Option (List Value)) none (Bool.rec (motive := fun _ => Option (List Value)) none
      (skipK (Nat.sub p.1 pos) (overK (ρ p.2.2).cells.toList (ih (Nat.add p.1 p.2.1))) zs) (Nat.beq (lenN (ρ p.2.2).cells.toList) p.2.1)) (Nat.ble pos p.1)) parts
theorem skipK_some : ∀ (n : Nat) (k : List Value → Option (List Value)) (zs r : List Value), skipK n k zs = some r → ∃ a t r', zs = a ++ t ∧ a.length = n ∧ k t = some r' ∧ r = a ++ r'
  | 0, k, zs, r, h => ⟨[], zs, r, rfl, rfl, h, rfl⟩
  | n + 1, k, [], r, h => by cases h
  | n + 1, k, z :: zs, r, h => by
    have h : Option.rec (motive := fun _ => Option (List Value)) none (fun r => some (z :: r)) (skipK n k zs) = some r := h
    cases h1 : skipK n k zs with
    | none => rw [h1] at h; cases h
    | some r1 =>
      rw [h1] at h
      cases h
      obtain ⟨a, t, r', rfl, hl, hk, rfl⟩ := skipK_some n k zs r1 h1
      exact ⟨z :: a, t, r', rfl, congrArg Nat.succ hl, hk, rfl⟩
theorem overK_some : ∀ (vs : List Value) (k : List Value → Option (List Value)) (zs r : List Value), overK vs k zs = some r → ∃ a t r', zs = a ++ t ∧ a.length = vs.length ∧ k t = some r' ∧ r = vs ++ r'
  | [], k, zs, r, h => ⟨[], zs, r, rfl, rfl, h, rfl⟩
  | v :: vs, k, [], r, h => by cases h
  | v :: vs, k, z :: zs, r, h => by
    have h : Option.rec (motive := fun _ => Option (List Value)) none (fun r => some (v :: r)) (overK vs k zs) = some r := h
    cases h1 : overK vs k zs with
    | none => rw [h1] at h; cases h
    | some r1 =>
      rw [h1] at h
      cases h
      obtain ⟨a, t, r', rfl, hl, hk, rfl⟩ := overK_some vs k zs r1 h1
      exact ⟨z :: a, t, r', rfl, congrArg Nat.succ hl, hk, rfl⟩
theorem fillA_some (ρ : Operand → Value) : ∀ (parts : List (Nat × Nat × Operand)) (pos : Nat) (zs r pre : List Value), fillA ρ parts pos zs = some r → pre.length = pos → fillParts ρ (pre ++ zs) parts = some (pre ++ r)
  | [], pos, zs, r, pre, h, hp => by cases h; rfl
  | (off, size, x) :: rest, pos, zs, r, pre, h, hp => by
    have h : Bool.rec (motive := fun _ => Option (List Value)) none (Bool.rec (motive := fun _ => Option (List Value)) none
      (skipK (Nat.sub off pos) (overK (ρ x).cells.toList (fillA ρ rest (Nat.add off size))) zs) (Nat.beq (lenN (ρ x).cells.toList) size)) (Nat.ble pos off) = some r := h
    cases h1 : Nat.ble pos off with
    | false => rw [h1] at h; cases h
    | true =>
      rw [h1] at h
      cases h2 : Nat.beq (lenN (ρ x).cells.toList) size with
      | false => rw [h2] at h; cases h
      | true =>
        rw [h2] at h
        obtain ⟨a, t, r', rfl, hl, hk, rfl⟩ := skipK_some _ _ _ _ h
        obtain ⟨b, t', r'', rfl, hl', hk', rfl⟩ := overK_some _ _ _ _ hk
        have hle := Nat.le_of_ble_eq_true h1
        have hsz := Nat.eq_of_beq_eq_true h2
        rw [lenN_eq] at hsz h2
        have hoff : (pre ++ a).length = off := by rw [List.length_append, hp, hl]; show pos + (off - pos) = off; omega
        have hb : b.length = size := hl'.trans hsz
        simp only [fillParts]
        have hcond : (Nat.beq (ρ x).cells.toList.length size && Nat.ble (off + size) (pre ++ (a ++ (b ++ t'))).length) = true := by
          rw [h2]
          simp only [Bool.true_and, Nat.ble_eq, List.length_append]
          rw [List.length_append] at hoff
          omega
        rw [if_pos hcond]
        have e1 : (pre ++ (a ++ (b ++ t'))).take off = pre ++ a := by
          rw [← List.append_assoc, ← hoff, List.take_left]
        have e2 : (pre ++ (a ++ (b ++ t'))).drop (off + size) = t' := by
          have : pre ++ (a ++ (b ++ t')) = (pre ++ a ++ b) ++ t' := by simp [List.append_assoc]
          rw [this]
          have hlen : (pre ++ a ++ b).length = off + size := by rw [List.length_append, hoff, hb]
          rw [← hlen, List.drop_left]
        rw [e1, e2]
        have := fillA_some ρ rest (off + size) t' r'' (pre ++ a ++ (ρ x).cells.toList) hk' (by rw [List.length_append, hoff, hsz])
        simpa [List.append_assoc] using this
def xparts (ρ : Operand → Value) (z : List Value) (parts : List (Nat × Nat × Operand)) : Option (List Value) := Option.rec (motive := fun _ => Option (List Value)) (fillParts ρ z parts) (fun r => some r) (fillA ρ parts 0 z)
theorem xparts_eq (ρ : Operand → Value) (z : List Value) (parts : List (Nat × Nat × Operand)) : xparts ρ z parts = fillParts ρ z parts := by
  unfold xparts
  cases h : fillA ρ parts 0 z with
  | none => rfl
  | some r => exact (fillA_some ρ parts 0 z r [] h rfl).symm
def xsrc (s : DS) (size : Nat) (x : Value) (n : Nat) : Option (List Value) :=
  match x with
  | .slice none _ _ => some []
  | .slice (some ⟨k, off, _⟩) _ _ => xread s k off (n * size)
  | .string b => some ((b.data.toList.take n).map fun c => .int .u8 c.toNat)
  | _ => none
theorem xsrc_eq (s : DS) (size : Nat) (x : Value) (n : Nat) : xsrc s size x n = sizedSrc s size x n := by
  unfold xsrc sizedSrc
  simp only [xread_eq]
  cases x with
  | slice a l c =>
    cases a with
    | none => rfl
    | some ad => obtain ⟨k, o, sp⟩ := ad; rfl
  | _ => rfl

/-! ### Operations, one by one -/
def s_not (v : Value) : Option Value := BV.rec (motive := fun _ => Option Value) none (fun b => some (.bool (Bool.rec (motive := fun _ => Bool) true false b))) (asB v)
def s_pick (c a b : Value) : Option Value := BV.rec (motive := fun _ => Option Value) none (fun c => some (Bool.rec (motive := fun _ => Value) b a c)) (asB c)
def s_cvInt (k : IntKind) (v : Value) : Option Value := IV.rec (motive := fun _ => Option Value) none (fun _ a => some (.int k (Int.rec (motive := fun _ => Int) (fun m => kmod k m) (fun _ => dwrap k a) a))) (asI v)
def s_nil (v : Value) : Option Value := match v with
    | .pointer (some a) => some (.pointer (some a))
    | .func (.func f) a b => some (.func (.func f) a b)
    | .func (.yield l) a b => some (.func (.yield l) a b)
    | _ => none
def x_nil (v : Value) : Option Value := AV.rec (motive := fun _ => Option Value) (s_nil v) (Option.rec none fun a => some (.pointer (some a))) (asA v)
def s_fadr (off : Nat) (v : Value) : Option Value := PV.rec (motive := fun _ => Option Value) none (fun k o => some (.pointer (some ⟨k, Nat.add o off, none⟩))) (asP v)
def s_ixA (n size : Nat) (x i : Value) : Option Value := PV.rec (motive := fun _ => Option Value) none (fun k o => Option.rec (motive := fun _ => Option Value) none (fun j => Bool.rec (motive := fun _ => Option Value) none (some (.pointer (some ⟨k, Nat.add o (Nat.mul j size), none⟩))) (Nat.ble (Nat.succ j) n)) (asN i)) (asP x)
def s_ixL (size : Nat) (x i : Value) : Option Value := LV.rec (motive := fun _ => Option Value) none (fun a len _ => Option.rec (motive := fun _ => Option Value) none (Addr.rec (motive := fun _ => Option Value) fun k o _ => Option.rec (motive := fun _ => Option Value) none (fun j => Bool.rec (motive := fun _ => Option Value) none (some (.pointer (some ⟨k, Nat.add o (Nat.mul j size), none⟩))) (Nat.ble (Nat.succ j) len)) (asN i)) a) (asL x)
def s_lenL (v : Value) : Option Value := LV.rec (motive := fun _ => Option Value) none (fun _ n _ => some (.int .i64 (Int.ofNat n))) (asL v)
def s_ext (i : Nat) (v : Value) : Option Value := TV.rec (motive := fun _ => Option Value) none (fun l => Nt.rec (motive := fun _ => Option Value) (fun f => f l) (nth i)) (asT v)
def s_eqI (neg : Bool) (x y : Value) : Option Value := IV.rec (motive := fun _ => Option Value) none (fun k a => IV.rec (motive := fun _ => Option Value) none (fun k' b => Bool.rec (motive := fun _ => Option Value) none (Bool.rec (motive := fun _ => Option Value) (fEql k a b) (fNeq k a b) neg) (Nat.beq (kcd k) (kcd k'))) (asI y)) (asI x)
def s_eq1 (neg : Bool) (k : SK) (x y : Value) : Option Value := Option.rec none (fun b => some (.bool (Bool.rec b (Bool.rec true false b) neg))) (eqOne k x y)
def s_eqP (neg : Bool) (x y : Value) : Option Value :=
  AV.rec (motive := fun _ => Option Value) none (fun a => AV.rec (motive := fun _ => Option Value) none (fun b => Option.rec (motive := fun _ => Option Value) (some (.bool (Option.rec (motive := fun _ => Bool) (Bool.rec (motive := fun _ => Bool) true false neg) (fun _ => Bool.rec (motive := fun _ => Bool) false true neg) b))) (fun _ => Option.rec (motive := fun _ => Option Value) (some (.bool (Bool.rec (motive := fun _ => Bool) false true neg))) (fun _ => s_eq1 neg .ptr x y) b) a) (asA y)) (asA x)
def s_build (z : List Value) (parts : List (Nat × Nat × Operand)) (ρ : Operand → Value) : Option Value := match xparts ρ z parts with | some cs => some (.agg ⟨cs⟩) | none => none
def s_slL (size : Nat) (x : Value) (lo hi mx : Option Value) : Option Value :=
    match x with
    | .slice a len cap => match bounds len cap lo hi mx with
      | some (l, h, m) => slTail a size l h m mx.isSome
      | none => none
    | _ => none
def s_slA (n size : Nat) (x : Value) (lo hi mx : Option Value) : Option Value :=
    match x with
    | .pointer (some ⟨k, off, none⟩) => match bounds n n lo hi mx with
      | some (l, h, m) => slTail (some ⟨k, off, none⟩) size l h m true
      | none => none
    | _ => none
def s_fld (off : Nat) (agg : Option Nat) (x : Value) : Option Value := match x with | .agg cs => partOf agg cs.toList off | _ => none
def s_idxA (n size : Nat) (agg : Option Nat) (x i : Value) : Option Value :=
    match x, asIdx i with
    | .agg cs, some j => if Nat.blt j n then partOf agg cs.toList (j * size) else none
    | _, _ => none
def s_idxS (x i : Value) : Option Value :=
    match x, asIdx i with
    | .string s, some j => match s.data.toList.drop j with
      | c :: _ => some (.int .u8 c.toNat)
      | [] => none
    | _, _ => none
def s_lenS (x : Value) : Option Value := match x with | .string s => some (.int .i64 s.data.toList.length) | _ => none
def s_ldn (n : Nat) (a : Value) (s : DS) : Option Value :=
    match a with
    | .pointer (some ⟨k, off, none⟩) => match xread s k off n with
        | some l => some (.agg ⟨l⟩)
        | none => none
    | _ => none
def s_toStr (x : Value) (s : DS) : Option Value :=
    match x with
    | .slice none _ _ => some (.string ⟨⟨[]⟩⟩)
    | .slice (some ⟨k, off, _⟩) len _ => match xread s k off len with
      | some l => match toBytes l with
        | some b => some (.string ⟨⟨b⟩⟩)
        | none => none
      | none => none
    | _ => none
def s_bslice (n size : Nat) (z : List Value) (parts : List (Nat × Nat × Operand)) (ρ : Operand → Value) (s : DS) : Option (Value × DS) :=
    if Nat.ble (n * size) 1048576 then
      match xparts ρ (repeatZ z n) parts with
      | some cs => some (.slice (some ⟨s.next, 0, none⟩) n n, xnew s (.cells (.list cs) false))
      | none => none
    else none
def s_mkslice (bytes : Nat) (z : List Value) (l c : Value) (s : DS) : Option (Value × DS) :=
    match asIdx l, asIdx c with
    | some l, some c =>
      if Nat.ble l c && Nat.ble c 1099511627776 && Nat.ble (c * bytes) 1099511627776 then
        some (.slice (some ⟨s.next, 0, none⟩) l c, xnew s (.cells (match z with | [v] => if Nat.blt 32 c then .tree c v .nil else .list (repeatZ z c) | _ => .list (repeatZ z c)) false))
      else none
    | _, _ => none
def s_bapp (bytes size : Nat) (x y : Value) (s : DS) : Option (Value × DS) :=
    match x, srcLen y with
    | .slice base len cap, some n =>
      match xsrc s size y n with
      | none => none
      | some new =>
        if !(Nat.beq (lenN new) (n * size) && allX new) then none else
        if Nat.ble (len + n) cap then
          match base with
          | none => if Nat.beq n 0 then some (.slice none (len + n) cap, s) else none
          | some ⟨k, off, sp⟩ =>
            if Nat.beq n 0 then some (.slice (some ⟨k, off, sp⟩) (len + n) cap, s) else
            match xwrite s k (off + len * size) new with
            | some s' => some (.slice (some ⟨k, off, sp⟩) (len + n) cap, s')
            | none => none
        else if Nat.ble (len + n) 1099511627776 && Nat.ble ((len + n) * bytes) 1099511627776 then
          match base with
          | none => if Nat.beq len 0 then some (.slice (some ⟨s.next, 0, some size⟩) n n, xnew s (.cells (.list new) false)) else none
          | some ⟨k, off, none⟩ =>
            match xread s k off (len * size) with
            | some old => if allX old then some (.slice (some ⟨s.next, 0, some size⟩) (len + n) (len + n), xnew s (.cells (.list (appX old new)) false)) else none
            | none => none
          | some ⟨k, off, some sz⟩ =>
            if Nat.beq sz size then
              match hp s k with
              | some (.cells c false) => match xtake c off (len * size), s.kill k with
                | some old, some s' => if allX old then some (.slice (some ⟨s'.next, 0, some size⟩) (len + n) (len + n), xnew s' (.cells (c.like (appX old new)) false)) else none
                | _, _ => none
              | _ => none
            else none
        else none
    | _, _ => none
def s_bcopy (size : Nat) (d x : Value) (s : DS) : Option (Value × DS) :=
    match d, srcLen x with
    | .slice base len _, some m =>
      let n := if Nat.ble m len then m else len
      match xsrc s size x n with
      | none => none
      | some new =>
        if !(Nat.beq (lenN new) (n * size) && allX new) then none else
        match base with
        | none => some (.int .i64 n, s)
        | some ⟨k, off, _⟩ =>
          if Nat.beq n 0 then some (.int .i64 n, s) else
          match xwrite s k off new with
          | some s' => some (.int .i64 n, s')
          | none => none
    | _, _ => none

def x_st (size : Nat) (a v : Value) (s : DS) : Option DS :=
  PV.rec (motive := fun _ => Option DS) none (fun k off => Bool.rec (motive := fun _ => Option DS) none (Bool.rec (motive := fun _ => Option DS) none (xwrite s k off v.cells.toList) (allX v.cells.toList)) (Nat.beq (lenN v.cells.toList) size)) (asP a)
theorem x_st_eq (size : Nat) (a v : Value) (s : DS) : x_st size a v s = s_st size a v s := by
  simp only [x_st, asP_rec, xwrite_eq, allX_eq, lenN_eq, brec_if, s_st]
  cases a with
  | pointer p =>
    cases p with
    | none => rfl
    | some ad =>
      obtain ⟨k, off, sp⟩ := ad
      cases sp with
      | some z => rfl
      | none => dsimp only; cases Nat.beq v.cells.toList.length size <;> cases allOne v.cells.toList <;> rfl
  | _ => rfl

def xop (o : DOp) : XOp :=
  match o with
  | .mv x => lt1 x fun f => .tot f
  | .bin op x y => Bf.rec (fun g => lt1 x fun f => lt1 y fun h => .val fun t _ => g (f t) (h t)) (pickB op)
  | .eq neg (.one .int) x y => lt1 x fun f => lt1 y fun h => .val fun t _ => s_eqI neg (f t) (h t)
  | .eq neg (.one .ptr) x y => lt1 x fun f => lt1 y fun h => .val fun t _ => s_eqP neg (f t) (h t)
  | .eq neg (.one k) x y => lt1 x fun f => lt1 y fun h => .val fun t _ => s_eq1 neg k (f t) (h t)
  | .un .not x => lt1 x fun f => .val fun t _ => s_not (f t)
  | .pick c a b => lt1 c fun f => lt1 a fun g => lt1 b fun h => .val fun t _ => s_pick (f t) (g t) (h t)
  | .cvInt k x => lt1 x fun f => .val fun t _ => s_cvInt k (f t)
  | .nilck x => lt1 x fun f => .val fun t _ => x_nil (f t)
  | .alloc z => .neu fun _ => .cells (.list z) false
  | .box x => lt1 x fun f => .neu fun t => .cells (.list (f t).cells.toList) false
  | .build z parts => .val fun t _ => s_build z parts (evX t)
  | .bslice n size z parts => .act fun _ t s => s_bslice n size z parts (evX t) s
  | .ld none a => lt1 a fun f => .val fun t s => xld (f t) s
  | .ld (some n) a => lt1 a fun f => .val fun t s => s_ldn n (f t) s
  | .st 1 a x => lt1 a fun f => lt1 x fun g => .eff fun t s => xst1 (f t) (g t) s
  | .st size a x => lt1 a fun f => lt1 x fun g => .eff fun t s => x_st size (f t) (g t) s
  | .mkf f first captured => La.rec (fun g => La.rec (fun h => .tot fun t => .func (.func f) ⟨g t⟩ ⟨h t⟩) (la captured)) (la first)
  | .mkslice bytes z l c => lt1 l fun f => lt1 c fun g => .act fun _ t s => s_mkslice bytes z (f t) (g t) s
  | .slL size x lo hi mx => lt1 x fun f => .val fun t _ => s_slL size (f t) (lo.map (evX t)) (hi.map (evX t)) (mx.map (evX t))
  | .slA n size x lo hi mx => lt1 x fun f => .val fun t _ => s_slA n size (f t) (lo.map (evX t)) (hi.map (evX t)) (mx.map (evX t))
  | .fadr off x => lt1 x fun f => .val fun t _ => s_fadr off (f t)
  | .fld off agg x => lt1 x fun f => .val fun t _ => s_fld off agg (f t)
  | .ixA n size x i => lt1 x fun f => lt1 i fun g => .val fun t _ => s_ixA n size (f t) (g t)
  | .ixL size x i => lt1 x fun f => lt1 i fun g => .val fun t _ => s_ixL size (f t) (g t)
  | .idxA n size agg x i => lt1 x fun f => lt1 i fun g => .val fun t _ => s_idxA n size agg (f t) (g t)
  | .idxS x i => lt1 x fun f => lt1 i fun g => .val fun t _ => s_idxS (f t) (g t)
  | .ext x i => lt1 x fun f => .val fun t _ => s_ext i (f t)
  | .blenL x => lt1 x fun f => .val fun t _ => s_lenL (f t)
  | .blenS x => lt1 x fun f => .val fun t _ => s_lenS (f t)
  | .cvToStr x => lt1 x fun f => .val fun t s => s_toStr (f t) s
  | .bapp bytes size x y => lt1 x fun f => lt1 y fun g => .act fun _ t s => s_bapp bytes size (f t) (g t) s
  | .bcopy size x y => lt1 x fun f => lt1 y fun g => .act fun _ t s => s_bcopy size (f t) (g t) s
  | .call f args => lt1 f fun g => La.rec (fun h => .act fun call t s => call (g t) (h t) s) (la args)
  | o => .act fun call t s => dop call (ev t) s o
end
end Go.Dx
