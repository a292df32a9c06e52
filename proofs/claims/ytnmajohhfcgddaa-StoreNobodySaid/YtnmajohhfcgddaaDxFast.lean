/- The evaluator Dx, once more, in a form that the kernel reckons fast: each step unfolds little. Its equality with the first form is proved. -/
import Derived.Test.YtnmajohhfcgddaaDxIns
set_option linter.unusedVariables false
set_option linter.unusedSimpArgs false
set_option linter.unusedSectionVars false
namespace Go.Dx
open Go
noncomputable section

theorem even_eq (k : Nat) : Nat.beq (Nat.mod k 2) 0 = (k % 2 == 0) := by
  show Nat.beq (k % 2) 0 = _
  rcases Nat.mod_two_eq_zero_or_one k with h | h <;> (rw [h]; rfl)
def kget {α : Type} (t : PT α) : Nat → Option α :=
  PT.rec (motive := fun _ => Nat → Option α) (fun _ => none)
    (fun v _ _ ihl ihr k => Nat.casesOn (motive := fun _ => Option α) k v (fun k => cond (Nat.beq (Nat.mod k 2) 0) (ihl (Nat.div k 2)) (ihr (Nat.div k 2)))) t
theorem kget_eq {α : Type} : ∀ (t : PT α) (k : Nat), kget t k = t.get k
  | .nil, k => by cases k <;> rfl
  | .node v l r, 0 => rfl
  | .node v l r, k + 1 => by
    show cond (Nat.beq (Nat.mod k 2) 0) (kget l (Nat.div k 2)) (kget r (Nat.div k 2)) = if k % 2 == 0 then l.get (k / 2) else r.get (k / 2)
    rw [kget_eq l, kget_eq r]
    have e : Nat.beq (Nat.mod k 2) 0 = (k % 2 == 0) := even_eq k
    have e2 : Nat.div k 2 = k / 2 := rfl
    rw [e, e2]
    cases (k % 2 == 0) <;> rfl
def kputA {α : Type} (n : Nat) : PT α → Nat → Option α → PT α :=
  Nat.rec (motive := fun _ => PT α → Nat → Option α → PT α) (fun t _ _ => t)
    (fun _ ih t k x => Nat.casesOn (motive := fun _ => PT α) k
      (PT.casesOn (motive := fun _ => PT α) t (.node x .nil .nil) (fun _ l r => .node x l r))
      (fun k => cond (Nat.beq (Nat.mod k 2) 0)
        (PT.casesOn (motive := fun _ => PT α) t (.node none (ih .nil (Nat.div k 2) x) .nil) (fun v l r => .node v (ih l (Nat.div k 2) x) r))
        (PT.casesOn (motive := fun _ => PT α) t (.node none .nil (ih .nil (Nat.div k 2) x)) (fun v l r => .node v l (ih r (Nat.div k 2) x))))) n
theorem kputA_eq {α : Type} : ∀ (n : Nat) (t : PT α) (k : Nat) (x : Option α), kputA n t k x = PT.setAux n t k x
  | 0, _, _, _ => rfl
  | n + 1, t, 0, x => by cases t <;> rfl
  | n + 1, t, k + 1, x => by
    cases t with
    | nil =>
      show cond (Nat.beq (Nat.mod k 2) 0) (PT.node none (kputA n .nil (Nat.div k 2) x) .nil) (PT.node none .nil (kputA n .nil (Nat.div k 2) x)) = if k % 2 == 0 then .node none (PT.setAux n .nil (k / 2) x) .nil else .node none .nil (PT.setAux n .nil (k / 2) x)
      rw [kputA_eq n]
      have e : Nat.beq (Nat.mod k 2) 0 = (k % 2 == 0) := even_eq k
      have e2 : Nat.div k 2 = k / 2 := rfl
      rw [e, e2]
      cases (k % 2 == 0) <;> rfl
    | node v l r =>
      show cond (Nat.beq (Nat.mod k 2) 0) (PT.node v (kputA n l (Nat.div k 2) x) r) (PT.node v l (kputA n r (Nat.div k 2) x)) = if k % 2 == 0 then .node v (PT.setAux n l (k / 2) x) r else .node v l (PT.setAux n r (k / 2) x)
      rw [kputA_eq n, kputA_eq n]
      have e : Nat.beq (Nat.mod k 2) 0 = (k % 2 == 0) := even_eq k
      have e2 : Nat.div k 2 = k / 2 := rfl
      rw [e, e2]
      cases (k % 2 == 0) <;> rfl
def kput {α : Type} (t : PT α) (k : Nat) (x : Option α) : PT α := kputA (Nat.succ k) t k x
theorem kput_eq {α : Type} (t : PT α) (k : Nat) (x : Option α) : kput t k x = t.put k x := kputA_eq _ _ _ _

def orU (o : Option Value) : Value := Option.casesOn (motive := fun _ => Value) o undefD (fun v => v)
def kev (t : PT Value) (x : Operand) : Value := Operand.casesOn (motive := fun _ => Value) x (fun i => orU (kget t i)) (fun v => v) (fun _ => undefD) (fun f => .func (.func f) #[] #[])
theorem kev_eq (t : PT Value) : kev t = ev t := by
  funext x
  cases x with
  | tmp i =>
    show orU (kget t i) = (t.get i).getD undefD
    rw [kget_eq]
    cases t.get i <;> rfl
  | const v => rfl
  | global g => rfl
  | func f => rfl

/-! Numbers -/
def kmod (k : IntKind) (m : Nat) : Int := IntKind.casesOn (motive := fun _ => Int) k (dwrap .i8 (.ofNat m)) (dwrap .i16 (.ofNat m)) (dwrap .i32 (.ofNat m)) (dwrap .i64 (.ofNat m)) (.ofNat (Nat.mod m 256)) (.ofNat (Nat.mod m 65536)) (.ofNat (Nat.mod m 4294967296)) (.ofNat (Nat.mod m 18446744073709551616))
theorem kmod_eq (k : IntKind) (m : Nat) : kmod k m = dwrap k (.ofNat m) := by cases k <;> rfl
def kadd (k : IntKind) (a b : Int) : Int := Int.casesOn (motive := fun _ => Int) a (fun m => Int.casesOn (motive := fun _ => Int) b (fun n => kmod k (Nat.add m n)) (fun n => dwrap k (Int.add (.ofNat m) (.negSucc n)))) (fun m => dwrap k (Int.add (.negSucc m) b))
theorem kadd_eq (k : IntKind) (a b : Int) : kadd k a b = dwrap k (a + b) := by
  cases a with
  | ofNat m =>
    cases b with
    | ofNat n => exact kmod_eq k _
    | negSucc n => rfl
  | negSucc m => rfl
def kxor (k : IntKind) (a b : Int) : Int := kmod k (Nat.xor (low k a) (low k b))
def kand (k : IntKind) (a b : Int) : Int := kmod k (Nat.land (low k a) (low k b))
def kor (k : IntKind) (a b : Int) : Int := kmod k (Nat.lor (low k a) (low k b))
def kbinI (op : BinOp) (k : IntKind) (a b : Int) : Option Value :=
  match op with
  | .add => some (.int k (kadd k a b))
  | .xor => some (.int k (kxor k a b))
  | .and => some (.int k (kand k a b))
  | .or => some (.int k (kor k a b))
  | .shl => dshift .shl k a b
  | .shr => dshift .shr k a b
  | op => dint op k a b
def sameK (a b : IntKind) : Bool :=
  IntKind.casesOn (motive := fun _ => Bool) a (IntKind.casesOn (motive := fun _ => Bool) b true false false false false false false false) (IntKind.casesOn (motive := fun _ => Bool) b false true false false false false false false)
    (IntKind.casesOn (motive := fun _ => Bool) b false false true false false false false false) (IntKind.casesOn (motive := fun _ => Bool) b false false false true false false false false)
    (IntKind.casesOn (motive := fun _ => Bool) b false false false false true false false false) (IntKind.casesOn (motive := fun _ => Bool) b false false false false false true false false)
    (IntKind.casesOn (motive := fun _ => Bool) b false false false false false false true false) (IntKind.casesOn (motive := fun _ => Bool) b false false false false false false false true)
def kbin (op : BinOp) (x y : Value) : Option Value :=
  match x, y with
  | .int k a, .int k' b => match op with
    | .shl => dshift .shl k a b
    | .shr => dshift .shr k a b
    | op => cond (sameK k k') (kbinI op k a b) none
  | x, y => dbin op x y

/-! Memory -/
def ksetN (l : List Value) : Nat → Value → List Value := List.rec (motive := fun _ => Nat → Value → List Value) (fun _ _ => []) (fun x l ih i v => Nat.casesOn (motive := fun _ => List Value) i (v :: l) (fun i => x :: ih i v)) l
def kgetN (l : List Value) : Nat → Option Value := List.rec (motive := fun _ => Nat → Option Value) (fun _ => none) (fun x l ih i => Nat.casesOn (motive := fun _ => Option Value) i (some x) (fun i => ih i)) l
def kcget (c : Cells) (i : Nat) : Option Value := match c with
  | .list l => kgetN l i
  | .tree n z t => c.get i
  | .str l => kgetN l i
def kcset (c : Cells) (i : Nat) (v : Value) : Cells := match c with
  | .list l => .list (ksetN l i v)
  | .tree n z t => c.set i v
  | .str l => .str (ksetN l i v)
def kheap (s : DS) (k : Nat) : Option DObj := cond (Nat.blt k s.next) (cond (s.vis k) (kget s.heap k) none) none
def kld (s : DS) (p : Value) : Option (Value × DS) := match p with
  | .pointer (some ⟨k, off, none⟩) => match kheap s k with
    | some (.cells c _) => match kcget c off with
      | some v => some (v, s)
      | none => none
    | _ => none
  | _ => none
def kst1 (s : DS) (k off : Nat) (v : Value) : Option (Value × DS) := match kheap s k with
  | some (.cells c false) => cond (Nat.ble (Nat.succ off) c.size) (cond (s.wr k) (some (undefD, ⟨kput s.heap k (some (.cells (kcset c off v) false)), s.next, s.vis, s.wr⟩)) none) none
  | _ => none

def kop (call : CallFn) (t : PT Value) (s : DS) (o : DOp) : Option (Value × DS) :=
  match o with
  | .mv x => some (kev t x, s)
  | .bin op x y => match kbin op (kev t x) (kev t y) with | some v => some (v, s) | none => none
  | .ld none a => kld s (kev t a)
  | .st size a x => match kev t a with
    | .pointer (some ⟨k, off, none⟩) => match kev t x with
      | .int ki n => cond (Nat.beq size 1) (kst1 s k off (.int ki n)) (dop call (kev t) s (.st size a x))
      | _ => dop call (kev t) s (.st size a x)
    | _ => none
  | .call f args => call (kev t f) (args.map (kev t)) s
  | .cvInt k x => match kev t x with | .int _ n => some (.int k (dwrap k n), s) | _ => none
  | .nilck x => match kev t x with
    | .pointer (some a) => some (.pointer (some a), s)
    | .func (.func f) a b => some (.func (.func f) a b, s)
    | .func (.yield l) a b => some (.func (.yield l) a b, s)
    | _ => none
  | .ixA n size x i => match kev t x, asIdx (kev t i) with
    | .pointer (some ⟨k, o, none⟩), some j => cond (Nat.blt j n) (some (.pointer (some ⟨k, Nat.add o (Nat.mul j size), none⟩), s)) none
    | _, _ => none
  | o => dop call (kev t) s o

def kstep (op : Option (Value × DS)) (k : Value → DS → Option (PT Value × DS)) : Option (PT Value × DS) := match op with
  | some (v, s) => k v s
  | none => none
def kops (call : CallFn) (l : List DOper) : List Note → PT Value → DS → Option (PT Value × DS) :=
  List.rec (motive := fun _ => List Note → PT Value → DS → Option (PT Value × DS)) (fun _ t s => some (t, s))
    (fun o rest ih notes t s => match o with
      | ⟨dst, op, none, [], false⟩ => kstep (kop call t s op) fun v s => ih notes (match dst with | some d => kput t d (some v) | none => t) s
      | o => dops call (o :: rest) notes t s) l
def kcode (call : CallFn) (lf : Nat) (inRound : Bool) (c : DCode) : St → Option (DExit × St) :=
  DCode.rec (motive := fun _ => St → Option (DExit × St))
    (fun x => some (.normal, x)) (fun x => some (.ret, x)) (fun id x => some (.exit id, x))
    (fun ops x => match kops call ops [] x.t x.s with | some (t, s) => some (.normal, ⟨t, s, x.defers⟩) | none => none)
    (fun a b iha ihb x => match iha x with | some (.normal, y) => ihb y | r => r)
    (fun c a b iha ihb x => match kev x.t c with | .bool true => iha x | .bool false => ihb x | _ => none)
    (fun id b ih x => match ih x with | some (.exit j, y) => cond (Nat.beq j id) (some (.normal, y)) (some (.exit j, y)) | r => r)
    (fun b ih x => dloop ih lf x)
    (fun f ps a b iha ihb x => dcode call lf inRound (.rangeFunc f ps a b) x)
    (fun _ => none) c
def kcall (E : Env) (d : Nat) : CallFn := Nat.rec (motive := fun _ => CallFn) (fun _ _ _ => none)
  (fun d ih f args s => match f with
    | .func (.func g) first captured =>
      match (match E.intr g with | some F => F (first.toList ++ (args ++ captured.toList)) s | none => none) with
      | some r => some r
      | none => match E.fn g with
        | none => none
        | some fn =>
          cond (Nat.ble (first.toList ++ (args ++ captured.toList)).length fn.ntmps)
            (match kcode ih E.lf false fn.body ⟨argsT (first.toList ++ (args ++ captured.toList)), s, []⟩ with
            | some (.exit _, _) => none
            | some (_, x) => match killAll x.s x.defers with
              | some s' => match dresults x.t s' fn.results with
                | some vs => some (tupled vs, s')
                | none => none
              | none => none
            | none => none)
          none
    | f => dcall E (d + 1) f args s) d

/-! ### It is the same -/
theorem cond_if {α : Type} (c : Bool) (a b : α) : cond c a b = if c = true then a else b := by cases c <;> rfl
theorem sameK_eq (a b : IntKind) : sameK a b = decide (a = b) := by cases a <;> cases b <;> rfl
theorem kbinI_eq (op : BinOp) (k : IntKind) (a b : Int) (h1 : op ≠ .shl) (h2 : op ≠ .shr) : kbinI op k a b = dint op k a b := by
  cases op <;> first | rfl | (exact absurd rfl h1) | (exact absurd rfl h2) | (simp only [kbinI, dint, kadd_eq]; done) | (simp only [kbinI, dint, kxor, kand, kor, kmod_eq]; rfl)
theorem kbin_int (op : BinOp) (k k' : IntKind) (a b : Int) : kbin op (.int k a) (.int k' b) = dbin op (.int k a) (.int k' b) := by
  have key : op ≠ .shl → op ≠ .shr → cond (sameK k k') (kbinI op k a b) none = if k = k' then dint op k a b else none := by
    intro h1 h2
    rw [kbinI_eq op k a b h1 h2, sameK_eq, cond_if]
    simp
  cases op <;> first | rfl | exact key (by simp) (by simp)
theorem kbin_eq (op : BinOp) (x y : Value) : kbin op x y = dbin op x y := by
  cases x <;> cases y <;> first | rfl | exact kbin_int _ _ _ _ _
theorem kgetN_eq : ∀ (l : List Value) (i : Nat), kgetN l i = getN l i
  | [], _ => rfl
  | _ :: _, 0 => rfl
  | _ :: l, i + 1 => kgetN_eq l i
theorem ksetN_eq : ∀ (l : List Value) (i : Nat) (v : Value), ksetN l i v = setN l i v
  | [], _, _ => rfl
  | _ :: _, 0, _ => rfl
  | x :: l, i + 1, v => congrArg (x :: ·) (ksetN_eq l i v)
theorem kcget_eq (c : Cells) (i : Nat) : kcget c i = c.get i := by
  cases c with
  | list l => exact kgetN_eq l i
  | tree n z t => rfl
  | str l => exact kgetN_eq l i
theorem kcset_eq (c : Cells) (i : Nat) (v : Value) : kcset c i v = c.set i v := by
  cases c with
  | list l => exact congrArg Cells.list (ksetN_eq l i v)
  | tree n z t => rfl
  | str l => exact congrArg Cells.str (ksetN_eq l i v)
theorem kheap_eq (s : DS) (k : Nat) : kheap s k = s.get k := by
  unfold kheap DS.get
  rw [kget_eq]
  cases Nat.blt k s.next <;> cases s.vis k <;> rfl

theorem kld_eq (ρ : Operand → Value) (s : DS) (a : Operand) (call : CallFn) : kld s (ρ a) = dop call ρ s (.ld none a) := by
  show kld s (ρ a) = (match dread ρ s (.ld none a) with | some v => some (v, s) | none => none)
  simp only [dread]
  generalize ρ a = A
  cases A with
  | pointer p =>
    cases p with
    | none => rfl
    | some ad =>
      obtain ⟨k, off, sp⟩ := ad
      cases sp with
      | some z => rfl
      | none =>
        simp only [kld, kheap_eq]
        cases s.get k with
        | none => rfl
        | some ob =>
          cases ob with
          | cells c ro => simp only [kcget_eq]
          | _ => rfl
  | _ => rfl
theorem kst1_eq (s : DS) (k off : Nat) (v : Value) (h : oneCellD v = true) : kst1 s k off v = (match s.write k off [v] with | some s' => some (undefD, s') | none => none) := by
  unfold kst1 DS.write
  rw [kheap_eq]
  cases hg : s.get k with
  | none => rfl
  | some ob =>
    cases ob with
    | cells c ro =>
      cases ro with
      | true => rfl
      | false =>
        simp only [cond_if, List.length_cons, List.length_nil, Nat.zero_add, Cells.fillFrom, DS.set, kput_eq, kcset_eq]
        by_cases h1 : Nat.ble (Nat.succ off) c.size = true
        · have h1' : Nat.ble (off + 1) c.size = true := h1
          simp only [h1, h1', if_true]
          cases s.wr k <;> rfl
        · have h1' : ¬ Nat.ble (off + 1) c.size = true := h1
          simp only [h1, h1', if_false]
          rfl
    | _ => rfl
theorem kop_eq (call : CallFn) (t : PT Value) (s : DS) (o : DOp) : kop call t s o = dop call (ev t) s o := by
  cases o with
  | mv x => simp only [kop, kev_eq]; rfl
  | bin op x y => simp only [kop, kev_eq, kbin_eq]; rfl
  | ld agg a =>
    cases agg with
    | none => simp only [kop, kev_eq]; exact kld_eq (ev t) s a call
    | some n => simp only [kop, kev_eq]
  | st size a x =>
    simp only [kop, kev_eq]
    have e : dop call (ev t) s (.st size a x) = dwrite (ev t) s (.st size a x) := rfl
    simp only [e, dwrite]
    generalize ev t a = A
    cases A with
    | pointer p =>
      cases p with
      | none => rfl
      | some ad =>
        obtain ⟨k, off, sp⟩ := ad
        cases sp with
        | some z => rfl
        | none =>
          generalize ev t x = X
          cases X with
          | int ki n =>
            simp only [Value.cells, cond_if]
            by_cases h1 : Nat.beq size 1 = true
            · have h1' : Nat.beq 1 size = true := by rw [Nat.eq_of_beq_eq_true h1]; rfl
              rw [if_pos h1, kst1_eq _ _ _ _ rfl]
              simp only [List.length_cons, List.length_nil, Nat.zero_add, h1', allOne, oneCellD, Bool.and_self, if_true]
              rfl
            · rw [if_neg h1]
          | _ => rfl
    | _ => rfl
  | call f args => simp only [kop, kev_eq]; rfl
  | cvInt k x =>
    simp only [kop, kev_eq]
    show _ = (match dpure (ev t) (.cvInt k x) with | some v => some (v, s) | none => none)
    simp only [dpure]
    generalize ev t x = X
    cases X <;> rfl
  | nilck x =>
    simp only [kop, kev_eq]
    show _ = (match dpure (ev t) (.nilck x) with | some v => some (v, s) | none => none)
    simp only [dpure]
    generalize ev t x = X
    split <;> simp_all
  | ixA n size x i =>
    simp only [kop, kev_eq]
    show _ = (match dpure (ev t) (.ixA n size x i) with | some v => some (v, s) | none => none)
    simp only [dpure]
    generalize ev t x = X
    generalize asIdx (ev t i) = J
    split
    · rename_i k o j
      simp only [cond_if]
      by_cases h : Nat.blt j n = true
      · rw [if_pos h]; simp only [h, if_true]; rfl
      · simp only [h, if_false]; rfl
    · rename_i hne
      split
      · rename_i h
        split at h
        · rename_i k o j; exact (hne k o j rfl rfl).elim
        · cases h
      · rfl
  | _ => simp only [kop, kev_eq]

theorem kops_eq (call : CallFn) : ∀ (l : List DOper) (notes : List Note) (t : PT Value) (s : DS), kops call l notes t s = dops call l notes t s
  | [], _, _, _ => rfl
  | ⟨dst, op, guard, haz, note⟩ :: rest, notes, t, s => by
    have ih := kops_eq call rest
    cases guard with
    | some g => rfl
    | none =>
      cases haz with
      | cons a r => rfl
      | nil =>
        cases note with
        | true => rfl
        | false =>
          show kstep (kop call t s op) (fun v s => kops call rest notes (match dst with | some d => kput t d (some v) | none => t) s) = _
          simp only [dops, wantedD, if_true, Bool.false_eq_true, if_false, kop_eq]
          cases hd : dop call (ev t) s op with
          | none => rfl
          | some r =>
            obtain ⟨v, s1⟩ := r
            show kops call rest notes _ s1 = _
            rw [ih]
            cases dst with
            | none => rfl
            | some d => simp only [kput_eq]; rfl
theorem kcode_eq (call : CallFn) (lf : Nat) (inR : Bool) : ∀ (c : DCode) (x : St), kcode call lf inR c x = dcode call lf inR c x
  | .skip, _ => rfl
  | .ret, _ => rfl
  | .exit _, _ => rfl
  | .region ops, x => by
    show (match kops call ops [] x.t x.s with | some (t, s) => some (DExit.normal, St.mk t s x.defers) | none => none) = _
    rw [kops_eq]
    simp only [dcode]
    rfl
  | .seq a b, x => by
    show (match kcode call lf inR a x with | some (DExit.normal, y) => kcode call lf inR b y | r => r) = _
    rw [kcode_eq call lf inR a x]
    simp only [dcode]
    split
    · rename_i y h
      simp only [h]
      exact kcode_eq call lf inR b y
    · rename_i hne
      split
      · rename_i y h; exact absurd h (hne y)
      · rfl
  | .cond c a b, x => by
    show (match kev x.t c with | .bool true => kcode call lf inR a x | .bool false => kcode call lf inR b x | _ => none) = _
    rw [kev_eq, kcode_eq call lf inR a x, kcode_eq call lf inR b x]
    simp only [dcode]
    rfl
  | .block id b, x => by
    show (match kcode call lf inR b x with | some (DExit.exit j, y) => cond (Nat.beq j id) (some (DExit.normal, y)) (some (DExit.exit j, y)) | r => r) = _
    rw [kcode_eq call lf inR b x]
    simp only [dcode]
    split
    · rename_i j y h
      simp only [h, cond_if]
      by_cases e : j = id
      · subst e; simp
      · have : ¬ Nat.beq j id = true := fun h => e (Nat.eq_of_beq_eq_true h)
        rw [if_neg this, if_neg e]
    · rename_i hne
      split
      · rename_i j y h; exact absurd h (hne j y)
      · rfl
  | .loop b, x => by
    show dloop (kcode call lf inR b) lf x = _
    have : kcode call lf inR b = dcode call lf inR b := funext (kcode_eq call lf inR b)
    rw [this]
    simp only [dcode]
  | .rangeFunc _ _ _ _, _ => rfl
  | .bad, _ => rfl
theorem kcall_eq (E : Env) : ∀ d, kcall E d = dcall E d
  | 0 => by funext f a s; rfl
  | d + 1 => by
    have ih := kcall_eq E d
    funext f args s
    have hstep : kcall E (d + 1) f args s = (match f with
      | .func (.func g) first captured =>
        match (match E.intr g with | some F => F (first.toList ++ (args ++ captured.toList)) s | none => none) with
        | some r => some r
        | none => match E.fn g with
          | none => none
          | some fn =>
            cond (Nat.ble (first.toList ++ (args ++ captured.toList)).length fn.ntmps)
              (match kcode (kcall E d) E.lf false fn.body ⟨argsT (first.toList ++ (args ++ captured.toList)), s, []⟩ with
              | some (.exit _, _) => none
              | some (_, x) => match killAll x.s x.defers with
                | some s' => match dresults x.t s' fn.results with
                  | some vs => some (tupled vs, s')
                  | none => none
                | none => none
              | none => none)
            none
      | f => dcall E (d + 1) f args s) := rfl
    rw [hstep, ih]
    split
    · rename_i g first captured
      simp only [dcall]
      have fin : (match E.fn g with
          | none => none
          | some fn =>
            cond (Nat.ble (first.toList ++ (args ++ captured.toList)).length fn.ntmps)
              (match kcode (dcall E d) E.lf false fn.body ⟨argsT (first.toList ++ (args ++ captured.toList)), s, []⟩ with
              | some (.exit _, _) => none
              | some (_, x) => match killAll x.s x.defers with
                | some s' => match dresults x.t s' fn.results with
                  | some vs => some (tupled vs, s')
                  | none => none
                | none => none
              | none => none)
            none : Option (Value × DS)) = (match E.fn g with
        | none => none
        | some fn =>
          if Nat.ble (first.toList ++ (args ++ captured.toList)).length fn.ntmps then
            match dcode (dcall E d) E.lf false fn.body ⟨argsT (first.toList ++ (args ++ captured.toList)), s, []⟩ with
            | some (.exit _, _) => none
            | some (_, x) => match killAll x.s x.defers with
              | some s' => match dresults x.t s' fn.results with
                | some vs => some (tupled vs, s')
                | none => none
              | none => none
            | none => none
          else none : Option (Value × DS)) := by
        cases E.fn g with
        | none => rfl
        | some fn => simp only [cond_if, kcode_eq]
      cases hi : E.intr g with
      | none => exact fin
      | some F =>
        simp only
        cases F (first.toList ++ (args ++ captured.toList)) s with
        | some r => rfl
        | none => exact fin
    · rfl
end
end Go.Dx
