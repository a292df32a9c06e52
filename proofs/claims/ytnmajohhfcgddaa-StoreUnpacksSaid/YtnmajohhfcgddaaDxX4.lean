/- The compiled form of Dx: regions, code, calls; it is the same. -/
import Derived.Test.YtnmajohhfcgddaaDxX3
set_option linter.unusedVariables false
set_option linter.unusedSimpArgs false
set_option linter.unusedSectionVars false
namespace Go.Dx
open Go
noncomputable section

inductive XR where
  | bad
  | normal (t : PT Value) (s : DS) (ds : List Nat)
  | ret (t : PT Value) (s : DS) (ds : List Nat)
  | exit (id : Nat) (t : PT Value) (s : DS) (ds : List Nat)
def toR (o : Option (DExit × St)) : XR :=
  match o with
  | none => .bad
  | some (.normal, x) => .normal x.t x.s x.defers
  | some (.ret, x) => .ret x.t x.s x.defers
  | some (.exit id, x) => .exit id x.t x.s x.defers
def ofR (r : XR) : Option (DExit × St) :=
  match r with
  | .bad => none
  | .normal t s ds => some (.normal, ⟨t, s, ds⟩)
  | .ret t s ds => some (.ret, ⟨t, s, ds⟩)
  | .exit id t s ds => some (.exit id, ⟨t, s, ds⟩)
theorem ofR_toR (o : Option (DExit × St)) : ofR (toR o) = o := by
  cases o with
  | none => rfl
  | some p => obtain ⟨e, t, s, ds⟩ := p; cases e <;> rfl

/-! ### Regions -/
inductive XC where
  | mk (f : CallFn → List Note → List Nat → PT Value → DS → XR)
def XC.go (k : XC) (call : CallFn) (nt : List Note) (ds : List Nat) (t : PT Value) (s : DS) : XR := XC.rec (motive := fun _ => XR) (fun f => f call nt ds t s) k
inductive Wd where
  | mk (f : Value → PT Value → PT Value)
def wd (d : Option Nat) : Wd := Option.rec (motive := fun _ => Wd) (Wd.mk fun _ t => t) (fun d => Wr.rec (motive := fun _ => Wd) (fun w => Wd.mk fun v t => w (some v) t) (wrs d)) d
theorem wd_eq (d : Option Nat) : wd d = .mk fun v t => putT t d v := by
  cases d with
  | none => rfl
  | some d =>
    show Wr.rec (motive := fun _ => Wd) (fun w => Wd.mk fun v t => w (some v) t) (wrs d) = _
    rw [wrs_eq]; rfl
def plainS (w : Value → PT Value → PT Value) (o : XOp) (k : XC) : XC :=
  XOp.rec (motive := fun _ => XC)
    (fun f => .mk fun call nt ds t s => XC.rec (motive := fun _ => XR) (fun g => g call nt ds (w (f t) t) s) k)
    (fun f => .mk fun call nt ds t s => Option.rec (motive := fun _ => XR) .bad (fun v => XC.rec (motive := fun _ => XR) (fun g => g call nt ds (w v t) s) k) (f t s))
    (fun f => .mk fun call nt ds t s => Option.rec (motive := fun _ => XR) .bad (fun s' => XC.rec (motive := fun _ => XR) (fun g => g call nt ds (w undefD t) s') k) (f t s))
    (fun f => .mk fun call nt ds t s => DS.rec (motive := fun _ => XR) (fun h n v wr => Nat.rec (motive := fun _ => XR) (XC.rec (motive := fun _ => XR) (fun g => g call nt ds (w (.pointer (some ⟨0, 0, none⟩)) t) (DS.mk (Wr.rec (motive := fun _ => PT DObj) (fun z => z (some (f t)) h) (wrs 0)) 1 v wr)) k) (fun n _ => XC.rec (motive := fun _ => XR) (fun g => g call nt ds (w (.pointer (some ⟨Nat.succ n, 0, none⟩)) t) (DS.mk (Wr.rec (motive := fun _ => PT DObj) (fun z => z (some (f t)) h) (wrs (Nat.succ n))) (Nat.succ (Nat.succ n)) v wr)) k) n) s)
    (fun f => .mk fun call nt ds t s => Option.rec (motive := fun _ => XR) .bad (Prod.rec fun v s' => XC.rec (motive := fun _ => XR) (fun g => g call nt ds (w v t) s') k) (f call t s)) o
theorem plainS_eq (w : Value → PT Value → PT Value) (o : XOp) (k : XC) (call : CallFn) (nt : List Note) (ds : List Nat) (t : PT Value) (s : DS) :
    (plainS w o k).go call nt ds t s = (match o.go call t s with | some (v, s') => k.go call nt ds (w v t) s' | none => .bad) := by
  cases o with
  | tot f => rfl
  | val f =>
    show Option.rec (motive := fun _ => XR) .bad (fun v => k.go call nt ds (w v t) s) (f t s) = (match Option.rec (motive := fun _ => Option (Value × DS)) none (fun v => some (v, s)) (f t s) with | some (v, s') => k.go call nt ds (w v t) s' | none => .bad)
    cases f t s <;> rfl
  | eff f =>
    show Option.rec (motive := fun _ => XR) .bad (fun s' => k.go call nt ds (w undefD t) s') (f t s) = (match Option.rec (motive := fun _ => Option (Value × DS)) none (fun s' => some (undefD, s')) (f t s) with | some (v, s') => k.go call nt ds (w v t) s' | none => .bad)
    cases f t s <;> rfl
  | neu f =>
    obtain ⟨h, n, v, wr⟩ := s
    cases n <;> rfl
  | act f =>
    show Option.rec (motive := fun _ => XR) .bad (Prod.rec fun v s' => k.go call nt ds (w v t) s') (f call t s) = (match f call t s with | some (v, s') => k.go call nt ds (w v t) s' | none => .bad)
    cases f call t s with
    | none => rfl
    | some p => rfl
def noteS (op : DOp) (w : Value → PT Value → PT Value) (o : XOp) (k : XC) : XC :=
  .mk fun call nt ds t s => Option.rec (motive := fun _ => XR) .bad (Prod.rec fun v s' => k.go call (nt ++ [⟨foot (ev t) s op, s.next, s'.next⟩]) ds (w v t) s') (o.go call t s)
def hazS (haz : List Nat) (note : Bool) (op : DOp) (w : Value → PT Value → PT Value) (o : XOp) (k : XC) : XC :=
  .mk fun call nt ds t s => Option.rec (motive := fun _ => XR) .bad (Prod.rec fun v s' => k.go call (_root_.cond note (nt ++ [⟨foot (ev t) s op, s.next, s'.next⟩]) nt) ds (w v t) { s' with vis := s.vis, wr := s.wr })
    (o.go call t { s with vis := fun k => s.vis k && !hidden nt haz k, wr := fun k => s.wr k && !hidden nt haz k && !shielded nt haz k })
def wantX (want : Bool) (o : Option Value) : Bool := Option.rec (motive := fun _ => Bool) false (fun v => BV.rec (motive := fun _ => Bool) false (fun b => Bool.rec (motive := fun _ => Bool) (Bool.rec (motive := fun _ => Bool) true false b) b want) (asB v)) o
def guardG (note : Bool) (w : Value → PT Value → PT Value) (p k : XC) (want : Bool) (f : PT Value → Option Value) : XC :=
  Bool.rec (motive := fun _ => XC)
    (.mk fun call nt ds t s => Bool.rec (motive := fun _ => XR) (XC.rec (motive := fun _ => XR) (fun h => h call nt ds (w undefD t) s) k) (XC.rec (motive := fun _ => XR) (fun h => h call nt ds t s) p) (wantX want (f t)))
    (.mk fun call nt ds t s => Bool.rec (motive := fun _ => XR) (XC.rec (motive := fun _ => XR) (fun h => h call (nt ++ [⟨[], s.next, s.next⟩]) ds (w undefD t) s) k) (XC.rec (motive := fun _ => XR) (fun h => h call nt ds t s) p) (wantX want (f t))) note
def guardS (g : Option (Nat × Bool)) (note : Bool) (w : Value → PT Value → PT Value) (p k : XC) : XC :=
  Option.rec (motive := fun _ => XC) p (Prod.rec (motive := fun _ => XC) fun i want => Rdx.rec (motive := fun _ => XC) (fun f => guardG note w p k want f) (rdx i)) g
theorem guardS_eq (g : Option (Nat × Bool)) (note : Bool) (w : Value → PT Value → PT Value) (p k : XC) (call : CallFn) (nt : List Note) (ds : List Nat) (t : PT Value) (s : DS) :
    (guardS g note w p k).go call nt ds t s = if wantedD t g then p.go call nt ds t s else k.go call (if note then nt ++ [⟨[], s.next, s.next⟩] else nt) ds (w undefD t) s := by
  cases g with
  | none => rfl
  | some q =>
    obtain ⟨i, want⟩ := q
    have hw : wantX want (t.get i) = wantedD t (some (i, want)) := by
      simp only [wantedD, wantX]
      generalize t.get i = o
      cases o with
      | none => rfl
      | some v =>
        show BV.rec (motive := fun _ => Bool) false _ (asB v) = _
        rw [asB_rec]
        cases v <;> first | rfl | (rename_i b; cases b <;> cases want <;> rfl)
    have : guardS (some (i, want)) note w p k = guardG note w p k want fun t => t.get i := by
      show Rdx.rec (motive := fun _ => XC) (fun f => guardG note w p k want f) (rdx i) = _
      rw [rdx_eq]
    rw [this]
    cases note with
    | false =>
      show Bool.rec (motive := fun _ => XR) (k.go call nt ds (w undefD t) s) (p.go call nt ds t s) (wantX want (t.get i)) = _
      rw [hw]
      cases wantedD t (some (i, want)) <;> rfl
    | true =>
      show Bool.rec (motive := fun _ => XR) (k.go call (nt ++ [⟨[], s.next, s.next⟩]) ds (w undefD t) s) (p.go call nt ds t s) (wantX want (t.get i)) = _
      rw [hw]
      cases wantedD t (some (i, want)) <;> rfl
def bodyS (o : DOper) (w : Value → PT Value → PT Value) (k : XC) : XC :=
  match o.haz with
  | [] => Bool.rec (motive := fun _ => XC) (plainS w (xop o.op) k) (noteS o.op w (xop o.op) k) o.note
  | h :: r => hazS (h :: r) o.note o.op w (xop o.op) k
def stepX (o : DOper) (k : XC) : XC := Wd.rec (motive := fun _ => XC) (fun w => guardS o.guard o.note w (bodyS o w k) k) (wd o.dst)
def comps (l : List DOper) : XC := List.rec (motive := fun _ => XC) (.mk fun call nt ds t s => .normal t s ds) (fun o _ ih => stepX o ih) l
def endR (ds : List Nat) (o : Option (PT Value × DS)) : XR := match o with | some (t, s) => .normal t s ds | none => .bad
theorem comps_ok : ∀ (l : List DOper) (call : CallFn) (nt : List Note) (ds : List Nat) (t : PT Value) (s : DS), (comps l).go call nt ds t s = endR ds (dops call l nt t s)
  | [], _, _, _, _, _ => rfl
  | o :: l, call, nt, ds, t, s => by
    show (Wd.rec (motive := fun _ => XC) (fun w => guardS o.guard o.note w (bodyS o w (comps l)) (comps l)) (wd o.dst)).go call nt ds t s = _
    rw [wd_eq]
    show (guardS o.guard o.note (fun v t => putT t o.dst v) (bodyS o (fun v t => putT t o.dst v) (comps l)) (comps l)).go call nt ds t s = _
    rw [guardS_eq]
    simp only [dops]
    cases hg : wantedD t o.guard with
    | false =>
      simp only [Bool.false_eq_true, if_false]
      exact comps_ok l _ _ _ _ _
    | true =>
      simp only [if_true]
      unfold bodyS
      cases hz : o.haz with
      | nil =>
        simp only
        cases hn : o.note with
        | false =>
          show (plainS _ _ _).go call nt ds t s = _
          rw [plainS_eq, xop_ok]
          cases dop call (ev t) s o.op with
          | none => rfl
          | some p => obtain ⟨v, s'⟩ := p; exact comps_ok l _ _ _ _ _
        | true =>
          show Option.rec (motive := fun _ => XR) .bad (Prod.rec fun v s' => (comps l).go call (nt ++ [⟨foot (ev t) s o.op, s.next, s'.next⟩]) ds (putT t o.dst v) s') ((xop o.op).go call t s) = _
          rw [xop_ok]
          cases dop call (ev t) s o.op with
          | none => rfl
          | some p => obtain ⟨v, s'⟩ := p; exact comps_ok l _ _ _ _ _
      | cons h r =>
        simp only
        show Option.rec (motive := fun _ => XR) .bad (Prod.rec fun v s' => (comps l).go call (_root_.cond o.note (nt ++ [⟨foot (ev t) s o.op, s.next, s'.next⟩]) nt) ds (putT t o.dst v) { s' with vis := s.vis, wr := s.wr })
          ((xop o.op).go call t { s with vis := fun k => s.vis k && !hidden nt (h :: r) k, wr := fun k => s.wr k && !hidden nt (h :: r) k && !shielded nt (h :: r) k }) = _
        rw [xop_ok]
        cases dop call (ev t) { s with vis := fun k => s.vis k && !hidden nt (h :: r) k, wr := fun k => s.wr k && !hidden nt (h :: r) k && !shielded nt (h :: r) k } o.op with
        | none => rfl
        | some p =>
          obtain ⟨v, s'⟩ := p
          show (comps l).go call _ ds _ _ = _
          rw [cond_if]
          exact comps_ok l _ _ _ _ _

/-! ### Code -/
inductive XK where
  | mk (f : CallFn → PT Value → DS → List Nat → XR)
def XK.go (k : XK) (call : CallFn) (t : PT Value) (s : DS) (ds : List Nat) : XR := XK.rec (motive := fun _ => XR) (fun f => f call t s ds) k
def xset1 (s : DS) (k : Nat) (o : DObj) : Option DS := forceN (fun k => xput s k o) k
theorem xset1_eq (s : DS) (k : Nat) (o : DObj) : xset1 s k o = s.set k o := by
  unfold xset1
  rw [forceN_eq, xput_eq]
def drf (call : CallFn) (f : Operand) (params : List Nat) (assign body : DCode) (x : St) : Option (DExit × St) :=
    match ev x.t f with
    | .func (.func _) _ _ =>
      let s1 := x.s.new .dfr
      let s2 := s1.new (.loop .ready .normal x.t params assign body)
      match call (ev x.t f) [.func (.yield s1.next) #[] #[]] s2 with
      | some (_, s3) => match s3.get s1.next with
        | some (.loop st pending t ps a b) =>
          if st = .ready ∨ st = .done then
            match s3.set s1.next (.loop .exhausted pending t ps a b) with
            | some s4 => some (pending, { x with s := s4, defers := x.s.next :: x.defers })
            | none => none
          else none
        | _ => none
      | none => none
    | _ => none
def xrf (call : CallFn) (f : Operand) (params : List Nat) (assign body : DCode) (x : St) : Option (DExit × St) :=
    match ev x.t f with
    | .func (.func _) _ _ =>
      let s1 := xnew x.s .dfr
      let s2 := xnew s1 (.loop .ready .normal x.t params assign body)
      match call (ev x.t f) [.func (.yield s1.next) #[] #[]] s2 with
      | some (_, s3) => match hp s3 s1.next with
        | some (.loop st pending t ps a b) =>
          if st = .ready ∨ st = .done then
            match xset1 s3 s1.next (.loop .exhausted pending t ps a b) with
            | some s4 => some (pending, { x with s := s4, defers := x.s.next :: x.defers })
            | none => none
          else none
        | _ => none
      | none => none
    | _ => none
theorem xrf_eq (call : CallFn) (f : Operand) (params : List Nat) (assign body : DCode) (x : St) : xrf call f params assign body x = drf call f params assign body x := by
  simp only [xrf, drf, xnew_eq, hp_eq, xset1_eq]
def xk (lf : Nat) (inRound : Bool) (c : DCode) : XK :=
  DCode.rec (motive := fun _ => XK)
    (.mk fun call t s ds => .normal t s ds)
    (.mk fun call t s ds => .ret t s ds)
    (fun id => .mk fun call t s ds => .exit id t s ds)
    (fun ops => .mk fun call t s ds => XC.rec (motive := fun _ => XR) (fun f => f call [] ds t s) (comps ops))
    (fun a b iha ihb => .mk fun call t s ds => XR.rec (motive := fun _ => XR) .bad (fun t s ds => XK.rec (motive := fun _ => XR) (fun f => f call t s ds) ihb) (fun t s ds => .ret t s ds) (fun id t s ds => .exit id t s ds)
      (XK.rec (motive := fun _ => XR) (fun f => f call t s ds) iha))
    (fun c a b iha ihb => Rd.rec (motive := fun _ => XK) (fun r => .mk fun call t s ds => BV.rec (motive := fun _ => XR) .bad (fun v => XK.rec (motive := fun _ => XR) (fun f => f call t s ds) (Bool.rec (motive := fun _ => XK) ihb iha v)) (asB (r t))) (rd c))
    (fun id b ih => .mk fun call t s ds => XR.rec (motive := fun _ => XR) .bad (fun t s ds => .normal t s ds) (fun t s ds => .ret t s ds)
      (fun j t s ds => Bool.rec (motive := fun _ => XR) (.exit j t s ds) (.normal t s ds) (Nat.beq j id)) (XK.rec (motive := fun _ => XR) (fun f => f call t s ds) ih))
    (fun b ih => .mk fun call t s ds => Nat.rec (motive := fun _ => PT Value → DS → List Nat → XR) (fun _ _ _ => .bad)
      (fun _ again t s ds => XR.rec (motive := fun _ => XR) .bad again (fun t s ds => .ret t s ds) (fun id t s ds => .exit id t s ds) (XK.rec (motive := fun _ => XR) (fun f => f call t s ds) ih)) lf t s ds)
    (fun f ps a b iha ihb => Bool.rec (motive := fun _ => XK) (.mk fun call t s ds => toR (xrf call f ps a b ⟨t, s, ds⟩)) (.mk fun call t s ds => .bad) inRound)
    (.mk fun call t s ds => .bad) c
theorem xk_ok (lf : Nat) (inRound : Bool) (call : CallFn) : ∀ (c : DCode) (t : PT Value) (s : DS) (ds : List Nat), (xk lf inRound c).go call t s ds = toR (dcode call lf inRound c ⟨t, s, ds⟩) := by
  intro c
  induction c with
  | skip => intro t s ds; rfl
  | ret => intro t s ds; rfl
  | exit id => intro t s ds; rfl
  | region ops =>
    intro t s ds
    show (comps ops).go call [] ds t s = _
    rw [comps_ok]
    simp only [dcode]
    cases dops call ops [] t s with
    | none => rfl
    | some p => rfl
  | seq a b iha ihb =>
    intro t s ds
    show XR.rec (motive := fun _ => XR) .bad (fun t s ds => (xk lf inRound b).go call t s ds) (fun t s ds => .ret t s ds) (fun id t s ds => .exit id t s ds) ((xk lf inRound a).go call t s ds) = _
    rw [iha]
    simp only [dcode]
    cases dcode call lf inRound a ⟨t, s, ds⟩ with
    | none => rfl
    | some p => obtain ⟨e, y⟩ := p; cases e <;> first | rfl | exact ihb _ _ _
  | cond c a b iha ihb =>
    intro t s ds
    show (Rd.rec (motive := fun _ => XK) (fun r => .mk fun call t s ds => BV.rec (motive := fun _ => XR) .bad (fun v => XK.rec (motive := fun _ => XR) (fun f => f call t s ds) (Bool.rec (motive := fun _ => XK) (xk lf inRound b) (xk lf inRound a) v)) (asB (r t))) (rd c)).go call t s ds = _
    rw [rd_eq]
    show BV.rec (motive := fun _ => XR) .bad (fun v => (Bool.rec (motive := fun _ => XK) (xk lf inRound b) (xk lf inRound a) v).go call t s ds) (asB (ev t c)) = _
    rw [asB_rec]
    simp only [dcode]
    cases ev t c with
    | bool v => 
      cases v with
      | false => exact ihb _ _ _
      | true => exact iha _ _ _
    | _ => rfl
  | block id b ih =>
    intro t s ds
    show XR.rec (motive := fun _ => XR) .bad (fun t s ds => .normal t s ds) (fun t s ds => .ret t s ds) (fun j t s ds => Bool.rec (motive := fun _ => XR) (.exit j t s ds) (.normal t s ds) (Nat.beq j id)) ((xk lf inRound b).go call t s ds) = _
    rw [ih]
    simp only [dcode]
    cases dcode call lf inRound b ⟨t, s, ds⟩ with
    | none => rfl
    | some p =>
      obtain ⟨e, y⟩ := p
      cases e with
      | exit j =>
        show Bool.rec (motive := fun _ => XR) (.exit j y.t y.s y.defers) (XR.normal y.t y.s y.defers) (Nat.beq j id) = toR (if j = id then some (.normal, y) else some (.exit j, y))
        by_cases h : j = id
        · rw [if_pos h, h, Nat.beq_refl]; rfl
        · rw [if_neg h]
          have : Nat.beq j id = false := by
            cases hb : Nat.beq j id with
            | false => rfl
            | true => exact absurd (Nat.eq_of_beq_eq_true hb) h
          rw [this]; rfl
      | _ => rfl
  | loop b ih =>
    intro t s ds
    have key : ∀ (n : Nat) (t : PT Value) (s : DS) (ds : List Nat), Nat.rec (motive := fun _ => PT Value → DS → List Nat → XR) (fun _ _ _ => .bad)
        (fun _ again t s ds => XR.rec (motive := fun _ => XR) .bad again (fun t s ds => .ret t s ds) (fun id t s ds => .exit id t s ds) ((xk lf inRound b).go call t s ds)) n t s ds = toR (dloop (dcode call lf inRound b) n ⟨t, s, ds⟩) := by
      intro n
      induction n with
      | zero => intro t s ds; rfl
      | succ n ihn =>
        intro t s ds
        show XR.rec (motive := fun _ => XR) .bad _ _ _ ((xk lf inRound b).go call t s ds) = _
        rw [ih]
        simp only [dloop]
        cases dcode call lf inRound b ⟨t, s, ds⟩ with
        | none => rfl
        | some p => obtain ⟨e, y⟩ := p; cases e <;> first | rfl | exact ihn _ _ _
    exact key lf t s ds
  | rangeFunc f ps a b iha ihb =>
    intro t s ds
    cases inRound with
    | true => rfl
    | false =>
      show toR (xrf call f ps a b ⟨t, s, ds⟩) = _
      rw [xrf_eq]
      rfl
  | bad => intro t s ds; rfl

/-! ### Calls -/
inductive Rl where
  | mk (f : PT Value → DS → Option (List Value))
def rsl1 (r : DRes) (g : PT Value → DS → Option (List Value)) : Rl :=
  DRes.rec (motive := fun _ => Rl) (fun i => Rdx.rec (motive := fun _ => Rl) (fun f => .mk fun t s => Option.rec (motive := fun _ => Option (List Value)) none (fun l => some (orU (f t) :: l)) (g t s)) (rdx i))
      (fun a agg => .mk fun t s => Option.rec (motive := fun _ => Option (List Value)) none (fun v => Option.rec (motive := fun _ => Option (List Value)) none (fun l => some (v :: l)) (g t s)) (dread (ev t) s (.ld agg (.tmp a)))) r
def rsl (l : List DRes) : Rl :=
  List.rec (motive := fun _ => Rl) (.mk fun _ _ => some []) (fun r _ ih => Rl.rec (motive := fun _ => Rl) (fun g => rsl1 r g) ih) l
theorem rsl_eq : ∀ l : List DRes, rsl l = .mk fun t s => dresults t s l
  | [] => rfl
  | r :: l => by
    show Rl.rec (motive := fun _ => Rl) (fun g => rsl1 r g) (rsl l) = _
    rw [rsl_eq l]
    cases r with
    | tmp i =>
      show Rdx.rec (motive := fun _ => Rl) (fun f => .mk fun t s => Option.rec (motive := fun _ => Option (List Value)) none (fun l => some (orU (f t) :: l)) (dresults t s l)) (rdx i) = _
      rw [rdx_eq]
      refine congrArg Rl.mk (funext fun t => funext fun s => ?_)
      show Option.rec (motive := fun _ => Option (List Value)) none (fun l => some (orU (t.get i) :: l)) (dresults t s l) = (match dresults t s l with | some l => some ((t.get i).getD undefD :: l) | none => none)
      cases dresults t s l with
      | none => rfl
      | some l => cases t.get i <;> rfl
    | cell a agg =>
      refine congrArg Rl.mk (funext fun t => funext fun s => ?_)
      show Option.rec (motive := fun _ => Option (List Value)) none (fun v => Option.rec (motive := fun _ => Option (List Value)) none (fun l => some (v :: l)) (dresults t s l)) (dread (ev t) s (.ld agg (.tmp a))) = (match dread (ev t) s (.ld agg (.tmp a)), dresults t s l with | some v, some l => some (v :: l) | _, _ => none)
      cases dread (ev t) s (.ld agg (.tmp a)) with
      | none => rfl
      | some v =>
        dsimp only
        cases dresults t s l <;> rfl
def xkill (s : DS) (ds : List Nat) : Option DS := List.rec (motive := fun _ => Option DS) (some s) (fun _ _ _ => killAll s ds) ds
theorem xkill_eq (s : DS) (ds : List Nat) : xkill s ds = killAll s ds := by cases ds <;> rfl
def fin (g : PT Value → DS → Option (List Value)) (t : PT Value) (s : DS) (ds : List Nat) : Option (Value × DS) :=
  Option.rec (motive := fun _ => Option (Value × DS)) none (fun s' => Option.rec (motive := fun _ => Option (Value × DS)) none (fun vs => some (tupled vs, s')) (g t s')) (xkill s ds)
def loadA (l : List Value) : Nat → PT Value → PT Value := List.rec (motive := fun _ => Nat → PT Value → PT Value) (fun _ t => t) (fun x _ ih i t => ih (Nat.succ i) (Wr.rec (motive := fun _ => PT Value) (fun w => w (some x) t) (wrs i))) l
theorem loadA_eq (l : List Value) : loadA l 0 .nil = argsT l := by
  have key : ∀ (l : List Value) (p : Nat × PT Value), loadA l p.1 p.2 = (l.foldl (fun (p : Nat × PT Value) x => (p.1 + 1, p.2.put p.1 (some x))) p).2 := by
    intro l
    induction l with
    | nil => intro p; rfl
    | cons x l ih =>
      intro p
      show loadA l (p.1 + 1) (Wr.rec (motive := fun _ => PT Value) (fun w => w (some x) p.2) (wrs p.1)) = _
      rw [wrs_eq]
      exact ih (p.1 + 1, p.2.put p.1 (some x))
  exact key l (0, .nil)
inductive XF where
  | none
  | mk (n : Nat) (run : CallFn → PT Value → DS → List Nat → XR) (res : PT Value → DS → Option (List Value))
def xfun (E : Env) (g : Nat) : XF :=
  Option.rec (motive := fun _ => XF) .none (fun fn => XK.rec (motive := fun _ => XF) (fun f => Rl.rec (motive := fun _ => XF) (fun r => XF.mk fn.ntmps f r) (rsl fn.results)) (xk E.lf false fn.body)) (E.fn g)
inductive XI where
  | none
  | mk (f : List Value → DS → Option (Value × DS))
def xintr (E : Env) (g : Nat) : XI := Option.rec (motive := fun _ => XI) .none (fun f => .mk f) (E.intr g)
def setPX (ps : List Nat) : List Value → PT Value → PT Value :=
  List.rec (motive := fun _ => List Value → PT Value → PT Value) (fun _ t => t)
    (fun p _ ih vs t => List.rec (motive := fun _ => PT Value) t (fun v vs _ => ih vs (Wr.rec (motive := fun _ => PT Value) (fun w => w (some v) t) (wrs p))) vs) ps
theorem setPX_eq : ∀ (ps : List Nat) (vs : List Value) (t : PT Value), setPX ps vs t = setParams t ps vs
  | [], vs, t => by cases vs <;> rfl
  | p :: ps, [], t => rfl
  | p :: ps, v :: vs, t => by
    show setPX ps vs (Wr.rec (motive := fun _ => PT Value) (fun w => w (some v) t) (wrs p)) = setParams (t.put p (some v)) ps vs
    rw [wrs_eq]
    exact setPX_eq ps vs _
def xyield (E : Env) (call : CallFn) (l : Nat) (args : List Value) (s : DS) : Option (Value × DS) :=
      match hp s l with
      | some (.loop st pending t ps assign body) =>
        if Nat.beq ps.length args.length && decide (st = .ready) then
          match ofR ((xk E.lf true assign).go call (setPX ps args t) s []) with
          | some (.normal, x) => match hp x.s l with
            | some (.loop .ready pending2 t2 ps2 a2 b2) => match xset1 x.s l (.loop .busy pending2 t2 ps2 a2 b2) with
              | some s1 => match ofR ((xk E.lf true body).go call x.t s1 x.defers) with
                | some (e, y) => match hp y.s l with
                  | some (.loop .busy _ t3 ps3 a3 b3) =>
                    match xset1 y.s l (.loop (if e = .normal then .ready else .done) e t3 ps3 a3 b3) with
                    | some s2 => some (.bool (decide (e = .normal)), s2)
                    | none => none
                  | _ => none
                | none => none
              | none => none
            | _ => none
          | _ => none
        else none
      | _ => none
def xenter (E : Env) (call : CallFn) (g : Nat) (all : List Value) (s : DS) : Option (Value × DS) :=
  Option.rec (motive := fun _ => Option (Value × DS))
    (XF.rec (motive := fun _ => Option (Value × DS)) none (fun n run res => Bool.rec (motive := fun _ => Option (Value × DS)) none
      (XR.rec (motive := fun _ => Option (Value × DS)) none (fun t s ds => fin res t s ds) (fun t s ds => fin res t s ds) (fun _ _ _ _ => none) (run call (loadA all 0 .nil) s [])) (Nat.ble (lenN all) n)) (xfun E g))
    (fun r => some r) (XI.rec (motive := fun _ => Option (Value × DS)) none (fun F => F all s) (xintr E g))
def xcall (E : Env) (d : Nat) : CallFn := Nat.rec (motive := fun _ => CallFn) (fun _ _ _ => none)
  (fun _ ih f args s => FV.rec (motive := fun _ => Option (Value × DS)) none (fun fn first captured => match fn with | .func g => xenter E ih g (appX first.toList (appR args captured.toList)) s | .yield l => xyield E ih l args s | _ => none) (asF f)) d

theorem fin_eq (l : List DRes) (t : PT Value) (s : DS) (ds : List Nat) : fin (fun t s => dresults t s l) t s ds = (match killAll s ds with
    | some s' => match dresults t s' l with
      | some vs => some (tupled vs, s')
      | none => none
    | none => none) := by
  unfold fin
  rw [xkill_eq]
  cases killAll s ds with
  | none => rfl
  | some s' => show Option.rec (motive := fun _ => Option (Value × DS)) none (fun vs => some (tupled vs, s')) (dresults t s' l) = _; dsimp only; cases dresults t s' l <;> rfl
theorem xfun_eq (E : Env) (g : Nat) : xfun E g = (match E.fn g with | none => .none | some fn => XF.mk fn.ntmps (fun call t s ds => (xk E.lf false fn.body).go call t s ds) (fun t s => dresults t s fn.results)) := by
  unfold xfun
  cases E.fn g with
  | none => rfl
  | some fn =>
    show XK.rec (motive := fun _ => XF) (fun f => Rl.rec (motive := fun _ => XF) (fun r => XF.mk fn.ntmps f r) (rsl fn.results)) (xk E.lf false fn.body) = _
    rw [rsl_eq]
    have key : ∀ k : XK, XK.rec (motive := fun _ => XF) (fun f => XF.mk fn.ntmps f (fun t s => dresults t s fn.results)) k = XF.mk fn.ntmps (fun call t s ds => k.go call t s ds) (fun t s => dresults t s fn.results) := by
      intro k; cases k; rfl
    exact key _
theorem xenter_eq (E : Env) (call : CallFn) (g : Nat) (all : List Value) (s : DS) : xenter E call g all s =
      (match (match E.intr g with | some F => F all s | none => none) with
      | some r => some r
      | none => match E.fn g with
        | none => none
        | some fn =>
          if Nat.ble all.length fn.ntmps then
            match dcode call E.lf false fn.body ⟨argsT all, s, []⟩ with
            | some (.exit _, _) => none
            | some (_, x) => match killAll x.s x.defers with
              | some s' => match dresults x.t s' fn.results with
                | some vs => some (tupled vs, s')
                | none => none
              | none => none
            | none => none
          else none) := by
  have hi : (XI.rec (motive := fun _ => Option (Value × DS)) none (fun F => F all s) (xintr E g)) = (match E.intr g with | some F => F all s | none => none) := by
    unfold xintr
    cases E.intr g <;> rfl
  unfold xenter
  rw [hi]
  cases (match E.intr g with | some F => F all s | none => none) with
  | some r => rfl
  | none =>
    show XF.rec (motive := fun _ => Option (Value × DS)) none _ (xfun E g) = _
    rw [xfun_eq]
    simp only
    cases E.fn g with
    | none => rfl
    | some fn =>
      show Bool.rec (motive := fun _ => Option (Value × DS)) none (XR.rec (motive := fun _ => Option (Value × DS)) none (fun t s ds => fin (fun t s => dresults t s fn.results) t s ds) (fun t s ds => fin (fun t s => dresults t s fn.results) t s ds) (fun _ _ _ _ => none) ((xk E.lf false fn.body).go call (loadA all 0 .nil) s [])) (Nat.ble (lenN all) fn.ntmps) = _
      rw [xk_ok, lenN_eq, loadA_eq, brec_if]
      simp only
      split
      · cases dcode call E.lf false fn.body ⟨argsT all, s, []⟩ with
        | none => rfl
        | some p =>
          obtain ⟨e, x⟩ := p
          cases e with
          | normal => exact fin_eq fn.results _ _ _
          | ret => exact fin_eq fn.results _ _ _
          | exit id => rfl
      · rfl
theorem xyield_eq (E : Env) (call : CallFn) (l : Nat) (args : List Value) (s : DS) : xyield E call l args s =
      (match s.get l with
      | some (.loop st pending t ps assign body) =>
        if Nat.beq ps.length args.length && decide (st = .ready) then
          match dcode call E.lf true assign ⟨setParams t ps args, s, []⟩ with
          | some (.normal, x) => match x.s.get l with
            | some (.loop .ready pending2 t2 ps2 a2 b2) => match x.s.set l (.loop .busy pending2 t2 ps2 a2 b2) with
              | some s1 => match dcode call E.lf true body { x with s := s1 } with
                | some (e, y) => match y.s.get l with
                  | some (.loop .busy _ t3 ps3 a3 b3) =>
                    match y.s.set l (.loop (if e = .normal then .ready else .done) e t3 ps3 a3 b3) with
                    | some s2 => some (.bool (decide (e = .normal)), s2)
                    | none => none
                  | _ => none
                | none => none
              | none => none
            | _ => none
          | _ => none
        else none
      | _ => none) := by
  simp only [xyield, hp_eq, xset1_eq, xk_ok, ofR_toR, setPX_eq]
theorem xcall_eq (E : Env) : ∀ d : Nat, xcall E d = dcall E d
  | 0 => rfl
  | d + 1 => by
    funext f args s
    show FV.rec (motive := fun _ => Option (Value × DS)) none (fun fn first captured => match fn with | .func g => xenter E (xcall E d) g (appX first.toList (appR args captured.toList)) s | .yield l => xyield E (xcall E d) l args s | _ => none) (asF f) = _
    rw [xcall_eq E d, asF_rec]
    cases f with
    | func fn first captured =>
      cases fn with
      | func g =>
        show xenter E (dcall E d) g (appX first.toList (appR args captured.toList)) s = _
        rw [xenter_eq, appX_eq, appR_eq]
        rfl
      | yield l =>
        show xyield E (dcall E d) l args s = _
        rw [xyield_eq]
        rfl
      | _ => rfl
    | _ => rfl
end
end Go.Dx
