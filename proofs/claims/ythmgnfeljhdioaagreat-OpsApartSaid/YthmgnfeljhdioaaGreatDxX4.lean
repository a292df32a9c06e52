/- A part. -/
import Derived.Test.YthmgnfeljhdioaaGreatDxXx
set_option linter.unusedVariables false
set_option linter.unusedSimpArgs false
set_option linter.unusedSectionVars false
namespace Go.Dx
open Go
noncomputable section
inductive XR where
 | bad
 | normal (t : PT Value) (s : DS) (ds : List Nat)
 | ret (t : PT Value) (s : DS) (ds : List Nat)
 | exit (id : Nat) (t : PT Value) (s : DS) (ds : List Nat)
def toR (o : Option (DExit × St)) : XR :=
 match o with
 | none => .bad
 | some (.normal, x) => .normal x.t x.s x.defers
 | some (.ret, x) => .ret x.t x.s x.defers
 | some (.exit id, x) => .exit id x.t x.s x.defers
def ofR (r : XR) : Option (DExit × St) :=
 match r with
 | .bad => none
 | .normal t s ds => some (.normal, ⟨t, s, ds⟩)
 | .ret t s ds => some (.ret, ⟨t, s, ds⟩)
 | .exit id t s ds => some (.exit id, ⟨t, s, ds⟩)
theorem Sh (o : Option (DExit × St)) : ofR (toR o) = o := by
 cases o with
 | none => rfl
 | some p => obtain ⟨e, t, s, ds⟩ := p; cases e <;> rfl
inductive XC where
 | mk (f : zg → List Zc → List Nat → PT Value → DS → XR)
def XC.go (k : XC) (call : zg) (nt : List Zc) (ds : List Nat) (t : PT Value) (s : DS) : XR := XC.rec (motive := fun _ => XR) (fun f => f call nt ds t s) k
inductive Wd where
 | mk (f : Value → PT Value → PT Value)
def wd (d : Option Nat) : Wd := Option.rec (motive := fun _ => Wd) (Wd.mk fun _ t => t) (fun d => Wr.rec (motive := fun _ => Wd) (fun w => Wd.mk fun v t => w (some v) t) (wrs d)) d
theorem Pi (d : Option Nat) : wd d = .mk fun v t => Zn t d v := by
 cases d with
 | none => rfl
 | some d =>
  show Wr.rec (motive := fun _ => Wd) (fun w => Wd.mk fun v t => w (some v) t) (wrs d) = _
  rw [Qe]; rfl
def GV (w : Value → PT Value → PT Value) (o : XOp) (k : XC) : XC :=
 XOp.rec (motive := fun _ => XC)
  (fun f => .mk fun call nt ds t s => XC.rec (motive := fun _ => XR) (fun g => g call nt ds (w (f t) t) s) k)
  (fun f => .mk fun call nt ds t s => Option.rec (motive := fun _ => XR) .bad (fun v => XC.rec (motive := fun _ => XR) (fun g => g call nt ds (w v t) s) k) (f t s))
  (fun f => .mk fun call nt ds t s => Option.rec (motive := fun _ => XR) .bad (fun s' => XC.rec (motive := fun _ => XR) (fun g => g call nt ds (w zl t) s') k) (f t s))
  (fun f => .mk fun call nt ds t s => DS.rec (motive := fun _ => XR) (fun h n v wr => Nat.rec (motive := fun _ => XR) (XC.rec (motive := fun _ => XR) (fun g => g call nt ds (w (.pointer (some ⟨0, 0, none⟩)) t) (DS.mk (Wr.rec (motive := fun _ => PT DObj) (fun z => z (some (f t)) h) (wrs 0)) 1 v wr)) k) (fun n _ => XC.rec (motive := fun _ => XR) (fun g => g call nt ds (w (.pointer (some ⟨Nat.succ n, 0, none⟩)) t) (DS.mk (Wr.rec (motive := fun _ => PT DObj) (fun z => z (some (f t)) h) (wrs (Nat.succ n))) (Nat.succ (Nat.succ n)) v wr)) k) n) s)
  (fun f => .mk fun call nt ds t s => Option.rec (motive := fun _ => XR) .bad (Prod.rec fun v s' => XC.rec (motive := fun _ => XR) (fun g => g call nt ds (w v t) s') k) (f call t s)) o
theorem DK (w : Value → PT Value → PT Value) (o : XOp) (k : XC) (call : zg) (nt : List Zc) (ds : List Nat) (t : PT Value) (s : DS) :
 (GV w o k).go call nt ds t s = (match o.go call t s with | some (v, s') => k.go call nt ds (w v t) s' | none => .bad) := by
 cases o with
 | tot f => rfl
 | val f =>
  show Option.rec (motive := fun _ => XR) .bad (fun v => k.go call nt ds (w v t) s) (f t s) = (match Option.rec (motive := fun _ => Option (Value × DS)) none (fun v => some (v, s)) (f t s) with | some (v, s') => k.go call nt ds (w v t) s' | none => .bad)
  cases f t s <;> rfl
 | eff f =>
  show Option.rec (motive := fun _ => XR) .bad (fun s' => k.go call nt ds (w zl t) s') (f t s) = (match Option.rec (motive := fun _ => Option (Value × DS)) none (fun s' => some (zl, s')) (f t s) with | some (v, s') => k.go call nt ds (w v t) s' | none => .bad)
  cases f t s <;> rfl
 | neu f =>
  obtain ⟨h, n, v, wr⟩ := s
  cases n <;> rfl
 | act f =>
  show Option.rec (motive := fun _ => XR) .bad (Prod.rec fun v s' => k.go call nt ds (w v t) s') (f call t s) = (match f call t s with | some (v, s') => k.go call nt ds (w v t) s' | none => .bad)
  cases f call t s with
  | none => rfl
  | some p => rfl
def Px (op : DOp) (w : Value → PT Value → PT Value) (o : XOp) (k : XC) : XC :=
 .mk fun call nt ds t s => Option.rec (motive := fun _ => XR) .bad (Prod.rec fun v s' => k.go call (nt ++ [⟨foot (ev t) s op, s.next, s'.next⟩]) ds (w v t) s') (o.go call t s)
def PX (haz : List Nat) (note : Bool) (op : DOp) (w : Value → PT Value → PT Value) (o : XOp) (k : XC) : XC :=
 .mk fun call nt ds t s => Option.rec (motive := fun _ => XR) .bad (Prod.rec fun v s' => k.go call (_root_.cond note (nt ++ [⟨foot (ev t) s op, s.next, s'.next⟩]) nt) ds (w v t) { s' with vis := s.vis, wr := s.wr })
  (o.go call t { s with vis := fun k => s.vis k && !hidden nt haz k, wr := fun k => s.wr k && !hidden nt haz k && !shielded nt haz k })
def Kh (want : Bool) (o : Option Value) : Bool := Option.rec (motive := fun _ => Bool) false (fun v => BV.rec (motive := fun _ => Bool) false (fun b => Bool.rec (motive := fun _ => Bool) (Bool.rec (motive := fun _ => Bool) true false b) b want) (asB v)) o
def Fd (note : Bool) (w : Value → PT Value → PT Value) (p k : XC) (want : Bool) (f : PT Value → Option Value) : XC :=
 Bool.rec (motive := fun _ => XC)
  (.mk fun call nt ds t s => Bool.rec (motive := fun _ => XR) (XC.rec (motive := fun _ => XR) (fun h => h call nt ds (w zl t) s) k) (XC.rec (motive := fun _ => XR) (fun h => h call nt ds t s) p) (Kh want (f t)))
  (.mk fun call nt ds t s => Bool.rec (motive := fun _ => XR) (XC.rec (motive := fun _ => XR) (fun h => h call (nt ++ [⟨[], s.next, s.next⟩]) ds (w zl t) s) k) (XC.rec (motive := fun _ => XR) (fun h => h call nt ds t s) p) (Kh want (f t))) note
def JJ (g : Option (Nat × Bool)) (note : Bool) (w : Value → PT Value → PT Value) (p k : XC) : XC :=
 Option.rec (motive := fun _ => XC) p (Prod.rec (motive := fun _ => XC) fun i want => Rdx.rec (motive := fun _ => XC) (fun f => Fd note w p k want f) (rdx i)) g
theorem DR (g : Option (Nat × Bool)) (note : Bool) (w : Value → PT Value → PT Value) (p k : XC) (call : zg) (nt : List Zc) (ds : List Nat) (t : PT Value) (s : DS) :
 (JJ g note w p k).go call nt ds t s = if zr t g then p.go call nt ds t s else k.go call (if note then nt ++ [⟨[], s.next, s.next⟩] else nt) ds (w zl t) s := by
 cases g with
 | none => rfl
 | some q =>
  obtain ⟨i, want⟩ := q
  have hw : Kh want (t.get i) = zr t (some (i, want)) := by
   simp only [zr, Kh]
   generalize t.get i = o
   cases o with
   | none => rfl
   | some v =>
    show BV.rec (motive := fun _ => Bool) false _ (asB v) = _
    rw [Q6]
    cases v <;> first | rfl | (rename_i b; cases b <;> cases want <;> rfl)
  have : JJ (some (i, want)) note w p k = Fd note w p k want fun t => t.get i := by
   show Rdx.rec (motive := fun _ => XC) (fun f => Fd note w p k want f) (rdx i) = _
   rw [Js]
  rw [this]
  cases note with
  | false =>
   show Bool.rec (motive := fun _ => XR) (k.go call nt ds (w zl t) s) (p.go call nt ds t s) (Kh want (t.get i)) = _
   rw [hw]
   cases zr t (some (i, want)) <;> rfl
  | true =>
   show Bool.rec (motive := fun _ => XR) (k.go call (nt ++ [⟨[], s.next, s.next⟩]) ds (w zl t) s) (p.go call nt ds t s) (Kh want (t.get i)) = _
   rw [hw]
   cases zr t (some (i, want)) <;> rfl
def F5 (o : zw) (w : Value → PT Value → PT Value) (k : XC) : XC :=
 match o.haz with
 | [] => Bool.rec (motive := fun _ => XC) (GV w (xop o.op) k) (Px o.op w (xop o.op) k) o.note
 | h :: r => PX (h :: r) o.note o.op w (xop o.op) k
def Pn (o : zw) (k : XC) : XC := Wd.rec (motive := fun _ => XC) (fun w => JJ o.guard o.note w (F5 o w k) k) (wd o.dst)
def Ws (l : List zw) : XC := List.rec (motive := fun _ => XC) (.mk fun call nt ds t s => .normal t s ds) (fun o _ ih => Pn o ih) l
def PY (ds : List Nat) (o : Option (PT Value × DS)) : XR := match o with | some (t, s) => .normal t s ds | none => .bad
theorem XM : ∀ (l : List zw) (call : zg) (nt : List Zc) (ds : List Nat) (t : PT Value) (s : DS), (Ws l).go call nt ds t s = PY ds (ZD call l nt t s)
 | [], _, _, _, _, _ => rfl
 | o :: l, call, nt, ds, t, s => by
  show (Wd.rec (motive := fun _ => XC) (fun w => JJ o.guard o.note w (F5 o w (Ws l)) (Ws l)) (wd o.dst)).go call nt ds t s = _
  rw [Pi]
  show (JJ o.guard o.note (fun v t => Zn t o.dst v) (F5 o (fun v t => Zn t o.dst v) (Ws l)) (Ws l)).go call nt ds t s = _
  rw [DR]
  simp only [ZD]
  cases hg : zr t o.guard with
  | false =>
   simp only [z3, if_false]
   exact XM l _ _ _ _ _
  | true =>
   simp only [if_true]
   unfold F5
   cases hz : o.haz with
   | nil =>
    simp only
    cases hn : o.note with
    | false =>
     show (GV _ _ _).go call nt ds t s = _
     rw [DK, GJ]
     cases dop call (ev t) s o.op with
     | none => rfl
     | some p => obtain ⟨v, s'⟩ := p; exact XM l _ _ _ _ _
    | true =>
     show Option.rec (motive := fun _ => XR) .bad (Prod.rec fun v s' => (Ws l).go call (nt ++ [⟨foot (ev t) s o.op, s.next, s'.next⟩]) ds (Zn t o.dst v) s') ((xop o.op).go call t s) = _
     rw [GJ]
     cases dop call (ev t) s o.op with
     | none => rfl
     | some p => obtain ⟨v, s'⟩ := p; exact XM l _ _ _ _ _
   | cons h r =>
    simp only
    show Option.rec (motive := fun _ => XR) .bad (Prod.rec fun v s' => (Ws l).go call (_root_.cond o.note (nt ++ [⟨foot (ev t) s o.op, s.next, s'.next⟩]) nt) ds (Zn t o.dst v) { s' with vis := s.vis, wr := s.wr })
     ((xop o.op).go call t { s with vis := fun k => s.vis k && !hidden nt (h :: r) k, wr := fun k => s.wr k && !hidden nt (h :: r) k && !shielded nt (h :: r) k }) = _
    rw [GJ]
    cases dop call (ev t) { s with vis := fun k => s.vis k && !hidden nt (h :: r) k, wr := fun k => s.wr k && !hidden nt (h :: r) k && !shielded nt (h :: r) k } o.op with
    | none => rfl
    | some p =>
     obtain ⟨v, s'⟩ := p
     show (Ws l).go call _ ds _ _ = _
     rw [SG]
     exact XM l _ _ _ _ _
inductive XK where
 | mk (f : zg → PT Value → DS → List Nat → XR)
def XK.go (k : XK) (call : zg) (t : PT Value) (s : DS) (ds : List Nat) : XR := XK.rec (motive := fun _ => XR) (fun f => f call t s ds) k
def Vt (s : DS) (k : Nat) (o : DObj) : Option DS := JM (fun k => Cb s k o) k
theorem Vs (s : DS) (k : Nat) (o : DObj) : Vt s k o = s.set k o := by
 unfold Vt
 rw [Wg, KQ]
def drf (call : zg) (f : Operand) (params : List Nat) (assign body : DCode) (x : St) : Option (DExit × St) :=
 match ev x.t f with
 | .func (.func _) _ _ =>
  let s1 := x.s.new .dfr
  let s2 := s1.new (.loop .ready .normal x.t params assign body)
  match call (ev x.t f) [.func (.yield s1.next) #[] #[]] s2 with
  | some (_, s3) => match s3.get s1.next with
   | some (.loop st pending t ps a b) =>
    if st = .ready ∨ st = .done then
     match s3.set s1.next (.loop .exhausted pending t ps a b) with
     | some s4 => some (pending, { x with s := s4, defers := x.s.next :: x.defers })
     | none => none
    else none
   | _ => none
  | none => none
 | _ => none
def xrf (call : zg) (f : Operand) (params : List Nat) (assign body : DCode) (x : St) : Option (DExit × St) :=
 match ev x.t f with
 | .func (.func _) _ _ =>
  let s1 := QR x.s .dfr
  let s2 := QR s1 (.loop .ready .normal x.t params assign body)
  match call (ev x.t f) [.func (.yield s1.next) #[] #[]] s2 with
  | some (_, s3) => match hp s3 s1.next with
   | some (.loop st pending t ps a b) =>
    if st = .ready ∨ st = .done then
     match Vt s3 s1.next (.loop .exhausted pending t ps a b) with
     | some s4 => some (pending, { x with s := s4, defers := x.s.next :: x.defers })
     | none => none
    else none
   | _ => none
  | none => none
 | _ => none
theorem RO (call : zg) (f : Operand) (params : List Nat) (assign body : DCode) (x : St) : xrf call f params assign body x = drf call f params assign body x := by
 simp only [xrf, drf, Y9, JF, Vs]
def xk (lf : Nat) (inRound : Bool) (c : DCode) : XK :=
 DCode.rec (motive := fun _ => XK)
  (.mk fun call t s ds => .normal t s ds)
  (.mk fun call t s ds => .ret t s ds)
  (fun id => .mk fun call t s ds => .exit id t s ds)
  (fun ops => .mk fun call t s ds => XC.rec (motive := fun _ => XR) (fun f => f call [] ds t s) (Ws ops))
  (fun a b iha ihb => .mk fun call t s ds => XR.rec (motive := fun _ => XR) .bad (fun t s ds => XK.rec (motive := fun _ => XR) (fun f => f call t s ds) ihb) (fun t s ds => .ret t s ds) (fun id t s ds => .exit id t s ds)
   (XK.rec (motive := fun _ => XR) (fun f => f call t s ds) iha))
  (fun c a b iha ihb => Rd.rec (motive := fun _ => XK) (fun r => .mk fun call t s ds => BV.rec (motive := fun _ => XR) .bad (fun v => XK.rec (motive := fun _ => XR) (fun f => f call t s ds) (Bool.rec (motive := fun _ => XK) ihb iha v)) (asB (r t))) (rd c))
  (fun id b ih => .mk fun call t s ds => XR.rec (motive := fun _ => XR) .bad (fun t s ds => .normal t s ds) (fun t s ds => .ret t s ds)
   (fun j t s ds => Bool.rec (motive := fun _ => XR) (.exit j t s ds) (.normal t s ds) (Nat.beq j id)) (XK.rec (motive := fun _ => XR) (fun f => f call t s ds) ih))
  (fun b ih => .mk fun call t s ds => Nat.rec (motive := fun _ => PT Value → DS → List Nat → XR) (fun _ _ _ => .bad)
   (fun _ again t s ds => XR.rec (motive := fun _ => XR) .bad again (fun t s ds => .ret t s ds) (fun id t s ds => .exit id t s ds) (XK.rec (motive := fun _ => XR) (fun f => f call t s ds) ih)) lf t s ds)
  (fun f ps a b iha ihb => Bool.rec (motive := fun _ => XK) (.mk fun call t s ds => toR (xrf call f ps a b ⟨t, s, ds⟩)) (.mk fun call t s ds => .bad) inRound)
  (.mk fun call t s ds => .bad) c
theorem SV (lf : Nat) (inRound : Bool) (call : zg) : ∀ (c : DCode) (t : PT Value) (s : DS) (ds : List Nat), (xk lf inRound c).go call t s ds = toR (zo call lf inRound c ⟨t, s, ds⟩) := by
 intro c
 induction c with
 | skip => intro t s ds; rfl
 | ret => intro t s ds; rfl
 | exit id => intro t s ds; rfl
 | region ops =>
  intro t s ds
  show (Ws ops).go call [] ds t s = _
  rw [XM]
  simp only [zo]
  cases ZD call ops [] t s with
  | none => rfl
  | some p => rfl
 | seq a b iha ihb =>
  intro t s ds
  show XR.rec (motive := fun _ => XR) .bad (fun t s ds => (xk lf inRound b).go call t s ds) (fun t s ds => .ret t s ds) (fun id t s ds => .exit id t s ds) ((xk lf inRound a).go call t s ds) = _
  rw [iha]
  simp only [zo]
  cases zo call lf inRound a ⟨t, s, ds⟩ with
  | none => rfl
  | some p => obtain ⟨e, y⟩ := p; cases e <;> first | rfl | exact ihb _ _ _
 | cond c a b iha ihb =>
  intro t s ds
  show (Rd.rec (motive := fun _ => XK) (fun r => .mk fun call t s ds => BV.rec (motive := fun _ => XR) .bad (fun v => XK.rec (motive := fun _ => XR) (fun f => f call t s ds) (Bool.rec (motive := fun _ => XK) (xk lf inRound b) (xk lf inRound a) v)) (asB (r t))) (rd c)).go call t s ds = _
  rw [FE]
  show BV.rec (motive := fun _ => XR) .bad (fun v => (Bool.rec (motive := fun _ => XK) (xk lf inRound b) (xk lf inRound a) v).go call t s ds) (asB (ev t c)) = _
  rw [Q6]
  simp only [zo]
  cases ev t c with
  | bool v =>
   cases v with
   | false => exact ihb _ _ _
   | true => exact iha _ _ _
  | _ => rfl
 | block id b ih =>
  intro t s ds
  show XR.rec (motive := fun _ => XR) .bad (fun t s ds => .normal t s ds) (fun t s ds => .ret t s ds) (fun j t s ds => Bool.rec (motive := fun _ => XR) (.exit j t s ds) (.normal t s ds) (Nat.beq j id)) ((xk lf inRound b).go call t s ds) = _
  rw [ih]
  simp only [zo]
  cases zo call lf inRound b ⟨t, s, ds⟩ with
  | none => rfl
  | some p =>
   obtain ⟨e, y⟩ := p
   cases e with
   | exit j =>
    show Bool.rec (motive := fun _ => XR) (.exit j y.t y.s y.defers) (XR.normal y.t y.s y.defers) (Nat.beq j id) = toR (if j = id then some (.normal, y) else some (.exit j, y))
    by_cases h : j = id
    · rw [if_pos h, h, Nat.beq_refl]; rfl
    · rw [if_neg h]
      have : Nat.beq j id = false := by
       cases hb : Nat.beq j id with
       | false => rfl
       | true => exact absurd (Nat.eq_of_beq_eq_true hb) h
      rw [this]; rfl
   | _ => rfl
 | loop b ih =>
  intro t s ds
  have key : ∀ (n : Nat) (t : PT Value) (s : DS) (ds : List Nat), Nat.rec (motive := fun _ => PT Value → DS → List Nat → XR) (fun _ _ _ => .bad)
   (fun _ again t s ds => XR.rec (motive := fun _ => XR) .bad again (fun t s ds => .ret t s ds) (fun id t s ds => .exit id t s ds) ((xk lf inRound b).go call t s ds)) n t s ds = toR (YK (zo call lf inRound b) n ⟨t, s, ds⟩) := by
   intro n
   induction n with
   | zero => intro t s ds; rfl
   | succ n ihn =>
    intro t s ds
    show XR.rec (motive := fun _ => XR) .bad _ _ _ ((xk lf inRound b).go call t s ds) = _
    rw [ih]
    simp only [YK]
    cases zo call lf inRound b ⟨t, s, ds⟩ with
    | none => rfl
    | some p => obtain ⟨e, y⟩ := p; cases e <;> first | rfl | exact ihn _ _ _
  exact key lf t s ds
 | rangeFunc f ps a b iha ihb =>
  intro t s ds
  cases inRound with
  | true => rfl
  | false =>
   show toR (xrf call f ps a b ⟨t, s, ds⟩) = _
   rw [RO]
   rfl
 | bad => intro t s ds; rfl
inductive Rl where
 | mk (f : PT Value → DS → Option (List Value))
def Ps (r : DRes) (g : PT Value → DS → Option (List Value)) : Rl :=
 DRes.rec (motive := fun _ => Rl) (fun i => Rdx.rec (motive := fun _ => Rl) (fun f => .mk fun t s => Option.rec (motive := fun _ => Option (List Value)) none (fun l => some (orU (f t) :: l)) (g t s)) (rdx i))
  (fun a agg => .mk fun t s => Option.rec (motive := fun _ => Option (List Value)) none (fun v => Option.rec (motive := fun _ => Option (List Value)) none (fun l => some (v :: l)) (g t s)) (zi (ev t) s (.ld agg (.tmp a)))) r
def rsl (l : List DRes) : Rl :=
 List.rec (motive := fun _ => Rl) (.mk fun _ _ => some []) (fun r _ ih => Rl.rec (motive := fun _ => Rl) (fun g => Ps r g) ih) l
theorem CD : ∀ l : List DRes, rsl l = .mk fun t s => ze t s l
 | [] => rfl
 | r :: l => by
  show Rl.rec (motive := fun _ => Rl) (fun g => Ps r g) (rsl l) = _
  rw [CD l]
  cases r with
  | tmp i =>
   show Rdx.rec (motive := fun _ => Rl) (fun f => .mk fun t s => Option.rec (motive := fun _ => Option (List Value)) none (fun l => some (orU (f t) :: l)) (ze t s l)) (rdx i) = _
   rw [Js]
   refine congrArg Rl.mk (funext fun t => funext fun s => ?_)
   show Option.rec (motive := fun _ => Option (List Value)) none (fun l => some (orU (t.get i) :: l)) (ze t s l) = (match ze t s l with | some l => some ((t.get i).getD zl :: l) | none => none)
   cases ze t s l with
   | none => rfl
   | some l => cases t.get i <;> rfl
  | cell a agg =>
   refine congrArg Rl.mk (funext fun t => funext fun s => ?_)
   show Option.rec (motive := fun _ => Option (List Value)) none (fun v => Option.rec (motive := fun _ => Option (List Value)) none (fun l => some (v :: l)) (ze t s l)) (zi (ev t) s (.ld agg (.tmp a))) = (match zi (ev t) s (.ld agg (.tmp a)), ze t s l with | some v, some l => some (v :: l) | _, _ => none)
   cases zi (ev t) s (.ld agg (.tmp a)) with
   | none => rfl
   | some v =>
    dsimp only
    cases ze t s l <;> rfl
def SU (s : DS) (ds : List Nat) : Option DS := List.rec (motive := fun _ => Option DS) (some s) (fun _ _ _ => zR s ds) ds
theorem Cc (s : DS) (ds : List Nat) : SU s ds = zR s ds := by cases ds <;> rfl
def fin (g : PT Value → DS → Option (List Value)) (t : PT Value) (s : DS) (ds : List Nat) : Option (Value × DS) :=
 Option.rec (motive := fun _ => Option (Value × DS)) none (fun s' => Option.rec (motive := fun _ => Option (Value × DS)) none (fun vs => some (zh vs, s')) (g t s')) (SU s ds)
def VZ (l : List Value) : Nat → PT Value → PT Value := List.rec (motive := fun _ => Nat → PT Value → PT Value) (fun _ t => t) (fun x _ ih i t => ih (Nat.succ i) (Wr.rec (motive := fun _ => PT Value) (fun w => w (some x) t) (wrs i))) l
theorem CV (l : List Value) : VZ l 0 .nil = Xs l := by
 have key : ∀ (l : List Value) (p : Nat × PT Value), VZ l p.1 p.2 = (l.foldl (fun (p : Nat × PT Value) x => (p.1 + 1, p.2.put p.1 (some x))) p).2 := by
  intro l
  induction l with
  | nil => intro p; rfl
  | cons x l ih =>
   intro p
   show VZ l (p.1 + 1) (Wr.rec (motive := fun _ => PT Value) (fun w => w (some x) p.2) (wrs p.1)) = _
   rw [Qe]
   exact ih (p.1 + 1, p.2.put p.1 (some x))
 exact key l (0, .nil)
inductive XF where
 | none
 | mk (n : Nat) (run : zg → PT Value → DS → List Nat → XR) (res : PT Value → DS → Option (List Value))
def TZ (E : Env) (g : Nat) : XF :=
 Option.rec (motive := fun _ => XF) .none (fun fn => XK.rec (motive := fun _ => XF) (fun f => Rl.rec (motive := fun _ => XF) (fun r => XF.mk fn.ntmps f r) (rsl fn.results)) (xk E.lf false fn.body)) (E.fn g)
inductive XI where
 | none
 | mk (f : List Value → DS → Option (Value × DS))
def Cd (E : Env) (g : Nat) : XI := Option.rec (motive := fun _ => XI) .none (fun f => .mk f) (E.intr g)
def Cr (ps : List Nat) : List Value → PT Value → PT Value :=
 List.rec (motive := fun _ => List Value → PT Value → PT Value) (fun _ t => t)
  (fun p _ ih vs t => List.rec (motive := fun _ => PT Value) t (fun v vs _ => ih vs (Wr.rec (motive := fun _ => PT Value) (fun w => w (some v) t) (wrs p))) vs) ps
theorem VC : ∀ (ps : List Nat) (vs : List Value) (t : PT Value), Cr ps vs t = zW t ps vs
 | [], vs, t => by cases vs <;> rfl
 | p :: ps, [], t => rfl
 | p :: ps, v :: vs, t => by
  show Cr ps vs (Wr.rec (motive := fun _ => PT Value) (fun w => w (some v) t) (wrs p)) = zW (t.put p (some v)) ps vs
  rw [Qe]
  exact VC ps vs _
def Jb (E : Env) (call : zg) (l : Nat) (args : List Value) (s : DS) : Option (Value × DS) :=
 match hp s l with
 | some (.loop st pending t ps assign body) =>
  if Nat.beq ps.length args.length && decide (st = .ready) then
   match ofR ((xk E.lf true assign).go call (Cr ps args t) s []) with
   | some (.normal, x) => match hp x.s l with
    | some (.loop .ready pending2 t2 ps2 a2 b2) => match Vt x.s l (.loop .busy pending2 t2 ps2 a2 b2) with
     | some s1 => match ofR ((xk E.lf true body).go call x.t s1 x.defers) with
      | some (e, y) => match hp y.s l with
       | some (.loop .busy _ t3 ps3 a3 b3) =>
        match Vt y.s l (.loop (if e = .normal then .ready else .done) e t3 ps3 a3 b3) with
        | some s2 => some (.bool (decide (e = .normal)), s2)
        | none => none
       | _ => none
      | none => none
     | none => none
    | _ => none
   | _ => none
  else none
 | _ => none
def Jd (E : Env) (call : zg) (g : Nat) (all : List Value) (s : DS) : Option (Value × DS) :=
 Option.rec (motive := fun _ => Option (Value × DS))
  (XF.rec (motive := fun _ => Option (Value × DS)) none (fun n run res => Bool.rec (motive := fun _ => Option (Value × DS)) none
   (XR.rec (motive := fun _ => Option (Value × DS)) none (fun t s ds => fin res t s ds) (fun t s ds => fin res t s ds) (fun _ _ _ _ => none) (run call (VZ all 0 .nil) s [])) (Nat.ble (QS all) n)) (TZ E g))
  (fun r => some r) (XI.rec (motive := fun _ => Option (Value × DS)) none (fun F => F all s) (Cd E g))
def Vv (E : Env) (d : Nat) : zg := Nat.rec (motive := fun _ => zg) (fun _ _ _ => none)
 (fun _ ih f args s => FV.rec (motive := fun _ => Option (Value × DS)) none (fun fn first captured => match fn with | .func g => Jd E ih g (D6 first.toList (SN args captured.toList)) s | .yield l => Jb E ih l args s | _ => none) (asF f)) d
theorem C9 (l : List DRes) (t : PT Value) (s : DS) (ds : List Nat) : fin (fun t s => ze t s l) t s ds = (match zR s ds with
 | some s' => match ze t s' l with
  | some vs => some (zh vs, s')
  | none => none
 | none => none) := by
 unfold fin
 rw [Cc]
 cases zR s ds with
 | none => rfl
 | some s' => show Option.rec (motive := fun _ => Option (Value × DS)) none (fun vs => some (zh vs, s')) (ze t s' l) = _; dsimp only; cases ze t s' l <;> rfl
theorem TY (E : Env) (g : Nat) : TZ E g = (match E.fn g with | none => .none | some fn => XF.mk fn.ntmps (fun call t s ds => (xk E.lf false fn.body).go call t s ds) (fun t s => ze t s fn.results)) := by
 unfold TZ
 cases E.fn g with
 | none => rfl
 | some fn =>
  show XK.rec (motive := fun _ => XF) (fun f => Rl.rec (motive := fun _ => XF) (fun r => XF.mk fn.ntmps f r) (rsl fn.results)) (xk E.lf false fn.body) = _
  rw [CD]
  have key : ∀ k : XK, XK.rec (motive := fun _ => XF) (fun f => XF.mk fn.ntmps f (fun t s => ze t s fn.results)) k = XF.mk fn.ntmps (fun call t s ds => k.go call t s ds) (fun t s => ze t s fn.results) := by
   intro k; cases k; rfl
  exact key _
theorem Dv (E : Env) (call : zg) (g : Nat) (all : List Value) (s : DS) : Jd E call g all s =
 (match (match E.intr g with | some F => F all s | none => none) with
 | some r => some r
 | none => match E.fn g with
  | none => none
  | some fn =>
   if Nat.ble all.length fn.ntmps then
    match zo call E.lf false fn.body ⟨Xs all, s, []⟩ with
    | some (.exit _, _) => none
    | some (_, x) => match zR x.s x.defers with
     | some s' => match ze x.t s' fn.results with
      | some vs => some (zh vs, s')
      | none => none
     | none => none
    | none => none
   else none) := by
 have hi : (XI.rec (motive := fun _ => Option (Value × DS)) none (fun F => F all s) (Cd E g)) = (match E.intr g with | some F => F all s | none => none) := by
  unfold Cd
  cases E.intr g <;> rfl
 unfold Jd
 rw [hi]
 cases (match E.intr g with | some F => F all s | none => none) with
 | some r => rfl
 | none =>
  show XF.rec (motive := fun _ => Option (Value × DS)) none _ (TZ E g) = _
  rw [TY]
  simp only
  cases E.fn g with
  | none => rfl
  | some fn =>
   show Bool.rec (motive := fun _ => Option (Value × DS)) none (XR.rec (motive := fun _ => Option (Value × DS)) none (fun t s ds => fin (fun t s => ze t s fn.results) t s ds) (fun t s ds => fin (fun t s => ze t s fn.results) t s ds) (fun _ _ _ _ => none) ((xk E.lf false fn.body).go call (VZ all 0 .nil) s [])) (Nat.ble (QS all) fn.ntmps) = _
   rw [SV, Yo, CV, Xm]
   simp only
   split
   · cases zo call E.lf false fn.body ⟨Xs all, s, []⟩ with
     | none => rfl
     | some p =>
      obtain ⟨e, x⟩ := p
      cases e with
      | normal => exact C9 fn.results _ _ _
      | ret => exact C9 fn.results _ _ _
      | exit id => rfl
   · rfl
theorem Du (E : Env) (call : zg) (l : Nat) (args : List Value) (s : DS) : Jb E call l args s =
 (match s.get l with
 | some (.loop st pending t ps assign body) =>
  if Nat.beq ps.length args.length && decide (st = .ready) then
   match zo call E.lf true assign ⟨zW t ps args, s, []⟩ with
   | some (.normal, x) => match x.s.get l with
    | some (.loop .ready pending2 t2 ps2 a2 b2) => match x.s.set l (.loop .busy pending2 t2 ps2 a2 b2) with
     | some s1 => match zo call E.lf true body { x with s := s1 } with
      | some (e, y) => match y.s.get l with
       | some (.loop .busy _ t3 ps3 a3 b3) =>
        match y.s.set l (.loop (if e = .normal then .ready else .done) e t3 ps3 a3 b3) with
        | some s2 => some (.bool (decide (e = .normal)), s2)
        | none => none
       | _ => none
      | none => none
     | none => none
    | _ => none
   | _ => none
  else none
 | _ => none) := by
 simp only [Jb, JF, Vs, SV, Sh, VC]
theorem Vu (E : Env) : ∀ d : Nat, Vv E d = dcall E d
 | 0 => rfl
 | d + 1 => by
  funext f args s
  show FV.rec (motive := fun _ => Option (Value × DS)) none (fun fn first captured => match fn with | .func g => Jd E (Vv E d) g (D6 first.toList (SN args captured.toList)) s | .yield l => Jb E (Vv E d) l args s | _ => none) (asF f) = _
  rw [Vu E d, SL]
  cases f with
  | func fn first captured =>
   cases fn with
   | func g =>
    show Jd E (dcall E d) g (D6 first.toList (SN args captured.toList)) s = _
    rw [Dv, Da, SM]
    rfl
   | yield l =>
    show Jb E (dcall E d) l args s = _
    rw [Du]
    rfl
   | _ => rfl
  | _ => rfl
end
end Go.Dx
