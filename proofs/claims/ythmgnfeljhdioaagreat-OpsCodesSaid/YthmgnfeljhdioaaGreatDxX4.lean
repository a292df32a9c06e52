/- A part. -/
import Derived.Test.YthmgnfeljhdioaaGreatDxXx
set_option linter.unusedVariables false
set_option linter.unusedSimpArgs false
set_option linter.unusedSectionVars false
namespace Go.Dx
open Go
noncomputable section
inductive XR where
 | bad
 | normal (t : PT Value) (s : DS) (ds : List Nat)
 | ret (t : PT Value) (s : DS) (ds : List Nat)
 | exit (id : Nat) (t : PT Value) (s : DS) (ds : List Nat)
def toR (o : Option (DExit × St)) : XR :=
 match o with
 | none => .bad
 | some (.normal, x) => .normal x.t x.s x.defers
 | some (.ret, x) => .ret x.t x.s x.defers
 | some (.exit id, x) => .exit id x.t x.s x.defers
def ofR (r : XR) : Option (DExit × St) :=
 match r with
 | .bad => none
 | .normal t s ds => some (.normal, ⟨t, s, ds⟩)
 | .ret t s ds => some (.ret, ⟨t, s, ds⟩)
 | .exit id t s ds => some (.exit id, ⟨t, s, ds⟩)
theorem Nc (o : Option (DExit × St)) : ofR (toR o) = o := by
 cases o with
 | none => rfl
 | some p => obtain ⟨e, t, s, ds⟩ := p; cases e <;> rfl
inductive XC where
 | mk (f : zn → List Zw → List Nat → PT Value → DS → XR)
def XC.go (k : XC) (call : zn) (nt : List Zw) (ds : List Nat) (t : PT Value) (s : DS) : XR := XC.rec (motive := fun _ => XR) (fun f => f call nt ds t s) k
inductive Wd where
 | mk (f : Value → PT Value → PT Value)
def wd (d : Option Nat) : Wd := Option.rec (motive := fun _ => Wd) (Wd.mk fun _ t => t) (fun d => Wr.rec (motive := fun _ => Wd) (fun w => Wd.mk fun v t => w (some v) t) (wrs d)) d
theorem Lb (d : Option Nat) : wd d = .mk fun v t => ZJ t d v := by
 cases d with
 | none => rfl
 | some d =>
  show Wr.rec (motive := fun _ => Wd) (fun w => Wd.mk fun v t => w (some v) t) (wrs d) = _
  rw [Jc]; rfl
def DL (w : Value → PT Value → PT Value) (o : XOp) (k : XC) : XC :=
 XOp.rec (motive := fun _ => XC)
  (fun f => .mk fun call nt ds t s => XC.rec (motive := fun _ => XR) (fun g => g call nt ds (w (f t) t) s) k)
  (fun f => .mk fun call nt ds t s => Option.rec (motive := fun _ => XR) .bad (fun v => XC.rec (motive := fun _ => XR) (fun g => g call nt ds (w v t) s) k) (f t s))
  (fun f => .mk fun call nt ds t s => Option.rec (motive := fun _ => XR) .bad (fun s' => XC.rec (motive := fun _ => XR) (fun g => g call nt ds (w zv t) s') k) (f t s))
  (fun f => .mk fun call nt ds t s => DS.rec (motive := fun _ => XR) (fun h n v wr => Nat.rec (motive := fun _ => XR) (XC.rec (motive := fun _ => XR) (fun g => g call nt ds (w (.pointer (some ⟨0, 0, none⟩)) t) (DS.mk (Wr.rec (motive := fun _ => PT DObj) (fun z => z (some (f t)) h) (wrs 0)) 1 v wr)) k) (fun n _ => XC.rec (motive := fun _ => XR) (fun g => g call nt ds (w (.pointer (some ⟨Nat.succ n, 0, none⟩)) t) (DS.mk (Wr.rec (motive := fun _ => PT DObj) (fun z => z (some (f t)) h) (wrs (Nat.succ n))) (Nat.succ (Nat.succ n)) v wr)) k) n) s)
  (fun f => .mk fun call nt ds t s => Option.rec (motive := fun _ => XR) .bad (Prod.rec fun v s' => XC.rec (motive := fun _ => XR) (fun g => g call nt ds (w v t) s') k) (f call t s)) o
theorem TW (w : Value → PT Value → PT Value) (o : XOp) (k : XC) (call : zn) (nt : List Zw) (ds : List Nat) (t : PT Value) (s : DS) :
 (DL w o k).go call nt ds t s = (match o.go call t s with | some (v, s') => k.go call nt ds (w v t) s' | none => .bad) := by
 cases o with
 | tot f => rfl
 | val f =>
  show Option.rec (motive := fun _ => XR) .bad (fun v => k.go call nt ds (w v t) s) (f t s) = (match Option.rec (motive := fun _ => Option (Value × DS)) none (fun v => some (v, s)) (f t s) with | some (v, s') => k.go call nt ds (w v t) s' | none => .bad)
  cases f t s <;> rfl
 | eff f =>
  show Option.rec (motive := fun _ => XR) .bad (fun s' => k.go call nt ds (w zv t) s') (f t s) = (match Option.rec (motive := fun _ => Option (Value × DS)) none (fun s' => some (zv, s')) (f t s) with | some (v, s') => k.go call nt ds (w v t) s' | none => .bad)
  cases f t s <;> rfl
 | neu f =>
  obtain ⟨h, n, v, wr⟩ := s
  cases n <;> rfl
 | act f =>
  show Option.rec (motive := fun _ => XR) .bad (Prod.rec fun v s' => k.go call nt ds (w v t) s') (f call t s) = (match f call t s with | some (v, s') => k.go call nt ds (w v t) s' | none => .bad)
  cases f call t s with
  | none => rfl
  | some p => rfl
def Lr (op : DOp) (w : Value → PT Value → PT Value) (o : XOp) (k : XC) : XC :=
 .mk fun call nt ds t s => Option.rec (motive := fun _ => XR) .bad (Prod.rec fun v s' => k.go call (nt ++ [⟨foot (ev t) s op, s.next, s'.next⟩]) ds (w v t) s') (o.go call t s)
def LQ (haz : List Nat) (note : Bool) (op : DOp) (w : Value → PT Value → PT Value) (o : XOp) (k : XC) : XC :=
 .mk fun call nt ds t s => Option.rec (motive := fun _ => XR) .bad (Prod.rec fun v s' => k.go call (_root_.cond note (nt ++ [⟨foot (ev t) s op, s.next, s'.next⟩]) nt) ds (w v t) { s' with vis := s.vis, wr := s.wr })
  (o.go call t { s with vis := fun k => s.vis k && !hidden nt haz k, wr := fun k => s.wr k && !hidden nt haz k && !shielded nt haz k })
def Vn (want : Bool) (o : Option Value) : Bool := Option.rec (motive := fun _ => Bool) false (fun v => BV.rec (motive := fun _ => Bool) false (fun b => Bool.rec (motive := fun _ => Bool) (Bool.rec (motive := fun _ => Bool) true false b) b want) (asB v)) o
def D4 (note : Bool) (w : Value → PT Value → PT Value) (p k : XC) (want : Bool) (f : PT Value → Option Value) : XC :=
 Bool.rec (motive := fun _ => XC)
  (.mk fun call nt ds t s => Bool.rec (motive := fun _ => XR) (XC.rec (motive := fun _ => XR) (fun h => h call nt ds (w zv t) s) k) (XC.rec (motive := fun _ => XR) (fun h => h call nt ds t s) p) (Vn want (f t)))
  (.mk fun call nt ds t s => Bool.rec (motive := fun _ => XR) (XC.rec (motive := fun _ => XR) (fun h => h call (nt ++ [⟨[], s.next, s.next⟩]) ds (w zv t) s) k) (XC.rec (motive := fun _ => XR) (fun h => h call nt ds t s) p) (Vn want (f t))) note
def KJ (g : Option (Nat × Bool)) (note : Bool) (w : Value → PT Value → PT Value) (p k : XC) : XC :=
 Option.rec (motive := fun _ => XC) p (Prod.rec (motive := fun _ => XC) fun i want => Rdx.rec (motive := fun _ => XC) (fun f => D4 note w p k want f) (rdx i)) g
theorem T6 (g : Option (Nat × Bool)) (note : Bool) (w : Value → PT Value → PT Value) (p k : XC) (call : zn) (nt : List Zw) (ds : List Nat) (t : PT Value) (s : DS) :
 (KJ g note w p k).go call nt ds t s = if zE t g then p.go call nt ds t s else k.go call (if note then nt ++ [⟨[], s.next, s.next⟩] else nt) ds (w zv t) s := by
 cases g with
 | none => rfl
 | some q =>
  obtain ⟨i, want⟩ := q
  have hw : Vn want (t.get i) = zE t (some (i, want)) := by
   simp only [zE, Vn]
   generalize t.get i = o
   cases o with
   | none => rfl
   | some v =>
    show BV.rec (motive := fun _ => Bool) false _ (asB v) = _
    rw [J7]
    cases v <;> first | rfl | (rename_i b; cases b <;> cases want <;> rfl)
  have : KJ (some (i, want)) note w p k = D4 note w p k want fun t => t.get i := by
   show Rdx.rec (motive := fun _ => XC) (fun f => D4 note w p k want f) (rdx i) = _
   rw [Kq]
  rw [this]
  cases note with
  | false =>
   show Bool.rec (motive := fun _ => XR) (k.go call nt ds (w zv t) s) (p.go call nt ds t s) (Vn want (t.get i)) = _
   rw [hw]
   cases zE t (some (i, want)) <;> rfl
  | true =>
   show Bool.rec (motive := fun _ => XR) (k.go call (nt ++ [⟨[], s.next, s.next⟩]) ds (w zv t) s) (p.go call nt ds t s) (Vn want (t.get i)) = _
   rw [hw]
   cases zE t (some (i, want)) <;> rfl
def Ti (o : zK) (w : Value → PT Value → PT Value) (k : XC) : XC :=
 match o.haz with
 | [] => Bool.rec (motive := fun _ => XC) (DL w (xop o.op) k) (Lr o.op w (xop o.op) k) o.note
 | h :: r => LQ (h :: r) o.note o.op w (xop o.op) k
def Lg (o : zK) (k : XC) : XC := Wd.rec (motive := fun _ => XC) (fun w => KJ o.guard o.note w (Ti o w k) k) (wd o.dst)
def Qu (l : List zK) : XC := List.rec (motive := fun _ => XC) (.mk fun call nt ds t s => .normal t s ds) (fun o _ ih => Lg o ih) l
def LR (ds : List Nat) (o : Option (PT Value × DS)) : XR := match o with | some (t, s) => .normal t s ds | none => .bad
theorem W0 : ∀ (l : List zK) (call : zn) (nt : List Zw) (ds : List Nat) (t : PT Value) (s : DS), (Qu l).go call nt ds t s = LR ds (Z0 call l nt t s)
 | [], _, _, _, _, _ => rfl
 | o :: l, call, nt, ds, t, s => by
  show (Wd.rec (motive := fun _ => XC) (fun w => KJ o.guard o.note w (Ti o w (Qu l)) (Qu l)) (wd o.dst)).go call nt ds t s = _
  rw [Lb]
  show (KJ o.guard o.note (fun v t => ZJ t o.dst v) (Ti o (fun v t => ZJ t o.dst v) (Qu l)) (Qu l)).go call nt ds t s = _
  rw [T6]
  simp only [Z0]
  cases hg : zE t o.guard with
  | false =>
   simp only [z3, if_false]
   exact W0 l _ _ _ _ _
  | true =>
   simp only [if_true]
   unfold Ti
   cases hz : o.haz with
   | nil =>
    simp only
    cases hn : o.note with
    | false =>
     show (DL _ _ _).go call nt ds t s = _
     rw [TW, Dv]
     cases dop call (ev t) s o.op with
     | none => rfl
     | some p => obtain ⟨v, s'⟩ := p; exact W0 l _ _ _ _ _
    | true =>
     show Option.rec (motive := fun _ => XR) .bad (Prod.rec fun v s' => (Qu l).go call (nt ++ [⟨foot (ev t) s o.op, s.next, s'.next⟩]) ds (ZJ t o.dst v) s') ((xop o.op).go call t s) = _
     rw [Dv]
     cases dop call (ev t) s o.op with
     | none => rfl
     | some p => obtain ⟨v, s'⟩ := p; exact W0 l _ _ _ _ _
   | cons h r =>
    simp only
    show Option.rec (motive := fun _ => XR) .bad (Prod.rec fun v s' => (Qu l).go call (_root_.cond o.note (nt ++ [⟨foot (ev t) s o.op, s.next, s'.next⟩]) nt) ds (ZJ t o.dst v) { s' with vis := s.vis, wr := s.wr })
     ((xop o.op).go call t { s with vis := fun k => s.vis k && !hidden nt (h :: r) k, wr := fun k => s.wr k && !hidden nt (h :: r) k && !shielded nt (h :: r) k }) = _
    rw [Dv]
    cases dop call (ev t) { s with vis := fun k => s.vis k && !hidden nt (h :: r) k, wr := fun k => s.wr k && !hidden nt (h :: r) k && !shielded nt (h :: r) k } o.op with
    | none => rfl
    | some p =>
     obtain ⟨v, s'⟩ := p
     show (Qu l).go call _ ds _ _ = _
     rw [NL]
     exact W0 l _ _ _ _ _
inductive XK where
 | mk (f : zn → PT Value → DS → List Nat → XR)
def XK.go (k : XK) (call : zn) (t : PT Value) (s : DS) (ds : List Nat) : XR := XK.rec (motive := fun _ => XR) (fun f => f call t s ds) k
def GJ (s : DS) (k : Nat) (o : DObj) : Option DS := KM (fun k => So s k o) k
theorem GI (s : DS) (k : Nat) (o : DObj) : GJ s k o = s.set k o := by
 unfold GJ
 rw [Qg, VZ]
def drf (call : zn) (f : Operand) (params : List Nat) (assign body : DCode) (x : St) : Option (DExit × St) :=
 match ev x.t f with
 | .func (.func _) _ _ =>
  let s1 := x.s.new .dfr
  let s2 := s1.new (.loop .ready .normal x.t params assign body)
  match call (ev x.t f) [.func (.yield s1.next) #[] #[]] s2 with
  | some (_, s3) => match s3.get s1.next with
   | some (.loop st pending t ps a b) =>
    if st = .ready ∨ st = .done then
     match s3.set s1.next (.loop .exhausted pending t ps a b) with
     | some s4 => some (pending, { x with s := s4, defers := x.s.next :: x.defers })
     | none => none
    else none
   | _ => none
  | none => none
 | _ => none
def xrf (call : zn) (f : Operand) (params : List Nat) (assign body : DCode) (x : St) : Option (DExit × St) :=
 match ev x.t f with
 | .func (.func _) _ _ =>
  let s1 := JT x.s .dfr
  let s2 := JT s1 (.loop .ready .normal x.t params assign body)
  match call (ev x.t f) [.func (.yield s1.next) #[] #[]] s2 with
  | some (_, s3) => match hp s3 s1.next with
   | some (.loop st pending t ps a b) =>
    if st = .ready ∨ st = .done then
     match GJ s3 s1.next (.loop .exhausted pending t ps a b) with
     | some s4 => some (pending, { x with s := s4, defers := x.s.next :: x.defers })
     | none => none
    else none
   | _ => none
  | none => none
 | _ => none
theorem MD (call : zn) (f : Operand) (params : List Nat) (assign body : DCode) (x : St) : xrf call f params assign body x = drf call f params assign body x := by
 simp only [xrf, drf, Wf, KF, GI]
def xk (lf : Nat) (inRound : Bool) (c : DCode) : XK :=
 DCode.rec (motive := fun _ => XK)
  (.mk fun call t s ds => .normal t s ds)
  (.mk fun call t s ds => .ret t s ds)
  (fun id => .mk fun call t s ds => .exit id t s ds)
  (fun ops => .mk fun call t s ds => XC.rec (motive := fun _ => XR) (fun f => f call [] ds t s) (Qu ops))
  (fun a b iha ihb => .mk fun call t s ds => XR.rec (motive := fun _ => XR) .bad (fun t s ds => XK.rec (motive := fun _ => XR) (fun f => f call t s ds) ihb) (fun t s ds => .ret t s ds) (fun id t s ds => .exit id t s ds)
   (XK.rec (motive := fun _ => XR) (fun f => f call t s ds) iha))
  (fun c a b iha ihb => Rd.rec (motive := fun _ => XK) (fun r => .mk fun call t s ds => BV.rec (motive := fun _ => XR) .bad (fun v => XK.rec (motive := fun _ => XR) (fun f => f call t s ds) (Bool.rec (motive := fun _ => XK) ihb iha v)) (asB (r t))) (rd c))
  (fun id b ih => .mk fun call t s ds => XR.rec (motive := fun _ => XR) .bad (fun t s ds => .normal t s ds) (fun t s ds => .ret t s ds)
   (fun j t s ds => Bool.rec (motive := fun _ => XR) (.exit j t s ds) (.normal t s ds) (Nat.beq j id)) (XK.rec (motive := fun _ => XR) (fun f => f call t s ds) ih))
  (fun b ih => .mk fun call t s ds => Nat.rec (motive := fun _ => PT Value → DS → List Nat → XR) (fun _ _ _ => .bad)
   (fun _ again t s ds => XR.rec (motive := fun _ => XR) .bad again (fun t s ds => .ret t s ds) (fun id t s ds => .exit id t s ds) (XK.rec (motive := fun _ => XR) (fun f => f call t s ds) ih)) lf t s ds)
  (fun f ps a b iha ihb => Bool.rec (motive := fun _ => XK) (.mk fun call t s ds => toR (xrf call f ps a b ⟨t, s, ds⟩)) (.mk fun call t s ds => .bad) inRound)
  (.mk fun call t s ds => .bad) c
theorem NY (lf : Nat) (inRound : Bool) (call : zn) : ∀ (c : DCode) (t : PT Value) (s : DS) (ds : List Nat), (xk lf inRound c).go call t s ds = toR (zw call lf inRound c ⟨t, s, ds⟩) := by
 intro c
 induction c with
 | skip => intro t s ds; rfl
 | ret => intro t s ds; rfl
 | exit id => intro t s ds; rfl
 | region ops =>
  intro t s ds
  show (Qu ops).go call [] ds t s = _
  rw [W0]
  simp only [zw]
  cases Z0 call ops [] t s with
  | none => rfl
  | some p => rfl
 | seq a b iha ihb =>
  intro t s ds
  show XR.rec (motive := fun _ => XR) .bad (fun t s ds => (xk lf inRound b).go call t s ds) (fun t s ds => .ret t s ds) (fun id t s ds => .exit id t s ds) ((xk lf inRound a).go call t s ds) = _
  rw [iha]
  simp only [zw]
  cases zw call lf inRound a ⟨t, s, ds⟩ with
  | none => rfl
  | some p => obtain ⟨e, y⟩ := p; cases e <;> first | rfl | exact ihb _ _ _
 | cond c a b iha ihb =>
  intro t s ds
  show (Rd.rec (motive := fun _ => XK) (fun r => .mk fun call t s ds => BV.rec (motive := fun _ => XR) .bad (fun v => XK.rec (motive := fun _ => XR) (fun f => f call t s ds) (Bool.rec (motive := fun _ => XK) (xk lf inRound b) (xk lf inRound a) v)) (asB (r t))) (rd c)).go call t s ds = _
  rw [CJ]
  show BV.rec (motive := fun _ => XR) .bad (fun v => (Bool.rec (motive := fun _ => XK) (xk lf inRound b) (xk lf inRound a) v).go call t s ds) (asB (ev t c)) = _
  rw [J7]
  simp only [zw]
  cases ev t c with
  | bool v =>
   cases v with
   | false => exact ihb _ _ _
   | true => exact iha _ _ _
  | _ => rfl
 | block id b ih =>
  intro t s ds
  show XR.rec (motive := fun _ => XR) .bad (fun t s ds => .normal t s ds) (fun t s ds => .ret t s ds) (fun j t s ds => Bool.rec (motive := fun _ => XR) (.exit j t s ds) (.normal t s ds) (Nat.beq j id)) ((xk lf inRound b).go call t s ds) = _
  rw [ih]
  simp only [zw]
  cases zw call lf inRound b ⟨t, s, ds⟩ with
  | none => rfl
  | some p =>
   obtain ⟨e, y⟩ := p
   cases e with
   | exit j =>
    show Bool.rec (motive := fun _ => XR) (.exit j y.t y.s y.defers) (XR.normal y.t y.s y.defers) (Nat.beq j id) = toR (if j = id then some (.normal, y) else some (.exit j, y))
    by_cases h : j = id
    · rw [if_pos h, h, Nat.beq_refl]; rfl
    · rw [if_neg h]
      have : Nat.beq j id = false := by
       cases hb : Nat.beq j id with
       | false => rfl
       | true => exact absurd (Nat.eq_of_beq_eq_true hb) h
      rw [this]; rfl
   | _ => rfl
 | loop b ih =>
  intro t s ds
  have key : ∀ (n : Nat) (t : PT Value) (s : DS) (ds : List Nat), Nat.rec (motive := fun _ => PT Value → DS → List Nat → XR) (fun _ _ _ => .bad)
   (fun _ again t s ds => XR.rec (motive := fun _ => XR) .bad again (fun t s ds => .ret t s ds) (fun id t s ds => .exit id t s ds) ((xk lf inRound b).go call t s ds)) n t s ds = toR (Xt (zw call lf inRound b) n ⟨t, s, ds⟩) := by
   intro n
   induction n with
   | zero => intro t s ds; rfl
   | succ n ihn =>
    intro t s ds
    show XR.rec (motive := fun _ => XR) .bad _ _ _ ((xk lf inRound b).go call t s ds) = _
    rw [ih]
    simp only [Xt]
    cases zw call lf inRound b ⟨t, s, ds⟩ with
    | none => rfl
    | some p => obtain ⟨e, y⟩ := p; cases e <;> first | rfl | exact ihn _ _ _
  exact key lf t s ds
 | rangeFunc f ps a b iha ihb =>
  intro t s ds
  cases inRound with
  | true => rfl
  | false =>
   show toR (xrf call f ps a b ⟨t, s, ds⟩) = _
   rw [MD]
   rfl
 | bad => intro t s ds; rfl
inductive Rl where
 | mk (f : PT Value → DS → Option (List Value))
def Ln (r : DRes) (g : PT Value → DS → Option (List Value)) : Rl :=
 DRes.rec (motive := fun _ => Rl) (fun i => Rdx.rec (motive := fun _ => Rl) (fun f => .mk fun t s => Option.rec (motive := fun _ => Option (List Value)) none (fun l => some (orU (f t) :: l)) (g t s)) (rdx i))
  (fun a agg => .mk fun t s => Option.rec (motive := fun _ => Option (List Value)) none (fun v => Option.rec (motive := fun _ => Option (List Value)) none (fun l => some (v :: l)) (g t s)) (zk (ev t) s (.ld agg (.tmp a)))) r
def rsl (l : List DRes) : Rl :=
 List.rec (motive := fun _ => Rl) (.mk fun _ _ => some []) (fun r _ ih => Rl.rec (motive := fun _ => Rl) (fun g => Ln r g) ih) l
theorem ST : ∀ l : List DRes, rsl l = .mk fun t s => za t s l
 | [] => rfl
 | r :: l => by
  show Rl.rec (motive := fun _ => Rl) (fun g => Ln r g) (rsl l) = _
  rw [ST l]
  cases r with
  | tmp i =>
   show Rdx.rec (motive := fun _ => Rl) (fun f => .mk fun t s => Option.rec (motive := fun _ => Option (List Value)) none (fun l => some (orU (f t) :: l)) (za t s l)) (rdx i) = _
   rw [Kq]
   refine congrArg Rl.mk (funext fun t => funext fun s => ?_)
   show Option.rec (motive := fun _ => Option (List Value)) none (fun l => some (orU (t.get i) :: l)) (za t s l) = (match za t s l with | some l => some ((t.get i).getD zv :: l) | none => none)
   cases za t s l with
   | none => rfl
   | some l => cases t.get i <;> rfl
  | cell a agg =>
   refine congrArg Rl.mk (funext fun t => funext fun s => ?_)
   show Option.rec (motive := fun _ => Option (List Value)) none (fun v => Option.rec (motive := fun _ => Option (List Value)) none (fun l => some (v :: l)) (za t s l)) (zk (ev t) s (.ld agg (.tmp a))) = (match zk (ev t) s (.ld agg (.tmp a)), za t s l with | some v, some l => some (v :: l) | _, _ => none)
   cases zk (ev t) s (.ld agg (.tmp a)) with
   | none => rfl
   | some v =>
    dsimp only
    cases za t s l <;> rfl
def NX (s : DS) (ds : List Nat) : Option DS := List.rec (motive := fun _ => Option DS) (some s) (fun _ _ _ => Zb s ds) ds
theorem Sp (s : DS) (ds : List Nat) : NX s ds = Zb s ds := by cases ds <;> rfl
def fin (g : PT Value → DS → Option (List Value)) (t : PT Value) (s : DS) (ds : List Nat) : Option (Value × DS) :=
 Option.rec (motive := fun _ => Option (Value × DS)) none (fun s' => Option.rec (motive := fun _ => Option (Value × DS)) none (fun vs => some (ze vs, s')) (g t s')) (NX s ds)
def Fs (l : List Value) : Nat → PT Value → PT Value := List.rec (motive := fun _ => Nat → PT Value → PT Value) (fun _ t => t) (fun x _ ih i t => ih (Nat.succ i) (Wr.rec (motive := fun _ => PT Value) (fun w => w (some x) t) (wrs i))) l
theorem RB (l : List Value) : Fs l 0 .nil = WE l := by
 have key : ∀ (l : List Value) (p : Nat × PT Value), Fs l p.1 p.2 = (l.foldl (fun (p : Nat × PT Value) x => (p.1 + 1, p.2.put p.1 (some x))) p).2 := by
  intro l
  induction l with
  | nil => intro p; rfl
  | cons x l ih =>
   intro p
   show Fs l (p.1 + 1) (Wr.rec (motive := fun _ => PT Value) (fun w => w (some x) p.2) (wrs p.1)) = _
   rw [Jc]
   exact ih (p.1 + 1, p.2.put p.1 (some x))
 exact key l (0, .nil)
inductive XF where
 | none
 | mk (n : Nat) (run : zn → PT Value → DS → List Nat → XR) (res : PT Value → DS → Option (List Value))
def PR (E : Env) (g : Nat) : XF :=
 Option.rec (motive := fun _ => XF) .none (fun fn => XK.rec (motive := fun _ => XF) (fun f => Rl.rec (motive := fun _ => XF) (fun r => XF.mk fn.ntmps f r) (rsl fn.results)) (xk E.lf false fn.body)) (E.fn g)
inductive XI where
 | none
 | mk (f : List Value → DS → Option (Value × DS))
def Sq (E : Env) (g : Nat) : XI := Option.rec (motive := fun _ => XI) .none (fun f => .mk f) (E.intr g)
def SH (ps : List Nat) : List Value → PT Value → PT Value :=
 List.rec (motive := fun _ => List Value → PT Value → PT Value) (fun _ t => t)
  (fun p _ ih vs t => List.rec (motive := fun _ => PT Value) t (fun v vs _ => ih vs (Wr.rec (motive := fun _ => PT Value) (fun w => w (some v) t) (wrs p))) vs) ps
theorem GR : ∀ (ps : List Nat) (vs : List Value) (t : PT Value), SH ps vs t = Zl t ps vs
 | [], vs, t => by cases vs <;> rfl
 | p :: ps, [], t => rfl
 | p :: ps, v :: vs, t => by
  show SH ps vs (Wr.rec (motive := fun _ => PT Value) (fun w => w (some v) t) (wrs p)) = Zl (t.put p (some v)) ps vs
  rw [Jc]
  exact GR ps vs _
def Ka (E : Env) (call : zn) (l : Nat) (args : List Value) (s : DS) : Option (Value × DS) :=
 match hp s l with
 | some (.loop st pending t ps assign body) =>
  if Nat.beq ps.length args.length && decide (st = .ready) then
   match ofR ((xk E.lf true assign).go call (SH ps args t) s []) with
   | some (.normal, x) => match hp x.s l with
    | some (.loop .ready pending2 t2 ps2 a2 b2) => match GJ x.s l (.loop .busy pending2 t2 ps2 a2 b2) with
     | some s1 => match ofR ((xk E.lf true body).go call x.t s1 x.defers) with
      | some (e, y) => match hp y.s l with
       | some (.loop .busy _ t3 ps3 a3 b3) =>
        match GJ y.s l (.loop (if e = .normal then .ready else .done) e t3 ps3 a3 b3) with
        | some s2 => some (.bool (decide (e = .normal)), s2)
        | none => none
       | _ => none
      | none => none
     | none => none
    | _ => none
   | _ => none
  else none
 | _ => none
def Kc (E : Env) (call : zn) (g : Nat) (all : List Value) (s : DS) : Option (Value × DS) :=
 Option.rec (motive := fun _ => Option (Value × DS))
  (XF.rec (motive := fun _ => Option (Value × DS)) none (fun n run res => Bool.rec (motive := fun _ => Option (Value × DS)) none
   (XR.rec (motive := fun _ => Option (Value × DS)) none (fun t s ds => fin res t s ds) (fun t s ds => fin res t s ds) (fun _ _ _ _ => none) (run call (Fs all 0 .nil) s [])) (Nat.ble (JU all) n)) (PR E g))
  (fun r => some r) (XI.rec (motive := fun _ => Option (Value × DS)) none (fun F => F all s) (Sq E g))
def GL (E : Env) (d : Nat) : zn := Nat.rec (motive := fun _ => zn) (fun _ _ _ => none)
 (fun _ ih f args s => FV.rec (motive := fun _ => Option (Value × DS)) none (fun fn first captured => match fn with | .func g => Kc E ih g (Sh first.toList (NQ args captured.toList)) s | .yield l => Ka E ih l args s | _ => none) (asF f)) d
theorem R0 (l : List DRes) (t : PT Value) (s : DS) (ds : List Nat) : fin (fun t s => za t s l) t s ds = (match Zb s ds with
 | some s' => match za t s' l with
  | some vs => some (ze vs, s')
  | none => none
 | none => none) := by
 unfold fin
 rw [Sp]
 cases Zb s ds with
 | none => rfl
 | some s' => show Option.rec (motive := fun _ => Option (Value × DS)) none (fun vs => some (ze vs, s')) (za t s' l) = _; dsimp only; cases za t s' l <;> rfl
theorem PQ (E : Env) (g : Nat) : PR E g = (match E.fn g with | none => .none | some fn => XF.mk fn.ntmps (fun call t s ds => (xk E.lf false fn.body).go call t s ds) (fun t s => za t s fn.results)) := by
 unfold PR
 cases E.fn g with
 | none => rfl
 | some fn =>
  show XK.rec (motive := fun _ => XF) (fun f => Rl.rec (motive := fun _ => XF) (fun r => XF.mk fn.ntmps f r) (rsl fn.results)) (xk E.lf false fn.body) = _
  rw [ST]
  have key : ∀ k : XK, XK.rec (motive := fun _ => XF) (fun f => XF.mk fn.ntmps f (fun t s => za t s fn.results)) k = XF.mk fn.ntmps (fun call t s ds => k.go call t s ds) (fun t s => za t s fn.results) := by
   intro k; cases k; rfl
  exact key _
theorem TF (E : Env) (call : zn) (g : Nat) (all : List Value) (s : DS) : Kc E call g all s =
 (match (match E.intr g with | some F => F all s | none => none) with
 | some r => some r
 | none => match E.fn g with
  | none => none
  | some fn =>
   if Nat.ble all.length fn.ntmps then
    match zw call E.lf false fn.body ⟨WE all, s, []⟩ with
    | some (.exit _, _) => none
    | some (_, x) => match Zb x.s x.defers with
     | some s' => match za x.t s' fn.results with
      | some vs => some (ze vs, s')
      | none => none
     | none => none
    | none => none
   else none) := by
 have hi : (XI.rec (motive := fun _ => Option (Value × DS)) none (fun F => F all s) (Sq E g)) = (match E.intr g with | some F => F all s | none => none) := by
  unfold Sq
  cases E.intr g <;> rfl
 unfold Kc
 rw [hi]
 cases (match E.intr g with | some F => F all s | none => none) with
 | some r => rfl
 | none =>
  show XF.rec (motive := fun _ => Option (Value × DS)) none _ (PR E g) = _
  rw [PQ]
  simp only
  cases E.fn g with
  | none => rfl
  | some fn =>
   show Bool.rec (motive := fun _ => Option (Value × DS)) none (XR.rec (motive := fun _ => Option (Value × DS)) none (fun t s ds => fin (fun t s => za t s fn.results) t s ds) (fun t s ds => fin (fun t s => za t s fn.results) t s ds) (fun _ _ _ _ => none) ((xk E.lf false fn.body).go call (Fs all 0 .nil) s [])) (Nat.ble (JU all) fn.ntmps) = _
   rw [NY, Y6, RB, Wu]
   simp only
   split
   · cases zw call E.lf false fn.body ⟨WE all, s, []⟩ with
     | none => rfl
     | some p =>
      obtain ⟨e, x⟩ := p
      cases e with
      | normal => exact R0 fn.results _ _ _
      | ret => exact R0 fn.results _ _ _
      | exit id => rfl
   · rfl
theorem TE (E : Env) (call : zn) (l : Nat) (args : List Value) (s : DS) : Ka E call l args s =
 (match s.get l with
 | some (.loop st pending t ps assign body) =>
  if Nat.beq ps.length args.length && decide (st = .ready) then
   match zw call E.lf true assign ⟨Zl t ps args, s, []⟩ with
   | some (.normal, x) => match x.s.get l with
    | some (.loop .ready pending2 t2 ps2 a2 b2) => match x.s.set l (.loop .busy pending2 t2 ps2 a2 b2) with
     | some s1 => match zw call E.lf true body { x with s := s1 } with
      | some (e, y) => match y.s.get l with
       | some (.loop .busy _ t3 ps3 a3 b3) =>
        match y.s.set l (.loop (if e = .normal then .ready else .done) e t3 ps3 a3 b3) with
        | some s2 => some (.bool (decide (e = .normal)), s2)
        | none => none
       | _ => none
      | none => none
     | none => none
    | _ => none
   | _ => none
  else none
 | _ => none) := by
 simp only [Ka, KF, GI, NY, Nc, GR]
theorem GK (E : Env) : ∀ d : Nat, GL E d = dcall E d
 | 0 => rfl
 | d + 1 => by
  funext f args s
  show FV.rec (motive := fun _ => Option (Value × DS)) none (fun fn first captured => match fn with | .func g => Kc E (GL E d) g (Sh first.toList (NQ args captured.toList)) s | .yield l => Ka E (GL E d) l args s | _ => none) (asF f) = _
  rw [GK E d, NO]
  cases f with
  | func fn first captured =>
   cases fn with
   | func g =>
    show Kc E (dcall E d) g (Sh first.toList (NQ args captured.toList)) s = _
    rw [TF, Tn, NP]
    rfl
   | yield l =>
    show Ka E (dcall E d) l args s = _
    rw [TE]
    rfl
   | _ => rfl
  | _ => rfl
end
end Go.Dx
