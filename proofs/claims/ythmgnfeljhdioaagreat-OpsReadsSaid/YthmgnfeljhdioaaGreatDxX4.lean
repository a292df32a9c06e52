/- A part. -/
import Derived.Test.YthmgnfeljhdioaaGreatDxXx
set_option linter.unusedVariables false
set_option linter.unusedSimpArgs false
set_option linter.unusedSectionVars false
namespace Go.Dx
open Go
noncomputable section
inductive XR where
 | bad
 | normal (t : PT Value) (s : DS) (ds : List Nat)
 | ret (t : PT Value) (s : DS) (ds : List Nat)
 | exit (id : Nat) (t : PT Value) (s : DS) (ds : List Nat)
def toR (o : Option (DExit × St)) : XR :=
 match o with
 | none => .bad
 | some (.normal, x) => .normal x.t x.s x.defers
 | some (.ret, x) => .ret x.t x.s x.defers
 | some (.exit id, x) => .exit id x.t x.s x.defers
def ofR (r : XR) : Option (DExit × St) :=
 match r with
 | .bad => none
 | .normal t s ds => some (.normal, ⟨t, s, ds⟩)
 | .ret t s ds => some (.ret, ⟨t, s, ds⟩)
 | .exit id t s ds => some (.exit id, ⟨t, s, ds⟩)
theorem Rm (o : Option (DExit × St)) : ofR (toR o) = o := by
 cases o with
 | none => rfl
 | some p => obtain ⟨e, t, s, ds⟩ := p; cases e <;> rfl
inductive XC where
 | mk (f : zm → List Zq → List Nat → PT Value → DS → XR)
def XC.go (k : XC) (call : zm) (nt : List Zq) (ds : List Nat) (t : PT Value) (s : DS) : XR := XC.rec (motive := fun _ => XR) (fun f => f call nt ds t s) k
inductive Wd where
 | mk (f : Value → PT Value → PT Value)
def wd (d : Option Nat) : Wd := Option.rec (motive := fun _ => Wd) (Wd.mk fun _ t => t) (fun d => Wr.rec (motive := fun _ => Wd) (fun w => Wd.mk fun v t => w (some v) t) (wrs d)) d
theorem Nl (d : Option Nat) : wd d = .mk fun v t => Zx t d v := by
 cases d with
 | none => rfl
 | some d =>
  show Wr.rec (motive := fun _ => Wd) (fun w => Wd.mk fun v t => w (some v) t) (wrs d) = _
  rw [QC]; rfl
def Fv (w : Value → PT Value → PT Value) (o : XOp) (k : XC) : XC :=
 XOp.rec (motive := fun _ => XC)
  (fun f => .mk fun call nt ds t s => XC.rec (motive := fun _ => XR) (fun g => g call nt ds (w (f t) t) s) k)
  (fun f => .mk fun call nt ds t s => Option.rec (motive := fun _ => XR) .bad (fun v => XC.rec (motive := fun _ => XR) (fun g => g call nt ds (w v t) s) k) (f t s))
  (fun f => .mk fun call nt ds t s => Option.rec (motive := fun _ => XR) .bad (fun s' => XC.rec (motive := fun _ => XR) (fun g => g call nt ds (w zr t) s') k) (f t s))
  (fun f => .mk fun call nt ds t s => DS.rec (motive := fun _ => XR) (fun h n v wr => Nat.rec (motive := fun _ => XR) (XC.rec (motive := fun _ => XR) (fun g => g call nt ds (w (.pointer (some ⟨0, 0, none⟩)) t) (DS.mk (Wr.rec (motive := fun _ => PT DObj) (fun z => z (some (f t)) h) (wrs 0)) 1 v wr)) k) (fun n _ => XC.rec (motive := fun _ => XR) (fun g => g call nt ds (w (.pointer (some ⟨Nat.succ n, 0, none⟩)) t) (DS.mk (Wr.rec (motive := fun _ => PT DObj) (fun z => z (some (f t)) h) (wrs (Nat.succ n))) (Nat.succ (Nat.succ n)) v wr)) k) n) s)
  (fun f => .mk fun call nt ds t s => Option.rec (motive := fun _ => XR) .bad (Prod.rec fun v s' => XC.rec (motive := fun _ => XR) (fun g => g call nt ds (w v t) s') k) (f call t s)) o
theorem Cw (w : Value → PT Value → PT Value) (o : XOp) (k : XC) (call : zm) (nt : List Zq) (ds : List Nat) (t : PT Value) (s : DS) :
 (Fv w o k).go call nt ds t s = (match o.go call t s with | some (v, s') => k.go call nt ds (w v t) s' | none => .bad) := by
 cases o with
 | tot f => rfl
 | val f =>
  show Option.rec (motive := fun _ => XR) .bad (fun v => k.go call nt ds (w v t) s) (f t s) = (match Option.rec (motive := fun _ => Option (Value × DS)) none (fun v => some (v, s)) (f t s) with | some (v, s') => k.go call nt ds (w v t) s' | none => .bad)
  cases f t s <;> rfl
 | eff f =>
  show Option.rec (motive := fun _ => XR) .bad (fun s' => k.go call nt ds (w zr t) s') (f t s) = (match Option.rec (motive := fun _ => Option (Value × DS)) none (fun s' => some (zr, s')) (f t s) with | some (v, s') => k.go call nt ds (w v t) s' | none => .bad)
  cases f t s <;> rfl
 | neu f =>
  obtain ⟨h, n, v, wr⟩ := s
  cases n <;> rfl
 | act f =>
  show Option.rec (motive := fun _ => XR) .bad (Prod.rec fun v s' => k.go call nt ds (w v t) s') (f call t s) = (match f call t s with | some (v, s') => k.go call nt ds (w v t) s' | none => .bad)
  cases f call t s with
  | none => rfl
  | some p => rfl
def NC (op : DOp) (w : Value → PT Value → PT Value) (o : XOp) (k : XC) : XC :=
 .mk fun call nt ds t s => Option.rec (motive := fun _ => XR) .bad (Prod.rec fun v s' => k.go call (nt ++ [⟨foot (ev t) s op, s.next, s'.next⟩]) ds (w v t) s') (o.go call t s)
def NZ (haz : List Nat) (note : Bool) (op : DOp) (w : Value → PT Value → PT Value) (o : XOp) (k : XC) : XC :=
 .mk fun call nt ds t s => Option.rec (motive := fun _ => XR) .bad (Prod.rec fun v s' => k.go call (_root_.cond note (nt ++ [⟨foot (ev t) s op, s.next, s'.next⟩]) nt) ds (w v t) { s' with vis := s.vis, wr := s.wr })
  (o.go call t { s with vis := fun k => s.vis k && !hidden nt haz k, wr := fun k => s.wr k && !hidden nt haz k && !shielded nt haz k })
def KK (want : Bool) (o : Option Value) : Bool := Option.rec (motive := fun _ => Bool) false (fun v => BV.rec (motive := fun _ => Bool) false (fun b => Bool.rec (motive := fun _ => Bool) (Bool.rec (motive := fun _ => Bool) true false b) b want) (asB v)) o
def FK (note : Bool) (w : Value → PT Value → PT Value) (p k : XC) (want : Bool) (f : PT Value → Option Value) : XC :=
 Bool.rec (motive := fun _ => XC)
  (.mk fun call nt ds t s => Bool.rec (motive := fun _ => XR) (XC.rec (motive := fun _ => XR) (fun h => h call nt ds (w zr t) s) k) (XC.rec (motive := fun _ => XR) (fun h => h call nt ds t s) p) (KK want (f t)))
  (.mk fun call nt ds t s => Bool.rec (motive := fun _ => XR) (XC.rec (motive := fun _ => XR) (fun h => h call (nt ++ [⟨[], s.next, s.next⟩]) ds (w zr t) s) k) (XC.rec (motive := fun _ => XR) (fun h => h call nt ds t s) p) (KK want (f t))) note
def J7 (g : Option (Nat × Bool)) (note : Bool) (w : Value → PT Value → PT Value) (p k : XC) : XC :=
 Option.rec (motive := fun _ => XC) p (Prod.rec (motive := fun _ => XC) fun i want => Rdx.rec (motive := fun _ => XC) (fun f => FK note w p k want f) (rdx i)) g
theorem CC (g : Option (Nat × Bool)) (note : Bool) (w : Value → PT Value → PT Value) (p k : XC) (call : zm) (nt : List Zq) (ds : List Nat) (t : PT Value) (s : DS) :
 (J7 g note w p k).go call nt ds t s = if zy t g then p.go call nt ds t s else k.go call (if note then nt ++ [⟨[], s.next, s.next⟩] else nt) ds (w zr t) s := by
 cases g with
 | none => rfl
 | some q =>
  obtain ⟨i, want⟩ := q
  have hw : KK want (t.get i) = zy t (some (i, want)) := by
   simp only [zy, KK]
   generalize t.get i = o
   cases o with
   | none => rfl
   | some v =>
    show BV.rec (motive := fun _ => Bool) false _ (asB v) = _
    rw [Jw]
    cases v <;> first | rfl | (rename_i b; cases b <;> cases want <;> rfl)
  have : J7 (some (i, want)) note w p k = FK note w p k want fun t => t.get i := by
   show Rdx.rec (motive := fun _ => XC) (fun f => FK note w p k want f) (rdx i) = _
   rw [JO]
  rw [this]
  cases note with
  | false =>
   show Bool.rec (motive := fun _ => XR) (k.go call nt ds (w zr t) s) (p.go call nt ds t s) (KK want (t.get i)) = _
   rw [hw]
   cases zy t (some (i, want)) <;> rfl
  | true =>
   show Bool.rec (motive := fun _ => XR) (k.go call (nt ++ [⟨[], s.next, s.next⟩]) ds (w zr t) s) (p.go call nt ds t s) (KK want (t.get i)) = _
   rw [hw]
   cases zy t (some (i, want)) <;> rfl
def DN (o : zE) (w : Value → PT Value → PT Value) (k : XC) : XC :=
 match o.haz with
 | [] => Bool.rec (motive := fun _ => XC) (Fv w (xop o.op) k) (NC o.op w (xop o.op) k) o.note
 | h :: r => NZ (h :: r) o.note o.op w (xop o.op) k
def Nq (o : zE) (k : XC) : XC := Wd.rec (motive := fun _ => XC) (fun w => J7 o.guard o.note w (DN o w k) k) (wd o.dst)
def WW (l : List zE) : XC := List.rec (motive := fun _ => XC) (.mk fun call nt ds t s => .normal t s ds) (fun o _ ih => Nq o ih) l
def N0 (ds : List Nat) (o : Option (PT Value × DS)) : XR := match o with | some (t, s) => .normal t s ds | none => .bad
theorem Wq : ∀ (l : List zE) (call : zm) (nt : List Zq) (ds : List Nat) (t : PT Value) (s : DS), (WW l).go call nt ds t s = N0 ds (ZO call l nt t s)
 | [], _, _, _, _, _ => rfl
 | o :: l, call, nt, ds, t, s => by
  show (Wd.rec (motive := fun _ => XC) (fun w => J7 o.guard o.note w (DN o w (WW l)) (WW l)) (wd o.dst)).go call nt ds t s = _
  rw [Nl]
  show (J7 o.guard o.note (fun v t => Zx t o.dst v) (DN o (fun v t => Zx t o.dst v) (WW l)) (WW l)).go call nt ds t s = _
  rw [CC]
  simp only [ZO]
  cases hg : zy t o.guard with
  | false =>
   simp only [z3, if_false]
   exact Wq l _ _ _ _ _
  | true =>
   simp only [if_true]
   unfold DN
   cases hz : o.haz with
   | nil =>
    simp only
    cases hn : o.note with
    | false =>
     show (Fv _ _ _).go call nt ds t s = _
     rw [Cw, Fg]
     cases dop call (ev t) s o.op with
     | none => rfl
     | some p => obtain ⟨v, s'⟩ := p; exact Wq l _ _ _ _ _
    | true =>
     show Option.rec (motive := fun _ => XR) .bad (Prod.rec fun v s' => (WW l).go call (nt ++ [⟨foot (ev t) s o.op, s.next, s'.next⟩]) ds (Zx t o.dst v) s') ((xop o.op).go call t s) = _
     rw [Fg]
     cases dop call (ev t) s o.op with
     | none => rfl
     | some p => obtain ⟨v, s'⟩ := p; exact Wq l _ _ _ _ _
   | cons h r =>
    simp only
    show Option.rec (motive := fun _ => XR) .bad (Prod.rec fun v s' => (WW l).go call (_root_.cond o.note (nt ++ [⟨foot (ev t) s o.op, s.next, s'.next⟩]) nt) ds (Zx t o.dst v) { s' with vis := s.vis, wr := s.wr })
     ((xop o.op).go call t { s with vis := fun k => s.vis k && !hidden nt (h :: r) k, wr := fun k => s.wr k && !hidden nt (h :: r) k && !shielded nt (h :: r) k }) = _
    rw [Fg]
    cases dop call (ev t) { s with vis := fun k => s.vis k && !hidden nt (h :: r) k, wr := fun k => s.wr k && !hidden nt (h :: r) k && !shielded nt (h :: r) k } o.op with
    | none => rfl
    | some p =>
     obtain ⟨v, s'⟩ := p
     show (WW l).go call _ ds _ _ = _
     rw [RP]
     exact Wq l _ _ _ _ _
inductive XK where
 | mk (f : zm → PT Value → DS → List Nat → XR)
def XK.go (k : XK) (call : zm) (t : PT Value) (s : DS) (ds : List Nat) : XR := XK.rec (motive := fun _ => XR) (fun f => f call t s ds) k
def VS (s : DS) (k : Nat) (o : DObj) : Option DS := Kb (fun k => CV s k o) k
theorem VR (s : DS) (k : Nat) (o : DObj) : VS s k o = s.set k o := by
 unfold VS
 rw [WG, Vn]
def drf (call : zm) (f : Operand) (params : List Nat) (assign body : DCode) (x : St) : Option (DExit × St) :=
 match ev x.t f with
 | .func (.func _) _ _ =>
  let s1 := x.s.new .dfr
  let s2 := s1.new (.loop .ready .normal x.t params assign body)
  match call (ev x.t f) [.func (.yield s1.next) #[] #[]] s2 with
  | some (_, s3) => match s3.get s1.next with
   | some (.loop st pending t ps a b) =>
    if st = .ready ∨ st = .done then
     match s3.set s1.next (.loop .exhausted pending t ps a b) with
     | some s4 => some (pending, { x with s := s4, defers := x.s.next :: x.defers })
     | none => none
    else none
   | _ => none
  | none => none
 | _ => none
def xrf (call : zm) (f : Operand) (params : List Nat) (assign body : DCode) (x : St) : Option (DExit × St) :=
 match ev x.t f with
 | .func (.func _) _ _ =>
  let s1 := Jj x.s .dfr
  let s2 := Jj s1 (.loop .ready .normal x.t params assign body)
  match call (ev x.t f) [.func (.yield s1.next) #[] #[]] s2 with
  | some (_, s3) => match hp s3 s1.next with
   | some (.loop st pending t ps a b) =>
    if st = .ready ∨ st = .done then
     match VS s3 s1.next (.loop .exhausted pending t ps a b) with
     | some s4 => some (pending, { x with s := s4, defers := x.s.next :: x.defers })
     | none => none
    else none
   | _ => none
  | none => none
 | _ => none
theorem PO (call : zm) (f : Operand) (params : List Nat) (assign body : DCode) (x : St) : xrf call f params assign body x = drf call f params assign body x := by
 simp only [xrf, drf, Xz, J3, VR]
def xk (lf : Nat) (inRound : Bool) (c : DCode) : XK :=
 DCode.rec (motive := fun _ => XK)
  (.mk fun call t s ds => .normal t s ds)
  (.mk fun call t s ds => .ret t s ds)
  (fun id => .mk fun call t s ds => .exit id t s ds)
  (fun ops => .mk fun call t s ds => XC.rec (motive := fun _ => XR) (fun f => f call [] ds t s) (WW ops))
  (fun a b iha ihb => .mk fun call t s ds => XR.rec (motive := fun _ => XR) .bad (fun t s ds => XK.rec (motive := fun _ => XR) (fun f => f call t s ds) ihb) (fun t s ds => .ret t s ds) (fun id t s ds => .exit id t s ds)
   (XK.rec (motive := fun _ => XR) (fun f => f call t s ds) iha))
  (fun c a b iha ihb => Rd.rec (motive := fun _ => XK) (fun r => .mk fun call t s ds => BV.rec (motive := fun _ => XR) .bad (fun v => XK.rec (motive := fun _ => XR) (fun f => f call t s ds) (Bool.rec (motive := fun _ => XK) ihb iha v)) (asB (r t))) (rd c))
  (fun id b ih => .mk fun call t s ds => XR.rec (motive := fun _ => XR) .bad (fun t s ds => .normal t s ds) (fun t s ds => .ret t s ds)
   (fun j t s ds => Bool.rec (motive := fun _ => XR) (.exit j t s ds) (.normal t s ds) (Nat.beq j id)) (XK.rec (motive := fun _ => XR) (fun f => f call t s ds) ih))
  (fun b ih => .mk fun call t s ds => Nat.rec (motive := fun _ => PT Value → DS → List Nat → XR) (fun _ _ _ => .bad)
   (fun _ again t s ds => XR.rec (motive := fun _ => XR) .bad again (fun t s ds => .ret t s ds) (fun id t s ds => .exit id t s ds) (XK.rec (motive := fun _ => XR) (fun f => f call t s ds) ih)) lf t s ds)
  (fun f ps a b iha ihb => Bool.rec (motive := fun _ => XK) (.mk fun call t s ds => toR (xrf call f ps a b ⟨t, s, ds⟩)) (.mk fun call t s ds => .bad) inRound)
  (.mk fun call t s ds => .bad) c
theorem Pb (lf : Nat) (inRound : Bool) (call : zm) : ∀ (c : DCode) (t : PT Value) (s : DS) (ds : List Nat), (xk lf inRound c).go call t s ds = toR (zu call lf inRound c ⟨t, s, ds⟩) := by
 intro c
 induction c with
 | skip => intro t s ds; rfl
 | ret => intro t s ds; rfl
 | exit id => intro t s ds; rfl
 | region ops =>
  intro t s ds
  show (WW ops).go call [] ds t s = _
  rw [Wq]
  simp only [zu]
  cases ZO call ops [] t s with
  | none => rfl
  | some p => rfl
 | seq a b iha ihb =>
  intro t s ds
  show XR.rec (motive := fun _ => XR) .bad (fun t s ds => (xk lf inRound b).go call t s ds) (fun t s ds => .ret t s ds) (fun id t s ds => .exit id t s ds) ((xk lf inRound a).go call t s ds) = _
  rw [iha]
  simp only [zu]
  cases zu call lf inRound a ⟨t, s, ds⟩ with
  | none => rfl
  | some p => obtain ⟨e, y⟩ := p; cases e <;> first | rfl | exact ihb _ _ _
 | cond c a b iha ihb =>
  intro t s ds
  show (Rd.rec (motive := fun _ => XK) (fun r => .mk fun call t s ds => BV.rec (motive := fun _ => XR) .bad (fun v => XK.rec (motive := fun _ => XR) (fun f => f call t s ds) (Bool.rec (motive := fun _ => XK) (xk lf inRound b) (xk lf inRound a) v)) (asB (r t))) (rd c)).go call t s ds = _
  rw [Dj]
  show BV.rec (motive := fun _ => XR) .bad (fun v => (Bool.rec (motive := fun _ => XK) (xk lf inRound b) (xk lf inRound a) v).go call t s ds) (asB (ev t c)) = _
  rw [Jw]
  simp only [zu]
  cases ev t c with
  | bool v =>
   cases v with
   | false => exact ihb _ _ _
   | true => exact iha _ _ _
  | _ => rfl
 | block id b ih =>
  intro t s ds
  show XR.rec (motive := fun _ => XR) .bad (fun t s ds => .normal t s ds) (fun t s ds => .ret t s ds) (fun j t s ds => Bool.rec (motive := fun _ => XR) (.exit j t s ds) (.normal t s ds) (Nat.beq j id)) ((xk lf inRound b).go call t s ds) = _
  rw [ih]
  simp only [zu]
  cases zu call lf inRound b ⟨t, s, ds⟩ with
  | none => rfl
  | some p =>
   obtain ⟨e, y⟩ := p
   cases e with
   | exit j =>
    show Bool.rec (motive := fun _ => XR) (.exit j y.t y.s y.defers) (XR.normal y.t y.s y.defers) (Nat.beq j id) = toR (if j = id then some (.normal, y) else some (.exit j, y))
    by_cases h : j = id
    · rw [if_pos h, h, Nat.beq_refl]; rfl
    · rw [if_neg h]
      have : Nat.beq j id = false := by
       cases hb : Nat.beq j id with
       | false => rfl
       | true => exact absurd (Nat.eq_of_beq_eq_true hb) h
      rw [this]; rfl
   | _ => rfl
 | loop b ih =>
  intro t s ds
  have key : ∀ (n : Nat) (t : PT Value) (s : DS) (ds : List Nat), Nat.rec (motive := fun _ => PT Value → DS → List Nat → XR) (fun _ _ _ => .bad)
   (fun _ again t s ds => XR.rec (motive := fun _ => XR) .bad again (fun t s ds => .ret t s ds) (fun id t s ds => .exit id t s ds) ((xk lf inRound b).go call t s ds)) n t s ds = toR (Xd (zu call lf inRound b) n ⟨t, s, ds⟩) := by
   intro n
   induction n with
   | zero => intro t s ds; rfl
   | succ n ihn =>
    intro t s ds
    show XR.rec (motive := fun _ => XR) .bad _ _ _ ((xk lf inRound b).go call t s ds) = _
    rw [ih]
    simp only [Xd]
    cases zu call lf inRound b ⟨t, s, ds⟩ with
    | none => rfl
    | some p => obtain ⟨e, y⟩ := p; cases e <;> first | rfl | exact ihn _ _ _
  exact key lf t s ds
 | rangeFunc f ps a b iha ihb =>
  intro t s ds
  cases inRound with
  | true => rfl
  | false =>
   show toR (xrf call f ps a b ⟨t, s, ds⟩) = _
   rw [PO]
   rfl
 | bad => intro t s ds; rfl
inductive Rl where
 | mk (f : PT Value → DS → Option (List Value))
def Nz (r : DRes) (g : PT Value → DS → Option (List Value)) : Rl :=
 DRes.rec (motive := fun _ => Rl) (fun i => Rdx.rec (motive := fun _ => Rl) (fun f => .mk fun t s => Option.rec (motive := fun _ => Option (List Value)) none (fun l => some (orU (f t) :: l)) (g t s)) (rdx i))
  (fun a agg => .mk fun t s => Option.rec (motive := fun _ => Option (List Value)) none (fun v => Option.rec (motive := fun _ => Option (List Value)) none (fun l => some (v :: l)) (g t s)) (zk (ev t) s (.ld agg (.tmp a)))) r
def rsl (l : List DRes) : Rl :=
 List.rec (motive := fun _ => Rl) (.mk fun _ _ => some []) (fun r _ ih => Rl.rec (motive := fun _ => Rl) (fun g => Nz r g) ih) l
theorem Tq : ∀ l : List DRes, rsl l = .mk fun t s => za t s l
 | [] => rfl
 | r :: l => by
  show Rl.rec (motive := fun _ => Rl) (fun g => Nz r g) (rsl l) = _
  rw [Tq l]
  cases r with
  | tmp i =>
   show Rdx.rec (motive := fun _ => Rl) (fun f => .mk fun t s => Option.rec (motive := fun _ => Option (List Value)) none (fun l => some (orU (f t) :: l)) (za t s l)) (rdx i) = _
   rw [JO]
   refine congrArg Rl.mk (funext fun t => funext fun s => ?_)
   show Option.rec (motive := fun _ => Option (List Value)) none (fun l => some (orU (t.get i) :: l)) (za t s l) = (match za t s l with | some l => some ((t.get i).getD zr :: l) | none => none)
   cases za t s l with
   | none => rfl
   | some l => cases t.get i <;> rfl
  | cell a agg =>
   refine congrArg Rl.mk (funext fun t => funext fun s => ?_)
   show Option.rec (motive := fun _ => Option (List Value)) none (fun v => Option.rec (motive := fun _ => Option (List Value)) none (fun l => some (v :: l)) (za t s l)) (zk (ev t) s (.ld agg (.tmp a))) = (match zk (ev t) s (.ld agg (.tmp a)), za t s l with | some v, some l => some (v :: l) | _, _ => none)
   cases zk (ev t) s (.ld agg (.tmp a)) with
   | none => rfl
   | some v =>
    dsimp only
    cases za t s l <;> rfl
def Pa (s : DS) (ds : List Nat) : Option DS := List.rec (motive := fun _ => Option DS) (some s) (fun _ _ _ => zU s ds) ds
theorem CW (s : DS) (ds : List Nat) : Pa s ds = zU s ds := by cases ds <;> rfl
def fin (g : PT Value → DS → Option (List Value)) (t : PT Value) (s : DS) (ds : List Nat) : Option (Value × DS) :=
 Option.rec (motive := fun _ => Option (Value × DS)) none (fun s' => Option.rec (motive := fun _ => Option (Value × DS)) none (fun vs => some (zf vs, s')) (g t s')) (Pa s ds)
def Gg (l : List Value) : Nat → PT Value → PT Value := List.rec (motive := fun _ => Nat → PT Value → PT Value) (fun _ t => t) (fun x _ ih i t => ih (Nat.succ i) (Wr.rec (motive := fun _ => PT Value) (fun w => w (some x) t) (wrs i))) l
theorem TH (l : List Value) : Gg l 0 .nil = Wb l := by
 have key : ∀ (l : List Value) (p : Nat × PT Value), Gg l p.1 p.2 = (l.foldl (fun (p : Nat × PT Value) x => (p.1 + 1, p.2.put p.1 (some x))) p).2 := by
  intro l
  induction l with
  | nil => intro p; rfl
  | cons x l ih =>
   intro p
   show Gg l (p.1 + 1) (Wr.rec (motive := fun _ => PT Value) (fun w => w (some x) p.2) (wrs p.1)) = _
   rw [QC]
   exact ih (p.1 + 1, p.2.put p.1 (some x))
 exact key l (0, .nil)
inductive XF where
 | none
 | mk (n : Nat) (run : zm → PT Value → DS → List Nat → XR) (res : PT Value → DS → Option (List Value))
def SV (E : Env) (g : Nat) : XF :=
 Option.rec (motive := fun _ => XF) .none (fun fn => XK.rec (motive := fun _ => XF) (fun f => Rl.rec (motive := fun _ => XF) (fun r => XF.mk fn.ntmps f r) (rsl fn.results)) (xk E.lf false fn.body)) (E.fn g)
inductive XI where
 | none
 | mk (f : List Value → DS → Option (Value × DS))
def CX (E : Env) (g : Nat) : XI := Option.rec (motive := fun _ => XI) .none (fun f => .mk f) (E.intr g)
def Te (ps : List Nat) : List Value → PT Value → PT Value :=
 List.rec (motive := fun _ => List Value → PT Value → PT Value) (fun _ t => t)
  (fun p _ ih vs t => List.rec (motive := fun _ => PT Value) t (fun v vs _ => ih vs (Wr.rec (motive := fun _ => PT Value) (fun w => w (some v) t) (wrs p))) vs) ps
theorem V0 : ∀ (ps : List Nat) (vs : List Value) (t : PT Value), Te ps vs t = z7 t ps vs
 | [], vs, t => by cases vs <;> rfl
 | p :: ps, [], t => rfl
 | p :: ps, v :: vs, t => by
  show Te ps vs (Wr.rec (motive := fun _ => PT Value) (fun w => w (some v) t) (wrs p)) = z7 (t.put p (some v)) ps vs
  rw [QC]
  exact V0 ps vs _
def Jz (E : Env) (call : zm) (l : Nat) (args : List Value) (s : DS) : Option (Value × DS) :=
 match hp s l with
 | some (.loop st pending t ps assign body) =>
  if Nat.beq ps.length args.length && decide (st = .ready) then
   match ofR ((xk E.lf true assign).go call (Te ps args t) s []) with
   | some (.normal, x) => match hp x.s l with
    | some (.loop .ready pending2 t2 ps2 a2 b2) => match VS x.s l (.loop .busy pending2 t2 ps2 a2 b2) with
     | some s1 => match ofR ((xk E.lf true body).go call x.t s1 x.defers) with
      | some (e, y) => match hp y.s l with
       | some (.loop .busy _ t3 ps3 a3 b3) =>
        match VS y.s l (.loop (if e = .normal then .ready else .done) e t3 ps3 a3 b3) with
        | some s2 => some (.bool (decide (e = .normal)), s2)
        | none => none
       | _ => none
      | none => none
     | none => none
    | _ => none
   | _ => none
  else none
 | _ => none
def JB (E : Env) (call : zm) (g : Nat) (all : List Value) (s : DS) : Option (Value × DS) :=
 Option.rec (motive := fun _ => Option (Value × DS))
  (XF.rec (motive := fun _ => Option (Value × DS)) none (fun n run res => Bool.rec (motive := fun _ => Option (Value × DS)) none
   (XR.rec (motive := fun _ => Option (Value × DS)) none (fun t s ds => fin res t s ds) (fun t s ds => fin res t s ds) (fun _ _ _ _ => none) (run call (Gg all 0 .nil) s [])) (Nat.ble (Jk all) n)) (SV E g))
  (fun r => some r) (XI.rec (motive := fun _ => Option (Value × DS)) none (fun F => F all s) (CX E g))
def VV (E : Env) (d : Nat) : zm := Nat.rec (motive := fun _ => zm) (fun _ _ _ => none)
 (fun _ ih f args s => FV.rec (motive := fun _ => Option (Value × DS)) none (fun fn first captured => match fn with | .func g => JB E ih g (CN first.toList (RW args captured.toList)) s | .yield l => Jz E ih l args s | _ => none) (asF f)) d
theorem Sa (l : List DRes) (t : PT Value) (s : DS) (ds : List Nat) : fin (fun t s => za t s l) t s ds = (match zU s ds with
 | some s' => match za t s' l with
  | some vs => some (zf vs, s')
  | none => none
 | none => none) := by
 unfold fin
 rw [CW]
 cases zU s ds with
 | none => rfl
 | some s' => show Option.rec (motive := fun _ => Option (Value × DS)) none (fun vs => some (zf vs, s')) (za t s' l) = _; dsimp only; cases za t s' l <;> rfl
theorem SU (E : Env) (g : Nat) : SV E g = (match E.fn g with | none => .none | some fn => XF.mk fn.ntmps (fun call t s ds => (xk E.lf false fn.body).go call t s ds) (fun t s => za t s fn.results)) := by
 unfold SV
 cases E.fn g with
 | none => rfl
 | some fn =>
  show XK.rec (motive := fun _ => XF) (fun f => Rl.rec (motive := fun _ => XF) (fun r => XF.mk fn.ntmps f r) (rsl fn.results)) (xk E.lf false fn.body) = _
  rw [Tq]
  have key : ∀ k : XK, XK.rec (motive := fun _ => XF) (fun f => XF.mk fn.ntmps f (fun t s => za t s fn.results)) k = XF.mk fn.ntmps (fun call t s ds => k.go call t s ds) (fun t s => za t s fn.results) := by
   intro k; cases k; rfl
  exact key _
theorem Ch (E : Env) (call : zm) (g : Nat) (all : List Value) (s : DS) : JB E call g all s =
 (match (match E.intr g with | some F => F all s | none => none) with
 | some r => some r
 | none => match E.fn g with
  | none => none
  | some fn =>
   if Nat.ble all.length fn.ntmps then
    match zu call E.lf false fn.body ⟨Wb all, s, []⟩ with
    | some (.exit _, _) => none
    | some (_, x) => match zU x.s x.defers with
     | some s' => match za x.t s' fn.results with
      | some vs => some (zf vs, s')
      | none => none
     | none => none
    | none => none
   else none) := by
 have hi : (XI.rec (motive := fun _ => Option (Value × DS)) none (fun F => F all s) (CX E g)) = (match E.intr g with | some F => F all s | none => none) := by
  unfold CX
  cases E.intr g <;> rfl
 unfold JB
 rw [hi]
 cases (match E.intr g with | some F => F all s | none => none) with
 | some r => rfl
 | none =>
  show XF.rec (motive := fun _ => Option (Value × DS)) none _ (SV E g) = _
  rw [SU]
  simp only
  cases E.fn g with
  | none => rfl
  | some fn =>
   show Bool.rec (motive := fun _ => Option (Value × DS)) none (XR.rec (motive := fun _ => Option (Value × DS)) none (fun t s ds => fin (fun t s => za t s fn.results) t s ds) (fun t s ds => fin (fun t s => za t s fn.results) t s ds) (fun _ _ _ _ => none) ((xk E.lf false fn.body).go call (Gg all 0 .nil) s [])) (Nat.ble (Jk all) fn.ntmps) = _
   rw [Pb, YH, TH, XT]
   simp only
   split
   · cases zu call E.lf false fn.body ⟨Wb all, s, []⟩ with
     | none => rfl
     | some p =>
      obtain ⟨e, x⟩ := p
      cases e with
      | normal => exact Sa fn.results _ _ _
      | ret => exact Sa fn.results _ _ _
      | exit id => rfl
   · rfl
theorem Cg (E : Env) (call : zm) (l : Nat) (args : List Value) (s : DS) : Jz E call l args s =
 (match s.get l with
 | some (.loop st pending t ps assign body) =>
  if Nat.beq ps.length args.length && decide (st = .ready) then
   match zu call E.lf true assign ⟨z7 t ps args, s, []⟩ with
   | some (.normal, x) => match x.s.get l with
    | some (.loop .ready pending2 t2 ps2 a2 b2) => match x.s.set l (.loop .busy pending2 t2 ps2 a2 b2) with
     | some s1 => match zu call E.lf true body { x with s := s1 } with
      | some (e, y) => match y.s.get l with
       | some (.loop .busy _ t3 ps3 a3 b3) =>
        match y.s.set l (.loop (if e = .normal then .ready else .done) e t3 ps3 a3 b3) with
        | some s2 => some (.bool (decide (e = .normal)), s2)
        | none => none
       | _ => none
      | none => none
     | none => none
    | _ => none
   | _ => none
  else none
 | _ => none) := by
 simp only [Jz, J3, VR, Pb, Rm, V0]
theorem VU (E : Env) : ∀ d : Nat, VV E d = dcall E d
 | 0 => rfl
 | d + 1 => by
  funext f args s
  show FV.rec (motive := fun _ => Option (Value × DS)) none (fun fn first captured => match fn with | .func g => JB E (VV E d) g (CN first.toList (RW args captured.toList)) s | .yield l => Jz E (VV E d) l args s | _ => none) (asF f) = _
  rw [VU E d, RU]
  cases f with
  | func fn first captured =>
   cases fn with
   | func g =>
    show JB E (dcall E d) g (CN first.toList (RW args captured.toList)) s = _
    rw [Ch, DT, RV]
    rfl
   | yield l =>
    show Jz E (dcall E d) l args s = _
    rw [Cg]
    rfl
   | _ => rfl
  | _ => rfl
end
end Go.Dx
