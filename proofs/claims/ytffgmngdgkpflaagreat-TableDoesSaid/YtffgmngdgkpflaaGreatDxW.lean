/- A part. -/
import Derived.Test.YtffgmngdgkpflaaGreatDxSz
set_option linter.unusedVariables false
set_option linter.unusedSimpArgs false
set_option linter.unusedSectionVars false
namespace Go.Dx
open Go
def W {α : Type} (r : Option α) (Q : α → Prop) : Prop := ∃ a, r = some a ∧ Q a
theorem W.intro {α : Type} {r : Option α} {Q : α → Prop} {a : α} (h : r = some a) (q : Q a) : W r Q := ⟨a, h, q⟩
theorem W.mono {α : Type} {r : Option α} {Q R : α → Prop} (h : W r Q) (q : ∀ a, Q a → R a) : W r R := by obtain ⟨a, e, h⟩ := h; exact ⟨a, e, q a h⟩
theorem z7 {α : Type} {a : α} {Q : α → Prop} : W (some a) Q = Q a := by simp [W]
theorem Yt {α : Type} {Q : α → Prop} : W none Q = False := by simp [W]
@[congr] theorem W_congr {α : Type} {r r' : Option α} {Q : α → Prop} (h : r = r') : W r Q = W r' Q := by rw [h]
theorem zr {α : Type} {r : Option α} {P : α → Prop} (h : ∀ Q : α → Prop, (∀ a, P a → Q a) → W r Q) : W r P := h P fun _ h => h
theorem JH {α : Type} {r : Option α} {a : α} : W r (fun x => x = a) ↔ r = some a := by simp [W]
def ldA (n : Nat) (a : Value) (s : DS) : Option Value :=
 match a with
 | .pointer (some ⟨k, off, none⟩) => match s.read k off n with
  | some l => some (.agg ⟨l⟩)
  | none => none
 | _ => none
def atS (s : DS) (R : Value × DS → Prop) : Value → Prop := fun v => R (v, s)
def atD (R : Value × DS → Prop) : DS → Prop := fun s' => R (zK, s')
def atG (s : DS) (R : Value × DS → Prop) : List Value → Prop := fun cs => R (.agg ⟨cs⟩, s)
def atB (n : Bool) (s : DS) (R : Value × DS → Prop) : Bool → Prop := fun b => R (.bool (if n then !b else b), s)
def atL (n : Nat) (s : DS) (R : Value × DS → Prop) : List Value → Prop := fun cs => R (.slice (some ⟨s.next, 0, none⟩) n n, s.new (.cells (.list cs) false))
theorem NP {s : DS} {R : Value × DS → Prop} {v : Value} : atS s R v = R (v, s) := rfl
theorem NS {R : Value × DS → Prop} {s' : DS} : atD R s' = R (zK, s') := rfl
theorem NR {s : DS} {R : Value × DS → Prop} {cs : List Value} : atG s R cs = R (.agg ⟨cs⟩, s) := rfl
theorem NT {n : Bool} {s : DS} {R : Value × DS → Prop} {b : Bool} : atB n s R b = R (.bool (if n then !b else b), s) := rfl
theorem NQ {n : Nat} {s : DS} {R : Value × DS → Prop} {cs : List Value} : atL n s R cs = R (.slice (some ⟨s.next, 0, none⟩) n n, s.new (.cells (.list cs) false)) := rfl
theorem Ly {n : Nat} {s : DS} {R : Value × DS → Prop} {cs : List Value} : W (some cs) (atL n s R) = R (.slice (some ⟨s.next, 0, none⟩) n n, s.new (.cells (.list cs) false)) := z7
section
variable {call : zy} {ρ : Operand → Value} {s : DS} {R : Value × DS → Prop}
theorem HR {x : Operand} : W (dop call ρ s (.mv x)) R = R (ρ x, s) := z7
theorem ZA {o : DOp} (h : o.cls = .pure) : W (dop call ρ s o) R = W (zb ρ o) (atS s R) := by
 unfold dop
 rw [h]
 simp only
 cases zb ρ o <;> simp only [z7, Yt, atS, atD, atG, atL]
theorem GJ {o : DOp} (h : o.cls = .read) : W (dop call ρ s o) R = W (zo ρ s o) (atS s R) := by
 unfold dop
 rw [h]
 simp only
 cases zo ρ s o <;> simp only [z7, Yt, atS, atD, atG, atL]
theorem N0 {c a b : Operand} : W (dop call ρ s (.pick c a b)) R = W (zb ρ (.pick c a b)) (atS s R) := ZA rfl
theorem Lx {op : BinOp} {x y : Operand} : W (dop call ρ s (.bin op x y)) R = W (zl op (ρ x) (ρ y)) (atS s R) := ZA rfl
theorem N6 {n : Bool} {t : ET} {x y : Operand} : W (dop call ρ s (.eq n t x y)) R = W (zb ρ (.eq n t x y)) (atS s R) := ZA rfl
theorem HO {op : UnOp} {x : Operand} : W (dop call ρ s (.un op x)) R = W (zb ρ (.un op x)) (atS s R) := ZA rfl
theorem SX {k : IntKind} {x : Operand} : W (dop call ρ s (.cvInt k x)) R = W (zb ρ (.cvInt k x)) (atS s R) := ZA rfl
theorem SW {x : Operand} : W (dop call ρ s (.cvStr x)) R = W (zb ρ (.cvStr x)) (atS s R) := ZA rfl
theorem SU {x : Operand} : W (dop call ρ s (.nilck x)) R = W (zb ρ (.nilck x)) (atS s R) := ZA rfl
theorem SY {z : List Value} {parts : List (Nat × Nat × Operand)} : W (dop call ρ s (.build z parts)) R = W (zg ρ z parts) (atG s R) := by
 rw [ZA rfl]
 simp only [zb]
 cases zg ρ z parts <;> simp only [z7, Yt, atS, atD, atG, atL]
theorem Lp {f : FuncId} {a b : List Operand} : W (dop call ρ s (.mkf f a b)) R = R (.func (.func f) ⟨a.map ρ⟩ ⟨b.map ρ⟩, s) := by rw [ZA rfl]; exact z7
theorem Ln {x : Operand} {lo hi : Option Operand} : W (dop call ρ s (.slS x lo hi)) R = W (zb ρ (.slS x lo hi)) (atS s R) := ZA rfl
theorem HQ {z : Nat} {x : Operand} {lo hi mx : Option Operand} : W (dop call ρ s (.slL z x lo hi mx)) R = W (zb ρ (.slL z x lo hi mx)) (atS s R) := ZA rfl
theorem Lo {n z : Nat} {x : Operand} {lo hi mx : Option Operand} : W (dop call ρ s (.slA n z x lo hi mx)) R = W (zb ρ (.slA n z x lo hi mx)) (atS s R) := ZA rfl
theorem N5 {off : Nat} {x : Operand} : W (dop call ρ s (.fadr off x)) R = W (zb ρ (.fadr off x)) (atS s R) := ZA rfl
theorem Lt {off : Nat} {agg : Option Nat} {x : Operand} : W (dop call ρ s (.fld off agg x)) R = W (zb ρ (.fld off agg x)) (atS s R) := ZA rfl
theorem Ls {n z : Nat} {x i : Operand} : W (dop call ρ s (.ixA n z x i)) R = W (zb ρ (.ixA n z x i)) (atS s R) := ZA rfl
theorem Lr {z : Nat} {x i : Operand} : W (dop call ρ s (.ixL z x i)) R = W (zb ρ (.ixL z x i)) (atS s R) := ZA rfl
theorem N4 {n z : Nat} {agg : Option Nat} {x i : Operand} : W (dop call ρ s (.idxA n z agg x i)) R = W (zb ρ (.idxA n z agg x i)) (atS s R) := ZA rfl
theorem N3 {x i : Operand} : W (dop call ρ s (.idxS x i)) R = W (zb ρ (.idxS x i)) (atS s R) := ZA rfl
theorem Lu {x : Operand} {i : Nat} : W (dop call ρ s (.ext x i)) R = W (zb ρ (.ext x i)) (atS s R) := ZA rfl
theorem SZ {x : Operand} : W (dop call ρ s (.blenS x)) R = W (zb ρ (.blenS x)) (atS s R) := ZA rfl
theorem Rd {x : Operand} : W (dop call ρ s (.blenL x)) R = W (zb ρ (.blenL x)) (atS s R) := ZA rfl
theorem Rf {x : Operand} : W (dop call ρ s (.bcapL x)) R = W (zb ρ (.bcapL x)) (atS s R) := ZA rfl
theorem Re {n : Nat} : W (dop call ρ s (.blenA n)) R = R (.int .i64 n, s) := by rw [ZA rfl]; exact z7
theorem N8 {x : List Operand} : W (dop call ρ s (.bmin x)) R = W (zb ρ (.bmin x)) (atS s R) := ZA rfl
theorem N9 {x : List Operand} : W (dop call ρ s (.bmax x)) R = W (zb ρ (.bmax x)) (atS s R) := ZA rfl
theorem HS {a : Operand} : W (dop call ρ s (.ld none a)) R = W (ldV (ρ a) s) (atS s R) := by
 rw [GJ rfl]
 rfl
theorem Lq {n : Nat} {a : Operand} : W (dop call ρ s (.ld (some n) a)) R = W (ldA n (ρ a) s) (atS s R) := by
 rw [GJ rfl]
 rfl
theorem FR {x : Operand} : W (dop call ρ s (.cvToStr x)) R = W (zo ρ s (.cvToStr x)) (atS s R) := GJ rfl
theorem N2 {str : KT} {ok : Bool} {z : Value} {m k : Operand} : W (dop call ρ s (.look str z ok m k)) R = W (zo ρ s (.look str z ok m k)) (atS s R) := GJ rfl
theorem Rc {x : Operand} : W (dop call ρ s (.blenM x)) R = W (zo ρ s (.blenM x)) (atS s R) := GJ rfl
theorem HP {n : Nat} {a x : Operand} : W (dop call ρ s (.st n a x)) R = W (F2 n (ρ a) (ρ x) s) (atD R) := by
 rw [Ny]
 cases F2 n (ρ a) (ρ x) s <;> simp only [z7, Yt, atS, atD, atG, atL]
theorem Rg {z : List Value} : W (dop call ρ s (.alloc z)) R = R (.pointer (some ⟨s.next, 0, none⟩), s.new (.cells (.list z) false)) := z7
theorem Lw {x : Operand} : W (dop call ρ s (.box x)) R = R (.pointer (some ⟨s.next, 0, none⟩), s.new (.cells (.list (ρ x).cells.toList) false)) := z7
theorem C8 {n z : Nat} {zs : List Value} {parts : List (Nat × Nat × Operand)} (h : Nat.ble (n * z) 1048576 = true) :
 W (dop call ρ s (.bslice n z zs parts)) R = W (zg ρ (repeatZ zs n) parts) (atL n s R) := by
 show W (z8 ρ s (.bslice n z zs parts)) R = _
 unfold z8
 simp only [h, if_true]
 cases zg ρ (repeatZ zs n) parts <;> simp only [z7, Yt, atS, atD, atG, atL]
theorem SV : W (dop call ρ s (.mkmap none)) R = R (.map (some s.next), s.new (.map [] 0)) := z7
theorem Kv {o : DOp} (h : o.cls = .write) : W (dop call ρ s o) R = W (zn ρ s o) R := by unfold dop; rw [h]
theorem N7 {f : Operand} {args : List Operand} : W (dop call ρ s (.call f args)) R = W (call (ρ f) (args.map ρ) s) R := rfl
end
def Ve (v : Value) (A B : Prop) : Prop := match v with
 | .bool b => (b = true → A) ∧ (b = false → B)
 | _ => False
@[congr] theorem condP_congr {v v' : Value} {A B : Prop} (h : v = v') : Ve v A B = Ve v' A B := by rw [h]
theorem TI {A B : Prop} : Ve (.bool true) A B = A := by simp [Ve]
theorem CK {A B : Prop} : Ve (.bool false) A B = B := by simp [Ve]
def WD (v : Option Value) (w : Bool) (A B : Prop) : Prop := match v with
 | some (.bool b) => (b = w → A) ∧ (¬ b = w → B)
 | _ => B
@[congr] theorem gateP_congr {v v' : Option Value} {w : Bool} {A B : Prop} (h : v = v') : WD v w A B = WD v' w A B := by rw [h]
theorem Nj {A B : Prop} : WD (some (.bool true)) true A B = A := by simp [WD]
theorem Nk {A B : Prop} : WD (some (.bool true)) false A B = B := by simp [WD]
theorem Nl {A B : Prop} : WD (some (.bool false)) true A B = B := by simp [WD]
theorem Nm {A B : Prop} : WD (some (.bool false)) false A B = A := by simp [WD]
def WO (call : zy) (ops : List z9) (nt : List ZW) (t : PT Value) (s : DS) (K : PT Value → DS → Prop) : Prop := W (Xf call ops nt t s) fun p => K p.1 p.2
@[congr] theorem WO_congr {call : zy} {ops : List z9} {nt : List ZW} {t t' : PT Value} {s s' : DS} {K : PT Value → DS → Prop} (h : t = t') (h' : s = s') : WO call ops nt t s K = WO call ops nt t' s' K := by rw [h, h']
def mask (s : DS) (nt : List ZW) (haz : List Nat) : DS := { s with vis := fun k => s.vis k && !hidden nt haz k, wr := fun k => s.wr k && !hidden nt haz k && !shielded nt haz k }
def unmask (s s' : DS) : DS := { s' with vis := s.vis, wr := s.wr }
section
variable {call : zy} {rest : List z9} {nt : List ZW} {t : PT Value} {s : DS} {K : PT Value → DS → Prop}
theorem Mb : WO call [] nt t s K = K t s := z7
def NG (call : zy) (rest : List z9) (nt : List ZW) (d : Option Nat) (t : PT Value) (K : PT Value → DS → Prop) : Value × DS → Prop := fun r => WO call rest nt (YQ t d r.1) r.2 K
def Lk (call : zy) (rest : List z9) (nt : List ZW) (ft : List Nat) (lo : Nat) (d : Option Nat) (t : PT Value) (K : PT Value → DS → Prop) : Value × DS → Prop := fun r => WO call rest (nt ++ [⟨ft, lo, r.2.next⟩]) (YQ t d r.1) r.2 K
def Ll (call : zy) (rest : List z9) (nt : List ZW) (d : Option Nat) (t : PT Value) (s : DS) (K : PT Value → DS → Prop) : Value × DS → Prop := fun r => WO call rest nt (YQ t d r.1) (unmask s r.2) K
def NH (call : zy) (rest : List z9) (nt : List ZW) (ft : List Nat) (lo : Nat) (d : Option Nat) (t : PT Value) (s : DS) (K : PT Value → DS → Prop) : Value × DS → Prop := fun r => WO call rest (nt ++ [⟨ft, lo, r.2.next⟩]) (YQ t d r.1) (unmask s r.2) K
theorem CG {d : Option Nat} {v : Value} {s' : DS} : NG call rest nt d t K (v, s') = WO call rest nt (YQ t d v) s' K := rfl
theorem CH {ft : List Nat} {lo : Nat} {d : Option Nat} {v : Value} {s' : DS} : Lk call rest nt ft lo d t K (v, s') = WO call rest (nt ++ [⟨ft, lo, s'.next⟩]) (YQ t d v) s' K := rfl
theorem CI {d : Option Nat} {v : Value} {s' : DS} : Ll call rest nt d t s K (v, s') = WO call rest nt (YQ t d v) (unmask s s') K := rfl
theorem FG {ft : List Nat} {lo : Nat} {d : Option Nat} {v : Value} {s' : DS} : NH call rest nt ft lo d t s K (v, s') = WO call rest (nt ++ [⟨ft, lo, s'.next⟩]) (YQ t d v) (unmask s s') K := rfl
theorem LA {d : Option Nat} {op : DOp} : WO call (⟨d, op, none, [], false⟩ :: rest) nt t s K = W (dop call (ev t) s op) (NG call rest nt d t K) := by
 unfold WO
 simp only [Xf, Zk, if_true]
 cases dop call (ev t) s op with
 | none => simp only [Yt]
 | some r => obtain ⟨v, s'⟩ := r; simp only [z7]; rfl
theorem LB {d : Option Nat} {op : DOp} : WO call (⟨d, op, none, [], true⟩ :: rest) nt t s K = W (dop call (ev t) s op) (Lk call rest nt (foot (ev t) s op) s.next d t K) := by
 unfold WO
 simp only [Xf, Zk, if_true]
 cases dop call (ev t) s op with
 | none => simp only [Yt]
 | some r => obtain ⟨v, s'⟩ := r; simp only [z7, if_true]; rfl
def Fy (g : Option Value) (b : Bool) (call : zy) (o : z9) (rest : List z9) (nt : List ZW) (t : PT Value) (s : DS) (K : PT Value → DS → Prop) : Prop :=
 WD g b (WO call (⟨o.dst, o.op, none, o.haz, o.note⟩ :: rest) nt t s K) (WO call rest (if o.note then nt ++ [⟨[], s.next, s.next⟩] else nt) (YQ t o.dst zK) s K)
theorem Cj {g : Nat} {b : Bool} {A B : Prop} : ((Zk t (some (g, b)) = true → A) ∧ (¬ Zk t (some (g, b)) = true → B)) = WD (t.get g) b A B := by
 simp only [Zk]
 generalize t.get g = o
 unfold WD
 cases o with
 | none => simp
 | some v => cases v <;> simp
theorem M1 {o : z9} {g : Nat} {b : Bool} : WO call (⟨o.dst, o.op, some (g, b), o.haz, o.note⟩ :: rest) nt t s K = WD (t.get g) b (WO call (⟨o.dst, o.op, none, o.haz, o.note⟩ :: rest) nt t s K) (WO call rest (if o.note then nt ++ [⟨[], s.next, s.next⟩] else nt) (YQ t o.dst zK) s K) := by
 rw [← Cj]
 unfold WO
 simp only [Xf]
 cases hw : Zk t (some (g, b)) with
 | true => simp [Zk]
 | false => simp
theorem HT {d : Option Nat} {op : DOp} {g : Nat} {b : Bool} {haz : List Nat} {n : Bool} : WO call (⟨d, op, some (g, b), haz, n⟩ :: rest) nt t s K = Fy (t.get g) b call ⟨d, op, none, haz, n⟩ rest nt t s K :=
 M1 (o := ⟨d, op, none, haz, n⟩)
theorem Cl {o : z9} : Fy (some (.bool true)) true call o rest nt t s K = WO call (⟨o.dst, o.op, none, o.haz, o.note⟩ :: rest) nt t s K := Nj
theorem Cm {o : z9} : Fy (some (.bool true)) false call o rest nt t s K = WO call rest (if o.note then nt ++ [⟨[], s.next, s.next⟩] else nt) (YQ t o.dst zK) s K := Nk
theorem Cn {o : z9} : Fy (some (.bool false)) true call o rest nt t s K = WO call rest (if o.note then nt ++ [⟨[], s.next, s.next⟩] else nt) (YQ t o.dst zK) s K := Nl
theorem Co {o : z9} : Fy (some (.bool false)) false call o rest nt t s K = WO call (⟨o.dst, o.op, none, o.haz, o.note⟩ :: rest) nt t s K := Nm
theorem Ck {b : Bool} {o : z9} : Fy (some zK) b call o rest nt t s K = WO call rest (if o.note then nt ++ [⟨[], s.next, s.next⟩] else nt) (YQ t o.dst zK) s K := rfl
theorem LD {d : Option Nat} {op : DOp} {h : Nat} {hs : List Nat} : WO call (⟨d, op, none, h :: hs, true⟩ :: rest) nt t s K = W (dop call (ev t) (mask s nt (h :: hs)) op) (NH call rest nt (foot (ev t) s op) s.next d t s K) := by
 unfold WO
 simp only [Xf, Zk, if_true]
 show W (match dop call (ev t) (mask s nt (h :: hs)) op with | some (v, s') => _ | none => _) _ = _
 cases dop call (ev t) (mask s nt (h :: hs)) op with
 | none => simp only [Yt]
 | some r => obtain ⟨v, s'⟩ := r; simp only [z7]; rfl
theorem LC {d : Option Nat} {op : DOp} {h : Nat} {hs : List Nat} : WO call (⟨d, op, none, h :: hs, false⟩ :: rest) nt t s K = W (dop call (ev t) (mask s nt (h :: hs)) op) (Ll call rest nt d t s K) := by
 unfold WO
 simp only [Xf, Zk, if_true]
 show W (match dop call (ev t) (mask s nt (h :: hs)) op with | some (v, s') => _ | none => _) _ = _
 cases dop call (ev t) (mask s nt (h :: hs)) op with
 | none => simp only [Yt]
 | some r => obtain ⟨v, s'⟩ := r; simp only [z7]; rfl
end
def WC (call : zy) (lf : Nat) (r : Bool) (c : DCode) (x : St) (K : DExit → St → Prop) : Prop := W (zV call lf r c x) fun p => K p.1 p.2
@[congr] theorem WC_congr {call : zy} {lf : Nat} {r : Bool} {c : DCode} {x x' : St} {K : DExit → St → Prop} (h : x = x') : WC call lf r c x K = WC call lf r c x' K := by rw [h]
def onN (e : DExit) (x : St) (A : St → Prop) (B : DExit → St → Prop) : Prop := match e with
 | .normal => A x
 | e => B e x
@[congr] theorem onN_congr {e : DExit} {x x' : St} {A : St → Prop} {B : DExit → St → Prop} (h : x = x') : onN e x A B = onN e x' A B := by rw [h]
def onE (id : Nat) (e : DExit) (x : St) (K : DExit → St → Prop) : Prop := match e with
 | .exit j => if j = id then K .normal x else K (.exit j) x
 | e => K e x
@[congr] theorem onE_congr {id : Nat} {e : DExit} {x x' : St} {K : DExit → St → Prop} (h : x = x') : onE id e x K = onE id e x' K := by rw [h]
section
variable {call : zy} {lf : Nat} {r : Bool} {x : St} {t : PT Value} {s : DS} {ds : List Nat} {K : DExit → St → Prop}
def CE (call : zy) (lf : Nat) (r : Bool) (b : DCode) (K : DExit → St → Prop) : DExit → St → Prop := fun e y => onN e y (fun y => WC call lf r b y K) K
def Vd (i : Nat) (K : DExit → St → Prop) : DExit → St → Prop := fun e y => onE i e y K
def NF (ds : List Nat) (K : DExit → St → Prop) : PT Value → DS → Prop := fun t' s' => K .normal ⟨t', s', ds⟩
theorem Qx {b : DCode} {y : St} : CE call lf r b K .normal y = WC call lf r b y K := rfl
theorem FE {b : DCode} {y : St} : CE call lf r b K .ret y = K .ret y := rfl
theorem GB {b : DCode} {y : St} {i : Nat} : CE call lf r b K (.exit i) y = K (.exit i) y := rfl
theorem Ko {i : Nat} {y : St} : Vd i K .normal y = K .normal y := rfl
theorem FH {i : Nat} {y : St} : Vd i K .ret y = K .ret y := rfl
theorem GD {i : Nat} {y : St} : Vd i K (.exit i) y = K .normal y := by simp [Vd, onE]
theorem Vc {i j : Nat} {y : St} (h : ¬ j = i) : Vd i K (.exit j) y = K (.exit j) y := by simp [Vd, onE, h]
theorem CF {t' : PT Value} {s' : DS} : NF ds K t' s' = K .normal ⟨t', s', ds⟩ := rfl
def FI (v : Value) (call : zy) (lf : Nat) (r : Bool) (a b : DCode) (x : St) (K : DExit → St → Prop) : Prop := Ve v (WC call lf r a x K) (WC call lf r b x K)
theorem JM {a b : DCode} : FI (.bool true) call lf r a b x K = WC call lf r a x K := TI
theorem Q7 {a b : DCode} : FI (.bool false) call lf r a b x K = WC call lf r b x K := CK
theorem Rh : WC call lf r .skip x K = K .normal x := z7
theorem Md : WC call lf r .ret x K = K .ret x := z7
theorem Rj {i : Nat} : WC call lf r (.exit i) x K = K (.exit i) x := z7
theorem FS {ops : List z9} : WC call lf r (.region ops) ⟨t, s, ds⟩ K = WO call ops [] t s (NF ds K) := by
 unfold WC WO NF
 simp only [zV]
 cases Xf call ops [] t s with
 | none => simp only [Yt]
 | some p => obtain ⟨a, b⟩ := p; simp only [z7]
theorem Mc {a b : DCode} : WC call lf r (.seq a b) x K = WC call lf r a x (CE call lf r b K) := by
 unfold CE WC
 simp only [zV]
 cases zV call lf r a x with
 | none => simp only [Yt]
 | some p =>
  obtain ⟨e, y⟩ := p
  cases e <;> simp only [z7, onN]
theorem Rk {c : Operand} {a b : DCode} : WC call lf r (.cond c a b) x K = FI (ev x.t c) call lf r a b x K := by
 unfold FI WC Ve
 simp only [zV]
 split
 · rename_i h; simp [h]
 · rename_i h; simp [h]
 · rename_i h1 h2
   split
   · rename_i c hc; cases c with
     | true => exact absurd hc h1
     | false => exact absurd hc h2
   · simp only [Yt]
theorem C9 {i : Nat} {b : DCode} : WC call lf r (.block i b) x K = WC call lf r b x (Vd i K) := by
 unfold Vd WC
 simp only [zV]
 cases zV call lf r b x with
 | none => simp only [Yt]
 | some p =>
  obtain ⟨e, y⟩ := p
  cases e <;> simp only [z7, onE]
  split <;> simp only [z7]
theorem Ri {c : DCode} {K' : DExit → St → Prop} (h : WC call lf r c x K) (hk : ∀ e y, K e y → K' e y) : WC call lf r c x K' := W.mono h fun p hp => hk _ _ hp
def SN (I : Nat → St → Prop) (m : Nat) (K : DExit → St → Prop) : DExit → St → Prop := fun e z => onN e z (fun z => ∃ m', m' < m ∧ I m' z) K
theorem Kn {I : Nat → St → Prop} {m : Nat} {z : St} : SN I m K .normal z = ∃ m', m' < m ∧ I m' z := rfl
theorem FF {I : Nat → St → Prop} {m : Nat} {z : St} : SN I m K .ret z = K .ret z := rfl
theorem GC {I : Nat → St → Prop} {m : Nat} {z : St} {i : Nat} : SN I m K (.exit i) z = K (.exit i) z := rfl
theorem zY {b : DCode} (I : Nat → St → Prop) (n : Nat) (hn : n < lf) (h0 : I n x)
 (hs : ∀ m y, m ≤ n → I m y → WC call lf r b y (SN I m K)) : WC call lf r (.loop b) x K := by
 have key : ∀ (f m : Nat) (y : St), m < f → m ≤ n → I m y → W (Qb (zV call lf r b) f y) fun p => K p.1 p.2 := by
  intro f
  induction f with
  | zero => intro m y h; exact absurd h (Nat.not_lt_zero _)
  | succ f ih =>
   intro m y hm hmn hI
   obtain ⟨⟨e, z⟩, he, hz⟩ := hs m y hmn hI
   simp only [Qb, he]
   cases e with
   | normal =>
    obtain ⟨m', hm', hI'⟩ := hz
    exact ih m' z (by omega) (by omega) hI'
   | ret => exact ⟨_, rfl, hz⟩
   | exit i => exact ⟨_, rfl, hz⟩
 exact key lf n x hn (Nat.le_refl _) h0
end
def Ends (rs : List DRes) (Q : Value × DS → Prop) (e : DExit) (x : St) : Prop := match e with
 | .exit _ => False
 | _ => W (ZN x.s x.defers) fun s' => W (za x.t s' rs) fun vs => Q (zd vs, s')
theorem Zo {E : Env} {d g : Nat} {fn : zp} {a b : Array Value} {args : List Value} {s : DS} {Q : Value × DS → Prop} (hi : E.intr g = none) (hf : E.fn g = some fn) (hl : Nat.ble (a.toList ++ (args ++ b.toList)).length fn.ntmps = true) :
 W (dcall E (d + 1) (.func (.func g) a b) args s) Q = WC (dcall E d) E.lf false fn.body ⟨Kt (a.toList ++ (args ++ b.toList)), s, []⟩ (Ends fn.results Q) := by
 simp only [dcall, hi, hf, hl, if_true]
 unfold WC
 cases zV (dcall E d) E.lf false fn.body ⟨Kt (a.toList ++ (args ++ b.toList)), s, []⟩ with
 | none => simp only [Yt]
 | some p =>
  obtain ⟨e, x⟩ := p
  have key : W (match ZN x.s x.defers with | some s' => (match za x.t s' fn.results with | some vs => some (zd vs, s') | none => none) | none => none) Q = W (ZN x.s x.defers) fun s' => W (za x.t s' fn.results) fun vs => Q (zd vs, s') := by
   cases ZN x.s x.defers with
   | none => simp only [Yt]
   | some s' =>
    simp only [z7]
    cases za x.t s' fn.results <;> simp only [z7, Yt]
  cases e with
  | exit i => simp only [z7, Yt, Ends]
  | normal => simp only [z7, Ends]; exact key
  | ret => simp only [z7, Ends]; exact key
theorem Ta {rs : List DRes} {Q : Value × DS → Prop} {t : PT Value} {s : DS} : Ends rs Q .ret ⟨t, s, []⟩ = W (za t s rs) fun vs => Q (zd vs, s) := by
 simp only [Ends, ZN, z7]
theorem Vi {rs : List DRes} {Q : Value × DS → Prop} {t : PT Value} {s : DS} : Ends rs Q .normal ⟨t, s, []⟩ = W (za t s rs) fun vs => Q (zd vs, s) := by
 simp only [Ends, ZN, z7]
theorem Wm {α : Type} {t : PT α} {k : Nat} {x : Option α} : (t.put k x).get k = x := by rw [PT.get_put, if_pos rfl]
theorem Wl {α : Type} {t : PT α} {k j : Nat} {x : Option α} (h : ¬ j = k) : (t.put k x).get j = t.get j := by rw [PT.get_put, if_neg h]
theorem Ns {t : PT Value} {i : Nat} : ev t (.tmp i) = (t.get i).getD zK := rfl
theorem Cu {t : PT Value} {v : Value} : ev t (.const v) = v := rfl
theorem SH {t : PT Value} {f : Nat} : ev t (.func f) = .func (.func f) #[] #[] := rfl
theorem Fo {t : PT Value} {i : Nat} {v : Value} : YQ t (some i) v = t.put i (some v) := rfl
theorem Fp {t : PT Value} {v : Value} : YQ t none v = t := rfl
namespace DS
def upd (s : DS) (k : Nat) (o : DObj) : DS := if (s.get k).isSome then { s with heap := s.heap.put k (some o) } else s
def rid (s : DS) (k : Nat) : DS := if (s.get k).isSome then { s with heap := s.heap.put k none } else s
def Good (s : DS) : Prop := ∀ k, s.next ≤ k → s.vis k = true ∧ s.wr k = true
variable {s : DS} {k j : Nat} {o o' : DObj}
theorem upd_next : (s.upd k o).next = s.next := by unfold upd; split <;> rfl
theorem upd_vis : (s.upd k o).vis = s.vis := by unfold upd; split <;> rfl
theorem upd_wr : (s.upd k o).wr = s.wr := by unfold upd; split <;> rfl
theorem rid_next : (s.rid k).next = s.next := by unfold rid; split <;> rfl
theorem rid_vis : (s.rid k).vis = s.vis := by unfold rid; split <;> rfl
theorem rid_wr : (s.rid k).wr = s.wr := by unfold rid; split <;> rfl
theorem new_next : (s.new o).next = s.next + 1 := rfl
theorem new_wr : (s.new o).wr = s.wr := rfl
theorem get_lt' (h : s.get k = some o) : k < s.next := by
 unfold get at h
 split at h
 · rename_i c
   simp only [Bool.and_eq_true] at c
   exact Wq c.1
 · cases h
theorem upd_get_self : (s.upd k o).get k = (s.get k).map fun _ => o := by
 unfold upd
 cases h : s.get k with
 | none => simp [h]
 | some p =>
  simp only [Option.isSome_some, if_true, Option.map_some]
  have h2 := h
  unfold get at h2 ⊢
  split at h2
  · rename_i c
    simp only [c, if_true, Wm]
  · cases h2
theorem upd_get_ne (h : ¬ j = k) : (s.upd k o).get j = s.get j := by
 unfold upd
 split
 · unfold get
   simp only [Wl h]
 · rfl
theorem rid_get_ne (h : ¬ j = k) : (s.rid k).get j = s.get j := by
 unfold rid
 split
 · unfold get
   simp only [Wl h]
 · rfl
theorem new_get_lt (h : j < s.next) : (s.new o).get j = s.get j := by
 have h1 : Nat.blt j s.next = true := Qe h
 have h2 : Nat.blt j (s.next + 1) = true := Qe (by omega)
 unfold new get
 simp only [h1, h2, Bool.true_and]
 rw [Wl (by omega)]
theorem new_get_self (h : s.Good) : (s.new o).get s.next = some o := by
 have h2 : Nat.blt s.next (s.next + 1) = true := Qe (by omega)
 unfold new get
 simp only [h2, (h s.next (Nat.le_refl _)).1, Bool.true_and, if_true, Wm]
theorem upd_good : (s.upd k o).Good = s.Good := by unfold Good; rw [upd_next, upd_vis, upd_wr]
theorem rid_good : (s.rid k).Good = s.Good := by unfold Good; rw [rid_next, rid_vis, rid_wr]
theorem new_good (h : s.Good) : (s.new o).Good := fun i hi => h i (by have : s.next + 1 ≤ i := hi; omega)
theorem set_upd (h : (s.get k).isSome = true) (hw : s.wr k = true) : s.set k o = some (s.upd k o) := by
 unfold set upd
 rw [if_pos hw, if_pos h]
theorem kill_rid (h : (s.get k).isSome = true) (hw : s.wr k = true) : s.kill k = some (s.rid k) := by
 unfold kill rid
 rw [if_pos hw, if_pos h]
def wrC (s : DS) (k off : Nat) (l : List Value) : Option DS :=
 match s.get k with
 | some (.cells c false) => if Nat.ble (off + l.length) c.size && s.wr k then some (s.upd k (.cells (c.fillFrom off l) false)) else none
 | _ => none
theorem write_eq {off : Nat} {l : List Value} : s.write k off l = s.wrC k off l := by
 unfold write wrC
 cases hg : s.get k with
 | none => rfl
 | some ob =>
  cases ob with
  | cells c ro =>
   cases ro with
   | true => rfl
   | false =>
    simp only
    cases h1 : Nat.ble (off + l.length) c.size with
    | false => rfl
    | true =>
     simp only [Bool.true_and, if_true]
     cases h2 : s.wr k with
     | false => unfold set; simp [h2]
     | true => simp only [if_true]; exact set_upd (by rw [hg]; rfl) h2
  | _ => rfl
end DS
theorem M9 {size : Nat} {k off : Nat} {x : Value} {s : DS} : F2 size (.pointer (some ⟨k, off, none⟩)) x s = if Nat.beq x.cells.toList.length size && allOne x.cells.toList then s.wrC k off x.cells.toList else none := by
 simp only [F2, DS.write_eq]
structure Ext (F : List Nat) (s s' : DS) : Prop where
 le : s.next ≤ s'.next
 vis : s'.vis = s.vis
 wr : s'.wr = s.wr
 get : ∀ k, k < s.next → k ∉ F → s'.get k = s.get k
namespace Ext
variable {F G : List Nat} {s s1 s2 : DS} {k : Nat} {o o' : DObj}
theorem refl : Ext F s s := ⟨Nat.le_refl _, rfl, rfl, fun _ _ _ => rfl⟩
theorem trans (h : Ext F s s1) (h' : Ext G s1 s2) (hG : ∀ k, k ∈ G → k ∈ F ∨ s.next ≤ k) : Ext F s s2 :=
 ⟨Nat.le_trans h.le h'.le, h'.vis.trans h.vis, h'.wr.trans h.wr, fun k hk hf => (h'.get k (Nat.lt_of_lt_of_le hk h.le) fun hg => (hG k hg).elim hf fun h2 => by omega).trans (h.get k hk hf)⟩
theorem trans' (h : Ext F s s1) (h' : Ext F s1 s2) : Ext F s s2 := h.trans h' fun _ hk => .inl hk
theorem weaken (h : Ext F s s1) (hG : ∀ k, k ∈ F → k ∈ G ∨ s.next ≤ k) : Ext G s s1 := ⟨h.le, h.vis, h.wr, fun k hk hg => h.get k hk fun hf => (hG k hf).elim hg fun h2 => by omega⟩
theorem new : Ext F s (s.new o) := ⟨Nat.le_succ _, rfl, rfl, fun k hk _ => DS.new_get_lt hk⟩
theorem upd (h : k ∈ F ∨ s.next ≤ k) : Ext F s (s.upd k o) := ⟨by rw [DS.upd_next]; exact Nat.le_refl _, DS.upd_vis, DS.upd_wr, fun j hj hf => DS.upd_get_ne fun e => by subst e; exact h.elim hf (fun h => absurd hj (Nat.not_lt.2 h))⟩
theorem rid (h : k ∈ F ∨ s.next ≤ k) : Ext F s (s.rid k) := ⟨by rw [DS.rid_next]; exact Nat.le_refl _, DS.rid_vis, DS.rid_wr, fun j hj hf => DS.rid_get_ne fun e => by subst e; exact h.elim hf (fun h => absurd hj (Nat.not_lt.2 h))⟩
theorem good (h : Ext F s s1) (hg : s.Good) : s1.Good := fun i hi => by rw [h.vis, h.wr]; exact hg i (Nat.le_trans h.le hi)
theorem keep (h : Ext F s s1) (hg : s.get k = some o) (hf : k ∉ F) : s1.get k = some o := (h.get k (DS.get_lt' hg) hf).trans hg
theorem wrs (h : Ext F s s1) (hw : s.wr k = true) : s1.wr k = true := by rw [h.wr]; exact hw
end Ext
theorem zh {E : Env} {d g : Nat} {fn : zp} {args : List Value} {s : DS} {Q : Value × DS → Prop} (hi : E.intr g = none) (hf : E.fn g = some fn) (hl : Nat.ble args.length fn.ntmps = true) :
 W (dcall E (d + 1) (.func (.func g) #[] #[]) args s) Q = WC (dcall E d) E.lf false fn.body ⟨Kt args, s, []⟩ (Ends fn.results Q) := by
 have h := Zo (E := E) (d := d) (a := #[]) (b := #[]) (args := args) (s := s) (Q := Q) hi hf (by simpa using hl)
 simpa using h
theorem Ki {E : Env} {d g : Nat} {F : List Value → DS → Option (Value × DS)} {args : List Value} {s : DS} {r : Value × DS} (hi : E.intr g = some F) (h : F args s = some r) : dcall E (d + 1) (.func (.func g) #[] #[]) args s = some r := by
 simp [dcall, hi, h]
theorem MP {k : SK} {x y : Value} : YJ 5000 (.one k) x y = zJ k x y := rfl
section
variable {call : zy} {ρ : Operand → Value} {s : DS} {R : Value × DS → Prop}
theorem Lv {n : Bool} {k : SK} {x y : Operand} : W (dop call ρ s (.eq n (.one k) x y)) R = W (zJ k (ρ x) (ρ y)) (atB n s R) := by
 rw [N6]
 simp only [zb, MP]
 cases zJ k (ρ x) (ρ y) <;> simp only [z7, Yt, atB, atS]
theorem N1 {str : KT} {m k x : Operand} : W (dop call ρ s (.mupd str m k x)) R = W (zn ρ s (.mupd str m k x)) R := Kv rfl
theorem Ma {str : KT} {m k : Operand} : W (dop call ρ s (.bdel str m k)) R = W (zn ρ s (.bdel str m k)) R := Kv rfl
theorem Hc {b z : Nat} {x y : Operand} : W (dop call ρ s (.bapp b z x y)) R = W (zn ρ s (.bapp b z x y)) R := Kv rfl
end
theorem P9 {k off : Nat} {s : DS} : ldV (.pointer (some ⟨k, off, none⟩)) s = (match s.get k with | some (.cells c _) => c.get off | _ => none) := rfl
theorem FN {k : IntKind} {n : Int} : (Value.int k n).cells.toList = [.int k n] := rfl
theorem GE {b : Bool} : (Value.bool b).cells.toList = [.bool b] := rfl
theorem FJ {b : ByteArray} : (Value.string b).cells.toList = [.string b] := rfl
theorem FK {a : Option Addr} : (Value.pointer a).cells.toList = [.pointer a] := rfl
theorem Vf {a : Option Addr} {n c : Nat} : (Value.slice a n c).cells.toList = [.slice a n c] := rfl
theorem FM {a : Option Nat} : (Value.map a).cells.toList = [.map a] := rfl
theorem cells_func {f : Fn} {a b : Array Value} : (Value.func f a b).cells.toList = [.func f a b] := rfl
theorem FO {l : List Value} : (Value.agg ⟨l⟩).cells.toList = l := rfl
theorem zi {n : Int} (h1 : -9223372036854775808 ≤ n) (h2 : n < 9223372036854775808) : zf .i64 n = n := by
 rw [Zh]
 simp [IntKind.wrap, IntKind.bits, IntKind.signed]
 omega
theorem Zg {s : DS} {nt : List ZW} {haz : List Nat} {k : Nat} (h : hidden nt haz k = false) : (mask s nt haz).get k = s.get k := by
 unfold mask DS.get
 simp [h]
theorem Zz (q : IntKind) (n : Nat) : zP (.int q (n : Int)) = some n := rfl
theorem W7 : ∀ (l : List Value) (i : Nat), getN l i = l[i]?
 | [], _ => rfl
 | _ :: _, 0 => rfl
 | _ :: l, i + 1 => by simpa [getN] using W7 l i
end Go.Dx
