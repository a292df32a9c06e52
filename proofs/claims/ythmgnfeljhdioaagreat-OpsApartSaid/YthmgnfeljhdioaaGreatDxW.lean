/- A part. -/
import Derived.Test.YthmgnfeljhdioaaGreatDxStir
set_option linter.unusedVariables false
set_option linter.unusedSimpArgs false
set_option linter.unusedSectionVars false
namespace Go.Dx
open Go
def W {α : Type} (r : Option α) (Q : α → Prop) : Prop := ∃ a, r = some a ∧ Q a
theorem W.intro {α : Type} {r : Option α} {Q : α → Prop} {a : α} (h : r = some a) (q : Q a) : W r Q := ⟨a, h, q⟩
theorem W.mono {α : Type} {r : Option α} {Q R : α → Prop} (h : W r Q) (q : ∀ a, Q a → R a) : W r R := by obtain ⟨a, e, h⟩ := h; exact ⟨a, e, q a h⟩
theorem zz {α : Type} {a : α} {Q : α → Prop} : W (some a) Q = Q a := by simp [W]
theorem Zx {α : Type} {Q : α → Prop} : W none Q = False := by simp [W]
@[congr] theorem W_congr {α : Type} {r r' : Option α} {Q : α → Prop} (h : r = r') : W r Q = W r' Q := by rw [h]
theorem Zz {α : Type} {r : Option α} {P : α → Prop} (h : ∀ Q : α → Prop, (∀ a, P a → Q a) → W r Q) : W r P := h P fun _ h => h
theorem TH {α : Type} {r : Option α} {a : α} : W r (fun x => x = a) ↔ r = some a := by simp [W]
def ldA (n : Nat) (a : Value) (s : DS) : Option Value :=
 match a with
 | .pointer (some ⟨k, off, none⟩) => match s.read k off n with
  | some l => some (.agg ⟨l⟩)
  | none => none
 | _ => none
def atS (s : DS) (R : Value × DS → Prop) : Value → Prop := fun v => R (v, s)
def atD (R : Value × DS → Prop) : DS → Prop := fun s' => R (zl, s')
def atG (s : DS) (R : Value × DS → Prop) : List Value → Prop := fun cs => R (.agg ⟨cs⟩, s)
def atB (n : Bool) (s : DS) (R : Value × DS → Prop) : Bool → Prop := fun b => R (.bool (if n then !b else b), s)
def atL (n : Nat) (s : DS) (R : Value × DS → Prop) : List Value → Prop := fun cs => R (.slice (some ⟨s.next, 0, none⟩) n n, s.new (.cells (.list cs) false))
theorem Tv {s : DS} {R : Value × DS → Prop} {v : Value} : atS s R v = R (v, s) := rfl
theorem Ty {R : Value × DS → Prop} {s' : DS} : atD R s' = R (zl, s') := rfl
theorem Tx {s : DS} {R : Value × DS → Prop} {cs : List Value} : atG s R cs = R (.agg ⟨cs⟩, s) := rfl
theorem Tz {n : Bool} {s : DS} {R : Value × DS → Prop} {b : Bool} : atB n s R b = R (.bool (if n then !b else b), s) := rfl
theorem Tw {n : Nat} {s : DS} {R : Value × DS → Prop} {cs : List Value} : atL n s R cs = R (.slice (some ⟨s.next, 0, none⟩) n n, s.new (.cells (.list cs) false)) := rfl
theorem RE {n : Nat} {s : DS} {R : Value × DS → Prop} {cs : List Value} : W (some cs) (atL n s R) = R (.slice (some ⟨s.next, 0, none⟩) n n, s.new (.cells (.list cs) false)) := zz
section
variable {call : zg} {ρ : Operand → Value} {s : DS} {R : Value × DS → Prop}
theorem PP {x : Operand} : W (dop call ρ s (.mv x)) R = R (ρ x, s) := zz
theorem zZ {o : DOp} (h : o.cls = .pure) : W (dop call ρ s o) R = W (zc ρ o) (atS s R) := by
 unfold dop
 rw [h]
 simp only
 cases zc ρ o <;> simp only [zz, Zx, atS, atD, atG, atL]
theorem J4 {o : DOp} (h : o.cls = .read) : W (dop call ρ s o) R = W (zi ρ s o) (atS s R) := by
 unfold dop
 rw [h]
 simp only
 cases zi ρ s o <;> simp only [zz, Zx, atS, atD, atG, atL]
theorem TE {c a b : Operand} : W (dop call ρ s (.pick c a b)) R = W (zc ρ (.pick c a b)) (atS s R) := zZ rfl
theorem RD {op : BinOp} {x y : Operand} : W (dop call ρ s (.bin op x y)) R = W (zy op (ρ x) (ρ y)) (atS s R) := zZ rfl
theorem PZ {n : Bool} {t : ET} {x y : Operand} : W (dop call ρ s (.eq n t x y)) R = W (zc ρ (.eq n t x y)) (atS s R) := zZ rfl
theorem PM {op : UnOp} {x : Operand} : W (dop call ρ s (.un op x)) R = W (zc ρ (.un op x)) (atS s R) := zZ rfl
theorem Di {k : IntKind} {x : Operand} : W (dop call ρ s (.cvInt k x)) R = W (zc ρ (.cvInt k x)) (atS s R) := zZ rfl
theorem Dh {x : Operand} : W (dop call ρ s (.cvStr x)) R = W (zc ρ (.cvStr x)) (atS s R) := zZ rfl
theorem Dd {x : Operand} : W (dop call ρ s (.nilck x)) R = W (zc ρ (.nilck x)) (atS s R) := zZ rfl
theorem Dj {z : List Value} {parts : List (Nat × Nat × Operand)} : W (dop call ρ s (.build z parts)) R = W (zq ρ z parts) (atG s R) := by
 rw [zZ rfl]
 simp only [zc]
 cases zq ρ z parts <;> simp only [zz, Zx, atS, atD, atG, atL]
theorem Rv {f : FuncId} {a b : List Operand} : W (dop call ρ s (.mkf f a b)) R = R (.func (.func f) ⟨a.map ρ⟩ ⟨b.map ρ⟩, s) := by rw [zZ rfl]; exact zz
theorem Rt {x : Operand} {lo hi : Option Operand} : W (dop call ρ s (.slS x lo hi)) R = W (zc ρ (.slS x lo hi)) (atS s R) := zZ rfl
theorem PO {z : Nat} {x : Operand} {lo hi mx : Option Operand} : W (dop call ρ s (.slL z x lo hi mx)) R = W (zc ρ (.slL z x lo hi mx)) (atS s R) := zZ rfl
theorem Ru {n z : Nat} {x : Operand} {lo hi mx : Option Operand} : W (dop call ρ s (.slA n z x lo hi mx)) R = W (zc ρ (.slA n z x lo hi mx)) (atS s R) := zZ rfl
theorem TK {off : Nat} {x : Operand} : W (dop call ρ s (.fadr off x)) R = W (zc ρ (.fadr off x)) (atS s R) := zZ rfl
theorem Rz {off : Nat} {agg : Option Nat} {x : Operand} : W (dop call ρ s (.fld off agg x)) R = W (zc ρ (.fld off agg x)) (atS s R) := zZ rfl
theorem Ry {n z : Nat} {x i : Operand} : W (dop call ρ s (.ixA n z x i)) R = W (zc ρ (.ixA n z x i)) (atS s R) := zZ rfl
theorem Rx {z : Nat} {x i : Operand} : W (dop call ρ s (.ixL z x i)) R = W (zc ρ (.ixL z x i)) (atS s R) := zZ rfl
theorem TJ {n z : Nat} {agg : Option Nat} {x i : Operand} : W (dop call ρ s (.idxA n z agg x i)) R = W (zc ρ (.idxA n z agg x i)) (atS s R) := zZ rfl
theorem TI {x i : Operand} : W (dop call ρ s (.idxS x i)) R = W (zc ρ (.idxS x i)) (atS s R) := zZ rfl
theorem RA {x : Operand} {i : Nat} : W (dop call ρ s (.ext x i)) R = W (zc ρ (.ext x i)) (atS s R) := zZ rfl
theorem Dk {x : Operand} : W (dop call ρ s (.blenS x)) R = W (zc ρ (.blenS x)) (atS s R) := zZ rfl
theorem Dm {x : Operand} : W (dop call ρ s (.blenL x)) R = W (zc ρ (.blenL x)) (atS s R) := zZ rfl
theorem Do {x : Operand} : W (dop call ρ s (.bcapL x)) R = W (zc ρ (.bcapL x)) (atS s R) := zZ rfl
theorem Dn {n : Nat} : W (dop call ρ s (.blenA n)) R = R (.int .i64 n, s) := by rw [zZ rfl]; exact zz
theorem TM {x : List Operand} : W (dop call ρ s (.bmin x)) R = W (zc ρ (.bmin x)) (atS s R) := zZ rfl
theorem TN {x : List Operand} : W (dop call ρ s (.bmax x)) R = W (zc ρ (.bmax x)) (atS s R) := zZ rfl
theorem PQ {a : Operand} : W (dop call ρ s (.ld none a)) R = W (ldV (ρ a) s) (atS s R) := by
 rw [J4 rfl]
 rfl
theorem Rw {n : Nat} {a : Operand} : W (dop call ρ s (.ld (some n) a)) R = W (ldA n (ρ a) s) (atS s R) := by
 rw [J4 rfl]
 rfl
theorem KN {x : Operand} : W (dop call ρ s (.cvToStr x)) R = W (zi ρ s (.cvToStr x)) (atS s R) := J4 rfl
theorem TG {str : KT} {ok : Bool} {z : Value} {m k : Operand} : W (dop call ρ s (.look str z ok m k)) R = W (zi ρ s (.look str z ok m k)) (atS s R) := J4 rfl
theorem Dl {x : Operand} : W (dop call ρ s (.blenM x)) R = W (zi ρ s (.blenM x)) (atS s R) := J4 rfl
theorem PN {n : Nat} {a x : Operand} : W (dop call ρ s (.st n a x)) R = W (Qh n (ρ a) (ρ x) s) (atD R) := by
 rw [Pb]
 cases Qh n (ρ a) (ρ x) s <;> simp only [zz, Zx, atS, atD, atG, atL]
theorem Dp {z : List Value} : W (dop call ρ s (.alloc z)) R = R (.pointer (some ⟨s.next, 0, none⟩), s.new (.cells (.list z) false)) := zz
theorem RC {x : Operand} : W (dop call ρ s (.box x)) R = R (.pointer (some ⟨s.next, 0, none⟩), s.new (.cells (.list (ρ x).cells.toList) false)) := zz
theorem GF {n z : Nat} {zs : List Value} {parts : List (Nat × Nat × Operand)} (h : Nat.ble (n * z) 1048576 = true) :
 W (dop call ρ s (.bslice n z zs parts)) R = W (zq ρ (repeatZ zs n) parts) (atL n s R) := by
 show W (zx ρ s (.bslice n z zs parts)) R = _
 unfold zx
 simp only [h, if_true]
 cases zq ρ (repeatZ zs n) parts <;> simp only [zz, Zx, atS, atD, atG, atL]
theorem De : W (dop call ρ s (.mkmap none)) R = R (.map (some s.next), s.new (.map [] 0)) := zz
theorem Vo {o : DOp} (h : o.cls = .write) : W (dop call ρ s o) R = W (zf ρ s o) R := by unfold dop; rw [h]
theorem TL {f : Operand} {args : List Operand} : W (dop call ρ s (.call f args)) R = W (call (ρ f) (args.map ρ) s) R := rfl
end
def QN (v : Value) (A B : Prop) : Prop := match v with
 | .bool b => (b = true → A) ∧ (b = false → B)
 | _ => False
@[congr] theorem condP_congr {v v' : Value} {A B : Prop} (h : v = v') : QN v A B = QN v' A B := by rw [h]
theorem Fg {A B : Prop} : QN (.bool true) A B = A := by simp [QN]
theorem Gy {A B : Prop} : QN (.bool false) A B = B := by simp [QN]
def YR (v : Option Value) (w : Bool) (A B : Prop) : Prop := match v with
 | some (.bool b) => (b = w → A) ∧ (¬ b = w → B)
 | _ => B
@[congr] theorem gateP_congr {v v' : Option Value} {w : Bool} {A B : Prop} (h : v = v') : YR v w A B = YR v' w A B := by rw [h]
theorem C4 {A B : Prop} : YR (some (.bool true)) true A B = A := by simp [YR]
theorem C5 {A B : Prop} : YR (some (.bool true)) false A B = B := by simp [YR]
theorem C6 {A B : Prop} : YR (some (.bool false)) true A B = B := by simp [YR]
theorem C7 {A B : Prop} : YR (some (.bool false)) false A B = A := by simp [YR]
def WO (call : zg) (ops : List zw) (nt : List Zc) (t : PT Value) (s : DS) (K : PT Value → DS → Prop) : Prop := W (ZD call ops nt t s) fun p => K p.1 p.2
@[congr] theorem WO_congr {call : zg} {ops : List zw} {nt : List Zc} {t t' : PT Value} {s s' : DS} {K : PT Value → DS → Prop} (h : t = t') (h' : s = s') : WO call ops nt t s K = WO call ops nt t' s' K := by rw [h, h']
def YV (s : DS) (nt : List Zc) (haz : List Nat) : DS := { s with vis := fun k => s.vis k && !hidden nt haz k, wr := fun k => s.wr k && !hidden nt haz k && !shielded nt haz k }
def Z5 (s s' : DS) : DS := { s' with vis := s.vis, wr := s.wr }
section
variable {call : zg} {rest : List zw} {nt : List Zc} {t : PT Value} {s : DS} {K : PT Value → DS → Prop}
theorem TP : WO call [] nt t s K = K t s := zz
def Rk (call : zg) (rest : List zw) (nt : List Zc) (d : Option Nat) (t : PT Value) (K : PT Value → DS → Prop) : Value × DS → Prop := fun r => WO call rest nt (Zn t d r.1) r.2 K
def Rm (call : zg) (rest : List zw) (nt : List Zc) (ft : List Nat) (lo : Nat) (d : Option Nat) (t : PT Value) (K : PT Value → DS → Prop) : Value × DS → Prop := fun r => WO call rest (nt ++ [⟨ft, lo, r.2.next⟩]) (Zn t d r.1) r.2 K
def Rn (call : zg) (rest : List zw) (nt : List Zc) (d : Option Nat) (t : PT Value) (s : DS) (K : PT Value → DS → Prop) : Value × DS → Prop := fun r => WO call rest nt (Zn t d r.1) (Z5 s r.2) K
def To (call : zg) (rest : List zw) (nt : List Zc) (ft : List Nat) (lo : Nat) (d : Option Nat) (t : PT Value) (s : DS) (K : PT Value → DS → Prop) : Value × DS → Prop := fun r => WO call rest (nt ++ [⟨ft, lo, r.2.next⟩]) (Zn t d r.1) (Z5 s r.2) K
theorem Gv {d : Option Nat} {v : Value} {s' : DS} : Rk call rest nt d t K (v, s') = WO call rest nt (Zn t d v) s' K := rfl
theorem Gw {ft : List Nat} {lo : Nat} {d : Option Nat} {v : Value} {s' : DS} : Rm call rest nt ft lo d t K (v, s') = WO call rest (nt ++ [⟨ft, lo, s'.next⟩]) (Zn t d v) s' K := rfl
theorem Gx {d : Option Nat} {v : Value} {s' : DS} : Rn call rest nt d t s K (v, s') = WO call rest nt (Zn t d v) (Z5 s s') K := rfl
theorem KD {ft : List Nat} {lo : Nat} {d : Option Nat} {v : Value} {s' : DS} : To call rest nt ft lo d t s K (v, s') = WO call rest (nt ++ [⟨ft, lo, s'.next⟩]) (Zn t d v) (Z5 s s') K := rfl
theorem RG {d : Option Nat} {op : DOp} : WO call (⟨d, op, none, [], false⟩ :: rest) nt t s K = W (dop call (ev t) s op) (Rk call rest nt d t K) := by
 unfold WO
 simp only [ZD, zr, if_true]
 cases dop call (ev t) s op with
 | none => simp only [Zx]
 | some r => obtain ⟨v, s'⟩ := r; simp only [zz]; rfl
theorem RI {d : Option Nat} {op : DOp} : WO call (⟨d, op, none, [], true⟩ :: rest) nt t s K = W (dop call (ev t) s op) (Rm call rest nt (foot (ev t) s op) s.next d t K) := by
 unfold WO
 simp only [ZD, zr, if_true]
 cases dop call (ev t) s op with
 | none => simp only [Zx]
 | some r => obtain ⟨v, s'⟩ := r; simp only [zz, if_true]; rfl
def Ks (g : Option Value) (b : Bool) (call : zg) (o : zw) (rest : List zw) (nt : List Zc) (t : PT Value) (s : DS) (K : PT Value → DS → Prop) : Prop :=
 YR g b (WO call (⟨o.dst, o.op, none, o.haz, o.note⟩ :: rest) nt t s K) (WO call rest (if o.note then nt ++ [⟨[], s.next, s.next⟩] else nt) (Zn t o.dst zl) s K)
theorem V6 {g : Nat} {b : Bool} {A B : Prop} : ((zr t (some (g, b)) = true → A) ∧ (¬ zr t (some (g, b)) = true → B)) = YR (t.get g) b A B := by
 simp only [zr]
 generalize t.get g = o
 unfold YR
 cases o with
 | none => simp
 | some v => cases v <;> simp
theorem SP {o : zw} {g : Nat} {b : Bool} : WO call (⟨o.dst, o.op, some (g, b), o.haz, o.note⟩ :: rest) nt t s K = YR (t.get g) b (WO call (⟨o.dst, o.op, none, o.haz, o.note⟩ :: rest) nt t s K) (WO call rest (if o.note then nt ++ [⟨[], s.next, s.next⟩] else nt) (Zn t o.dst zl) s K) := by
 rw [← V6]
 unfold WO
 simp only [ZD]
 cases hw : zr t (some (g, b)) with
 | true => simp [zr]
 | false => simp
theorem PR {d : Option Nat} {op : DOp} {g : Nat} {b : Bool} {haz : List Nat} {n : Bool} : WO call (⟨d, op, some (g, b), haz, n⟩ :: rest) nt t s K = Ks (t.get g) b call ⟨d, op, none, haz, n⟩ rest nt t s K :=
 SP (o := ⟨d, op, none, haz, n⟩)
theorem V9 {o : zw} : Ks (some (.bool true)) true call o rest nt t s K = WO call (⟨o.dst, o.op, none, o.haz, o.note⟩ :: rest) nt t s K := C4
theorem Ga {o : zw} : Ks (some (.bool true)) false call o rest nt t s K = WO call rest (if o.note then nt ++ [⟨[], s.next, s.next⟩] else nt) (Zn t o.dst zl) s K := C5
theorem Gb {o : zw} : Ks (some (.bool false)) true call o rest nt t s K = WO call rest (if o.note then nt ++ [⟨[], s.next, s.next⟩] else nt) (Zn t o.dst zl) s K := C6
theorem Gc {o : zw} : Ks (some (.bool false)) false call o rest nt t s K = WO call (⟨o.dst, o.op, none, o.haz, o.note⟩ :: rest) nt t s K := C7
theorem V7 {b : Bool} {o : zw} : Ks (some zl) b call o rest nt t s K = WO call rest (if o.note then nt ++ [⟨[], s.next, s.next⟩] else nt) (Zn t o.dst zl) s K := rfl
theorem RK {d : Option Nat} {op : DOp} {h : Nat} {hs : List Nat} : WO call (⟨d, op, none, h :: hs, true⟩ :: rest) nt t s K = W (dop call (ev t) (YV s nt (h :: hs)) op) (To call rest nt (foot (ev t) s op) s.next d t s K) := by
 unfold WO
 simp only [ZD, zr, if_true]
 show W (match dop call (ev t) (YV s nt (h :: hs)) op with | some (v, s') => _ | none => _) _ = _
 cases dop call (ev t) (YV s nt (h :: hs)) op with
 | none => simp only [Zx]
 | some r => obtain ⟨v, s'⟩ := r; simp only [zz]; rfl
theorem RJ {d : Option Nat} {op : DOp} {h : Nat} {hs : List Nat} : WO call (⟨d, op, none, h :: hs, false⟩ :: rest) nt t s K = W (dop call (ev t) (YV s nt (h :: hs)) op) (Rn call rest nt d t s K) := by
 unfold WO
 simp only [ZD, zr, if_true]
 show W (match dop call (ev t) (YV s nt (h :: hs)) op with | some (v, s') => _ | none => _) _ = _
 cases dop call (ev t) (YV s nt (h :: hs)) op with
 | none => simp only [Zx]
 | some r => obtain ⟨v, s'⟩ := r; simp only [zz]; rfl
end
def WC (call : zg) (lf : Nat) (r : Bool) (c : DCode) (x : St) (K : DExit → St → Prop) : Prop := W (zo call lf r c x) fun p => K p.1 p.2
@[congr] theorem WC_congr {call : zg} {lf : Nat} {r : Bool} {c : DCode} {x x' : St} {K : DExit → St → Prop} (h : x = x') : WC call lf r c x K = WC call lf r c x' K := by rw [h]
def onN (e : DExit) (x : St) (A : St → Prop) (B : DExit → St → Prop) : Prop := match e with
 | .normal => A x
 | e => B e x
@[congr] theorem onN_congr {e : DExit} {x x' : St} {A : St → Prop} {B : DExit → St → Prop} (h : x = x') : onN e x A B = onN e x' A B := by rw [h]
def onE (id : Nat) (e : DExit) (x : St) (K : DExit → St → Prop) : Prop := match e with
 | .exit j => if j = id then K .normal x else K (.exit j) x
 | e => K e x
@[congr] theorem onE_congr {id : Nat} {e : DExit} {x x' : St} {K : DExit → St → Prop} (h : x = x') : onE id e x K = onE id e x' K := by rw [h]
section
variable {call : zg} {lf : Nat} {r : Bool} {x : St} {t : PT Value} {s : DS} {ds : List Nat} {K : DExit → St → Prop}
def Gt (call : zg) (lf : Nat) (r : Bool) (b : DCode) (K : DExit → St → Prop) : DExit → St → Prop := fun e y => onN e y (fun y => WC call lf r b y K) K
def QM (i : Nat) (K : DExit → St → Prop) : DExit → St → Prop := fun e y => onE i e y K
def Tn (ds : List Nat) (K : DExit → St → Prop) : PT Value → DS → Prop := fun t' s' => K .normal ⟨t', s', ds⟩
theorem W4 {b : DCode} {y : St} : Gt call lf r b K .normal y = WC call lf r b y K := rfl
theorem KB {b : DCode} {y : St} : Gt call lf r b K .ret y = K .ret y := rfl
theorem JV {b : DCode} {y : St} {i : Nat} : Gt call lf r b K (.exit i) y = K (.exit i) y := rfl
theorem W6 {i : Nat} {y : St} : QM i K .normal y = K .normal y := rfl
theorem KE {i : Nat} {y : St} : QM i K .ret y = K .ret y := rfl
theorem JX {i : Nat} {y : St} : QM i K (.exit i) y = K .normal y := by simp [QM, onE]
theorem QL {i j : Nat} {y : St} (h : ¬ j = i) : QM i K (.exit j) y = K (.exit j) y := by simp [QM, onE, h]
theorem Gu {t' : PT Value} {s' : DS} : Tn ds K t' s' = K .normal ⟨t', s', ds⟩ := rfl
def F3 (v : Value) (call : zg) (lf : Nat) (r : Bool) (a b : DCode) (x : St) (K : DExit → St → Prop) : Prop := QN v (WC call lf r a x K) (WC call lf r b x K)
theorem JY {a b : DCode} : F3 (.bool true) call lf r a b x K = WC call lf r a x K := Fg
theorem QO {a b : DCode} : F3 (.bool false) call lf r a b x K = WC call lf r b x K := Gy
theorem Dq : WC call lf r .skip x K = K .normal x := zz
theorem TS : WC call lf r .ret x K = K .ret x := zz
theorem Dr {i : Nat} : WC call lf r (.exit i) x K = K (.exit i) x := zz
theorem KO {ops : List zw} : WC call lf r (.region ops) ⟨t, s, ds⟩ K = WO call ops [] t s (Tn ds K) := by
 unfold WC WO Tn
 simp only [zo]
 cases ZD call ops [] t s with
 | none => simp only [Zx]
 | some p => obtain ⟨a, b⟩ := p; simp only [zz]
theorem TQ {a b : DCode} : WC call lf r (.seq a b) x K = WC call lf r a x (Gt call lf r b K) := by
 unfold Gt WC
 simp only [zo]
 cases zo call lf r a x with
 | none => simp only [Zx]
 | some p =>
  obtain ⟨e, y⟩ := p
  cases e <;> simp only [zz, onN]
theorem Ds {c : Operand} {a b : DCode} : WC call lf r (.cond c a b) x K = F3 (ev x.t c) call lf r a b x K := by
 unfold F3 WC QN
 simp only [zo]
 split
 · rename_i h; simp [h]
 · rename_i h; simp [h]
 · rename_i h1 h2
   split
   · rename_i c hc; cases c with
     | true => exact absurd hc h1
     | false => exact absurd hc h2
   · simp only [Zx]
theorem GG {i : Nat} {b : DCode} : WC call lf r (.block i b) x K = WC call lf r b x (QM i K) := by
 unfold QM WC
 simp only [zo]
 cases zo call lf r b x with
 | none => simp only [Zx]
 | some p =>
  obtain ⟨e, y⟩ := p
  cases e <;> simp only [zz, onE]
  split <;> simp only [zz]
def F2 (I : Nat → St → Prop) (m : Nat) (K : DExit → St → Prop) : DExit → St → Prop := fun e z => onN e z (fun z => ∃ m', m' < m ∧ I m' z) K
theorem W5 {I : Nat → St → Prop} {m : Nat} {z : St} : F2 I m K .normal z = ∃ m', m' < m ∧ I m' z := rfl
theorem KC {I : Nat → St → Prop} {m : Nat} {z : St} : F2 I m K .ret z = K .ret z := rfl
theorem JW {I : Nat → St → Prop} {m : Nat} {z : St} {i : Nat} : F2 I m K (.exit i) z = K (.exit i) z := rfl
theorem Q9 {b : DCode} (I : Nat → St → Prop) (n : Nat) (hn : n < lf) (h0 : I n x)
 (hs : ∀ m y, m ≤ n → I m y → WC call lf r b y (F2 I m K)) : WC call lf r (.loop b) x K := by
 have key : ∀ (f m : Nat) (y : St), m < f → m ≤ n → I m y → W (YK (zo call lf r b) f y) fun p => K p.1 p.2 := by
  intro f
  induction f with
  | zero => intro m y h; exact absurd h (Nat.not_lt_zero _)
  | succ f ih =>
   intro m y hm hmn hI
   obtain ⟨⟨e, z⟩, he, hz⟩ := hs m y hmn hI
   simp only [YK, he]
   cases e with
   | normal =>
    obtain ⟨m', hm', hI'⟩ := hz
    exact ih m' z (by omega) (by omega) hI'
   | ret => exact ⟨_, rfl, hz⟩
   | exit i => exact ⟨_, rfl, hz⟩
 exact key lf n x hn (Nat.le_refl _) h0
end
def Ends (rs : List DRes) (Q : Value × DS → Prop) (e : DExit) (x : St) : Prop := match e with
 | .exit _ => False
 | _ => W (zR x.s x.defers) fun s' => W (ze x.t s' rs) fun vs => Q (zh vs, s')
theorem YS {E : Env} {d g : Nat} {fn : zd} {a b : Array Value} {args : List Value} {s : DS} {Q : Value × DS → Prop} (hi : E.intr g = none) (hf : E.fn g = some fn) (hl : Nat.ble (a.toList ++ (args ++ b.toList)).length fn.ntmps = true) :
 W (dcall E (d + 1) (.func (.func g) a b) args s) Q = WC (dcall E d) E.lf false fn.body ⟨Xs (a.toList ++ (args ++ b.toList)), s, []⟩ (Ends fn.results Q) := by
 simp only [dcall, hi, hf, hl, if_true]
 unfold WC
 cases zo (dcall E d) E.lf false fn.body ⟨Xs (a.toList ++ (args ++ b.toList)), s, []⟩ with
 | none => simp only [Zx]
 | some p =>
  obtain ⟨e, x⟩ := p
  have key : W (match zR x.s x.defers with | some s' => (match ze x.t s' fn.results with | some vs => some (zh vs, s') | none => none) | none => none) Q = W (zR x.s x.defers) fun s' => W (ze x.t s' fn.results) fun vs => Q (zh vs, s') := by
   cases zR x.s x.defers with
   | none => simp only [Zx]
   | some s' =>
    simp only [zz]
    cases ze x.t s' fn.results <;> simp only [zz, Zx]
  cases e with
  | exit i => simp only [zz, Zx, Ends]
  | normal => simp only [zz, Ends]; exact key
  | ret => simp only [zz, Ends]; exact key
theorem GI {rs : List DRes} {Q : Value × DS → Prop} {t : PT Value} {s : DS} : Ends rs Q .ret ⟨t, s, []⟩ = W (ze t s rs) fun vs => Q (zh vs, s) := by
 simp only [Ends, zR, zz]
theorem QQ {rs : List DRes} {Q : Value × DS → Prop} {t : PT Value} {s : DS} : Ends rs Q .normal ⟨t, s, []⟩ = W (ze t s rs) fun vs => Q (zh vs, s) := by
 simp only [Ends, zR, zz]
theorem ZC {α : Type} {t : PT α} {k : Nat} {x : Option α} : (t.put k x).get k = x := by rw [PT.get_put, if_pos rfl]
theorem YE {α : Type} {t : PT α} {k j : Nat} {x : Option α} (h : ¬ j = k) : (t.put k x).get j = t.get j := by rw [PT.get_put, if_neg h]
theorem Ta {t : PT Value} {i : Nat} : ev t (.tmp i) = (t.get i).getD zl := rfl
theorem Gi {t : PT Value} {v : Value} : ev t (.const v) = v := rfl
theorem FX {t : PT Value} {f : Nat} : ev t (.func f) = .func (.func f) #[] #[] := rfl
theorem Km {t : PT Value} {i : Nat} {v : Value} : Zn t (some i) v = t.put i (some v) := rfl
theorem Kn {t : PT Value} {v : Value} : Zn t none v = t := rfl
namespace DS
def upd (s : DS) (k : Nat) (o : DObj) : DS := if (s.get k).isSome then { s with heap := s.heap.put k (some o) } else s
def rid (s : DS) (k : Nat) : DS := if (s.get k).isSome then { s with heap := s.heap.put k none } else s
def Good (s : DS) : Prop := ∀ k, s.next ≤ k → s.vis k = true ∧ s.wr k = true
variable {s : DS} {k j : Nat} {o o' : DObj}
theorem upd_next : (s.upd k o).next = s.next := by unfold upd; split <;> rfl
theorem upd_vis : (s.upd k o).vis = s.vis := by unfold upd; split <;> rfl
theorem upd_wr : (s.upd k o).wr = s.wr := by unfold upd; split <;> rfl
theorem rid_next : (s.rid k).next = s.next := by unfold rid; split <;> rfl
theorem rid_vis : (s.rid k).vis = s.vis := by unfold rid; split <;> rfl
theorem rid_wr : (s.rid k).wr = s.wr := by unfold rid; split <;> rfl
theorem new_next : (s.new o).next = s.next + 1 := rfl
theorem new_wr : (s.new o).wr = s.wr := rfl
theorem get_lt' (h : s.get k = some o) : k < s.next := by
 unfold get at h
 split at h
 · rename_i c
   simp only [Bool.and_eq_true] at c
   exact Yc c.1
 · cases h
theorem upd_get_self : (s.upd k o).get k = (s.get k).map fun _ => o := by
 unfold upd
 cases h : s.get k with
 | none => simp [h]
 | some p =>
  simp only [Option.isSome_some, if_true, Option.map_some]
  have h2 := h
  unfold get at h2 ⊢
  split at h2
  · rename_i c
    simp only [c, if_true, ZC]
  · cases h2
theorem upd_get_ne (h : ¬ j = k) : (s.upd k o).get j = s.get j := by
 unfold upd
 split
 · unfold get
   simp only [YE h]
 · rfl
theorem rid_get_ne (h : ¬ j = k) : (s.rid k).get j = s.get j := by
 unfold rid
 split
 · unfold get
   simp only [YE h]
 · rfl
theorem new_get_lt (h : j < s.next) : (s.new o).get j = s.get j := by
 have h1 : Nat.blt j s.next = true := Zh h
 have h2 : Nat.blt j (s.next + 1) = true := Zh (by omega)
 unfold new get
 simp only [h1, h2, Bool.true_and]
 rw [YE (by omega)]
theorem new_get_self (h : s.Good) : (s.new o).get s.next = some o := by
 have h2 : Nat.blt s.next (s.next + 1) = true := Zh (by omega)
 unfold new get
 simp only [h2, (h s.next (Nat.le_refl _)).1, Bool.true_and, if_true, ZC]
theorem upd_good : (s.upd k o).Good = s.Good := by unfold Good; rw [upd_next, upd_vis, upd_wr]
theorem rid_good : (s.rid k).Good = s.Good := by unfold Good; rw [rid_next, rid_vis, rid_wr]
theorem new_good (h : s.Good) : (s.new o).Good := fun i hi => h i (by have : s.next + 1 ≤ i := hi; omega)
theorem set_upd (h : (s.get k).isSome = true) (hw : s.wr k = true) : s.set k o = some (s.upd k o) := by
 unfold set upd
 rw [if_pos hw, if_pos h]
theorem kill_rid (h : (s.get k).isSome = true) (hw : s.wr k = true) : s.kill k = some (s.rid k) := by
 unfold kill rid
 rw [if_pos hw, if_pos h]
def wrC (s : DS) (k off : Nat) (l : List Value) : Option DS :=
 match s.get k with
 | some (.cells c false) => if Nat.ble (off + l.length) c.size && s.wr k then some (s.upd k (.cells (c.fillFrom off l) false)) else none
 | _ => none
theorem write_eq {off : Nat} {l : List Value} : s.write k off l = s.wrC k off l := by
 unfold write wrC
 cases hg : s.get k with
 | none => rfl
 | some ob =>
  cases ob with
  | cells c ro =>
   cases ro with
   | true => rfl
   | false =>
    simp only
    cases h1 : Nat.ble (off + l.length) c.size with
    | false => rfl
    | true =>
     simp only [Bool.true_and, if_true]
     cases h2 : s.wr k with
     | false => unfold set; simp [h2]
     | true => simp only [if_true]; exact set_upd (by rw [hg]; rfl) h2
  | _ => rfl
end DS
theorem SZ {size : Nat} {k off : Nat} {x : Value} {s : DS} : Qh size (.pointer (some ⟨k, off, none⟩)) x s = if Nat.beq x.cells.toList.length size && zm x.cells.toList then s.wrC k off x.cells.toList else none := by
 simp only [Qh, DS.write_eq]
structure Ext (F : List Nat) (s s' : DS) : Prop where
 le : s.next ≤ s'.next
 vis : s'.vis = s.vis
 wr : s'.wr = s.wr
 get : ∀ k, k < s.next → k ∉ F → s'.get k = s.get k
namespace Ext
variable {F G : List Nat} {s s1 s2 : DS} {k : Nat} {o o' : DObj}
theorem refl : Ext F s s := ⟨Nat.le_refl _, rfl, rfl, fun _ _ _ => rfl⟩
theorem trans (h : Ext F s s1) (h' : Ext G s1 s2) (hG : ∀ k, k ∈ G → k ∈ F ∨ s.next ≤ k) : Ext F s s2 :=
 ⟨Nat.le_trans h.le h'.le, h'.vis.trans h.vis, h'.wr.trans h.wr, fun k hk hf => (h'.get k (Nat.lt_of_lt_of_le hk h.le) fun hg => (hG k hg).elim hf fun h2 => by omega).trans (h.get k hk hf)⟩
theorem trans' (h : Ext F s s1) (h' : Ext F s1 s2) : Ext F s s2 := h.trans h' fun _ hk => .inl hk
theorem weaken (h : Ext F s s1) (hG : ∀ k, k ∈ F → k ∈ G ∨ s.next ≤ k) : Ext G s s1 := ⟨h.le, h.vis, h.wr, fun k hk hg => h.get k hk fun hf => (hG k hf).elim hg fun h2 => by omega⟩
theorem new : Ext F s (s.new o) := ⟨Nat.le_succ _, rfl, rfl, fun k hk _ => DS.new_get_lt hk⟩
theorem upd (h : k ∈ F ∨ s.next ≤ k) : Ext F s (s.upd k o) := ⟨by rw [DS.upd_next]; exact Nat.le_refl _, DS.upd_vis, DS.upd_wr, fun j hj hf => DS.upd_get_ne fun e => by subst e; exact h.elim hf (fun h => absurd hj (Nat.not_lt.2 h))⟩
theorem rid (h : k ∈ F ∨ s.next ≤ k) : Ext F s (s.rid k) := ⟨by rw [DS.rid_next]; exact Nat.le_refl _, DS.rid_vis, DS.rid_wr, fun j hj hf => DS.rid_get_ne fun e => by subst e; exact h.elim hf (fun h => absurd hj (Nat.not_lt.2 h))⟩
theorem good (h : Ext F s s1) (hg : s.Good) : s1.Good := fun i hi => by rw [h.vis, h.wr]; exact hg i (Nat.le_trans h.le hi)
theorem keep (h : Ext F s s1) (hg : s.get k = some o) (hf : k ∉ F) : s1.get k = some o := (h.get k (DS.get_lt' hg) hf).trans hg
theorem wrs (h : Ext F s s1) (hw : s.wr k = true) : s1.wr k = true := by rw [h.wr]; exact hw
end Ext
theorem zC {E : Env} {d g : Nat} {fn : zd} {args : List Value} {s : DS} {Q : Value × DS → Prop} (hi : E.intr g = none) (hf : E.fn g = some fn) (hl : Nat.ble args.length fn.ntmps = true) :
 W (dcall E (d + 1) (.func (.func g) #[] #[]) args s) Q = WC (dcall E d) E.lf false fn.body ⟨Xs args, s, []⟩ (Ends fn.results Q) := by
 have h := YS (E := E) (d := d) (a := #[]) (b := #[]) (args := args) (s := s) (Q := Q) hi hf (by simpa using hl)
 simpa using h
theorem C1 {E : Env} {d g : Nat} {F : List Value → DS → Option (Value × DS)} {args : List Value} {s : DS} {r : Value × DS} (hi : E.intr g = some F) (h : F args s = some r) : dcall E (d + 1) (.func (.func g) #[] #[]) args s = some r := by
 simp [dcall, hi, h]
theorem SF {k : SK} {x y : Value} : Ya 5000 (.one k) x y = zY k x y := rfl
section
variable {call : zg} {ρ : Operand → Value} {s : DS} {R : Value × DS → Prop}
theorem RB {n : Bool} {k : SK} {x y : Operand} : W (dop call ρ s (.eq n (.one k) x y)) R = W (zY k (ρ x) (ρ y)) (atB n s R) := by
 rw [PZ]
 simp only [zc, SF]
 cases zY k (ρ x) (ρ y) <;> simp only [zz, Zx, atB, atS]
theorem TF {str : KT} {m k x : Operand} : W (dop call ρ s (.mupd str m k x)) R = W (zf ρ s (.mupd str m k x)) R := Vo rfl
theorem TO {str : KT} {m k : Operand} : W (dop call ρ s (.bdel str m k)) R = W (zf ρ s (.bdel str m k)) R := Vo rfl
theorem Pf {b z : Nat} {x y : Operand} : W (dop call ρ s (.bapp b z x y)) R = W (zf ρ s (.bapp b z x y)) R := Vo rfl
end
theorem CX {k off : Nat} {s : DS} : ldV (.pointer (some ⟨k, off, none⟩)) s = (match s.get k with | some (.cells c _) => c.get off | _ => none) := rfl
theorem KJ {k : IntKind} {n : Int} : (Value.int k n).cells.toList = [.int k n] := rfl
theorem JZ {b : Bool} : (Value.bool b).cells.toList = [.bool b] := rfl
theorem KF {b : ByteArray} : (Value.string b).cells.toList = [.string b] := rfl
theorem KG {a : Option Addr} : (Value.pointer a).cells.toList = [.pointer a] := rfl
theorem QP {a : Option Addr} {n c : Nat} : (Value.slice a n c).cells.toList = [.slice a n c] := rfl
theorem KI {a : Option Nat} : (Value.map a).cells.toList = [.map a] := rfl
theorem cells_func {f : Fn} {a b : Array Value} : (Value.func f a b).cells.toList = [.func f a b] := rfl
theorem KK {l : List Value} : (Value.agg ⟨l⟩).cells.toList = l := rfl
theorem ZY {n : Int} (h1 : -9223372036854775808 ≤ n) (h2 : n < 9223372036854775808) : zv .i64 n = n := by
 rw [zK]
 simp [IntKind.wrap, IntKind.bits, IntKind.signed]
 omega
theorem Y5 {s : DS} {nt : List Zc} {haz : List Nat} {k : Nat} (h : hidden nt haz k = false) : (YV s nt haz).get k = s.get k := by
 unfold YV DS.get
 simp [h]
theorem ZF (q : IntKind) (n : Nat) : zI (.int q (n : Int)) = some n := rfl
theorem Wf : ∀ (l : List Value) (i : Nat), getN l i = l[i]?
 | [], _ => rfl
 | _ :: _, 0 => rfl
 | _ :: l, i + 1 => by simpa [getN] using Wf l i
end Go.Dx
