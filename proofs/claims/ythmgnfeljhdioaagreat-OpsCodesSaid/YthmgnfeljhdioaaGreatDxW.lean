/- A part. -/
import Derived.Test.YthmgnfeljhdioaaGreatDxStir
set_option linter.unusedVariables false
set_option linter.unusedSimpArgs false
set_option linter.unusedSectionVars false
namespace Go.Dx
open Go
def W {α : Type} (r : Option α) (Q : α → Prop) : Prop := ∃ a, r = some a ∧ Q a
theorem W.intro {α : Type} {r : Option α} {Q : α → Prop} {a : α} (h : r = some a) (q : Q a) : W r Q := ⟨a, h, q⟩
theorem W.mono {α : Type} {r : Option α} {Q R : α → Prop} (h : W r Q) (q : ∀ a, Q a → R a) : W r R := by obtain ⟨a, e, h⟩ := h; exact ⟨a, e, q a h⟩
theorem zM {α : Type} {a : α} {Q : α → Prop} : W (some a) Q = Q a := by simp [W]
theorem ZT {α : Type} {Q : α → Prop} : W none Q = False := by simp [W]
@[congr] theorem W_congr {α : Type} {r r' : Option α} {Q : α → Prop} (h : r = r') : W r Q = W r' Q := by rw [h]
theorem zp {α : Type} {r : Option α} {P : α → Prop} (h : ∀ Q : α → Prop, (∀ a, P a → Q a) → W r Q) : W r P := h P fun _ h => h
theorem Dm {α : Type} {r : Option α} {a : α} : W r (fun x => x = a) ↔ r = some a := by simp [W]
def ldA (n : Nat) (a : Value) (s : DS) : Option Value :=
 match a with
 | .pointer (some ⟨k, off, none⟩) => match s.read k off n with
  | some l => some (.agg ⟨l⟩)
  | none => none
 | _ => none
def atS (s : DS) (R : Value × DS → Prop) : Value → Prop := fun v => R (v, s)
def atD (R : Value × DS → Prop) : DS → Prop := fun s' => R (zv, s')
def atG (s : DS) (R : Value × DS → Prop) : List Value → Prop := fun cs => R (.agg ⟨cs⟩, s)
def atB (n : Bool) (s : DS) (R : Value × DS → Prop) : Bool → Prop := fun b => R (.bool (if n then !b else b), s)
def atL (n : Nat) (s : DS) (R : Value × DS → Prop) : List Value → Prop := fun cs => R (.slice (some ⟨s.next, 0, none⟩) n n, s.new (.cells (.list cs) false))
theorem Pq {s : DS} {R : Value × DS → Prop} {v : Value} : atS s R v = R (v, s) := rfl
theorem Pt {R : Value × DS → Prop} {s' : DS} : atD R s' = R (zv, s') := rfl
theorem Ps {s : DS} {R : Value × DS → Prop} {cs : List Value} : atG s R cs = R (.agg ⟨cs⟩, s) := rfl
theorem Pu {n : Bool} {s : DS} {R : Value × DS → Prop} {b : Bool} : atB n s R b = R (.bool (if n then !b else b), s) := rfl
theorem Pr {n : Nat} {s : DS} {R : Value × DS → Prop} {cs : List Value} : atL n s R cs = R (.slice (some ⟨s.next, 0, none⟩) n n, s.new (.cells (.list cs) false)) := rfl
theorem Mw {n : Nat} {s : DS} {R : Value × DS → Prop} {cs : List Value} : W (some cs) (atL n s R) = R (.slice (some ⟨s.next, 0, none⟩) n n, s.new (.cells (.list cs) false)) := zM
section
variable {call : zn} {ρ : Operand → Value} {s : DS} {R : Value × DS → Prop}
theorem LH {x : Operand} : W (dop call ρ s (.mv x)) R = R (ρ x, s) := zM
theorem Zm {o : DOp} (h : o.cls = .pure) : W (dop call ρ s o) R = W (zb ρ o) (atS s R) := by
 unfold dop
 rw [h]
 simp only
 cases zb ρ o <;> simp only [zM, ZT, atS, atD, atG, atL]
theorem K5 {o : DOp} (h : o.cls = .read) : W (dop call ρ s o) R = W (zk ρ s o) (atS s R) := by
 unfold dop
 rw [h]
 simp only
 cases zk ρ s o <;> simp only [zM, ZT, atS, atD, atG, atL]
theorem Py {c a b : Operand} : W (dop call ρ s (.pick c a b)) R = W (zb ρ (.pick c a b)) (atS s R) := Zm rfl
theorem Mv {op : BinOp} {x y : Operand} : W (dop call ρ s (.bin op x y)) R = W (zo op (ρ x) (ρ y)) (atS s R) := Zm rfl
theorem LJ {n : Bool} {t : ET} {x y : Operand} : W (dop call ρ s (.eq n t x y)) R = W (zb ρ (.eq n t x y)) (atS s R) := Zm rfl
theorem LE {op : UnOp} {x : Operand} : W (dop call ρ s (.un op x)) R = W (zb ρ (.un op x)) (atS s R) := Zm rfl
theorem Ts {k : IntKind} {x : Operand} : W (dop call ρ s (.cvInt k x)) R = W (zb ρ (.cvInt k x)) (atS s R) := Zm rfl
theorem Tr {x : Operand} : W (dop call ρ s (.cvStr x)) R = W (zb ρ (.cvStr x)) (atS s R) := Zm rfl
theorem Tp {x : Operand} : W (dop call ρ s (.nilck x)) R = W (zb ρ (.nilck x)) (atS s R) := Zm rfl
theorem Tt {z : List Value} {parts : List (Nat × Nat × Operand)} : W (dop call ρ s (.build z parts)) R = W (zi ρ z parts) (atG s R) := by
 rw [Zm rfl]
 simp only [zb]
 cases zi ρ z parts <;> simp only [zM, ZT, atS, atD, atG, atL]
theorem Mn {f : FuncId} {a b : List Operand} : W (dop call ρ s (.mkf f a b)) R = R (.func (.func f) ⟨a.map ρ⟩ ⟨b.map ρ⟩, s) := by rw [Zm rfl]; exact zM
theorem Ml {x : Operand} {lo hi : Option Operand} : W (dop call ρ s (.slS x lo hi)) R = W (zb ρ (.slS x lo hi)) (atS s R) := Zm rfl
theorem LG {z : Nat} {x : Operand} {lo hi mx : Option Operand} : W (dop call ρ s (.slL z x lo hi mx)) R = W (zb ρ (.slL z x lo hi mx)) (atS s R) := Zm rfl
theorem Mm {n z : Nat} {x : Operand} {lo hi mx : Option Operand} : W (dop call ρ s (.slA n z x lo hi mx)) R = W (zb ρ (.slA n z x lo hi mx)) (atS s R) := Zm rfl
theorem PD {off : Nat} {x : Operand} : W (dop call ρ s (.fadr off x)) R = W (zb ρ (.fadr off x)) (atS s R) := Zm rfl
theorem Mr {off : Nat} {agg : Option Nat} {x : Operand} : W (dop call ρ s (.fld off agg x)) R = W (zb ρ (.fld off agg x)) (atS s R) := Zm rfl
theorem Mq {n z : Nat} {x i : Operand} : W (dop call ρ s (.ixA n z x i)) R = W (zb ρ (.ixA n z x i)) (atS s R) := Zm rfl
theorem Mp {z : Nat} {x i : Operand} : W (dop call ρ s (.ixL z x i)) R = W (zb ρ (.ixL z x i)) (atS s R) := Zm rfl
theorem PC {n z : Nat} {agg : Option Nat} {x i : Operand} : W (dop call ρ s (.idxA n z agg x i)) R = W (zb ρ (.idxA n z agg x i)) (atS s R) := Zm rfl
theorem PB {x i : Operand} : W (dop call ρ s (.idxS x i)) R = W (zb ρ (.idxS x i)) (atS s R) := Zm rfl
theorem Ms {x : Operand} {i : Nat} : W (dop call ρ s (.ext x i)) R = W (zb ρ (.ext x i)) (atS s R) := Zm rfl
theorem Tu {x : Operand} : W (dop call ρ s (.blenS x)) R = W (zb ρ (.blenS x)) (atS s R) := Zm rfl
theorem Tw {x : Operand} : W (dop call ρ s (.blenL x)) R = W (zb ρ (.blenL x)) (atS s R) := Zm rfl
theorem Ty {x : Operand} : W (dop call ρ s (.bcapL x)) R = W (zb ρ (.bcapL x)) (atS s R) := Zm rfl
theorem Tx {n : Nat} : W (dop call ρ s (.blenA n)) R = R (.int .i64 n, s) := by rw [Zm rfl]; exact zM
theorem PF {x : List Operand} : W (dop call ρ s (.bmin x)) R = W (zb ρ (.bmin x)) (atS s R) := Zm rfl
theorem PG {x : List Operand} : W (dop call ρ s (.bmax x)) R = W (zb ρ (.bmax x)) (atS s R) := Zm rfl
theorem LI {a : Operand} : W (dop call ρ s (.ld none a)) R = W (ldV (ρ a) s) (atS s R) := by
 rw [K5 rfl]
 rfl
theorem Mo {n : Nat} {a : Operand} : W (dop call ρ s (.ld (some n) a)) R = W (ldA n (ρ a) s) (atS s R) := by
 rw [K5 rfl]
 rfl
theorem VV {x : Operand} : W (dop call ρ s (.cvToStr x)) R = W (zk ρ s (.cvToStr x)) (atS s R) := K5 rfl
theorem PA {str : KT} {ok : Bool} {z : Value} {m k : Operand} : W (dop call ρ s (.look str z ok m k)) R = W (zk ρ s (.look str z ok m k)) (atS s R) := K5 rfl
theorem Tv {x : Operand} : W (dop call ρ s (.blenM x)) R = W (zk ρ s (.blenM x)) (atS s R) := K5 rfl
theorem LF {n : Nat} {a x : Operand} : W (dop call ρ s (.st n a x)) R = W (Je n (ρ a) (ρ x) s) (atD R) := by
 rw [MZ]
 cases Je n (ρ a) (ρ x) s <;> simp only [zM, ZT, atS, atD, atG, atL]
theorem Tz {z : List Value} : W (dop call ρ s (.alloc z)) R = R (.pointer (some ⟨s.next, 0, none⟩), s.new (.cells (.list z) false)) := zM
theorem Mu {x : Operand} : W (dop call ρ s (.box x)) R = R (.pointer (some ⟨s.next, 0, none⟩), s.new (.cells (.list (ρ x).cells.toList) false)) := zM
theorem Dn {n z : Nat} {zs : List Value} {parts : List (Nat × Nat × Operand)} (h : Nat.ble (n * z) 1048576 = true) :
 W (dop call ρ s (.bslice n z zs parts)) R = W (zi ρ (repeatZ zs n) parts) (atL n s R) := by
 show W (zL ρ s (.bslice n z zs parts)) R = _
 unfold zL
 simp only [h, if_true]
 cases zi ρ (repeatZ zs n) parts <;> simp only [zM, ZT, atS, atD, atG, atL]
theorem Tq : W (dop call ρ s (.mkmap none)) R = R (.map (some s.next), s.new (.map [] 0)) := zM
theorem GB {o : DOp} (h : o.cls = .write) : W (dop call ρ s o) R = W (zl ρ s o) R := by unfold dop; rw [h]
theorem PE {f : Operand} {args : List Operand} : W (dop call ρ s (.call f args)) R = W (call (ρ f) (args.map ρ) s) R := rfl
end
def JO (v : Value) (A B : Prop) : Prop := match v with
 | .bool b => (b = true → A) ∧ (b = false → B)
 | _ => False
@[congr] theorem condP_congr {v v' : Value} {A B : Prop} (h : v = v') : JO v A B = JO v' A B := by rw [h]
theorem Cb {A B : Prop} : JO (.bool true) A B = A := by simp [JO]
theorem Da {A B : Prop} : JO (.bool false) A B = B := by simp [JO]
def XE (v : Option Value) (w : Bool) (A B : Prop) : Prop := match v with
 | some (.bool b) => (b = w → A) ∧ (¬ b = w → B)
 | _ => B
@[congr] theorem gateP_congr {v v' : Option Value} {w : Bool} {A B : Prop} (h : v = v') : XE v w A B = XE v' w A B := by rw [h]
theorem RP {A B : Prop} : XE (some (.bool true)) true A B = A := by simp [XE]
theorem RQ {A B : Prop} : XE (some (.bool true)) false A B = B := by simp [XE]
theorem RR {A B : Prop} : XE (some (.bool false)) true A B = B := by simp [XE]
theorem RU {A B : Prop} : XE (some (.bool false)) false A B = A := by simp [XE]
def WO (call : zn) (ops : List zK) (nt : List Zw) (t : PT Value) (s : DS) (K : PT Value → DS → Prop) : Prop := W (Z0 call ops nt t s) fun p => K p.1 p.2
@[congr] theorem WO_congr {call : zn} {ops : List zK} {nt : List Zw} {t t' : PT Value} {s s' : DS} {K : PT Value → DS → Prop} (h : t = t') (h' : s = s') : WO call ops nt t s K = WO call ops nt t' s' K := by rw [h, h']
def YK (s : DS) (nt : List Zw) (haz : List Nat) : DS := { s with vis := fun k => s.vis k && !hidden nt haz k, wr := fun k => s.wr k && !hidden nt haz k && !shielded nt haz k }
def Zi (s s' : DS) : DS := { s' with vis := s.vis, wr := s.wr }
section
variable {call : zn} {rest : List zK} {nt : List Zw} {t : PT Value} {s : DS} {K : PT Value → DS → Prop}
theorem PI : WO call [] nt t s K = K t s := zM
def Mf (call : zn) (rest : List zK) (nt : List Zw) (d : Option Nat) (t : PT Value) (K : PT Value → DS → Prop) : Value × DS → Prop := fun r => WO call rest nt (ZJ t d r.1) r.2 K
def Mg (call : zn) (rest : List zK) (nt : List Zw) (ft : List Nat) (lo : Nat) (d : Option Nat) (t : PT Value) (K : PT Value → DS → Prop) : Value × DS → Prop := fun r => WO call rest (nt ++ [⟨ft, lo, r.2.next⟩]) (ZJ t d r.1) r.2 K
def Mh (call : zn) (rest : List zK) (nt : List Zw) (d : Option Nat) (t : PT Value) (s : DS) (K : PT Value → DS → Prop) : Value × DS → Prop := fun r => WO call rest nt (ZJ t d r.1) (Zi s r.2) K
def Pi (call : zn) (rest : List zK) (nt : List Zw) (ft : List Nat) (lo : Nat) (d : Option Nat) (t : PT Value) (s : DS) (K : PT Value → DS → Prop) : Value × DS → Prop := fun r => WO call rest (nt ++ [⟨ft, lo, r.2.next⟩]) (ZJ t d r.1) (Zi s r.2) K
theorem F7 {d : Option Nat} {v : Value} {s' : DS} : Mf call rest nt d t K (v, s') = WO call rest nt (ZJ t d v) s' K := rfl
theorem F8 {ft : List Nat} {lo : Nat} {d : Option Nat} {v : Value} {s' : DS} : Mg call rest nt ft lo d t K (v, s') = WO call rest (nt ++ [⟨ft, lo, s'.next⟩]) (ZJ t d v) s' K := rfl
theorem F9 {d : Option Nat} {v : Value} {s' : DS} : Mh call rest nt d t s K (v, s') = WO call rest nt (ZJ t d v) (Zi s s') K := rfl
theorem VK {ft : List Nat} {lo : Nat} {d : Option Nat} {v : Value} {s' : DS} : Pi call rest nt ft lo d t s K (v, s') = WO call rest (nt ++ [⟨ft, lo, s'.next⟩]) (ZJ t d v) (Zi s s') K := rfl
theorem My {d : Option Nat} {op : DOp} : WO call (⟨d, op, none, [], false⟩ :: rest) nt t s K = W (dop call (ev t) s op) (Mf call rest nt d t K) := by
 unfold WO
 simp only [Z0, zE, if_true]
 cases dop call (ev t) s op with
 | none => simp only [ZT]
 | some r => obtain ⟨v, s'⟩ := r; simp only [zM]; rfl
theorem Mz {d : Option Nat} {op : DOp} : WO call (⟨d, op, none, [], true⟩ :: rest) nt t s K = W (dop call (ev t) s op) (Mg call rest nt (foot (ev t) s op) s.next d t K) := by
 unfold WO
 simp only [Z0, zE, if_true]
 cases dop call (ev t) s op with
 | none => simp only [ZT]
 | some r => obtain ⟨v, s'⟩ := r; simp only [zM, if_true]; rfl
def Vy (g : Option Value) (b : Bool) (call : zn) (o : zK) (rest : List zK) (nt : List Zw) (t : PT Value) (s : DS) (K : PT Value → DS → Prop) : Prop :=
 XE g b (WO call (⟨o.dst, o.op, none, o.haz, o.note⟩ :: rest) nt t s K) (WO call rest (if o.note then nt ++ [⟨[], s.next, s.next⟩] else nt) (ZJ t o.dst zv) s K)
theorem FD {g : Nat} {b : Bool} {A B : Prop} : ((zE t (some (g, b)) = true → A) ∧ (¬ zE t (some (g, b)) = true → B)) = XE (t.get g) b A B := by
 simp only [zE]
 generalize t.get g = o
 unfold XE
 cases o with
 | none => simp
 | some v => cases v <;> simp
theorem NR {o : zK} {g : Nat} {b : Bool} : WO call (⟨o.dst, o.op, some (g, b), o.haz, o.note⟩ :: rest) nt t s K = XE (t.get g) b (WO call (⟨o.dst, o.op, none, o.haz, o.note⟩ :: rest) nt t s K) (WO call rest (if o.note then nt ++ [⟨[], s.next, s.next⟩] else nt) (ZJ t o.dst zv) s K) := by
 rw [← FD]
 unfold WO
 simp only [Z0]
 cases hw : zE t (some (g, b)) with
 | true => simp [zE]
 | false => simp
theorem LK {d : Option Nat} {op : DOp} {g : Nat} {b : Bool} {haz : List Nat} {n : Bool} : WO call (⟨d, op, some (g, b), haz, n⟩ :: rest) nt t s K = Vy (t.get g) b call ⟨d, op, none, haz, n⟩ rest nt t s K :=
 NR (o := ⟨d, op, none, haz, n⟩)
theorem FF {o : zK} : Vy (some (.bool true)) true call o rest nt t s K = WO call (⟨o.dst, o.op, none, o.haz, o.note⟩ :: rest) nt t s K := RP
theorem FG {o : zK} : Vy (some (.bool true)) false call o rest nt t s K = WO call rest (if o.note then nt ++ [⟨[], s.next, s.next⟩] else nt) (ZJ t o.dst zv) s K := RQ
theorem FH {o : zK} : Vy (some (.bool false)) true call o rest nt t s K = WO call rest (if o.note then nt ++ [⟨[], s.next, s.next⟩] else nt) (ZJ t o.dst zv) s K := RR
theorem FI {o : zK} : Vy (some (.bool false)) false call o rest nt t s K = WO call (⟨o.dst, o.op, none, o.haz, o.note⟩ :: rest) nt t s K := RU
theorem FE {b : Bool} {o : zK} : Vy (some zv) b call o rest nt t s K = WO call rest (if o.note then nt ++ [⟨[], s.next, s.next⟩] else nt) (ZJ t o.dst zv) s K := rfl
theorem MB {d : Option Nat} {op : DOp} {h : Nat} {hs : List Nat} : WO call (⟨d, op, none, h :: hs, true⟩ :: rest) nt t s K = W (dop call (ev t) (YK s nt (h :: hs)) op) (Pi call rest nt (foot (ev t) s op) s.next d t s K) := by
 unfold WO
 simp only [Z0, zE, if_true]
 show W (match dop call (ev t) (YK s nt (h :: hs)) op with | some (v, s') => _ | none => _) _ = _
 cases dop call (ev t) (YK s nt (h :: hs)) op with
 | none => simp only [ZT]
 | some r => obtain ⟨v, s'⟩ := r; simp only [zM]; rfl
theorem MA {d : Option Nat} {op : DOp} {h : Nat} {hs : List Nat} : WO call (⟨d, op, none, h :: hs, false⟩ :: rest) nt t s K = W (dop call (ev t) (YK s nt (h :: hs)) op) (Mh call rest nt d t s K) := by
 unfold WO
 simp only [Z0, zE, if_true]
 show W (match dop call (ev t) (YK s nt (h :: hs)) op with | some (v, s') => _ | none => _) _ = _
 cases dop call (ev t) (YK s nt (h :: hs)) op with
 | none => simp only [ZT]
 | some r => obtain ⟨v, s'⟩ := r; simp only [zM]; rfl
end
def WC (call : zn) (lf : Nat) (r : Bool) (c : DCode) (x : St) (K : DExit → St → Prop) : Prop := W (zw call lf r c x) fun p => K p.1 p.2
@[congr] theorem WC_congr {call : zn} {lf : Nat} {r : Bool} {c : DCode} {x x' : St} {K : DExit → St → Prop} (h : x = x') : WC call lf r c x K = WC call lf r c x' K := by rw [h]
def onN (e : DExit) (x : St) (A : St → Prop) (B : DExit → St → Prop) : Prop := match e with
 | .normal => A x
 | e => B e x
@[congr] theorem onN_congr {e : DExit} {x x' : St} {A : St → Prop} {B : DExit → St → Prop} (h : x = x') : onN e x A B = onN e x' A B := by rw [h]
def onE (id : Nat) (e : DExit) (x : St) (K : DExit → St → Prop) : Prop := match e with
 | .exit j => if j = id then K .normal x else K (.exit j) x
 | e => K e x
@[congr] theorem onE_congr {id : Nat} {e : DExit} {x x' : St} {K : DExit → St → Prop} (h : x = x') : onE id e x K = onE id e x' K := by rw [h]
section
variable {call : zn} {lf : Nat} {r : Bool} {x : St} {t : PT Value} {s : DS} {ds : List Nat} {K : DExit → St → Prop}
def F5 (call : zn) (lf : Nat) (r : Bool) (b : DCode) (K : DExit → St → Prop) : DExit → St → Prop := fun e y => onN e y (fun y => WC call lf r b y K) K
def JN (i : Nat) (K : DExit → St → Prop) : DExit → St → Prop := fun e y => onE i e y K
def Ph (ds : List Nat) (K : DExit → St → Prop) : PT Value → DS → Prop := fun t' s' => K .normal ⟨t', s', ds⟩
theorem Q2 {b : DCode} {y : St} : F5 call lf r b K .normal y = WC call lf r b y K := rfl
theorem VI {b : DCode} {y : St} : F5 call lf r b K .ret y = K .ret y := rfl
theorem KX {b : DCode} {y : St} {i : Nat} : F5 call lf r b K (.exit i) y = K (.exit i) y := rfl
theorem Q4 {i : Nat} {y : St} : JN i K .normal y = K .normal y := rfl
theorem VL {i : Nat} {y : St} : JN i K .ret y = K .ret y := rfl
theorem KZ {i : Nat} {y : St} : JN i K (.exit i) y = K .normal y := by simp [JN, onE]
theorem JM {i j : Nat} {y : St} (h : ¬ j = i) : JN i K (.exit j) y = K (.exit j) y := by simp [JN, onE, h]
theorem F6 {t' : PT Value} {s' : DS} : Ph ds K t' s' = K .normal ⟨t', s', ds⟩ := rfl
def Tf (v : Value) (call : zn) (lf : Nat) (r : Bool) (a b : DCode) (x : St) (K : DExit → St → Prop) : Prop := JO v (WC call lf r a x K) (WC call lf r b x K)
theorem K0 {a b : DCode} : Tf (.bool true) call lf r a b x K = WC call lf r a x K := Cb
theorem JP {a b : DCode} : Tf (.bool false) call lf r a b x K = WC call lf r b x K := Da
theorem TA : WC call lf r .skip x K = K .normal x := zM
theorem PK : WC call lf r .ret x K = K .ret x := zM
theorem TB {i : Nat} : WC call lf r (.exit i) x K = K (.exit i) x := zM
theorem VW {ops : List zK} : WC call lf r (.region ops) ⟨t, s, ds⟩ K = WO call ops [] t s (Ph ds K) := by
 unfold WC WO Ph
 simp only [zw]
 cases Z0 call ops [] t s with
 | none => simp only [ZT]
 | some p => obtain ⟨a, b⟩ := p; simp only [zM]
theorem PJ {a b : DCode} : WC call lf r (.seq a b) x K = WC call lf r a x (F5 call lf r b K) := by
 unfold F5 WC
 simp only [zw]
 cases zw call lf r a x with
 | none => simp only [ZT]
 | some p =>
  obtain ⟨e, y⟩ := p
  cases e <;> simp only [zM, onN]
theorem TC {c : Operand} {a b : DCode} : WC call lf r (.cond c a b) x K = Tf (ev x.t c) call lf r a b x K := by
 unfold Tf WC JO
 simp only [zw]
 split
 · rename_i h; simp [h]
 · rename_i h; simp [h]
 · rename_i h1 h2
   split
   · rename_i c hc; cases c with
     | true => exact absurd hc h1
     | false => exact absurd hc h2
   · simp only [ZT]
theorem Do {i : Nat} {b : DCode} : WC call lf r (.block i b) x K = WC call lf r b x (JN i K) := by
 unfold JN WC
 simp only [zw]
 cases zw call lf r b x with
 | none => simp only [ZT]
 | some p =>
  obtain ⟨e, y⟩ := p
  cases e <;> simp only [zM, onE]
  split <;> simp only [zM]
def Te (I : Nat → St → Prop) (m : Nat) (K : DExit → St → Prop) : DExit → St → Prop := fun e z => onN e z (fun z => ∃ m', m' < m ∧ I m' z) K
theorem Q3 {I : Nat → St → Prop} {m : Nat} {z : St} : Te I m K .normal z = ∃ m', m' < m ∧ I m' z := rfl
theorem VJ {I : Nat → St → Prop} {m : Nat} {z : St} : Te I m K .ret z = K .ret z := rfl
theorem KY {I : Nat → St → Prop} {m : Nat} {z : St} {i : Nat} : Te I m K (.exit i) z = K (.exit i) z := rfl
theorem Wy {b : DCode} (I : Nat → St → Prop) (n : Nat) (hn : n < lf) (h0 : I n x)
 (hs : ∀ m y, m ≤ n → I m y → WC call lf r b y (Te I m K)) : WC call lf r (.loop b) x K := by
 have key : ∀ (f m : Nat) (y : St), m < f → m ≤ n → I m y → W (Xt (zw call lf r b) f y) fun p => K p.1 p.2 := by
  intro f
  induction f with
  | zero => intro m y h; exact absurd h (Nat.not_lt_zero _)
  | succ f ih =>
   intro m y hm hmn hI
   obtain ⟨⟨e, z⟩, he, hz⟩ := hs m y hmn hI
   simp only [Xt, he]
   cases e with
   | normal =>
    obtain ⟨m', hm', hI'⟩ := hz
    exact ih m' z (by omega) (by omega) hI'
   | ret => exact ⟨_, rfl, hz⟩
   | exit i => exact ⟨_, rfl, hz⟩
 exact key lf n x hn (Nat.le_refl _) h0
end
def Ends (rs : List DRes) (Q : Value × DS → Prop) (e : DExit) (x : St) : Prop := match e with
 | .exit _ => False
 | _ => W (Zb x.s x.defers) fun s' => W (za x.t s' rs) fun vs => Q (ze vs, s')
theorem zZ {E : Env} {d g : Nat} {fn : zf} {a b : Array Value} {args : List Value} {s : DS} {Q : Value × DS → Prop} (hi : E.intr g = none) (hf : E.fn g = some fn) (hl : Nat.ble (a.toList ++ (args ++ b.toList)).length fn.ntmps = true) :
 W (dcall E (d + 1) (.func (.func g) a b) args s) Q = WC (dcall E d) E.lf false fn.body ⟨WE (a.toList ++ (args ++ b.toList)), s, []⟩ (Ends fn.results Q) := by
 simp only [dcall, hi, hf, hl, if_true]
 unfold WC
 cases zw (dcall E d) E.lf false fn.body ⟨WE (a.toList ++ (args ++ b.toList)), s, []⟩ with
 | none => simp only [ZT]
 | some p =>
  obtain ⟨e, x⟩ := p
  have key : W (match Zb x.s x.defers with | some s' => (match za x.t s' fn.results with | some vs => some (ze vs, s') | none => none) | none => none) Q = W (Zb x.s x.defers) fun s' => W (za x.t s' fn.results) fun vs => Q (ze vs, s') := by
   cases Zb x.s x.defers with
   | none => simp only [ZT]
   | some s' =>
    simp only [zM]
    cases za x.t s' fn.results <;> simp only [zM, ZT]
  cases e with
  | exit i => simp only [zM, ZT, Ends]
  | normal => simp only [zM, Ends]; exact key
  | ret => simp only [zM, Ends]; exact key
theorem Du {rs : List DRes} {Q : Value × DS → Prop} {t : PT Value} {s : DS} : Ends rs Q .ret ⟨t, s, []⟩ = W (za t s rs) fun vs => Q (ze vs, s) := by
 simp only [Ends, Zb, zM]
theorem JS {rs : List DRes} {Q : Value × DS → Prop} {t : PT Value} {s : DS} : Ends rs Q .normal ⟨t, s, []⟩ = W (za t s rs) fun vs => Q (ze vs, s) := by
 simp only [Ends, Zb, zM]
theorem Yl {α : Type} {t : PT α} {k : Nat} {x : Option α} : (t.put k x).get k = x := by rw [PT.get_put, if_pos rfl]
theorem Xp {α : Type} {t : PT α} {k j : Nat} {x : Option α} (h : ¬ j = k) : (t.put k x).get j = t.get j := by rw [PT.get_put, if_neg h]
theorem R5 {t : PT Value} {i : Nat} : ev t (.tmp i) = (t.get i).getD zv := rfl
theorem FQ {t : PT Value} {v : Value} : ev t (.const v) = v := rfl
theorem Ta {t : PT Value} {f : Nat} : ev t (.func f) = .func (.func f) #[] #[] := rfl
theorem Vt {t : PT Value} {i : Nat} {v : Value} : ZJ t (some i) v = t.put i (some v) := rfl
theorem Vu {t : PT Value} {v : Value} : ZJ t none v = t := rfl
namespace DS
def upd (s : DS) (k : Nat) (o : DObj) : DS := if (s.get k).isSome then { s with heap := s.heap.put k (some o) } else s
def rid (s : DS) (k : Nat) : DS := if (s.get k).isSome then { s with heap := s.heap.put k none } else s
def Good (s : DS) : Prop := ∀ k, s.next ≤ k → s.vis k = true ∧ s.wr k = true
variable {s : DS} {k j : Nat} {o o' : DObj}
theorem upd_next : (s.upd k o).next = s.next := by unfold upd; split <;> rfl
theorem upd_vis : (s.upd k o).vis = s.vis := by unfold upd; split <;> rfl
theorem upd_wr : (s.upd k o).wr = s.wr := by unfold upd; split <;> rfl
theorem rid_next : (s.rid k).next = s.next := by unfold rid; split <;> rfl
theorem rid_vis : (s.rid k).vis = s.vis := by unfold rid; split <;> rfl
theorem rid_wr : (s.rid k).wr = s.wr := by unfold rid; split <;> rfl
theorem new_next : (s.new o).next = s.next + 1 := rfl
theorem new_wr : (s.new o).wr = s.wr := rfl
theorem get_lt' (h : s.get k = some o) : k < s.next := by
 unfold get at h
 split at h
 · rename_i c
   simp only [Bool.and_eq_true] at c
   exact YO c.1
 · cases h
theorem upd_get_self : (s.upd k o).get k = (s.get k).map fun _ => o := by
 unfold upd
 cases h : s.get k with
 | none => simp [h]
 | some p =>
  simp only [Option.isSome_some, if_true, Option.map_some]
  have h2 := h
  unfold get at h2 ⊢
  split at h2
  · rename_i c
    simp only [c, if_true, Yl]
  · cases h2
theorem upd_get_ne (h : ¬ j = k) : (s.upd k o).get j = s.get j := by
 unfold upd
 split
 · unfold get
   simp only [Xp h]
 · rfl
theorem rid_get_ne (h : ¬ j = k) : (s.rid k).get j = s.get j := by
 unfold rid
 split
 · unfold get
   simp only [Xp h]
 · rfl
theorem new_get_lt (h : j < s.next) : (s.new o).get j = s.get j := by
 have h1 : Nat.blt j s.next = true := ZB h
 have h2 : Nat.blt j (s.next + 1) = true := ZB (by omega)
 unfold new get
 simp only [h1, h2, Bool.true_and]
 rw [Xp (by omega)]
theorem new_get_self (h : s.Good) : (s.new o).get s.next = some o := by
 have h2 : Nat.blt s.next (s.next + 1) = true := ZB (by omega)
 unfold new get
 simp only [h2, (h s.next (Nat.le_refl _)).1, Bool.true_and, if_true, Yl]
theorem upd_good : (s.upd k o).Good = s.Good := by unfold Good; rw [upd_next, upd_vis, upd_wr]
theorem rid_good : (s.rid k).Good = s.Good := by unfold Good; rw [rid_next, rid_vis, rid_wr]
theorem new_good (h : s.Good) : (s.new o).Good := fun i hi => h i (by have : s.next + 1 ≤ i := hi; omega)
theorem set_upd (h : (s.get k).isSome = true) (hw : s.wr k = true) : s.set k o = some (s.upd k o) := by
 unfold set upd
 rw [if_pos hw, if_pos h]
theorem kill_rid (h : (s.get k).isSome = true) (hw : s.wr k = true) : s.kill k = some (s.rid k) := by
 unfold kill rid
 rw [if_pos hw, if_pos h]
def wrC (s : DS) (k off : Nat) (l : List Value) : Option DS :=
 match s.get k with
 | some (.cells c false) => if Nat.ble (off + l.length) c.size && s.wr k then some (s.upd k (.cells (c.fillFrom off l) false)) else none
 | _ => none
theorem write_eq {off : Nat} {l : List Value} : s.write k off l = s.wrC k off l := by
 unfold write wrC
 cases hg : s.get k with
 | none => rfl
 | some ob =>
  cases ob with
  | cells c ro =>
   cases ro with
   | true => rfl
   | false =>
    simp only
    cases h1 : Nat.ble (off + l.length) c.size with
    | false => rfl
    | true =>
     simp only [Bool.true_and, if_true]
     cases h2 : s.wr k with
     | false => unfold set; simp [h2]
     | true => simp only [if_true]; exact set_upd (by rw [hg]; rfl) h2
  | _ => rfl
end DS
theorem N2 {size : Nat} {k off : Nat} {x : Value} {s : DS} : Je size (.pointer (some ⟨k, off, none⟩)) x s = if Nat.beq x.cells.toList.length size && zh x.cells.toList then s.wrC k off x.cells.toList else none := by
 simp only [Je, DS.write_eq]
structure Ext (F : List Nat) (s s' : DS) : Prop where
 le : s.next ≤ s'.next
 vis : s'.vis = s.vis
 wr : s'.wr = s.wr
 get : ∀ k, k < s.next → k ∉ F → s'.get k = s.get k
namespace Ext
variable {F G : List Nat} {s s1 s2 : DS} {k : Nat} {o o' : DObj}
theorem refl : Ext F s s := ⟨Nat.le_refl _, rfl, rfl, fun _ _ _ => rfl⟩
theorem trans (h : Ext F s s1) (h' : Ext G s1 s2) (hG : ∀ k, k ∈ G → k ∈ F ∨ s.next ≤ k) : Ext F s s2 :=
 ⟨Nat.le_trans h.le h'.le, h'.vis.trans h.vis, h'.wr.trans h.wr, fun k hk hf => (h'.get k (Nat.lt_of_lt_of_le hk h.le) fun hg => (hG k hg).elim hf fun h2 => by omega).trans (h.get k hk hf)⟩
theorem trans' (h : Ext F s s1) (h' : Ext F s1 s2) : Ext F s s2 := h.trans h' fun _ hk => .inl hk
theorem weaken (h : Ext F s s1) (hG : ∀ k, k ∈ F → k ∈ G ∨ s.next ≤ k) : Ext G s s1 := ⟨h.le, h.vis, h.wr, fun k hk hg => h.get k hk fun hf => (hG k hf).elim hg fun h2 => by omega⟩
theorem new : Ext F s (s.new o) := ⟨Nat.le_succ _, rfl, rfl, fun k hk _ => DS.new_get_lt hk⟩
theorem upd (h : k ∈ F ∨ s.next ≤ k) : Ext F s (s.upd k o) := ⟨by rw [DS.upd_next]; exact Nat.le_refl _, DS.upd_vis, DS.upd_wr, fun j hj hf => DS.upd_get_ne fun e => by subst e; exact h.elim hf (fun h => absurd hj (Nat.not_lt.2 h))⟩
theorem rid (h : k ∈ F ∨ s.next ≤ k) : Ext F s (s.rid k) := ⟨by rw [DS.rid_next]; exact Nat.le_refl _, DS.rid_vis, DS.rid_wr, fun j hj hf => DS.rid_get_ne fun e => by subst e; exact h.elim hf (fun h => absurd hj (Nat.not_lt.2 h))⟩
theorem good (h : Ext F s s1) (hg : s.Good) : s1.Good := fun i hi => by rw [h.vis, h.wr]; exact hg i (Nat.le_trans h.le hi)
theorem keep (h : Ext F s s1) (hg : s.get k = some o) (hf : k ∉ F) : s1.get k = some o := (h.get k (DS.get_lt' hg) hf).trans hg
theorem wrs (h : Ext F s s1) (hw : s.wr k = true) : s1.wr k = true := by rw [h.wr]; exact hw
end Ext
theorem zj {E : Env} {d g : Nat} {fn : zf} {args : List Value} {s : DS} {Q : Value × DS → Prop} (hi : E.intr g = none) (hf : E.fn g = some fn) (hl : Nat.ble args.length fn.ntmps = true) :
 W (dcall E (d + 1) (.func (.func g) #[] #[]) args s) Q = WC (dcall E d) E.lf false fn.body ⟨WE args, s, []⟩ (Ends fn.results Q) := by
 have h := zZ (E := E) (d := d) (a := #[]) (b := #[]) (args := args) (s := s) (Q := Q) hi hf (by simpa using hl)
 simpa using h
theorem RI {E : Env} {d g : Nat} {F : List Value → DS → Option (Value × DS)} {args : List Value} {s : DS} {r : Value × DS} (hi : E.intr g = some F) (h : F args s = some r) : dcall E (d + 1) (.func (.func g) #[] #[]) args s = some r := by
 simp [dcall, hi, h]
theorem NJ {k : SK} {x y : Value} : Ym 5000 (.one k) x y = zH k x y := rfl
section
variable {call : zn} {ρ : Operand → Value} {s : DS} {R : Value × DS → Prop}
theorem Mt {n : Bool} {k : SK} {x y : Operand} : W (dop call ρ s (.eq n (.one k) x y)) R = W (zH k (ρ x) (ρ y)) (atB n s R) := by
 rw [LJ]
 simp only [zb, NJ]
 cases zH k (ρ x) (ρ y) <;> simp only [zM, ZT, atB, atS]
theorem Pz {str : KT} {m k x : Operand} : W (dop call ρ s (.mupd str m k x)) R = W (zl ρ s (.mupd str m k x)) R := GB rfl
theorem PH {str : KT} {m k : Operand} : W (dop call ρ s (.bdel str m k)) R = W (zl ρ s (.bdel str m k)) R := GB rfl
theorem M7 {b z : Nat} {x y : Operand} : W (dop call ρ s (.bapp b z x y)) R = W (zl ρ s (.bapp b z x y)) R := GB rfl
end
theorem RD {k off : Nat} {s : DS} : ldV (.pointer (some ⟨k, off, none⟩)) s = (match s.get k with | some (.cells c _) => c.get off | _ => none) := rfl
theorem VQ {k : IntKind} {n : Int} : (Value.int k n).cells.toList = [.int k n] := rfl
theorem K1 {b : Bool} : (Value.bool b).cells.toList = [.bool b] := rfl
theorem VM {b : ByteArray} : (Value.string b).cells.toList = [.string b] := rfl
theorem VN {a : Option Addr} : (Value.pointer a).cells.toList = [.pointer a] := rfl
theorem JQ {a : Option Addr} {n c : Nat} : (Value.slice a n c).cells.toList = [.slice a n c] := rfl
theorem VP {a : Option Nat} : (Value.map a).cells.toList = [.map a] := rfl
theorem cells_func {f : Fn} {a b : Array Value} : (Value.func f a b).cells.toList = [.func f a b] := rfl
theorem VR {l : List Value} : (Value.agg ⟨l⟩).cells.toList = l := rfl
theorem zW {n : Int} (h1 : -9223372036854775808 ≤ n) (h2 : n < 9223372036854775808) : zt .i64 n = n := by
 rw [zS]
 simp [IntKind.wrap, IntKind.bits, IntKind.signed]
 omega
theorem Zj {s : DS} {nt : List Zw} {haz : List Nat} {k : Nat} (h : hidden nt haz k = false) : (YK s nt haz).get k = s.get k := by
 unfold YK DS.get
 simp [h]
theorem Z8 (q : IntKind) (n : Nat) : zU (.int q (n : Int)) = some n := rfl
theorem Wa : ∀ (l : List Value) (i : Nat), getN l i = l[i]?
 | [], _ => rfl
 | _ :: _, 0 => rfl
 | _ :: l, i + 1 => by simpa [getN] using Wa l i
end Go.Dx
