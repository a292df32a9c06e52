/- Going through D-code: what must hold before, so that a run answers and something holds behind it. -/
import Derived.Test.YtnmajohhfcgddaaDxStir
set_option linter.unusedVariables false
set_option linter.unusedSimpArgs false
set_option linter.unusedSectionVars false
namespace Go.Dx
open Go

/-- it answers, and of the answer Q holds -/
def W {α : Type} (r : Option α) (Q : α → Prop) : Prop := ∃ a, r = some a ∧ Q a
theorem W.intro {α : Type} {r : Option α} {Q : α → Prop} {a : α} (h : r = some a) (q : Q a) : W r Q := ⟨a, h, q⟩
theorem W.mono {α : Type} {r : Option α} {Q R : α → Prop} (h : W r Q) (q : ∀ a, Q a → R a) : W r R := by obtain ⟨a, e, h⟩ := h; exact ⟨a, e, q a h⟩
theorem W_some {α : Type} {a : α} {Q : α → Prop} : W (some a) Q = Q a := by simp [W]
theorem W_none {α : Type} {Q : α → Prop} : W none Q = False := by simp [W]
theorem W_of {α : Type} {r : Option α} {Q : α → Prop} {a : α} (h : r = some a) : W r Q = Q a := by simp [W, h]
@[congr] theorem W_congr {α : Type} {r r' : Option α} {Q : α → Prop} (h : r = r') : W r Q = W r' Q := by rw [h]
theorem W_cps {α : Type} {r : Option α} {P : α → Prop} (h : ∀ Q : α → Prop, (∀ a, P a → Q a) → W r Q) : W r P := h P fun _ h => h
theorem W_iff {α : Type} {r : Option α} {a : α} : W r (fun x => x = a) ↔ r = some a := by simp [W]

/-! ### Parts of operations, as values alone -/
def ldA (n : Nat) (a : Value) (s : DS) : Option Value :=
  match a with
  | .pointer (some ⟨k, off, none⟩) => match s.read k off n with
    | some l => some (.agg ⟨l⟩)
    | none => none
  | _ => none
/-- what comes behind, kept shut till there is something to go on with -/
def atS (s : DS) (R : Value × DS → Prop) : Value → Prop := fun v => R (v, s)
def atD (R : Value × DS → Prop) : DS → Prop := fun s' => R (undefD, s')
def atG (s : DS) (R : Value × DS → Prop) : List Value → Prop := fun cs => R (.agg ⟨cs⟩, s)
def atB (n : Bool) (s : DS) (R : Value × DS → Prop) : Bool → Prop := fun b => R (.bool (if n then !b else b), s)
def atL (n : Nat) (s : DS) (R : Value × DS → Prop) : List Value → Prop := fun cs => R (.slice (some ⟨s.next, 0, none⟩) n n, s.new (.cells (.list cs) false))
theorem atS_ap {s : DS} {R : Value × DS → Prop} {v : Value} : atS s R v = R (v, s) := rfl
theorem atD_ap {R : Value × DS → Prop} {s' : DS} : atD R s' = R (undefD, s') := rfl
theorem atG_ap {s : DS} {R : Value × DS → Prop} {cs : List Value} : atG s R cs = R (.agg ⟨cs⟩, s) := rfl
theorem atB_ap {n : Bool} {s : DS} {R : Value × DS → Prop} {b : Bool} : atB n s R b = R (.bool (if n then !b else b), s) := rfl
theorem atL_ap {n : Nat} {s : DS} {R : Value × DS → Prop} {cs : List Value} : atL n s R cs = R (.slice (some ⟨s.next, 0, none⟩) n n, s.new (.cells (.list cs) false)) := rfl
theorem W_atS {s : DS} {R : Value × DS → Prop} {v : Value} : W (some v) (atS s R) = R (v, s) := W_some
theorem W_atD {R : Value × DS → Prop} {s' : DS} : W (some s') (atD R) = R (undefD, s') := W_some
theorem W_atG {s : DS} {R : Value × DS → Prop} {cs : List Value} : W (some cs) (atG s R) = R (.agg ⟨cs⟩, s) := W_some
theorem W_atB {n : Bool} {s : DS} {R : Value × DS → Prop} {b : Bool} : W (some b) (atB n s R) = R (.bool (if n then !b else b), s) := W_some
theorem W_atL {n : Nat} {s : DS} {R : Value × DS → Prop} {cs : List Value} : W (some cs) (atL n s R) = R (.slice (some ⟨s.next, 0, none⟩) n n, s.new (.cells (.list cs) false)) := W_some
section
variable {call : CallFn} {ρ : Operand → Value} {s : DS} {R : Value × DS → Prop}
theorem W_mv {x : Operand} : W (dop call ρ s (.mv x)) R = R (ρ x, s) := W_some
theorem W_pure {o : DOp} (h : o.cls = .pure) : W (dop call ρ s o) R = W (dpure ρ o) (atS s R) := by
  unfold dop
  rw [h]
  simp only
  cases dpure ρ o <;> simp only [W_some, W_none, atS, atD, atG, atL]
theorem W_read {o : DOp} (h : o.cls = .read) : W (dop call ρ s o) R = W (dread ρ s o) (atS s R) := by
  unfold dop
  rw [h]
  simp only
  cases dread ρ s o <;> simp only [W_some, W_none, atS, atD, atG, atL]
theorem W_pick {c a b : Operand} : W (dop call ρ s (.pick c a b)) R = W (dpure ρ (.pick c a b)) (atS s R) := W_pure rfl
theorem W_bin {op : BinOp} {x y : Operand} : W (dop call ρ s (.bin op x y)) R = W (dbin op (ρ x) (ρ y)) (atS s R) := W_pure rfl
theorem W_eq {n : Bool} {t : ET} {x y : Operand} : W (dop call ρ s (.eq n t x y)) R = W (dpure ρ (.eq n t x y)) (atS s R) := W_pure rfl
theorem W_un {op : UnOp} {x : Operand} : W (dop call ρ s (.un op x)) R = W (dpure ρ (.un op x)) (atS s R) := W_pure rfl
theorem W_cvInt {k : IntKind} {x : Operand} : W (dop call ρ s (.cvInt k x)) R = W (dpure ρ (.cvInt k x)) (atS s R) := W_pure rfl
theorem W_cvStr {x : Operand} : W (dop call ρ s (.cvStr x)) R = W (dpure ρ (.cvStr x)) (atS s R) := W_pure rfl
theorem W_nilck {x : Operand} : W (dop call ρ s (.nilck x)) R = W (dpure ρ (.nilck x)) (atS s R) := W_pure rfl
theorem W_build {z : List Value} {parts : List (Nat × Nat × Operand)} : W (dop call ρ s (.build z parts)) R = W (fillParts ρ z parts) (atG s R) := by
  rw [W_pure rfl]
  simp only [dpure]
  cases fillParts ρ z parts <;> simp only [W_some, W_none, atS, atD, atG, atL]
theorem W_mkf {f : FuncId} {a b : List Operand} : W (dop call ρ s (.mkf f a b)) R = R (.func (.func f) ⟨a.map ρ⟩ ⟨b.map ρ⟩, s) := by rw [W_pure rfl]; exact W_some
theorem W_slS {x : Operand} {lo hi : Option Operand} : W (dop call ρ s (.slS x lo hi)) R = W (dpure ρ (.slS x lo hi)) (atS s R) := W_pure rfl
theorem W_slL {z : Nat} {x : Operand} {lo hi mx : Option Operand} : W (dop call ρ s (.slL z x lo hi mx)) R = W (dpure ρ (.slL z x lo hi mx)) (atS s R) := W_pure rfl
theorem W_slA {n z : Nat} {x : Operand} {lo hi mx : Option Operand} : W (dop call ρ s (.slA n z x lo hi mx)) R = W (dpure ρ (.slA n z x lo hi mx)) (atS s R) := W_pure rfl
theorem W_fadr {off : Nat} {x : Operand} : W (dop call ρ s (.fadr off x)) R = W (dpure ρ (.fadr off x)) (atS s R) := W_pure rfl
theorem W_fld {off : Nat} {agg : Option Nat} {x : Operand} : W (dop call ρ s (.fld off agg x)) R = W (dpure ρ (.fld off agg x)) (atS s R) := W_pure rfl
theorem W_ixA {n z : Nat} {x i : Operand} : W (dop call ρ s (.ixA n z x i)) R = W (dpure ρ (.ixA n z x i)) (atS s R) := W_pure rfl
theorem W_ixL {z : Nat} {x i : Operand} : W (dop call ρ s (.ixL z x i)) R = W (dpure ρ (.ixL z x i)) (atS s R) := W_pure rfl
theorem W_idxA {n z : Nat} {agg : Option Nat} {x i : Operand} : W (dop call ρ s (.idxA n z agg x i)) R = W (dpure ρ (.idxA n z agg x i)) (atS s R) := W_pure rfl
theorem W_idxS {x i : Operand} : W (dop call ρ s (.idxS x i)) R = W (dpure ρ (.idxS x i)) (atS s R) := W_pure rfl
theorem W_ext {x : Operand} {i : Nat} : W (dop call ρ s (.ext x i)) R = W (dpure ρ (.ext x i)) (atS s R) := W_pure rfl
theorem W_blenS {x : Operand} : W (dop call ρ s (.blenS x)) R = W (dpure ρ (.blenS x)) (atS s R) := W_pure rfl
theorem W_blenL {x : Operand} : W (dop call ρ s (.blenL x)) R = W (dpure ρ (.blenL x)) (atS s R) := W_pure rfl
theorem W_bcapL {x : Operand} : W (dop call ρ s (.bcapL x)) R = W (dpure ρ (.bcapL x)) (atS s R) := W_pure rfl
theorem W_blenA {n : Nat} : W (dop call ρ s (.blenA n)) R = R (.int .i64 n, s) := by rw [W_pure rfl]; exact W_some
theorem W_bmin {x : List Operand} : W (dop call ρ s (.bmin x)) R = W (dpure ρ (.bmin x)) (atS s R) := W_pure rfl
theorem W_bmax {x : List Operand} : W (dop call ρ s (.bmax x)) R = W (dpure ρ (.bmax x)) (atS s R) := W_pure rfl
theorem W_ld {a : Operand} : W (dop call ρ s (.ld none a)) R = W (ldV (ρ a) s) (atS s R) := by
  rw [W_read rfl]
  rfl
theorem W_ldA {n : Nat} {a : Operand} : W (dop call ρ s (.ld (some n) a)) R = W (ldA n (ρ a) s) (atS s R) := by
  rw [W_read rfl]
  rfl
theorem W_cvToStr {x : Operand} : W (dop call ρ s (.cvToStr x)) R = W (dread ρ s (.cvToStr x)) (atS s R) := W_read rfl
theorem W_look {str : KT} {ok : Bool} {z : Value} {m k : Operand} : W (dop call ρ s (.look str z ok m k)) R = W (dread ρ s (.look str z ok m k)) (atS s R) := W_read rfl
theorem W_blenM {x : Operand} : W (dop call ρ s (.blenM x)) R = W (dread ρ s (.blenM x)) (atS s R) := W_read rfl
theorem W_st {n : Nat} {a x : Operand} : W (dop call ρ s (.st n a x)) R = W (s_st n (ρ a) (ρ x) s) (atD R) := by
  rw [dop_st]
  cases s_st n (ρ a) (ρ x) s <;> simp only [W_some, W_none, atS, atD, atG, atL]
theorem W_alloc {z : List Value} : W (dop call ρ s (.alloc z)) R = R (.pointer (some ⟨s.next, 0, none⟩), s.new (.cells (.list z) false)) := W_some
theorem W_box {x : Operand} : W (dop call ρ s (.box x)) R = R (.pointer (some ⟨s.next, 0, none⟩), s.new (.cells (.list (ρ x).cells.toList) false)) := W_some
theorem W_bslice {n z : Nat} {zs : List Value} {parts : List (Nat × Nat × Operand)} (h : Nat.ble (n * z) 1048576 = true) :
    W (dop call ρ s (.bslice n z zs parts)) R = W (fillParts ρ (repeatZ zs n) parts) (atL n s R) := by
  show W (dmake ρ s (.bslice n z zs parts)) R = _
  unfold dmake
  simp only [h, if_true]
  cases fillParts ρ (repeatZ zs n) parts <;> simp only [W_some, W_none, atS, atD, atG, atL]
theorem W_mkmap : W (dop call ρ s (.mkmap none)) R = R (.map (some s.next), s.new (.map [] 0)) := W_some
theorem W_make {o : DOp} (h : o.cls = .make) : W (dop call ρ s o) R = W (dmake ρ s o) R := by unfold dop; rw [h]
theorem W_write {o : DOp} (h : o.cls = .write) : W (dop call ρ s o) R = W (dwrite ρ s o) R := by unfold dop; rw [h]
theorem W_call {f : Operand} {args : List Operand} : W (dop call ρ s (.call f args)) R = W (call (ρ f) (args.map ρ) s) R := rfl
end

/-! ### Conditions -/
def condP (v : Value) (A B : Prop) : Prop := match v with
  | .bool b => (b = true → A) ∧ (b = false → B)
  | _ => False
@[congr] theorem condP_congr {v v' : Value} {A B : Prop} (h : v = v') : condP v A B = condP v' A B := by rw [h]
theorem condP_true {A B : Prop} : condP (.bool true) A B = A := by simp [condP]
theorem condP_false {A B : Prop} : condP (.bool false) A B = B := by simp [condP]
theorem condP_not {b : Bool} {A B : Prop} : condP (.bool (!b)) A B = condP (.bool b) B A := by cases b <;> simp [condP]
theorem condP_dec {p : Prop} [Decidable p] {A B : Prop} : condP (.bool (decide p)) A B ↔ (p → A) ∧ (¬p → B) := by simp [condP]
theorem condP_bool {b : Bool} {A B : Prop} : condP (.bool b) A B ↔ (b = true → A) ∧ (b = false → B) := Iff.rfl
def gateP (v : Option Value) (w : Bool) (A B : Prop) : Prop := match v with
  | some (.bool b) => (b = w → A) ∧ (¬ b = w → B)
  | _ => B
@[congr] theorem gateP_congr {v v' : Option Value} {w : Bool} {A B : Prop} (h : v = v') : gateP v w A B = gateP v' w A B := by rw [h]
theorem gateP_tt {A B : Prop} : gateP (some (.bool true)) true A B = A := by simp [gateP]
theorem gateP_tf {A B : Prop} : gateP (some (.bool true)) false A B = B := by simp [gateP]
theorem gateP_ft {A B : Prop} : gateP (some (.bool false)) true A B = B := by simp [gateP]
theorem gateP_ff {A B : Prop} : gateP (some (.bool false)) false A B = A := by simp [gateP]
theorem gateP_not {b w : Bool} {A B : Prop} : gateP (some (.bool (!b))) w A B = gateP (some (.bool b)) (!w) A B := by cases b <;> cases w <;> simp [gateP]
theorem gateP_decT {p : Prop} [Decidable p] {A B : Prop} : gateP (some (.bool (decide p))) true A B ↔ (p → A) ∧ (¬p → B) := by simp [gateP]
theorem gateP_decF {p : Prop} [Decidable p] {A B : Prop} : gateP (some (.bool (decide p))) false A B ↔ (¬p → A) ∧ (p → B) := by simp [gateP]
theorem gateP_boolT {b : Bool} {A B : Prop} : gateP (some (.bool b)) true A B ↔ (b = true → A) ∧ (b = false → B) := by cases b <;> simp [gateP]
theorem gateP_boolF {b : Bool} {A B : Prop} : gateP (some (.bool b)) false A B ↔ (b = false → A) ∧ (b = true → B) := by cases b <;> simp [gateP]

/-! ### A region -/
def WO (call : CallFn) (ops : List DOper) (nt : List Note) (t : PT Value) (s : DS) (K : PT Value → DS → Prop) : Prop := W (dops call ops nt t s) fun p => K p.1 p.2
@[congr] theorem WO_congr {call : CallFn} {ops : List DOper} {nt : List Note} {t t' : PT Value} {s s' : DS} {K : PT Value → DS → Prop} (h : t = t') (h' : s = s') : WO call ops nt t s K = WO call ops nt t' s' K := by rw [h, h']
/-- what an operation with hazards sees -/
def mask (s : DS) (nt : List Note) (haz : List Nat) : DS := { s with vis := fun k => s.vis k && !hidden nt haz k, wr := fun k => s.wr k && !hidden nt haz k && !shielded nt haz k }
def unmask (s s' : DS) : DS := { s' with vis := s.vis, wr := s.wr }
section
variable {call : CallFn} {rest : List DOper} {nt : List Note} {t : PT Value} {s : DS} {K : PT Value → DS → Prop}
theorem WO_nil : WO call [] nt t s K = K t s := W_some
def contO (call : CallFn) (rest : List DOper) (nt : List Note) (d : Option Nat) (t : PT Value) (K : PT Value → DS → Prop) : Value × DS → Prop := fun r => WO call rest nt (putT t d r.1) r.2 K
def contN (call : CallFn) (rest : List DOper) (nt : List Note) (ft : List Nat) (lo : Nat) (d : Option Nat) (t : PT Value) (K : PT Value → DS → Prop) : Value × DS → Prop := fun r => WO call rest (nt ++ [⟨ft, lo, r.2.next⟩]) (putT t d r.1) r.2 K
def contH (call : CallFn) (rest : List DOper) (nt : List Note) (d : Option Nat) (t : PT Value) (s : DS) (K : PT Value → DS → Prop) : Value × DS → Prop := fun r => WO call rest nt (putT t d r.1) (unmask s r.2) K
def contHN (call : CallFn) (rest : List DOper) (nt : List Note) (ft : List Nat) (lo : Nat) (d : Option Nat) (t : PT Value) (s : DS) (K : PT Value → DS → Prop) : Value × DS → Prop := fun r => WO call rest (nt ++ [⟨ft, lo, r.2.next⟩]) (putT t d r.1) (unmask s r.2) K
theorem contO_ap {d : Option Nat} {v : Value} {s' : DS} : contO call rest nt d t K (v, s') = WO call rest nt (putT t d v) s' K := rfl
theorem contN_ap {ft : List Nat} {lo : Nat} {d : Option Nat} {v : Value} {s' : DS} : contN call rest nt ft lo d t K (v, s') = WO call rest (nt ++ [⟨ft, lo, s'.next⟩]) (putT t d v) s' K := rfl
theorem contH_ap {d : Option Nat} {v : Value} {s' : DS} : contH call rest nt d t s K (v, s') = WO call rest nt (putT t d v) (unmask s s') K := rfl
theorem contHN_ap {ft : List Nat} {lo : Nat} {d : Option Nat} {v : Value} {s' : DS} : contHN call rest nt ft lo d t s K (v, s') = WO call rest (nt ++ [⟨ft, lo, s'.next⟩]) (putT t d v) (unmask s s') K := rfl
theorem WO_pp {d : Option Nat} {op : DOp} : WO call (⟨d, op, none, [], false⟩ :: rest) nt t s K = W (dop call (ev t) s op) (contO call rest nt d t K) := by
  unfold WO
  simp only [dops, wantedD, if_true]
  cases dop call (ev t) s op with
  | none => simp only [W_none]
  | some r => obtain ⟨v, s'⟩ := r; simp only [W_some]; rfl
theorem WO_pn {d : Option Nat} {op : DOp} : WO call (⟨d, op, none, [], true⟩ :: rest) nt t s K = W (dop call (ev t) s op) (contN call rest nt (foot (ev t) s op) s.next d t K) := by
  unfold WO
  simp only [dops, wantedD, if_true]
  cases dop call (ev t) s op with
  | none => simp only [W_none]
  | some r => obtain ⟨v, s'⟩ := r; simp only [W_some, if_true]; rfl
/-- an operation under a guard, shut till the guard is known -/
def gateO (g : Option Value) (b : Bool) (call : CallFn) (o : DOper) (rest : List DOper) (nt : List Note) (t : PT Value) (s : DS) (K : PT Value → DS → Prop) : Prop :=
  gateP g b (WO call (⟨o.dst, o.op, none, o.haz, o.note⟩ :: rest) nt t s K) (WO call rest (if o.note then nt ++ [⟨[], s.next, s.next⟩] else nt) (putT t o.dst undefD) s K)
theorem gate_wanted {g : Nat} {b : Bool} {A B : Prop} : ((wantedD t (some (g, b)) = true → A) ∧ (¬ wantedD t (some (g, b)) = true → B)) = gateP (t.get g) b A B := by
  simp only [wantedD]
  generalize t.get g = o
  unfold gateP
  cases o with
  | none => simp
  | some v => cases v <;> simp
theorem WO_gate {o : DOper} {g : Nat} {b : Bool} : WO call (⟨o.dst, o.op, some (g, b), o.haz, o.note⟩ :: rest) nt t s K = gateP (t.get g) b (WO call (⟨o.dst, o.op, none, o.haz, o.note⟩ :: rest) nt t s K) (WO call rest (if o.note then nt ++ [⟨[], s.next, s.next⟩] else nt) (putT t o.dst undefD) s K) := by
  rw [← gate_wanted]
  unfold WO
  simp only [dops]
  cases hw : wantedD t (some (g, b)) with
  | true => simp [wantedD]
  | false => simp
theorem WO_g {d : Option Nat} {op : DOp} {g : Nat} {b : Bool} {haz : List Nat} {n : Bool} : WO call (⟨d, op, some (g, b), haz, n⟩ :: rest) nt t s K = gateO (t.get g) b call ⟨d, op, none, haz, n⟩ rest nt t s K :=
  WO_gate (o := ⟨d, op, none, haz, n⟩)
theorem gateO_tt {o : DOper} : gateO (some (.bool true)) true call o rest nt t s K = WO call (⟨o.dst, o.op, none, o.haz, o.note⟩ :: rest) nt t s K := gateP_tt
theorem gateO_tf {o : DOper} : gateO (some (.bool true)) false call o rest nt t s K = WO call rest (if o.note then nt ++ [⟨[], s.next, s.next⟩] else nt) (putT t o.dst undefD) s K := gateP_tf
theorem gateO_ft {o : DOper} : gateO (some (.bool false)) true call o rest nt t s K = WO call rest (if o.note then nt ++ [⟨[], s.next, s.next⟩] else nt) (putT t o.dst undefD) s K := gateP_ft
theorem gateO_ff {o : DOper} : gateO (some (.bool false)) false call o rest nt t s K = WO call (⟨o.dst, o.op, none, o.haz, o.note⟩ :: rest) nt t s K := gateP_ff
theorem gateO_un {b : Bool} {o : DOper} : gateO (some undefD) b call o rest nt t s K = WO call rest (if o.note then nt ++ [⟨[], s.next, s.next⟩] else nt) (putT t o.dst undefD) s K := rfl
theorem WO_hn {d : Option Nat} {op : DOp} {h : Nat} {hs : List Nat} : WO call (⟨d, op, none, h :: hs, true⟩ :: rest) nt t s K = W (dop call (ev t) (mask s nt (h :: hs)) op) (contHN call rest nt (foot (ev t) s op) s.next d t s K) := by
  unfold WO
  simp only [dops, wantedD, if_true]
  show W (match dop call (ev t) (mask s nt (h :: hs)) op with | some (v, s') => _ | none => _) _ = _
  cases dop call (ev t) (mask s nt (h :: hs)) op with
  | none => simp only [W_none]
  | some r => obtain ⟨v, s'⟩ := r; simp only [W_some]; rfl
theorem WO_hp {d : Option Nat} {op : DOp} {h : Nat} {hs : List Nat} : WO call (⟨d, op, none, h :: hs, false⟩ :: rest) nt t s K = W (dop call (ev t) (mask s nt (h :: hs)) op) (contH call rest nt d t s K) := by
  unfold WO
  simp only [dops, wantedD, if_true]
  show W (match dop call (ev t) (mask s nt (h :: hs)) op with | some (v, s') => _ | none => _) _ = _
  cases dop call (ev t) (mask s nt (h :: hs)) op with
  | none => simp only [W_none]
  | some r => obtain ⟨v, s'⟩ := r; simp only [W_some]; rfl
end

/-! ### Code -/
def WC (call : CallFn) (lf : Nat) (r : Bool) (c : DCode) (x : St) (K : DExit → St → Prop) : Prop := W (dcode call lf r c x) fun p => K p.1 p.2
@[congr] theorem WC_congr {call : CallFn} {lf : Nat} {r : Bool} {c : DCode} {x x' : St} {K : DExit → St → Prop} (h : x = x') : WC call lf r c x K = WC call lf r c x' K := by rw [h]
def onN (e : DExit) (x : St) (A : St → Prop) (B : DExit → St → Prop) : Prop := match e with
  | .normal => A x
  | e => B e x
@[congr] theorem onN_congr {e : DExit} {x x' : St} {A : St → Prop} {B : DExit → St → Prop} (h : x = x') : onN e x A B = onN e x' A B := by rw [h]
def onE (id : Nat) (e : DExit) (x : St) (K : DExit → St → Prop) : Prop := match e with
  | .exit j => if j = id then K .normal x else K (.exit j) x
  | e => K e x
@[congr] theorem onE_congr {id : Nat} {e : DExit} {x x' : St} {K : DExit → St → Prop} (h : x = x') : onE id e x K = onE id e x' K := by rw [h]
section
variable {call : CallFn} {lf : Nat} {r : Bool} {x : St} {t : PT Value} {s : DS} {ds : List Nat} {K : DExit → St → Prop}
def contS (call : CallFn) (lf : Nat) (r : Bool) (b : DCode) (K : DExit → St → Prop) : DExit → St → Prop := fun e y => onN e y (fun y => WC call lf r b y K) K
def contB (i : Nat) (K : DExit → St → Prop) : DExit → St → Prop := fun e y => onE i e y K
def contR (ds : List Nat) (K : DExit → St → Prop) : PT Value → DS → Prop := fun t' s' => K .normal ⟨t', s', ds⟩
theorem contS_normal {b : DCode} {y : St} : contS call lf r b K .normal y = WC call lf r b y K := rfl
theorem contS_ret {b : DCode} {y : St} : contS call lf r b K .ret y = K .ret y := rfl
theorem contS_exit {b : DCode} {y : St} {i : Nat} : contS call lf r b K (.exit i) y = K (.exit i) y := rfl
theorem contB_normal {i : Nat} {y : St} : contB i K .normal y = K .normal y := rfl
theorem contB_ret {i : Nat} {y : St} : contB i K .ret y = K .ret y := rfl
theorem contB_exit {i : Nat} {y : St} : contB i K (.exit i) y = K .normal y := by simp [contB, onE]
theorem contB_other {i j : Nat} {y : St} (h : ¬ j = i) : contB i K (.exit j) y = K (.exit j) y := by simp [contB, onE, h]
theorem contR_ap {t' : PT Value} {s' : DS} : contR ds K t' s' = K .normal ⟨t', s', ds⟩ := rfl
/-- two ways, shut till it is known which -/
def condC (v : Value) (call : CallFn) (lf : Nat) (r : Bool) (a b : DCode) (x : St) (K : DExit → St → Prop) : Prop := condP v (WC call lf r a x K) (WC call lf r b x K)
theorem condC_true {a b : DCode} : condC (.bool true) call lf r a b x K = WC call lf r a x K := condP_true
theorem condC_false {a b : DCode} : condC (.bool false) call lf r a b x K = WC call lf r b x K := condP_false
theorem onN_normal {A : St → Prop} {B : DExit → St → Prop} : onN .normal x A B = A x := rfl
theorem onN_ret {A : St → Prop} {B : DExit → St → Prop} : onN .ret x A B = B .ret x := rfl
theorem onN_exit {A : St → Prop} {B : DExit → St → Prop} {i : Nat} : onN (.exit i) x A B = B (.exit i) x := rfl
theorem onE_normal {id : Nat} : onE id .normal x K = K .normal x := rfl
theorem onE_ret {id : Nat} : onE id .ret x K = K .ret x := rfl
theorem onE_exit {id : Nat} : onE id (.exit id) x K = K .normal x := by simp [onE]
theorem onE_other {id j : Nat} (h : ¬ j = id) : onE id (.exit j) x K = K (.exit j) x := by simp [onE, h]
theorem WC_skip : WC call lf r .skip x K = K .normal x := W_some
theorem WC_ret : WC call lf r .ret x K = K .ret x := W_some
theorem WC_exit {i : Nat} : WC call lf r (.exit i) x K = K (.exit i) x := W_some
theorem WC_region {ops : List DOper} : WC call lf r (.region ops) ⟨t, s, ds⟩ K = WO call ops [] t s (contR ds K) := by
  unfold WC WO contR
  simp only [dcode]
  cases dops call ops [] t s with
  | none => simp only [W_none]
  | some p => obtain ⟨a, b⟩ := p; simp only [W_some]
theorem WC_seq {a b : DCode} : WC call lf r (.seq a b) x K = WC call lf r a x (contS call lf r b K) := by
  unfold contS WC
  simp only [dcode]
  cases dcode call lf r a x with
  | none => simp only [W_none]
  | some p =>
    obtain ⟨e, y⟩ := p
    cases e <;> simp only [W_some, onN]
theorem WC_cond {c : Operand} {a b : DCode} : WC call lf r (.cond c a b) x K = condC (ev x.t c) call lf r a b x K := by
  unfold condC WC condP
  simp only [dcode]
  split
  · rename_i h; simp [h]
  · rename_i h; simp [h]
  · rename_i h1 h2
    split
    · rename_i c hc; cases c with
      | true => exact absurd hc h1
      | false => exact absurd hc h2
    · simp only [W_none]
theorem WC_block {i : Nat} {b : DCode} : WC call lf r (.block i b) x K = WC call lf r b x (contB i K) := by
  unfold contB WC
  simp only [dcode]
  cases dcode call lf r b x with
  | none => simp only [W_none]
  | some p =>
    obtain ⟨e, y⟩ := p
    cases e <;> simp only [W_some, onE]
    split <;> simp only [W_some]
theorem WC_mono {c : DCode} {K' : DExit → St → Prop} (h : WC call lf r c x K) (hk : ∀ e y, K e y → K' e y) : WC call lf r c x K' := W.mono h fun p hp => hk _ _ hp
def contL (I : Nat → St → Prop) (m : Nat) (K : DExit → St → Prop) : DExit → St → Prop := fun e z => onN e z (fun z => ∃ m', m' < m ∧ I m' z) K
theorem contL_normal {I : Nat → St → Prop} {m : Nat} {z : St} : contL I m K .normal z = ∃ m', m' < m ∧ I m' z := rfl
theorem contL_ret {I : Nat → St → Prop} {m : Nat} {z : St} : contL I m K .ret z = K .ret z := rfl
theorem contL_exit {I : Nat → St → Prop} {m : Nat} {z : St} {i : Nat} : contL I m K (.exit i) z = K (.exit i) z := rfl
/-- a loop: what holds before each round, with a number that falls -/
theorem WC_loop {b : DCode} (I : Nat → St → Prop) (n : Nat) (hn : n < lf) (h0 : I n x)
    (hs : ∀ m y, m ≤ n → I m y → WC call lf r b y (contL I m K)) : WC call lf r (.loop b) x K := by
  have key : ∀ (f m : Nat) (y : St), m < f → m ≤ n → I m y → W (dloop (dcode call lf r b) f y) fun p => K p.1 p.2 := by
    intro f
    induction f with
    | zero => intro m y h; exact absurd h (Nat.not_lt_zero _)
    | succ f ih =>
      intro m y hm hmn hI
      obtain ⟨⟨e, z⟩, he, hz⟩ := hs m y hmn hI
      simp only [dloop, he]
      cases e with
      | normal =>
        obtain ⟨m', hm', hI'⟩ := hz
        exact ih m' z (by omega) (by omega) hI'
      | ret => exact ⟨_, rfl, hz⟩
      | exit i => exact ⟨_, rfl, hz⟩
  exact key lf n x hn (Nat.le_refl _) h0
end

/-! ### A function -/
def Ends (rs : List DRes) (Q : Value × DS → Prop) (e : DExit) (x : St) : Prop := match e with
  | .exit _ => False
  | _ => W (killAll x.s x.defers) fun s' => W (dresults x.t s' rs) fun vs => Q (tupled vs, s')
theorem W_enter {E : Env} {d g : Nat} {fn : DFunc} {a b : Array Value} {args : List Value} {s : DS} {Q : Value × DS → Prop} (hi : E.intr g = none) (hf : E.fn g = some fn) (hl : Nat.ble (a.toList ++ (args ++ b.toList)).length fn.ntmps = true) :
    W (dcall E (d + 1) (.func (.func g) a b) args s) Q = WC (dcall E d) E.lf false fn.body ⟨argsT (a.toList ++ (args ++ b.toList)), s, []⟩ (Ends fn.results Q) := by
  simp only [dcall, hi, hf, hl, if_true]
  unfold WC
  cases dcode (dcall E d) E.lf false fn.body ⟨argsT (a.toList ++ (args ++ b.toList)), s, []⟩ with
  | none => simp only [W_none]
  | some p =>
    obtain ⟨e, x⟩ := p
    have key : W (match killAll x.s x.defers with | some s' => (match dresults x.t s' fn.results with | some vs => some (tupled vs, s') | none => none) | none => none) Q = W (killAll x.s x.defers) fun s' => W (dresults x.t s' fn.results) fun vs => Q (tupled vs, s') := by
      cases killAll x.s x.defers with
      | none => simp only [W_none]
      | some s' =>
        simp only [W_some]
        cases dresults x.t s' fn.results <;> simp only [W_some, W_none]
    cases e with
    | exit i => simp only [W_some, W_none, Ends]
    | normal => simp only [W_some, Ends]; exact key
    | ret => simp only [W_some, Ends]; exact key
theorem Ends_ret {rs : List DRes} {Q : Value × DS → Prop} {t : PT Value} {s : DS} : Ends rs Q .ret ⟨t, s, []⟩ = W (dresults t s rs) fun vs => Q (tupled vs, s) := by
  simp only [Ends, killAll, W_some]
theorem Ends_normal {rs : List DRes} {Q : Value × DS → Prop} {t : PT Value} {s : DS} : Ends rs Q .normal ⟨t, s, []⟩ = W (dresults t s rs) fun vs => Q (tupled vs, s) := by
  simp only [Ends, killAll, W_some]

/-! ### Temporaries -/
def TT (t : PT Value) : List (Nat × Value) → Prop
  | [] => True
  | p :: l => t.get p.1 = some p.2 ∧ TT t l
theorem TT_nil {t : PT Value} : TT t [] = True := rfl
theorem TT_cons {t : PT Value} {i : Nat} {v : Value} {l : List (Nat × Value)} : TT t ((i, v) :: l) = (t.get i = some v ∧ TT t l) := rfl
theorem get_put_eq {α : Type} {t : PT α} {k : Nat} {x : Option α} : (t.put k x).get k = x := by rw [PT.get_put, if_pos rfl]
theorem get_put_ne {α : Type} {t : PT α} {k j : Nat} {x : Option α} (h : ¬ j = k) : (t.put k x).get j = t.get j := by rw [PT.get_put, if_neg h]
theorem ev_tmp {t : PT Value} {i : Nat} : ev t (.tmp i) = (t.get i).getD undefD := rfl
theorem ev_const {t : PT Value} {v : Value} : ev t (.const v) = v := rfl
theorem ev_func {t : PT Value} {f : Nat} : ev t (.func f) = .func (.func f) #[] #[] := rfl
theorem putT_some {t : PT Value} {i : Nat} {v : Value} : putT t (some i) v = t.put i (some v) := rfl
theorem putT_none {t : PT Value} {v : Value} : putT t none v = t := rfl

/-! ### Memory that is written -/
namespace DS
/-- a block that is seen is written -/
def upd (s : DS) (k : Nat) (o : DObj) : DS := if (s.get k).isSome then { s with heap := s.heap.put k (some o) } else s
/-- a block that is seen is taken away -/
def rid (s : DS) (k : Nat) : DS := if (s.get k).isSome then { s with heap := s.heap.put k none } else s
/-- what is new may be used -/
def Good (s : DS) : Prop := ∀ k, s.next ≤ k → s.vis k = true ∧ s.wr k = true
variable {s : DS} {k j : Nat} {o o' : DObj}
theorem upd_next : (s.upd k o).next = s.next := by unfold upd; split <;> rfl
theorem upd_vis : (s.upd k o).vis = s.vis := by unfold upd; split <;> rfl
theorem upd_wr : (s.upd k o).wr = s.wr := by unfold upd; split <;> rfl
theorem rid_next : (s.rid k).next = s.next := by unfold rid; split <;> rfl
theorem rid_vis : (s.rid k).vis = s.vis := by unfold rid; split <;> rfl
theorem rid_wr : (s.rid k).wr = s.wr := by unfold rid; split <;> rfl
theorem new_next : (s.new o).next = s.next + 1 := rfl
theorem new_vis : (s.new o).vis = s.vis := rfl
theorem new_wr : (s.new o).wr = s.wr := rfl
theorem get_lt' (h : s.get k = some o) : k < s.next := by
  unfold get at h
  split at h
  · rename_i c
    simp only [Bool.and_eq_true] at c
    exact blt_lt c.1
  · cases h
theorem upd_get_self : (s.upd k o).get k = (s.get k).map fun _ => o := by
  unfold upd
  cases h : s.get k with
  | none => simp [h]
  | some p =>
    simp only [Option.isSome_some, if_true, Option.map_some]
    have h2 := h
    unfold get at h2 ⊢
    split at h2
    · rename_i c
      simp only [c, if_true, get_put_eq]
    · cases h2
theorem upd_get_ne (h : ¬ j = k) : (s.upd k o).get j = s.get j := by
  unfold upd
  split
  · unfold get
    simp only [get_put_ne h]
  · rfl
theorem rid_get_ne (h : ¬ j = k) : (s.rid k).get j = s.get j := by
  unfold rid
  split
  · unfold get
    simp only [get_put_ne h]
  · rfl
theorem new_get_lt (h : j < s.next) : (s.new o).get j = s.get j := by
  have h1 : Nat.blt j s.next = true := blt_true h
  have h2 : Nat.blt j (s.next + 1) = true := blt_true (by omega)
  unfold new get
  simp only [h1, h2, Bool.true_and]
  rw [get_put_ne (by omega)]
theorem new_get_self (h : s.Good) : (s.new o).get s.next = some o := by
  have h2 : Nat.blt s.next (s.next + 1) = true := blt_true (by omega)
  unfold new get
  simp only [h2, (h s.next (Nat.le_refl _)).1, Bool.true_and, if_true, get_put_eq]
theorem upd_good : (s.upd k o).Good = s.Good := by unfold Good; rw [upd_next, upd_vis, upd_wr]
theorem rid_good : (s.rid k).Good = s.Good := by unfold Good; rw [rid_next, rid_vis, rid_wr]
theorem new_good (h : s.Good) : (s.new o).Good := fun i hi => h i (by have : s.next + 1 ≤ i := hi; omega)
theorem good_wr (h : s.Good) (hj : s.next ≤ j) : s.wr j = true := (h j hj).2
theorem set_upd (h : (s.get k).isSome = true) (hw : s.wr k = true) : s.set k o = some (s.upd k o) := by
  unfold set upd
  rw [if_pos hw, if_pos h]
theorem kill_rid (h : (s.get k).isSome = true) (hw : s.wr k = true) : s.kill k = some (s.rid k) := by
  unfold kill rid
  rw [if_pos hw, if_pos h]
/-- cells of a block are written -/
def wrC (s : DS) (k off : Nat) (l : List Value) : Option DS :=
  match s.get k with
  | some (.cells c false) => if Nat.ble (off + l.length) c.size && s.wr k then some (s.upd k (.cells (c.fillFrom off l) false)) else none
  | _ => none
theorem write_eq {off : Nat} {l : List Value} : s.write k off l = s.wrC k off l := by
  unfold write wrC
  cases hg : s.get k with
  | none => rfl
  | some ob =>
    cases ob with
    | cells c ro =>
      cases ro with
      | true => rfl
      | false =>
        simp only
        cases h1 : Nat.ble (off + l.length) c.size with
        | false => rfl
        | true =>
          simp only [Bool.true_and, if_true]
          cases h2 : s.wr k with
          | false => unfold set; simp [h2]
          | true => simp only [if_true]; exact set_upd (by rw [hg]; rfl) h2
    | _ => rfl
end DS
theorem st_wr {size : Nat} {k off : Nat} {x : Value} {s : DS} : s_st size (.pointer (some ⟨k, off, none⟩)) x s = if Nat.beq x.cells.toList.length size && allOne x.cells.toList then s.wrC k off x.cells.toList else none := by
  simp only [s_st, DS.write_eq]
/-- behind a run: what is old and not in F is as it was -/
structure Ext (F : List Nat) (s s' : DS) : Prop where
  le : s.next ≤ s'.next
  vis : s'.vis = s.vis
  wr : s'.wr = s.wr
  get : ∀ k, k < s.next → k ∉ F → s'.get k = s.get k
namespace Ext
variable {F G : List Nat} {s s1 s2 : DS} {k : Nat} {o o' : DObj}
theorem refl : Ext F s s := ⟨Nat.le_refl _, rfl, rfl, fun _ _ _ => rfl⟩
theorem trans (h : Ext F s s1) (h' : Ext G s1 s2) (hG : ∀ k, k ∈ G → k ∈ F ∨ s.next ≤ k) : Ext F s s2 :=
  ⟨Nat.le_trans h.le h'.le, h'.vis.trans h.vis, h'.wr.trans h.wr, fun k hk hf => (h'.get k (Nat.lt_of_lt_of_le hk h.le) fun hg => (hG k hg).elim hf fun h2 => by omega).trans (h.get k hk hf)⟩
theorem trans' (h : Ext F s s1) (h' : Ext F s1 s2) : Ext F s s2 := h.trans h' fun _ hk => .inl hk
theorem weaken (h : Ext F s s1) (hG : ∀ k, k ∈ F → k ∈ G ∨ s.next ≤ k) : Ext G s s1 := ⟨h.le, h.vis, h.wr, fun k hk hg => h.get k hk fun hf => (hG k hf).elim hg fun h2 => by omega⟩
theorem new : Ext F s (s.new o) := ⟨Nat.le_succ _, rfl, rfl, fun k hk _ => DS.new_get_lt hk⟩
theorem upd (h : k ∈ F ∨ s.next ≤ k) : Ext F s (s.upd k o) := ⟨by rw [DS.upd_next]; exact Nat.le_refl _, DS.upd_vis, DS.upd_wr, fun j hj hf => DS.upd_get_ne fun e => by subst e; exact h.elim hf (fun h => absurd hj (Nat.not_lt.2 h))⟩
theorem rid (h : k ∈ F ∨ s.next ≤ k) : Ext F s (s.rid k) := ⟨by rw [DS.rid_next]; exact Nat.le_refl _, DS.rid_vis, DS.rid_wr, fun j hj hf => DS.rid_get_ne fun e => by subst e; exact h.elim hf (fun h => absurd hj (Nat.not_lt.2 h))⟩
theorem good (h : Ext F s s1) (hg : s.Good) : s1.Good := fun i hi => by rw [h.vis, h.wr]; exact hg i (Nat.le_trans h.le hi)
theorem keep (h : Ext F s s1) (hg : s.get k = some o) (hf : k ∉ F) : s1.get k = some o := (h.get k (DS.get_lt' hg) hf).trans hg
theorem wrs (h : Ext F s s1) (hw : s.wr k = true) : s1.wr k = true := by rw [h.wr]; exact hw
end Ext
/-! ### Small rules -/
theorem W_enter0 {E : Env} {d g : Nat} {fn : DFunc} {args : List Value} {s : DS} {Q : Value × DS → Prop} (hi : E.intr g = none) (hf : E.fn g = some fn) (hl : Nat.ble args.length fn.ntmps = true) :
    W (dcall E (d + 1) (.func (.func g) #[] #[]) args s) Q = WC (dcall E d) E.lf false fn.body ⟨argsT args, s, []⟩ (Ends fn.results Q) := by
  have h := W_enter (E := E) (d := d) (a := #[]) (b := #[]) (args := args) (s := s) (Q := Q) hi hf (by simpa using hl)
  simpa using h
theorem intr_run {E : Env} {d g : Nat} {F : List Value → DS → Option (Value × DS)} {args : List Value} {s : DS} {r : Value × DS} (hi : E.intr g = some F) (h : F args s = some r) : dcall E (d + 1) (.func (.func g) #[] #[]) args s = some r := by
  simp [dcall, hi, h]
theorem eqv_one {k : SK} {x y : Value} : eqValF 5000 (.one k) x y = eqOne k x y := rfl
section
variable {call : CallFn} {ρ : Operand → Value} {s : DS} {R : Value × DS → Prop}
theorem W_eq1 {n : Bool} {k : SK} {x y : Operand} : W (dop call ρ s (.eq n (.one k) x y)) R = W (eqOne k (ρ x) (ρ y)) (atB n s R) := by
  rw [W_eq]
  simp only [dpure, eqv_one]
  cases eqOne k (ρ x) (ρ y) <;> simp only [W_some, W_none, atB, atS]
theorem W_mupd {str : KT} {m k x : Operand} : W (dop call ρ s (.mupd str m k x)) R = W (dwrite ρ s (.mupd str m k x)) R := W_write rfl
theorem W_bdel {str : KT} {m k : Operand} : W (dop call ρ s (.bdel str m k)) R = W (dwrite ρ s (.bdel str m k)) R := W_write rfl
theorem W_bapp {b z : Nat} {x y : Operand} : W (dop call ρ s (.bapp b z x y)) R = W (dwrite ρ s (.bapp b z x y)) R := W_write rfl
end
theorem ldV_at {k off : Nat} {s : DS} : ldV (.pointer (some ⟨k, off, none⟩)) s = (match s.get k with | some (.cells c _) => c.get off | _ => none) := rfl
theorem cells_int {k : IntKind} {n : Int} : (Value.int k n).cells.toList = [.int k n] := rfl
theorem cells_bool {b : Bool} : (Value.bool b).cells.toList = [.bool b] := rfl
theorem cells_str {b : ByteArray} : (Value.string b).cells.toList = [.string b] := rfl
theorem cells_ptr {a : Option Addr} : (Value.pointer a).cells.toList = [.pointer a] := rfl
theorem cells_slice {a : Option Addr} {n c : Nat} : (Value.slice a n c).cells.toList = [.slice a n c] := rfl
theorem cells_map {a : Option Nat} : (Value.map a).cells.toList = [.map a] := rfl
theorem cells_func {f : Fn} {a b : Array Value} : (Value.func f a b).cells.toList = [.func f a b] := rfl
theorem cells_agg {l : List Value} : (Value.agg ⟨l⟩).cells.toList = l := rfl
theorem dwrap_in {n : Int} (h1 : -9223372036854775808 ≤ n) (h2 : n < 9223372036854775808) : dwrap .i64 n = n := by
  rw [dwrap_eq]
  simp [IntKind.wrap, IntKind.bits, IntKind.signed]
  omega
theorem mask_get {s : DS} {nt : List Note} {haz : List Nat} {k : Nat} (h : hidden nt haz k = false) : (mask s nt haz).get k = s.get k := by
  unfold mask DS.get
  simp [h]
theorem mask_next {s : DS} {nt : List Note} {haz : List Nat} : (mask s nt haz).next = s.next := rfl
theorem unmask_get {s s' : DS} {nt : List Note} {haz : List Nat} {k : Nat} (h : Ext [] (mask s nt haz) s') (hk : k < s.next) (hh : hidden nt haz k = false) : (unmask s s').get k = s.get k := by
  have h1 := h.get k hk (by simp)
  rw [mask_get hh] at h1
  unfold unmask DS.get at *
  have hv : s'.vis k = (s.vis k && !hidden nt haz k) := by rw [h.vis]; rfl
  rw [hv] at h1
  have h2 : k < s'.next := Nat.lt_of_lt_of_le hk h.le
  simp only [hh, Bool.not_false, Bool.and_true, blt_true hk, blt_true h2, Bool.true_and] at h1 ⊢
  exact h1
theorem ble_blt (a k : Nat) : (Nat.ble a k && Nat.blt k a) = false := by
  cases h1 : Nat.ble a k with
  | false => rfl
  | true =>
    cases h2 : Nat.blt k a with
    | false => rfl
    | true =>
      have h1 := Nat.le_of_ble_eq_true h1
      have h2 := blt_lt h2
      omega
theorem unmask_new {s : DS} {nt : List Note} {haz : List Nat} {o : DObj} : unmask s ((mask s nt haz).new o) = s.new o := rfl
theorem asIdx_cast (q : IntKind) (n : Nat) : asIdx (.int q (n : Int)) = some n := rfl
theorem getN_get0 : ∀ (l : List Value) (i : Nat), getN l i = l[i]?
  | [], _ => rfl
  | _ :: _, 0 => rfl
  | _ :: l, i + 1 => by simpa [getN] using getN_get0 l i
end Go.Dx
