/- The evaluator Dx: from the model's code to D-code. Definitions alone. -/
import Derived.Test.YtnmajohhfcgddaaDxBase
import GoSem.Core.Layout
import GoSem.ClaimKeys
set_option linter.unusedVariables false
set_option linter.unusedSimpArgs false
set_option linter.unusedSectionVars false
namespace Go.Dx

mutual
/-- a constant that bears no address -/
def closedV : Value → Bool
  | .bool _ | .int _ _ | .string _ | .nilFunc => true
  | .pointer none | .map none => true
  | .slice none _ _ => true
  | .agg cs => closedA cs.toList
  | .tuple cs => closedA cs.toList
  | .func (.func _) a b => closedA a.toList && closedA b.toList
  | _ => false
def closedA : List Value → Bool
  | [] => true
  | v :: l => closedV v && closedA l
end
def okOpd (n : Nat) : Operand → Bool
  | .tmp t => Nat.blt t n
  | .const v => closedV v
  | .func _ => true
  | .global _ => false

def getF : List Field → Nat → Option Field
  | [], _ => none
  | x :: _, 0 => some x
  | _ :: l, n + 1 => getF l n
section
variable (P : Program)
def szOf (t : TypeId) : Option Nat := (P.info? t).map (·.size)
def bytesOf' (t : TypeId) : Option Nat := (P.info? t).map (·.bytes)
def zeroOf (t : TypeId) : Option (List Value) := (P.info? t).bind fun i => i.zero.bind fun z => if closedA z.cells.toList then some z.cells.toList else none
def aggOf (t : TypeId) : Option (Option Nat) :=
  match P.underlying t with
  | some (.struct _) => (szOf P t).map some
  | some (.array _ _) => (szOf P t).map some
  | some _ => some none
  | none => none
mutual
def etOf : Nat → TypeId → Option ET
  | 0, _ => none
  | d + 1, t =>
    match P.underlying t with
    | some .bool => some (.one .bool)
    | some (.int _) => some (.one .int)
    | some .string => some (.one .str)
    | some (.pointer e) => match szOf P e with
      | some (_ + 1) => some (.one .ptr)
      | _ => none
    | some (.slice _) => some (.one .slice)
    | some (.map _ _) => some (.one .map)
    | some (.func _ _ _) => some (.one .func)
    | some (.struct fs) => if P.stoodInHeld t then none else match etFields d fs.toList with
      | some l => some (.struct l)
      | none => none
    | some (.array n e) => match szOf P e, etOf d e with
      | some s, some x => if (match x with | .one _ => Nat.beq s 1 | _ => true) then some (.arr n s x) else none
      | _, _ => none
    | _ => none
def etFields : Nat → List Field → Option (List (Nat × Nat × ET))
  | 0, _ => none
  | _, [] => some []
  | d + 1, f :: fs =>
    if f.name == "_" then none else
    match szOf P f.type, etOf d f.type, etFields d fs with
    | some s, some x, some l => some ((f.offset, s, x) :: l)
    | _, _, _ => none
end
/-- the kinds of a struct's fields that are whole numbers, one cell each, in order -/
def aggKinds : List Field → Nat → Option (List IntKind)
  | [], _ => some []
  | f :: fs, pos =>
    if f.name != "_" && (Nat.beq f.offset pos && Nat.beq (P.cellsOf f.type) 1) then
      match P.underlying f.type, aggKinds fs (pos + 1) with
      | some (.int q), some l => some (q :: l)
      | _, _ => none
    else none
def aggKey (t : TypeId) : Option (List IntKind) :=
  match P.underlying t with
  | some (.struct fs) => match aggKinds P fs.toList 0 with
    | some ks => if Nat.beq (P.cellsOf t) ks.length && (P.keyTypeAt 3 t && (etOf P 60 t).isSome) then some ks else none
    | none => none
  | some (.array n e) => match P.underlying e with
    | some (.int q) => if Nat.beq (P.cellsOf t) n && (Nat.beq (P.cellsOf e) 1 && (P.keyTypeAt 3 t && (etOf P 60 t).isSome)) then some (List.replicate n q) else none
    | _ => none
  | _ => none
def isStrKey (t : TypeId) : Option KT :=
  match P.underlying t with
  | some .string => some .txt
  | some (.int _) => some .num
  | some _ => match aggKey P t with
    | some ks => some (.agg ks)
    | none => none
  | none => none

def trParts (place : Nat → Option (Nat × Nat)) : List (Nat × Operand) → Option (List (Nat × Nat × Operand))
  | [] => some []
  | (i, x) :: r =>
    match place i, trParts place r with
    | some (off, size), some l => some ((off, size, x) :: l)
    | _, _ => none

def trEq (neg : Bool) (t : TypeId) (x y : Operand) : DOp :=
  match P.underlying t with
  | some (.int _) => .bin (if neg then .neq else .eql) x y
  | some .string => .bin (if neg then .neq else .eql) x y
  | _ => match etOf P 12 t with
    | some e => if P.eqGuardType P.depth t then .bad else .eq neg e x y
    | none => .bad

def trAppend (e : TypeId) (s x : Operand) : DOp :=
  match szOf P e, bytesOf' P e, zeroOf P e with
  | some (sz + 1), some by_, some z => if Nat.beq z.length (sz + 1) then .bapp by_ (sz + 1) s x else .bad
  | _, _, _ => .bad
def trBuiltin (b : Builtin) (args : List Operand) (ts : List TypeId) : DOp :=
  match b, args, ts with
  | .append, [s, x], t :: u :: _ =>
    match P.underlying t, P.underlying u with
    | some (.slice e), some (.slice _) => trAppend P e s x
    | some (.slice e), some .string => trAppend P e s x
    | some (.slice e), some (.int _) => match szOf P e, bytesOf' P e, zeroOf P e with
      | some (sz + 1), some by_, some z => if Nat.beq z.length (sz + 1) then .bappZ by_ z s x else .bad
      | _, _, _ => .bad
    | _, _ => .bad
  | .len, [x], t :: _ =>
    match P.underlying t with
    | some .string => .blenS x
    | some (.slice _) => .blenL x
    | some (.map _ _) => .blenM x
    | some (.array n _) => .blenA n
    | some (.pointer a) => match P.underlying a with
      | some (.array n _) => .blenA n
      | _ => .bad
    | _ => .bad
  | .cap, [x], t :: _ =>
    match P.underlying t with
    | some (.slice _) => .bcapL x
    | some (.array n _) => .blenA n
    | some (.pointer a) => match P.underlying a with
      | some (.array n _) => .blenA n
      | _ => .bad
    | _ => .bad
  | .copy, [d, s], t :: _ =>
    match P.underlying t with
    | some (.slice e) => match szOf P e with
      | some (sz + 1) => .bcopy (sz + 1) d s
      | _ => .bad
    | _ => .bad
  | .delete, [m, k], t :: _ =>
    match P.underlying t with
    | some (.map kt _) => match isStrKey P kt with
      | some b => .bdel b m k
      | none => .bad
    | _ => .bad
  | .clear, [m], t :: _ =>
    match P.underlying t with
    | some (.map _ _) => .bclrM m
    | some (.slice e) => match zeroOf P e with
      | some z => if Nat.blt 0 z.length then .bclrL z m else .bad
      | none => .bad
    | _ => .bad
  | .min, xs, t :: _ => match P.underlying t with | some (.int _) => .bmin xs | _ => .bad
  | .max, xs, t :: _ => match P.underlying t with | some (.int _) => .bmax xs | _ => .bad
  | _, _, _ => .bad

def structPlace (fs : List Field) (i : Nat) : Option (Nat × Nat) :=
  match getF fs i with
  | some f => (szOf P f.type).map fun s => (f.offset, s)
  | none => none
def arrPlace (s i : Nat) : Option (Nat × Nat) := some (i * s, s)

def trOp (o : Oper) : DOp :=
  match o.op with
  | .move x => .mv x
  | .assign x => .mv x
  | .pick c a b => .pick c a b
  | .alloc t => match zeroOf P t with | some z => .alloc z | none => .bad
  | .box _ x => .box x
  | .build t parts =>
    match zeroOf P t, P.underlying t with
    | some z, some (.struct fs) =>
      match trParts (structPlace P fs.toList) parts.toList with
      | some l => if fs.all (fun f => (szOf P f.type).isSome) then .build z l else .bad
      | none => .bad
    | some z, some (.array _ e) =>
      match szOf P e with
      | some s => match trParts (arrPlace s) parts.toList with
        | some l => .build z l
        | none => .bad
      | none => .bad
    | _, _ => .bad
  | .buildSlice t n parts =>
    match P.underlying t with
    | some (.slice e) => match szOf P e, zeroOf P e with
      | some (s + 1), some z => if Nat.beq z.length (s + 1) then
          match trParts (arrPlace (s + 1)) parts.toList with
          | some l => .bslice n (s + 1) z l
          | none => .bad
        else .bad
      | _, _ => .bad
    | _ => .bad
  | .load t a => match aggOf P t with | some g => .ld g a | none => .bad
  | .store t a x => match szOf P t with | some s => .st s a x | none => .bad
  | .nilCheck x => .nilck x
  | .sliceToArrayPointer t x => match P.underlying t with | some (.array n _) => .s2a n x | _ => .bad
  | .binOp .eql t x y _ => trEq P false t x y
  | .binOp .neq t x y _ => trEq P true t x y
  | .binOp op _ x y _ => .bin op x y
  | .unOp op _ x => .un op x
  | .convert src dst x =>
    match P.underlying src, P.underlying dst with
    | some (.int _), some (.int k) => .cvInt k x
    | some .string, some .string => .cvStr x
    | some .string, some (.slice e) => match P.underlying e with
      | some (.int .u8) => .cvToBytes x
      | _ => .bad
    | some (.slice e), some .string => match P.underlying e with
      | some (.int .u8) => .cvToStr x
      | _ => .bad
    | some (.slice _), some (.slice e) => if src = dst then match P.underlying e with
        | some (.int .u8) => .cvB x
        | _ => .bad
      else .bad
    | _, _ => .bad
  | .makeFunc (.func f) first captured => .mkf f first.toList captured.toList
  | .makeMap t r => match P.underlying t with | some (.map _ _) => .mkmap r | _ => .bad
  | .makeSlice t l c =>
    match P.underlying t with
    | some (.slice e) => match szOf P e, bytesOf' P e, zeroOf P e with
      | some (s + 1), some by_, some z => if Nat.beq z.length (s + 1) then .mkslice by_ z l c else .bad
      | _, _, _ => .bad
    | _ => .bad
  | .slice t x lo hi mx =>
    match P.underlying t with
    | some .string => if mx.isSome then .bad else .slS x lo hi
    | some (.slice e) => match szOf P e with | some (s + 1) => .slL (s + 1) x lo hi mx | _ => .bad
    | some (.array n e) => match szOf P e with | some (s + 1) => .slA n (s + 1) x lo hi mx | _ => .bad
    | some (.pointer a) => match P.underlying a with
      | some (.array n e) => match szOf P e with | some (s + 1) => .slA n (s + 1) x lo hi mx | _ => .bad
      | _ => .bad
    | _ => .bad
  | .fieldAddr t x i =>
    match P.underlying t with
    | some (.struct fs) => match getF fs.toList i with
      | some f => match szOf P f.type with | some (_ + 1) => .fadr f.offset x | _ => .bad
      | none => .bad
    | _ => .bad
  | .field t x i =>
    match P.underlying t with
    | some (.struct fs) => match getF fs.toList i with
      | some f => match aggOf P f.type with | some g => .fld f.offset g x | none => .bad
      | none => .bad
    | _ => .bad
  | .indexAddr t x i =>
    match P.underlying t with
    | some (.array n e) => match szOf P e with | some (s + 1) => .ixA n (s + 1) x i | _ => .bad
    | some (.slice e) => match szOf P e with | some (s + 1) => .ixL (s + 1) x i | _ => .bad
    | _ => .bad
  | .index t x i =>
    match P.underlying t with
    | some (.array n e) => match szOf P e, aggOf P e with | some (s + 1), some g => .idxA n (s + 1) g x i | _, _ => .bad
    | some .string => .idxS x i
    | _ => .bad
  | .lookup t m k ok =>
    match P.underlying t with
    | some (.map kt e) => match isStrKey P kt, (P.info? e).bind (·.zero) with
      | some b, some z => if closedV z then .look b z ok m k else .bad
      | _, _ => .bad
    | _ => .bad
  | .mapUpdate t m k x =>
    match P.underlying t with
    | some (.map kt _) => match isStrKey P kt with | some b => .mupd b m k x | none => .bad
    | _ => .bad
  | .insert t m k x =>
    match P.underlying t with
    | some (.map kt _) => match isStrKey P kt with | some b => .mupd b m k x | none => .bad
    | _ => .bad
  | .mapEntry t m k =>
    match P.underlying t with
    | some (.map kt e) => match isStrKey P kt, (P.info? e).bind (·.zero) with
      | some b, some z => if closedV z then .ment b z m k else .bad
      | _, _ => .bad
    | _ => .bad
  | .entryStore _ m s x => .estore m s x
  | .range t x => match P.underlying t with | some (.map _ _) => .rng x | _ => .bad
  | .next it false => .nxt it
  | .entry it => .ent it
  | .extract x i => .ext x i
  | .call { callee := .builtin b, args, argTypes } => trBuiltin P b args.toList argTypes.toList
  | .call { callee := .value f, args, .. } => .call f args.toList
  | _ => .bad

/-! ### Regions -/
def okOps (n : Nat) (xs : List Operand) : Bool :=
  match xs with
  | [] => true
  | x :: l => okOpd n x && okOps n l
def orBits : List Nat → Nat
  | [] => 0
  | x :: l => x ||| orBits l
def anyEdges (o : Oper) : List Nat := (o.after.toList.filter (Region.binds .any)).map (·.on)
/-- of each operation, the bits of those that come before it -/
def befores (ops : List Oper) : List Nat → List Nat
  | acc => match ops with
    | [] => acc
    | o :: rest => befores rest (acc ++ [orBits ((anyEdges o).map fun i => 2 ^ i ||| acc.getD i 0)])
def dstOf (ops : List Oper) (j : Nat) : Option Nat :=
  match ops, j with
  | [], _ => none
  | o :: _, 0 => o.dst
  | _ :: l, n + 1 => dstOf l n
def trGuard (ops : List Oper) : Option (Nat × Bool) → Option (Option (Nat × Bool))
  | none => some none
  | some (j, want) => match dstOf ops j with
    | some t => some (some (t, want))
    | none => none
/-- the temporaries that an operation reads -/
def usesOf (ops : List Oper) (o : Oper) : List Nat :=
  (o.op.operands.toList.filterMap fun | .tmp t => some t | _ => none) ++ (match o.guard with | some (j, _) => (dstOf ops j).toList | none => [])
def opOk (n : Nat) (ops : List Oper) (o : Oper) : Bool :=
  okOps n o.op.operands.toList && (match o.dst with | some d => Nat.blt d n | none => true) &&
  (match o.guard with | some (j, _) => (match dstOf ops j with | some t => Nat.blt t n | none => false) | none => true) &&
  (match o.op with | .defer _ => false | _ => true)

structure Cand where
  bit : Nat
  bef : Nat
  dop : DOp
  dst : Option Nat
  uses : List Nat
  guard : Option (Nat × Bool)
  deriving Inhabited
def cands (ops : List Oper) (all : List Oper) (bs : List Nat) (i : Nat) : List Cand :=
  match ops, bs with
  | o :: r, b :: bs => { bit := i, bef := b, dop := trOp P o, dst := o.dst, uses := usesOf all o, guard := (trGuard all o.guard).getD none } :: cands r all bs (i + 1)
  | _, _ => []
def isW (c : Cand) : Bool := c.dop.cls = .write || c.dop.cls = .call || c.dop.cls = .bad
/-- the first that is ready, and no writer; else the first that is ready -/
def pickOne (done : Nat) (w : Bool) : List Cand → Option (Cand × List Cand)
  | [] => none
  | c :: r =>
    if (c.bef &&& done) = c.bef && (w || !isW c) then some (c, r)
    else match pickOne done w r with
      | some (x, l) => some (x, c :: l)
      | none => none
def arrange : Nat → Nat → List Cand → Option (List Cand)
  | _, _, [] => some []
  | 0, _, _ => none
  | n + 1, done, l =>
    match (match pickOne done false l with | some r => some r | none => pickOne done true l) with
    | none => none
    | some (c, rest) => match arrange n (done ||| 2 ^ c.bit) rest with
      | some l => some (c :: l)
      | none => none
def ordered (a b : Cand) : Bool := b.bef.testBit a.bit || a.bef.testBit b.bit
def disjointT (a b : Cand) : Bool :=
  (match a.dst with | some d => !memN b.uses d && b.dst != some d | none => true) && (match b.dst with | some d => !memN a.uses d | none => true)
def isRd (c : Cand) : Bool := c.dop.cls = .read || (match c.dop with | .rng _ => true | _ => false)
def isMk (c : Cand) : Bool := c.dop.cls = .make
/-- may b, which stands behind a in the canonical order, stand ahead of it? -/
def pairOk (a b : Cand) : Bool := ordered a b || (disjointT a b && !isW a)
def hazard (a b : Cand) : Bool := !ordered a b && ((isMk a && (isRd b || isW b)) || (isRd a && isW b))
def hazOf (l : List Cand) (c : Cand) (i : Nat) : List Nat :=
  match l with
  | [] => []
  | a :: r => if hazard a c then i :: hazOf r c (i + 1) else hazOf r c (i + 1)
def pairsOk : List Cand → List Cand → Bool
  | _, [] => true
  | front, c :: r => front.all (pairOk · c) && pairsOk (front ++ [c]) r
def extendsOk : Nat → List Cand → Bool
  | _, [] => true
  | done, c :: r => (c.bef &&& done) = c.bef && extendsOk (done ||| 2 ^ c.bit) r
def withHaz : List Cand → List Cand → List (Cand × List Nat)
  | _, [] => []
  | front, c :: r => (c, hazOf front c 0) :: withHaz (front ++ [c]) r

def trRegion (n : Nat) (ops : Array Oper) (draw : Bool) : Option (List DOper) :=
  let l := ops.toList
  if !(l.all (opOk n l)) then none else
  if !draw then some (l.map fun o => { dst := o.dst, op := trOp P o, guard := (trGuard l o.guard).getD none, haz := [], note := false })
  else
    let bs := befores l []
    let cs := cands P l l bs 0
    match arrange l.length 0 cs with
    | none => none
    | some ord =>
      if pairsOk [] ord && extendsOk 0 ord then
        let hz := withHaz [] ord
        let note := hz.any fun x => !x.2.isEmpty
        some (hz.map fun (c, h) => { dst := c.dst, op := c.dop, guard := c.guard, haz := h, note })
      else none

def trCode (n : Nat) : Code → DCode
  | .skip => .skip
  | .ret => .ret
  | .exit id => .exit id
  | .region _ ops draw => match trRegion P n ops draw with | some l => .region l | none => .bad
  | .seq a b => .seq (trCode n a) (trCode n b)
  | .cond c a b => if okOpd n c then .cond c (trCode n a) (trCode n b) else .bad
  | .block id b => .block id (trCode n b)
  | .scope b => trCode n b
  | .label _ => .skip
  | .loop b => .loop (trCode n b)
  | .rangeFunc f ps a b => if okOpd n f && ps.all (Nat.blt · n) then .rangeFunc f ps.toList (trCode n a) (trCode n b) else .bad
  | _ => .bad
def trRes (n : Nat) : ResultVar → Option DRes
  | .tmp t => if Nat.blt t n then some (.tmp t) else none
  | .cell a t => if Nat.blt a n then (match aggOf P t with | some g => some (.cell a g) | none => none) else none
def trResults (n : Nat) : List ResultVar → Option (List DRes)
  | [] => some []
  | r :: l => match trRes P n r, trResults n l with
    | some x, some y => some (x :: y)
    | _, _ => none
def trFunc (f : Func) : Option DFunc :=
  match f.body, trResults P f.ntmps f.results.toList with
  | some c, some rs => if f.name == "runtime.NumGoroutine" then none else some { ntmps := f.ntmps, results := rs, body := trCode P f.ntmps c }
  | _, _ => none
end
end Go.Dx
