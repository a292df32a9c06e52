/- A part. -/
import Derived.Test.YthmgnfeljhdioaaGreatDxBase
import GoSem.Core.Layout
import GoSem.ClaimKeys
set_option linter.unusedVariables false
set_option linter.unusedSimpArgs false
set_option linter.unusedSectionVars false
namespace Go.Dx
mutual
def closedV : Value → Bool
 | .bool _ | .int _ _ | .string _ | .nilFunc => true
 | .pointer none | .map none => true
 | .slice none _ _ => true
 | .agg cs => closedA cs.toList
 | .tuple cs => closedA cs.toList
 | .func (.func _) a b => closedA a.toList && closedA b.toList
 | _ => false
def closedA : List Value → Bool
 | [] => true
 | v :: l => closedV v && closedA l
end
def JA (n : Nat) : Operand → Bool
 | .tmp t => Nat.blt t n
 | .const v => closedV v
 | .func _ => true
 | .global _ => false
def Fy : List Field → Nat → Option Field
 | [], _ => none
 | x :: _, 0 => some x
 | _ :: l, n + 1 => Fy l n
section
variable (P : Program)
def Zx (t : TypeId) : Option Nat := (P.info? t).map (·.size)
def Zn (t : TypeId) : Option Nat := (P.info? t).map (·.bytes)
def zeroOf (t : TypeId) : Option (List Value) := (P.info? t).bind fun i => i.zero.bind fun z => if closedA z.cells.toList then some z.cells.toList else none
def ZV (t : TypeId) : Option (Option Nat) :=
 match P.underlying t with
 | some (.struct _) => (Zx P t).map some
 | some (.array _ _) => (Zx P t).map some
 | some _ => some none
 | none => none
mutual
def XN : Nat → TypeId → Option ET
 | 0, _ => none
 | d + 1, t =>
  match P.underlying t with
  | some .bool => some (.one .bool)
  | some (.int _) => some (.one .int)
  | some .string => some (.one .str)
  | some (.pointer e) => match Zx P e with
   | some (_ + 1) => some (.one .ptr)
   | _ => none
  | some (.slice _) => some (.one .slice)
  | some (.map _ _) => some (.one .map)
  | some (.func _ _ _) => some (.one .func)
  | some (.struct fs) => if P.stoodInHeld t then none else match Zz d fs.toList with
   | some l => some (.struct l)
   | none => none
  | some (.array n e) => match Zx P e, XN d e with
   | some s, some x => if (match x with | .one _ => Nat.beq s 1 | _ => true) then some (.arr n s x) else none
   | _, _ => none
  | _ => none
def Zz : Nat → List Field → Option (List (Nat × Nat × ET))
 | 0, _ => none
 | _, [] => some []
 | d + 1, f :: fs =>
  if f.name == "_" then none else
  match Zx P f.type, XN d f.type, Zz d fs with
  | some s, some x, some l => some ((f.offset, s, x) :: l)
  | _, _, _ => none
end
def YC : List Field → Nat → Option (List IntKind)
 | [], _ => some []
 | f :: fs, pos =>
  if f.name != "_" && (Nat.beq f.offset pos && Nat.beq (P.cellsOf f.type) 1) then
   match P.underlying f.type, YC fs (pos + 1) with
   | some (.int q), some l => some (q :: l)
   | _, _ => none
  else none
def Cu (t : TypeId) : Option (List IntKind) :=
 match P.underlying t with
 | some (.struct fs) => match YC P fs.toList 0 with
  | some ks => if Nat.beq (P.cellsOf t) ks.length && (P.keyTypeAt 3 t && (XN P 60 t).isSome) then some ks else none
  | none => none
 | some (.array n e) => match P.underlying e with
  | some (.int q) => if Nat.beq (P.cellsOf t) n && (Nat.beq (P.cellsOf e) 1 && (P.keyTypeAt 3 t && (XN P 60 t).isSome)) then some (List.replicate n q) else none
  | _ => none
 | _ => none
def Zp (t : TypeId) : Option KT :=
 match P.underlying t with
 | some .string => some .txt
 | some (.int _) => some .num
 | some _ => match Cu P t with
  | some ks => some (.agg ks)
  | none => none
 | none => none
def Xw (place : Nat → Option (Nat × Nat)) : List (Nat × Operand) → Option (List (Nat × Nat × Operand))
 | [] => some []
 | (i, x) :: r =>
  match place i, Xw place r with
  | some (off, size), some l => some ((off, size, x) :: l)
  | _, _ => none
def GN (neg : Bool) (t : TypeId) (x y : Operand) : DOp :=
 match P.underlying t with
 | some (.int _) => .bin (if neg then .neq else .eql) x y
 | some .string => .bin (if neg then .neq else .eql) x y
 | _ => match XN P 12 t with
  | some e => if P.eqGuardType P.depth t then .bad else .eq neg e x y
  | none => .bad
def YS (e : TypeId) (s x : Operand) : DOp :=
 match Zx P e, Zn P e, zeroOf P e with
 | some (sz + 1), some by_, some z => if Nat.beq z.length (sz + 1) then .bapp by_ (sz + 1) s x else .bad
 | _, _, _ => .bad
def Y8 (b : Builtin) (args : List Operand) (ts : List TypeId) : DOp :=
 match b, args, ts with
 | .append, [s, x], t :: u :: _ =>
  match P.underlying t, P.underlying u with
  | some (.slice e), some (.slice _) => YS P e s x
  | some (.slice e), some .string => YS P e s x
  | some (.slice e), some (.int _) => match Zx P e, Zn P e, zeroOf P e with
   | some (sz + 1), some by_, some z => if Nat.beq z.length (sz + 1) then .bappZ by_ z s x else .bad
   | _, _, _ => .bad
  | _, _ => .bad
 | .len, [x], t :: _ =>
  match P.underlying t with
  | some .string => .blenS x
  | some (.slice _) => .blenL x
  | some (.map _ _) => .blenM x
  | some (.array n _) => .blenA n
  | some (.pointer a) => match P.underlying a with
   | some (.array n _) => .blenA n
   | _ => .bad
  | _ => .bad
 | .cap, [x], t :: _ =>
  match P.underlying t with
  | some (.slice _) => .bcapL x
  | some (.array n _) => .blenA n
  | some (.pointer a) => match P.underlying a with
   | some (.array n _) => .blenA n
   | _ => .bad
  | _ => .bad
 | .copy, [d, s], t :: _ =>
  match P.underlying t with
  | some (.slice e) => match Zx P e with
   | some (sz + 1) => .bcopy (sz + 1) d s
   | _ => .bad
  | _ => .bad
 | .delete, [m, k], t :: _ =>
  match P.underlying t with
  | some (.map kt _) => match Zp P kt with
   | some b => .bdel b m k
   | none => .bad
  | _ => .bad
 | .clear, [m], t :: _ =>
  match P.underlying t with
  | some (.map _ _) => .bclrM m
  | some (.slice e) => match zeroOf P e with
   | some z => if Nat.blt 0 z.length then .bclrL z m else .bad
   | none => .bad
  | _ => .bad
 | .min, xs, t :: _ => match P.underlying t with | some (.int _) => .bmin xs | _ => .bad
 | .max, xs, t :: _ => match P.underlying t with | some (.int _) => .bmax xs | _ => .bad
 | _, _, _ => .bad
def Yp (fs : List Field) (i : Nat) : Option (Nat × Nat) :=
 match Fy fs i with
 | some f => (Zx P f.type).map fun s => (f.offset, s)
 | none => none
def K4 (s i : Nat) : Option (Nat × Nat) := some (i * s, s)
def zC (o : Oper) : DOp :=
 match o.op with
 | .move x => .mv x
 | .assign x => .mv x
 | .pick c a b => .pick c a b
 | .alloc t => match zeroOf P t with | some z => .alloc z | none => .bad
 | .box _ x => .box x
 | .build t parts =>
  match zeroOf P t, P.underlying t with
  | some z, some (.struct fs) =>
   match Xw (Yp P fs.toList) parts.toList with
   | some l => if fs.all (fun f => (Zx P f.type).isSome) then .build z l else .bad
   | none => .bad
  | some z, some (.array _ e) =>
   match Zx P e with
   | some s => match Xw (K4 s) parts.toList with
    | some l => .build z l
    | none => .bad
   | none => .bad
  | _, _ => .bad
 | .buildSlice t n parts =>
  match P.underlying t with
  | some (.slice e) => match Zx P e, zeroOf P e with
   | some (s + 1), some z => if Nat.beq z.length (s + 1) then
    match Xw (K4 (s + 1)) parts.toList with
    | some l => .bslice n (s + 1) z l
    | none => .bad
    else .bad
   | _, _ => .bad
  | _ => .bad
 | .load t a => match ZV P t with | some g => .ld g a | none => .bad
 | .store t a x => match Zx P t with | some s => .st s a x | none => .bad
 | .nilCheck x => .nilck x
 | .sliceToArrayPointer t x => match P.underlying t with | some (.array n _) => .s2a n x | _ => .bad
 | .binOp .eql t x y _ => GN P false t x y
 | .binOp .neq t x y _ => GN P true t x y
 | .binOp op _ x y _ => .bin op x y
 | .unOp op _ x => .un op x
 | .convert src dst x =>
  match P.underlying src, P.underlying dst with
  | some (.int _), some (.int k) => .cvInt k x
  | some .string, some .string => .cvStr x
  | some .string, some (.slice e) => match P.underlying e with
   | some (.int .u8) => .cvToBytes x
   | _ => .bad
  | some (.slice e), some .string => match P.underlying e with
   | some (.int .u8) => .cvToStr x
   | _ => .bad
  | some (.slice _), some (.slice e) => if src = dst then match P.underlying e with
   | some (.int .u8) => .cvB x
   | _ => .bad
   else .bad
  | _, _ => .bad
 | .makeFunc (.func f) first captured => .mkf f first.toList captured.toList
 | .makeMap t r => match P.underlying t with | some (.map _ _) => .mkmap r | _ => .bad
 | .makeSlice t l c =>
  match P.underlying t with
  | some (.slice e) => match Zx P e, Zn P e, zeroOf P e with
   | some (s + 1), some by_, some z => if Nat.beq z.length (s + 1) then .mkslice by_ z l c else .bad
   | _, _, _ => .bad
  | _ => .bad
 | .slice t x lo hi mx =>
  match P.underlying t with
  | some .string => if mx.isSome then .bad else .slS x lo hi
  | some (.slice e) => match Zx P e with | some (s + 1) => .slL (s + 1) x lo hi mx | _ => .bad
  | some (.array n e) => match Zx P e with | some (s + 1) => .slA n (s + 1) x lo hi mx | _ => .bad
  | some (.pointer a) => match P.underlying a with
   | some (.array n e) => match Zx P e with | some (s + 1) => .slA n (s + 1) x lo hi mx | _ => .bad
   | _ => .bad
  | _ => .bad
 | .fieldAddr t x i =>
  match P.underlying t with
  | some (.struct fs) => match Fy fs.toList i with
   | some f => match Zx P f.type with | some (_ + 1) => .fadr f.offset x | _ => .bad
   | none => .bad
  | _ => .bad
 | .field t x i =>
  match P.underlying t with
  | some (.struct fs) => match Fy fs.toList i with
   | some f => match ZV P f.type with | some g => .fld f.offset g x | none => .bad
   | none => .bad
  | _ => .bad
 | .indexAddr t x i =>
  match P.underlying t with
  | some (.array n e) => match Zx P e with | some (s + 1) => .ixA n (s + 1) x i | _ => .bad
  | some (.slice e) => match Zx P e with | some (s + 1) => .ixL (s + 1) x i | _ => .bad
  | _ => .bad
 | .index t x i =>
  match P.underlying t with
  | some (.array n e) => match Zx P e, ZV P e with | some (s + 1), some g => .idxA n (s + 1) g x i | _, _ => .bad
  | some .string => .idxS x i
  | _ => .bad
 | .lookup t m k ok =>
  match P.underlying t with
  | some (.map kt e) => match Zp P kt, (P.info? e).bind (·.zero) with
   | some b, some z => if closedV z then .look b z ok m k else .bad
   | _, _ => .bad
  | _ => .bad
 | .mapUpdate t m k x =>
  match P.underlying t with
  | some (.map kt _) => match Zp P kt with | some b => .mupd b m k x | none => .bad
  | _ => .bad
 | .insert t m k x =>
  match P.underlying t with
  | some (.map kt _) => match Zp P kt with | some b => .mupd b m k x | none => .bad
  | _ => .bad
 | .mapEntry t m k =>
  match P.underlying t with
  | some (.map kt e) => match Zp P kt, (P.info? e).bind (·.zero) with
   | some b, some z => if closedV z then .ment b z m k else .bad
   | _, _ => .bad
  | _ => .bad
 | .entryStore _ m s x => .estore m s x
 | .range t x => match P.underlying t with | some (.map _ _) => .rng x | _ => .bad
 | .next it false => .nxt it
 | .entry it => .ent it
 | .extract x i => .ext x i
 | .call { callee := .builtin b, args, argTypes } => Y8 P b args.toList argTypes.toList
 | .call { callee := .value f, args, .. } => .call f args.toList
 | _ => .bad
def CR (n : Nat) (xs : List Operand) : Bool :=
 match xs with
 | [] => true
 | x :: l => JA n x && CR n l
def Xi : List Nat → Nat
 | [] => 0
 | x :: l => x ||| Xi l
def zY (o : Oper) : List Nat := (o.after.toList.filter (Region.binds .any)).map (·.on)
def Zf (ops : List Oper) : List Nat → List Nat
 | acc => match ops with
  | [] => acc
  | o :: rest => Zf rest (acc ++ [Xi ((zY o).map fun i => 2 ^ i ||| acc.getD i 0)])
def Q0 (ops : List Oper) (j : Nat) : Option Nat :=
 match ops, j with
 | [], _ => none
 | o :: _, 0 => o.dst
 | _ :: l, n + 1 => Q0 l n
def Z9 (ops : List Oper) : Option (Nat × Bool) → Option (Option (Nat × Bool))
 | none => some none
 | some (j, want) => match Q0 ops j with
  | some t => some (some (t, want))
  | none => none
def WK (ops : List Oper) (o : Oper) : List Nat :=
 (o.op.operands.toList.filterMap fun | .tmp t => some t | _ => none) ++ (match o.guard with | some (j, _) => (Q0 ops j).toList | none => [])
def QN (n : Nat) (ops : List Oper) (o : Oper) : Bool :=
 CR n o.op.operands.toList && (match o.dst with | some d => Nat.blt d n | none => true) &&
 (match o.guard with | some (j, _) => (match Q0 ops j with | some t => Nat.blt t n | none => false) | none => true) &&
 (match o.op with | .defer _ => false | _ => true)
structure zJ where
 bit : Nat
 bef : Nat
 dop : DOp
 dst : Option Nat
 uses : List Nat
 guard : Option (Nat × Bool)
 deriving Inhabited
def WD (ops : List Oper) (all : List Oper) (bs : List Nat) (i : Nat) : List zJ :=
 match ops, bs with
 | o :: r, b :: bs => { bit := i, bef := b, dop := zC P o, dst := o.dst, uses := WK all o, guard := (Z9 all o.guard).getD none } :: WD r all bs (i + 1)
 | _, _ => []
def isW (c : zJ) : Bool := c.dop.cls = .write || c.dop.cls = .call || c.dop.cls = .bad
def W6 (done : Nat) (w : Bool) : List zJ → Option (zJ × List zJ)
 | [] => none
 | c :: r =>
  if (c.bef &&& done) = c.bef && (w || !isW c) then some (c, r)
  else match W6 done w r with
   | some (x, l) => some (x, c :: l)
   | none => none
def Wx : Nat → Nat → List zJ → Option (List zJ)
 | _, _, [] => some []
 | 0, _, _ => none
 | n + 1, done, l =>
  match (match W6 done false l with | some r => some r | none => W6 done true l) with
  | none => none
  | some (c, rest) => match Wx n (done ||| 2 ^ c.bit) rest with
   | some l => some (c :: l)
   | none => none
def ZF (a b : zJ) : Bool := b.bef.testBit a.bit || a.bef.testBit b.bit
def We (a b : zJ) : Bool :=
 (match a.dst with | some d => !zO b.uses d && b.dst != some d | none => true) && (match b.dst with | some d => !zO a.uses d | none => true)
def RG (c : zJ) : Bool := c.dop.cls = .read || (match c.dop with | .rng _ => true | _ => false)
def MT (c : zJ) : Bool := c.dop.cls = .make
def Xh (a b : zJ) : Bool := ZF a b || (We a b && !isW a)
def Yf (a b : zJ) : Bool := !ZF a b && ((MT a && (RG b || isW b)) || (RG a && isW b))
def zQ (l : List zJ) (c : zJ) (i : Nat) : List Nat :=
 match l with
 | [] => []
 | a :: r => if Yf a c then i :: zQ r c (i + 1) else zQ r c (i + 1)
def J0 : List zJ → List zJ → Bool
 | _, [] => true
 | front, c :: r => front.all (Xh · c) && J0 (front ++ [c]) r
def Qh : Nat → List zJ → Bool
 | _, [] => true
 | done, c :: r => (c.bef &&& done) = c.bef && Qh (done ||| 2 ^ c.bit) r
def Y0 : List zJ → List zJ → List (zJ × List Nat)
 | _, [] => []
 | front, c :: r => (c, zQ front c 0) :: Y0 (front ++ [c]) r
def XW (n : Nat) (ops : Array Oper) (draw : Bool) : Option (List zK) :=
 let l := ops.toList
 if !(l.all (QN n l)) then none else
 if !draw then some (l.map fun o => { dst := o.dst, op := zC P o, guard := (Z9 l o.guard).getD none, haz := [], note := false })
 else
  let bs := Zf l []
  let cs := WD P l l bs 0
  match Wx l.length 0 cs with
  | none => none
  | some ord =>
   if J0 [] ord && Qh 0 ord then
    let hz := Y0 [] ord
    let note := hz.any fun x => !x.2.isEmpty
    some (hz.map fun (c, h) => { dst := c.dst, op := c.dop, guard := c.guard, haz := h, note })
   else none
def zR (n : Nat) : Code → DCode
 | .skip => .skip
 | .ret => .ret
 | .exit id => .exit id
 | .region _ ops draw => match XW P n ops draw with | some l => .region l | none => .bad
 | .seq a b => .seq (zR n a) (zR n b)
 | .cond c a b => if JA n c then .cond c (zR n a) (zR n b) else .bad
 | .block id b => .block id (zR n b)
 | .scope b => zR n b
 | .label _ => .skip
 | .loop b => .loop (zR n b)
 | .rangeFunc f ps a b => if JA n f && ps.all (Nat.blt · n) then .rangeFunc f ps.toList (zR n a) (zR n b) else .bad
 | _ => .bad
def Cz (n : Nat) : ResultVar → Option DRes
 | .tmp t => if Nat.blt t n then some (.tmp t) else none
 | .cell a t => if Nat.blt a n then (match ZV P t with | some g => some (.cell a g) | none => none) else none
def Yo (n : Nat) : List ResultVar → Option (List DRes)
 | [] => some []
 | r :: l => match Cz P n r, Yo n l with
  | some x, some y => some (x :: y)
  | _, _ => none
def zd (f : Func) : Option zf :=
 match f.body, Yo P f.ntmps f.results.toList with
 | some c, some rs => if f.name == "runtime.NumGoroutine" then none else some { ntmps := f.ntmps, results := rs, body := zR P f.ntmps c }
 | _, _ => none
end
end Go.Dx
