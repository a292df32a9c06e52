/- A part. -/
import Derived.DeepKeys3
import Derived.Test.YthmgnfeljhdioaaGreatDxOps2
import Derived.Laws.Cells
import Derived.Laws.BytesString
import Derived.Laws.BytesArg
import Derived.Lib.ConvBytes
import Derived.IntWalk
set_option linter.unusedVariables false
set_option linter.unusedSimpArgs false
set_option linter.unusedSectionVars false
namespace Go.Dx
open Go
section
variable {P : Program} {β : Emb} {w : World} {ρ ρ' : Operand → Value} {v : Value} {s : DS}
theorem SB {c : Cells} {b o : Nat} (h : ∀ i v, c.get i = some v → ∃ v', w.cell? ⟨b, o + i, none⟩ = some v' ∧ VRel β v v') :
 ∀ (n off : Nat) (l : List Value), c.take off n = some l → ∃ l', l'.length = n ∧ LRel β l l' ∧ ∀ j u, l'[j]? = some u → w.cell? ⟨b, o + (off + j), none⟩ = some u := by
 intro n
 induction n with
 | zero => intro off l hl; simp [Cells.take] at hl; subst hl; exact ⟨[], rfl, .nil, by simp⟩
 | succ n ih =>
  intro off l hl
  unfold Cells.take at hl
  cases hg : c.get off with
  | none => simp [hg] at hl
  | some x =>
   cases ht : c.take (off + 1) n with
   | none => simp [hg, ht] at hl
   | some r =>
    simp only [hg, ht, z2] at hl
    subst hl
    obtain ⟨x', h1, h2⟩ := h off x hg
    obtain ⟨r', h3, h4, h5⟩ := ih (off + 1) r ht
    refine ⟨x' :: r', by simp [h3], .cons h2 h4, ?_⟩
    intro j u hu
    cases j with
    | zero => simp at hu; subst hu; simpa using h1
    | succ j =>
     have := h5 j u (by simpa using hu)
     rwa [show off + 1 + j = off + (j + 1) from by omega] at this
theorem Yg (hR : Rel P β s.get w) {k off n : Nat} {l : List Value} (h : s.read k off n = some l) {loc : Loc} (hl : β k = some loc) :
 ∃ l', l'.length = n ∧ LRel β l l' ∧ (loadCells ⟨loc.blk, loc.off + off, none⟩ n).run P w = .ok l'.toArray w ∧
  ∀ j u, l'[j]? = some u → w.cell? ((⟨loc.blk, loc.off + off, none⟩ : Addr).add j) = some u := by
 unfold DS.read at h
 split at h
 · rename_i c ro hg
   obtain ⟨l2, h1, ho⟩ := hR.obj k _ hg
   rw [hl] at h1
   cases h1
   obtain ⟨l', e1, e2, e3⟩ := SB ho.2.2.1 n off l h
   have e4 : ∀ j u, l'[j]? = some u → w.cell? ((⟨loc.blk, loc.off + off, none⟩ : Addr).add j) = some u := by
    intro j u hu
    rw [Addr.add_lit, Nat.add_assoc]
    exact e3 j u hu
   refine ⟨l', e1, e2, ?_, e4⟩
   have := run_loadCells_list (P := P) w ⟨loc.blk, loc.off + off, none⟩ l' e4
   rwa [e1] at this
 · cases h
theorem QI : ∀ {l l' : List Value} {b : List UInt8}, LRel β l l' → ZU l = some b →
 ∃ ns : List Int, l' = ns.map (Value.int .u8) ∧ b = ns.map fun n => UInt8.ofNat n.toNat
 | _, _, b, .nil, h => by simp [ZU] at h; subst h; exact ⟨[], rfl, rfl⟩
 | _, _, b, @LRel.cons _ x x' l l' hx t, h => by
  cases hx
  case int k n =>
   cases k <;> simp only [ZU, reduceCtorEq] at h
   cases hb : ZU l with
   | none => simp [hb] at h
   | some b' =>
    simp only [hb, z2] at h
    subst h
    obtain ⟨ns, e1, e2⟩ := QI t hb
    exact ⟨n :: ns, by simp [e1], by simp [e2]⟩
  all_goals simp [ZU] at h
theorem Q6 {a : Addr} {len cap : Nat} {l l' : List Value} {b : List UInt8} (hl : LRel β l l') (hb : ZU l = some b) (hr : (loadCells a len).run P w = .ok l'.toArray w) :
 (Conv.bytesToString (.slice (some a) len cap)).run P w = .ok (.string ⟨⟨b⟩⟩) w := by
 obtain ⟨ns, e1, e2⟩ := QI hl hb
 subst e1
 rw [run_bytesToString w a len cap ns hr, foldl_push_bytes, e2]
 congr 2
 apply ByteArray.ext
 show (#[] : Array UInt8) ++ _ = _
 simp
theorem KD {β : Emb} : ∀ {ks : List IntKind} {l l' : List Value}, zP ks l = true → LRel β l l' → l' = l
 | [], _, _, _, .nil => rfl
 | _ :: _, _, _, _, .nil => rfl
 | [], v :: l, _, h, .cons h1 h2 => by simp [zP] at h
 | q :: ks, v :: l, _, h, .cons h1 h2 => by
  cases h1 <;> simp only [zP, Bool.and_eq_true, z3, false_and] at h
  rw [KD h.2.2 h2]
theorem Qy {b : KT} {k k' : Value} (hk : isKey b k = true) (h : VRel β k k') : k' = k := by
 cases b <;> cases h <;> simp [isKey] at hk <;> try rfl
 rename_i ks a a' h
 obtain ⟨a⟩ := a
 obtain ⟨a'⟩ := a'
 simp only at h hk
 rw [KD hk h]
theorem FN {q : IntKind} {n : Int} (h : C6 q n = true) : (Lit.int q n).wf = true := by
 cases q <;> simp [C6, Lit.wf, IntKind.min, IntKind.max, IntKind.signed, IntKind.bits] at h ⊢ <;> omega
theorem ZN {q : IntKind} {ks : List IntKind} {l : List Value} (h : zP (q :: ks) l = true) : ∃ n r, l = .int q n :: r ∧ C6 q n = true ∧ zP ks r = true := by
 cases l with
 | nil => simp [zP] at h
 | cons v r =>
  cases v <;> simp only [zP, Bool.and_eq_true, z3, decide_eq_true_eq] at h
  obtain ⟨rfl, h1, h2⟩ := h
  exact ⟨_, _, rfl, h1, h2⟩
theorem YT {l : List Value} (h : zP [] l = true) : l = [] := by
 cases l with
 | nil => rfl
 | cons _ _ => simp [zP] at h
theorem ZZ : ∀ {ks : List IntKind} {l : List Value}, zP ks l = true → l.length = ks.length
 | [], _, h => by rw [YT h]; rfl
 | q :: ks, _, h => by obtain ⟨n, r, rfl, _, h2⟩ := ZN h; simp [ZZ h2]
structure GG (P : Program) (t : TypeId) (ks : List IntKind) : Prop where
 desc : ∃ d, P.underlying t = some d ∧ ∀ (a : Array Value) (v : Value), Instr.sameNow d (.agg a) v = none
 check : ∀ (e : Bool) (a : Array Value) (u : World), zP ks a.toList = true → (Instr.checkKey e 10000 t (.agg a)).run P u = .ok () u
 same : ∀ (a b : Array Value) (c : Bool) (u : World), zP ks a.toList = true → closedA b.toList = true → YD a.toList b.toList = some c → (Op.equal t (.agg a) (.agg b)).run P u = .ok c u
theorem Wp : ∀ {ks : List IntKind} {l : List Value}, zP ks l = true → closedA l = true
 | [], _, h => by rw [YT h]; rfl
 | q :: ks, _, h => by
  obtain ⟨n, r, rfl, _, h2⟩ := ZN h
  simp [closedA, closedV, Wp h2]
theorem QF {q : IntKind} {n : Int} {r y : List Value} {c : Bool} (h : YD (.int q n :: r) y = some c) : ∃ m r', y = .int q m :: r' ∧ ((n = m ∧ YD r r' = some c) ∨ (n ≠ m ∧ c = false)) := by
 cases y with
 | nil => simp [YD] at h
 | cons w r' =>
  cases w <;> try (simp [YD] at h; done)
  rename_i k m
  simp only [YD] at h
  by_cases e1 : q = k
  · subst e1
    simp only [if_true] at h
    by_cases e2 : n = m
    · simp only [e2, if_true] at h
      exact ⟨m, r', rfl, .inl ⟨e2, h⟩⟩
    · simp only [e2, if_false, z2] at h
      exact ⟨m, r', rfl, .inr ⟨e2, h.symm⟩⟩
  · simp [e1] at h
theorem Wq : ∀ {l : List Value} {i : Nat} {x : Value} {r : List Value}, l.drop i = x :: r → getN l i = some x ∧ l.drop (i + 1) = r
 | [], i, _, _, h => by simp at h
 | y :: l, 0, _, _, h => by simp at h; obtain ⟨rfl, rfl⟩ := h; exact ⟨rfl, rfl⟩
 | y :: l, i + 1, x, r, h => by
  have := Wq (l := l) (i := i) (by simpa using h)
  exact ⟨this.1, by simpa using this.2⟩
theorem XP {f : Field} {fs : List Field} {pos : Nat} {ks : List IntKind} (h : YC P (f :: fs) pos = some ks) : ∃ q l, ks = q :: l ∧ f.name ≠ "_" ∧ f.offset = pos ∧ P.cellsOf f.type = 1 ∧ P.underlying f.type = some (.int q) ∧ YC P fs (pos + 1) = some l := by
 unfold YC at h
 split at h
 · rename_i c
   simp only [Bool.and_eq_true, bne_iff_ne, ne_eq] at c
   split at h
   · rename_i q l h1 h2
     cases h
     exact ⟨q, l, rfl, c.1, Nat.eq_of_beq_eq_true c.2.1, Nat.eq_of_beq_eq_true c.2.2, h1, h2⟩
   · cases h
 · cases h
theorem QZ : ∀ {fs : List Field} {f pos : Nat} {ks : List IntKind} {l : List (Nat × Nat × ET)} {a b : List Value} {c : Bool}, YC P fs pos = some ks → Zz P f fs = some l → zP ks (a.drop pos) = true →
 YD (a.drop pos) (b.drop pos) = some c → eqFields l a b = some c
 | [], f, pos, ks, l, a, b, c, h1, h2, h3, h4 => by
  cases f with
  | zero => simp [Zz] at h2
  | succ f =>
  simp only [Zz, z2] at h2
  simp only [YC, z2] at h1
  subst h1 h2
  rw [YT h3] at h4
  cases hb : b.drop pos with
  | nil => rw [hb] at h4; simpa [YD, eqFields] using h4
  | cons _ _ => rw [hb] at h4; simp [YD] at h4
 | x :: fs, f, pos, ks, l, a, b, c, h1, h2, h3, h4 => by
  obtain ⟨q, ks', rfl, hn, rfl, hc, hu, hr⟩ := XP h1
  cases f with
  | zero => simp [Zz] at h2
  | succ f =>
  simp only [Zz] at h2
  split at h2
  · cases h2
  split at h2
  rotate_left
  · cases h2
  rename_i s e l' e1 e2 e3
  cases h2
  have he : e = .one .int := by
   cases f with
   | zero => simp [XN] at e2
   | succ f => unfold XN at e2; rw [hu] at e2; simpa using e2.symm
  subst he
  obtain ⟨n, r, hd, _, h5⟩ := ZN h3
  rw [hd] at h4
  obtain ⟨m, r', hb, h6⟩ := QF h4
  obtain ⟨g1, g2⟩ := Wq hd
  obtain ⟨g3, g4⟩ := Wq hb
  unfold eqFields
  simp only [g1, g3, zH, if_true]
  rcases h6 with ⟨rfl, h6⟩ | ⟨hne, rfl⟩
  · simp only [decide_true]
    exact QZ hr e3 (by rw [g2]; exact h5) (by rw [g2, g4]; exact h6)
  · simp [hne]
theorem JJ {q : IntKind} : ∀ {n : Nat} {a b : List Value} {c : Bool}, zP (List.replicate n q) a = true → YD a b = some c → ZG (.one .int) 1 a b n = some c
 | 0, a, b, c, h1, h2 => by
  rw [YT h1] at h2
  cases b with
  | nil => simpa [YD, ZG] using h2
  | cons _ _ => simp [YD] at h2
 | n + 1, a, b, c, h1, h2 => by
  obtain ⟨x, r, rfl, _, h5⟩ := ZN h1
  obtain ⟨m, r', rfl, h6⟩ := QF h2
  unfold ZG
  simp only [zH, if_true]
  rcases h6 with ⟨rfl, h6⟩ | ⟨hne, rfl⟩
  · simp only [decide_true]
    exact JJ h5 h6
  · simp [hne]
theorem WX {d : Nat} {cs : List Value} : ∀ {fs : List Field} {pos : Nat} {ks : List IntKind}, YC P fs pos = some ks → zP ks (cs.drop pos) = true →
 ∃ ls, fs.mapM (fun f => P.keyLits (d + 1) f.type ((cs.drop f.offset).take (P.cellsOf f.type))) = some ls
 | [], _, _, _, _ => ⟨[], rfl⟩
 | x :: fs, pos, ks, h1, h3 => by
  obtain ⟨q, ks', rfl, hn, rfl, hc, hu, hr⟩ := XP h1
  obtain ⟨n, r, hd, hw, h5⟩ := ZN h3
  obtain ⟨g1, g2⟩ := Wq hd
  obtain ⟨ls, hls⟩ := WX (d := d) hr (by rw [g2]; exact h5)
  refine ⟨[.int q n] :: ls, ?_⟩
  have e1 : P.keyLits (d + 1) x.type ((cs.drop x.offset).take (P.cellsOf x.type)) = some [.int q n] := by
   rw [hc, hd]
   unfold Program.keyLits
   simp [hu, FN hw]
  simp [List.mapM_cons, e1, hls]
theorem W1 : ∀ {fs : List Field} {pos : Nat} {ks : List IntKind}, YC P fs pos = some ks → ∀ f, f ∈ fs → f.name ≠ "_"
 | [], _, _, _, f, hf => by cases hf
 | x :: fs, pos, ks, h, f, hf => by
  obtain ⟨q, ks', rfl, hn, _, _, _, hr⟩ := XP h
  rcases List.mem_cons.1 hf with e | hf
  · rw [e]; exact hn
  · exact W1 hr f hf
theorem Vd {d n : Nat} {e : TypeId} {q : IntKind} (hu : P.underlying e = some (.int q)) (hc : P.cellsOf e = 1) {cs : List Value} (hk : zP (List.replicate n q) cs = true) :
 ∃ ls, (List.range n).mapM (fun i => P.keyLits (d + 1) e ((cs.drop (i * P.cellsOf e)).take (P.cellsOf e))) = some ls := by
 have key : ∀ (m : Nat) (cs : List Value) (base : List Value), zP (List.replicate m q) cs = true → ∃ ls, ((List.range m).map (· + base.length)).mapM (fun i => P.keyLits (d + 1) e (((base ++ cs).drop (i * P.cellsOf e)).take (P.cellsOf e))) = some ls := by
  intro m
  induction m with
  | zero => exact fun _ _ _ => ⟨[], rfl⟩
  | succ m ih =>
   intro cs base h
   obtain ⟨x, r, rfl, hw, h5⟩ := ZN h
   obtain ⟨ls, hls⟩ := ih r (base ++ [.int q x]) h5
   refine ⟨[.int q x] :: ls, ?_⟩
   have e1 : P.keyLits (d + 1) e (((base ++ .int q x :: r).drop (base.length * P.cellsOf e)).take (P.cellsOf e)) = some [.int q x] := by
    rw [hc, Nat.mul_one, List.drop_left]
    unfold Program.keyLits
    simp [hu, FN hw]
   rw [List.range_succ_eq_map, z4, List.map_map, List.mapM_cons, Nat.zero_add, e1]
   have e2 : (List.range m).map ((· + base.length) ∘ Nat.succ) = (List.range m).map (· + (base ++ [Value.int q x]).length) := by
    refine List.map_congr_left fun i _ => ?_
    simp only [Function.comp, List.length_append, List.length_cons, List.length_nil]; omega
   rw [e2]
   have e3 : base ++ Value.int q x :: r = (base ++ [.int q x]) ++ r := by simp
   rw [e3, hls]
   rfl
 obtain ⟨ls, h⟩ := key n cs [] hk
 refine ⟨ls, ?_⟩
 simpa using h
theorem Dj {t : TypeId} {et : ET} {ks : List IntKind} (h3 : XN P 60 t = some et) (hE : ∀ (a b : List Value) (c : Bool), zP ks a = true → YD a b = some c → Zq et (.agg ⟨a⟩) (.agg ⟨b⟩) = some c)
 (a b : Array Value) (c : Bool) (u : World) (ha : zP ks a.toList = true) (hb : closedA b.toList = true) (hq : YD a.toList b.toList = some c) : (Op.equal t (.agg a) (.agg b)).run P u = .ok c u := by
 obtain ⟨a⟩ := a
 obtain ⟨b⟩ := b
 exact (VC (P := P) (β := fun _ => none) (w := u) 60).1 t et h3 9940 _ _ _ _ c (hE a b c ha hq) (VRel.closedV (by simpa [closedV] using Wp ha)) (VRel.closedV (by simpa [closedV] using hb))
theorem Dk {t : TypeId} {ks : List IntKind} (h : Cu P t = some ks) : GG P t ks := by
 unfold Cu at h
 split at h
 · rename_i fs hu
   split at h
   · rename_i ks' hk
     split at h
     · rename_i hc
       cases h
       simp only [Bool.and_eq_true, Option.isSome_iff_exists] at hc
       obtain ⟨h1, h2, et, h3⟩ := hc
       have h1 := Nat.eq_of_beq_eq_true h1
       refine ⟨⟨_, hu, fun _ _ => rfl⟩, fun e a u ha => ?_, Dj h3 fun a b c ha hq => ?_⟩
       · obtain ⟨ls, hls⟩ := WX (P := P) (d := 0) (cs := a.toList) hk (by simpa using ha)
         refine run_checkKey_deep e 9997 3 t h2 u 2 (.agg a) ls.flatten ?_ ?_
         · simp only [Value.formed, hu, beq_iff_eq]
           rw [h1, ← ZZ ha]; simp
         · unfold Program.keyLits
           simp only [hu, Value.cells]
           rw [if_pos ⟨by rw [h1]; exact ZZ ha, by
            rw [← Array.all_toList, List.all_eq_true]
            intro f hf
            simpa using W1 hk f hf⟩, hls]
           rfl
       · unfold XN at h3
         rw [hu] at h3
         simp only at h3
         split at h3
         · cases h3
         split at h3
         · rename_i l hl
           cases h3
           unfold Zq
           exact QZ (f := 59) (pos := 0) hk hl (by simpa using ha) (by simpa using hq)
         · cases h3
     · cases h
   · cases h
 · rename_i n e hu
   split at h
   · rename_i q hq0
     split at h
     · rename_i hc
       cases h
       simp only [Bool.and_eq_true, Option.isSome_iff_exists] at hc
       obtain ⟨h0, h1, h2, et, h3⟩ := hc
       have h0 := Nat.eq_of_beq_eq_true h0
       have h1 := Nat.eq_of_beq_eq_true h1
       refine ⟨⟨_, hu, fun _ _ => rfl⟩, fun e' a u ha => ?_, Dj h3 fun a b c ha hq => ?_⟩
       · obtain ⟨ls, hls⟩ := Vd (P := P) (d := 0) hq0 h1 ha
         refine run_checkKey_deep e' 9997 3 t h2 u 2 (.agg a) ls.flatten ?_ ?_
         · simp only [Value.formed, hu, beq_iff_eq]
           have := ZZ ha
           simp at this
           rw [h0]; exact this
         · unfold Program.keyLits
           simp only [hu, Value.cells]
           rw [if_pos (by rw [h0]; have := ZZ ha; simpa using this), hls]
           rfl
       · unfold XN at h3
         rw [hu] at h3
         simp only at h3
         split at h3
         · rename_i s x hs hx
           have hx' : x = .one .int := by unfold XN at hx; rw [hq0] at hx; simpa using hx.symm
           subst hx'
           simp only at h3
           split at h3
           · rename_i hb
             cases h3
             have hb := Nat.eq_of_beq_eq_true hb
             subst hb
             unfold Zq
             exact JJ ha hq
           · cases h3
         · cases h3
     · cases h
   · cases h
 · cases h
theorem YQ {t : TypeId} {b : KT} (h : Zp P t = some b) : (b = .txt ∧ P.underlying t = some .string) ∨ (b = .num ∧ ∃ k, P.underlying t = some (.int k)) ∨ (∃ ks, b = .agg ks ∧ GG P t ks) := by
 unfold Zp at h
 split at h
 · rename_i hu; cases h; exact .inl ⟨rfl, hu⟩
 · rename_i k hu; cases h; exact .inr (.inl ⟨rfl, k, hu⟩)
 · split at h
   · rename_i ks hk; cases h; exact .inr (.inr ⟨ks, rfl, Dk hk⟩)
   · cases h
 · cases h
theorem Qs {t : TypeId} {b : KT} (h : Zp P t = some b) : ∃ d, P.underlying t = some d := by
 rcases YQ h with ⟨_, h⟩ | ⟨_, k, h⟩ | ⟨ks, _, h⟩
 · exact ⟨_, h⟩
 · exact ⟨_, h⟩
 · obtain ⟨d, h, _⟩ := h.desc; exact ⟨d, h⟩
theorem Qd {ks : List IntKind} {k : Value} (h : isKey (.agg ks) k = true) : ∃ a : Array Value, k = .agg a ∧ zP ks a.toList = true := by
 cases k <;> simp [isKey] at h
 exact ⟨_, rfl, h⟩
theorem ZA {t : TypeId} {b : KT} {e : Bool} {k : Value} (ht : Zp P t = some b) (hik : isKey b k = true) {w : World} : (Instr.checkKey e 10000 t k).run P w = .ok () w := by
 have : ∀ n, (∃ s, P.underlying t = some .string ∨ P.underlying t = some (.int s)) → (Instr.checkKey e (n + 1) t k).run P w = .ok () w := by
  intro n
  rintro ⟨s, hu | hu⟩
  · unfold Instr.checkKey
    simp only [Sem.run_bind, zc hu, Result.andThen_ok]; rfl
  · unfold Instr.checkKey
    simp only [Sem.run_bind, zc hu, Result.andThen_ok]; rfl
 rcases YQ ht with ⟨_, hu⟩ | ⟨_, kk, hu⟩ | ⟨ks, rfl, hA⟩
 · exact this 9999 ⟨.i8, .inl hu⟩
 · exact this 9999 ⟨kk, .inr hu⟩
 · obtain ⟨a, rfl, h2⟩ := Qd hik
   exact hA.check e a w h2
theorem JF {t : TypeId} {b : KT} {d : TypeDesc} {k : Value} (ht : Zp P t = some b) (hnb : ∀ ks, b ≠ .agg ks) (hd : P.underlying t = some d) : ∀ {es : List z6} {xs : List MapEntry} {i : Nat} {r : Option (Nat × z6)},
 Zt β es xs → YU b k es i = some r →
 (r = none ∧ Instr.findNow d k xs i = some none) ∨ (∃ j e x, r = some (i + j, e) ∧ Instr.findNow d k xs i = some (some (i + j, x.val)) ∧ es[j]? = some e ∧ xs[j]? = some x ∧ e.key = x.key ∧ e.born = x.born ∧ VRel β e.val x.val ∧ ZO b k e.key = some true)
 | [], [], i, r, _, h => by simp [YU] at h; subst h; exact .inl ⟨rfl, rfl⟩
 | [], _ :: _, _, _, hE, _ => hE.elim
 | _ :: _, [], _, _, hE, _ => hE.elim
 | e :: es, x :: xs, i, r, ⟨⟨hk, hkc⟩, hb, hv, hE⟩, h => by
  have hsame : ∀ c, ZO b k e.key = some c → Instr.sameNow d k x.key = some c := by
   intro c hc
   rw [← hk]
   rcases YQ ht with ⟨rfl, hu⟩ | ⟨rfl, kk, hu⟩ | ⟨ks, rfl, _⟩
   · rw [hu] at hd; cases hd
     generalize e.key = K at hc ⊢
     cases k <;> try (simp [ZO] at hc; done)
     cases K <;> try (simp [ZO] at hc; done)
     simp only [ZO, z2] at hc
     subst hc
     simp only [Instr.sameNow, Z7, ← toList_data, ← beq_toListBytes]
   · rw [hu] at hd; cases hd
     generalize e.key = K at hc ⊢
     cases k <;> try (simp [ZO] at hc; done)
     cases K <;> try (simp [ZO] at hc; done)
     rename_i k1 a k2 b2
     simp only [ZO] at hc
     by_cases e' : k1 = k2
     · simp only [e', if_true, z2] at hc
       subst hc
       simp only [Instr.sameNow, e', if_true]
       rfl
     · simp [e'] at hc
   · exact absurd rfl (hnb ks)
  unfold YU at h
  cases hc : ZO b k e.key with
  | none => simp [hc] at h
  | some c =>
   have h1 := hsame c hc
   simp only [hc] at h
   cases c with
   | true =>
    simp only [z2] at h
    subst h
    refine .inr ⟨0, e, x, rfl, ?_, rfl, rfl, hk, hb, hv, hc⟩
    simp [Instr.findNow, h1]
   | false =>
    simp only at h
    rcases JF ht hnb hd hE h with ⟨e1, e2⟩ | ⟨j, e0, x0, e1, e2, e3, e4, e5⟩
    · exact .inl ⟨e1, by simp [Instr.findNow, h1, e2]⟩
    · refine .inr ⟨j + 1, e0, x0, by rw [e1]; congr 2; omega, ?_, by simpa using e3, by simpa using e4, e5⟩
      simp only [Instr.findNow, h1, e2]
      congr 3
      omega
theorem WY {t : TypeId} {k : Value} {d : TypeDesc} (hd : P.underlying t = some d) {es : List MapEntry} {r : Option (Nat × Value)} (h : Instr.findNow d k es 0 = some r) :
 (Instr.findKey t k es).run P w = .ok r w := by
 simp only [Instr.findKey, Sem.run_bind, zc hd, Result.andThen_ok, h, Sem.run_pure]
theorem WZ {t : TypeId} {ks : List IntKind} {a : Array Value} (hA : GG P t ks) (ha : zP ks a.toList = true) : ∀ {es : List z6} {xs : List MapEntry} {i : Nat} {r : Option (Nat × z6)},
 Zt β es xs → YU (.agg ks) (.agg a) es i = some r →
 (r = none ∧ ∀ u, (Instr.findAsking t (.agg a) xs i).run P u = .ok none u) ∨ (∃ j e x, r = some (i + j, e) ∧ (∀ u, (Instr.findAsking t (.agg a) xs i).run P u = .ok (some (i + j, x.val)) u) ∧ es[j]? = some e ∧ xs[j]? = some x ∧ e.key = x.key ∧ e.born = x.born ∧ VRel β e.val x.val ∧ ZO (.agg ks) (.agg a) e.key = some true)
 | [], [], i, r, _, h => by simp [YU] at h; subst h; exact .inl ⟨rfl, fun _ => rfl⟩
 | [], _ :: _, _, _, hE, _ => hE.elim
 | _ :: _, [], _, _, hE, _ => hE.elim
 | e :: es, x :: xs, i, r, ⟨⟨hk, hkc⟩, hb, hv, hE⟩, h => by
  unfold YU at h
  cases hc : ZO (.agg ks) (.agg a) e.key with
  | none => simp [hc] at h
  | some c =>
   have h1 : ∀ u, (Op.equal t (.agg a) x.key).run P u = .ok c u := by
    intro u
    rw [← hk]
    generalize e.key = K at hc hkc
    cases K <;> try (simp [ZO] at hc; done)
    rename_i K
    simp only [ZO] at hc
    exact hA.same a K c u ha (by obtain ⟨K⟩ := K; simpa [closedV] using hkc) hc
   simp only [hc] at h
   cases c with
   | true =>
    simp only [z2] at h
    subst h
    refine .inr ⟨0, e, x, rfl, fun u => ?_, rfl, rfl, hk, hb, hv, hc⟩
    simp [Instr.findAsking, h1]
   | false =>
    simp only at h
    rcases WZ hA ha hE h with ⟨e1, e2⟩ | ⟨j, e0, x0, e1, e2, e3, e4, e5⟩
    · exact .inl ⟨e1, fun u => by simp [Instr.findAsking, h1, e2]⟩
    · refine .inr ⟨j + 1, e0, x0, by rw [e1]; congr 2; omega, fun u => ?_, by simpa using e3, by simpa using e4, e5⟩
      have : i + (j + 1) = i + 1 + j := by omega
      simp [Instr.findAsking, h1, e2, this]
theorem JG {t : TypeId} {b : KT} {k : Value} (ht : Zp P t = some b) (hik : isKey b k = true) {es : List z6} {xs : List MapEntry} {r : Option (Nat × z6)} (hE : Zt β es xs) (h : YU b k es 0 = some r) :
 (r = none ∧ ∀ u, (Instr.findKey t k xs).run P u = .ok none u) ∨ (∃ j e x, r = some (j, e) ∧ (∀ u, (Instr.findKey t k xs).run P u = .ok (some (j, x.val)) u) ∧ es[j]? = some e ∧ xs[j]? = some x ∧ e.key = x.key ∧ e.born = x.born ∧ VRel β e.val x.val ∧ ZO b k e.key = some true) := by
 by_cases hb : ∃ ks, b = .agg ks
 · obtain ⟨ks, rfl⟩ := hb
   obtain ⟨a, rfl, ha⟩ := Qd hik
   obtain ⟨ks', e1, hA⟩ : ∃ ks', KT.agg ks = .agg ks' ∧ GG P t ks' := by
    rcases YQ ht with ⟨h, _⟩ | ⟨h, _⟩ | ⟨ks', h1, h2⟩
    · cases h
    · cases h
    · exact ⟨ks', h1, h2⟩
   cases e1
   obtain ⟨d, hd, hn⟩ := hA.desc
   have hnow : ∀ ys, ys ≠ [] → Instr.findNow d (.agg a) ys 0 = none := fun ys hy => by
    cases ys with
    | nil => exact absurd rfl hy
    | cons y ys => simp [Instr.findNow, hn]
   have hrun : ∀ u, (Instr.findKey t (.agg a) xs).run P u = (Instr.findAsking t (.agg a) xs 0).run P u := fun u => by
    simp only [Instr.findKey, Sem.run_bind, zc hd, Result.andThen_ok]
    cases xs with
    | nil => simp [Instr.findNow, Instr.findAsking]
    | cons y ys => rw [hnow _ (by simp)]
   rcases WZ hA ha hE h with ⟨e1, e2⟩ | ⟨j, e0, x0, e1, e2, e3⟩
   · exact .inl ⟨e1, fun u => by rw [hrun, e2]⟩
   · exact .inr ⟨j, e0, x0, by simpa using e1, fun u => by rw [hrun, e2]; simp, e3⟩
 · obtain ⟨d, hd⟩ := Qs ht
   rcases JF ht (fun ks e => hb ⟨ks, e⟩) hd hE h with ⟨e1, e2⟩ | ⟨j, e0, x0, e1, e2, e3⟩
   · exact .inl ⟨e1, fun u => WY hd e2⟩
   · refine .inr ⟨j, e0, x0, by simpa using e1, fun u => ?_, e3⟩
     have := WY (P := P) (w := u) hd e2
     simpa using this
theorem Zt.length : ∀ {es : List z6} {xs : List MapEntry}, Zt β es xs → es.length = xs.length
 | [], [], _ => rfl
 | _ :: _, _ :: _, ⟨_, _, _, h⟩ => by simp [Zt.length h]
 | [], _ :: _, h => h.elim
 | _ :: _, [], h => h.elim
theorem zV {r : Nat} {xs : Array MapEntry} {c : Nat} (h : w.heap[r]? = some (.map xs c)) : (getObj r).run P w = .ok (.map xs c) w := by
 simp [getObj, Sem.run, h]
theorem XD {r : Nat} {m : Option Nat} {a : Nat} {b : Array Nat} {c : Nat} (h : w.heap[r]? = some (.mapIter m a b c)) : (getObj r).run P w = .ok (.mapIter m a b c) w := by
 simp [getObj, Sem.run, h]
theorem find?_rel {stamp : Nat} : ∀ {es : List z6} {xs : List MapEntry}, Zt β es xs → ∀ {e : z6}, es.find? (fun e => Nat.beq e.born stamp) = some e →
 ∃ x, xs.find? (fun x => x.born == stamp) = some x ∧ VRel β e.key x.key ∧ VRel β e.val x.val
 | [], [], _, e, h => by simp at h
 | _ :: _, [], hE, _, _ => hE.elim
 | [], _ :: _, hE, _, _ => hE.elim
 | a :: es, x :: xs, ⟨⟨hk, hkc⟩, hb, hv, hE⟩, e, h => by
  rw [List.find?_cons] at h
  by_cases hq : a.born = stamp
  · have h1 : Nat.beq a.born stamp = true := by rw [hq]; exact Nat.beq_refl _
    rw [h1] at h
    simp only [z2] at h
    subst h
    exact ⟨x, by rw [List.find?_cons]; simp [← hb, hq], hk ▸ VRel.closedV hkc, hv⟩
  · have h1 : Nat.beq a.born stamp = false := by
     cases h' : Nat.beq a.born stamp with
     | false => rfl
     | true => exact absurd (Nat.eq_of_beq_eq_true h') hq
    rw [h1] at h
    obtain ⟨y, h2, h3⟩ := find?_rel hE h
    refine ⟨y, ?_, h3⟩
    rw [List.find?_cons]
    have : (x.born == stamp) = false := by rw [← hb]; simpa using hq
    rw [this]
    exact h2
theorem Rh (o : Oper) (hR : Rel P β s.get w) (hρ : ∀ x ∈ o.op.operands, VRel β (ρ x) (ρ' x)) (hc : (zC P o).cls = .read) (h : zk ρ s (zC P o) = some v) :
 ∃ v', (execOp ρ' o).run P w = .ok (.value v') w ∧ VRel β v v' := by
 obtain ⟨dst, op, type, pos, after, guard⟩ := o
 cases op
 case load t a =>
  have ha := hρ a (by simp [Op.operands])
  simp only [zC] at h
  cases hg : ZV P t with
  | none => simp [hg, zk] at h
  | some g =>
   simp only [hg, zk] at h
   generalize ρ a = A at ha h
   generalize hA : ρ' a = A' at ha
   cases ha <;> simp only [reduceCtorEq] at h
   rename_i k off loc hl
   cases g with
   | none =>
    simp only at h
    split at h
    · rename_i c ro hk
      obtain ⟨l2, h1, ho⟩ := hR.obj k _ hk
      rw [hl] at h1; cases h1
      obtain ⟨v', hv1, hv2⟩ := ho.2.2.1 off v h
      refine ⟨v', ?_, hv2⟩
      have h1 := (Xc (w := w) hg).1
      simp only [Option.isSome_none] at h1
      simp [execOp, Instr.loadAt, hA, Instr.sureAddr, loadVar, h1, hv1]
    · cases h
   | some n =>
    simp only at h
    split at h
    · rename_i l hk
      simp only [z2] at h
      subst h
      obtain ⟨l', e1, e2, e3, _⟩ := Yg hR hk hl
      have h1 := Xc (w := w) hg
      simp only [Option.isSome_some] at h1
      refine ⟨.agg l'.toArray, ?_, .agg (by simpa using e2)⟩
      simp [execOp, Instr.loadAt, hA, Instr.sureAddr, loadVar, h1.1, zu (h1.2 n rfl), e3]
    · cases h
 case convert src dst x =>
  have hx := hρ x (by simp [Op.operands])
  simp only [zC] at h hc
  split at h <;> rename_i hs hd
  · simp [zk] at h
  · simp [zk] at h
  · split at h <;> simp [zk] at h
  · split at h
    · rename_i hu8
      simp only [zk] at h
      generalize ρ x = X at hx h
      generalize hX : ρ' x = X' at hx
      have fin : ∀ (a : Option Addr) (l c : Nat) (y : Value), X' = .slice a l c → (Conv.bytesToString X').run P w = .ok y w → (execOp ρ' ⟨dst, .convert src dst x, type, pos, after, guard⟩).run P w = .ok (.value y) w := by
       intro a l c y e hy
       subst e
       simp only [execOp, Sem.run_bind, hX, run_convert_bytes_string w src _ _ a l c hs hu8 hd, hy, Result.andThen_ok, Sem.run_pure]
      cases hx <;> simp only [z2, reduceCtorEq] at h
      · subst h
        refine ⟨_, fin none _ _ (.string .empty) rfl (by simp [Conv.bytesToString]), ?_⟩
        exact .string _
      case' closed k off loc n c a' hl hn ha => skip
      case' opened k off loc n c a' hl hn hs' ha hx9 => skip
      all_goals
       cases hk : s.read k off n with
       | none => simp [hk] at h
       | some l =>
        simp only [hk] at h
        cases hb : ZU l with
        | none => simp [hb] at h
        | some b =>
         simp only [hb, z2] at h
         subst h
         obtain ⟨l', e1, e2, e3, _⟩ := Yg hR hk hl
         refine ⟨_, fin _ _ _ _ rfl (Q6 e2 hb ?_), .string _⟩
         rcases ha with ha | ha
         · have : n = 0 := by omega
           subst this
           have : l' = [] := List.eq_nil_of_length_eq_zero e1
           subst this
           simp [loadCells, loadCellsFrom]
         · rw [ha]; exact e3
    · simp [zk] at h
  · (repeat' split at h) <;> simp [zk] at h
  · simp [zk] at h
 case lookup t m k ok =>
  have hm := hρ m (by simp [Op.operands])
  have hk := hρ k (by simp [Op.operands])
  simp only [zC] at h
  split at h
  · rename_i kt e hu
    split at h
    · rename_i b z hb hz
      split at h
      · rename_i hcz
        have hzero : (zeroValue e).run P w = .ok z w := by
         cases hi : P.info? e with
         | none => simp [hi] at hz
         | some i => simp only [hi, Option.bind_some] at hz; simp [zeroValue, typeInfo, hi, hz]
        simp only [zk] at h
        generalize ρ m = M at hm h
        generalize hM : ρ' m = M' at hm
        have hfin : ∀ (xs : Array MapEntry) (r : Option (Nat × Value)), isKey b (ρ' k) = true → (M' = .map none ∧ xs = #[] ∨ ∃ b clock, M' = .map (some b) ∧ w.heap[b]? = some (.map xs clock)) → (Instr.findKey kt (ρ' k) xs.toList).run P w = .ok r w →
         (execOp ρ' ⟨dst, .lookup t m k ok, type, pos, after, guard⟩).run P w = .ok (.value (match r with
          | some (_, v) => if ok then .tuple #[v, .bool true] else v
          | none => if ok then .tuple #[z, .bool false] else z)) w := by
         intro xs r hik' h1 h3
         rcases h1 with ⟨rfl, rfl⟩ | ⟨bk, clock, rfl, hh⟩
         · simp only [execOp, Instr.lookup, Sem.run_bind, zc hu, Result.andThen_ok, hM, ZA hb hik']
           cases r with
           | none => cases ok <;> simp [hzero, h3]
           | some p => cases ok <;> simp [h3]
         · skip
           simp only [execOp, Instr.lookup, Sem.run_bind, zc hu, Result.andThen_ok, hM, zV hh, ZA hb hik']
           cases r with
           | none => cases ok <;> simp [hzero, h3]
           | some p => cases ok <;> simp [h3]
        cases hm <;> simp only [reduceCtorEq] at h
        · by_cases hik : isKey b (ρ k) = true
          · simp only [hik, if_true, z2] at h
            subst h
            refine ⟨_, hfin #[] none (by rw [Qy hik hk]; exact hik) (.inl ⟨rfl, rfl⟩) (by obtain ⟨d, hd⟩ := Qs hb; exact WY hd (by simp [Instr.findNow])), ?_⟩
            cases ok
            · exact VRel.closedV hcz
            · exact .tuple (.cons (VRel.closedV hcz) (.cons (.bool _) .nil))
          · simp [hik] at h
        · rename_i r loc hl
          cases hg : s.get r with
          | none => simp [hg] at h
          | some ob =>
           cases ob <;> simp only [hg, reduceCtorEq] at h
           rename_i es clock
           by_cases hik : isKey b (ρ k) = true
           · simp only [hik, if_true] at h
             obtain ⟨l2, h1, xs, hx, hE⟩ := hR.obj r _ hg
             rw [hl] at h1; cases h1
             have hkk := Qy hik hk
             cases hf : YU b (ρ k) es 0 with
             | none => simp [hf] at h
             | some res =>
              have hE2 := JG hb hik hE hf
              rcases hE2 with ⟨rfl, e2⟩ | ⟨j, e0, x0, rfl, e2, _, _, _, _, hv, _⟩
              · simp only [hf, z2] at h
                subst h
                refine ⟨_, hfin xs none (by rw [hkk]; exact hik) (.inr ⟨_, _, rfl, hx⟩) (by rw [hkk]; exact e2 w), ?_⟩
                cases ok
                · exact VRel.closedV hcz
                · exact .tuple (.cons (VRel.closedV hcz) (.cons (.bool _) .nil))
              · simp only [hf, z2] at h
                subst h
                refine ⟨_, hfin xs (some (j, x0.val)) (by rw [hkk]; exact hik) (.inr ⟨_, _, rfl, hx⟩) (by rw [hkk]; exact e2 w), ?_⟩
                cases ok
                · exact hv
                · exact .tuple (.cons hv (.cons (.bool _) .nil))
           · simp [hik] at h
      · simp [zk] at h
    · simp [zk] at h
  · simp [zk] at h
 case entry it =>
  have hi := hρ it (by simp [Op.operands])
  simp only [zC, zk] at h
  generalize ρ it = X at hi h
  generalize hX : ρ' it = X' at hi
  cases hi <;> try (simp only [reduceCtorEq] at h; done)
  rename_i r off loc hl
  cases off with
  | succ n => simp at h
  | zero =>
   cases hg : s.get r with
   | none => simp [hg] at h
   | some ob =>
    cases ob <;> simp only [hg, reduceCtorEq] at h
    rename_i m since seen last
    cases m with
    | none => simp at h
    | some m =>
     cases seen with
     | nil => simp at h
     | cons stamp rest =>
      cases hg2 : s.get m with
      | none => simp [hg2] at h
      | some ob2 =>
       cases ob2 <;> simp only [hg2, reduceCtorEq] at h
       rename_i es clock
       obtain ⟨l2, h1, h0, m', seen', hx, hs, hm⟩ := hR.obj r _ hg
       rw [hl] at h1; cases h1
       obtain ⟨lm, hm1, hm2⟩ := hm
       subst hm2
       obtain ⟨l3, h3, xs, hx3, hE⟩ := hR.obj m _ hg2
       rw [hm1] at h3; cases h3
       by_cases hcl : Nat.beq clock last = true
       · simp only [hcl, if_true] at h
         have hcl' := Nat.eq_of_beq_eq_true hcl
         subst hcl'
         cases hf : es.find? (fun e => Nat.beq e.born stamp) with
         | none => simp [hf] at h
         | some e =>
          simp only [hf, z2] at h
          subst h
          obtain ⟨x, f1, f2, f3⟩ := find?_rel hE hf
          have hback : seen'.back? = some stamp := by
           have h0 : seen'.toList = (stamp :: rest).reverse := by rw [← hs, List.reverse_reverse]
           rw [← Array.getLast?_toList, h0]
           simp
          have hfa : xs.find? (fun x => x.born == stamp) = some x := by
           rw [← Array.find?_toList]; exact f1
          refine ⟨.tuple #[x.key, x.val], ?_, .tuple (.cons f2 (.cons f3 .nil))⟩
          · simp only [execOp, Instr.entry, Sem.run_bind, hX, Nat.add_zero, h0, XD hx, Result.andThen_ok, hback, zV hx3, bne_self_eq_false, z3, if_false, hfa, Sem.run_pure]
       · simp [hcl] at h
 case call c =>
  obtain ⟨callee, args, ats⟩ := c
  cases callee with
  | value f => simp only [zC, zk] at h; cases h
  | invoke r n => simp only [zC, zk] at h; cases h
  | builtin b =>
   simp only [zC] at h hc
   have hargs : ∀ x ∈ args.toList, VRel β (ρ x) (ρ' x) := fun x hx => hρ x (by simp [Op.operands, Call.operands]; simpa using hx)
   have ea : args = args.toList.toArray := by simp
   have et : ats = ats.toList.toArray := by simp
   generalize args.toList = al at *
   generalize ats.toList = tl at *
   subst ea; subst et
   unfold Y8 YS at h hc
   split at h
   · (repeat' split at h) <;> simp [zk] at h
   · rename_i x t rest
     have hx := hargs x (by simp)
     split at h
     · simp [zk] at h
     · simp [zk] at h
     · rename_i kt e hu
       simp only [zk] at h
       generalize ρ x = X at hx h
       generalize hX : ρ' x = X' at hx
       cases hx <;> simp only [z2, reduceCtorEq] at h
       · subst h
         exact ⟨_, by simp only [execOp, resolve, Sem.run_bind, Sem.run_pure, Result.andThen_ok, invoke, builtin, List.map_toArray, z4, z5, hX, Builtin.len_, List.getElem?_toArray, List.getElem?_cons_zero, zc hu]; rfl, .int _ _⟩
       · rename_i r loc hl
         cases hg : s.get r with
         | none => simp [hg] at h
         | some ob =>
          cases ob <;> simp only [hg, reduceCtorEq, z2] at h
          rename_i es clock
          subst h
          obtain ⟨l2, h1, xs, hx, hE⟩ := hR.obj r _ hg
          rw [hl] at h1; cases h1
          have hlen : (es.length : Int) = (xs.size : Int) := by rw [hE.length]; simp
          refine ⟨.int .i64 xs.size, ?_, by rw [hlen]; exact .int _ _⟩
          simp only [execOp, resolve, Sem.run_bind, Sem.run_pure, Result.andThen_ok, invoke, builtin, List.map_toArray, z4, z5, hX, Builtin.len_, List.getElem?_toArray, List.getElem?_cons_zero, zc hu, zV hx]
          rfl
     · simp [zk] at h
     · (repeat' split at h) <;> simp [zk] at h
     · simp [zk] at h
   all_goals ((repeat' split at h) <;> simp [zk] at h)
 case next it b => cases b <;> simp [zC, zk] at h
 case makeFunc f a b => cases f <;> simp [zC, zk] at h
 case binOp op t x y z => cases op <;> simp only [zC, GN] at h <;> (repeat' split at h) <;> simp [zk] at h
 all_goals (simp only [zC] at h; (repeat' split at h) <;> simp [zk] at h)
end
end Go.Dx
namespace Go.Dx
open Go
section
variable {P : Program} {β : Emb} {w w' : World} {ρ ρ' : Operand → Value} {v : Value} {s s' : DS}
theorem Ze (l : List Value) (i : Nat) : getN l i = l[i]? := by
 induction l generalizing i with
 | nil => simp [getN]
 | cons x l ih => cases i <;> simp [getN, ih]
theorem LRel.get? {l l' : List Value} (h : LRel β l l') {i : Nat} {v : Value} (hi : l[i]? = some v) : ∃ v', l'[i]? = some v' ∧ VRel β v v' :=
 h.getN (by rw [Ze]; exact hi)
theorem VO {B : Nat} {arr : Array Value} {t : TypeId} {fr : Nat × Nat} {l l' more : List Value} {c : Cells} {ext sz : Nat}
 (hh : w'.heap[B]? = some (.cells arr t fr)) (harr : arr.toList = l' ++ more) (hl : LRel β l l') (hc : ∀ i v, c.get i = some v → l[i]? = some v) (hsz : c.size = l.length)
 (hm : more.length = ext * sz) (hfr : fr = (0, 0) ∨ (c.plain = false ∧ arr.size ≤ fr.1)) :
 JW P β ⟨B, 0, ext, sz, l.length⟩ (.cells c false) w' := by
 have hlen := hl.length
 have hsize : arr.size = l.length + ext * sz := by rw [← Array.length_toList, harr]; simp [hlen, hm]
 have hcell : ∀ i, w'.cell? ⟨B, i, none⟩ = arr[i]? := by
  intro i; simp [World.cell?, hh]
 refine ⟨(Array.getElem?_eq_some_iff.1 hh).1, hsz, ?_, ?_, fun _ hp => by
  rcases hfr with rfl | ⟨h, _⟩
  · exact ⟨fun i => by simp [World.frozen?, hh], by simp [Xy, hh]⟩
  · rw [hp] at h; cases h⟩
 · intro i v hv
   obtain ⟨v', h1, h2⟩ := hl.get? (hc i v hv)
   refine ⟨v', ?_, h2⟩
   simp only [Nat.zero_add]
   rw [hcell, ← Array.getElem?_toList, harr, List.getElem?_append_left (by
    rcases Nat.lt_or_ge i l'.length with h | h
    · exact h
    · simp [List.getElem?_eq_none h] at h1)]
   exact h1
 · intro _ i hi
   simp only [Nat.zero_add] at hi ⊢
   have hi' : i < arr.size := by omega
   refine ⟨⟨arr[i], by rw [hcell]; exact Array.getElem?_eq_getElem hi'⟩, ?_⟩
   simp only [World.frozen?, hh]
   rcases hfr with rfl | ⟨_, h⟩
   · simp
   · obtain ⟨lo, hi2⟩ := fr
     simp only at h ⊢
     have : ¬ lo ≤ i := by omega
     simp [this]
theorem Zc (l : List Value) : (∀ i v, (Cells.list l).get i = some v → l[i]? = some v) ∧ (Cells.list l).size = l.length :=
 ⟨fun i v h => by rw [← Ze]; exact h, rfl⟩
theorem Vp (l : List Value) : (∀ i v, (Cells.str l).get i = some v → l[i]? = some v) ∧ (Cells.str l).size = l.length :=
 ⟨fun i v h => by rw [← Ze]; exact h, rfl⟩
theorem ZM (c : Cells) (l : List Value) : (∀ i v, (c.like l).get i = some v → l[i]? = some v) ∧ (c.like l).size = l.length := by
 unfold Cells.like
 split
 · exact Zc l
 · exact Vp l
theorem YL (c : Cells) (l : List Value) : (c.like l).plain = c.plain := by
 unfold Cells.like
 cases h : c.plain <;> simp [Cells.plain]
theorem WS (w : World) (O : Obj) : (w.heap.push O)[w.heap.size]? = some O := by simp
theorem row_step (hR : Rel P β s.get w) (hf : β s.next = none) {arr : Array Value} {t : TypeId} {fr : Nat × Nat} {l l' more : List Value} {c : Cells} {ext sz : Nat}
 (hh : w'.heap = w.heap.push (.cells arr t fr)) (hos : w'.os = w.os) (ht : w'.tape = w.tape) (hu : w'.output = w.output)
 (harr : arr.toList = l' ++ more) (hl : LRel β l l') (hc : (∀ i v, c.get i = some v → l[i]? = some v) ∧ c.size = l.length) (hm : more.length = ext * sz) (hfr : fr = (0, 0) ∨ (c.plain = false ∧ arr.size ≤ fr.1)) :
 Step P β s.get s.next w (β.upd s.next ⟨w.heap.size, 0, ext, sz, l.length⟩) (s.new (.cells c false)).get (s.new (.cells c false)).next w' :=
 Step.new hR hf rfl hh hos ht hu (VO (by rw [hh]; exact WS w _) harr (hl.mono (Emb.le_upd hf)) hc.1 hc.2 hm hfr)
theorem YJ (t : TypeId) (cs : Array Value) : (newRow t cs).run P w = .ok ⟨w.heap.size, 0, none⟩ { w with heap := w.heap.push (.cells cs t) } := by
 simp [newRow]
theorem Qa (z : Array Value) (hz : 0 < z.size) : ∀ (n : Nat), ((Array.range (n * z.size)).map (z[· % z.size]!)).toList = repeatZ z.toList n := by
 intro n
 simp only [Array.toList_map, Array.toList_range]
 induction n with
 | zero => simp [repeatZ]
 | succ n ih =>
  rw [Nat.add_mul, Nat.one_mul, Nat.add_comm (n * z.size), List.range_add, List.map_append]
  simp only [repeatZ]
  congr 1
  · apply List.ext_getElem
    · simp
    · intro i h1 h2
      simp at h1
      simp [Nat.mod_eq_of_lt h1, h1, getElem!_pos]
  · rw [← ih, List.map_map]
    apply List.map_congr_left
    intro i _
    simp
theorem LRel.repeatZ {z z' : List Value} (h : LRel β z z') : ∀ n, LRel β (repeatZ z n) (repeatZ z' n)
 | 0 => .nil
 | n + 1 => by simp only [Dx.repeatZ]; exact h.append (LRel.repeatZ h n)
theorem WQ (z : List Value) : ∀ n, (repeatZ z n).length = n * z.length
 | 0 => by simp [repeatZ]
 | n + 1 => by simp only [repeatZ, List.length_append, WQ z n, Nat.add_mul]; omega
theorem Jv (v : Value) : ∀ (n i : Nat), i < n → (repeatZ [v] n)[i]? = some v
 | 0, _, h => absurd h (Nat.not_lt_zero _)
 | n + 1, 0, _ => by simp [repeatZ]
 | n + 1, i + 1, h => by simp only [repeatZ]; simpa using Jv v n i (by omega)
abbrev Sk (P : Program) (o : Oper) (β : Emb) (ρ' : Operand → Value) (w : World) (s s' : DS) (v : Value) : Prop :=
 ∃ β' v' w', ((execOp ρ' o).run P w = .ok (.value v') w' ∨ (v' = undef ∧ (execOp ρ' o).run P w = .ok .skip w')) ∧ VRel β' v v' ∧ Step P β s.get s.next w β' s'.get s'.next w'
theorem Ry (o : Oper) (hR : Rel P β s.get w) (hρ : ∀ x ∈ o.op.operands, VRel β (ρ x) (ρ' x)) (hf : s.next < s'.next → β s.next = none) (h : zL ρ s (zC P o) = some (v, s')) :
 Sk P o β ρ' w s s' v := by
 obtain ⟨dst, op, type, pos, after, guard⟩ := o
 have hn : ∀ x, (s.new x).next = s.next + 1 := fun _ => rfl
 cases op
 case alloc t =>
  simp only [zC] at h
  cases hz : zeroOf P t with
  | none => simp [hz, zL] at h
  | some z =>
   simp only [hz, zL, z2, Prod.mk.injEq] at h
   obtain ⟨rfl, rfl⟩ := h
   obtain ⟨z0, hz1, hz2, hz3⟩ := ZC (w := w) hz
   have hf := hf (by simp [hn])
   have st := row_step (P := P) (w' := { w with heap := w.heap.push (.cells z0.cells t) }) hR hf rfl rfl rfl rfl (l := z) (l' := z0.cells.toList) (more := []) (by simp) (by rw [hz2]; exact LRel.closedA hz3) (Zc z) (ext := 0) (sz := 0) (by simp) (.inl rfl)
   refine ⟨_, .pointer (some ⟨w.heap.size, 0, none⟩), _, .inl ?_, .ptr (Emb.upd_same _ _ _), st⟩
   simp [execOp, Instr.alloc, hz1, newVar, YJ]
 case box t x =>
  have hx := hρ x (by simp [Op.operands])
  simp only [zC, zL, z2, Prod.mk.injEq] at h
  obtain ⟨rfl, rfl⟩ := h
  have hf := hf (by simp [hn])
  have st := row_step (P := P) (w' := { w with heap := w.heap.push (.cells (ρ' x).cells t) }) hR hf rfl rfl rfl rfl (l := (ρ x).cells.toList) (l' := (ρ' x).cells.toList) (more := []) (by simp) hx.cells (Zc _) (ext := 0) (sz := 0) (by simp) (.inl rfl)
  refine ⟨_, .pointer (some ⟨w.heap.size, 0, none⟩), _, .inl ?_, .ptr (Emb.upd_same _ _ _), st⟩
  simp [execOp, Instr.box, newVar, YJ]
 case buildSlice t n parts =>
  simp only [zC] at h
  have hρ' : ∀ p ∈ parts.toList, VRel β (ρ p.2) (ρ' p.2) := fun p hp => hρ p.2 (by simp [Op.operands]; exact ⟨p.1, by simpa using hp⟩)
  split at h
  · rename_i e hu
    split at h
    · rename_i sz z hs hz
      split at h
      · rename_i hzl
        have hzl := Nat.eq_of_beq_eq_true hzl
        split at h
        · rename_i l hl
          obtain ⟨z0, hz1, hz2, hz3⟩ := ZC (w := w) hz
          simp only [zL] at h
          split at h
          · rename_i hle
            have hle := Nat.le_of_ble_eq_true hle
            split at h
            · rename_i cs hcs
              simp only [z2, Prod.mk.injEq] at h
              obtain ⟨rfl, rfl⟩ := h
              have hf := hf (by simp [hn])
              have hzs : z0.cells.size = sz + 1 := by rw [← Array.length_toList, hz2, hzl]
              have hzero : ((Array.range (n * (sz + 1))).map (z0.cells[· % z0.cells.size]!)).toList = repeatZ z n := by
               have := Qa z0.cells (by omega) n
               rw [hzs] at this
               rw [hzs, this, hz2]
              have hzr : LRel β (repeatZ z n) ((Array.range (n * (sz + 1))).map (z0.cells[· % z0.cells.size]!)).toList := by
               rw [hzero]; exact (LRel.closedA hz3).repeatZ n
              obtain ⟨cs', hc1, hc2⟩ := KO (β := β) (ρ' := ρ') hl hρ' hzr hcs
              have st := row_step (P := P) (w' := { w with heap := w.heap.push (.cells cs' e) }) hR hf rfl rfl rfl rfl (l := cs) (l' := cs'.toList) (more := []) (by simp) hc2 (Zc cs) (ext := 0) (sz := 0) (by simp) (.inl rfl)
              refine ⟨_, .slice (some ⟨w.heap.size, 0, none⟩) n n, _, .inl ?_, .closed (Emb.upd_same _ _ _) (Nat.le_refl _) (.inr rfl), st⟩
              have hp : (parts.map fun x => (x.1, ρ' x.2)).toList = parts.toList.map fun p => (p.1, ρ' p.2) := by simp
              have hbig : ¬ n * (sz + 1) > 2 ^ 24 := by omega
              have hfill : Instr.fill (fun i => some (i * (sz + 1), sz + 1)) ((Array.range (n * (sz + 1))).map (z0.cells[· % z0.cells.size]!)) (parts.toList.map fun p => (p.1, ρ' p.2)) = some cs' := hc1
              by_cases h0 : n * (sz + 1) = 0
              · have hn0 : n = 0 := by
                 rcases Nat.mul_eq_zero.1 h0 with h | h
                 · exact h
                 · omega
                subst hn0
                have hr0 : ∀ f : Nat → Value, (Array.range (0 * (sz + 1))).map f = #[] := by intro f; simp
                rw [hr0] at hfill
                have hb0 : ¬ (0 * (sz + 1) > 2 ^ 24) := by omega
                have he0 : 0 * (sz + 1) = 0 := by omega
                simp only [execOp, Instr.buildSlice, Sem.run_bind, zc hu, Result.andThen_ok, zu hs, hp, hb0, if_false, he0, if_true, Sem.run_pure]
                simp only [he0] at hr0
                have hz0 : ¬ (0 > 2 ^ 24) := by omega
                simp only [hz0, if_false, Sem.run_bind, Sem.run_pure, Result.andThen_ok, hr0, hfill, YJ]
              · simp only [execOp, Instr.buildSlice, Sem.run_bind, zc hu, Result.andThen_ok, zu hs, hp, hbig, if_false, h0, hz1, Sem.run_pure, hfill, YJ]
            · simp at h
          · simp at h
        · simp [zL] at h
      · simp [zL] at h
    · simp [zL] at h
  · simp [zL] at h
 case makeMap t r =>
  simp only [zC] at h
  split at h
  · rename_i a b hu
    simp only [zL] at h
    have hr : ∀ x, r = some x → VRel β (ρ x) (ρ' x) := fun x hx => hρ x (by subst hx; simp [Op.operands])
    split at h
    · rename_i hok
      simp only [z2, Prod.mk.injEq] at h
      obtain ⟨rfl, rfl⟩ := h
      have hf := hf (by simp [hn])
      have st : Step P β s.get s.next w (β.upd s.next ⟨w.heap.size, 0, 0, 0, 0⟩) (s.new (.map [] 0)).get (s.new (.map [] 0)).next { w with heap := w.heap.push (.map #[] 0) } :=
       Step.new hR hf rfl rfl rfl rfl rfl ⟨#[], WS w _, trivial⟩
      refine ⟨_, .map (some w.heap.size), _, .inl ?_, VRel.map (l := ⟨w.heap.size, 0, 0, 0, 0⟩) (Emb.upd_same _ _ _), st⟩
      cases r with
      | none => simp [execOp, Instr.makeMap]
      | some x =>
       have hx := hr x rfl
       simp only at hok
       generalize ρ x = X at hx hok
       generalize hX : ρ' x = X' at hx
       cases hx <;> simp at hok
       simp [execOp, Instr.makeMap, zc hu, hX, asInt, asIntOf]
    · simp at h
  · simp [zL] at h
 case makeSlice t lo ca =>
  have hx := hρ lo (by simp [Op.operands])
  have hy := hρ ca (by simp [Op.operands])
  simp only [zC] at h
  split at h
  · rename_i e hu
    split at h
    · rename_i sz by_ z hs hb hz
      split at h
      · rename_i hzl
        have hzl := Nat.eq_of_beq_eq_true hzl
        obtain ⟨z0, hz1, hz2, hz3⟩ := ZC (w := w) hz
        simp only [zL] at h
        cases hi : zU (ρ lo) with
        | none => simp [hi] at h
        | some a =>
         cases hj : zU (ρ ca) with
         | none => simp [hi, hj] at h
         | some b =>
          obtain ⟨k1, _, e1⟩ := hx.idx hi
          obtain ⟨k2, _, e2⟩ := hy.idx hj
          simp only [hi, hj] at h
          split at h
          · rename_i hle
            simp only [Bool.and_eq_true] at hle
            have l1 := Nat.le_of_ble_eq_true hle.1.1
            have l2 := Nat.le_of_ble_eq_true hle.1.2
            have l3 := Nat.le_of_ble_eq_true hle.2
            simp only [z2, Prod.mk.injEq] at h
            obtain ⟨rfl, rfl⟩ := h
            have hf := hf (by simp [hn])
            have hzs : z0.cells.size = sz + 1 := by rw [← Array.length_toList, hz2, hzl]
            have hzero : ((Array.range (b * (sz + 1))).map (z0.cells[· % z0.cells.size]!)).toList = repeatZ z b := by
             have := Qa z0.cells (by omega) b
             rw [hzs] at this
             rw [hzs, this, hz2]
            have hc : (∀ i v, (match z with | [v] => if Nat.blt 32 b then Cells.tree b v .nil else .list (repeatZ z b) | _ => .list (repeatZ z b)).get i = some v → (repeatZ z b)[i]? = some v) ∧
             (match z with | [v] => if Nat.blt 32 b then Cells.tree b v .nil else .list (repeatZ z b) | _ => .list (repeatZ z b)).size = (repeatZ z b).length := by
             split
             · rename_i v0
               split
               · constructor
                 · intro i v hv
                   simp only [Cells.get, PT.get_nil] at hv
                   split at hv
                   · rename_i hlt
                     simp at hv; subst hv; exact Jv _ _ _ hlt
                   · cases hv
                 · simp [Cells.size, WQ]
               · exact Zc _
             · exact Zc _
            have st := row_step (P := P) (w' := { w with heap := w.heap.push (.cells ((Array.range (b * (sz + 1))).map (z0.cells[· % z0.cells.size]!)) e) }) hR hf rfl rfl rfl rfl (l := repeatZ z b) (l' := repeatZ z b) (more := []) (by rw [hzero]; simp) ((LRel.closedA hz3).repeatZ b) hc (ext := 0) (sz := 0) (by simp) (.inl rfl)
            refine ⟨_, .slice (some ⟨w.heap.size, 0, none⟩) a b, _, .inl ?_, .closed (Emb.upd_same _ _ _) l1 (.inr rfl), st⟩
            have hinfo : ∃ i, P.info? e = some i ∧ i.bytes = by_ := by
             unfold Zn at hb
             cases hi : P.info? e with
             | none => simp [hi] at hb
             | some i => simp [hi] at hb; exact ⟨i, rfl, hb⟩
            obtain ⟨i0, hi0, hby⟩ := hinfo
            have w1 : IntKind.i64.wrap (Int.ofNat a) = (a : Int) := IntWalk.i64_in _ (by rw [Int.ofNat_eq_natCast]; omega)
            have w2 : IntKind.i64.wrap (Int.ofNat b) = (b : Int) := IntWalk.i64_in _ (by rw [Int.ofNat_eq_natCast]; omega)
            have t1 : ¬ (((b : Int) < 0 || (by_ : Int) * (b : Int) > 2 ^ 48) || (a : Int) < 0 || (a : Int) > (b : Int)) = true := by
             have h4 : (by_ : Int) * (b : Int) ≤ 1099511627776 := by
              have h5 : ((b * by_ : Nat) : Int) ≤ ((1099511627776 : Nat) : Int) := Int.ofNat_le.2 l3
              rw [Int.natCast_mul, Int.mul_comm] at h5
              generalize (by_ : Int) * (b : Int) = q at *
              omega
             simp only [Bool.or_eq_true, decide_eq_true_eq, not_or]
             generalize (by_ : Int) * (b : Int) = q at *
             refine ⟨⟨⟨by omega, by omega⟩, by omega⟩, by omega⟩
            simp only [execOp, Instr.makeSlice, Sem.run_bind, zc hu, Result.andThen_ok, e1, e2, asInt, asIntOf, Sem.run_pure, typeInfo, run_program, hi0, hby, w1, w2, t1, z3, if_false]
            simp only [run_askRoom, Result.andThen_ok, Int.toNat_natCast, zu hs, Sem.run_bind]
            by_cases h0 : b * (sz + 1) = 0
            · have hb0 : b = 0 := by
               rcases Nat.mul_eq_zero.1 h0 with h | h
               · exact h
               · omega
              subst hb0
              have e0 : ∀ f : Nat → Value, (Array.range (0 * (sz + 1))).map f = #[] := by intro f; simp
              have e0' : 0 * (sz + 1) = 0 := by omega
              simp only [e0, e0', if_true, Sem.run_pure, Result.andThen_ok, Sem.run_bind]
              have e1 : ∀ f : Nat → Value, (Array.range 0).map f = #[] := by intro f; simp
              simp only [e1, YJ, Result.andThen_ok]
            · simp only [h0, if_false, hz1, Result.andThen_ok, Sem.run_pure, YJ, Sem.run_bind]
          · simp at h
      · simp [zL] at h
    · simp [zL] at h
  · simp [zL] at h
 case convert src dst' x =>
  have hx := hρ x (by simp [Op.operands])
  simp only [zC] at h
  split at h <;> rename_i hs hd
  · simp [zL] at h
  · simp [zL] at h
  · split at h
    · rename_i hu8
      obtain ⟨eT, hd, hu8⟩ : ∃ eT, P.underlying dst' = some (.slice eT) ∧ P.underlying eT = some (.int .u8) := ⟨_, hd, hu8⟩
      simp only [zL] at h
      generalize ρ x = X at hx h
      generalize hX : ρ' x = X' at hx
      cases hx <;> try (simp only [reduceCtorEq] at h; done)
      rename_i b
      simp only at h
      split at h
      · rename_i hle
        simp only [z2, Prod.mk.injEq] at h
        obtain ⟨rfl, rfl⟩ := h
        have hf := hf (by simp [hn])
        have hge := grownCap_ge w b.size 0 eT
        have hlen : b.data.toList.length = b.size := rfl
        have hheap : (Lib.bytesWorld w eT b).heap = w.heap.push (.cells (Lib.bytesCells w eT b) eT ((Lib.bytesCells w eT b).size, (Lib.bytesCells w eT b).size + 1)) := by
         apply Array.ext_getElem?
         intro i
         rcases Nat.lt_trichotomy i w.heap.size with h | h | h
         · rw [Lib.bytesWorld_at_old w eT b i h, Array.getElem?_push]; simp [Nat.ne_of_lt h]
         · subst h; rw [Lib.bytesWorld_at_new, WS]
         · rw [Array.getElem?_eq_none (by rw [Lib.bytesWorld_size]; omega), Array.getElem?_eq_none (by simp; omega)]
        have hrel : LRel β (b.data.toList.map fun c => Value.int .u8 c.toNat) (b.data.toList.map fun c => Value.int .u8 c.toNat) := by
         generalize b.data.toList = L
         induction L with
         | nil => exact .nil
         | cons c L ih => exact .cons (.int _ _) ih
        have st := row_step (P := P) (w' := Lib.bytesWorld w eT b) hR hf hheap rfl rfl rfl (l := b.data.toList.map fun c => Value.int .u8 c.toNat) (l' := b.data.toList.map fun c => Value.int .u8 c.toNat)
         (more := List.replicate (grownCap w b.size 0 eT - b.size) (.int .u8 0)) (by simp [Lib.bytesCells]) hrel (Vp _) (ext := grownCap w b.size 0 eT - b.size) (sz := 1) (by simp) (.inr ⟨rfl, Nat.le_refl _⟩)
        refine ⟨_, .slice (some ⟨w.heap.size, 0, none⟩) b.size (grownCap w b.size 0 eT), _, .inl ?_, ?_, st⟩
        · simp only [execOp, Sem.run_bind, hX, Lib.run_convert_string_bytes w src dst' eT b hs hd hu8, Result.andThen_ok, Sem.run_pure]
        · have hcap : b.size + (grownCap w b.size 0 eT - b.size) = grownCap w b.size 0 eT := by omega
          have hv := VRel.opened (β := β.upd s.next ⟨w.heap.size, 0, grownCap w b.size 0 eT - b.size, 1, (b.data.toList.map fun c => Value.int .u8 c.toNat).length⟩) (n := b.size) (c := b.size) (off := 0) (k := s.next) (a := ⟨w.heap.size, 0, none⟩)
           (Emb.upd_same _ _ ⟨w.heap.size, 0, grownCap w b.size 0 eT - b.size, 1, (b.data.toList.map fun c => Value.int .u8 c.toNat).length⟩) (Nat.le_refl _) (by simp) (.inr rfl) (by
            show b.size + (grownCap w b.size 0 eT - b.size) ≤ _
            have h1 := Nat.le_of_ble_eq_true hle
            have h2 := grownCap_le_maxLen w b.size 0 eT (by simp only [maxLen]; omega)
            simp only [maxLen] at h2
            omega)
          simp only [hcap] at hv
          exact hv
      · simp at h
    · simp [zL] at h
  · split at h <;> simp [zL] at h
  · (repeat' split at h) <;> simp [zL] at h
  · simp [zL] at h
 case range t x =>
  have hx := hρ x (by simp [Op.operands])
  simp only [zC] at h
  split at h
  · rename_i a b hu
    simp only [zL] at h
    generalize ρ x = X at hx h
    generalize hX : ρ' x = X' at hx
    cases hx <;> try (simp only [reduceCtorEq] at h; done)
    · simp only [z2, Prod.mk.injEq] at h
      obtain ⟨rfl, rfl⟩ := h
      have hf := hf (by simp [hn])
      have st : Step P β s.get s.next w (β.upd s.next ⟨w.heap.size, 0, 0, 0, 0⟩) (s.new (.iter none 0 [] 0)).get (s.new (.iter none 0 [] 0)).next { w with heap := w.heap.push (.mapIter none 0 #[] 0) } :=
       Step.new hR hf rfl rfl rfl rfl rfl ⟨rfl, none, #[], WS w _, rfl, rfl⟩
      refine ⟨_, .pointer (some ⟨w.heap.size, 0, none⟩), _, .inl ?_, VRel.ptr (l := ⟨w.heap.size, 0, 0, 0, 0⟩) (Emb.upd_same _ _ _), st⟩
      simp [execOp, Instr.range, zc hu, hX]
    · rename_i m loc hl
      cases hg : s.get m with
      | none => simp [hg] at h
      | some ob =>
       cases ob <;> simp only [hg, reduceCtorEq, z2, Prod.mk.injEq] at h
       rename_i es clock
       obtain ⟨rfl, rfl⟩ := h
       have hf := hf (by simp [hn])
       obtain ⟨l2, h1, xs, hxs, hE⟩ := hR.obj m _ hg
       rw [hl] at h1; cases h1
       have st : Step P β s.get s.next w (β.upd s.next ⟨w.heap.size, 0, 0, 0, 0⟩) (s.new (.iter (some m) clock [] clock)).get (s.new (.iter (some m) clock [] clock)).next { w with heap := w.heap.push (.mapIter (some loc.blk) clock #[] clock) } :=
        Step.new hR hf rfl rfl rfl rfl rfl ⟨rfl, some loc.blk, #[], WS w _, rfl, loc, Emb.le_upd hf _ _ hl, rfl⟩
       refine ⟨_, .pointer (some ⟨w.heap.size, 0, none⟩), _, .inl ?_, VRel.ptr (l := ⟨w.heap.size, 0, 0, 0, 0⟩) (Emb.upd_same _ _ _), st⟩
       simp [execOp, Instr.range, zc hu, hX, zV hxs]
  · simp [zL] at h
 case next it b => cases b <;> simp [zC, zL] at h
 case makeFunc f a b => cases f <;> simp [zC, zL] at h
 case binOp op t x y z => cases op <;> simp only [zC, GN] at h <;> (repeat' split at h) <;> simp [zL] at h
 case call c =>
  obtain ⟨callee, args, ats⟩ := c
  cases callee with
  | value f => simp only [zC, zL] at h; cases h
  | invoke r n => simp only [zC, zL] at h; cases h
  | builtin b =>
   simp only [zC] at h
   unfold Y8 YS at h
   (repeat' split at h) <;> simp [zL] at h
 all_goals (simp only [zC] at h; (repeat' split at h) <;> simp [zL] at h)
end
end Go.Dx
namespace Go.Dx
open Go
section
variable {P : Program} {β : Emb} {w w' : World} {ρ ρ' : Operand → Value} {v : Value} {s s' : DS}
theorem Yr : ∀ (l : List Value) (i : Nat) (v : Value), (zA l i v).length = l.length
 | [], _, _ => rfl
 | _ :: l, 0, _ => rfl
 | _ :: l, i + 1, v => by simp [zA, Yr l i v]
theorem Qf : ∀ (l : List Value) (i j : Nat) (v : Value), i < l.length → getN (zA l i v) j = if j = i then some v else getN l j
 | [], _, _, _, h => absurd h (Nat.not_lt_zero _)
 | _ :: l, 0, j, v, _ => by cases j <;> simp [zA, getN]
 | _ :: l, i + 1, j, v, h => by
  cases j with
  | zero => simp [zA, getN]
  | succ j =>
   simp only [zA, getN, Qf l i j v (by simpa using h)]
   by_cases e : j = i <;> simp [e]
theorem Cells.size_set (c : Cells) (i : Nat) (v : Value) : (c.set i v).size = c.size := by
 cases c <;> simp [Cells.set, Cells.size, Yr]
theorem Cells.get_set (c : Cells) (i j : Nat) (v : Value) (h : i < c.size) : (c.set i v).get j = if j = i then some v else c.get j := by
 cases c with
 | list l => exact Qf l i j v h
 | str l => exact Qf l i j v h
 | tree n z t =>
  simp only [Cells.size] at h
  simp only [Cells.set, Cells.get, h, if_true, PT.get_put]
  by_cases e : j = i
  · subst e; simp [h]
  · simp [e]
theorem Cells.size_fill : ∀ (l : List Value) (c : Cells) (off : Nat), (c.fillFrom off l).size = c.size
 | [], c, _ => rfl
 | v :: l, c, off => by simp only [Cells.fillFrom, Cells.size_fill l, Cells.size_set]
theorem Cells.plain_set (c : Cells) (i : Nat) (v : Value) : (c.set i v).plain = c.plain := by
 cases c <;> rfl
theorem Cells.plain_fill : ∀ (l : List Value) (c : Cells) (off : Nat), (c.fillFrom off l).plain = c.plain
 | [], c, _ => rfl
 | v :: l, c, off => by simp only [Cells.fillFrom, Cells.plain_fill l, Cells.plain_set]
theorem Cells.get_fill : ∀ (l : List Value) (c : Cells) (off j : Nat), off + l.length ≤ c.size →
 (c.fillFrom off l).get j = if off ≤ j ∧ j < off + l.length then l[j - off]? else c.get j
 | [], c, off, j, _ => by simp [Cells.fillFrom]; omega
 | v :: l, c, off, j, h => by
  simp only [List.length_cons] at h
  simp only [Cells.fillFrom]
  rw [Cells.get_fill l (c.set off v) (off + 1) j (by rw [Cells.size_set]; omega), Cells.get_set c off j v (by omega)]
  by_cases e : j = off
  · subst e
    have n1 : ¬ (j + 1 ≤ j ∧ j < j + 1 + l.length) := by omega
    rw [if_neg n1]; simp
  · by_cases e2 : off + 1 ≤ j ∧ j < off + 1 + l.length
    · have e3 : off ≤ j ∧ j < off + (v :: l).length := by simp; omega
      rw [if_pos e2, if_pos e3]
      obtain ⟨m, rfl⟩ : ∃ m, j = off + 1 + m := ⟨j - (off + 1), by omega⟩
      rw [show off + 1 + m - (off + 1) = m from by omega, show off + 1 + m - off = m + 1 from by omega]
      simp
    · have e3 : ¬ (off ≤ j ∧ j < off + (v :: l).length) := by simp; omega
      rw [if_neg e2, if_neg e, if_neg e3]
theorem Qo (w : World) (a : Addr) (v : Value) (r : Nat) (h : r ≠ a.block) : (w.setCell a v).heap[r]? = w.heap[r]? := by
 simp [World.setCell, Array.getElem?_modify, Ne.symm h]
theorem Qp (w : World) (a : Addr) (v : Value) (b : Nat) : Xy (w.setCell a v) b = Xy w b := by
 unfold Xy World.setCell
 simp only [Array.getElem?_modify]
 by_cases h : a.block = b
 · rw [if_pos h]
   cases w.heap[b]? with
   | none => rfl
   | some o => cases o <;> rfl
 · rw [if_neg h]
theorem Xx : ∀ (vs : List Value) (b o i : Nat) (w : World), (∀ v ∈ vs, v.oneCell' = true) →
 (∀ j, j < vs.length → (∃ u, w.cell? ⟨b, o + (i + j), none⟩ = some u) ∧ w.frozen? ⟨b, o + (i + j), none⟩ = false) →
 ∃ w', (storeCells ⟨b, o, none⟩ vs i).run P w = .ok () w' ∧ w'.heap.size = w.heap.size ∧ (∀ r, r ≠ b → w'.heap[r]? = w.heap[r]?) ∧ w'.os = w.os ∧ w'.tape = w.tape ∧ w'.output = w.output ∧
  (∀ q, w'.cell? ⟨b, q, none⟩ = if o + i ≤ q ∧ q < o + i + vs.length then vs[q - (o + i)]? else w.cell? ⟨b, q, none⟩) ∧ (∀ a, w'.frozen? a = w.frozen? a) ∧ Xy w' b = Xy w b
 | [], b, o, i, w, _, _ => ⟨w, rfl, rfl, fun _ _ => rfl, rfl, rfl, rfl, fun q => by simp; omega, fun _ => rfl, rfl⟩
 | v :: vs, b, o, i, w, h1, h2 => by
  obtain ⟨⟨u, hu⟩, hf⟩ := h2 0 (by simp)
  simp only [Nat.add_zero] at hu hf
  have hstep : (store (Addr.add ⟨b, o, none⟩ i) v).run P w = .ok () (w.setCell ⟨b, o + i, none⟩ v) := by
   rw [Addr.add_lit, run_store P w _ v _ (h1 v (by simp))]
   simp [hu, hf]
  obtain ⟨w', e1, e2, e3, e4, e5, e6, e7, e8, e9⟩ := Xx vs b o (i + 1) (w.setCell ⟨b, o + i, none⟩ v) (fun x hx => h1 x (by simp [hx])) (by
   intro j hj
   obtain ⟨⟨u2, hu2⟩, hf2⟩ := h2 (j + 1) (by simp; omega)
   rw [show i + (j + 1) = i + 1 + j from by omega] at hu2 hf2
   refine ⟨⟨u2, ?_⟩, by rw [World.frozen?_setCell]; exact hf2⟩
   rw [World.cell?_setCell_other w _ _ _ (by intro h; injection h with h1 h2; omega)]
   exact hu2)
  refine ⟨w', ?_, by rw [e2]; exact World.size_setCell .., fun r hr => (e3 r hr).trans (Qo w _ v r hr), e4, e5, e6, ?_, fun a => (e8 a).trans (World.frozen?_setCell ..), e9.trans (Qp ..)⟩
  · simp only [storeCells, Sem.run_bind, hstep, Result.andThen_ok]
    exact e1
  · intro q
    rw [e7 q]
    by_cases c1 : q = o + i
    · subst c1
      have n1 : ¬ (o + (i + 1) ≤ o + i ∧ o + i < o + (i + 1) + vs.length) := by omega
      have p1 : o + i ≤ o + i ∧ o + i < o + i + (v :: vs).length := by simp
      rw [if_neg n1, if_pos p1, World.cell?_setCell_same w _ _ hu]
      simp
    · rw [World.cell?_setCell_other w _ _ _ (by intro h; injection h with h1 h2; omega)]
      by_cases c2 : o + (i + 1) ≤ q ∧ q < o + (i + 1) + vs.length
      · have p1 : o + i ≤ q ∧ q < o + i + (v :: vs).length := by simp; omega
        rw [if_pos c2, if_pos p1]
        obtain ⟨m, rfl⟩ : ∃ m, q = o + (i + 1) + m := ⟨q - (o + (i + 1)), by omega⟩
        rw [show o + (i + 1) + m - (o + (i + 1)) = m from by omega, show o + (i + 1) + m - (o + i) = m + 1 from by omega]
        simp
      · have n1 : ¬ (o + i ≤ q ∧ q < o + i + (v :: vs).length) := by simp; omega
        rw [if_neg c2, if_neg n1]
theorem Fj {v v' : Value} (h : VRel β v v') (ho : zg v = true) : v'.oneCell' = true := by
 cases h <;> simp [zg] at ho <;> first | rfl | (rename_i hh; cases v' <;> first | rfl | cases hh)
theorem YP : ∀ {l l' : List Value}, LRel β l l' → zh l = true → ∀ v ∈ l', v.oneCell' = true
 | _, _, .nil, _ => by simp
 | _, _, .cons h t, ha => by
  simp only [zh, Bool.and_eq_true] at ha
  intro v hv
  rcases List.mem_cons.1 hv with rfl | hv
  · exact Fj h ha.1
  · exact YP t ha.2 v hv
theorem Y7 (hR : Rel P β s.get w) {k off : Nat} {l l' : List Value} (h : s.write k off l = some s') (hl : LRel β l l') (ho : zh l = true) {loc : Loc} (hk : β k = some loc) :
 ∃ w', (storeCells ⟨loc.blk, loc.off + off, none⟩ l' 0).run P w = .ok () w' ∧ Step P β s.get s.next w β s'.get s'.next w' := by
 unfold DS.write at h
 split at h
 · rename_i c hg
   split at h
   · rename_i hle
     have hle := Nat.le_of_ble_eq_true hle
     obtain ⟨l2, h1, hb, hsz, hc, hown, hpl⟩ := hR.obj k _ hg
     rw [hk] at h1; cases h1
     have hlen := hl.length
     obtain ⟨w', e1, e2, e3, e4, e5, e6, e7, e8, e9⟩ := Xx (P := P) l' loc.blk (loc.off + off) 0 w (YP hl ho) (by
      intro j hj
      have := hown rfl (off + j) (by omega)
      simpa [Nat.add_assoc] using this)
     refine ⟨w', e1, Step.write hR h hg rfl rfl hk e2 e3 e4 e5 e6 ⟨by omega, by rw [Cells.size_fill]; exact hsz, ?_, ?_, fun hr hp => ⟨fun i => by rw [e8]; exact (hpl hr (by rw [← Cells.plain_fill l c off]; exact hp)).1 i, by rw [e9]; exact (hpl hr (by rw [← Cells.plain_fill l c off]; exact hp)).2⟩⟩⟩
     · intro i v hv
       rw [Cells.get_fill l c off i hle] at hv
       rw [e7]
       by_cases cnd : off ≤ i ∧ i < off + l.length
       · rw [if_pos cnd] at hv
         have cnd' : loc.off + off + 0 ≤ loc.off + i ∧ loc.off + i < loc.off + off + 0 + l'.length := by omega
         rw [if_pos cnd', show loc.off + i - (loc.off + off + 0) = i - off from by omega]
         exact hl.get? hv
       · rw [if_neg cnd] at hv
         have cnd' : ¬ (loc.off + off + 0 ≤ loc.off + i ∧ loc.off + i < loc.off + off + 0 + l'.length) := by omega
         rw [if_neg cnd']
         exact hc i v hv
     · intro hr i hi
       obtain ⟨⟨u, hu⟩, hf⟩ := hown hr i hi
       refine ⟨?_, by rw [e8]; exact hf⟩
       rw [e7]
       by_cases cnd : loc.off + off + 0 ≤ loc.off + i ∧ loc.off + i < loc.off + off + 0 + l'.length
       · rw [if_pos cnd]
         exact ⟨_, List.getElem?_eq_getElem (by omega)⟩
       · rw [if_neg cnd]; exact ⟨u, hu⟩
   · cases h
 · cases h
theorem TI {o : Oper} {t : TypeId} {a x : Operand} (ho : o.op = .store t a x) (hR : Rel P β s.get w) (hρ : ∀ x ∈ o.op.operands, VRel β (ρ x) (ρ' x)) (h : zl ρ s (zC P o) = some (v, s')) :
 Sk P o β ρ' w s s' v := by
 obtain ⟨dst, op, type, pos, after, guard⟩ := o
 subst ho
 have ha := hρ a (by simp [Op.operands])
 have hx := hρ x (by simp [Op.operands])
 simp only [zC] at h
 cases hs : Zx P t with
 | none => simp [hs, zl] at h
 | some sz =>
  simp only [hs, zl] at h
  generalize ρ a = A at ha h
  generalize hA : ρ' a = A' at ha
  cases ha <;> try (simp only [reduceCtorEq] at h; done)
  rename_i k off loc hl
  simp only at h
  split at h
  · rename_i hc
    simp only [Bool.and_eq_true] at hc
    have hn := Nat.eq_of_beq_eq_true hc.1
    split at h
    · rename_i s1 hw
      simp only [z2, Prod.mk.injEq] at h
      obtain ⟨rfl, rfl⟩ := h
      obtain ⟨w', e1, st⟩ := Y7 hR hw hx.cells hc.2 hl
      refine ⟨β, undef, w', .inr ⟨rfl, ?_⟩, .undef, st⟩
      have hsz : (ρ' x).cells.size = sz := by rw [← Array.length_toList, ← hx.cells.length]; exact hn
      simp [execOp, Instr.storeAt, hA, Instr.sureAddr, storeVar, zu hs, hsz, e1]
    · simp at h
  · simp at h
end
end Go.Dx
namespace Go.Dx
open Go
section
variable {P : Program} {β : Emb} {w w' : World} {ρ ρ' : Operand → Value} {v : Value} {s s' : DS}
theorem ZL {r : Nat} {o o' : Obj} (h : w.heap[r]? = some o) (hc : ∀ a b c, o ≠ .cells a b c) : (setObj r o').run P w = .ok () { w with heap := w.heap.setIfInBounds r o' } := by
 unfold setObj
 cases o <;> first | exact absurd rfl (hc _ _ _) | simp [Sem.run, h]
theorem Zd {r : Nat} {o o' : Obj} (h : w.heap[r]? = some o) : (w.heap.setIfInBounds r o')[r]? = some o' := by
 have := (Array.getElem?_eq_some_iff.1 h).1
 simp [this]
theorem KI {r q : Nat} {o' : Obj} (h : q ≠ r) : (w.heap.setIfInBounds r o')[q]? = w.heap[q]? := by
 simp [Array.getElem?_setIfInBounds, Ne.symm h]
theorem Yy (hR : Rel P β s.get w) {k : Nat} {o o' : DObj} (h : s.set k o' = some s') (hg : s.get k = some o) (ho : owned o = true) (ho' : owned o' = true) {loc : Loc} (hk : β k = some loc) {O : Obj}
 (hO : JW P β loc o' { w with heap := w.heap.setIfInBounds loc.blk O }) :
 Step P β s.get s.next w β s'.get s'.next { w with heap := w.heap.setIfInBounds loc.blk O } :=
 Step.write hR h hg ho ho' hk (by simp) (fun r hr => KI hr) rfl rfl rfl hO
theorem Zt.append : ∀ {a b : List z6} {x y : List MapEntry}, Zt β a x → Zt β b y → Zt β (a ++ b) (x ++ y)
 | [], _, [], _, _, h => h
 | _ :: _, _, _ :: _, _, ⟨h1, h2, h3, h4⟩, h => ⟨h1, h2, h3, Zt.append h4 h⟩
 | [], _, _ :: _, _, h, _ => h.elim
 | _ :: _, _, [], _, h, _ => h.elim
theorem Zt.setVal : ∀ {es : List z6} {xs : List MapEntry} (i : Nat) {u u' : Value} {kk : Value}, Zt β es xs → VRel β u u' → (∀ x, xs[i]? = some x → kk = x.key) →
 Zt β (Dx.setVal es i u) (xs.modify i fun e => { e with key := kk, val := u' })
 | [], [], _, _, _, _, _, _, _ => by simp [Dx.setVal, Zt]
 | e :: es, x :: xs, 0, _, _, _, ⟨h1, h2, h3, h4⟩, hu, hk => by
  have := hk x rfl
  simp only [Dx.setVal, List.modify_zero_cons]
  exact ⟨⟨h1.1.trans this.symm, h1.2⟩, h2, hu, h4⟩
 | e :: es, x :: xs, i + 1, _, _, _, ⟨h1, h2, h3, h4⟩, hu, hk => by
  simp only [Dx.setVal, List.modify_succ_cons]
  exact ⟨h1, h2, h3, Zt.setVal i h4 hu fun y hy => hk y (by simpa using hy)⟩
 | [], _ :: _, _, _, _, _, h, _, _ => h.elim
 | _ :: _, [], _, _, _, _, h, _, _ => h.elim
theorem Zt.setVal' : ∀ {es : List z6} {xs : List MapEntry} (i : Nat) {u u' : Value}, Zt β es xs → VRel β u u' →
 Zt β (Dx.setVal es i u) (xs.modify i fun e => { e with val := u' })
 | [], [], _, _, _, _, _ => by simp [Dx.setVal, Zt]
 | e :: es, x :: xs, 0, _, _, ⟨h1, h2, h3, h4⟩, hu => by
  simp only [Dx.setVal, List.modify_zero_cons]
  exact ⟨h1, h2, hu, h4⟩
 | e :: es, x :: xs, i + 1, _, _, ⟨h1, h2, h3, h4⟩, hu => by
  simp only [Dx.setVal, List.modify_succ_cons]
  exact ⟨h1, h2, h3, Zt.setVal' i h4 hu⟩
 | [], _ :: _, _, _, _, h, _ => h.elim
 | _ :: _, [], _, _, _, h, _ => h.elim
theorem Zt.drop : ∀ {es : List z6} {xs : List MapEntry} (i : Nat), Zt β es xs → Zt β (VE es i) (xs.eraseIdx i)
 | [], [], _, _ => by simp [VE, Zt]
 | e :: es, x :: xs, 0, ⟨h1, h2, h3, h4⟩ => by simpa [VE] using h4
 | e :: es, x :: xs, i + 1, ⟨h1, h2, h3, h4⟩ => by simp only [VE, List.eraseIdx_cons_succ]; exact ⟨h1, h2, h3, Zt.drop i h4⟩
 | [], _ :: _, _, h => h.elim
 | _ :: _, [], _, h => h.elim
theorem QU {b : KT} {k : Value} (h : isKey b k = true) : closedV k = true := by
 cases b with
 | num => cases k <;> simp [isKey] at h; rfl
 | txt => cases k <;> simp [isKey] at h; rfl
 | agg ks =>
  obtain ⟨⟨a⟩, rfl, h2⟩ := Qd h
  simpa [closedV] using Wp h2
theorem Dl : ∀ {x y : List Value}, YD x y = some true → x = y
 | [], [], _ => rfl
 | [], _ :: _, h => by simp [YD] at h
 | v :: x, y, h => by
  cases v <;> try (cases y <;> simp [YD] at h; done)
  obtain ⟨m, r', rfl, h | h⟩ := QF h
  · rw [h.1, Dl h.2]
  · cases h.2
theorem RF {b : KT} {k k' : Value} (h : ZO b k k' = some true) : k = k' := by
 cases b with
 | num =>
  cases k <;> try (simp [ZO] at h; done)
  cases k' <;> try (simp [ZO] at h; done)
  rename_i k1 a k2 c
  simp only [ZO] at h
  by_cases e : k1 = k2
  · simp [e] at h; rw [e, h]
  · simp [e] at h
 | txt =>
  cases k <;> try (simp [ZO] at h; done)
  cases k' <;> try (simp [ZO] at h; done)
  rename_i a c
  simp only [ZO, Z7, z2, beq_iff_eq] at h
  rw [show a = c from ByteArray.ext (Array.ext' h)]
 | agg ks =>
  cases k <;> try (simp [ZO] at h; done)
  cases k' <;> try (simp [ZO] at h; done)
  rename_i a c
  simp only [ZO] at h
  rw [Array.ext' (Dl h)]
theorem WN : ∀ {ks : List IntKind} {l : List Value}, zP ks l = true → (l.zip l).all (fun p => Instr.sameBits 9999 p.1 p.2) = true
 | [], _, h => by rw [YT h]; rfl
 | q :: ks, _, h => by
  obtain ⟨n, r, rfl, _, h2⟩ := ZN h
  simp [Instr.sameBits, WN h2]
theorem QT {b : KT} {k : Value} (h : isKey b k = true) : (Instr.keyThatStays k k).run P w = .ok k w := by
 have : Instr.sameBits 10000 k k = true := by
  cases b with
  | num => cases k <;> simp [isKey] at h; simp [Instr.sameBits]
  | txt => cases k <;> simp [isKey] at h; simp [Instr.sameBits, beq_toListBytes]
  | agg ks =>
   obtain ⟨a, rfl, h2⟩ := Qd h
   have := WN h2
   simp only [Instr.sameBits, beq_self_eq_true, Bool.true_and]
   exact this
 simp [Instr.keyThatStays, this]
theorem Zy {xs : Array MapEntry} {c : Nat} : ∀ a b d, Obj.map xs c ≠ .cells a b d := fun _ _ _ h => by cases h
theorem Ky {m k : Operand} {kt : TypeId} {b : KT} {r : Nat} (hb : Zp P kt = some b) (hR : Rel P β s.get w) (hm : VRel β (.map (some r)) (ρ' m)) (hk : VRel β (ρ k) (ρ' k)) {es : List z6} {clock : Nat} (hg : s.get r = some (.map es clock))
 (hik : isKey b (ρ k) = true) {res : Option (Nat × z6)} (hf : YU b (ρ k) es 0 = some res) :
 ∃ loc xs, β r = some loc ∧ ρ' m = .map (some loc.blk) ∧ ρ' k = ρ k ∧ w.heap[loc.blk]? = some (.map xs clock) ∧ Zt β es xs.toList ∧
  ((res = none ∧ ∀ u, (Instr.findKey kt (ρ k) xs.toList).run P u = .ok none u) ∨
   ∃ j e x, res = some (j, e) ∧ (∀ u, (Instr.findKey kt (ρ k) xs.toList).run P u = .ok (some (j, x.val)) u) ∧ xs[j]? = some x ∧ es[j]? = some e ∧ x.key = ρ k ∧ e.born = x.born ∧ VRel β e.val x.val) := by
 generalize hM : ρ' m = M' at hm
 cases hm
 rename_i loc hl
 obtain ⟨l2, h1, xs, hx, hE⟩ := hR.obj r _ hg
 rw [hl] at h1; cases h1
 have hkk := Qy hik hk
 refine ⟨loc, xs, hl, rfl, hkk, hx, hE, ?_⟩
 rcases JG hb hik hE hf with ⟨rfl, e2⟩ | ⟨j, e0, x0, rfl, e2, e3, e4, e5, e6, hv, e7⟩
 · exact .inl ⟨rfl, e2⟩
 · refine .inr ⟨j, e0, x0, rfl, e2, by simpa using e4, e3, ?_, e6, hv⟩
   rw [← e5]; exact (RF e7).symm
theorem toList_modify (xs : Array MapEntry) (i : Nat) (f : MapEntry → MapEntry) : (xs.modify i f).toList = xs.toList.modify i f := by
 simp [Array.toList_modify]
theorem Sx {t : TypeId} {m k x : Operand} {kt e : TypeId} {b : KT} (hu : P.underlying t = some (.map kt e)) (hb : Zp P kt = some b) (hR : Rel P β s.get w)
 (hm : VRel β (ρ m) (ρ' m)) (hk : VRel β (ρ k) (ρ' k)) (hx : VRel β (ρ x) (ρ' x)) (h : zl ρ s (.mupd b m k x) = some (v, s')) :
 ∃ w', (Instr.mapUpdate t (ρ' m) (ρ' k) (ρ' x)).run P w = .ok () w' ∧ v = zv ∧ Step P β s.get s.next w β s'.get s'.next w' := by
 simp only [zl] at h
 cases hM : ρ m <;> rw [hM] at h hm <;> try (simp only [reduceCtorEq] at h; done)
 rename_i r0
 cases r0 with
 | none => simp at h
 | some r =>
  cases hg : s.get r with
  | none => simp [hg] at h
  | some ob =>
   cases ob <;> simp only [hg, reduceCtorEq] at h
   rename_i es clock
   by_cases hik : isKey b (ρ k) = true
   · simp only [hik, if_true] at h
     cases hf : YU b (ρ k) es 0 with
     | none => simp [hf] at h
     | some res =>
      obtain ⟨loc, xs, hl, e1, e2, hh, hE, hres⟩ := Ky (m := m) hb hR hm hk hg hik hf
      rcases hres with ⟨rfl, hfk⟩ | ⟨j, en, xn, rfl, hfk, hxj, hej, hkey, _, _⟩
      · simp only [hf] at h
        split at h
        · rename_i s1 hs1
          simp only [z2, Prod.mk.injEq] at h
          obtain ⟨rfl, rfl⟩ := h
          have st := Yy (O := .map (xs.push { key := ρ k, val := ρ' x, born := clock }) (clock + 1)) hR hs1 hg rfl rfl hl ⟨_, Zd hh, by
           rw [Array.toList_push]; exact hE.append ⟨⟨rfl, QU hik⟩, rfl, hx, trivial⟩⟩
          refine ⟨_, ?_, rfl, st⟩
          simp only [Instr.mapUpdate, Sem.run_bind, zc hu, Result.andThen_ok, e1, e2, zV hh, ZA hb hik, hfk, ZL hh Zy]
        · simp at h
      · simp only [hf] at h
        split at h
        · rename_i s1 hs1
          simp only [z2, Prod.mk.injEq] at h
          obtain ⟨rfl, rfl⟩ := h
          have st := Yy (O := .map (xs.modify j fun e => { e with key := ρ k, val := ρ' x }) clock) hR hs1 hg rfl rfl hl ⟨_, Zd hh, by
           rw [toList_modify]; exact hE.setVal j hx fun y hy => by
            rw [Array.getElem?_toList, hxj] at hy; cases hy; exact hkey.symm⟩
          refine ⟨_, ?_, rfl, st⟩
          have hold : (((xs[j]?).map (·.key)).getD (ρ k)) = ρ k := by rw [hxj]; simp [hkey]
          simp only [Instr.mapUpdate, Sem.run_bind, zc hu, Result.andThen_ok, e1, e2, zV hh, ZA hb hik, hfk, hold, QT hik, ZL hh Zy]
        · simp at h
   · simp [hik] at h
theorem Fp (o : Oper) (ho : (∃ t m k x, o.op = .mapUpdate t m k x) ∨ (∃ t m k x, o.op = .insert t m k x)) (hR : Rel P β s.get w) (hρ : ∀ x ∈ o.op.operands, VRel β (ρ x) (ρ' x)) (h : zl ρ s (zC P o) = some (v, s')) :
 Sk P o β ρ' w s s' v := by
 obtain ⟨dst, op, type, pos, after, guard⟩ := o
 rcases ho with ⟨t, m, k, x, rfl⟩ | ⟨t, m, k, x, rfl⟩
 all_goals
  have hm := hρ m (by simp [Op.operands])
  have hk := hρ k (by simp [Op.operands])
  have hx := hρ x (by simp [Op.operands])
  simp only [zC] at h
  split at h
  · rename_i kt e hu
    split at h
    · rename_i b hb
      obtain ⟨w', e1, rfl, st⟩ := Sx hu hb hR hm hk hx h
      exact ⟨β, undef, w', .inr ⟨rfl, by simp [execOp, e1]⟩, .undef, st⟩
    · simp [zl] at h
  · simp [zl] at h
end
end Go.Dx
namespace Go.Dx
open Go
section
variable {P : Program} {β : Emb} {w w' : World} {ρ ρ' : Operand → Value} {v : Value} {s s' : DS}
theorem TZ {t : TypeId} {m k : Operand} {kt e : TypeId} {b : KT} {z : Value} (hu : P.underlying t = some (.map kt e)) (hb : Zp P kt = some b) (hz : (P.info? e).bind (·.zero) = some z) (hcz : closedV z = true) (hR : Rel P β s.get w)
 (hm : VRel β (ρ m) (ρ' m)) (hk : VRel β (ρ k) (ρ' k)) (h : zl ρ s (.ment b z m k) = some (v, s')) :
 ∃ v' w', (Instr.mapEntry t (ρ' m) (ρ' k)).run P w = .ok v' w' ∧ VRel β v v' ∧ Step P β s.get s.next w β s'.get s'.next w' := by
 have hzero : ∀ u, (zeroValue e).run P u = .ok z u := by
  intro u
  cases hi : P.info? e with
  | none => simp [hi] at hz
  | some i => simp only [hi, Option.bind_some] at hz; simp [zeroValue, typeInfo, hi, hz]
 simp only [zl] at h
 cases hM : ρ m <;> rw [hM] at h hm <;> try (simp only [reduceCtorEq] at h; done)
 rename_i r0
 cases r0 with
 | none => simp at h
 | some r =>
  cases hg : s.get r with
  | none => simp [hg] at h
  | some ob =>
   cases ob <;> simp only [hg, reduceCtorEq] at h
   rename_i es clock
   by_cases hik : isKey b (ρ k) = true
   · simp only [hik, if_true] at h
     cases hf : YU b (ρ k) es 0 with
     | none => simp [hf] at h
     | some res =>
      obtain ⟨loc, xs, hl, e1, e2, hh, hE, hres⟩ := Ky (m := m) hb hR hm hk hg hik hf
      rcases hres with ⟨rfl, hfk⟩ | ⟨j, en, xn, rfl, hfk, hxj, hej, hkey, hborn, hval⟩
      · simp only [hf] at h
        split at h
        · rename_i s1 hs1
          simp only [z2, Prod.mk.injEq] at h
          obtain ⟨rfl, rfl⟩ := h
          have st := Yy (O := .map (xs.push { key := ρ k, val := z, born := clock }) (clock + 1)) hR hs1 hg rfl rfl hl ⟨_, Zd hh, by
           rw [Array.toList_push]; exact hE.append ⟨⟨rfl, QU hik⟩, rfl, VRel.closedV hcz, trivial⟩⟩
          refine ⟨.tuple #[z, .int .i64 clock], _, ?_, .tuple (.cons (VRel.closedV hcz) (.cons (.int _ _) .nil)), st⟩
          simp only [Instr.mapEntry, Sem.run_bind, zc hu, Result.andThen_ok, e1, e2, zV hh, ZA hb hik, hfk, hzero, ZL hh Zy, Sem.run_pure]
          rfl
        · simp at h
      · simp only [hf] at h
        split at h
        · rename_i s1 hs1
          simp only [z2, Prod.mk.injEq] at h
          obtain ⟨rfl, rfl⟩ := h
          have hkeep : Zt β es (xs.modify j fun e => { e with key := ρ k }).toList := by
           rw [toList_modify]
           have : xs.toList.modify j (fun e => { e with key := ρ k }) = xs.toList := by
            apply List.ext_getElem?
            intro i
            rw [List.getElem?_modify]
            by_cases e : j = i
            · subst e
              rw [Array.getElem?_toList, hxj]
              simp only [if_true, Option.map_eq_map, Option.map_some]
              rw [← hkey]
            · simp [e]
           rw [this]; exact hE
          have st := Yy (O := .map (xs.modify j fun e => { e with key := ρ k }) clock) hR hs1 hg rfl rfl hl ⟨_, Zd hh, hkeep⟩
          refine ⟨.tuple #[xn.val, .int .i64 xn.born], _, ?_, .tuple (.cons hval (.cons (by rw [hborn]; exact .int _ _) .nil)), st⟩
          have hold : (((xs[j]?).map (·.key)).getD (ρ k)) = ρ k := by rw [hxj]; simp [hkey]
          have hb2 : (((xs[j]?).map (fun x => (x.born : Int))).getD 0) = (xn.born : Int) := by rw [hxj]; simp
          simp only [Instr.mapEntry, Sem.run_bind, zc hu, Result.andThen_ok, e1, e2, zV hh, ZA hb hik, hfk, hold, QT hik, ZL hh Zy, Sem.run_pure, hb2]
          rfl
        · simp at h
   · simp [hik] at h
theorem JH {n : Nat} : ∀ {es : List z6} {xs : List MapEntry}, Zt β es xs → es.findIdx? (fun e => Nat.beq e.born n) = xs.findIdx? (fun e => (e.born : Int) == (n : Int))
 | [], [], _ => rfl
 | e :: es, x :: xs, ⟨h1, h2, h3, h4⟩ => by
  rw [List.findIdx?_cons, List.findIdx?_cons, JH h4]
  have : Nat.beq e.born n = ((x.born : Int) == (n : Int)) := by
   rw [Bool.eq_iff_iff, ← h2]
   constructor
   · intro h; have := Nat.eq_of_beq_eq_true h; subst this; simp
   · intro h
     have : e.born = n := by have := eq_of_beq h; omega
     subst this; exact Nat.beq_refl _
  rw [this]
 | [], _ :: _, h => h.elim
 | _ :: _, [], h => h.elim
theorem FR {t : TypeId} {m b x : Operand} (hR : Rel P β s.get w) (hm : VRel β (ρ m) (ρ' m)) (hb : VRel β (ρ b) (ρ' b)) (hx : VRel β (ρ x) (ρ' x)) (h : zl ρ s (.estore m b x) = some (v, s')) :
 ∃ w', (Instr.entryStore t (ρ' m) (ρ' b) (ρ' x)).run P w = .ok () w' ∧ v = zv ∧ Step P β s.get s.next w β s'.get s'.next w' := by
 simp only [zl] at h
 cases hi : zU (ρ b) with
 | none => cases hM : ρ m <;> simp [hM, hi] at h
 | some n =>
  obtain ⟨kk, _, e2⟩ := hb.idx hi
  cases hM : ρ m <;> rw [hM] at h hm <;> try (simp only [hi, reduceCtorEq] at h; done)
  rename_i r0
  cases r0 with
  | none => simp [hi] at h
  | some r =>
   simp only [hi] at h
   cases hg : s.get r with
   | none => simp [hg] at h
   | some ob =>
    cases ob <;> simp only [hg, reduceCtorEq] at h
    rename_i es clock
    generalize hM' : ρ' m = M' at hm
    cases hm
    rename_i loc hl
    obtain ⟨l2, h1, xs, hh, hE⟩ := hR.obj r _ hg
    rw [hl] at h1; cases h1
    cases hf : es.findIdx? (fun e => Nat.beq e.born n) with
    | none => simp [hf] at h
    | some i =>
     simp only [hf] at h
     split at h
     · rename_i s1 hs1
       simp only [z2, Prod.mk.injEq] at h
       obtain ⟨rfl, rfl⟩ := h
       have st := Yy (O := .map (xs.modify i fun e => { e with val := ρ' x }) clock) hR hs1 hg rfl rfl hl ⟨_, Zd hh, by rw [toList_modify]; exact hE.setVal' i hx⟩
       refine ⟨_, ?_, rfl, st⟩
       have hf2 : xs.findIdx? (fun e => (e.born : Int) == (n : Int)) = some i := by
        obtain ⟨xl⟩ := xs
        rw [List.findIdx?_toArray]
        exact (JH hE).symm.trans hf
       have hf3 : xs.findIdx? (fun e => (e.born : Int) == Int.ofNat n) = some i := hf2
       simp only [Instr.entryStore, Sem.run_bind, hM', zV hh, Result.andThen_ok, e2, asInt, asIntOf, Sem.run_pure, hf3, ZL hh Zy]
     · simp at h
theorem Pd {t u : TypeId} {m k : Operand} {kt e : TypeId} {b : KT} {rest : List TypeId} {ty : TypeId} (hu : P.underlying t = some (.map kt e)) (hb : Zp P kt = some b) (hR : Rel P β s.get w)
 (hm : VRel β (ρ m) (ρ' m)) (hk : VRel β (ρ k) (ρ' k)) (h : zl ρ s (.bdel b m k) = some (v, s')) :
 ∃ v' w', (Builtin.delete_ (t :: rest).toArray ty #[ρ' m, ρ' k]).run P w = .ok v' w' ∧ VRel β v v' ∧ Step P β s.get s.next w β s'.get s'.next w' := by
 simp only [zl] at h
 cases hM : ρ m <;> rw [hM] at h hm <;> try (simp only [reduceCtorEq] at h; done)
 rename_i r0
 cases r0 with
 | none => simp at h
 | some r =>
  cases hg : s.get r with
  | none => simp [hg] at h
  | some ob =>
   cases ob <;> simp only [hg, reduceCtorEq] at h
   rename_i es clock
   by_cases hik : isKey b (ρ k) = true
   · simp only [hik, if_true] at h
     cases hf : YU b (ρ k) es 0 with
     | none => simp [hf] at h
     | some res =>
      obtain ⟨loc, xs, hl, e1, e2, hh, hE, hres⟩ := Ky (m := m) hb hR hm hk hg hik hf
      rcases hres with ⟨rfl, hfk⟩ | ⟨j, en, xn, rfl, hfk, hxj, hej, hkey, hborn, hval⟩
      · simp only [hf] at h
        split at h
        · rename_i s1 hs1
          simp only [z2, Prod.mk.injEq] at h
          obtain ⟨rfl, rfl⟩ := h
          have st := Yy (O := .map xs clock) hR hs1 hg rfl rfl hl ⟨_, Zd hh, hE⟩
          refine ⟨_, _, ?_, .undef, st⟩
          simp only [Builtin.delete_, Sem.run_bind, zc hu, Result.andThen_ok, e1, e2, zV hh, ZA hb hik, hfk, ZL hh Zy, Sem.run_pure, List.getElem?_toArray, List.getElem?_cons_zero, List.getElem?_cons_succ]
          rfl
        · simp at h
      · simp only [hf] at h
        split at h
        · rename_i s1 hs1
          simp only [z2, Prod.mk.injEq] at h
          obtain ⟨rfl, rfl⟩ := h
          have hj : j < xs.size := (Array.getElem?_eq_some_iff.1 hxj).1
          have st := Yy (O := .map (xs.eraseIdxIfInBounds j) clock) hR hs1 hg rfl rfl hl ⟨_, Zd hh, by
           have : (xs.eraseIdxIfInBounds j).toList = xs.toList.eraseIdx j := by simp [Array.eraseIdxIfInBounds, hj]
           rw [this]; exact hE.drop j⟩
          refine ⟨_, _, ?_, .undef, st⟩
          simp only [Builtin.delete_, Sem.run_bind, zc hu, Result.andThen_ok, e1, e2, zV hh, ZA hb hik, hfk, ZL hh Zy, Sem.run_pure, List.getElem?_toArray, List.getElem?_cons_zero, List.getElem?_cons_succ]
          rfl
        · simp at h
   · simp [hik] at h
theorem Pk {t : TypeId} {m : Operand} {kt e : TypeId} {rest : List TypeId} {ty : TypeId} (hu : P.underlying t = some (.map kt e)) (hR : Rel P β s.get w)
 (hm : VRel β (ρ m) (ρ' m)) (h : zl ρ s (.bclrM m) = some (v, s')) :
 ∃ v' w', (Builtin.clear_ (t :: rest).toArray ty #[ρ' m]).run P w = .ok v' w' ∧ VRel β v v' ∧ Step P β s.get s.next w β s'.get s'.next w' := by
 simp only [zl] at h
 generalize ρ m = M at hm h
 generalize hM' : ρ' m = M' at hm
 cases hm <;> try (simp only [reduceCtorEq] at h; done)
 · simp only [z2, Prod.mk.injEq] at h
   obtain ⟨rfl, rfl⟩ := h
   refine ⟨_, w, ?_, .undef, Step.refl hR⟩
   simp only [Builtin.clear_, Sem.run_bind, zc hu, Result.andThen_ok, List.getElem?_toArray, List.getElem?_cons_zero, Sem.run_pure]
   rfl
 · rename_i r loc hl
   cases hg : s.get r with
   | none => simp [hg] at h
   | some ob =>
    cases ob <;> simp only [hg, reduceCtorEq] at h
    rename_i es clock
    obtain ⟨l2, h1, xs, hh, hE⟩ := hR.obj r _ hg
    rw [hl] at h1; cases h1
    split at h
    · rename_i s1 hs1
      simp only [z2, Prod.mk.injEq] at h
      obtain ⟨rfl, rfl⟩ := h
      have st := Yy (O := .map #[] clock) hR hs1 hg rfl rfl hl ⟨_, Zd hh, trivial⟩
      refine ⟨_, _, ?_, .undef, st⟩
      simp only [Builtin.clear_, Sem.run_bind, zc hu, Result.andThen_ok, zV hh, ZL hh Zy, List.getElem?_toArray, List.getElem?_cons_zero, Sem.run_pure]
      rfl
    · simp at h
theorem XZ : ∀ (l : List Nat) (n : Nat), zO l n = true ↔ n ∈ l
 | [], n => by simp [zO]
 | x :: l, n => by
  simp only [zO, Bool.or_eq_true, XZ l n, List.mem_cons]
  constructor
  · rintro (h | h)
    · exact .inl (Nat.eq_of_beq_eq_true h).symm
    · exact .inr h
  · rintro (h | h)
    · subst h; exact .inl (Nat.beq_refl _)
    · exact .inr h
theorem Zt.filter {p : Nat → Bool} : ∀ {es : List z6} {xs : List MapEntry}, Zt β es xs → Zt β (es.filter fun e => p e.born) (xs.filter fun e => p e.born)
 | [], [], _ => trivial
 | e :: es, x :: xs, ⟨h1, h2, h3, h4⟩ => by
  rw [List.filter_cons, List.filter_cons, ← h2]
  split
  · exact ⟨h1, h2, h3, Zt.filter h4⟩
  · exact Zt.filter h4
 | [], _ :: _, h => h.elim
 | _ :: _, [], h => h.elim
theorem Zt.all {p : Nat → Bool} : ∀ {es : List z6} {xs : List MapEntry}, Zt β es xs → (es.all fun e => p e.born) = xs.all fun e => p e.born
 | [], [], _ => rfl
 | e :: es, x :: xs, ⟨h1, h2, h3, h4⟩ => by simp only [List.all_cons, Zt.all h4, h2]
 | [], _ :: _, h => h.elim
 | _ :: _, [], h => h.elim
theorem Rx {it : Operand} {ty : TypeId} (hR : Rel P β s.get w) (hi : VRel β (ρ it) (ρ' it)) (h : zl ρ s (.nxt it) = some (v, s')) :
 ∃ v' w', (Instr.next (ρ' it) false ty).run P w = .ok v' w' ∧ VRel β v v' ∧ Step P β s.get s.next w β s'.get s'.next w' := by
 simp only [zl] at h
 generalize ρ it = X at hi h
 generalize hX : ρ' it = X' at hi
 cases hi <;> try (simp only [reduceCtorEq] at h; done)
 rename_i r off loc hl
 cases off with
 | succ n => simp at h
 | zero =>
  cases hg : s.get r with
  | none => simp [hg] at h
  | some ob =>
   cases ob <;> simp only [hg, reduceCtorEq] at h
   rename_i m since seen last
   obtain ⟨l2, h1, h0, m', seen', hx, hs, hm⟩ := hR.obj r _ hg
   rw [hl] at h1; cases h1
   cases m with
   | none =>
    simp only [z2, Prod.mk.injEq] at h
    obtain ⟨rfl, rfl⟩ := h
    simp only at hm
    subst hm
    refine ⟨.tuple #[.bool false], w, ?_, .tuple (.cons (.bool _) .nil), Step.refl hR⟩
    simp only [Instr.next, Sem.run_bind, Nat.add_zero, h0, XD hx, Result.andThen_ok, Sem.run_pure]
   | some m =>
    obtain ⟨lm, hm1, hm2⟩ := hm
    subst hm2
    simp only at h
    cases hg2 : s.get m with
    | none => simp [hg2] at h
    | some ob2 =>
     cases ob2 <;> simp only [hg2, reduceCtorEq] at h
     rename_i es clock
     obtain ⟨l3, h3, xs, hx3, hE⟩ := hR.obj m _ hg2
     rw [hm1] at h3; cases h3
     split at h
     · cases h
     · rename_i hno
       have hseen : seen'.isEmpty = seen.isEmpty := by
        rw [← hs]; simp
       have hes : xs.isEmpty = es.isEmpty := by
        have := hE.length
        have e1 : xs.isEmpty = xs.toList.isEmpty := by cases xs; simp
        rw [e1]
        cases es <;> cases hxl : xs.toList <;> simp_all
       have hall : (xs.all fun e => decide (e.born ≥ last)) = es.all fun e => Nat.ble last e.born := by
        have := hE.all (p := fun n => Nat.ble last n)
        rw [this]
        rw [← Array.all_toList]
        congr 1
        funext e
        rw [Bool.eq_iff_iff]; simp [Nat.ble_eq]
       have hcond : ¬ ((!seen'.isEmpty && !xs.isEmpty && xs.all fun e => decide (e.born ≥ last)) = true) := by rw [hseen, hes, hall]; exact hno
       have hcontains : ∀ n, seen'.contains n = zO seen n := by
        intro n
        rw [Bool.eq_iff_iff, XZ, ← hs]
        simp
       have hleft : (xs.filter fun e => !seen'.contains e.born).toList = xs.toList.filter fun e => !zO seen e.born := by
        rw [Array.toList_filter]
        congr 1
        funext e
        rw [hcontains]
       have hrel := hE.filter (p := fun n => !zO seen n)
       split at h
       · rename_i hnil
         simp only [z2, Prod.mk.injEq] at h
         obtain ⟨rfl, rfl⟩ := h
         rw [hnil] at hrel
         have hl0 : (xs.filter fun e => !seen'.contains e.born) = #[] := by
          apply Array.toList_inj.1
          rw [hleft]
          cases hq : xs.toList.filter fun e => !zO seen e.born with
          | nil => rfl
          | cons a b => rw [hq] at hrel; exact hrel.elim
         refine ⟨.tuple #[.bool false], w, ?_, .tuple (.cons (.bool _) .nil), Step.refl hR⟩
         simp only [Instr.next, Sem.run_bind, Nat.add_zero, h0, hX, XD hx, zV hx3, Result.andThen_ok, hcond, z3, if_false, hl0]
         simp [Question.forced]
       · rename_i e hone
         split at h
         · rename_i hlt
           have hlt := YO hlt
           split at h
           · rename_i s1 hs1
             simp only [z2, Prod.mk.injEq] at h
             obtain ⟨rfl, rfl⟩ := h
             rw [hone] at hrel
             obtain ⟨x, hl1, hxe⟩ : ∃ x, (xs.filter fun e => !seen'.contains e.born) = #[x] ∧ Zt β [e] [x] := by
              cases hq : xs.toList.filter fun e => !zO seen e.born with
              | nil => rw [hq] at hrel; exact hrel.elim
              | cons a b =>
               rw [hq] at hrel
               obtain ⟨g1, g2, g3, g4⟩ := hrel
               cases b with
               | nil => exact ⟨a, by apply Array.toList_inj.1; rw [hleft, hq], g1, g2, g3, trivial⟩
               | cons c d => exact g4.elim
             obtain ⟨⟨q1, q2⟩, q3, q4, _⟩ := hxe
             have hborn : x.born < since := by rw [← q3]; exact hlt
             have st := Yy (O := .mapIter (some lm.blk) since (seen'.push x.born) clock) hR hs1 hg rfl rfl hl ⟨h0, some lm.blk, _, Zd hx, by simp [hs, q3], lm, hm1, rfl⟩
             refine ⟨.tuple #[.bool true, x.key, x.val], _, ?_, .tuple (.cons (.bool _) (.cons (q1 ▸ VRel.closedV q2) (.cons q4 .nil))), st⟩
             simp only [Instr.next, Sem.run_bind, Nat.add_zero, h0, hX, XD hx, zV hx3, Result.andThen_ok, hcond, z3, if_false, hl1]
             have f1 : (#[x].filter fun e => decide (e.born < since)) = #[x] := by simp [hborn]
             have f2 : (#[x].filter fun e => decide (e.born ≥ since)) = #[] := by simp; omega
             simp only [f1, f2]
             simp [Question.forced, ZL hx (fun _ _ _ h => by cases h)]
           · simp at h
         · simp at h
       · cases h
end
end Go.Dx
