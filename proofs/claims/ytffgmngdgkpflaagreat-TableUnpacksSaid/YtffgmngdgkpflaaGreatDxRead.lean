/- A part. -/
import Derived.DeepKeys3
import Derived.Test.YtffgmngdgkpflaaGreatDxOps2
import Derived.Laws.Cells
import Derived.Laws.BytesString
import Derived.Laws.BytesArg
import Derived.Lib.ConvBytes
set_option linter.unusedVariables false
set_option linter.unusedSimpArgs false
set_option linter.unusedSectionVars false
namespace Go.Dx
open Go
section
variable {P : Program} {β : Emb} {w : World} {ρ ρ' : Operand → Value} {v : Value} {s : DS}
theorem Nf {c : Cells} {b o : Nat} (h : ∀ i v, c.get i = some v → ∃ v', w.cell? ⟨b, o + i, none⟩ = some v' ∧ VRel β v v') :
 ∀ (n off : Nat) (l : List Value), c.take off n = some l → ∃ l', l'.length = n ∧ LRel β l l' ∧ ∀ j u, l'[j]? = some u → w.cell? ⟨b, o + (off + j), none⟩ = some u := by
 intro n
 induction n with
 | zero => intro off l hl; simp [Cells.take] at hl; subst hl; exact ⟨[], rfl, .nil, by simp⟩
 | succ n ih =>
  intro off l hl
  unfold Cells.take at hl
  cases hg : c.get off with
  | none => simp [hg] at hl
  | some x =>
   cases ht : c.take (off + 1) n with
   | none => simp [hg, ht] at hl
   | some r =>
    simp only [hg, ht, z2] at hl
    subst hl
    obtain ⟨x', h1, h2⟩ := h off x hg
    obtain ⟨r', h3, h4, h5⟩ := ih (off + 1) r ht
    refine ⟨x' :: r', by simp [h3], .cons h2 h4, ?_⟩
    intro j u hu
    cases j with
    | zero => simp at hu; subst hu; simpa using h1
    | succ j =>
     have := h5 j u (by simpa using hu)
     rwa [show off + 1 + j = off + (j + 1) from by omega] at this
theorem W0 (hR : Rel P β s.get w) {k off n : Nat} {l : List Value} (h : s.read k off n = some l) {loc : Loc} (hl : β k = some loc) :
 ∃ l', l'.length = n ∧ LRel β l l' ∧ (loadCells ⟨loc.blk, loc.off + off, none⟩ n).run P w = .ok l'.toArray w ∧
  ∀ j u, l'[j]? = some u → w.cell? ((⟨loc.blk, loc.off + off, none⟩ : Addr).add j) = some u := by
 unfold DS.read at h
 split at h
 · rename_i c ro hg
   obtain ⟨l2, h1, ho⟩ := hR.obj k _ hg
   rw [hl] at h1
   cases h1
   obtain ⟨l', e1, e2, e3⟩ := Nf ho.2.2.1 n off l h
   have e4 : ∀ j u, l'[j]? = some u → w.cell? ((⟨loc.blk, loc.off + off, none⟩ : Addr).add j) = some u := by
    intro j u hu
    rw [Addr.add_lit, Nat.add_assoc]
    exact e3 j u hu
   refine ⟨l', e1, e2, ?_, e4⟩
   have := run_loadCells_list (P := P) w ⟨loc.blk, loc.off + off, none⟩ l' e4
   rwa [e1] at this
 · cases h
theorem KV : ∀ {l l' : List Value} {b : List UInt8}, LRel β l l' → XE l = some b →
 ∃ ns : List Int, l' = ns.map (Value.int .u8) ∧ b = ns.map fun n => UInt8.ofNat n.toNat
 | _, _, b, .nil, h => by simp [XE] at h; subst h; exact ⟨[], rfl, rfl⟩
 | _, _, b, @LRel.cons _ x x' l l' hx t, h => by
  cases hx
  case int k n =>
   cases k <;> simp only [XE, reduceCtorEq] at h
   cases hb : XE l with
   | none => simp [hb] at h
   | some b' =>
    simp only [hb, z2] at h
    subst h
    obtain ⟨ns, e1, e2⟩ := KV t hb
    exact ⟨n :: ns, by simp [e1], by simp [e2]⟩
  all_goals simp [XE] at h
theorem Vk {a : Addr} {len cap : Nat} {l l' : List Value} {b : List UInt8} (hl : LRel β l l') (hb : XE l = some b) (hr : (loadCells a len).run P w = .ok l'.toArray w) :
 (Conv.bytesToString (.slice (some a) len cap)).run P w = .ok (.string ⟨⟨b⟩⟩) w := by
 obtain ⟨ns, e1, e2⟩ := KV hl hb
 subst e1
 rw [run_bytesToString w a len cap ns hr, foldl_push_bytes, e2]
 congr 2
 apply ByteArray.ext
 show (#[] : Array UInt8) ++ _ = _
 simp
theorem Fl {β : Emb} : ∀ {ks : List IntKind} {l l' : List Value}, Yi ks l = true → LRel β l l' → l' = l
 | [], _, _, _, .nil => rfl
 | _ :: _, _, _, _, .nil => rfl
 | [], v :: l, _, h, .cons h1 h2 => by simp [Yi] at h
 | q :: ks, v :: l, _, h, .cons h1 h2 => by
  cases h1 <;> simp only [Yi, Bool.and_eq_true, z3, false_and] at h
  rw [Fl h.2.2 h2]
theorem KF {b : KT} {k k' : Value} (hk : isKey b k = true) (h : VRel β k k') : k' = k := by
 cases b <;> cases h <;> simp [isKey] at hk <;> try rfl
 rename_i ks a a' h
 obtain ⟨a⟩ := a
 obtain ⟨a'⟩ := a'
 simp only at h hk
 rw [Fl hk h]
theorem Tk {q : IntKind} {n : Int} (h : Rx q n = true) : (Lit.int q n).wf = true := by
 cases q <;> simp [Rx, Lit.wf, IntKind.min, IntKind.max, IntKind.signed, IntKind.bits] at h ⊢ <;> omega
theorem Xy {q : IntKind} {ks : List IntKind} {l : List Value} (h : Yi (q :: ks) l = true) : ∃ n r, l = .int q n :: r ∧ Rx q n = true ∧ Yi ks r = true := by
 cases l with
 | nil => simp [Yi] at h
 | cons v r =>
  cases v <;> simp only [Yi, Bool.and_eq_true, z3, decide_eq_true_eq] at h
  obtain ⟨rfl, h1, h2⟩ := h
  exact ⟨_, _, rfl, h1, h2⟩
theorem W2 {l : List Value} (h : Yi [] l = true) : l = [] := by
 cases l with
 | nil => rfl
 | cons _ _ => simp [Yi] at h
theorem XN : ∀ {ks : List IntKind} {l : List Value}, Yi ks l = true → l.length = ks.length
 | [], _, h => by rw [W2 h]; rfl
 | q :: ks, _, h => by obtain ⟨n, r, rfl, _, h2⟩ := Xy h; simp [XN h2]
structure Cq (P : Program) (t : TypeId) (ks : List IntKind) : Prop where
 desc : ∃ d, P.underlying t = some d ∧ ∀ (a : Array Value) (v : Value), Instr.sameNow d (.agg a) v = none
 check : ∀ (e : Bool) (a : Array Value) (u : World), Yi ks a.toList = true → (Instr.checkKey e 10000 t (.agg a)).run P u = .ok () u
 same : ∀ (a b : Array Value) (c : Bool) (u : World), Yi ks a.toList = true → closedA b.toList = true → WI a.toList b.toList = some c → (Op.equal t (.agg a) (.agg b)).run P u = .ok c u
theorem Jq : ∀ {ks : List IntKind} {l : List Value}, Yi ks l = true → closedA l = true
 | [], _, h => by rw [W2 h]; rfl
 | q :: ks, _, h => by
  obtain ⟨n, r, rfl, _, h2⟩ := Xy h
  simp [closedA, closedV, Jq h2]
theorem KN {q : IntKind} {n : Int} {r y : List Value} {c : Bool} (h : WI (.int q n :: r) y = some c) : ∃ m r', y = .int q m :: r' ∧ ((n = m ∧ WI r r' = some c) ∨ (n ≠ m ∧ c = false)) := by
 cases y with
 | nil => simp [WI] at h
 | cons w r' =>
  cases w <;> try (simp [WI] at h; done)
  rename_i k m
  simp only [WI] at h
  by_cases e1 : q = k
  · subst e1
    simp only [if_true] at h
    by_cases e2 : n = m
    · simp only [e2, if_true] at h
      exact ⟨m, r', rfl, .inl ⟨e2, h⟩⟩
    · simp only [e2, if_false, z2] at h
      exact ⟨m, r', rfl, .inr ⟨e2, h.symm⟩⟩
  · simp [e1] at h
theorem Jr : ∀ {l : List Value} {i : Nat} {x : Value} {r : List Value}, l.drop i = x :: r → getN l i = some x ∧ l.drop (i + 1) = r
 | [], i, _, _, h => by simp at h
 | y :: l, 0, _, _, h => by simp at h; obtain ⟨rfl, rfl⟩ := h; exact ⟨rfl, rfl⟩
 | y :: l, i + 1, x, r, h => by
  have := Jr (l := l) (i := i) (by simpa using h)
  exact ⟨this.1, by simpa using this.2⟩
theorem Q2 {f : Field} {fs : List Field} {pos : Nat} {ks : List IntKind} (h : WG P (f :: fs) pos = some ks) : ∃ q l, ks = q :: l ∧ f.name ≠ "_" ∧ f.offset = pos ∧ P.cellsOf f.type = 1 ∧ P.underlying f.type = some (.int q) ∧ WG P fs (pos + 1) = some l := by
 unfold WG at h
 split at h
 · rename_i c
   simp only [Bool.and_eq_true, bne_iff_ne, ne_eq] at c
   split at h
   · rename_i q l h1 h2
     cases h
     exact ⟨q, l, rfl, c.1, Nat.eq_of_beq_eq_true c.2.1, Nat.eq_of_beq_eq_true c.2.2, h1, h2⟩
   · cases h
 · cases h
theorem Vg : ∀ {fs : List Field} {f pos : Nat} {ks : List IntKind} {l : List (Nat × Nat × ET)} {a b : List Value} {c : Bool}, WG P fs pos = some ks → Y9 P f fs = some l → Yi ks (a.drop pos) = true →
 WI (a.drop pos) (b.drop pos) = some c → eqFields l a b = some c
 | [], f, pos, ks, l, a, b, c, h1, h2, h3, h4 => by
  cases f with
  | zero => simp [Y9] at h2
  | succ f =>
  simp only [Y9, z2] at h2
  simp only [WG, z2] at h1
  subst h1 h2
  rw [W2 h3] at h4
  cases hb : b.drop pos with
  | nil => rw [hb] at h4; simpa [WI, eqFields] using h4
  | cons _ _ => rw [hb] at h4; simp [WI] at h4
 | x :: fs, f, pos, ks, l, a, b, c, h1, h2, h3, h4 => by
  obtain ⟨q, ks', rfl, hn, rfl, hc, hu, hr⟩ := Q2 h1
  cases f with
  | zero => simp [Y9] at h2
  | succ f =>
  simp only [Y9] at h2
  split at h2
  · cases h2
  split at h2
  rotate_left
  · cases h2
  rename_i s e l' e1 e2 e3
  cases h2
  have he : e = .one .int := by
   cases f with
   | zero => simp [Q0] at e2
   | succ f => unfold Q0 at e2; rw [hu] at e2; simpa using e2.symm
  subst he
  obtain ⟨n, r, hd, _, h5⟩ := Xy h3
  rw [hd] at h4
  obtain ⟨m, r', hb, h6⟩ := KN h4
  obtain ⟨g1, g2⟩ := Jr hd
  obtain ⟨g3, g4⟩ := Jr hb
  unfold eqFields
  simp only [g1, g3, ZS, if_true]
  rcases h6 with ⟨rfl, h6⟩ | ⟨hne, rfl⟩
  · simp only [decide_true]
    exact Vg hr e3 (by rw [g2]; exact h5) (by rw [g2, g4]; exact h6)
  · simp [hne]
theorem V2 {q : IntKind} : ∀ {n : Nat} {a b : List Value} {c : Bool}, Yi (List.replicate n q) a = true → WI a b = some c → Xk (.one .int) 1 a b n = some c
 | 0, a, b, c, h1, h2 => by
  rw [W2 h1] at h2
  cases b with
  | nil => simpa [WI, Xk] using h2
  | cons _ _ => simp [WI] at h2
 | n + 1, a, b, c, h1, h2 => by
  obtain ⟨x, r, rfl, _, h5⟩ := Xy h1
  obtain ⟨m, r', rfl, h6⟩ := KN h2
  unfold Xk
  simp only [ZS, if_true]
  rcases h6 with ⟨rfl, h6⟩ | ⟨hne, rfl⟩
  · simp only [decide_true]
    exact V2 h5 h6
  · simp [hne]
theorem JU {d : Nat} {cs : List Value} : ∀ {fs : List Field} {pos : Nat} {ks : List IntKind}, WG P fs pos = some ks → Yi ks (cs.drop pos) = true →
 ∃ ls, fs.mapM (fun f => P.keyLits (d + 1) f.type ((cs.drop f.offset).take (P.cellsOf f.type))) = some ls
 | [], _, _, _, _ => ⟨[], rfl⟩
 | x :: fs, pos, ks, h1, h3 => by
  obtain ⟨q, ks', rfl, hn, rfl, hc, hu, hr⟩ := Q2 h1
  obtain ⟨n, r, hd, hw, h5⟩ := Xy h3
  obtain ⟨g1, g2⟩ := Jr hd
  obtain ⟨ls, hls⟩ := JU (d := d) hr (by rw [g2]; exact h5)
  refine ⟨[.int q n] :: ls, ?_⟩
  have e1 : P.keyLits (d + 1) x.type ((cs.drop x.offset).take (P.cellsOf x.type)) = some [.int q n] := by
   rw [hc, hd]
   unfold Program.keyLits
   simp [hu, Tk hw]
  simp [List.mapM_cons, e1, hls]
theorem J0 : ∀ {fs : List Field} {pos : Nat} {ks : List IntKind}, WG P fs pos = some ks → ∀ f, f ∈ fs → f.name ≠ "_"
 | [], _, _, _, f, hf => by cases hf
 | x :: fs, pos, ks, h, f, hf => by
  obtain ⟨q, ks', rfl, hn, _, _, _, hr⟩ := Q2 h
  rcases List.mem_cons.1 hf with e | hf
  · rw [e]; exact hn
  · exact J0 hr f hf
theorem F4 {d n : Nat} {e : TypeId} {q : IntKind} (hu : P.underlying e = some (.int q)) (hc : P.cellsOf e = 1) {cs : List Value} (hk : Yi (List.replicate n q) cs = true) :
 ∃ ls, (List.range n).mapM (fun i => P.keyLits (d + 1) e ((cs.drop (i * P.cellsOf e)).take (P.cellsOf e))) = some ls := by
 have key : ∀ (m : Nat) (cs : List Value) (base : List Value), Yi (List.replicate m q) cs = true → ∃ ls, ((List.range m).map (· + base.length)).mapM (fun i => P.keyLits (d + 1) e (((base ++ cs).drop (i * P.cellsOf e)).take (P.cellsOf e))) = some ls := by
  intro m
  induction m with
  | zero => exact fun _ _ _ => ⟨[], rfl⟩
  | succ m ih =>
   intro cs base h
   obtain ⟨x, r, rfl, hw, h5⟩ := Xy h
   obtain ⟨ls, hls⟩ := ih r (base ++ [.int q x]) h5
   refine ⟨[.int q x] :: ls, ?_⟩
   have e1 : P.keyLits (d + 1) e (((base ++ .int q x :: r).drop (base.length * P.cellsOf e)).take (P.cellsOf e)) = some [.int q x] := by
    rw [hc, Nat.mul_one, List.drop_left]
    unfold Program.keyLits
    simp [hu, Tk hw]
   rw [List.range_succ_eq_map, z4, List.map_map, List.mapM_cons, Nat.zero_add, e1]
   have e2 : (List.range m).map ((· + base.length) ∘ Nat.succ) = (List.range m).map (· + (base ++ [Value.int q x]).length) := by
    refine List.map_congr_left fun i _ => ?_
    simp only [Function.comp, List.length_append, List.length_cons, List.length_nil]; omega
   rw [e2]
   have e3 : base ++ Value.int q x :: r = (base ++ [.int q x]) ++ r := by simp
   rw [e3, hls]
   rfl
 obtain ⟨ls, h⟩ := key n cs [] hk
 refine ⟨ls, ?_⟩
 simpa using h
theorem TL {t : TypeId} {et : ET} {ks : List IntKind} (h3 : Q0 P 60 t = some et) (hE : ∀ (a b : List Value) (c : Bool), Yi ks a = true → WI a b = some c → YQ et (.agg ⟨a⟩) (.agg ⟨b⟩) = some c)
 (a b : Array Value) (c : Bool) (u : World) (ha : Yi ks a.toList = true) (hb : closedA b.toList = true) (hq : WI a.toList b.toList = some c) : (Op.equal t (.agg a) (.agg b)).run P u = .ok c u := by
 obtain ⟨a⟩ := a
 obtain ⟨b⟩ := b
 exact (DG (P := P) (β := fun _ => none) (w := u) 60).1 t et h3 9940 _ _ _ _ c (hE a b c ha hq) (VRel.closedV (by simpa [closedV] using Jq ha)) (VRel.closedV (by simpa [closedV] using hb))
theorem TM {t : TypeId} {ks : List IntKind} (h : SI P t = some ks) : Cq P t ks := by
 unfold SI at h
 split at h
 · rename_i fs hu
   split at h
   · rename_i ks' hk
     split at h
     · rename_i hc
       cases h
       simp only [Bool.and_eq_true, Option.isSome_iff_exists] at hc
       obtain ⟨h1, h2, et, h3⟩ := hc
       have h1 := Nat.eq_of_beq_eq_true h1
       refine ⟨⟨_, hu, fun _ _ => rfl⟩, fun e a u ha => ?_, TL h3 fun a b c ha hq => ?_⟩
       · obtain ⟨ls, hls⟩ := JU (P := P) (d := 0) (cs := a.toList) hk (by simpa using ha)
         refine run_checkKey_deep e 9997 3 t h2 u 2 (.agg a) ls.flatten ?_ ?_
         · simp only [Value.formed, hu, beq_iff_eq]
           rw [h1, ← XN ha]; simp
         · unfold Program.keyLits
           simp only [hu, Value.cells]
           rw [if_pos ⟨by rw [h1]; exact XN ha, by
            rw [← Array.all_toList, List.all_eq_true]
            intro f hf
            simpa using J0 hk f hf⟩, hls]
           rfl
       · unfold Q0 at h3
         rw [hu] at h3
         simp only at h3
         split at h3
         · cases h3
         split at h3
         · rename_i l hl
           cases h3
           unfold YQ
           exact Vg (f := 59) (pos := 0) hk hl (by simpa using ha) (by simpa using hq)
         · cases h3
     · cases h
   · cases h
 · rename_i n e hu
   split at h
   · rename_i q hq0
     split at h
     · rename_i hc
       cases h
       simp only [Bool.and_eq_true, Option.isSome_iff_exists] at hc
       obtain ⟨h0, h1, h2, et, h3⟩ := hc
       have h0 := Nat.eq_of_beq_eq_true h0
       have h1 := Nat.eq_of_beq_eq_true h1
       refine ⟨⟨_, hu, fun _ _ => rfl⟩, fun e' a u ha => ?_, TL h3 fun a b c ha hq => ?_⟩
       · obtain ⟨ls, hls⟩ := F4 (P := P) (d := 0) hq0 h1 ha
         refine run_checkKey_deep e' 9997 3 t h2 u 2 (.agg a) ls.flatten ?_ ?_
         · simp only [Value.formed, hu, beq_iff_eq]
           have := XN ha
           simp at this
           rw [h0]; exact this
         · unfold Program.keyLits
           simp only [hu, Value.cells]
           rw [if_pos (by rw [h0]; have := XN ha; simpa using this), hls]
           rfl
       · unfold Q0 at h3
         rw [hu] at h3
         simp only at h3
         split at h3
         · rename_i s x hs hx
           have hx' : x = .one .int := by unfold Q0 at hx; rw [hq0] at hx; simpa using hx.symm
           subst hx'
           simp only at h3
           split at h3
           · rename_i hb
             cases h3
             have hb := Nat.eq_of_beq_eq_true hb
             subst hb
             unfold YQ
             exact V2 ha hq
           · cases h3
         · cases h3
     · cases h
   · cases h
 · cases h
theorem WX {t : TypeId} {b : KT} (h : YP P t = some b) : (b = .txt ∧ P.underlying t = some .string) ∨ (b = .num ∧ ∃ k, P.underlying t = some (.int k)) ∨ (∃ ks, b = .agg ks ∧ Cq P t ks) := by
 unfold YP at h
 split at h
 · rename_i hu; cases h; exact .inl ⟨rfl, hu⟩
 · rename_i k hu; cases h; exact .inr (.inl ⟨rfl, k, hu⟩)
 · split at h
   · rename_i ks hk; cases h; exact .inr (.inr ⟨ks, rfl, TM hk⟩)
   · cases h
 · cases h
theorem Kx {t : TypeId} {b : KT} (h : YP P t = some b) : ∃ d, P.underlying t = some d := by
 rcases WX h with ⟨_, h⟩ | ⟨_, k, h⟩ | ⟨ks, _, h⟩
 · exact ⟨_, h⟩
 · exact ⟨_, h⟩
 · obtain ⟨d, h, _⟩ := h.desc; exact ⟨d, h⟩
theorem Ki {ks : List IntKind} {k : Value} (h : isKey (.agg ks) k = true) : ∃ a : Array Value, k = .agg a ∧ Yi ks a.toList = true := by
 cases k <;> simp [isKey] at h
 exact ⟨_, rfl, h⟩
theorem Xc {t : TypeId} {b : KT} {e : Bool} {k : Value} (ht : YP P t = some b) (hik : isKey b k = true) {w : World} : (Instr.checkKey e 10000 t k).run P w = .ok () w := by
 have : ∀ n, (∃ s, P.underlying t = some .string ∨ P.underlying t = some (.int s)) → (Instr.checkKey e (n + 1) t k).run P w = .ok () w := by
  intro n
  rintro ⟨s, hu | hu⟩
  · unfold Instr.checkKey
    simp only [Sem.run_bind, zv hu, Result.andThen_ok]; rfl
  · unfold Instr.checkKey
    simp only [Sem.run_bind, zv hu, Result.andThen_ok]; rfl
 rcases WX ht with ⟨_, hu⟩ | ⟨_, kk, hu⟩ | ⟨ks, rfl, hA⟩
 · exact this 9999 ⟨.i8, .inl hu⟩
 · exact this 9999 ⟨kk, .inr hu⟩
 · obtain ⟨a, rfl, h2⟩ := Ki hik
   exact hA.check e a w h2
theorem VY {t : TypeId} {b : KT} {d : TypeDesc} {k : Value} (ht : YP P t = some b) (hnb : ∀ ks, b ≠ .agg ks) (hd : P.underlying t = some d) : ∀ {es : List Yo} {xs : List MapEntry} {i : Nat} {r : Option (Nat × Yo)},
 YT β es xs → Wl b k es i = some r →
 (r = none ∧ Instr.findNow d k xs i = some none) ∨ (∃ j e x, r = some (i + j, e) ∧ Instr.findNow d k xs i = some (some (i + j, x.val)) ∧ es[j]? = some e ∧ xs[j]? = some x ∧ e.key = x.key ∧ e.born = x.born ∧ VRel β e.val x.val ∧ Xh b k e.key = some true)
 | [], [], i, r, _, h => by simp [Wl] at h; subst h; exact .inl ⟨rfl, rfl⟩
 | [], _ :: _, _, _, hE, _ => hE.elim
 | _ :: _, [], _, _, hE, _ => hE.elim
 | e :: es, x :: xs, i, r, ⟨⟨hk, hkc⟩, hb, hv, hE⟩, h => by
  have hsame : ∀ c, Xh b k e.key = some c → Instr.sameNow d k x.key = some c := by
   intro c hc
   rw [← hk]
   rcases WX ht with ⟨rfl, hu⟩ | ⟨rfl, kk, hu⟩ | ⟨ks, rfl, _⟩
   · rw [hu] at hd; cases hd
     generalize e.key = K at hc ⊢
     cases k <;> try (simp [Xh] at hc; done)
     cases K <;> try (simp [Xh] at hc; done)
     simp only [Xh, z2] at hc
     subst hc
     simp only [Instr.sameNow, Wo, ← toList_data, ← beq_toListBytes]
   · rw [hu] at hd; cases hd
     generalize e.key = K at hc ⊢
     cases k <;> try (simp [Xh] at hc; done)
     cases K <;> try (simp [Xh] at hc; done)
     rename_i k1 a k2 b2
     simp only [Xh] at hc
     by_cases e' : k1 = k2
     · simp only [e', if_true, z2] at hc
       subst hc
       simp only [Instr.sameNow, e', if_true]
       rfl
     · simp [e'] at hc
   · exact absurd rfl (hnb ks)
  unfold Wl at h
  cases hc : Xh b k e.key with
  | none => simp [hc] at h
  | some c =>
   have h1 := hsame c hc
   simp only [hc] at h
   cases c with
   | true =>
    simp only [z2] at h
    subst h
    refine .inr ⟨0, e, x, rfl, ?_, rfl, rfl, hk, hb, hv, hc⟩
    simp [Instr.findNow, h1]
   | false =>
    simp only at h
    rcases VY ht hnb hd hE h with ⟨e1, e2⟩ | ⟨j, e0, x0, e1, e2, e3, e4, e5⟩
    · exact .inl ⟨e1, by simp [Instr.findNow, h1, e2]⟩
    · refine .inr ⟨j + 1, e0, x0, by rw [e1]; congr 2; omega, ?_, by simpa using e3, by simpa using e4, e5⟩
      simp only [Instr.findNow, h1, e2]
      congr 3
      omega
theorem JW {t : TypeId} {k : Value} {d : TypeDesc} (hd : P.underlying t = some d) {es : List MapEntry} {r : Option (Nat × Value)} (h : Instr.findNow d k es 0 = some r) :
 (Instr.findKey t k es).run P w = .ok r w := by
 simp only [Instr.findKey, Sem.run_bind, zv hd, Result.andThen_ok, h, Sem.run_pure]
theorem JX {t : TypeId} {ks : List IntKind} {a : Array Value} (hA : Cq P t ks) (ha : Yi ks a.toList = true) : ∀ {es : List Yo} {xs : List MapEntry} {i : Nat} {r : Option (Nat × Yo)},
 YT β es xs → Wl (.agg ks) (.agg a) es i = some r →
 (r = none ∧ ∀ u, (Instr.findAsking t (.agg a) xs i).run P u = .ok none u) ∨ (∃ j e x, r = some (i + j, e) ∧ (∀ u, (Instr.findAsking t (.agg a) xs i).run P u = .ok (some (i + j, x.val)) u) ∧ es[j]? = some e ∧ xs[j]? = some x ∧ e.key = x.key ∧ e.born = x.born ∧ VRel β e.val x.val ∧ Xh (.agg ks) (.agg a) e.key = some true)
 | [], [], i, r, _, h => by simp [Wl] at h; subst h; exact .inl ⟨rfl, fun _ => rfl⟩
 | [], _ :: _, _, _, hE, _ => hE.elim
 | _ :: _, [], _, _, hE, _ => hE.elim
 | e :: es, x :: xs, i, r, ⟨⟨hk, hkc⟩, hb, hv, hE⟩, h => by
  unfold Wl at h
  cases hc : Xh (.agg ks) (.agg a) e.key with
  | none => simp [hc] at h
  | some c =>
   have h1 : ∀ u, (Op.equal t (.agg a) x.key).run P u = .ok c u := by
    intro u
    rw [← hk]
    generalize e.key = K at hc hkc
    cases K <;> try (simp [Xh] at hc; done)
    rename_i K
    simp only [Xh] at hc
    exact hA.same a K c u ha (by obtain ⟨K⟩ := K; simpa [closedV] using hkc) hc
   simp only [hc] at h
   cases c with
   | true =>
    simp only [z2] at h
    subst h
    refine .inr ⟨0, e, x, rfl, fun u => ?_, rfl, rfl, hk, hb, hv, hc⟩
    simp [Instr.findAsking, h1]
   | false =>
    simp only at h
    rcases JX hA ha hE h with ⟨e1, e2⟩ | ⟨j, e0, x0, e1, e2, e3, e4, e5⟩
    · exact .inl ⟨e1, fun u => by simp [Instr.findAsking, h1, e2]⟩
    · refine .inr ⟨j + 1, e0, x0, by rw [e1]; congr 2; omega, fun u => ?_, by simpa using e3, by simpa using e4, e5⟩
      have : i + (j + 1) = i + 1 + j := by omega
      simp [Instr.findAsking, h1, e2, this]
theorem VZ {t : TypeId} {b : KT} {k : Value} (ht : YP P t = some b) (hik : isKey b k = true) {es : List Yo} {xs : List MapEntry} {r : Option (Nat × Yo)} (hE : YT β es xs) (h : Wl b k es 0 = some r) :
 (r = none ∧ ∀ u, (Instr.findKey t k xs).run P u = .ok none u) ∨ (∃ j e x, r = some (j, e) ∧ (∀ u, (Instr.findKey t k xs).run P u = .ok (some (j, x.val)) u) ∧ es[j]? = some e ∧ xs[j]? = some x ∧ e.key = x.key ∧ e.born = x.born ∧ VRel β e.val x.val ∧ Xh b k e.key = some true) := by
 by_cases hb : ∃ ks, b = .agg ks
 · obtain ⟨ks, rfl⟩ := hb
   obtain ⟨a, rfl, ha⟩ := Ki hik
   obtain ⟨ks', e1, hA⟩ : ∃ ks', KT.agg ks = .agg ks' ∧ Cq P t ks' := by
    rcases WX ht with ⟨h, _⟩ | ⟨h, _⟩ | ⟨ks', h1, h2⟩
    · cases h
    · cases h
    · exact ⟨ks', h1, h2⟩
   cases e1
   obtain ⟨d, hd, hn⟩ := hA.desc
   have hnow : ∀ ys, ys ≠ [] → Instr.findNow d (.agg a) ys 0 = none := fun ys hy => by
    cases ys with
    | nil => exact absurd rfl hy
    | cons y ys => simp [Instr.findNow, hn]
   have hrun : ∀ u, (Instr.findKey t (.agg a) xs).run P u = (Instr.findAsking t (.agg a) xs 0).run P u := fun u => by
    simp only [Instr.findKey, Sem.run_bind, zv hd, Result.andThen_ok]
    cases xs with
    | nil => simp [Instr.findNow, Instr.findAsking]
    | cons y ys => rw [hnow _ (by simp)]
   rcases JX hA ha hE h with ⟨e1, e2⟩ | ⟨j, e0, x0, e1, e2, e3⟩
   · exact .inl ⟨e1, fun u => by rw [hrun, e2]⟩
   · exact .inr ⟨j, e0, x0, by simpa using e1, fun u => by rw [hrun, e2]; simp, e3⟩
 · obtain ⟨d, hd⟩ := Kx ht
   rcases VY ht (fun ks e => hb ⟨ks, e⟩) hd hE h with ⟨e1, e2⟩ | ⟨j, e0, x0, e1, e2, e3⟩
   · exact .inl ⟨e1, fun u => JW hd e2⟩
   · refine .inr ⟨j, e0, x0, by simpa using e1, fun u => ?_, e3⟩
     have := JW (P := P) (w := u) hd e2
     simpa using this
theorem YT.length : ∀ {es : List Yo} {xs : List MapEntry}, YT β es xs → es.length = xs.length
 | [], [], _ => rfl
 | _ :: _, _ :: _, ⟨_, _, _, h⟩ => by simp [YT.length h]
 | [], _ :: _, h => h.elim
 | _ :: _, [], h => h.elim
theorem Yq {r : Nat} {xs : Array MapEntry} {c : Nat} (h : w.heap[r]? = some (.map xs c)) : (getObj r).run P w = .ok (.map xs c) w := by
 simp [getObj, Sem.run, h]
theorem QN {r : Nat} {m : Option Nat} {a : Nat} {b : Array Nat} {c : Nat} (h : w.heap[r]? = some (.mapIter m a b c)) : (getObj r).run P w = .ok (.mapIter m a b c) w := by
 simp [getObj, Sem.run, h]
theorem find?_rel {stamp : Nat} : ∀ {es : List Yo} {xs : List MapEntry}, YT β es xs → ∀ {e : Yo}, es.find? (fun e => Nat.beq e.born stamp) = some e →
 ∃ x, xs.find? (fun x => x.born == stamp) = some x ∧ VRel β e.key x.key ∧ VRel β e.val x.val
 | [], [], _, e, h => by simp at h
 | _ :: _, [], hE, _, _ => hE.elim
 | [], _ :: _, hE, _, _ => hE.elim
 | a :: es, x :: xs, ⟨⟨hk, hkc⟩, hb, hv, hE⟩, e, h => by
  rw [List.find?_cons] at h
  by_cases hq : a.born = stamp
  · have h1 : Nat.beq a.born stamp = true := by rw [hq]; exact Nat.beq_refl _
    rw [h1] at h
    simp only [z2] at h
    subst h
    exact ⟨x, by rw [List.find?_cons]; simp [← hb, hq], hk ▸ VRel.closedV hkc, hv⟩
  · have h1 : Nat.beq a.born stamp = false := by
     cases h' : Nat.beq a.born stamp with
     | false => rfl
     | true => exact absurd (Nat.eq_of_beq_eq_true h') hq
    rw [h1] at h
    obtain ⟨y, h2, h3⟩ := find?_rel hE h
    refine ⟨y, ?_, h3⟩
    rw [List.find?_cons]
    have : (x.born == stamp) = false := by rw [← hb]; simpa using hq
    rw [this]
    exact h2
theorem NR (o : Oper) (hR : Rel P β s.get w) (hρ : ∀ x ∈ o.op.operands, VRel β (ρ x) (ρ' x)) (hc : (ZJ P o).cls = .read) (h : zZ ρ s (ZJ P o) = some v) :
 ∃ v', (execOp ρ' o).run P w = .ok (.value v') w ∧ VRel β v v' := by
 obtain ⟨dst, op, type, pos, after, guard⟩ := o
 cases op
 case load t a =>
  have ha := hρ a (by simp [Op.operands])
  simp only [ZJ] at h
  cases hg : XG P t with
  | none => simp [hg, zZ] at h
  | some g =>
   simp only [hg, zZ] at h
   generalize ρ a = A at ha h
   generalize hA : ρ' a = A' at ha
   cases ha <;> simp only [reduceCtorEq] at h
   rename_i k off loc hl
   cases g with
   | none =>
    simp only at h
    split at h
    · rename_i c ro hk
      obtain ⟨l2, h1, ho⟩ := hR.obj k _ hk
      rw [hl] at h1; cases h1
      obtain ⟨v', hv1, hv2⟩ := ho.2.2.1 off v h
      refine ⟨v', ?_, hv2⟩
      have h1 := (Qm (w := w) hg).1
      simp only [Option.isSome_none] at h1
      simp [execOp, Instr.loadAt, hA, Instr.sureAddr, loadVar, h1, hv1]
    · cases h
   | some n =>
    simp only at h
    split at h
    · rename_i l hk
      simp only [z2] at h
      subst h
      obtain ⟨l', e1, e2, e3, _⟩ := W0 hR hk hl
      have h1 := Qm (w := w) hg
      simp only [Option.isSome_some] at h1
      refine ⟨.agg l'.toArray, ?_, .agg (by simpa using e2)⟩
      simp [execOp, Instr.loadAt, hA, Instr.sureAddr, loadVar, h1.1, Zs (h1.2 n rfl), e3]
    · cases h
 case convert src dst x =>
  have hx := hρ x (by simp [Op.operands])
  simp only [ZJ] at h hc
  split at h <;> rename_i hs hd
  · simp [zZ] at h
  · simp [zZ] at h
  · split at h <;> simp [zZ] at h
  · split at h
    · rename_i hu8
      simp only [zZ] at h
      generalize ρ x = X at hx h
      generalize hX : ρ' x = X' at hx
      have fin : ∀ (a : Option Addr) (l c : Nat) (y : Value), X' = .slice a l c → (Conv.bytesToString X').run P w = .ok y w → (execOp ρ' ⟨dst, .convert src dst x, type, pos, after, guard⟩).run P w = .ok (.value y) w := by
       intro a l c y e hy
       subst e
       simp only [execOp, Sem.run_bind, hX, run_convert_bytes_string w src _ _ a l c hs hu8 hd, hy, Result.andThen_ok, Sem.run_pure]
      cases hx <;> simp only [z2, reduceCtorEq] at h
      · subst h
        refine ⟨_, fin none _ _ (.string .empty) rfl (by simp [Conv.bytesToString]), ?_⟩
        exact .string _
      case' closed k off loc n c a' hl hn ha => skip
      case' opened k off loc n c a' hl hn hs' ha hx9 => skip
      all_goals
       cases hk : s.read k off n with
       | none => simp [hk] at h
       | some l =>
        simp only [hk] at h
        cases hb : XE l with
        | none => simp [hb] at h
        | some b =>
         simp only [hb, z2] at h
         subst h
         obtain ⟨l', e1, e2, e3, _⟩ := W0 hR hk hl
         refine ⟨_, fin _ _ _ _ rfl (Vk e2 hb ?_), .string _⟩
         rcases ha with ha | ha
         · have : n = 0 := by omega
           subst this
           have : l' = [] := List.eq_nil_of_length_eq_zero e1
           subst this
           simp [loadCells, loadCellsFrom]
         · rw [ha]; exact e3
    · simp [zZ] at h
  · (repeat' split at h) <;> simp [zZ] at h
  · simp [zZ] at h
 case lookup t m k ok =>
  have hm := hρ m (by simp [Op.operands])
  have hk := hρ k (by simp [Op.operands])
  simp only [ZJ] at h
  split at h
  · rename_i kt e hu
    split at h
    · rename_i b z hb hz
      split at h
      · rename_i hcz
        have hzero : (zeroValue e).run P w = .ok z w := by
         cases hi : P.info? e with
         | none => simp [hi] at hz
         | some i => simp only [hi, Option.bind_some] at hz; simp [zeroValue, typeInfo, hi, hz]
        simp only [zZ] at h
        generalize ρ m = M at hm h
        generalize hM : ρ' m = M' at hm
        have hfin : ∀ (xs : Array MapEntry) (r : Option (Nat × Value)), isKey b (ρ' k) = true → (M' = .map none ∧ xs = #[] ∨ ∃ b clock, M' = .map (some b) ∧ w.heap[b]? = some (.map xs clock)) → (Instr.findKey kt (ρ' k) xs.toList).run P w = .ok r w →
         (execOp ρ' ⟨dst, .lookup t m k ok, type, pos, after, guard⟩).run P w = .ok (.value (match r with
          | some (_, v) => if ok then .tuple #[v, .bool true] else v
          | none => if ok then .tuple #[z, .bool false] else z)) w := by
         intro xs r hik' h1 h3
         rcases h1 with ⟨rfl, rfl⟩ | ⟨bk, clock, rfl, hh⟩
         · simp only [execOp, Instr.lookup, Sem.run_bind, zv hu, Result.andThen_ok, hM, Xc hb hik']
           cases r with
           | none => cases ok <;> simp [hzero, h3]
           | some p => cases ok <;> simp [h3]
         · skip
           simp only [execOp, Instr.lookup, Sem.run_bind, zv hu, Result.andThen_ok, hM, Yq hh, Xc hb hik']
           cases r with
           | none => cases ok <;> simp [hzero, h3]
           | some p => cases ok <;> simp [h3]
        cases hm <;> simp only [reduceCtorEq] at h
        · by_cases hik : isKey b (ρ k) = true
          · simp only [hik, if_true, z2] at h
            subst h
            refine ⟨_, hfin #[] none (by rw [KF hik hk]; exact hik) (.inl ⟨rfl, rfl⟩) (by obtain ⟨d, hd⟩ := Kx hb; exact JW hd (by simp [Instr.findNow])), ?_⟩
            cases ok
            · exact VRel.closedV hcz
            · exact .tuple (.cons (VRel.closedV hcz) (.cons (.bool _) .nil))
          · simp [hik] at h
        · rename_i r loc hl
          cases hg : s.get r with
          | none => simp [hg] at h
          | some ob =>
           cases ob <;> simp only [hg, reduceCtorEq] at h
           rename_i es clock
           by_cases hik : isKey b (ρ k) = true
           · simp only [hik, if_true] at h
             obtain ⟨l2, h1, xs, hx, hE⟩ := hR.obj r _ hg
             rw [hl] at h1; cases h1
             have hkk := KF hik hk
             cases hf : Wl b (ρ k) es 0 with
             | none => simp [hf] at h
             | some res =>
              have hE2 := VZ hb hik hE hf
              rcases hE2 with ⟨rfl, e2⟩ | ⟨j, e0, x0, rfl, e2, _, _, _, _, hv, _⟩
              · simp only [hf, z2] at h
                subst h
                refine ⟨_, hfin xs none (by rw [hkk]; exact hik) (.inr ⟨_, _, rfl, hx⟩) (by rw [hkk]; exact e2 w), ?_⟩
                cases ok
                · exact VRel.closedV hcz
                · exact .tuple (.cons (VRel.closedV hcz) (.cons (.bool _) .nil))
              · simp only [hf, z2] at h
                subst h
                refine ⟨_, hfin xs (some (j, x0.val)) (by rw [hkk]; exact hik) (.inr ⟨_, _, rfl, hx⟩) (by rw [hkk]; exact e2 w), ?_⟩
                cases ok
                · exact hv
                · exact .tuple (.cons hv (.cons (.bool _) .nil))
           · simp [hik] at h
      · simp [zZ] at h
    · simp [zZ] at h
  · simp [zZ] at h
 case entry it =>
  have hi := hρ it (by simp [Op.operands])
  simp only [ZJ, zZ] at h
  generalize ρ it = X at hi h
  generalize hX : ρ' it = X' at hi
  cases hi <;> try (simp only [reduceCtorEq] at h; done)
  rename_i r off loc hl
  cases off with
  | succ n => simp at h
  | zero =>
   cases hg : s.get r with
   | none => simp [hg] at h
   | some ob =>
    cases ob <;> simp only [hg, reduceCtorEq] at h
    rename_i m since seen last
    cases m with
    | none => simp at h
    | some m =>
     cases seen with
     | nil => simp at h
     | cons stamp rest =>
      cases hg2 : s.get m with
      | none => simp [hg2] at h
      | some ob2 =>
       cases ob2 <;> simp only [hg2, reduceCtorEq] at h
       rename_i es clock
       obtain ⟨l2, h1, h0, m', seen', hx, hs, hm⟩ := hR.obj r _ hg
       rw [hl] at h1; cases h1
       obtain ⟨lm, hm1, hm2⟩ := hm
       subst hm2
       obtain ⟨l3, h3, xs, hx3, hE⟩ := hR.obj m _ hg2
       rw [hm1] at h3; cases h3
       by_cases hcl : Nat.beq clock last = true
       · simp only [hcl, if_true] at h
         have hcl' := Nat.eq_of_beq_eq_true hcl
         subst hcl'
         cases hf : es.find? (fun e => Nat.beq e.born stamp) with
         | none => simp [hf] at h
         | some e =>
          simp only [hf, z2] at h
          subst h
          obtain ⟨x, f1, f2, f3⟩ := find?_rel hE hf
          have hback : seen'.back? = some stamp := by
           have h0 : seen'.toList = (stamp :: rest).reverse := by rw [← hs, List.reverse_reverse]
           rw [← Array.getLast?_toList, h0]
           simp
          have hfa : xs.find? (fun x => x.born == stamp) = some x := by
           rw [← Array.find?_toList]; exact f1
          refine ⟨.tuple #[x.key, x.val], ?_, .tuple (.cons f2 (.cons f3 .nil))⟩
          · simp only [execOp, Instr.entry, Sem.run_bind, hX, Nat.add_zero, h0, QN hx, Result.andThen_ok, hback, Yq hx3, bne_self_eq_false, z3, if_false, hfa, Sem.run_pure]
       · simp [hcl] at h
 case call c =>
  obtain ⟨callee, args, ats⟩ := c
  cases callee with
  | value f => simp only [ZJ, zZ] at h; cases h
  | invoke r n => simp only [ZJ, zZ] at h; cases h
  | builtin b =>
   simp only [ZJ] at h hc
   have hargs : ∀ x ∈ args.toList, VRel β (ρ x) (ρ' x) := fun x hx => hρ x (by simp [Op.operands, Call.operands]; simpa using hx)
   have ea : args = args.toList.toArray := by simp
   have et : ats = ats.toList.toArray := by simp
   generalize args.toList = al at *
   generalize ats.toList = tl at *
   subst ea; subst et
   unfold Qj WZ at h hc
   split at h
   · (repeat' split at h) <;> simp [zZ] at h
   · rename_i x t rest
     have hx := hargs x (by simp)
     split at h
     · simp [zZ] at h
     · simp [zZ] at h
     · rename_i kt e hu
       simp only [zZ] at h
       generalize ρ x = X at hx h
       generalize hX : ρ' x = X' at hx
       cases hx <;> simp only [z2, reduceCtorEq] at h
       · subst h
         exact ⟨_, by simp only [execOp, resolve, Sem.run_bind, Sem.run_pure, Result.andThen_ok, invoke, builtin, List.map_toArray, z4, z5, hX, Builtin.len_, List.getElem?_toArray, List.getElem?_cons_zero, zv hu]; rfl, .int _ _⟩
       · rename_i r loc hl
         cases hg : s.get r with
         | none => simp [hg] at h
         | some ob =>
          cases ob <;> simp only [hg, reduceCtorEq, z2] at h
          rename_i es clock
          subst h
          obtain ⟨l2, h1, xs, hx, hE⟩ := hR.obj r _ hg
          rw [hl] at h1; cases h1
          have hlen : (es.length : Int) = (xs.size : Int) := by rw [hE.length]; simp
          refine ⟨.int .i64 xs.size, ?_, by rw [hlen]; exact .int _ _⟩
          simp only [execOp, resolve, Sem.run_bind, Sem.run_pure, Result.andThen_ok, invoke, builtin, List.map_toArray, z4, z5, hX, Builtin.len_, List.getElem?_toArray, List.getElem?_cons_zero, zv hu, Yq hx]
          rfl
     · simp [zZ] at h
     · (repeat' split at h) <;> simp [zZ] at h
     · simp [zZ] at h
   all_goals ((repeat' split at h) <;> simp [zZ] at h)
 case next it b => cases b <;> simp [ZJ, zZ] at h
 case makeFunc f a b => cases f <;> simp [ZJ, zZ] at h
 case binOp op t x y z => cases op <;> simp only [ZJ, CA] at h <;> (repeat' split at h) <;> simp [zZ] at h
 all_goals (simp only [ZJ] at h; (repeat' split at h) <;> simp [zZ] at h)
end
end Go.Dx
