/- EngineNobody returns true for every input, and leaves what it was given as it was. -/
import Derived.Test.YtafgoagedaahmaaGreatRows
import Derived.Test.YtafgoagedaahmaaGreatDxEs
import Derived.Test.YtafgoagedaahmaaGreatDxRow
import Derived.Test.YtafgoagedaahmaaGreatDxSorted
import Derived.Shelf.SortM.Plain
import Derived.Shelf.SortM.SortNone
import Derived.Shelf.Lays2
import Derived.Test.YtafgoagedaahmaaGreatDxIns
namespace Go.Proofs.YtafgoagedaahmaaGreat.engineNobody
open Go.ChangeShapes Go.WideShapes Go.ChangeAt Go.RowKit Go.Dx Go.Shelf
set_option linter.unusedVariables false
set_option linter.unusedSimpArgs false
set_option maxRecDepth 100000
set_option maxHeartbeats 4000000

/-! ### The evaluator's tables -/
inductive BT where
  | leaf
  | node (k : Nat) (d : DFunc) (l r : BT)
def BT.find : BT → Nat → Option DFunc
  | .leaf, _ => none
  | .node k d l r, x => bif Nat.beq x k then some d else bif Nat.blt x k then l.find x else r.find x
def BT.All (Q : Nat → DFunc → Prop) : BT → Prop
  | .leaf => True
  | .node k d l r => Q k d ∧ l.All Q ∧ r.All Q
theorem BT.find_all {Q : Nat → DFunc → Prop} : ∀ {t : BT} {x : Nat} {d : DFunc}, t.All Q → t.find x = some d → Q x d
  | .leaf, x, d, _, h => by cases h
  | .node k d0 l r, x, d, ⟨h1, h2, h3⟩, h => by
    unfold BT.find at h
    cases hb : Nat.beq x k with
    | true =>
      rw [hb] at h
      simp only [cond_true, Option.some.injEq] at h
      subst h
      rw [Nat.eq_of_beq_eq_true hb]; exact h1
    | false =>
      rw [hb] at h
      cases hl : Nat.blt x k with
      | true => rw [hl] at h; exact BT.find_all h2 h
      | false => rw [hl] at h; exact BT.find_all h3 h
def FnOk (k : Nat) (df : DFunc) : Prop := ∃ f, Tryz.prog.funcs[k]? = some f ∧ trFunc Tryz.prog f = some df
def tab : BT := (.node 119 d119 (.node 53 d53 (.node 25 d25 (.node 14 d14 (.node 8 d8 (.node 5 d5 (.node 4 d4 (.node 3 d3 .leaf .leaf) .leaf) (.node 7 d7 (.node 6 d6 .leaf .leaf) .leaf)) (.node 11 d11 (.node 10 d10 (.node 9 d9 .leaf .leaf) .leaf) (.node 13 d13 (.node 12 d12 .leaf .leaf) .leaf))) (.node 20 d20 (.node 17 d17 (.node 16 d16 (.node 15 d15 .leaf .leaf) .leaf) (.node 19 d19 (.node 18 d18 .leaf .leaf) .leaf)) (.node 23 d23 (.node 22 d22 (.node 21 d21 .leaf .leaf) .leaf) (.node 24 d24 .leaf .leaf)))) (.node 42 d42 (.node 34 d34 (.node 28 d28 (.node 27 d27 (.node 26 d26 .leaf .leaf) .leaf) (.node 31 d31 (.node 30 d30 .leaf .leaf) .leaf)) (.node 38 d38 (.node 36 d36 (.node 35 d35 .leaf .leaf) .leaf) (.node 41 d41 (.node 39 d39 .leaf .leaf) .leaf))) (.node 48 d48 (.node 45 d45 (.node 44 d44 (.node 43 d43 .leaf .leaf) .leaf) (.node 47 d47 (.node 46 d46 .leaf .leaf) .leaf)) (.node 51 d51 (.node 50 d50 (.node 49 d49 .leaf .leaf) .leaf) (.node 52 d52 .leaf .leaf))))) (.node 88 d88 (.node 65 d65 (.node 59 d59 (.node 56 d56 (.node 55 d55 (.node 54 d54 .leaf .leaf) .leaf) (.node 58 d58 (.node 57 d57 .leaf .leaf) .leaf)) (.node 62 d62 (.node 61 d61 (.node 60 d60 .leaf .leaf) .leaf) (.node 64 d64 (.node 63 d63 .leaf .leaf) .leaf))) (.node 75 d75 (.node 68 d68 (.node 67 d67 (.node 66 d66 .leaf .leaf) .leaf) (.node 71 d71 (.node 69 d69 .leaf .leaf) .leaf)) (.node 85 d85 (.node 83 d83 (.node 82 d82 .leaf .leaf) .leaf) (.node 87 d87 .leaf .leaf)))) (.node 106 d106 (.node 99 d99 (.node 93 d93 (.node 92 d92 (.node 91 d91 .leaf .leaf) .leaf) (.node 97 d97 (.node 95 d95 .leaf .leaf) .leaf)) (.node 104 d104 (.node 103 d103 (.node 101 d101 .leaf .leaf) .leaf) (.node 105 d105 .leaf .leaf))) (.node 113 d113 (.node 109 d109 (.node 108 d108 (.node 107 d107 .leaf .leaf) .leaf) (.node 111 d111 (.node 110 d110 .leaf .leaf) .leaf)) (.node 117 d117 (.node 116 d116 (.node 115 d115 .leaf .leaf) .leaf) (.node 118 d118 .leaf .leaf)))))) (.node 209 d209 (.node 165 d165 (.node 152 d152 (.node 127 d127 (.node 122 d122 (.node 121 d121 (.node 120 d120 .leaf .leaf) .leaf) (.node 124 d124 (.node 123 d123 .leaf .leaf) .leaf)) (.node 139 d139 (.node 129 d129 (.node 128 d128 .leaf .leaf) .leaf) (.node 151 d151 (.node 150 d150 .leaf .leaf) .leaf))) (.node 160 d160 (.node 155 d155 (.node 154 d154 (.node 153 d153 .leaf .leaf) .leaf) (.node 159 d159 (.node 158 d158 .leaf .leaf) .leaf)) (.node 163 d163 (.node 162 d162 (.node 161 d161 .leaf .leaf) .leaf) (.node 164 d164 .leaf .leaf)))) (.node 179 d179 (.node 171 d171 (.node 168 d168 (.node 167 d167 (.node 166 d166 .leaf .leaf) .leaf) (.node 170 d170 (.node 169 d169 .leaf .leaf) .leaf)) (.node 176 d176 (.node 173 d173 (.node 172 d172 .leaf .leaf) .leaf) (.node 178 d178 (.node 177 d177 .leaf .leaf) .leaf))) (.node 202 d202 (.node 182 d182 (.node 181 d181 (.node 180 d180 .leaf .leaf) .leaf) (.node 190 d190 (.node 183 d183 .leaf .leaf) .leaf)) (.node 207 d207 (.node 206 d206 (.node 205 d205 .leaf .leaf) .leaf) (.node 208 d208 .leaf .leaf))))) (.node 252 d252 (.node 222 d222 (.node 215 d215 (.node 212 d212 (.node 211 d211 (.node 210 d210 .leaf .leaf) .leaf) (.node 214 d214 (.node 213 d213 .leaf .leaf) .leaf)) (.node 219 d219 (.node 218 d218 (.node 217 d217 .leaf .leaf) .leaf) (.node 221 d221 (.node 220 d220 .leaf .leaf) .leaf))) (.node 247 d247 (.node 244 d244 (.node 242 d242 (.node 223 d223 .leaf .leaf) .leaf) (.node 246 d246 (.node 245 d245 .leaf .leaf) .leaf)) (.node 250 d250 (.node 249 d249 (.node 248 d248 .leaf .leaf) .leaf) (.node 251 d251 .leaf .leaf)))) (.node 282 d282 (.node 261 d261 (.node 257 d257 (.node 255 d255 (.node 254 d254 .leaf .leaf) .leaf) (.node 259 d259 (.node 258 d258 .leaf .leaf) .leaf)) (.node 264 d264 (.node 263 d263 (.node 262 d262 .leaf .leaf) .leaf) (.node 273 d273 .leaf .leaf))) (.node 289 d289 (.node 285 d285 (.node 284 d284 (.node 283 d283 .leaf .leaf) .leaf) (.node 288 d288 (.node 286 d286 .leaf .leaf) .leaf)) (.node 293 d293 (.node 292 d292 (.node 290 d290 .leaf .leaf) .leaf) (.node 294 d294 .leaf .leaf)))))))
theorem tab_ok : tab.All FnOk := ⟨⟨_, Tryz.func119, tr119⟩, ⟨⟨_, Tryz.func53, tr53⟩, ⟨⟨_, Tryz.func25, tr25⟩, ⟨⟨_, Tryz.func14, tr14⟩, ⟨⟨_, Tryz.func8, tr8⟩, ⟨⟨_, Tryz.func5, tr5⟩, ⟨⟨_, Tryz.func4, tr4⟩, ⟨⟨_, Tryz.func3, tr3⟩, trivial, trivial⟩, trivial⟩, ⟨⟨_, Tryz.func7, tr7⟩, ⟨⟨_, Tryz.func6, tr6⟩, trivial, trivial⟩, trivial⟩⟩, ⟨⟨_, Tryz.func11, tr11⟩, ⟨⟨_, Tryz.func10, tr10⟩, ⟨⟨_, Tryz.func9, tr9⟩, trivial, trivial⟩, trivial⟩, ⟨⟨_, Tryz.func13, tr13⟩, ⟨⟨_, Tryz.func12, tr12⟩, trivial, trivial⟩, trivial⟩⟩⟩, ⟨⟨_, Tryz.func20, tr20⟩, ⟨⟨_, Tryz.func17, tr17⟩, ⟨⟨_, Tryz.func16, tr16⟩, ⟨⟨_, Tryz.func15, tr15⟩, trivial, trivial⟩, trivial⟩, ⟨⟨_, Tryz.func19, tr19⟩, ⟨⟨_, Tryz.func18, tr18⟩, trivial, trivial⟩, trivial⟩⟩, ⟨⟨_, Tryz.func23, tr23⟩, ⟨⟨_, Tryz.func22, tr22⟩, ⟨⟨_, Tryz.func21, tr21⟩, trivial, trivial⟩, trivial⟩, ⟨⟨_, Tryz.func24, tr24⟩, trivial, trivial⟩⟩⟩⟩, ⟨⟨_, Tryz.func42, tr42⟩, ⟨⟨_, Tryz.func34, tr34⟩, ⟨⟨_, Tryz.func28, tr28⟩, ⟨⟨_, Tryz.func27, tr27⟩, ⟨⟨_, Tryz.func26, tr26⟩, trivial, trivial⟩, trivial⟩, ⟨⟨_, Tryz.func31, tr31⟩, ⟨⟨_, Tryz.func30, tr30⟩, trivial, trivial⟩, trivial⟩⟩, ⟨⟨_, Tryz.func38, tr38⟩, ⟨⟨_, Tryz.func36, tr36⟩, ⟨⟨_, Tryz.func35, tr35⟩, trivial, trivial⟩, trivial⟩, ⟨⟨_, Tryz.func41, tr41⟩, ⟨⟨_, Tryz.func39, tr39⟩, trivial, trivial⟩, trivial⟩⟩⟩, ⟨⟨_, Tryz.func48, tr48⟩, ⟨⟨_, Tryz.func45, tr45⟩, ⟨⟨_, Tryz.func44, tr44⟩, ⟨⟨_, Tryz.func43, tr43⟩, trivial, trivial⟩, trivial⟩, ⟨⟨_, Tryz.func47, tr47⟩, ⟨⟨_, Tryz.func46, tr46⟩, trivial, trivial⟩, trivial⟩⟩, ⟨⟨_, Tryz.func51, tr51⟩, ⟨⟨_, Tryz.func50, tr50⟩, ⟨⟨_, Tryz.func49, tr49⟩, trivial, trivial⟩, trivial⟩, ⟨⟨_, Tryz.func52, tr52⟩, trivial, trivial⟩⟩⟩⟩⟩, ⟨⟨_, Tryz.func88, tr88⟩, ⟨⟨_, Tryz.func65, tr65⟩, ⟨⟨_, Tryz.func59, tr59⟩, ⟨⟨_, Tryz.func56, tr56⟩, ⟨⟨_, Tryz.func55, tr55⟩, ⟨⟨_, Tryz.func54, tr54⟩, trivial, trivial⟩, trivial⟩, ⟨⟨_, Tryz.func58, tr58⟩, ⟨⟨_, Tryz.func57, tr57⟩, trivial, trivial⟩, trivial⟩⟩, ⟨⟨_, Tryz.func62, tr62⟩, ⟨⟨_, Tryz.func61, tr61⟩, ⟨⟨_, Tryz.func60, tr60⟩, trivial, trivial⟩, trivial⟩, ⟨⟨_, Tryz.func64, tr64⟩, ⟨⟨_, Tryz.func63, tr63⟩, trivial, trivial⟩, trivial⟩⟩⟩, ⟨⟨_, Tryz.func75, tr75⟩, ⟨⟨_, Tryz.func68, tr68⟩, ⟨⟨_, Tryz.func67, tr67⟩, ⟨⟨_, Tryz.func66, tr66⟩, trivial, trivial⟩, trivial⟩, ⟨⟨_, Tryz.func71, tr71⟩, ⟨⟨_, Tryz.func69, tr69⟩, trivial, trivial⟩, trivial⟩⟩, ⟨⟨_, Tryz.func85, tr85⟩, ⟨⟨_, Tryz.func83, tr83⟩, ⟨⟨_, Tryz.func82, tr82⟩, trivial, trivial⟩, trivial⟩, ⟨⟨_, Tryz.func87, tr87⟩, trivial, trivial⟩⟩⟩⟩, ⟨⟨_, Tryz.func106, tr106⟩, ⟨⟨_, Tryz.func99, tr99⟩, ⟨⟨_, Tryz.func93, tr93⟩, ⟨⟨_, Tryz.func92, tr92⟩, ⟨⟨_, Tryz.func91, tr91⟩, trivial, trivial⟩, trivial⟩, ⟨⟨_, Tryz.func97, tr97⟩, ⟨⟨_, Tryz.func95, tr95⟩, trivial, trivial⟩, trivial⟩⟩, ⟨⟨_, Tryz.func104, tr104⟩, ⟨⟨_, Tryz.func103, tr103⟩, ⟨⟨_, Tryz.func101, tr101⟩, trivial, trivial⟩, trivial⟩, ⟨⟨_, Tryz.func105, tr105⟩, trivial, trivial⟩⟩⟩, ⟨⟨_, Tryz.func113, tr113⟩, ⟨⟨_, Tryz.func109, tr109⟩, ⟨⟨_, Tryz.func108, tr108⟩, ⟨⟨_, Tryz.func107, tr107⟩, trivial, trivial⟩, trivial⟩, ⟨⟨_, Tryz.func111, tr111⟩, ⟨⟨_, Tryz.func110, tr110⟩, trivial, trivial⟩, trivial⟩⟩, ⟨⟨_, Tryz.func117, tr117⟩, ⟨⟨_, Tryz.func116, tr116⟩, ⟨⟨_, Tryz.func115, tr115⟩, trivial, trivial⟩, trivial⟩, ⟨⟨_, Tryz.func118, tr118⟩, trivial, trivial⟩⟩⟩⟩⟩⟩, ⟨⟨_, Tryz.func209, tr209⟩, ⟨⟨_, Tryz.func165, tr165⟩, ⟨⟨_, Tryz.func152, tr152⟩, ⟨⟨_, Tryz.func127, tr127⟩, ⟨⟨_, Tryz.func122, tr122⟩, ⟨⟨_, Tryz.func121, tr121⟩, ⟨⟨_, Tryz.func120, tr120⟩, trivial, trivial⟩, trivial⟩, ⟨⟨_, Tryz.func124, tr124⟩, ⟨⟨_, Tryz.func123, tr123⟩, trivial, trivial⟩, trivial⟩⟩, ⟨⟨_, Tryz.func139, tr139⟩, ⟨⟨_, Tryz.func129, tr129⟩, ⟨⟨_, Tryz.func128, tr128⟩, trivial, trivial⟩, trivial⟩, ⟨⟨_, Tryz.func151, tr151⟩, ⟨⟨_, Tryz.func150, tr150⟩, trivial, trivial⟩, trivial⟩⟩⟩, ⟨⟨_, Tryz.func160, tr160⟩, ⟨⟨_, Tryz.func155, tr155⟩, ⟨⟨_, Tryz.func154, tr154⟩, ⟨⟨_, Tryz.func153, tr153⟩, trivial, trivial⟩, trivial⟩, ⟨⟨_, Tryz.func159, tr159⟩, ⟨⟨_, Tryz.func158, tr158⟩, trivial, trivial⟩, trivial⟩⟩, ⟨⟨_, Tryz.func163, tr163⟩, ⟨⟨_, Tryz.func162, tr162⟩, ⟨⟨_, Tryz.func161, tr161⟩, trivial, trivial⟩, trivial⟩, ⟨⟨_, Tryz.func164, tr164⟩, trivial, trivial⟩⟩⟩⟩, ⟨⟨_, Tryz.func179, tr179⟩, ⟨⟨_, Tryz.func171, tr171⟩, ⟨⟨_, Tryz.func168, tr168⟩, ⟨⟨_, Tryz.func167, tr167⟩, ⟨⟨_, Tryz.func166, tr166⟩, trivial, trivial⟩, trivial⟩, ⟨⟨_, Tryz.func170, tr170⟩, ⟨⟨_, Tryz.func169, tr169⟩, trivial, trivial⟩, trivial⟩⟩, ⟨⟨_, Tryz.func176, tr176⟩, ⟨⟨_, Tryz.func173, tr173⟩, ⟨⟨_, Tryz.func172, tr172⟩, trivial, trivial⟩, trivial⟩, ⟨⟨_, Tryz.func178, tr178⟩, ⟨⟨_, Tryz.func177, tr177⟩, trivial, trivial⟩, trivial⟩⟩⟩, ⟨⟨_, Tryz.func202, tr202⟩, ⟨⟨_, Tryz.func182, tr182⟩, ⟨⟨_, Tryz.func181, tr181⟩, ⟨⟨_, Tryz.func180, tr180⟩, trivial, trivial⟩, trivial⟩, ⟨⟨_, Tryz.func190, tr190⟩, ⟨⟨_, Tryz.func183, tr183⟩, trivial, trivial⟩, trivial⟩⟩, ⟨⟨_, Tryz.func207, tr207⟩, ⟨⟨_, Tryz.func206, tr206⟩, ⟨⟨_, Tryz.func205, tr205⟩, trivial, trivial⟩, trivial⟩, ⟨⟨_, Tryz.func208, tr208⟩, trivial, trivial⟩⟩⟩⟩⟩, ⟨⟨_, Tryz.func252, tr252⟩, ⟨⟨_, Tryz.func222, tr222⟩, ⟨⟨_, Tryz.func215, tr215⟩, ⟨⟨_, Tryz.func212, tr212⟩, ⟨⟨_, Tryz.func211, tr211⟩, ⟨⟨_, Tryz.func210, tr210⟩, trivial, trivial⟩, trivial⟩, ⟨⟨_, Tryz.func214, tr214⟩, ⟨⟨_, Tryz.func213, tr213⟩, trivial, trivial⟩, trivial⟩⟩, ⟨⟨_, Tryz.func219, tr219⟩, ⟨⟨_, Tryz.func218, tr218⟩, ⟨⟨_, Tryz.func217, tr217⟩, trivial, trivial⟩, trivial⟩, ⟨⟨_, Tryz.func221, tr221⟩, ⟨⟨_, Tryz.func220, tr220⟩, trivial, trivial⟩, trivial⟩⟩⟩, ⟨⟨_, Tryz.func247, tr247⟩, ⟨⟨_, Tryz.func244, tr244⟩, ⟨⟨_, Tryz.func242, tr242⟩, ⟨⟨_, Tryz.func223, tr223⟩, trivial, trivial⟩, trivial⟩, ⟨⟨_, Tryz.func246, tr246⟩, ⟨⟨_, Tryz.func245, tr245⟩, trivial, trivial⟩, trivial⟩⟩, ⟨⟨_, Tryz.func250, tr250⟩, ⟨⟨_, Tryz.func249, tr249⟩, ⟨⟨_, Tryz.func248, tr248⟩, trivial, trivial⟩, trivial⟩, ⟨⟨_, Tryz.func251, tr251⟩, trivial, trivial⟩⟩⟩⟩, ⟨⟨_, Tryz.func282, tr282⟩, ⟨⟨_, Tryz.func261, tr261⟩, ⟨⟨_, Tryz.func257, tr257⟩, ⟨⟨_, Tryz.func255, tr255⟩, ⟨⟨_, Tryz.func254, tr254⟩, trivial, trivial⟩, trivial⟩, ⟨⟨_, Tryz.func259, tr259⟩, ⟨⟨_, Tryz.func258, tr258⟩, trivial, trivial⟩, trivial⟩⟩, ⟨⟨_, Tryz.func264, tr264⟩, ⟨⟨_, Tryz.func263, tr263⟩, ⟨⟨_, Tryz.func262, tr262⟩, trivial, trivial⟩, trivial⟩, ⟨⟨_, Tryz.func273, tr273⟩, trivial, trivial⟩⟩⟩, ⟨⟨_, Tryz.func289, tr289⟩, ⟨⟨_, Tryz.func285, tr285⟩, ⟨⟨_, Tryz.func284, tr284⟩, ⟨⟨_, Tryz.func283, tr283⟩, trivial, trivial⟩, trivial⟩, ⟨⟨_, Tryz.func288, tr288⟩, ⟨⟨_, Tryz.func286, tr286⟩, trivial, trivial⟩, trivial⟩⟩, ⟨⟨_, Tryz.func293, tr293⟩, ⟨⟨_, Tryz.func292, tr292⟩, ⟨⟨_, Tryz.func290, tr290⟩, trivial, trivial⟩, trivial⟩, ⟨⟨_, Tryz.func294, tr294⟩, trivial, trivial⟩⟩⟩⟩⟩⟩⟩

theorem bears_of {P : Program} {f : FuncId} {B g : Func} (hf : P.funcs[f]? = some g) (hn : (g.name == "runtime.NumGoroutine") = false) (h : { B with name := g.name } = g) : Go.Proofs.Bears P f B := ⟨g.name, hn, by rw [h]; exact hf⟩
def renS : Ren := { f := fun n => match n with | 5 => 144 | 7 => 198 | 8 => 199 | 10 => 231 | 11 => 232 | 12 => 233 | 13 => 234 | 14 => 235 | 15 => 236 | 16 => 156 | 17 => 237 | 18 => 238 | 19 => 239 | 20 => 240 | 30 => 275 | 31 => 276 | 32 => 277 | 33 => 278 | 34 => 279 | 35 => 203 | 40 => 301 | n => n, t := fun n => match n with | 0 => 0 | 3 => 3 | 4 => 4 | 5 => 5 | 9 => 9 | 22 => 23 | 23 => 23 | 25 => 3 | 32 => 303 | 35 => 360 | 36 => 361 | 41 => 216 | 44 => 278 | 46 => 226 | 53 => 385 | 57 => 331 | 63 => 402 | 64 => 34 | n => n, g := fun n => n }
theorem laysS : SlLaysM.n5 Tryz.prog renS := by
  constructor
  all_goals first
    | kernel_rfl
    | (intro w; kernel_rfl)
    | exact bears_of Tryz.func144 (by kernel_rfl) (by kernel_rfl)
    | exact bears_of Tryz.func156 (by kernel_rfl) (by kernel_rfl)
    | exact bears_of Tryz.func198 (by kernel_rfl) (by kernel_rfl)
    | exact bears_of Tryz.func199 (by kernel_rfl) (by kernel_rfl)
    | exact bears_of Tryz.func203 (by kernel_rfl) (by kernel_rfl)
    | exact bears_of Tryz.func231 (by kernel_rfl) (by kernel_rfl)
    | exact bears_of Tryz.func232 (by kernel_rfl) (by kernel_rfl)
    | exact bears_of Tryz.func233 (by kernel_rfl) (by kernel_rfl)
    | exact bears_of Tryz.func234 (by kernel_rfl) (by kernel_rfl)
    | exact bears_of Tryz.func235 (by kernel_rfl) (by kernel_rfl)
    | exact bears_of Tryz.func236 (by kernel_rfl) (by kernel_rfl)
    | exact bears_of Tryz.func237 (by kernel_rfl) (by kernel_rfl)
    | exact bears_of Tryz.func238 (by kernel_rfl) (by kernel_rfl)
    | exact bears_of Tryz.func239 (by kernel_rfl) (by kernel_rfl)
    | exact bears_of Tryz.func240 (by kernel_rfl) (by kernel_rfl)
    | exact bears_of Tryz.func275 (by kernel_rfl) (by kernel_rfl)
    | exact bears_of Tryz.func276 (by kernel_rfl) (by kernel_rfl)
    | exact bears_of Tryz.func277 (by kernel_rfl) (by kernel_rfl)
    | exact bears_of Tryz.func278 (by kernel_rfl) (by kernel_rfl)
    | exact bears_of Tryz.func279 (by kernel_rfl) (by kernel_rfl)
    | exact bears_of Tryz.func301 (by kernel_rfl) (by kernel_rfl)
def renK0 : Ren := { f := fun n => match n with | 6 => 76 | 7 => 77 | 8 => 143 | 9 => 144 | 10 => 145 | 11 => 197 | n => n, t := fun n => match n with | 0 => 0 | 3 => 114 | 4 => 4 | 5 => 5 | 9 => 9 | 23 => 102 | 24 => 23 | 26 => 3 | 27 => 209 | 28 => 210 | 33 => 115 | 37 => 303 | 39 => 360 | 40 => 361 | 45 => 216 | 48 => 278 | 50 => 226 | 51 => 385 | 55 => 331 | 57 => 402 | 58 => 34 | n => n, g := fun n => n }
theorem laysK0 : SlLaysZI.n7 Tryz.prog renK0 := by
  constructor
  all_goals first
    | kernel_rfl
    | (intro w; kernel_rfl)
    | exact bears_of Tryz.func76 (by kernel_rfl) (by kernel_rfl)
    | exact bears_of Tryz.func77 (by kernel_rfl) (by kernel_rfl)
    | exact bears_of Tryz.func143 (by kernel_rfl) (by kernel_rfl)
    | exact bears_of Tryz.func144 (by kernel_rfl) (by kernel_rfl)
    | exact bears_of Tryz.func145 (by kernel_rfl) (by kernel_rfl)
    | exact bears_of Tryz.func197 (by kernel_rfl) (by kernel_rfl)
theorem laysO : SlLaysZI.n6 Tryz.prog renK0 := by
  constructor
  all_goals first
    | kernel_rfl
    | (intro w; kernel_rfl)
    | exact bears_of Tryz.func76 (by kernel_rfl) (by kernel_rfl)
    | exact bears_of Tryz.func77 (by kernel_rfl) (by kernel_rfl)
    | exact bears_of Tryz.func143 (by kernel_rfl) (by kernel_rfl)
    | exact bears_of Tryz.func144 (by kernel_rfl) (by kernel_rfl)
    | exact bears_of Tryz.func145 (by kernel_rfl) (by kernel_rfl)
    | exact bears_of Tryz.func197 (by kernel_rfl) (by kernel_rfl)
theorem sorts (m : Nat) : Go.Proofs.AnyZI.SortsIn Tryz.prog renK0 Fence.wide m :=
  ⟨fun blk off cap ss W hH hblk hsz => callsIn_wide.2 (Go.Proofs.AnyM.slices_Sort_int laysS blk off cap ss W hH hblk hsz), fun p cap W => callsIn_wide.2 (Go.Proofs.AnyM.slices_Sort_int_none laysS p cap W)⟩
def renI : Ren := { f := fun n => match n with | 21 => 147 | 27 => 200 | 28 => 201 | 35 => 241 | 39 => 115 | n => n, t := fun n => match n with | 22 => 23 | n => n, g := fun n => n }
theorem laysI : Lays2.n21 Tryz.prog renI := by
  constructor
  all_goals first
    | kernel_rfl
    | (intro w; kernel_rfl)
noncomputable def env : Env := { fn := tab.find, intr := fun k => bif Nat.beq k 77 then some (fun all s => keysD all 145 s) else bif Nat.beq k 76 then some (fun all s => sortedD 145 all s) else bif Nat.beq k 147 then some (insD) else none, lf := 100000 }
theorem env_ok : EnvOk Tryz.prog env := by
  refine ⟨by kernel_rfl, fun k df h => BT.find_all tab_ok h, fun k F h => ?_⟩
  have h : (bif Nat.beq k 77 then some (fun all s => keysD all 145 s) else bif Nat.beq k 76 then some (fun all s => sortedD 145 all s) else bif Nat.beq k 147 then some (insD) else none) = some F := h
  cases hb77 : Nat.beq k 77 with
  | true =>
    rw [hb77] at h
    simp only [cond_true, Option.some.injEq] at h
    subst h
    rw [Nat.eq_of_beq_eq_true hb77]
    exact keys_ok (ρ := renK0) laysK0 (fun X w => callFunc_run Tryz.func77 (by kernel_rfl) (by kernel_rfl) X w)
  | false =>
    rw [hb77] at h
    simp only [cond_false] at h
    cases hb76 : Nat.beq k 76 with
    | true =>
      rw [hb76] at h
      simp only [cond_true, Option.some.injEq] at h
      subst h
      rw [Nat.eq_of_beq_eq_true hb76]
      exact sorted_ok (ρ := renK0) laysO { laysK0 with } sorts (fun X w => callFunc_run Tryz.func144 (by kernel_rfl) (by kernel_rfl) X w) (fun X w => callFunc_run Tryz.func76 (by kernel_rfl) (by kernel_rfl) X w)
    | false =>
      rw [hb76] at h
      simp only [cond_false] at h
      cases hb147 : Nat.beq k 147 with
      | true =>
        rw [hb147] at h
        simp only [cond_true, Option.some.injEq] at h
        subst h
        rw [Nat.eq_of_beq_eq_true hb147]
        exact ins_ok (ρ := renI) laysI (fun X w => callFunc_run Tryz.func147 (by kernel_rfl) (by kernel_rfl) X w)
      | false =>
        rw [hb147] at h
        simp only [cond_false] at h
        cases h

theorem runs (a2 : Int) : okOf (xcall env 200 (.func (.func 3) #[] #[]) [.agg #[.nilIface, .nilIface, .int .i64 a2]] s0) = true := by kernel_rfl
theorem walk (a0 : Value) (a1 : Value) (a2 : Int) (h0 : opq a0 = true) (h1 : opq a1 = true) (w : World) : Calls Tryz.prog 3 #[.agg ⟨[a0, a1, .int .i64 a2]⟩] w fun e w' => e = .returned (.bool true) ∧ Kept w w' :=
  top env_ok (runs a2) (fun _ => .cons (.agg (.cons (.any h0) (.cons (.any h1) (.cons (.int _ _) .nil)))) .nil) w
end Go.Proofs.YtafgoagedaahmaaGreat.engineNobody
