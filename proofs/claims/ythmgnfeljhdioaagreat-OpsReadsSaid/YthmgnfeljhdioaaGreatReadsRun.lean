/- OpsReads returns true for every input, and leaves what it was given as it was. -/
import Derived.Test.YthmgnfeljhdioaaGreatRows
import Derived.Test.YthmgnfeljhdioaaGreatDxGz
import Derived.Test.YthmgnfeljhdioaaGreatDxRow
import Derived.Test.YthmgnfeljhdioaaGreatDxSorted
import Derived.Shelf.SortM.Plain
import Derived.Shelf.SortM.SortNone
import Derived.Shelf.Lays2
import Derived.Test.YthmgnfeljhdioaaGreatDxIns
import Derived.Test.YthmgnfeljhdioaaGreatP1Ha
import Derived.Test.YthmgnfeljhdioaaGreatDxTopM
namespace Go.Proofs.YthmgnfeljhdioaaGreat.opsReads
open Go.ChangeShapes Go.WideShapes Go.ChangeAt Go.RowKit Go.Dx Go.Shelf
set_option linter.unusedVariables false
set_option linter.unusedSimpArgs false
set_option maxRecDepth 100000
set_option maxHeartbeats 4000000

/-! ### The evaluator's tables -/
inductive BT where
  | leaf
  | node (k : Nat) (d : ze) (l r : BT)
def BT.find : BT → Nat → Option ze
  | .leaf, _ => none
  | .node k d l r, x => bif Nat.beq x k then some d else bif Nat.blt x k then l.find x else r.find x
def BT.All (Q : Nat → ze → Prop) : BT → Prop
  | .leaf => True
  | .node k d l r => Q k d ∧ l.All Q ∧ r.All Q
theorem BT.find_all {Q : Nat → ze → Prop} : ∀ {t : BT} {x : Nat} {d : ze}, t.All Q → t.find x = some d → Q x d
  | .leaf, x, d, _, h => by cases h
  | .node k d0 l r, x, d, ⟨h1, h2, h3⟩, h => by
    unfold BT.find at h
    cases hb : Nat.beq x k with
    | true =>
      rw [hb] at h
      simp only [cond_true, Option.some.injEq] at h
      subst h
      rw [Nat.eq_of_beq_eq_true hb]; exact h1
    | false =>
      rw [hb] at h
      cases hl : Nat.blt x k with
      | true => rw [hl] at h; exact BT.find_all h2 h
      | false => rw [hl] at h; exact BT.find_all h3 h
def FnOk (k : Nat) (df : ze) : Prop := ∃ f, Tryz.prog.funcs[k]? = some f ∧ zd Tryz.prog f = some df
def tab : BT := (.node 108 d108 (.node 58 d58 (.node 30 d30 (.node 18 d18 (.node 10 d10 (.node 7 d7 (.node 6 d6 (.node 4 d4 .leaf .leaf) .leaf) (.node 9 d9 (.node 8 d8 .leaf .leaf) .leaf)) (.node 13 d13 (.node 12 d12 (.node 11 d11 .leaf .leaf) .leaf) (.node 17 d17 (.node 15 d15 .leaf .leaf) .leaf))) (.node 24 d24 (.node 21 d21 (.node 20 d20 (.node 19 d19 .leaf .leaf) .leaf) (.node 23 d23 (.node 22 d22 .leaf .leaf) .leaf)) (.node 27 d27 (.node 26 d26 (.node 25 d25 .leaf .leaf) .leaf) (.node 29 d29 (.node 28 d28 .leaf .leaf) .leaf)))) (.node 44 d44 (.node 37 d37 (.node 33 d33 (.node 32 d32 (.node 31 d31 .leaf .leaf) .leaf) (.node 36 d36 (.node 35 d35 .leaf .leaf) .leaf)) (.node 41 d41 (.node 40 d40 (.node 39 d39 .leaf .leaf) .leaf) (.node 43 d43 (.node 42 d42 .leaf .leaf) .leaf))) (.node 53 d53 (.node 49 d49 (.node 46 d46 (.node 45 d45 .leaf .leaf) .leaf) (.node 52 d52 (.node 51 d51 .leaf .leaf) .leaf)) (.node 56 d56 (.node 55 d55 (.node 54 d54 .leaf .leaf) .leaf) (.node 57 d57 .leaf .leaf))))) (.node 84 d84 (.node 70 d70 (.node 64 d64 (.node 61 d61 (.node 60 d60 (.node 59 d59 .leaf .leaf) .leaf) (.node 63 d63 (.node 62 d62 .leaf .leaf) .leaf)) (.node 67 d67 (.node 66 d66 (.node 65 d65 .leaf .leaf) .leaf) (.node 69 d69 (.node 68 d68 .leaf .leaf) .leaf))) (.node 79 d79 (.node 76 d76 (.node 75 d75 (.node 71 d71 .leaf .leaf) .leaf) (.node 78 d78 (.node 77 d77 .leaf .leaf) .leaf)) (.node 82 d82 (.node 81 d81 (.node 80 d80 .leaf .leaf) .leaf) (.node 83 d83 .leaf .leaf)))) (.node 96 d96 (.node 90 d90 (.node 87 d87 (.node 86 d86 (.node 85 d85 .leaf .leaf) .leaf) (.node 89 d89 (.node 88 d88 .leaf .leaf) .leaf)) (.node 93 d93 (.node 92 d92 (.node 91 d91 .leaf .leaf) .leaf) (.node 95 d95 (.node 94 d94 .leaf .leaf) .leaf))) (.node 102 d102 (.node 99 d99 (.node 98 d98 (.node 97 d97 .leaf .leaf) .leaf) (.node 101 d101 (.node 100 d100 .leaf .leaf) .leaf)) (.node 105 d105 (.node 104 d104 (.node 103 d103 .leaf .leaf) .leaf) (.node 107 d107 .leaf .leaf)))))) (.node 177 d177 (.node 138 d138 (.node 122 d122 (.node 115 d115 (.node 111 d111 (.node 110 d110 (.node 109 d109 .leaf .leaf) .leaf) (.node 113 d113 (.node 112 d112 .leaf .leaf) .leaf)) (.node 118 d118 (.node 117 d117 (.node 116 d116 .leaf .leaf) .leaf) (.node 121 d121 (.node 120 d120 .leaf .leaf) .leaf))) (.node 132 d132 (.node 125 d125 (.node 124 d124 (.node 123 d123 .leaf .leaf) .leaf) (.node 131 d131 (.node 130 d130 .leaf .leaf) .leaf)) (.node 135 d135 (.node 134 d134 (.node 133 d133 .leaf .leaf) .leaf) (.node 137 d137 (.node 136 d136 .leaf .leaf) .leaf)))) (.node 158 d158 (.node 144 d144 (.node 141 d141 (.node 140 d140 (.node 139 d139 .leaf .leaf) .leaf) (.node 143 d143 (.node 142 d142 .leaf .leaf) .leaf)) (.node 155 d155 (.node 154 d154 (.node 145 d145 .leaf .leaf) .leaf) (.node 157 d157 (.node 156 d156 .leaf .leaf) .leaf))) (.node 172 d172 (.node 166 d166 (.node 164 d164 (.node 159 d159 .leaf .leaf) .leaf) (.node 170 d170 (.node 168 d168 .leaf .leaf) .leaf)) (.node 175 d175 (.node 174 d174 (.node 173 d173 .leaf .leaf) .leaf) (.node 176 d176 .leaf .leaf))))) (.node 224 d224 (.node 207 d207 (.node 184 d184 (.node 180 d180 (.node 179 d179 (.node 178 d178 .leaf .leaf) .leaf) (.node 183 d183 (.node 181 d181 .leaf .leaf) .leaf)) (.node 190 d190 (.node 186 d186 (.node 185 d185 .leaf .leaf) .leaf) (.node 206 d206 (.node 205 d205 .leaf .leaf) .leaf))) (.node 218 d218 (.node 214 d214 (.node 210 d210 (.node 208 d208 .leaf .leaf) .leaf) (.node 217 d217 (.node 216 d216 .leaf .leaf) .leaf)) (.node 221 d221 (.node 220 d220 (.node 219 d219 .leaf .leaf) .leaf) (.node 222 d222 .leaf .leaf)))) (.node 262 d262 (.node 252 d252 (.node 227 d227 (.node 226 d226 (.node 225 d225 .leaf .leaf) .leaf) (.node 251 d251 (.node 250 d250 .leaf .leaf) .leaf)) (.node 256 d256 (.node 254 d254 (.node 253 d253 .leaf .leaf) .leaf) (.node 258 d258 (.node 257 d257 .leaf .leaf) .leaf))) (.node 286 d286 (.node 266 d266 (.node 265 d265 (.node 264 d264 .leaf .leaf) .leaf) (.node 268 d268 (.node 267 d267 .leaf .leaf) .leaf)) (.node 302 d302 (.node 300 d300 (.node 287 d287 .leaf .leaf) .leaf) (.node 303 d303 .leaf .leaf)))))))
theorem tab_ok : tab.All FnOk := ⟨⟨_, Tryz.func108, tr108⟩, ⟨⟨_, Tryz.func58, tr58⟩, ⟨⟨_, Tryz.func30, tr30⟩, ⟨⟨_, Tryz.func18, tr18⟩, ⟨⟨_, Tryz.func10, tr10⟩, ⟨⟨_, Tryz.func7, tr7⟩, ⟨⟨_, Tryz.func6, tr6⟩, ⟨⟨_, Tryz.func4, tr4⟩, trivial, trivial⟩, trivial⟩, ⟨⟨_, Tryz.func9, tr9⟩, ⟨⟨_, Tryz.func8, tr8⟩, trivial, trivial⟩, trivial⟩⟩, ⟨⟨_, Tryz.func13, tr13⟩, ⟨⟨_, Tryz.func12, tr12⟩, ⟨⟨_, Tryz.func11, tr11⟩, trivial, trivial⟩, trivial⟩, ⟨⟨_, Tryz.func17, tr17⟩, ⟨⟨_, Tryz.func15, tr15⟩, trivial, trivial⟩, trivial⟩⟩⟩, ⟨⟨_, Tryz.func24, tr24⟩, ⟨⟨_, Tryz.func21, tr21⟩, ⟨⟨_, Tryz.func20, tr20⟩, ⟨⟨_, Tryz.func19, tr19⟩, trivial, trivial⟩, trivial⟩, ⟨⟨_, Tryz.func23, tr23⟩, ⟨⟨_, Tryz.func22, tr22⟩, trivial, trivial⟩, trivial⟩⟩, ⟨⟨_, Tryz.func27, tr27⟩, ⟨⟨_, Tryz.func26, tr26⟩, ⟨⟨_, Tryz.func25, tr25⟩, trivial, trivial⟩, trivial⟩, ⟨⟨_, Tryz.func29, tr29⟩, ⟨⟨_, Tryz.func28, tr28⟩, trivial, trivial⟩, trivial⟩⟩⟩⟩, ⟨⟨_, Tryz.func44, tr44⟩, ⟨⟨_, Tryz.func37, tr37⟩, ⟨⟨_, Tryz.func33, tr33⟩, ⟨⟨_, Tryz.func32, tr32⟩, ⟨⟨_, Tryz.func31, tr31⟩, trivial, trivial⟩, trivial⟩, ⟨⟨_, Tryz.func36, tr36⟩, ⟨⟨_, Tryz.func35, tr35⟩, trivial, trivial⟩, trivial⟩⟩, ⟨⟨_, Tryz.func41, tr41⟩, ⟨⟨_, Tryz.func40, tr40⟩, ⟨⟨_, Tryz.func39, tr39⟩, trivial, trivial⟩, trivial⟩, ⟨⟨_, Tryz.func43, tr43⟩, ⟨⟨_, Tryz.func42, tr42⟩, trivial, trivial⟩, trivial⟩⟩⟩, ⟨⟨_, Tryz.func53, tr53⟩, ⟨⟨_, Tryz.func49, tr49⟩, ⟨⟨_, Tryz.func46, tr46⟩, ⟨⟨_, Tryz.func45, tr45⟩, trivial, trivial⟩, trivial⟩, ⟨⟨_, Tryz.func52, tr52⟩, ⟨⟨_, Tryz.func51, tr51⟩, trivial, trivial⟩, trivial⟩⟩, ⟨⟨_, Tryz.func56, tr56⟩, ⟨⟨_, Tryz.func55, tr55⟩, ⟨⟨_, Tryz.func54, tr54⟩, trivial, trivial⟩, trivial⟩, ⟨⟨_, Tryz.func57, tr57⟩, trivial, trivial⟩⟩⟩⟩⟩, ⟨⟨_, Tryz.func84, tr84⟩, ⟨⟨_, Tryz.func70, tr70⟩, ⟨⟨_, Tryz.func64, tr64⟩, ⟨⟨_, Tryz.func61, tr61⟩, ⟨⟨_, Tryz.func60, tr60⟩, ⟨⟨_, Tryz.func59, tr59⟩, trivial, trivial⟩, trivial⟩, ⟨⟨_, Tryz.func63, tr63⟩, ⟨⟨_, Tryz.func62, tr62⟩, trivial, trivial⟩, trivial⟩⟩, ⟨⟨_, Tryz.func67, tr67⟩, ⟨⟨_, Tryz.func66, tr66⟩, ⟨⟨_, Tryz.func65, tr65⟩, trivial, trivial⟩, trivial⟩, ⟨⟨_, Tryz.func69, tr69⟩, ⟨⟨_, Tryz.func68, tr68⟩, trivial, trivial⟩, trivial⟩⟩⟩, ⟨⟨_, Tryz.func79, tr79⟩, ⟨⟨_, Tryz.func76, tr76⟩, ⟨⟨_, Tryz.func75, tr75⟩, ⟨⟨_, Tryz.func71, tr71⟩, trivial, trivial⟩, trivial⟩, ⟨⟨_, Tryz.func78, tr78⟩, ⟨⟨_, Tryz.func77, tr77⟩, trivial, trivial⟩, trivial⟩⟩, ⟨⟨_, Tryz.func82, tr82⟩, ⟨⟨_, Tryz.func81, tr81⟩, ⟨⟨_, Tryz.func80, tr80⟩, trivial, trivial⟩, trivial⟩, ⟨⟨_, Tryz.func83, tr83⟩, trivial, trivial⟩⟩⟩⟩, ⟨⟨_, Tryz.func96, tr96⟩, ⟨⟨_, Tryz.func90, tr90⟩, ⟨⟨_, Tryz.func87, tr87⟩, ⟨⟨_, Tryz.func86, tr86⟩, ⟨⟨_, Tryz.func85, tr85⟩, trivial, trivial⟩, trivial⟩, ⟨⟨_, Tryz.func89, tr89⟩, ⟨⟨_, Tryz.func88, tr88⟩, trivial, trivial⟩, trivial⟩⟩, ⟨⟨_, Tryz.func93, tr93⟩, ⟨⟨_, Tryz.func92, tr92⟩, ⟨⟨_, Tryz.func91, tr91⟩, trivial, trivial⟩, trivial⟩, ⟨⟨_, Tryz.func95, tr95⟩, ⟨⟨_, Tryz.func94, tr94⟩, trivial, trivial⟩, trivial⟩⟩⟩, ⟨⟨_, Tryz.func102, tr102⟩, ⟨⟨_, Tryz.func99, tr99⟩, ⟨⟨_, Tryz.func98, tr98⟩, ⟨⟨_, Tryz.func97, tr97⟩, trivial, trivial⟩, trivial⟩, ⟨⟨_, Tryz.func101, tr101⟩, ⟨⟨_, Tryz.func100, tr100⟩, trivial, trivial⟩, trivial⟩⟩, ⟨⟨_, Tryz.func105, tr105⟩, ⟨⟨_, Tryz.func104, tr104⟩, ⟨⟨_, Tryz.func103, tr103⟩, trivial, trivial⟩, trivial⟩, ⟨⟨_, Tryz.func107, tr107⟩, trivial, trivial⟩⟩⟩⟩⟩⟩, ⟨⟨_, Tryz.func177, tr177⟩, ⟨⟨_, Tryz.func138, tr138⟩, ⟨⟨_, Tryz.func122, tr122⟩, ⟨⟨_, Tryz.func115, tr115⟩, ⟨⟨_, Tryz.func111, tr111⟩, ⟨⟨_, Tryz.func110, tr110⟩, ⟨⟨_, Tryz.func109, tr109⟩, trivial, trivial⟩, trivial⟩, ⟨⟨_, Tryz.func113, tr113⟩, ⟨⟨_, Tryz.func112, tr112⟩, trivial, trivial⟩, trivial⟩⟩, ⟨⟨_, Tryz.func118, tr118⟩, ⟨⟨_, Tryz.func117, tr117⟩, ⟨⟨_, Tryz.func116, tr116⟩, trivial, trivial⟩, trivial⟩, ⟨⟨_, Tryz.func121, tr121⟩, ⟨⟨_, Tryz.func120, tr120⟩, trivial, trivial⟩, trivial⟩⟩⟩, ⟨⟨_, Tryz.func132, tr132⟩, ⟨⟨_, Tryz.func125, tr125⟩, ⟨⟨_, Tryz.func124, tr124⟩, ⟨⟨_, Tryz.func123, tr123⟩, trivial, trivial⟩, trivial⟩, ⟨⟨_, Tryz.func131, tr131⟩, ⟨⟨_, Tryz.func130, tr130⟩, trivial, trivial⟩, trivial⟩⟩, ⟨⟨_, Tryz.func135, tr135⟩, ⟨⟨_, Tryz.func134, tr134⟩, ⟨⟨_, Tryz.func133, tr133⟩, trivial, trivial⟩, trivial⟩, ⟨⟨_, Tryz.func137, tr137⟩, ⟨⟨_, Tryz.func136, tr136⟩, trivial, trivial⟩, trivial⟩⟩⟩⟩, ⟨⟨_, Tryz.func158, tr158⟩, ⟨⟨_, Tryz.func144, tr144⟩, ⟨⟨_, Tryz.func141, tr141⟩, ⟨⟨_, Tryz.func140, tr140⟩, ⟨⟨_, Tryz.func139, tr139⟩, trivial, trivial⟩, trivial⟩, ⟨⟨_, Tryz.func143, tr143⟩, ⟨⟨_, Tryz.func142, tr142⟩, trivial, trivial⟩, trivial⟩⟩, ⟨⟨_, Tryz.func155, tr155⟩, ⟨⟨_, Tryz.func154, tr154⟩, ⟨⟨_, Tryz.func145, tr145⟩, trivial, trivial⟩, trivial⟩, ⟨⟨_, Tryz.func157, tr157⟩, ⟨⟨_, Tryz.func156, tr156⟩, trivial, trivial⟩, trivial⟩⟩⟩, ⟨⟨_, Tryz.func172, tr172⟩, ⟨⟨_, Tryz.func166, tr166⟩, ⟨⟨_, Tryz.func164, tr164⟩, ⟨⟨_, Tryz.func159, tr159⟩, trivial, trivial⟩, trivial⟩, ⟨⟨_, Tryz.func170, tr170⟩, ⟨⟨_, Tryz.func168, tr168⟩, trivial, trivial⟩, trivial⟩⟩, ⟨⟨_, Tryz.func175, tr175⟩, ⟨⟨_, Tryz.func174, tr174⟩, ⟨⟨_, Tryz.func173, tr173⟩, trivial, trivial⟩, trivial⟩, ⟨⟨_, Tryz.func176, tr176⟩, trivial, trivial⟩⟩⟩⟩⟩, ⟨⟨_, Tryz.func224, tr224⟩, ⟨⟨_, Tryz.func207, tr207⟩, ⟨⟨_, Tryz.func184, tr184⟩, ⟨⟨_, Tryz.func180, tr180⟩, ⟨⟨_, Tryz.func179, tr179⟩, ⟨⟨_, Tryz.func178, tr178⟩, trivial, trivial⟩, trivial⟩, ⟨⟨_, Tryz.func183, tr183⟩, ⟨⟨_, Tryz.func181, tr181⟩, trivial, trivial⟩, trivial⟩⟩, ⟨⟨_, Tryz.func190, tr190⟩, ⟨⟨_, Tryz.func186, tr186⟩, ⟨⟨_, Tryz.func185, tr185⟩, trivial, trivial⟩, trivial⟩, ⟨⟨_, Tryz.func206, tr206⟩, ⟨⟨_, Tryz.func205, tr205⟩, trivial, trivial⟩, trivial⟩⟩⟩, ⟨⟨_, Tryz.func218, tr218⟩, ⟨⟨_, Tryz.func214, tr214⟩, ⟨⟨_, Tryz.func210, tr210⟩, ⟨⟨_, Tryz.func208, tr208⟩, trivial, trivial⟩, trivial⟩, ⟨⟨_, Tryz.func217, tr217⟩, ⟨⟨_, Tryz.func216, tr216⟩, trivial, trivial⟩, trivial⟩⟩, ⟨⟨_, Tryz.func221, tr221⟩, ⟨⟨_, Tryz.func220, tr220⟩, ⟨⟨_, Tryz.func219, tr219⟩, trivial, trivial⟩, trivial⟩, ⟨⟨_, Tryz.func222, tr222⟩, trivial, trivial⟩⟩⟩⟩, ⟨⟨_, Tryz.func262, tr262⟩, ⟨⟨_, Tryz.func252, tr252⟩, ⟨⟨_, Tryz.func227, tr227⟩, ⟨⟨_, Tryz.func226, tr226⟩, ⟨⟨_, Tryz.func225, tr225⟩, trivial, trivial⟩, trivial⟩, ⟨⟨_, Tryz.func251, tr251⟩, ⟨⟨_, Tryz.func250, tr250⟩, trivial, trivial⟩, trivial⟩⟩, ⟨⟨_, Tryz.func256, tr256⟩, ⟨⟨_, Tryz.func254, tr254⟩, ⟨⟨_, Tryz.func253, tr253⟩, trivial, trivial⟩, trivial⟩, ⟨⟨_, Tryz.func258, tr258⟩, ⟨⟨_, Tryz.func257, tr257⟩, trivial, trivial⟩, trivial⟩⟩⟩, ⟨⟨_, Tryz.func286, tr286⟩, ⟨⟨_, Tryz.func266, tr266⟩, ⟨⟨_, Tryz.func265, tr265⟩, ⟨⟨_, Tryz.func264, tr264⟩, trivial, trivial⟩, trivial⟩, ⟨⟨_, Tryz.func268, tr268⟩, ⟨⟨_, Tryz.func267, tr267⟩, trivial, trivial⟩, trivial⟩⟩, ⟨⟨_, Tryz.func302, tr302⟩, ⟨⟨_, Tryz.func300, tr300⟩, ⟨⟨_, Tryz.func287, tr287⟩, trivial, trivial⟩, trivial⟩, ⟨⟨_, Tryz.func303, tr303⟩, trivial, trivial⟩⟩⟩⟩⟩⟩⟩

theorem bears_auto {P : Program} {f : FuncId} {B : Func} (h1 : (((P.funcs[f]?).getD default).name == "runtime.NumGoroutine") = false) (h2 : P.funcs[f]? = some { B with name := ((P.funcs[f]?).getD default).name }) : Go.Proofs.Bears P f B := ⟨_, h1, h2⟩
def renS : Ren := { f := fun n => match n with | 5 => 213 | 7 => 260 | 8 => 261 | 10 => 290 | 11 => 291 | 12 => 292 | 13 => 293 | 14 => 294 | 15 => 295 | 16 => 126 | 17 => 296 | 18 => 297 | 19 => 298 | 20 => 299 | 30 => 333 | 31 => 334 | 32 => 335 | 33 => 336 | 34 => 337 | 35 => 161 | 40 => 359 | n => n, t := fun n => match n with | 0 => 0 | 3 => 3 | 4 => 4 | 5 => 5 | 9 => 9 | 22 => 23 | 23 => 23 | 25 => 3 | 32 => 274 | 35 => 449 | 36 => 450 | 41 => 203 | 44 => 376 | 46 => 187 | 53 => 474 | 57 => 422 | 63 => 492 | 64 => 487 | n => n, g := fun n => n }
theorem laysS : SlLaysM.n5 Tryz.prog renS := by
  constructor
  all_goals first
    | kernel_rfl
    | (intro w; kernel_rfl)
    | exact bears_auto (by kernel_rfl) (by kernel_rfl)
def renK0 : Ren := { f := fun n => match n with | 6 => 158 | 7 => 159 | 8 => 212 | 9 => 213 | 10 => 214 | 11 => 259 | n => n, t := fun n => match n with | 0 => 0 | 3 => 272 | 4 => 4 | 5 => 5 | 9 => 9 | 23 => 260 | 24 => 23 | 26 => 3 | 27 => 333 | 28 => 334 | 33 => 228 | 37 => 274 | 39 => 449 | 40 => 450 | 45 => 203 | 48 => 376 | 50 => 187 | 51 => 474 | 55 => 422 | 57 => 492 | 58 => 487 | n => n, g := fun n => n }
theorem laysK0 : SlLaysZI.n7 Tryz.prog renK0 := by
  constructor
  all_goals first
    | kernel_rfl
    | (intro w; kernel_rfl)
    | exact bears_auto (by kernel_rfl) (by kernel_rfl)
theorem laysO : SlLaysZI.n6 Tryz.prog renK0 := by
  constructor
  all_goals first
    | kernel_rfl
    | (intro w; kernel_rfl)
    | exact bears_auto (by kernel_rfl) (by kernel_rfl)
theorem sorts (m : Nat) : Go.Proofs.AnyZI.SortsIn Tryz.prog renK0 Fence.wide m :=
  ⟨fun blk off cap ss W hH hblk hsz => callsIn_wide.2 (Go.Proofs.AnyM.slices_Sort_int laysS blk off cap ss W hH hblk hsz), fun p cap W => callsIn_wide.2 (Go.Proofs.AnyM.slices_Sort_int_none laysS p cap W)⟩
def renI : Ren := { f := fun n => match n with | 21 => 107 | 27 => 128 | 28 => 129 | 35 => 162 | 39 => 183 | n => n, t := fun n => match n with | 22 => 23 | n => n, g := fun n => n }
theorem laysI : Lays2.n21 Tryz.prog renI := by
  constructor
  all_goals first
    | kernel_rfl
    | (intro w; kernel_rfl)
noncomputable def env : Env := { fn := tab.find, intr := fun k => bif Nat.beq k 159 then some (fun all s => J1 all 214 s) else bif Nat.beq k 158 then some (fun all s => XB 214 all s) else bif Nat.beq k 107 then some (FI) else none, lf := 100000 }
theorem env_ok : Fe Tryz.prog env := by
  refine ⟨by kernel_rfl, fun k df h => BT.find_all tab_ok h, fun k F h => ?_⟩
  have h : (bif Nat.beq k 159 then some (fun all s => J1 all 214 s) else bif Nat.beq k 158 then some (fun all s => XB 214 all s) else bif Nat.beq k 107 then some (FI) else none) = some F := h
  cases hb159 : Nat.beq k 159 with
  | true =>
    rw [hb159] at h
    simp only [cond_true, Option.some.injEq] at h
    subst h
    rw [Nat.eq_of_beq_eq_true hb159]
    exact Ru (ρ := renK0) laysK0 (fun X w => ZU Tryz.func159 (by kernel_rfl) (by kernel_rfl) X w)
  | false =>
    rw [hb159] at h
    simp only [cond_false] at h
    cases hb158 : Nat.beq k 158 with
    | true =>
      rw [hb158] at h
      simp only [cond_true, Option.some.injEq] at h
      subst h
      rw [Nat.eq_of_beq_eq_true hb158]
      exact Cl (ρ := renK0) laysO { laysK0 with } sorts (fun X w => ZU Tryz.func213 (by kernel_rfl) (by kernel_rfl) X w) (fun X w => ZU Tryz.func158 (by kernel_rfl) (by kernel_rfl) X w)
    | false =>
      rw [hb158] at h
      simp only [cond_false] at h
      cases hb107 : Nat.beq k 107 with
      | true =>
        rw [hb107] at h
        simp only [cond_true, Option.some.injEq] at h
        subst h
        rw [Nat.eq_of_beq_eq_true hb107]
        exact P6 (ρ := renI) laysI (fun X w => ZU Tryz.func107 (by kernel_rfl) (by kernel_rfl) X w)
      | false =>
        rw [hb107] at h
        simp only [cond_false] at h
        cases h

theorem runsL : P3 (VV env 200 (.func (.func 6) #[] #[]) [] s0) = true := by kernel_rfl
theorem livesL (W : World) : Calls Tryz.prog 6 #[] W fun e w' => e = .returned (.bool true) ∧ Kept W w' := top env_ok runsL (fun _ => .nil) W
noncomputable def FL : Env := { fn := tab.find, intr := fun k => bif Nat.beq k 6 then some KM else env.intr k, lf := 200000 }
theorem env2_ok : Fe Tryz.prog FL := by
  refine ⟨env_ok.mixed, fun k df h => BT.find_all tab_ok h, fun k F h => ?_⟩
  have h : (bif Nat.beq k 6 then some KM else env.intr k) = some F := h
  cases hb : Nat.beq k 6 with
  | true =>
    rw [hb] at h
    simp only [cond_true, Option.some.injEq] at h
    subst h
    rw [Nat.eq_of_beq_eq_true hb]
    exact C5 livesL (fun X w => ZU Tryz.func6 (by kernel_rfl) (by kernel_rfl) X w)
  | false =>
    rw [hb] at h
    simp only [cond_false] at h
    exact env_ok.intr k F h
theorem cfns : Go.Dx.TbA.VO FL := by constructor <;> first | rfl | exact of_decide_eq_true rfl | exact fun d => (YD env2_ok d).1
theorem gfns : Go.Dx.TbA.VN FL := by constructor <;> first | rfl | exact of_decide_eq_true rfl | exact fun d => (YD env2_ok d).1
theorem rdfns : Go.Dx.TbA.Vm FL := by constructor <;> first | rfl | exact of_decide_eq_true rfl | exact fun d => (YD env2_ok d).1
theorem tfns : Go.Dx.TbA.CO FL := by constructor <;> first | rfl | exact of_decide_eq_true rfl | exact fun d => (YD env2_ok d).1
theorem qfns : Go.Dx.TbA.RY FL := by constructor <;> first | rfl | exact of_decide_eq_true rfl | exact fun d => (YD env2_ok d).1
theorem rifns : Go.Dx.TbA.QP FL := by constructor <;> first | rfl | exact of_decide_eq_true rfl | exact fun d => (YD env2_ok d).1
theorem flat_u8 : ∀ l : List (List Value), (∀ x, x ∈ l → ∃ n, x = [.int .u8 n] ∧ 0 ≤ n ∧ n < 256) → l.flatten = u8s (l.map fun x => TE (getN x 0))
  | [], _ => rfl
  | x :: l, h => by
    obtain ⟨n, rfl, _⟩ := h x (List.mem_cons_self ..)
    rw [List.flatten_cons, flat_u8 l fun y hy => h y (List.mem_cons_of_mem _ hy)]
    rfl
theorem rowR {W : World} {v0 : Value} {l0 : List (List Value)} (m0 : Cc W [.int .u8] v0 l0) {s : DS} {β : Emb} {v' : Value} (hv : VRel β v' v0) (hin : Cd s v' l0) :
    SlR s v' (l0.map fun x => TE (getN x 0)) ∧ IsB (l0.map fun x => TE (getN x 0)) ∧ l0.length ≤ 9223372036854775807 := by
  have hf : ∀ x, x ∈ l0 → Zw [.int .u8] x := by
    rcases m0 with ⟨_, rfl⟩ | ⟨_, _, _, _, _, _, _, h, _⟩
    · exact fun _ h => (nomatch h)
    · exact h
  have hmax : l0.length ≤ 9223372036854775807 := by
    rcases m0 with ⟨_, rfl⟩ | ⟨_, _, c, _, h1, h2, _⟩
    · simp
    · exact Nat.le_trans h1 h2
  have hel : ∀ x, x ∈ l0 → ∃ n, x = [.int .u8 n] ∧ 0 ≤ n ∧ n < 256 := fun x hx => by
    obtain ⟨c, r, rfl, ⟨n, rfl, hw⟩, hr⟩ := Zw.cons (hf x hx)
    obtain rfl := Zw.nil hr
    simp [Lit.wf, IntKind.min, IntKind.max, IntKind.signed, IntKind.bits] at hw
    exact ⟨n, rfl, by omega, by omega⟩
  refine ⟨?_, fun b hb => ?_, hmax⟩
  · rcases hin with ⟨rfl, rfl⟩ | ⟨b, c, rfl, hg⟩
    · exact .inl ⟨rfl, rfl⟩
    · refine .inr ⟨b, 0, none, c, by rw [List.length_map], .inl rfl, ?_, ?_⟩
      · rw [List.length_map]
        rcases m0 with ⟨rfl, rfl⟩ | ⟨_, _, c0, rfl, h1, _⟩
        · exact Nat.zero_le _
        · cases hv
          exact h1
      · unfold DS.read
        rw [hg]
        show (Cells.list l0.flatten).take 0 _ = _
        rw [flat_u8 l0 hel]
        refine Jn (List.length_map ..) fun i hi => ?_
        rw [Nat.zero_add]
        show getN _ i = _
        rw [z8]
  · obtain ⟨x, hx, rfl⟩ := List.mem_map.1 hb
    obtain ⟨n, rfl, h1, h2⟩ := hel x hx
    exact ⟨h1, h2⟩
theorem walk (v0 : Value) (l0 : List (List Value)) {W : World} (m0 : Cc W [.int .u8] v0 l0) : Calls Tryz.prog 4 #[v0] W fun e w' => e = .returned (.bool true) ∧ Kept W w' := by
  obtain ⟨s, β, v', hv, hR, hn, hro, hG, hin⟩ := Tr (P := Tryz.prog) m0 rfl
  obtain ⟨hs, hB, hmax⟩ := rowR m0 hv hin
  have hmax' : ((l0.map fun x => TE (getN x 0)).length : Int) ≤ 9223372036854775807 := by rw [List.length_map]; omega
  obtain ⟨⟨rv, s'⟩, hr, hq⟩ := Go.Dx.TbA.Pl cfns gfns rdfns tfns qfns rifns rfl rfl rfl rfl rfl rfl rfl rfl rfl rfl rfl hG (d := 0) hs hB hmax'
  simp only at hq
  subst hq
  exact NX env2_ok hr (.cons hv .nil) hR hn hro
end Go.Proofs.YthmgnfeljhdioaaGreat.opsReads
