/- OpsCodes returns true for every input, and leaves what it was given as it was. -/
import Derived.Test.YthmgnfeljhdioaaGreatRows
import Derived.Test.YthmgnfeljhdioaaGreatDxGz
import Derived.Test.YthmgnfeljhdioaaGreatDxRow
import Derived.Test.YthmgnfeljhdioaaGreatDxSorted
import Derived.Shelf.SortM.Plain
import Derived.Shelf.SortM.SortNone
import Derived.Shelf.Lays2
import Derived.Test.YthmgnfeljhdioaaGreatDxIns
import Derived.Test.YthmgnfeljhdioaaGreatP1Ia
import Derived.Test.YthmgnfeljhdioaaGreatDxTopM
import Derived.Test.YthmgnfeljhdioaaGreatDxFld
namespace Go.Proofs.YthmgnfeljhdioaaGreat.opsCodes
open Go.ChangeShapes Go.WideShapes Go.ChangeAt Go.RowKit Go.Dx Go.Shelf
set_option linter.unusedVariables false
set_option linter.unusedSimpArgs false
set_option maxRecDepth 100000
set_option maxHeartbeats 4000000

/-! ### The evaluator's tables -/
inductive BT where
  | leaf
  | node (k : Nat) (d : zf) (l r : BT)
def BT.find : BT → Nat → Option zf
  | .leaf, _ => none
  | .node k d l r, x => bif Nat.beq x k then some d else bif Nat.blt x k then l.find x else r.find x
def BT.All (Q : Nat → zf → Prop) : BT → Prop
  | .leaf => True
  | .node k d l r => Q k d ∧ l.All Q ∧ r.All Q
theorem BT.find_all {Q : Nat → zf → Prop} : ∀ {t : BT} {x : Nat} {d : zf}, t.All Q → t.find x = some d → Q x d
  | .leaf, x, d, _, h => by cases h
  | .node k d0 l r, x, d, ⟨h1, h2, h3⟩, h => by
    unfold BT.find at h
    cases hb : Nat.beq x k with
    | true =>
      rw [hb] at h
      simp only [cond_true, Option.some.injEq] at h
      subst h
      rw [Nat.eq_of_beq_eq_true hb]; exact h1
    | false =>
      rw [hb] at h
      cases hl : Nat.blt x k with
      | true => rw [hl] at h; exact BT.find_all h2 h
      | false => rw [hl] at h; exact BT.find_all h3 h
def FnOk (k : Nat) (df : zf) : Prop := ∃ f, Tryz.prog.funcs[k]? = some f ∧ zd Tryz.prog f = some df
def tab : BT := (.node 105 d105 (.node 54 d54 (.node 27 d27 (.node 15 d15 (.node 9 d9 (.node 6 d6 (.node 5 d5 (.node 3 d3 .leaf .leaf) .leaf) (.node 8 d8 (.node 7 d7 .leaf .leaf) .leaf)) (.node 12 d12 (.node 11 d11 (.node 10 d10 .leaf .leaf) .leaf) (.node 14 d14 (.node 13 d13 .leaf .leaf) .leaf))) (.node 21 d21 (.node 18 d18 (.node 17 d17 (.node 16 d16 .leaf .leaf) .leaf) (.node 20 d20 (.node 19 d19 .leaf .leaf) .leaf)) (.node 24 d24 (.node 23 d23 (.node 22 d22 .leaf .leaf) .leaf) (.node 26 d26 (.node 25 d25 .leaf .leaf) .leaf)))) (.node 39 d39 (.node 33 d33 (.node 30 d30 (.node 29 d29 (.node 28 d28 .leaf .leaf) .leaf) (.node 32 d32 (.node 31 d31 .leaf .leaf) .leaf)) (.node 36 d36 (.node 35 d35 (.node 34 d34 .leaf .leaf) .leaf) (.node 38 d38 (.node 37 d37 .leaf .leaf) .leaf))) (.node 45 d45 (.node 42 d42 (.node 41 d41 (.node 40 d40 .leaf .leaf) .leaf) (.node 44 d44 (.node 43 d43 .leaf .leaf) .leaf)) (.node 51 d51 (.node 49 d49 (.node 46 d46 .leaf .leaf) .leaf) (.node 53 d53 (.node 52 d52 .leaf .leaf) .leaf))))) (.node 81 d81 (.node 66 d66 (.node 60 d60 (.node 57 d57 (.node 56 d56 (.node 55 d55 .leaf .leaf) .leaf) (.node 59 d59 (.node 58 d58 .leaf .leaf) .leaf)) (.node 63 d63 (.node 62 d62 (.node 61 d61 .leaf .leaf) .leaf) (.node 65 d65 (.node 64 d64 .leaf .leaf) .leaf))) (.node 75 d75 (.node 69 d69 (.node 68 d68 (.node 67 d67 .leaf .leaf) .leaf) (.node 71 d71 (.node 70 d70 .leaf .leaf) .leaf)) (.node 78 d78 (.node 77 d77 (.node 76 d76 .leaf .leaf) .leaf) (.node 80 d80 (.node 79 d79 .leaf .leaf) .leaf)))) (.node 93 d93 (.node 87 d87 (.node 84 d84 (.node 83 d83 (.node 82 d82 .leaf .leaf) .leaf) (.node 86 d86 (.node 85 d85 .leaf .leaf) .leaf)) (.node 90 d90 (.node 89 d89 (.node 88 d88 .leaf .leaf) .leaf) (.node 92 d92 (.node 91 d91 .leaf .leaf) .leaf))) (.node 99 d99 (.node 96 d96 (.node 95 d95 (.node 94 d94 .leaf .leaf) .leaf) (.node 98 d98 (.node 97 d97 .leaf .leaf) .leaf)) (.node 102 d102 (.node 101 d101 (.node 100 d100 .leaf .leaf) .leaf) (.node 104 d104 (.node 103 d103 .leaf .leaf) .leaf)))))) (.node 176 d176 (.node 136 d136 (.node 120 d120 (.node 112 d112 (.node 109 d109 (.node 108 d108 (.node 107 d107 .leaf .leaf) .leaf) (.node 111 d111 (.node 110 d110 .leaf .leaf) .leaf)) (.node 116 d116 (.node 115 d115 (.node 113 d113 .leaf .leaf) .leaf) (.node 118 d118 (.node 117 d117 .leaf .leaf) .leaf))) (.node 130 d130 (.node 123 d123 (.node 122 d122 (.node 121 d121 .leaf .leaf) .leaf) (.node 125 d125 (.node 124 d124 .leaf .leaf) .leaf)) (.node 133 d133 (.node 132 d132 (.node 131 d131 .leaf .leaf) .leaf) (.node 135 d135 (.node 134 d134 .leaf .leaf) .leaf)))) (.node 156 d156 (.node 142 d142 (.node 139 d139 (.node 138 d138 (.node 137 d137 .leaf .leaf) .leaf) (.node 141 d141 (.node 140 d140 .leaf .leaf) .leaf)) (.node 145 d145 (.node 144 d144 (.node 143 d143 .leaf .leaf) .leaf) (.node 155 d155 (.node 154 d154 .leaf .leaf) .leaf))) (.node 168 d168 (.node 159 d159 (.node 158 d158 (.node 157 d157 .leaf .leaf) .leaf) (.node 166 d166 (.node 164 d164 .leaf .leaf) .leaf)) (.node 173 d173 (.node 172 d172 (.node 170 d170 .leaf .leaf) .leaf) (.node 175 d175 (.node 174 d174 .leaf .leaf) .leaf))))) (.node 224 d224 (.node 206 d206 (.node 183 d183 (.node 179 d179 (.node 178 d178 (.node 177 d177 .leaf .leaf) .leaf) (.node 181 d181 (.node 180 d180 .leaf .leaf) .leaf)) (.node 186 d186 (.node 185 d185 (.node 184 d184 .leaf .leaf) .leaf) (.node 205 d205 (.node 190 d190 .leaf .leaf) .leaf))) (.node 217 d217 (.node 210 d210 (.node 208 d208 (.node 207 d207 .leaf .leaf) .leaf) (.node 216 d216 (.node 214 d214 .leaf .leaf) .leaf)) (.node 220 d220 (.node 219 d219 (.node 218 d218 .leaf .leaf) .leaf) (.node 222 d222 (.node 221 d221 .leaf .leaf) .leaf)))) (.node 262 d262 (.node 252 d252 (.node 227 d227 (.node 226 d226 (.node 225 d225 .leaf .leaf) .leaf) (.node 251 d251 (.node 250 d250 .leaf .leaf) .leaf)) (.node 256 d256 (.node 254 d254 (.node 253 d253 .leaf .leaf) .leaf) (.node 258 d258 (.node 257 d257 .leaf .leaf) .leaf))) (.node 286 d286 (.node 266 d266 (.node 265 d265 (.node 264 d264 .leaf .leaf) .leaf) (.node 268 d268 (.node 267 d267 .leaf .leaf) .leaf)) (.node 302 d302 (.node 300 d300 (.node 287 d287 .leaf .leaf) .leaf) (.node 303 d303 .leaf .leaf)))))))
theorem tab_ok : tab.All FnOk := ⟨⟨_, Tryz.func105, tr105⟩, ⟨⟨_, Tryz.func54, tr54⟩, ⟨⟨_, Tryz.func27, tr27⟩, ⟨⟨_, Tryz.func15, tr15⟩, ⟨⟨_, Tryz.func9, tr9⟩, ⟨⟨_, Tryz.func6, tr6⟩, ⟨⟨_, Tryz.func5, tr5⟩, ⟨⟨_, Tryz.func3, tr3⟩, trivial, trivial⟩, trivial⟩, ⟨⟨_, Tryz.func8, tr8⟩, ⟨⟨_, Tryz.func7, tr7⟩, trivial, trivial⟩, trivial⟩⟩, ⟨⟨_, Tryz.func12, tr12⟩, ⟨⟨_, Tryz.func11, tr11⟩, ⟨⟨_, Tryz.func10, tr10⟩, trivial, trivial⟩, trivial⟩, ⟨⟨_, Tryz.func14, tr14⟩, ⟨⟨_, Tryz.func13, tr13⟩, trivial, trivial⟩, trivial⟩⟩⟩, ⟨⟨_, Tryz.func21, tr21⟩, ⟨⟨_, Tryz.func18, tr18⟩, ⟨⟨_, Tryz.func17, tr17⟩, ⟨⟨_, Tryz.func16, tr16⟩, trivial, trivial⟩, trivial⟩, ⟨⟨_, Tryz.func20, tr20⟩, ⟨⟨_, Tryz.func19, tr19⟩, trivial, trivial⟩, trivial⟩⟩, ⟨⟨_, Tryz.func24, tr24⟩, ⟨⟨_, Tryz.func23, tr23⟩, ⟨⟨_, Tryz.func22, tr22⟩, trivial, trivial⟩, trivial⟩, ⟨⟨_, Tryz.func26, tr26⟩, ⟨⟨_, Tryz.func25, tr25⟩, trivial, trivial⟩, trivial⟩⟩⟩⟩, ⟨⟨_, Tryz.func39, tr39⟩, ⟨⟨_, Tryz.func33, tr33⟩, ⟨⟨_, Tryz.func30, tr30⟩, ⟨⟨_, Tryz.func29, tr29⟩, ⟨⟨_, Tryz.func28, tr28⟩, trivial, trivial⟩, trivial⟩, ⟨⟨_, Tryz.func32, tr32⟩, ⟨⟨_, Tryz.func31, tr31⟩, trivial, trivial⟩, trivial⟩⟩, ⟨⟨_, Tryz.func36, tr36⟩, ⟨⟨_, Tryz.func35, tr35⟩, ⟨⟨_, Tryz.func34, tr34⟩, trivial, trivial⟩, trivial⟩, ⟨⟨_, Tryz.func38, tr38⟩, ⟨⟨_, Tryz.func37, tr37⟩, trivial, trivial⟩, trivial⟩⟩⟩, ⟨⟨_, Tryz.func45, tr45⟩, ⟨⟨_, Tryz.func42, tr42⟩, ⟨⟨_, Tryz.func41, tr41⟩, ⟨⟨_, Tryz.func40, tr40⟩, trivial, trivial⟩, trivial⟩, ⟨⟨_, Tryz.func44, tr44⟩, ⟨⟨_, Tryz.func43, tr43⟩, trivial, trivial⟩, trivial⟩⟩, ⟨⟨_, Tryz.func51, tr51⟩, ⟨⟨_, Tryz.func49, tr49⟩, ⟨⟨_, Tryz.func46, tr46⟩, trivial, trivial⟩, trivial⟩, ⟨⟨_, Tryz.func53, tr53⟩, ⟨⟨_, Tryz.func52, tr52⟩, trivial, trivial⟩, trivial⟩⟩⟩⟩⟩, ⟨⟨_, Tryz.func81, tr81⟩, ⟨⟨_, Tryz.func66, tr66⟩, ⟨⟨_, Tryz.func60, tr60⟩, ⟨⟨_, Tryz.func57, tr57⟩, ⟨⟨_, Tryz.func56, tr56⟩, ⟨⟨_, Tryz.func55, tr55⟩, trivial, trivial⟩, trivial⟩, ⟨⟨_, Tryz.func59, tr59⟩, ⟨⟨_, Tryz.func58, tr58⟩, trivial, trivial⟩, trivial⟩⟩, ⟨⟨_, Tryz.func63, tr63⟩, ⟨⟨_, Tryz.func62, tr62⟩, ⟨⟨_, Tryz.func61, tr61⟩, trivial, trivial⟩, trivial⟩, ⟨⟨_, Tryz.func65, tr65⟩, ⟨⟨_, Tryz.func64, tr64⟩, trivial, trivial⟩, trivial⟩⟩⟩, ⟨⟨_, Tryz.func75, tr75⟩, ⟨⟨_, Tryz.func69, tr69⟩, ⟨⟨_, Tryz.func68, tr68⟩, ⟨⟨_, Tryz.func67, tr67⟩, trivial, trivial⟩, trivial⟩, ⟨⟨_, Tryz.func71, tr71⟩, ⟨⟨_, Tryz.func70, tr70⟩, trivial, trivial⟩, trivial⟩⟩, ⟨⟨_, Tryz.func78, tr78⟩, ⟨⟨_, Tryz.func77, tr77⟩, ⟨⟨_, Tryz.func76, tr76⟩, trivial, trivial⟩, trivial⟩, ⟨⟨_, Tryz.func80, tr80⟩, ⟨⟨_, Tryz.func79, tr79⟩, trivial, trivial⟩, trivial⟩⟩⟩⟩, ⟨⟨_, Tryz.func93, tr93⟩, ⟨⟨_, Tryz.func87, tr87⟩, ⟨⟨_, Tryz.func84, tr84⟩, ⟨⟨_, Tryz.func83, tr83⟩, ⟨⟨_, Tryz.func82, tr82⟩, trivial, trivial⟩, trivial⟩, ⟨⟨_, Tryz.func86, tr86⟩, ⟨⟨_, Tryz.func85, tr85⟩, trivial, trivial⟩, trivial⟩⟩, ⟨⟨_, Tryz.func90, tr90⟩, ⟨⟨_, Tryz.func89, tr89⟩, ⟨⟨_, Tryz.func88, tr88⟩, trivial, trivial⟩, trivial⟩, ⟨⟨_, Tryz.func92, tr92⟩, ⟨⟨_, Tryz.func91, tr91⟩, trivial, trivial⟩, trivial⟩⟩⟩, ⟨⟨_, Tryz.func99, tr99⟩, ⟨⟨_, Tryz.func96, tr96⟩, ⟨⟨_, Tryz.func95, tr95⟩, ⟨⟨_, Tryz.func94, tr94⟩, trivial, trivial⟩, trivial⟩, ⟨⟨_, Tryz.func98, tr98⟩, ⟨⟨_, Tryz.func97, tr97⟩, trivial, trivial⟩, trivial⟩⟩, ⟨⟨_, Tryz.func102, tr102⟩, ⟨⟨_, Tryz.func101, tr101⟩, ⟨⟨_, Tryz.func100, tr100⟩, trivial, trivial⟩, trivial⟩, ⟨⟨_, Tryz.func104, tr104⟩, ⟨⟨_, Tryz.func103, tr103⟩, trivial, trivial⟩, trivial⟩⟩⟩⟩⟩⟩, ⟨⟨_, Tryz.func176, tr176⟩, ⟨⟨_, Tryz.func136, tr136⟩, ⟨⟨_, Tryz.func120, tr120⟩, ⟨⟨_, Tryz.func112, tr112⟩, ⟨⟨_, Tryz.func109, tr109⟩, ⟨⟨_, Tryz.func108, tr108⟩, ⟨⟨_, Tryz.func107, tr107⟩, trivial, trivial⟩, trivial⟩, ⟨⟨_, Tryz.func111, tr111⟩, ⟨⟨_, Tryz.func110, tr110⟩, trivial, trivial⟩, trivial⟩⟩, ⟨⟨_, Tryz.func116, tr116⟩, ⟨⟨_, Tryz.func115, tr115⟩, ⟨⟨_, Tryz.func113, tr113⟩, trivial, trivial⟩, trivial⟩, ⟨⟨_, Tryz.func118, tr118⟩, ⟨⟨_, Tryz.func117, tr117⟩, trivial, trivial⟩, trivial⟩⟩⟩, ⟨⟨_, Tryz.func130, tr130⟩, ⟨⟨_, Tryz.func123, tr123⟩, ⟨⟨_, Tryz.func122, tr122⟩, ⟨⟨_, Tryz.func121, tr121⟩, trivial, trivial⟩, trivial⟩, ⟨⟨_, Tryz.func125, tr125⟩, ⟨⟨_, Tryz.func124, tr124⟩, trivial, trivial⟩, trivial⟩⟩, ⟨⟨_, Tryz.func133, tr133⟩, ⟨⟨_, Tryz.func132, tr132⟩, ⟨⟨_, Tryz.func131, tr131⟩, trivial, trivial⟩, trivial⟩, ⟨⟨_, Tryz.func135, tr135⟩, ⟨⟨_, Tryz.func134, tr134⟩, trivial, trivial⟩, trivial⟩⟩⟩⟩, ⟨⟨_, Tryz.func156, tr156⟩, ⟨⟨_, Tryz.func142, tr142⟩, ⟨⟨_, Tryz.func139, tr139⟩, ⟨⟨_, Tryz.func138, tr138⟩, ⟨⟨_, Tryz.func137, tr137⟩, trivial, trivial⟩, trivial⟩, ⟨⟨_, Tryz.func141, tr141⟩, ⟨⟨_, Tryz.func140, tr140⟩, trivial, trivial⟩, trivial⟩⟩, ⟨⟨_, Tryz.func145, tr145⟩, ⟨⟨_, Tryz.func144, tr144⟩, ⟨⟨_, Tryz.func143, tr143⟩, trivial, trivial⟩, trivial⟩, ⟨⟨_, Tryz.func155, tr155⟩, ⟨⟨_, Tryz.func154, tr154⟩, trivial, trivial⟩, trivial⟩⟩⟩, ⟨⟨_, Tryz.func168, tr168⟩, ⟨⟨_, Tryz.func159, tr159⟩, ⟨⟨_, Tryz.func158, tr158⟩, ⟨⟨_, Tryz.func157, tr157⟩, trivial, trivial⟩, trivial⟩, ⟨⟨_, Tryz.func166, tr166⟩, ⟨⟨_, Tryz.func164, tr164⟩, trivial, trivial⟩, trivial⟩⟩, ⟨⟨_, Tryz.func173, tr173⟩, ⟨⟨_, Tryz.func172, tr172⟩, ⟨⟨_, Tryz.func170, tr170⟩, trivial, trivial⟩, trivial⟩, ⟨⟨_, Tryz.func175, tr175⟩, ⟨⟨_, Tryz.func174, tr174⟩, trivial, trivial⟩, trivial⟩⟩⟩⟩⟩, ⟨⟨_, Tryz.func224, tr224⟩, ⟨⟨_, Tryz.func206, tr206⟩, ⟨⟨_, Tryz.func183, tr183⟩, ⟨⟨_, Tryz.func179, tr179⟩, ⟨⟨_, Tryz.func178, tr178⟩, ⟨⟨_, Tryz.func177, tr177⟩, trivial, trivial⟩, trivial⟩, ⟨⟨_, Tryz.func181, tr181⟩, ⟨⟨_, Tryz.func180, tr180⟩, trivial, trivial⟩, trivial⟩⟩, ⟨⟨_, Tryz.func186, tr186⟩, ⟨⟨_, Tryz.func185, tr185⟩, ⟨⟨_, Tryz.func184, tr184⟩, trivial, trivial⟩, trivial⟩, ⟨⟨_, Tryz.func205, tr205⟩, ⟨⟨_, Tryz.func190, tr190⟩, trivial, trivial⟩, trivial⟩⟩⟩, ⟨⟨_, Tryz.func217, tr217⟩, ⟨⟨_, Tryz.func210, tr210⟩, ⟨⟨_, Tryz.func208, tr208⟩, ⟨⟨_, Tryz.func207, tr207⟩, trivial, trivial⟩, trivial⟩, ⟨⟨_, Tryz.func216, tr216⟩, ⟨⟨_, Tryz.func214, tr214⟩, trivial, trivial⟩, trivial⟩⟩, ⟨⟨_, Tryz.func220, tr220⟩, ⟨⟨_, Tryz.func219, tr219⟩, ⟨⟨_, Tryz.func218, tr218⟩, trivial, trivial⟩, trivial⟩, ⟨⟨_, Tryz.func222, tr222⟩, ⟨⟨_, Tryz.func221, tr221⟩, trivial, trivial⟩, trivial⟩⟩⟩⟩, ⟨⟨_, Tryz.func262, tr262⟩, ⟨⟨_, Tryz.func252, tr252⟩, ⟨⟨_, Tryz.func227, tr227⟩, ⟨⟨_, Tryz.func226, tr226⟩, ⟨⟨_, Tryz.func225, tr225⟩, trivial, trivial⟩, trivial⟩, ⟨⟨_, Tryz.func251, tr251⟩, ⟨⟨_, Tryz.func250, tr250⟩, trivial, trivial⟩, trivial⟩⟩, ⟨⟨_, Tryz.func256, tr256⟩, ⟨⟨_, Tryz.func254, tr254⟩, ⟨⟨_, Tryz.func253, tr253⟩, trivial, trivial⟩, trivial⟩, ⟨⟨_, Tryz.func258, tr258⟩, ⟨⟨_, Tryz.func257, tr257⟩, trivial, trivial⟩, trivial⟩⟩⟩, ⟨⟨_, Tryz.func286, tr286⟩, ⟨⟨_, Tryz.func266, tr266⟩, ⟨⟨_, Tryz.func265, tr265⟩, ⟨⟨_, Tryz.func264, tr264⟩, trivial, trivial⟩, trivial⟩, ⟨⟨_, Tryz.func268, tr268⟩, ⟨⟨_, Tryz.func267, tr267⟩, trivial, trivial⟩, trivial⟩⟩, ⟨⟨_, Tryz.func302, tr302⟩, ⟨⟨_, Tryz.func300, tr300⟩, ⟨⟨_, Tryz.func287, tr287⟩, trivial, trivial⟩, trivial⟩, ⟨⟨_, Tryz.func303, tr303⟩, trivial, trivial⟩⟩⟩⟩⟩⟩⟩

theorem bears_auto {P : Program} {f : FuncId} {B : Func} (h1 : (((P.funcs[f]?).getD default).name == "runtime.NumGoroutine") = false) (h2 : P.funcs[f]? = some { B with name := ((P.funcs[f]?).getD default).name }) : Go.Proofs.Bears P f B := ⟨_, h1, h2⟩
def renS : Ren := { f := fun n => match n with | 5 => 213 | 7 => 260 | 8 => 261 | 10 => 290 | 11 => 291 | 12 => 292 | 13 => 293 | 14 => 294 | 15 => 295 | 16 => 126 | 17 => 296 | 18 => 297 | 19 => 298 | 20 => 299 | 30 => 333 | 31 => 334 | 32 => 335 | 33 => 336 | 34 => 337 | 35 => 161 | 40 => 359 | n => n, t := fun n => match n with | 0 => 0 | 3 => 3 | 4 => 4 | 5 => 5 | 9 => 9 | 22 => 23 | 23 => 23 | 25 => 3 | 32 => 274 | 35 => 449 | 36 => 450 | 41 => 203 | 44 => 376 | 46 => 187 | 53 => 474 | 57 => 422 | 63 => 492 | 64 => 487 | n => n, g := fun n => n }
theorem laysS : SlLaysM.n5 Tryz.prog renS := by
  constructor
  all_goals first
    | kernel_rfl
    | (intro w; kernel_rfl)
    | exact bears_auto (by kernel_rfl) (by kernel_rfl)
def renK0 : Ren := { f := fun n => match n with | 6 => 158 | 7 => 159 | 8 => 212 | 9 => 213 | 10 => 214 | 11 => 259 | n => n, t := fun n => match n with | 0 => 0 | 3 => 272 | 4 => 4 | 5 => 5 | 9 => 9 | 23 => 260 | 24 => 23 | 26 => 3 | 27 => 333 | 28 => 334 | 33 => 228 | 37 => 274 | 39 => 449 | 40 => 450 | 45 => 203 | 48 => 376 | 50 => 187 | 51 => 474 | 55 => 422 | 57 => 492 | 58 => 487 | n => n, g := fun n => n }
theorem laysK0 : SlLaysZI.n7 Tryz.prog renK0 := by
  constructor
  all_goals first
    | kernel_rfl
    | (intro w; kernel_rfl)
    | exact bears_auto (by kernel_rfl) (by kernel_rfl)
theorem laysO : SlLaysZI.n6 Tryz.prog renK0 := by
  constructor
  all_goals first
    | kernel_rfl
    | (intro w; kernel_rfl)
    | exact bears_auto (by kernel_rfl) (by kernel_rfl)
theorem sorts (m : Nat) : Go.Proofs.AnyZI.SortsIn Tryz.prog renK0 Fence.wide m :=
  ⟨fun blk off cap ss W hH hblk hsz => callsIn_wide.2 (Go.Proofs.AnyM.slices_Sort_int laysS blk off cap ss W hH hblk hsz), fun p cap W => callsIn_wide.2 (Go.Proofs.AnyM.slices_Sort_int_none laysS p cap W)⟩
def renI : Ren := { f := fun n => match n with | 21 => 107 | 27 => 128 | 28 => 129 | 35 => 162 | 39 => 183 | n => n, t := fun n => match n with | 22 => 23 | n => n, g := fun n => n }
theorem laysI : Lays2.n21 Tryz.prog renI := by
  constructor
  all_goals first
    | kernel_rfl
    | (intro w; kernel_rfl)
noncomputable def env : Env := { fn := tab.find, intr := fun k => bif Nat.beq k 159 then some (fun all s => KE all 214 s) else bif Nat.beq k 158 then some (fun all s => Wh 214 all s) else bif Nat.beq k 107 then some (D0) else none, lf := 100000 }
theorem env_ok : Dt Tryz.prog env := by
  refine ⟨by kernel_rfl, fun k df h => BT.find_all tab_ok h, fun k F h => ?_⟩
  have h : (bif Nat.beq k 159 then some (fun all s => KE all 214 s) else bif Nat.beq k 158 then some (fun all s => Wh 214 all s) else bif Nat.beq k 107 then some (D0) else none) = some F := h
  cases hb159 : Nat.beq k 159 with
  | true =>
    rw [hb159] at h
    simp only [cond_true, Option.some.injEq] at h
    subst h
    rw [Nat.eq_of_beq_eq_true hb159]
    exact Nm (ρ := renK0) laysK0 (fun X w => Yc Tryz.func159 (by kernel_rfl) (by kernel_rfl) X w)
  | false =>
    rw [hb159] at h
    simp only [cond_false] at h
    cases hb158 : Nat.beq k 158 with
    | true =>
      rw [hb158] at h
      simp only [cond_true, Option.some.injEq] at h
      subst h
      rw [Nat.eq_of_beq_eq_true hb158]
      exact TJ (ρ := renK0) laysO { laysK0 with } sorts (fun X w => Yc Tryz.func213 (by kernel_rfl) (by kernel_rfl) X w) (fun X w => Yc Tryz.func158 (by kernel_rfl) (by kernel_rfl) X w)
    | false =>
      rw [hb158] at h
      simp only [cond_false] at h
      cases hb107 : Nat.beq k 107 with
      | true =>
        rw [hb107] at h
        simp only [cond_true, Option.some.injEq] at h
        subst h
        rw [Nat.eq_of_beq_eq_true hb107]
        exact MU (ρ := renI) laysI (fun X w => Yc Tryz.func107 (by kernel_rfl) (by kernel_rfl) X w)
      | false =>
        rw [hb107] at h
        simp only [cond_false] at h
        cases h

theorem runsL : MR (GL env 200 (.func (.func 6) #[] #[]) [] s0) = true := by kernel_rfl
theorem livesL (W : World) : Calls Tryz.prog 6 #[] W fun e w' => e = .returned (.bool true) ∧ Kept W w' := top env_ok runsL (fun _ => .nil) W
noncomputable def Gm : Env := { fn := tab.find, intr := fun k => bif Nat.beq k 6 then some Vo else env.intr k, lf := 200000 }
theorem env2_ok : Dt Tryz.prog Gm := by
  refine ⟨env_ok.mixed, fun k df h => BT.find_all tab_ok h, fun k F h => ?_⟩
  have h : (bif Nat.beq k 6 then some Vo else env.intr k) = some F := h
  cases hb : Nat.beq k 6 with
  | true =>
    rw [hb] at h
    simp only [cond_true, Option.some.injEq] at h
    subst h
    rw [Nat.eq_of_beq_eq_true hb]
    exact Sy livesL (fun X w => Yc Tryz.func6 (by kernel_rfl) (by kernel_rfl) X w)
  | false =>
    rw [hb] at h
    simp only [cond_false] at h
    exact env_ok.intr k F h
theorem cfns : Go.Dx.TbA.Ja Gm := by constructor <;> first | rfl | exact of_decide_eq_true rfl | exact fun d => (Yh env2_ok d).1
theorem gfns : Go.Dx.TbA.GF Gm := by constructor <;> first | rfl | exact of_decide_eq_true rfl | exact fun d => (Yh env2_ok d).1
theorem rdfns : Go.Dx.TbA.VX Gm := by constructor <;> first | rfl | exact of_decide_eq_true rfl | exact fun d => (Yh env2_ok d).1
theorem tfns : Go.Dx.TbA.GD Gm := by constructor <;> first | rfl | exact of_decide_eq_true rfl | exact fun d => (Yh env2_ok d).1
theorem efns : Go.Dx.TbA.PM Gm := by constructor <;> first | rfl | exact of_decide_eq_true rfl | exact fun d => (Yh env2_ok d).1
theorem qfns : Go.Dx.TbA.PL Gm := by constructor <;> first | rfl | exact of_decide_eq_true rfl | exact fun d => (Yh env2_ok d).1
theorem rofns : Go.Dx.TbA.GE Gm := by constructor <;> first | rfl | exact of_decide_eq_true rfl | exact fun d => (Yh env2_ok d).1
theorem wqfns : Go.Dx.TbA.Mj Gm := by constructor <;> first | rfl | exact of_decide_eq_true rfl | exact fun d => (Yh env2_ok d).1
theorem flat_u8 : ∀ l : List (List Value), (∀ x, x ∈ l → ∃ n, x = [.int .u8 n] ∧ 0 ≤ n ∧ n < 256) → l.flatten = u8s (l.map fun x => DO (getN x 0))
  | [], _ => rfl
  | x :: l, h => by
    obtain ⟨n, rfl, _⟩ := h x (List.mem_cons_self ..)
    rw [List.flatten_cons, flat_u8 l fun y hy => h y (List.mem_cons_of_mem _ hy)]
    rfl
theorem rowR {W : World} {v0 : Value} {l0 : List (List Value)} (m0 : JR W [.int .u8] v0 l0) {s : DS} {β : Emb} {v' : Value} (hv : VRel β v' v0) (hin : VY s v' l0) :
    SlR s v' (l0.map fun x => DO (getN x 0)) ∧ IsB (l0.map fun x => DO (getN x 0)) ∧ l0.length ≤ 9223372036854775807 := by
  have hf : ∀ x, x ∈ l0 → z7 [.int .u8] x := by
    rcases m0 with ⟨_, rfl⟩ | ⟨_, _, _, _, _, _, _, h, _⟩
    · exact fun _ h => (nomatch h)
    · exact h
  have hmax : l0.length ≤ 9223372036854775807 := by
    rcases m0 with ⟨_, rfl⟩ | ⟨_, _, c, _, h1, h2, _⟩
    · simp
    · exact Nat.le_trans h1 h2
  have hel : ∀ x, x ∈ l0 → ∃ n, x = [.int .u8 n] ∧ 0 ≤ n ∧ n < 256 := fun x hx => by
    obtain ⟨c, r, rfl, ⟨n, rfl, hw⟩, hr⟩ := z7.cons (hf x hx)
    obtain rfl := z7.nil hr
    simp [Lit.wf, IntKind.min, IntKind.max, IntKind.signed, IntKind.bits] at hw
    exact ⟨n, rfl, by omega, by omega⟩
  refine ⟨?_, fun b hb => ?_, hmax⟩
  · rcases hin with ⟨rfl, rfl⟩ | ⟨b, c, rfl, hg⟩
    · exact .inl ⟨rfl, rfl⟩
    · refine .inr ⟨b, 0, none, c, by rw [List.length_map], .inl rfl, ?_, ?_⟩
      · rw [List.length_map]
        rcases m0 with ⟨rfl, rfl⟩ | ⟨_, _, c0, rfl, h1, _⟩
        · exact Nat.zero_le _
        · cases hv
          exact h1
      · unfold DS.read
        rw [hg]
        show (Cells.list l0.flatten).take 0 _ = _
        rw [flat_u8 l0 hel]
        refine JX (List.length_map ..) fun i hi => ?_
        rw [Nat.zero_add]
        show getN _ i = _
        rw [Ze]
  · obtain ⟨x, hx, rfl⟩ := List.mem_map.1 hb
    obtain ⟨n, rfl, h1, h2⟩ := hel x hx
    exact ⟨h1, h2⟩
theorem flat_i64 : ∀ l : List (List Value), (∀ x, x ∈ l → ∃ n, x = [.int .i64 n] ∧ -9223372036854775808 ≤ n ∧ n ≤ 9223372036854775807) → l.flatten = (l.map fun x => DO (getN x 0)).map (fun n => Value.int .i64 n)
  | [], _ => rfl
  | x :: l, h => by
    obtain ⟨n, rfl, _⟩ := h x (List.mem_cons_self ..)
    rw [List.flatten_cons, flat_i64 l fun y hy => h y (List.mem_cons_of_mem _ hy)]
    rfl
theorem rowI {W : World} {v0 : Value} {l0 : List (List Value)} (m0 : JR W [.int .i64] v0 l0) {s : DS} {β : Emb} {v' : Value} (hv : VRel β v' v0) (hin : VY s v' l0) :
    Go.Dx.TbA.SlI s v' (l0.map fun x => DO (getN x 0)) ∧ (∀ a, a ∈ (l0.map fun x => DO (getN x 0)) → Go.Dx.St.I64 a) ∧ l0.length ≤ 9223372036854775807 := by
  have hf : ∀ x, x ∈ l0 → z7 [.int .i64] x := by
    rcases m0 with ⟨_, rfl⟩ | ⟨_, _, _, _, _, _, _, h, _⟩
    · exact fun _ h => (nomatch h)
    · exact h
  have hmax : l0.length ≤ 9223372036854775807 := by
    rcases m0 with ⟨_, rfl⟩ | ⟨_, _, c, _, h1, h2, _⟩
    · simp
    · exact Nat.le_trans h1 h2
  have hel : ∀ x, x ∈ l0 → ∃ n, x = [.int .i64 n] ∧ -9223372036854775808 ≤ n ∧ n ≤ 9223372036854775807 := fun x hx => by
    obtain ⟨c, r, rfl, ⟨n, rfl, hw⟩, hr⟩ := z7.cons (hf x hx)
    obtain rfl := z7.nil hr
    simp [Lit.wf, IntKind.min, IntKind.max, IntKind.signed, IntKind.bits] at hw
    exact ⟨n, rfl, by omega, by omega⟩
  refine ⟨?_, fun b hb => ?_, hmax⟩
  · rcases hin with ⟨rfl, rfl⟩ | ⟨b, c, rfl, hg⟩
    · exact .inl ⟨rfl, rfl⟩
    · refine .inr ⟨b, none, c, _, _, by rw [List.length_map], hg, fun i x hx => ?_⟩
      simp only [Cells.get]
      rw [flat_i64 l0 hel, Ze, List.getElem?_map, hx]
      rfl
  · obtain ⟨x, hx, rfl⟩ := List.mem_map.1 hb
    obtain ⟨n, rfl, h1, h2⟩ := hel x hx
    exact ⟨h1, h2⟩
theorem i64w {n : Int} (h : (Lit.int .i64 n).wf = true) : Go.Dx.St.I64 n := by
  simp [Lit.wf, IntKind.min, IntKind.max, IntKind.signed, IntKind.bits] at h
  exact ⟨by omega, by omega⟩
theorem reqAt {s : DS} {v2 v3 : Value} {bs ar : List Int} (c n g : Int) (h2 : SlR s v2 bs) (h3 : Go.Dx.TbA.SlI s v3 ar) : Go.Dx.TbA.Yu 0 s [.int .i64 c, .int .i64 n, v2, v3, .int .i64 g] ((c, n), (bs, (ar, g))) := by
  obtain ⟨b1, c1, e1⟩ := h2.len
  obtain ⟨b2, c2, e2⟩ := h3.shape
  subst e1 e2
  exact ⟨b1, c1, b2, c2, rfl, ⟨h2, fun _ _ => Nat.zero_le _⟩, ⟨h3, fun _ _ => Nat.zero_le _⟩⟩
theorem walk {W : World} (a0 : Int) (u0 : (Lit.int .i64 a0).wf = true) (a1 : Int) (u1 : (Lit.int .i64 a1).wf = true) (c2 : Value) (l2 : List (List Value)) (m2 : JR W [.int .u8] c2 l2) (c3 : Value) (l3 : List (List Value)) (m3 : JR W [.int .i64] c3 l3) (a4 : Int) (u4 : (Lit.int .i64 a4).wf = true) (a5 : Int) (u5 : (Lit.int .i64 a5).wf = true) (a6 : Int) (u6 : (Lit.int .i64 a6).wf = true) (a7 : Bool) (a8 : Int) (u8 : (Lit.int .i64 a8).wf = true) (a9 : Int) (u9 : (Lit.int .i64 a9).wf = true) (a10 : Int) (u10 : (Lit.int .i64 a10).wf = true) : Calls Tryz.prog 3 #[.agg ⟨[.int .i64 a0, .int .i64 a1, c2, c3, .int .i64 a4]⟩, .agg ⟨[.int .i64 a5, .int .i64 a6, .bool a7, .int .i64 a8, .int .i64 a9, .int .i64 a10]⟩] W fun e w' => e = .returned (.bool true) ∧ Kept W w' := by
  obtain ⟨s1, β1, v2, hv2, hR1, hn1, hro1, hG1, hin2⟩ := SV (P := Tryz.prog) m2 rfl
  obtain ⟨s2, β2, v3, hv3, hle2, hR2, hn2, hro2, hG2, hin3, X2⟩ := MM hR1 hn1 hro1 hG1 m3 rfl
  obtain ⟨q2, i2, _⟩ := rowR m2 hv2 hin2
  obtain ⟨q3, i3, _⟩ := rowI m3 hv3 hin3
  have k2 := q2.keep X2 (by simp)
  obtain ⟨⟨rv, s'⟩, hr, hq⟩ := Go.Dx.TbA.N8 cfns gfns rdfns tfns efns qfns rofns wqfns rfl rfl rfl rfl rfl rfl rfl rfl rfl rfl rfl hG2 (d := 0) (y := ⟨a5, a6, a7, a8, a9, a10⟩) (reqAt a0 a1 a4 k2 q3) ⟨i64w u0, i64w u1, i2, i3, i64w u4⟩ (i64w u9)
  simp only at hq
  subst hq
  exact LO env2_ok hr (.cons (.agg (.cons (.int _ _) (.cons (.int _ _) (.cons (hv2.mono hle2) (.cons hv3 (.cons (.int _ _) .nil)))))) (.cons (.agg (.cons (.int _ _) (.cons (.int _ _) (.cons (.bool _) (.cons (.int _ _) (.cons (.int _ _) (.cons (.int _ _) .nil))))))) .nil)) hR2 hn2 hro2
end Go.Proofs.YthmgnfeljhdioaaGreat.opsCodes
