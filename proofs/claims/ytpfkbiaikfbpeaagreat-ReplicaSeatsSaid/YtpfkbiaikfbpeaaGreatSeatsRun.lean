/- ReplicaSeats returns true for every input, and leaves what it was given as it was. -/
import Derived.Test.YtpfkbiaikfbpeaaGreatRows
import Derived.Test.YtpfkbiaikfbpeaaGreatDxVa
import Derived.Test.YtpfkbiaikfbpeaaGreatDxRow
import Derived.Test.YtpfkbiaikfbpeaaGreatDxSorted
import Derived.Shelf.SortM.Plain
import Derived.Shelf.SortM.SortNone
import Derived.Shelf.Lays2
import Derived.Test.YtpfkbiaikfbpeaaGreatDxIns
import Derived.Test.YtpfkbiaikfbpeaaGreatDxStir
import Derived.Test.YtpfkbiaikfbpeaaGreatDxIndex
import Derived.Test.YtpfkbiaikfbpeaaGreatQ1Lw
import Derived.Test.YtpfkbiaikfbpeaaGreatDxTopM
namespace Go.Proofs.YtpfkbiaikfbpeaaGreat.replicaSeats
open Go.ChangeShapes Go.WideShapes Go.ChangeAt Go.RowKit Go.Dx Go.Shelf
set_option linter.unusedVariables false
set_option linter.unusedSimpArgs false
set_option maxRecDepth 100000
set_option maxHeartbeats 4000000

/-! ### The evaluator's tables -/
inductive BT where
  | leaf
  | node (k : Nat) (d : zp) (l r : BT)
def BT.find : BT → Nat → Option zp
  | .leaf, _ => none
  | .node k d l r, x => bif Nat.beq x k then some d else bif Nat.blt x k then l.find x else r.find x
def BT.All (Q : Nat → zp → Prop) : BT → Prop
  | .leaf => True
  | .node k d l r => Q k d ∧ l.All Q ∧ r.All Q
theorem BT.find_all {Q : Nat → zp → Prop} : ∀ {t : BT} {x : Nat} {d : zp}, t.All Q → t.find x = some d → Q x d
  | .leaf, x, d, _, h => by cases h
  | .node k d0 l r, x, d, ⟨h1, h2, h3⟩, h => by
    unfold BT.find at h
    cases hb : Nat.beq x k with
    | true =>
      rw [hb] at h
      simp only [cond_true, Option.some.injEq] at h
      subst h
      rw [Nat.eq_of_beq_eq_true hb]; exact h1
    | false =>
      rw [hb] at h
      cases hl : Nat.blt x k with
      | true => rw [hl] at h; exact BT.find_all h2 h
      | false => rw [hl] at h; exact BT.find_all h3 h
def FnOk (k : Nat) (df : zp) : Prop := ∃ f, Tryz.prog.funcs[k]? = some f ∧ zh Tryz.prog f = some df
def tab : BT := (.node 173 d173 (.node 88 d88 (.node 36 d36 (.node 19 d19 (.node 11 d11 (.node 7 d7 (.node 5 d5 (.node 4 d4 (.node 3 d3 .leaf .leaf) .leaf) (.node 6 d6 .leaf .leaf)) (.node 9 d9 (.node 8 d8 .leaf .leaf) (.node 10 d10 .leaf .leaf))) (.node 15 d15 (.node 13 d13 (.node 12 d12 .leaf .leaf) (.node 14 d14 .leaf .leaf)) (.node 17 d17 (.node 16 d16 .leaf .leaf) (.node 18 d18 .leaf .leaf)))) (.node 27 d27 (.node 23 d23 (.node 21 d21 (.node 20 d20 .leaf .leaf) (.node 22 d22 .leaf .leaf)) (.node 25 d25 (.node 24 d24 .leaf .leaf) (.node 26 d26 .leaf .leaf))) (.node 31 d31 (.node 29 d29 (.node 28 d28 .leaf .leaf) (.node 30 d30 .leaf .leaf)) (.node 33 d33 (.node 32 d32 .leaf .leaf) (.node 35 d35 .leaf .leaf))))) (.node 61 d61 (.node 52 d52 (.node 48 d48 (.node 46 d46 (.node 45 d45 .leaf .leaf) (.node 47 d47 .leaf .leaf)) (.node 50 d50 (.node 49 d49 .leaf .leaf) (.node 51 d51 .leaf .leaf))) (.node 56 d56 (.node 54 d54 (.node 53 d53 .leaf .leaf) (.node 55 d55 .leaf .leaf)) (.node 58 d58 (.node 57 d57 .leaf .leaf) (.node 59 d59 .leaf .leaf)))) (.node 69 d69 (.node 65 d65 (.node 63 d63 (.node 62 d62 .leaf .leaf) (.node 64 d64 .leaf .leaf)) (.node 67 d67 (.node 66 d66 .leaf .leaf) (.node 68 d68 .leaf .leaf))) (.node 76 d76 (.node 71 d71 (.node 70 d70 .leaf .leaf) (.node 75 d75 .leaf .leaf)) (.node 78 d78 (.node 77 d77 .leaf .leaf) (.node 79 d79 .leaf .leaf)))))) (.node 131 d131 (.node 105 d105 (.node 97 d97 (.node 93 d93 (.node 91 d91 (.node 89 d89 .leaf .leaf) (.node 92 d92 .leaf .leaf)) (.node 95 d95 (.node 94 d94 .leaf .leaf) (.node 96 d96 .leaf .leaf))) (.node 101 d101 (.node 99 d99 (.node 98 d98 .leaf .leaf) (.node 100 d100 .leaf .leaf)) (.node 103 d103 (.node 102 d102 .leaf .leaf) (.node 104 d104 .leaf .leaf)))) (.node 123 d123 (.node 112 d112 (.node 110 d110 (.node 106 d106 .leaf .leaf) (.node 111 d111 .leaf .leaf)) (.node 114 d114 (.node 113 d113 .leaf .leaf) (.node 120 d120 .leaf .leaf))) (.node 127 d127 (.node 125 d125 (.node 124 d124 .leaf .leaf) (.node 126 d126 .leaf .leaf)) (.node 129 d129 (.node 128 d128 .leaf .leaf) (.node 130 d130 .leaf .leaf))))) (.node 150 d150 (.node 139 d139 (.node 135 d135 (.node 133 d133 (.node 132 d132 .leaf .leaf) (.node 134 d134 .leaf .leaf)) (.node 137 d137 (.node 136 d136 .leaf .leaf) (.node 138 d138 .leaf .leaf))) (.node 143 d143 (.node 141 d141 (.node 140 d140 .leaf .leaf) (.node 142 d142 .leaf .leaf)) (.node 145 d145 (.node 144 d144 .leaf .leaf) (.node 146 d146 .leaf .leaf)))) (.node 162 d162 (.node 154 d154 (.node 152 d152 (.node 151 d151 .leaf .leaf) (.node 153 d153 .leaf .leaf)) (.node 157 d157 (.node 156 d156 .leaf .leaf) (.node 158 d158 .leaf .leaf))) (.node 168 d168 (.node 165 d165 (.node 164 d164 .leaf .leaf) (.node 167 d167 .leaf .leaf)) (.node 171 d171 (.node 170 d170 .leaf .leaf) (.node 172 d172 .leaf .leaf))))))) (.node 281 d281 (.node 239 d239 (.node 210 d210 (.node 186 d186 (.node 182 d182 (.node 179 d179 (.node 177 d177 (.node 175 d175 .leaf .leaf) .leaf) (.node 180 d180 .leaf .leaf)) (.node 184 d184 (.node 183 d183 .leaf .leaf) (.node 185 d185 .leaf .leaf))) (.node 196 d196 (.node 188 d188 (.node 187 d187 .leaf .leaf) (.node 194 d194 .leaf .leaf)) (.node 204 d204 (.node 198 d198 .leaf .leaf) (.node 208 d208 .leaf .leaf)))) (.node 225 d225 (.node 214 d214 (.node 212 d212 (.node 211 d211 .leaf .leaf) (.node 213 d213 .leaf .leaf)) (.node 218 d218 (.node 216 d216 .leaf .leaf) (.node 220 d220 .leaf .leaf))) (.node 229 d229 (.node 227 d227 (.node 226 d226 .leaf .leaf) (.node 228 d228 .leaf .leaf)) (.node 237 d237 (.node 235 d235 .leaf .leaf) (.node 238 d238 .leaf .leaf))))) (.node 257 d257 (.node 248 d248 (.node 244 d244 (.node 241 d241 (.node 240 d240 .leaf .leaf) (.node 243 d243 .leaf .leaf)) (.node 246 d246 (.node 245 d245 .leaf .leaf) (.node 247 d247 .leaf .leaf))) (.node 253 d253 (.node 251 d251 (.node 250 d250 .leaf .leaf) (.node 252 d252 .leaf .leaf)) (.node 255 d255 (.node 254 d254 .leaf .leaf) (.node 256 d256 .leaf .leaf)))) (.node 265 d265 (.node 261 d261 (.node 259 d259 (.node 258 d258 .leaf .leaf) (.node 260 d260 .leaf .leaf)) (.node 263 d263 (.node 262 d262 .leaf .leaf) (.node 264 d264 .leaf .leaf))) (.node 277 d277 (.node 275 d275 (.node 266 d266 .leaf .leaf) (.node 276 d276 .leaf .leaf)) (.node 279 d279 (.node 278 d278 .leaf .leaf) (.node 280 d280 .leaf .leaf)))))) (.node 340 d340 (.node 303 d303 (.node 295 d295 (.node 288 d288 (.node 284 d284 (.node 282 d282 .leaf .leaf) (.node 286 d286 .leaf .leaf)) (.node 292 d292 (.node 290 d290 .leaf .leaf) (.node 294 d294 .leaf .leaf))) (.node 299 d299 (.node 297 d297 (.node 296 d296 .leaf .leaf) (.node 298 d298 .leaf .leaf)) (.node 301 d301 (.node 300 d300 .leaf .leaf) (.node 302 d302 .leaf .leaf)))) (.node 329 d329 (.node 308 d308 (.node 306 d306 (.node 304 d304 .leaf .leaf) (.node 307 d307 .leaf .leaf)) (.node 327 d327 (.node 312 d312 .leaf .leaf) (.node 328 d328 .leaf .leaf))) (.node 336 d336 (.node 332 d332 (.node 330 d330 .leaf .leaf) (.node 335 d335 .leaf .leaf)) (.node 338 d338 (.node 337 d337 .leaf .leaf) (.node 339 d339 .leaf .leaf))))) (.node 377 d377 (.node 349 d349 (.node 344 d344 (.node 342 d342 (.node 341 d341 .leaf .leaf) (.node 343 d343 .leaf .leaf)) (.node 347 d347 (.node 346 d346 .leaf .leaf) (.node 348 d348 .leaf .leaf))) (.node 372 d372 (.node 370 d370 (.node 368 d368 .leaf .leaf) (.node 371 d371 .leaf .leaf)) (.node 374 d374 (.node 373 d373 .leaf .leaf) (.node 376 d376 .leaf .leaf)))) (.node 404 d404 (.node 384 d384 (.node 381 d381 (.node 378 d378 .leaf .leaf) (.node 383 d383 .leaf .leaf)) (.node 386 d386 (.node 385 d385 .leaf .leaf) (.node 387 d387 .leaf .leaf))) (.node 412 d412 (.node 406 d406 (.node 405 d405 .leaf .leaf) (.node 410 d410 .leaf .leaf)) (.node 442 d442 (.node 413 d413 .leaf .leaf) (.node 463 d463 .leaf .leaf))))))))
theorem tab_ok : tab.All FnOk := ⟨⟨_, Tryz.func173, tr173⟩, ⟨⟨_, Tryz.func88, tr88⟩, ⟨⟨_, Tryz.func36, tr36⟩, ⟨⟨_, Tryz.func19, tr19⟩, ⟨⟨_, Tryz.func11, tr11⟩, ⟨⟨_, Tryz.func7, tr7⟩, ⟨⟨_, Tryz.func5, tr5⟩, ⟨⟨_, Tryz.func4, tr4⟩, ⟨⟨_, Tryz.func3, tr3⟩, trivial, trivial⟩, trivial⟩, ⟨⟨_, Tryz.func6, tr6⟩, trivial, trivial⟩⟩, ⟨⟨_, Tryz.func9, tr9⟩, ⟨⟨_, Tryz.func8, tr8⟩, trivial, trivial⟩, ⟨⟨_, Tryz.func10, tr10⟩, trivial, trivial⟩⟩⟩, ⟨⟨_, Tryz.func15, tr15⟩, ⟨⟨_, Tryz.func13, tr13⟩, ⟨⟨_, Tryz.func12, tr12⟩, trivial, trivial⟩, ⟨⟨_, Tryz.func14, tr14⟩, trivial, trivial⟩⟩, ⟨⟨_, Tryz.func17, tr17⟩, ⟨⟨_, Tryz.func16, tr16⟩, trivial, trivial⟩, ⟨⟨_, Tryz.func18, tr18⟩, trivial, trivial⟩⟩⟩⟩, ⟨⟨_, Tryz.func27, tr27⟩, ⟨⟨_, Tryz.func23, tr23⟩, ⟨⟨_, Tryz.func21, tr21⟩, ⟨⟨_, Tryz.func20, tr20⟩, trivial, trivial⟩, ⟨⟨_, Tryz.func22, tr22⟩, trivial, trivial⟩⟩, ⟨⟨_, Tryz.func25, tr25⟩, ⟨⟨_, Tryz.func24, tr24⟩, trivial, trivial⟩, ⟨⟨_, Tryz.func26, tr26⟩, trivial, trivial⟩⟩⟩, ⟨⟨_, Tryz.func31, tr31⟩, ⟨⟨_, Tryz.func29, tr29⟩, ⟨⟨_, Tryz.func28, tr28⟩, trivial, trivial⟩, ⟨⟨_, Tryz.func30, tr30⟩, trivial, trivial⟩⟩, ⟨⟨_, Tryz.func33, tr33⟩, ⟨⟨_, Tryz.func32, tr32⟩, trivial, trivial⟩, ⟨⟨_, Tryz.func35, tr35⟩, trivial, trivial⟩⟩⟩⟩⟩, ⟨⟨_, Tryz.func61, tr61⟩, ⟨⟨_, Tryz.func52, tr52⟩, ⟨⟨_, Tryz.func48, tr48⟩, ⟨⟨_, Tryz.func46, tr46⟩, ⟨⟨_, Tryz.func45, tr45⟩, trivial, trivial⟩, ⟨⟨_, Tryz.func47, tr47⟩, trivial, trivial⟩⟩, ⟨⟨_, Tryz.func50, tr50⟩, ⟨⟨_, Tryz.func49, tr49⟩, trivial, trivial⟩, ⟨⟨_, Tryz.func51, tr51⟩, trivial, trivial⟩⟩⟩, ⟨⟨_, Tryz.func56, tr56⟩, ⟨⟨_, Tryz.func54, tr54⟩, ⟨⟨_, Tryz.func53, tr53⟩, trivial, trivial⟩, ⟨⟨_, Tryz.func55, tr55⟩, trivial, trivial⟩⟩, ⟨⟨_, Tryz.func58, tr58⟩, ⟨⟨_, Tryz.func57, tr57⟩, trivial, trivial⟩, ⟨⟨_, Tryz.func59, tr59⟩, trivial, trivial⟩⟩⟩⟩, ⟨⟨_, Tryz.func69, tr69⟩, ⟨⟨_, Tryz.func65, tr65⟩, ⟨⟨_, Tryz.func63, tr63⟩, ⟨⟨_, Tryz.func62, tr62⟩, trivial, trivial⟩, ⟨⟨_, Tryz.func64, tr64⟩, trivial, trivial⟩⟩, ⟨⟨_, Tryz.func67, tr67⟩, ⟨⟨_, Tryz.func66, tr66⟩, trivial, trivial⟩, ⟨⟨_, Tryz.func68, tr68⟩, trivial, trivial⟩⟩⟩, ⟨⟨_, Tryz.func76, tr76⟩, ⟨⟨_, Tryz.func71, tr71⟩, ⟨⟨_, Tryz.func70, tr70⟩, trivial, trivial⟩, ⟨⟨_, Tryz.func75, tr75⟩, trivial, trivial⟩⟩, ⟨⟨_, Tryz.func78, tr78⟩, ⟨⟨_, Tryz.func77, tr77⟩, trivial, trivial⟩, ⟨⟨_, Tryz.func79, tr79⟩, trivial, trivial⟩⟩⟩⟩⟩⟩, ⟨⟨_, Tryz.func131, tr131⟩, ⟨⟨_, Tryz.func105, tr105⟩, ⟨⟨_, Tryz.func97, tr97⟩, ⟨⟨_, Tryz.func93, tr93⟩, ⟨⟨_, Tryz.func91, tr91⟩, ⟨⟨_, Tryz.func89, tr89⟩, trivial, trivial⟩, ⟨⟨_, Tryz.func92, tr92⟩, trivial, trivial⟩⟩, ⟨⟨_, Tryz.func95, tr95⟩, ⟨⟨_, Tryz.func94, tr94⟩, trivial, trivial⟩, ⟨⟨_, Tryz.func96, tr96⟩, trivial, trivial⟩⟩⟩, ⟨⟨_, Tryz.func101, tr101⟩, ⟨⟨_, Tryz.func99, tr99⟩, ⟨⟨_, Tryz.func98, tr98⟩, trivial, trivial⟩, ⟨⟨_, Tryz.func100, tr100⟩, trivial, trivial⟩⟩, ⟨⟨_, Tryz.func103, tr103⟩, ⟨⟨_, Tryz.func102, tr102⟩, trivial, trivial⟩, ⟨⟨_, Tryz.func104, tr104⟩, trivial, trivial⟩⟩⟩⟩, ⟨⟨_, Tryz.func123, tr123⟩, ⟨⟨_, Tryz.func112, tr112⟩, ⟨⟨_, Tryz.func110, tr110⟩, ⟨⟨_, Tryz.func106, tr106⟩, trivial, trivial⟩, ⟨⟨_, Tryz.func111, tr111⟩, trivial, trivial⟩⟩, ⟨⟨_, Tryz.func114, tr114⟩, ⟨⟨_, Tryz.func113, tr113⟩, trivial, trivial⟩, ⟨⟨_, Tryz.func120, tr120⟩, trivial, trivial⟩⟩⟩, ⟨⟨_, Tryz.func127, tr127⟩, ⟨⟨_, Tryz.func125, tr125⟩, ⟨⟨_, Tryz.func124, tr124⟩, trivial, trivial⟩, ⟨⟨_, Tryz.func126, tr126⟩, trivial, trivial⟩⟩, ⟨⟨_, Tryz.func129, tr129⟩, ⟨⟨_, Tryz.func128, tr128⟩, trivial, trivial⟩, ⟨⟨_, Tryz.func130, tr130⟩, trivial, trivial⟩⟩⟩⟩⟩, ⟨⟨_, Tryz.func150, tr150⟩, ⟨⟨_, Tryz.func139, tr139⟩, ⟨⟨_, Tryz.func135, tr135⟩, ⟨⟨_, Tryz.func133, tr133⟩, ⟨⟨_, Tryz.func132, tr132⟩, trivial, trivial⟩, ⟨⟨_, Tryz.func134, tr134⟩, trivial, trivial⟩⟩, ⟨⟨_, Tryz.func137, tr137⟩, ⟨⟨_, Tryz.func136, tr136⟩, trivial, trivial⟩, ⟨⟨_, Tryz.func138, tr138⟩, trivial, trivial⟩⟩⟩, ⟨⟨_, Tryz.func143, tr143⟩, ⟨⟨_, Tryz.func141, tr141⟩, ⟨⟨_, Tryz.func140, tr140⟩, trivial, trivial⟩, ⟨⟨_, Tryz.func142, tr142⟩, trivial, trivial⟩⟩, ⟨⟨_, Tryz.func145, tr145⟩, ⟨⟨_, Tryz.func144, tr144⟩, trivial, trivial⟩, ⟨⟨_, Tryz.func146, tr146⟩, trivial, trivial⟩⟩⟩⟩, ⟨⟨_, Tryz.func162, tr162⟩, ⟨⟨_, Tryz.func154, tr154⟩, ⟨⟨_, Tryz.func152, tr152⟩, ⟨⟨_, Tryz.func151, tr151⟩, trivial, trivial⟩, ⟨⟨_, Tryz.func153, tr153⟩, trivial, trivial⟩⟩, ⟨⟨_, Tryz.func157, tr157⟩, ⟨⟨_, Tryz.func156, tr156⟩, trivial, trivial⟩, ⟨⟨_, Tryz.func158, tr158⟩, trivial, trivial⟩⟩⟩, ⟨⟨_, Tryz.func168, tr168⟩, ⟨⟨_, Tryz.func165, tr165⟩, ⟨⟨_, Tryz.func164, tr164⟩, trivial, trivial⟩, ⟨⟨_, Tryz.func167, tr167⟩, trivial, trivial⟩⟩, ⟨⟨_, Tryz.func171, tr171⟩, ⟨⟨_, Tryz.func170, tr170⟩, trivial, trivial⟩, ⟨⟨_, Tryz.func172, tr172⟩, trivial, trivial⟩⟩⟩⟩⟩⟩⟩, ⟨⟨_, Tryz.func281, tr281⟩, ⟨⟨_, Tryz.func239, tr239⟩, ⟨⟨_, Tryz.func210, tr210⟩, ⟨⟨_, Tryz.func186, tr186⟩, ⟨⟨_, Tryz.func182, tr182⟩, ⟨⟨_, Tryz.func179, tr179⟩, ⟨⟨_, Tryz.func177, tr177⟩, ⟨⟨_, Tryz.func175, tr175⟩, trivial, trivial⟩, trivial⟩, ⟨⟨_, Tryz.func180, tr180⟩, trivial, trivial⟩⟩, ⟨⟨_, Tryz.func184, tr184⟩, ⟨⟨_, Tryz.func183, tr183⟩, trivial, trivial⟩, ⟨⟨_, Tryz.func185, tr185⟩, trivial, trivial⟩⟩⟩, ⟨⟨_, Tryz.func196, tr196⟩, ⟨⟨_, Tryz.func188, tr188⟩, ⟨⟨_, Tryz.func187, tr187⟩, trivial, trivial⟩, ⟨⟨_, Tryz.func194, tr194⟩, trivial, trivial⟩⟩, ⟨⟨_, Tryz.func204, tr204⟩, ⟨⟨_, Tryz.func198, tr198⟩, trivial, trivial⟩, ⟨⟨_, Tryz.func208, tr208⟩, trivial, trivial⟩⟩⟩⟩, ⟨⟨_, Tryz.func225, tr225⟩, ⟨⟨_, Tryz.func214, tr214⟩, ⟨⟨_, Tryz.func212, tr212⟩, ⟨⟨_, Tryz.func211, tr211⟩, trivial, trivial⟩, ⟨⟨_, Tryz.func213, tr213⟩, trivial, trivial⟩⟩, ⟨⟨_, Tryz.func218, tr218⟩, ⟨⟨_, Tryz.func216, tr216⟩, trivial, trivial⟩, ⟨⟨_, Tryz.func220, tr220⟩, trivial, trivial⟩⟩⟩, ⟨⟨_, Tryz.func229, tr229⟩, ⟨⟨_, Tryz.func227, tr227⟩, ⟨⟨_, Tryz.func226, tr226⟩, trivial, trivial⟩, ⟨⟨_, Tryz.func228, tr228⟩, trivial, trivial⟩⟩, ⟨⟨_, Tryz.func237, tr237⟩, ⟨⟨_, Tryz.func235, tr235⟩, trivial, trivial⟩, ⟨⟨_, Tryz.func238, tr238⟩, trivial, trivial⟩⟩⟩⟩⟩, ⟨⟨_, Tryz.func257, tr257⟩, ⟨⟨_, Tryz.func248, tr248⟩, ⟨⟨_, Tryz.func244, tr244⟩, ⟨⟨_, Tryz.func241, tr241⟩, ⟨⟨_, Tryz.func240, tr240⟩, trivial, trivial⟩, ⟨⟨_, Tryz.func243, tr243⟩, trivial, trivial⟩⟩, ⟨⟨_, Tryz.func246, tr246⟩, ⟨⟨_, Tryz.func245, tr245⟩, trivial, trivial⟩, ⟨⟨_, Tryz.func247, tr247⟩, trivial, trivial⟩⟩⟩, ⟨⟨_, Tryz.func253, tr253⟩, ⟨⟨_, Tryz.func251, tr251⟩, ⟨⟨_, Tryz.func250, tr250⟩, trivial, trivial⟩, ⟨⟨_, Tryz.func252, tr252⟩, trivial, trivial⟩⟩, ⟨⟨_, Tryz.func255, tr255⟩, ⟨⟨_, Tryz.func254, tr254⟩, trivial, trivial⟩, ⟨⟨_, Tryz.func256, tr256⟩, trivial, trivial⟩⟩⟩⟩, ⟨⟨_, Tryz.func265, tr265⟩, ⟨⟨_, Tryz.func261, tr261⟩, ⟨⟨_, Tryz.func259, tr259⟩, ⟨⟨_, Tryz.func258, tr258⟩, trivial, trivial⟩, ⟨⟨_, Tryz.func260, tr260⟩, trivial, trivial⟩⟩, ⟨⟨_, Tryz.func263, tr263⟩, ⟨⟨_, Tryz.func262, tr262⟩, trivial, trivial⟩, ⟨⟨_, Tryz.func264, tr264⟩, trivial, trivial⟩⟩⟩, ⟨⟨_, Tryz.func277, tr277⟩, ⟨⟨_, Tryz.func275, tr275⟩, ⟨⟨_, Tryz.func266, tr266⟩, trivial, trivial⟩, ⟨⟨_, Tryz.func276, tr276⟩, trivial, trivial⟩⟩, ⟨⟨_, Tryz.func279, tr279⟩, ⟨⟨_, Tryz.func278, tr278⟩, trivial, trivial⟩, ⟨⟨_, Tryz.func280, tr280⟩, trivial, trivial⟩⟩⟩⟩⟩⟩, ⟨⟨_, Tryz.func340, tr340⟩, ⟨⟨_, Tryz.func303, tr303⟩, ⟨⟨_, Tryz.func295, tr295⟩, ⟨⟨_, Tryz.func288, tr288⟩, ⟨⟨_, Tryz.func284, tr284⟩, ⟨⟨_, Tryz.func282, tr282⟩, trivial, trivial⟩, ⟨⟨_, Tryz.func286, tr286⟩, trivial, trivial⟩⟩, ⟨⟨_, Tryz.func292, tr292⟩, ⟨⟨_, Tryz.func290, tr290⟩, trivial, trivial⟩, ⟨⟨_, Tryz.func294, tr294⟩, trivial, trivial⟩⟩⟩, ⟨⟨_, Tryz.func299, tr299⟩, ⟨⟨_, Tryz.func297, tr297⟩, ⟨⟨_, Tryz.func296, tr296⟩, trivial, trivial⟩, ⟨⟨_, Tryz.func298, tr298⟩, trivial, trivial⟩⟩, ⟨⟨_, Tryz.func301, tr301⟩, ⟨⟨_, Tryz.func300, tr300⟩, trivial, trivial⟩, ⟨⟨_, Tryz.func302, tr302⟩, trivial, trivial⟩⟩⟩⟩, ⟨⟨_, Tryz.func329, tr329⟩, ⟨⟨_, Tryz.func308, tr308⟩, ⟨⟨_, Tryz.func306, tr306⟩, ⟨⟨_, Tryz.func304, tr304⟩, trivial, trivial⟩, ⟨⟨_, Tryz.func307, tr307⟩, trivial, trivial⟩⟩, ⟨⟨_, Tryz.func327, tr327⟩, ⟨⟨_, Tryz.func312, tr312⟩, trivial, trivial⟩, ⟨⟨_, Tryz.func328, tr328⟩, trivial, trivial⟩⟩⟩, ⟨⟨_, Tryz.func336, tr336⟩, ⟨⟨_, Tryz.func332, tr332⟩, ⟨⟨_, Tryz.func330, tr330⟩, trivial, trivial⟩, ⟨⟨_, Tryz.func335, tr335⟩, trivial, trivial⟩⟩, ⟨⟨_, Tryz.func338, tr338⟩, ⟨⟨_, Tryz.func337, tr337⟩, trivial, trivial⟩, ⟨⟨_, Tryz.func339, tr339⟩, trivial, trivial⟩⟩⟩⟩⟩, ⟨⟨_, Tryz.func377, tr377⟩, ⟨⟨_, Tryz.func349, tr349⟩, ⟨⟨_, Tryz.func344, tr344⟩, ⟨⟨_, Tryz.func342, tr342⟩, ⟨⟨_, Tryz.func341, tr341⟩, trivial, trivial⟩, ⟨⟨_, Tryz.func343, tr343⟩, trivial, trivial⟩⟩, ⟨⟨_, Tryz.func347, tr347⟩, ⟨⟨_, Tryz.func346, tr346⟩, trivial, trivial⟩, ⟨⟨_, Tryz.func348, tr348⟩, trivial, trivial⟩⟩⟩, ⟨⟨_, Tryz.func372, tr372⟩, ⟨⟨_, Tryz.func370, tr370⟩, ⟨⟨_, Tryz.func368, tr368⟩, trivial, trivial⟩, ⟨⟨_, Tryz.func371, tr371⟩, trivial, trivial⟩⟩, ⟨⟨_, Tryz.func374, tr374⟩, ⟨⟨_, Tryz.func373, tr373⟩, trivial, trivial⟩, ⟨⟨_, Tryz.func376, tr376⟩, trivial, trivial⟩⟩⟩⟩, ⟨⟨_, Tryz.func404, tr404⟩, ⟨⟨_, Tryz.func384, tr384⟩, ⟨⟨_, Tryz.func381, tr381⟩, ⟨⟨_, Tryz.func378, tr378⟩, trivial, trivial⟩, ⟨⟨_, Tryz.func383, tr383⟩, trivial, trivial⟩⟩, ⟨⟨_, Tryz.func386, tr386⟩, ⟨⟨_, Tryz.func385, tr385⟩, trivial, trivial⟩, ⟨⟨_, Tryz.func387, tr387⟩, trivial, trivial⟩⟩⟩, ⟨⟨_, Tryz.func412, tr412⟩, ⟨⟨_, Tryz.func406, tr406⟩, ⟨⟨_, Tryz.func405, tr405⟩, trivial, trivial⟩, ⟨⟨_, Tryz.func410, tr410⟩, trivial, trivial⟩⟩, ⟨⟨_, Tryz.func442, tr442⟩, ⟨⟨_, Tryz.func413, tr413⟩, trivial, trivial⟩, ⟨⟨_, Tryz.func463, tr463⟩, trivial, trivial⟩⟩⟩⟩⟩⟩⟩⟩

theorem bears_auto {P : Program} {f : FuncId} {B : Func} (h1 : (((P.funcs[f]?).getD default).name == "runtime.NumGoroutine") = false) (h2 : P.funcs[f]? = some { B with name := ((P.funcs[f]?).getD default).name }) : Go.Proofs.Bears P f B := ⟨_, h1, h2⟩
def renS : Ren := { f := fun n => match n with | 5 => 113 | 7 => 157 | 8 => 158 | 10 => 198 | 11 => 199 | 12 => 200 | 13 => 201 | 14 => 202 | 15 => 203 | 16 => 204 | 17 => 205 | 18 => 206 | 19 => 207 | 20 => 208 | 30 => 230 | 31 => 231 | 32 => 232 | 33 => 233 | 34 => 234 | 35 => 235 | 40 => 249 | n => n, t := fun n => match n with | 0 => 0 | 3 => 3 | 4 => 4 | 5 => 5 | 9 => 9 | 22 => 39 | 23 => 39 | 25 => 3 | 32 => 180 | 35 => 309 | 36 => 310 | 41 => 314 | 44 => 170 | 46 => 174 | 53 => 335 | 57 => 339 | 63 => 384 | 64 => 385 | n => n, g := fun n => n }
theorem laysS : SlLaysM.n5 Tryz.prog renS := by
  constructor
  all_goals first
    | kernel_rfl
    | (intro w; kernel_rfl)
    | exact bears_auto (by kernel_rfl) (by kernel_rfl)
def renK0 : Ren := { f := fun n => match n with | 6 => 76 | 7 => 133 | 8 => 112 | 9 => 113 | 10 => 169 | 11 => 156 | n => n, t := fun n => match n with | 0 => 0 | 3 => 158 | 4 => 4 | 5 => 5 | 9 => 9 | 23 => 85 | 24 => 39 | 26 => 3 | 27 => 127 | 28 => 128 | 33 => 112 | 37 => 180 | 39 => 309 | 40 => 310 | 45 => 314 | 48 => 170 | 50 => 174 | 51 => 335 | 55 => 339 | 57 => 384 | 58 => 385 | n => n, g := fun n => n }
theorem laysK0 : SlLaysZI.n7 Tryz.prog renK0 := by
  constructor
  all_goals first
    | kernel_rfl
    | (intro w; kernel_rfl)
    | exact bears_auto (by kernel_rfl) (by kernel_rfl)
theorem laysO : SlLaysZI.n6 Tryz.prog renK0 := by
  constructor
  all_goals first
    | kernel_rfl
    | (intro w; kernel_rfl)
    | exact bears_auto (by kernel_rfl) (by kernel_rfl)
theorem sorts (m : Nat) : Go.Proofs.AnyZI.SortsIn Tryz.prog renK0 Fence.wide m :=
  ⟨fun blk off cap ss W hH hblk hsz => callsIn_wide.2 (Go.Proofs.AnyM.slices_Sort_int laysS blk off cap ss W hH hblk hsz), fun p cap W => callsIn_wide.2 (Go.Proofs.AnyM.slices_Sort_int_none laysS p cap W)⟩
def renK1 : Ren := { f := fun n => match n with | 6 => 76 | 7 => 159 | 8 => 112 | 9 => 113 | 10 => 209 | 11 => 156 | n => n, t := fun n => match n with | 0 => 0 | 3 => 67 | 4 => 4 | 5 => 5 | 9 => 9 | 23 => 42 | 24 => 39 | 26 => 3 | 27 => 127 | 28 => 128 | 33 => 112 | 37 => 180 | 39 => 309 | 40 => 310 | 45 => 314 | 48 => 170 | 50 => 174 | 51 => 335 | 55 => 339 | 57 => 384 | 58 => 385 | n => n, g := fun n => n }
theorem laysK1 : SlLaysZI.n7 Tryz.prog renK1 := by
  constructor
  all_goals first
    | kernel_rfl
    | (intro w; kernel_rfl)
    | exact bears_auto (by kernel_rfl) (by kernel_rfl)
theorem laysO1 : SlLaysZI.n6 Tryz.prog renK1 := by
  constructor
  all_goals first
    | kernel_rfl
    | (intro w; kernel_rfl)
    | exact bears_auto (by kernel_rfl) (by kernel_rfl)
theorem sorts1 (m : Nat) : Go.Proofs.AnyZI.SortsIn Tryz.prog renK1 Fence.wide m :=
  ⟨fun blk off cap ss W hH hblk hsz => callsIn_wide.2 (Go.Proofs.AnyM.slices_Sort_int laysS blk off cap ss W hH hblk hsz), fun p cap W => callsIn_wide.2 (Go.Proofs.AnyM.slices_Sort_int_none laysS p cap W)⟩
def renK2 : Ren := { f := fun n => match n with | 6 => 76 | 7 => 279 | 8 => 112 | 9 => 113 | 10 => 334 | 11 => 156 | n => n, t := fun n => match n with | 0 => 0 | 3 => 383 | 4 => 4 | 5 => 5 | 9 => 9 | 23 => 371 | 24 => 39 | 26 => 3 | 27 => 127 | 28 => 128 | 33 => 112 | 37 => 180 | 39 => 309 | 40 => 310 | 45 => 314 | 48 => 170 | 50 => 174 | 51 => 335 | 55 => 339 | 57 => 384 | 58 => 385 | n => n, g := fun n => n }
theorem laysK2 : SlLaysZI.n7 Tryz.prog renK2 := by
  constructor
  all_goals first
    | kernel_rfl
    | (intro w; kernel_rfl)
    | exact bears_auto (by kernel_rfl) (by kernel_rfl)
theorem laysO2 : SlLaysZI.n6 Tryz.prog renK2 := by
  constructor
  all_goals first
    | kernel_rfl
    | (intro w; kernel_rfl)
    | exact bears_auto (by kernel_rfl) (by kernel_rfl)
theorem sorts2 (m : Nat) : Go.Proofs.AnyZI.SortsIn Tryz.prog renK2 Fence.wide m :=
  ⟨fun blk off cap ss W hH hblk hsz => callsIn_wide.2 (Go.Proofs.AnyM.slices_Sort_int laysS blk off cap ss W hH hblk hsz), fun p cap W => callsIn_wide.2 (Go.Proofs.AnyM.slices_Sort_int_none laysS p cap W)⟩
def renI : Ren := { f := fun n => match n with | 21 => 336 | 27 => 379 | 28 => 380 | 35 => 409 | 39 => 78 | n => n, t := fun n => match n with | 22 => 39 | n => n, g := fun n => n }
theorem laysI : Lays2.n21 Tryz.prog renI := by
  constructor
  all_goals first
    | kernel_rfl
    | (intro w; kernel_rfl)
theorem stirOk : Xe Tryz.prog 144 Vk :=
  TU (r := 187) (by kernel_rfl) (by kernel_rfl) Tryz.func144 (by kernel_rfl) Tryz.func187 (by kernel_rfl) (fun X w => Zk Tryz.func144 (by kernel_rfl) (by kernel_rfl) X w)
def renX : Ren := { f := fun n => match n with | 217 => 188 | 266 => 222 | n => n, t := fun n => match n with | 3 => 3 | 5 => 5 | 9 => 9 | n => n, g := fun n => n }
theorem laysX : Lays.n217 Tryz.prog renX := by
  constructor
  all_goals first
    | kernel_rfl
    | (intro w; kernel_rfl)
noncomputable def env : Env := { fn := tab.find, intr := fun k => bif Nat.beq k 133 then some (fun all s => WZ all 169 s) else bif Nat.beq k 159 then some (fun all s => WZ all 209 s) else bif Nat.beq k 279 then some (fun all s => WZ all 334 s) else bif Nat.beq k 76 then some (fun a s => match (fun a s => match (fun all s => Yw 169 all s) a s with | some r => some r | none => (fun all s => Yw 209 all s) a s) a s with | some r => some r | none => (fun all s => Yw 334 all s) a s) else bif Nat.beq k 336 then some (Jm) else bif Nat.beq k 144 then some (Vk) else bif Nat.beq k 188 then some (VJ) else none, lf := 100000 }
theorem env_ok : Ga Tryz.prog env := by
  refine ⟨by kernel_rfl, fun k df h => BT.find_all tab_ok h, fun k F h => ?_⟩
  have h : (bif Nat.beq k 133 then some (fun all s => WZ all 169 s) else bif Nat.beq k 159 then some (fun all s => WZ all 209 s) else bif Nat.beq k 279 then some (fun all s => WZ all 334 s) else bif Nat.beq k 76 then some (fun a s => match (fun a s => match (fun all s => Yw 169 all s) a s with | some r => some r | none => (fun all s => Yw 209 all s) a s) a s with | some r => some r | none => (fun all s => Yw 334 all s) a s) else bif Nat.beq k 336 then some (Jm) else bif Nat.beq k 144 then some (Vk) else bif Nat.beq k 188 then some (VJ) else none) = some F := h
  cases hb133 : Nat.beq k 133 with
  | true =>
    rw [hb133] at h
    simp only [cond_true, Option.some.injEq] at h
    subst h
    rw [Nat.eq_of_beq_eq_true hb133]
    exact K3 (ρ := renK0) laysK0 (fun X w => Zk Tryz.func133 (by kernel_rfl) (by kernel_rfl) X w)
  | false =>
    rw [hb133] at h
    simp only [cond_false] at h
    cases hb159 : Nat.beq k 159 with
    | true =>
      rw [hb159] at h
      simp only [cond_true, Option.some.injEq] at h
      subst h
      rw [Nat.eq_of_beq_eq_true hb159]
      exact K3 (ρ := renK1) laysK1 (fun X w => Zk Tryz.func159 (by kernel_rfl) (by kernel_rfl) X w)
    | false =>
      rw [hb159] at h
      simp only [cond_false] at h
      cases hb279 : Nat.beq k 279 with
      | true =>
        rw [hb279] at h
        simp only [cond_true, Option.some.injEq] at h
        subst h
        rw [Nat.eq_of_beq_eq_true hb279]
        exact K3 (ρ := renK2) laysK2 (fun X w => Zk Tryz.func279 (by kernel_rfl) (by kernel_rfl) X w)
      | false =>
        rw [hb279] at h
        simp only [cond_false] at h
        cases hb76 : Nat.beq k 76 with
        | true =>
          rw [hb76] at h
          simp only [cond_true, Option.some.injEq] at h
          subst h
          rw [Nat.eq_of_beq_eq_true hb76]
          exact Xe.or (Xe.or (Q7 (ρ := renK0) laysO { laysK0 with } sorts (fun X w => Zk Tryz.func113 (by kernel_rfl) (by kernel_rfl) X w) (fun X w => Zk Tryz.func76 (by kernel_rfl) (by kernel_rfl) X w)) (Q7 (ρ := renK1) laysO1 { laysK1 with } sorts1 (fun X w => Zk Tryz.func113 (by kernel_rfl) (by kernel_rfl) X w) (fun X w => Zk Tryz.func76 (by kernel_rfl) (by kernel_rfl) X w))) (Q7 (ρ := renK2) laysO2 { laysK2 with } sorts2 (fun X w => Zk Tryz.func113 (by kernel_rfl) (by kernel_rfl) X w) (fun X w => Zk Tryz.func76 (by kernel_rfl) (by kernel_rfl) X w))
        | false =>
          rw [hb76] at h
          simp only [cond_false] at h
          cases hb336 : Nat.beq k 336 with
          | true =>
            rw [hb336] at h
            simp only [cond_true, Option.some.injEq] at h
            subst h
            rw [Nat.eq_of_beq_eq_true hb336]
            exact DX (ρ := renI) laysI (fun X w => Zk Tryz.func336 (by kernel_rfl) (by kernel_rfl) X w)
          | false =>
            rw [hb336] at h
            simp only [cond_false] at h
            cases hb144 : Nat.beq k 144 with
            | true =>
              rw [hb144] at h
              simp only [cond_true, Option.some.injEq] at h
              subst h
              rw [Nat.eq_of_beq_eq_true hb144]
              exact stirOk
            | false =>
              rw [hb144] at h
              simp only [cond_false] at h
              cases hb188 : Nat.beq k 188 with
              | true =>
                rw [hb188] at h
                simp only [cond_true, Option.some.injEq] at h
                subst h
                rw [Nat.eq_of_beq_eq_true hb188]
                exact SU (ρ := renX) laysX (fun X w => Zk Tryz.func188 (by kernel_rfl) (by kernel_rfl) X w)
              | false =>
                rw [hb188] at h
                simp only [cond_false] at h
                cases h

theorem runsL : NG (Fr env 200 (.func (.func 5) #[] #[]) [] s0) = true := by kernel_rfl
theorem livesL (W : World) : Calls Tryz.prog 5 #[] W fun e w' => e = .returned (.bool true) ∧ Kept W w' := top env_ok runsL (fun _ => .nil) W
noncomputable def VW : Env := { fn := tab.find, intr := fun k => bif Nat.beq k 5 then some (Ks) else bif Nat.beq k 133 then some (fun all s => WZ all 169 s) else bif Nat.beq k 76 then some (fun all s => Yw 169 all s) else bif Nat.beq k 336 then some (Jm) else none, lf := 100000 }
theorem env2_ok : Ga Tryz.prog VW := by
  refine ⟨env_ok.mixed, fun k df h => BT.find_all tab_ok h, fun k F h => ?_⟩
  have h : (bif Nat.beq k 5 then some (Ks) else bif Nat.beq k 133 then some (fun all s => WZ all 169 s) else bif Nat.beq k 76 then some (fun all s => Yw 169 all s) else bif Nat.beq k 336 then some (Jm) else none) = some F := h
  cases hb5 : Nat.beq k 5 with
  | true =>
    rw [hb5] at h
    simp only [cond_true, Option.some.injEq] at h
    subst h
    rw [Nat.eq_of_beq_eq_true hb5]
    exact TK livesL (fun X w => Zk Tryz.func5 (by kernel_rfl) (by kernel_rfl) X w)
  | false =>
    rw [hb5] at h
    simp only [cond_false] at h
    cases hb133 : Nat.beq k 133 with
    | true =>
      rw [hb133] at h
      simp only [cond_true, Option.some.injEq] at h
      subst h
      rw [Nat.eq_of_beq_eq_true hb133]
      exact K3 (ρ := renK0) laysK0 (fun X w => Zk Tryz.func133 (by kernel_rfl) (by kernel_rfl) X w)
    | false =>
      rw [hb133] at h
      simp only [cond_false] at h
      cases hb76 : Nat.beq k 76 with
      | true =>
        rw [hb76] at h
        simp only [cond_true, Option.some.injEq] at h
        subst h
        rw [Nat.eq_of_beq_eq_true hb76]
        exact Q7 (ρ := renK0) laysO { laysK0 with } sorts (fun X w => Zk Tryz.func113 (by kernel_rfl) (by kernel_rfl) X w) (fun X w => Zk Tryz.func76 (by kernel_rfl) (by kernel_rfl) X w)
      | false =>
        rw [hb76] at h
        simp only [cond_false] at h
        cases hb336 : Nat.beq k 336 with
        | true =>
          rw [hb336] at h
          simp only [cond_true, Option.some.injEq] at h
          subst h
          rw [Nat.eq_of_beq_eq_true hb336]
          exact DX (ρ := renI) laysI (fun X w => Zk Tryz.func336 (by kernel_rfl) (by kernel_rfl) X w)
        | false =>
          rw [hb336] at h
          simp only [cond_false] at h
          cases h
theorem sefns : Go.Dx.RpA.CS VW := by constructor <;> first | rfl | exact of_decide_eq_true rfl | exact fun d => (YV env2_ok d).1
theorem cfns : Go.Dx.RpA.CFns VW := by constructor <;> first | rfl | exact of_decide_eq_true rfl | exact fun d => (YV env2_ok d).1
theorem pkfns : Go.Dx.RpA.Dw VW := by constructor <;> first | rfl | exact of_decide_eq_true rfl | exact fun d => (YV env2_ok d).1
theorem fns : Go.Dx.RpA.Fns VW := by constructor <;> first | rfl | exact of_decide_eq_true rfl | exact fun d => (YV env2_ok d).1
theorem its : Go.Dx.RpA.Its VW := by constructor <;> first | rfl | exact of_decide_eq_true rfl | exact fun d => (YV env2_ok d).1
theorem bfns : Go.Dx.RpA.RR VW := by constructor <;> first | rfl | exact of_decide_eq_true rfl | exact fun d => (YV env2_ok d).1
theorem cfns2 : Go.Dx.RpB.CFns VW := by constructor <;> first | rfl | exact of_decide_eq_true rfl | exact fun d => (YV env2_ok d).1
theorem tbfns : Go.Dx.RpB.TbFns VW := by constructor <;> first | rfl | exact of_decide_eq_true rfl | exact fun d => (YV env2_ok d).1
theorem fkfns : Go.Dx.RpA.CT VW := by constructor <;> first | rfl | exact of_decide_eq_true rfl | exact fun d => (YV env2_ok d).1
theorem walk (a0 a1 a2 a3 a4 a5 a6 a7 a8 : Int) (w : World) : Calls Tryz.prog 3 #[.agg ⟨[.int .i64 a0, .int .i64 a1, .int .i64 a2, .int .i64 a3, .int .i64 a4, .int .i64 a5, .int .i64 a6]⟩, .int .i64 a7, .int .i64 a8] w fun e w' => e = .returned (.bool true) ∧ Kept w w' := by
  obtain ⟨⟨rv, s'⟩, hr, hq⟩ := Go.Dx.RpA.N8 sefns cfns pkfns fns its bfns cfns2 tbfns fkfns (rfl : VW.intr 5 = some Ks) R6 (d := 0) (c := a0) (me := a1) (rm := a2) (kd := a3) (lm := a4) (ev := a5) (pt := a6) (b := a7) (vw := a8)
  simp only at hq
  subst hq
  exact Mh env2_ok hr (fun _ => .cons (.agg (.cons (.int _ _) (.cons (.int _ _) (.cons (.int _ _) (.cons (.int _ _) (.cons (.int _ _) (.cons (.int _ _) (.cons (.int _ _) .nil)))))))) (.cons (.int _ _) (.cons (.int _ _) .nil))) w
end Go.Proofs.YtpfkbiaikfbpeaaGreat.replicaSeats
