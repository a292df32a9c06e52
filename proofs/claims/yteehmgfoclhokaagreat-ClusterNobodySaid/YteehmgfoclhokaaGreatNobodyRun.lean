/- ClusterNobody returns true for every input, and leaves what it was given as it was. -/
import Derived.Test.YteehmgfoclhokaaGreatRows
import Derived.Test.YteehmgfoclhokaaGreatDxKu
import Derived.Test.YteehmgfoclhokaaGreatDxRow
import Derived.Test.YteehmgfoclhokaaGreatDxSorted
import Derived.Shelf.SortM.Plain
import Derived.Shelf.SortM.SortNone
import Derived.Shelf.Lays2
import Derived.Test.YteehmgfoclhokaaGreatDxIns
import Derived.Test.YteehmgfoclhokaaGreatDxStir
import Derived.Test.YteehmgfoclhokaaGreatDxIndex
namespace Go.Proofs.YteehmgfoclhokaaGreat.clusterNobody
open Go.ChangeShapes Go.WideShapes Go.ChangeAt Go.RowKit Go.Dx Go.Shelf
set_option linter.unusedVariables false
set_option linter.unusedSimpArgs false
set_option maxRecDepth 100000
set_option maxHeartbeats 4000000

/-! ### The evaluator's tables -/
inductive BT where
  | leaf
  | node (k : Nat) (d : DFunc) (l r : BT)
def BT.find : BT → Nat → Option DFunc
  | .leaf, _ => none
  | .node k d l r, x => bif Nat.beq x k then some d else bif Nat.blt x k then l.find x else r.find x
def BT.All (Q : Nat → DFunc → Prop) : BT → Prop
  | .leaf => True
  | .node k d l r => Q k d ∧ l.All Q ∧ r.All Q
theorem BT.find_all {Q : Nat → DFunc → Prop} : ∀ {t : BT} {x : Nat} {d : DFunc}, t.All Q → t.find x = some d → Q x d
  | .leaf, x, d, _, h => by cases h
  | .node k d0 l r, x, d, ⟨h1, h2, h3⟩, h => by
    unfold BT.find at h
    cases hb : Nat.beq x k with
    | true =>
      rw [hb] at h
      simp only [cond_true, Option.some.injEq] at h
      subst h
      rw [Nat.eq_of_beq_eq_true hb]; exact h1
    | false =>
      rw [hb] at h
      cases hl : Nat.blt x k with
      | true => rw [hl] at h; exact BT.find_all h2 h
      | false => rw [hl] at h; exact BT.find_all h3 h
def FnOk (k : Nat) (df : DFunc) : Prop := ∃ f, Tryz.prog.funcs[k]? = some f ∧ trFunc Tryz.prog f = some df
def tab : BT := (.node 230 d230 (.node 113 d113 (.node 58 d58 (.node 29 d29 (.node 17 d17 (.node 11 d11 (.node 7 d7 (.node 5 d5 (.node 4 d4 .leaf .leaf) (.node 6 d6 .leaf .leaf)) (.node 10 d10 (.node 9 d9 .leaf .leaf) .leaf)) (.node 14 d14 (.node 13 d13 (.node 12 d12 .leaf .leaf) .leaf) (.node 16 d16 (.node 15 d15 .leaf .leaf) .leaf))) (.node 23 d23 (.node 20 d20 (.node 19 d19 (.node 18 d18 .leaf .leaf) .leaf) (.node 22 d22 (.node 21 d21 .leaf .leaf) .leaf)) (.node 26 d26 (.node 25 d25 (.node 24 d24 .leaf .leaf) .leaf) (.node 28 d28 (.node 27 d27 .leaf .leaf) .leaf)))) (.node 44 d44 (.node 37 d37 (.node 33 d33 (.node 32 d32 (.node 30 d30 .leaf .leaf) .leaf) (.node 36 d36 (.node 35 d35 .leaf .leaf) .leaf)) (.node 41 d41 (.node 40 d40 (.node 39 d39 .leaf .leaf) .leaf) (.node 43 d43 (.node 42 d42 .leaf .leaf) .leaf))) (.node 51 d51 (.node 47 d47 (.node 46 d46 (.node 45 d45 .leaf .leaf) .leaf) (.node 50 d50 (.node 49 d49 .leaf .leaf) .leaf)) (.node 54 d54 (.node 53 d53 (.node 52 d52 .leaf .leaf) .leaf) (.node 57 d57 (.node 55 d55 .leaf .leaf) .leaf))))) (.node 86 d86 (.node 74 d74 (.node 66 d66 (.node 61 d61 (.node 60 d60 (.node 59 d59 .leaf .leaf) .leaf) (.node 63 d63 (.node 62 d62 .leaf .leaf) .leaf)) (.node 69 d69 (.node 68 d68 (.node 67 d67 .leaf .leaf) .leaf) (.node 71 d71 (.node 70 d70 .leaf .leaf) .leaf))) (.node 80 d80 (.node 77 d77 (.node 76 d76 (.node 75 d75 .leaf .leaf) .leaf) (.node 79 d79 (.node 78 d78 .leaf .leaf) .leaf)) (.node 83 d83 (.node 82 d82 (.node 81 d81 .leaf .leaf) .leaf) (.node 85 d85 (.node 84 d84 .leaf .leaf) .leaf)))) (.node 100 d100 (.node 94 d94 (.node 89 d89 (.node 88 d88 (.node 87 d87 .leaf .leaf) .leaf) (.node 93 d93 (.node 90 d90 .leaf .leaf) .leaf)) (.node 97 d97 (.node 96 d96 (.node 95 d95 .leaf .leaf) .leaf) (.node 99 d99 (.node 98 d98 .leaf .leaf) .leaf))) (.node 107 d107 (.node 104 d104 (.node 103 d103 (.node 102 d102 .leaf .leaf) .leaf) (.node 106 d106 (.node 105 d105 .leaf .leaf) .leaf)) (.node 110 d110 (.node 109 d109 (.node 108 d108 .leaf .leaf) .leaf) (.node 112 d112 (.node 111 d111 .leaf .leaf) .leaf)))))) (.node 177 d177 (.node 142 d142 (.node 126 d126 (.node 120 d120 (.node 117 d117 (.node 115 d115 (.node 114 d114 .leaf .leaf) (.node 116 d116 .leaf .leaf)) (.node 119 d119 (.node 118 d118 .leaf .leaf) .leaf)) (.node 123 d123 (.node 122 d122 (.node 121 d121 .leaf .leaf) .leaf) (.node 125 d125 (.node 124 d124 .leaf .leaf) .leaf))) (.node 132 d132 (.node 129 d129 (.node 128 d128 (.node 127 d127 .leaf .leaf) .leaf) (.node 131 d131 (.node 130 d130 .leaf .leaf) .leaf)) (.node 136 d136 (.node 135 d135 (.node 134 d134 .leaf .leaf) .leaf) (.node 141 d141 (.node 137 d137 .leaf .leaf) .leaf)))) (.node 163 d163 (.node 157 d157 (.node 145 d145 (.node 144 d144 (.node 143 d143 .leaf .leaf) .leaf) (.node 147 d147 (.node 146 d146 .leaf .leaf) .leaf)) (.node 160 d160 (.node 159 d159 (.node 158 d158 .leaf .leaf) .leaf) (.node 162 d162 (.node 161 d161 .leaf .leaf) .leaf))) (.node 171 d171 (.node 166 d166 (.node 165 d165 (.node 164 d164 .leaf .leaf) .leaf) (.node 170 d170 (.node 167 d167 .leaf .leaf) .leaf)) (.node 174 d174 (.node 173 d173 (.node 172 d172 .leaf .leaf) .leaf) (.node 176 d176 (.node 175 d175 .leaf .leaf) .leaf))))) (.node 201 d201 (.node 189 d189 (.node 183 d183 (.node 180 d180 (.node 179 d179 (.node 178 d178 .leaf .leaf) .leaf) (.node 182 d182 (.node 181 d181 .leaf .leaf) .leaf)) (.node 186 d186 (.node 185 d185 (.node 184 d184 .leaf .leaf) .leaf) (.node 188 d188 (.node 187 d187 .leaf .leaf) .leaf))) (.node 195 d195 (.node 192 d192 (.node 191 d191 (.node 190 d190 .leaf .leaf) .leaf) (.node 194 d194 (.node 193 d193 .leaf .leaf) .leaf)) (.node 198 d198 (.node 197 d197 (.node 196 d196 .leaf .leaf) .leaf) (.node 200 d200 (.node 199 d199 .leaf .leaf) .leaf)))) (.node 213 d213 (.node 207 d207 (.node 204 d204 (.node 203 d203 (.node 202 d202 .leaf .leaf) .leaf) (.node 206 d206 (.node 205 d205 .leaf .leaf) .leaf)) (.node 210 d210 (.node 209 d209 (.node 208 d208 .leaf .leaf) .leaf) (.node 212 d212 (.node 211 d211 .leaf .leaf) .leaf))) (.node 224 d224 (.node 216 d216 (.node 215 d215 (.node 214 d214 .leaf .leaf) .leaf) (.node 223 d223 (.node 217 d217 .leaf .leaf) .leaf)) (.node 227 d227 (.node 226 d226 (.node 225 d225 .leaf .leaf) .leaf) (.node 229 d229 (.node 228 d228 .leaf .leaf) .leaf))))))) (.node 389 d389 (.node 322 d322 (.node 265 d265 (.node 252 d252 (.node 244 d244 (.node 234 d234 (.node 232 d232 (.node 231 d231 .leaf .leaf) (.node 233 d233 .leaf .leaf)) (.node 236 d236 (.node 235 d235 .leaf .leaf) .leaf)) (.node 247 d247 (.node 246 d246 (.node 245 d245 .leaf .leaf) .leaf) (.node 249 d249 (.node 248 d248 .leaf .leaf) .leaf))) (.node 259 d259 (.node 256 d256 (.node 255 d255 (.node 254 d254 .leaf .leaf) .leaf) (.node 258 d258 (.node 257 d257 .leaf .leaf) .leaf)) (.node 262 d262 (.node 261 d261 (.node 260 d260 .leaf .leaf) .leaf) (.node 264 d264 (.node 263 d263 .leaf .leaf) .leaf)))) (.node 284 d284 (.node 271 d271 (.node 268 d268 (.node 267 d267 (.node 266 d266 .leaf .leaf) .leaf) (.node 270 d270 (.node 269 d269 .leaf .leaf) .leaf)) (.node 281 d281 (.node 280 d280 (.node 279 d279 .leaf .leaf) .leaf) (.node 283 d283 (.node 282 d282 .leaf .leaf) .leaf))) (.node 302 d302 (.node 287 d287 (.node 286 d286 (.node 285 d285 .leaf .leaf) .leaf) (.node 293 d293 (.node 288 d288 .leaf .leaf) .leaf)) (.node 315 d315 (.node 304 d304 (.node 303 d303 .leaf .leaf) .leaf) (.node 320 d320 (.node 317 d317 .leaf .leaf) .leaf))))) (.node 357 d357 (.node 344 d344 (.node 335 d335 (.node 332 d332 (.node 331 d331 (.node 324 d324 .leaf .leaf) .leaf) (.node 334 d334 (.node 333 d333 .leaf .leaf) .leaf)) (.node 341 d341 (.node 340 d340 (.node 339 d339 .leaf .leaf) .leaf) (.node 343 d343 (.node 342 d342 .leaf .leaf) .leaf))) (.node 351 d351 (.node 348 d348 (.node 347 d347 (.node 345 d345 .leaf .leaf) .leaf) (.node 350 d350 (.node 349 d349 .leaf .leaf) .leaf)) (.node 354 d354 (.node 353 d353 (.node 352 d352 .leaf .leaf) .leaf) (.node 356 d356 (.node 355 d355 .leaf .leaf) .leaf)))) (.node 369 d369 (.node 363 d363 (.node 360 d360 (.node 359 d359 (.node 358 d358 .leaf .leaf) .leaf) (.node 362 d362 (.node 361 d361 .leaf .leaf) .leaf)) (.node 366 d366 (.node 365 d365 (.node 364 d364 .leaf .leaf) .leaf) (.node 368 d368 (.node 367 d367 .leaf .leaf) .leaf))) (.node 382 d382 (.node 376 d376 (.node 375 d375 (.node 371 d371 .leaf .leaf) .leaf) (.node 380 d380 (.node 378 d378 .leaf .leaf) .leaf)) (.node 386 d386 (.node 385 d385 (.node 384 d384 .leaf .leaf) .leaf) (.node 388 d388 (.node 387 d387 .leaf .leaf) .leaf)))))) (.node 469 d469 (.node 430 d430 (.node 403 d403 (.node 397 d397 (.node 393 d393 (.node 391 d391 (.node 390 d390 .leaf .leaf) (.node 392 d392 .leaf .leaf)) (.node 396 d396 (.node 395 d395 .leaf .leaf) .leaf)) (.node 400 d400 (.node 399 d399 (.node 398 d398 .leaf .leaf) .leaf) (.node 402 d402 (.node 401 d401 .leaf .leaf) .leaf))) (.node 424 d424 (.node 408 d408 (.node 407 d407 (.node 406 d406 .leaf .leaf) .leaf) (.node 423 d423 (.node 418 d418 .leaf .leaf) .leaf)) (.node 427 d427 (.node 426 d426 (.node 425 d425 .leaf .leaf) .leaf) (.node 429 d429 (.node 428 d428 .leaf .leaf) .leaf)))) (.node 442 d442 (.node 436 d436 (.node 433 d433 (.node 432 d432 (.node 431 d431 .leaf .leaf) .leaf) (.node 435 d435 (.node 434 d434 .leaf .leaf) .leaf)) (.node 439 d439 (.node 438 d438 (.node 437 d437 .leaf .leaf) .leaf) (.node 441 d441 (.node 440 d440 .leaf .leaf) .leaf))) (.node 450 d450 (.node 447 d447 (.node 446 d446 (.node 445 d445 .leaf .leaf) .leaf) (.node 449 d449 (.node 448 d448 .leaf .leaf) .leaf)) (.node 459 d459 (.node 452 d452 (.node 451 d451 .leaf .leaf) .leaf) (.node 468 d468 (.node 466 d466 .leaf .leaf) .leaf))))) (.node 502 d502 (.node 482 d482 (.node 475 d475 (.node 472 d472 (.node 471 d471 (.node 470 d470 .leaf .leaf) .leaf) (.node 474 d474 (.node 473 d473 .leaf .leaf) .leaf)) (.node 478 d478 (.node 477 d477 (.node 476 d476 .leaf .leaf) .leaf) (.node 481 d481 (.node 480 d480 .leaf .leaf) .leaf))) (.node 496 d496 (.node 485 d485 (.node 484 d484 (.node 483 d483 .leaf .leaf) .leaf) (.node 494 d494 (.node 486 d486 .leaf .leaf) .leaf)) (.node 499 d499 (.node 498 d498 (.node 497 d497 .leaf .leaf) .leaf) (.node 501 d501 (.node 500 d500 .leaf .leaf) .leaf)))) (.node 525 d525 (.node 510 d510 (.node 506 d506 (.node 504 d504 (.node 503 d503 .leaf .leaf) .leaf) (.node 509 d509 (.node 507 d507 .leaf .leaf) .leaf)) (.node 514 d514 (.node 513 d513 (.node 511 d511 .leaf .leaf) .leaf) (.node 516 d516 (.node 515 d515 .leaf .leaf) .leaf))) (.node 535 d535 (.node 531 d531 (.node 530 d530 (.node 529 d529 .leaf .leaf) .leaf) (.node 533 d533 (.node 532 d532 .leaf .leaf) .leaf)) (.node 539 d539 (.node 537 d537 (.node 536 d536 .leaf .leaf) .leaf) (.node 541 d541 (.node 540 d540 .leaf .leaf) .leaf))))))))
theorem tab_ok : tab.All FnOk := ⟨⟨_, Tryz.func230, tr230⟩, ⟨⟨_, Tryz.func113, tr113⟩, ⟨⟨_, Tryz.func58, tr58⟩, ⟨⟨_, Tryz.func29, tr29⟩, ⟨⟨_, Tryz.func17, tr17⟩, ⟨⟨_, Tryz.func11, tr11⟩, ⟨⟨_, Tryz.func7, tr7⟩, ⟨⟨_, Tryz.func5, tr5⟩, ⟨⟨_, Tryz.func4, tr4⟩, trivial, trivial⟩, ⟨⟨_, Tryz.func6, tr6⟩, trivial, trivial⟩⟩, ⟨⟨_, Tryz.func10, tr10⟩, ⟨⟨_, Tryz.func9, tr9⟩, trivial, trivial⟩, trivial⟩⟩, ⟨⟨_, Tryz.func14, tr14⟩, ⟨⟨_, Tryz.func13, tr13⟩, ⟨⟨_, Tryz.func12, tr12⟩, trivial, trivial⟩, trivial⟩, ⟨⟨_, Tryz.func16, tr16⟩, ⟨⟨_, Tryz.func15, tr15⟩, trivial, trivial⟩, trivial⟩⟩⟩, ⟨⟨_, Tryz.func23, tr23⟩, ⟨⟨_, Tryz.func20, tr20⟩, ⟨⟨_, Tryz.func19, tr19⟩, ⟨⟨_, Tryz.func18, tr18⟩, trivial, trivial⟩, trivial⟩, ⟨⟨_, Tryz.func22, tr22⟩, ⟨⟨_, Tryz.func21, tr21⟩, trivial, trivial⟩, trivial⟩⟩, ⟨⟨_, Tryz.func26, tr26⟩, ⟨⟨_, Tryz.func25, tr25⟩, ⟨⟨_, Tryz.func24, tr24⟩, trivial, trivial⟩, trivial⟩, ⟨⟨_, Tryz.func28, tr28⟩, ⟨⟨_, Tryz.func27, tr27⟩, trivial, trivial⟩, trivial⟩⟩⟩⟩, ⟨⟨_, Tryz.func44, tr44⟩, ⟨⟨_, Tryz.func37, tr37⟩, ⟨⟨_, Tryz.func33, tr33⟩, ⟨⟨_, Tryz.func32, tr32⟩, ⟨⟨_, Tryz.func30, tr30⟩, trivial, trivial⟩, trivial⟩, ⟨⟨_, Tryz.func36, tr36⟩, ⟨⟨_, Tryz.func35, tr35⟩, trivial, trivial⟩, trivial⟩⟩, ⟨⟨_, Tryz.func41, tr41⟩, ⟨⟨_, Tryz.func40, tr40⟩, ⟨⟨_, Tryz.func39, tr39⟩, trivial, trivial⟩, trivial⟩, ⟨⟨_, Tryz.func43, tr43⟩, ⟨⟨_, Tryz.func42, tr42⟩, trivial, trivial⟩, trivial⟩⟩⟩, ⟨⟨_, Tryz.func51, tr51⟩, ⟨⟨_, Tryz.func47, tr47⟩, ⟨⟨_, Tryz.func46, tr46⟩, ⟨⟨_, Tryz.func45, tr45⟩, trivial, trivial⟩, trivial⟩, ⟨⟨_, Tryz.func50, tr50⟩, ⟨⟨_, Tryz.func49, tr49⟩, trivial, trivial⟩, trivial⟩⟩, ⟨⟨_, Tryz.func54, tr54⟩, ⟨⟨_, Tryz.func53, tr53⟩, ⟨⟨_, Tryz.func52, tr52⟩, trivial, trivial⟩, trivial⟩, ⟨⟨_, Tryz.func57, tr57⟩, ⟨⟨_, Tryz.func55, tr55⟩, trivial, trivial⟩, trivial⟩⟩⟩⟩⟩, ⟨⟨_, Tryz.func86, tr86⟩, ⟨⟨_, Tryz.func74, tr74⟩, ⟨⟨_, Tryz.func66, tr66⟩, ⟨⟨_, Tryz.func61, tr61⟩, ⟨⟨_, Tryz.func60, tr60⟩, ⟨⟨_, Tryz.func59, tr59⟩, trivial, trivial⟩, trivial⟩, ⟨⟨_, Tryz.func63, tr63⟩, ⟨⟨_, Tryz.func62, tr62⟩, trivial, trivial⟩, trivial⟩⟩, ⟨⟨_, Tryz.func69, tr69⟩, ⟨⟨_, Tryz.func68, tr68⟩, ⟨⟨_, Tryz.func67, tr67⟩, trivial, trivial⟩, trivial⟩, ⟨⟨_, Tryz.func71, tr71⟩, ⟨⟨_, Tryz.func70, tr70⟩, trivial, trivial⟩, trivial⟩⟩⟩, ⟨⟨_, Tryz.func80, tr80⟩, ⟨⟨_, Tryz.func77, tr77⟩, ⟨⟨_, Tryz.func76, tr76⟩, ⟨⟨_, Tryz.func75, tr75⟩, trivial, trivial⟩, trivial⟩, ⟨⟨_, Tryz.func79, tr79⟩, ⟨⟨_, Tryz.func78, tr78⟩, trivial, trivial⟩, trivial⟩⟩, ⟨⟨_, Tryz.func83, tr83⟩, ⟨⟨_, Tryz.func82, tr82⟩, ⟨⟨_, Tryz.func81, tr81⟩, trivial, trivial⟩, trivial⟩, ⟨⟨_, Tryz.func85, tr85⟩, ⟨⟨_, Tryz.func84, tr84⟩, trivial, trivial⟩, trivial⟩⟩⟩⟩, ⟨⟨_, Tryz.func100, tr100⟩, ⟨⟨_, Tryz.func94, tr94⟩, ⟨⟨_, Tryz.func89, tr89⟩, ⟨⟨_, Tryz.func88, tr88⟩, ⟨⟨_, Tryz.func87, tr87⟩, trivial, trivial⟩, trivial⟩, ⟨⟨_, Tryz.func93, tr93⟩, ⟨⟨_, Tryz.func90, tr90⟩, trivial, trivial⟩, trivial⟩⟩, ⟨⟨_, Tryz.func97, tr97⟩, ⟨⟨_, Tryz.func96, tr96⟩, ⟨⟨_, Tryz.func95, tr95⟩, trivial, trivial⟩, trivial⟩, ⟨⟨_, Tryz.func99, tr99⟩, ⟨⟨_, Tryz.func98, tr98⟩, trivial, trivial⟩, trivial⟩⟩⟩, ⟨⟨_, Tryz.func107, tr107⟩, ⟨⟨_, Tryz.func104, tr104⟩, ⟨⟨_, Tryz.func103, tr103⟩, ⟨⟨_, Tryz.func102, tr102⟩, trivial, trivial⟩, trivial⟩, ⟨⟨_, Tryz.func106, tr106⟩, ⟨⟨_, Tryz.func105, tr105⟩, trivial, trivial⟩, trivial⟩⟩, ⟨⟨_, Tryz.func110, tr110⟩, ⟨⟨_, Tryz.func109, tr109⟩, ⟨⟨_, Tryz.func108, tr108⟩, trivial, trivial⟩, trivial⟩, ⟨⟨_, Tryz.func112, tr112⟩, ⟨⟨_, Tryz.func111, tr111⟩, trivial, trivial⟩, trivial⟩⟩⟩⟩⟩⟩, ⟨⟨_, Tryz.func177, tr177⟩, ⟨⟨_, Tryz.func142, tr142⟩, ⟨⟨_, Tryz.func126, tr126⟩, ⟨⟨_, Tryz.func120, tr120⟩, ⟨⟨_, Tryz.func117, tr117⟩, ⟨⟨_, Tryz.func115, tr115⟩, ⟨⟨_, Tryz.func114, tr114⟩, trivial, trivial⟩, ⟨⟨_, Tryz.func116, tr116⟩, trivial, trivial⟩⟩, ⟨⟨_, Tryz.func119, tr119⟩, ⟨⟨_, Tryz.func118, tr118⟩, trivial, trivial⟩, trivial⟩⟩, ⟨⟨_, Tryz.func123, tr123⟩, ⟨⟨_, Tryz.func122, tr122⟩, ⟨⟨_, Tryz.func121, tr121⟩, trivial, trivial⟩, trivial⟩, ⟨⟨_, Tryz.func125, tr125⟩, ⟨⟨_, Tryz.func124, tr124⟩, trivial, trivial⟩, trivial⟩⟩⟩, ⟨⟨_, Tryz.func132, tr132⟩, ⟨⟨_, Tryz.func129, tr129⟩, ⟨⟨_, Tryz.func128, tr128⟩, ⟨⟨_, Tryz.func127, tr127⟩, trivial, trivial⟩, trivial⟩, ⟨⟨_, Tryz.func131, tr131⟩, ⟨⟨_, Tryz.func130, tr130⟩, trivial, trivial⟩, trivial⟩⟩, ⟨⟨_, Tryz.func136, tr136⟩, ⟨⟨_, Tryz.func135, tr135⟩, ⟨⟨_, Tryz.func134, tr134⟩, trivial, trivial⟩, trivial⟩, ⟨⟨_, Tryz.func141, tr141⟩, ⟨⟨_, Tryz.func137, tr137⟩, trivial, trivial⟩, trivial⟩⟩⟩⟩, ⟨⟨_, Tryz.func163, tr163⟩, ⟨⟨_, Tryz.func157, tr157⟩, ⟨⟨_, Tryz.func145, tr145⟩, ⟨⟨_, Tryz.func144, tr144⟩, ⟨⟨_, Tryz.func143, tr143⟩, trivial, trivial⟩, trivial⟩, ⟨⟨_, Tryz.func147, tr147⟩, ⟨⟨_, Tryz.func146, tr146⟩, trivial, trivial⟩, trivial⟩⟩, ⟨⟨_, Tryz.func160, tr160⟩, ⟨⟨_, Tryz.func159, tr159⟩, ⟨⟨_, Tryz.func158, tr158⟩, trivial, trivial⟩, trivial⟩, ⟨⟨_, Tryz.func162, tr162⟩, ⟨⟨_, Tryz.func161, tr161⟩, trivial, trivial⟩, trivial⟩⟩⟩, ⟨⟨_, Tryz.func171, tr171⟩, ⟨⟨_, Tryz.func166, tr166⟩, ⟨⟨_, Tryz.func165, tr165⟩, ⟨⟨_, Tryz.func164, tr164⟩, trivial, trivial⟩, trivial⟩, ⟨⟨_, Tryz.func170, tr170⟩, ⟨⟨_, Tryz.func167, tr167⟩, trivial, trivial⟩, trivial⟩⟩, ⟨⟨_, Tryz.func174, tr174⟩, ⟨⟨_, Tryz.func173, tr173⟩, ⟨⟨_, Tryz.func172, tr172⟩, trivial, trivial⟩, trivial⟩, ⟨⟨_, Tryz.func176, tr176⟩, ⟨⟨_, Tryz.func175, tr175⟩, trivial, trivial⟩, trivial⟩⟩⟩⟩⟩, ⟨⟨_, Tryz.func201, tr201⟩, ⟨⟨_, Tryz.func189, tr189⟩, ⟨⟨_, Tryz.func183, tr183⟩, ⟨⟨_, Tryz.func180, tr180⟩, ⟨⟨_, Tryz.func179, tr179⟩, ⟨⟨_, Tryz.func178, tr178⟩, trivial, trivial⟩, trivial⟩, ⟨⟨_, Tryz.func182, tr182⟩, ⟨⟨_, Tryz.func181, tr181⟩, trivial, trivial⟩, trivial⟩⟩, ⟨⟨_, Tryz.func186, tr186⟩, ⟨⟨_, Tryz.func185, tr185⟩, ⟨⟨_, Tryz.func184, tr184⟩, trivial, trivial⟩, trivial⟩, ⟨⟨_, Tryz.func188, tr188⟩, ⟨⟨_, Tryz.func187, tr187⟩, trivial, trivial⟩, trivial⟩⟩⟩, ⟨⟨_, Tryz.func195, tr195⟩, ⟨⟨_, Tryz.func192, tr192⟩, ⟨⟨_, Tryz.func191, tr191⟩, ⟨⟨_, Tryz.func190, tr190⟩, trivial, trivial⟩, trivial⟩, ⟨⟨_, Tryz.func194, tr194⟩, ⟨⟨_, Tryz.func193, tr193⟩, trivial, trivial⟩, trivial⟩⟩, ⟨⟨_, Tryz.func198, tr198⟩, ⟨⟨_, Tryz.func197, tr197⟩, ⟨⟨_, Tryz.func196, tr196⟩, trivial, trivial⟩, trivial⟩, ⟨⟨_, Tryz.func200, tr200⟩, ⟨⟨_, Tryz.func199, tr199⟩, trivial, trivial⟩, trivial⟩⟩⟩⟩, ⟨⟨_, Tryz.func213, tr213⟩, ⟨⟨_, Tryz.func207, tr207⟩, ⟨⟨_, Tryz.func204, tr204⟩, ⟨⟨_, Tryz.func203, tr203⟩, ⟨⟨_, Tryz.func202, tr202⟩, trivial, trivial⟩, trivial⟩, ⟨⟨_, Tryz.func206, tr206⟩, ⟨⟨_, Tryz.func205, tr205⟩, trivial, trivial⟩, trivial⟩⟩, ⟨⟨_, Tryz.func210, tr210⟩, ⟨⟨_, Tryz.func209, tr209⟩, ⟨⟨_, Tryz.func208, tr208⟩, trivial, trivial⟩, trivial⟩, ⟨⟨_, Tryz.func212, tr212⟩, ⟨⟨_, Tryz.func211, tr211⟩, trivial, trivial⟩, trivial⟩⟩⟩, ⟨⟨_, Tryz.func224, tr224⟩, ⟨⟨_, Tryz.func216, tr216⟩, ⟨⟨_, Tryz.func215, tr215⟩, ⟨⟨_, Tryz.func214, tr214⟩, trivial, trivial⟩, trivial⟩, ⟨⟨_, Tryz.func223, tr223⟩, ⟨⟨_, Tryz.func217, tr217⟩, trivial, trivial⟩, trivial⟩⟩, ⟨⟨_, Tryz.func227, tr227⟩, ⟨⟨_, Tryz.func226, tr226⟩, ⟨⟨_, Tryz.func225, tr225⟩, trivial, trivial⟩, trivial⟩, ⟨⟨_, Tryz.func229, tr229⟩, ⟨⟨_, Tryz.func228, tr228⟩, trivial, trivial⟩, trivial⟩⟩⟩⟩⟩⟩⟩, ⟨⟨_, Tryz.func389, tr389⟩, ⟨⟨_, Tryz.func322, tr322⟩, ⟨⟨_, Tryz.func265, tr265⟩, ⟨⟨_, Tryz.func252, tr252⟩, ⟨⟨_, Tryz.func244, tr244⟩, ⟨⟨_, Tryz.func234, tr234⟩, ⟨⟨_, Tryz.func232, tr232⟩, ⟨⟨_, Tryz.func231, tr231⟩, trivial, trivial⟩, ⟨⟨_, Tryz.func233, tr233⟩, trivial, trivial⟩⟩, ⟨⟨_, Tryz.func236, tr236⟩, ⟨⟨_, Tryz.func235, tr235⟩, trivial, trivial⟩, trivial⟩⟩, ⟨⟨_, Tryz.func247, tr247⟩, ⟨⟨_, Tryz.func246, tr246⟩, ⟨⟨_, Tryz.func245, tr245⟩, trivial, trivial⟩, trivial⟩, ⟨⟨_, Tryz.func249, tr249⟩, ⟨⟨_, Tryz.func248, tr248⟩, trivial, trivial⟩, trivial⟩⟩⟩, ⟨⟨_, Tryz.func259, tr259⟩, ⟨⟨_, Tryz.func256, tr256⟩, ⟨⟨_, Tryz.func255, tr255⟩, ⟨⟨_, Tryz.func254, tr254⟩, trivial, trivial⟩, trivial⟩, ⟨⟨_, Tryz.func258, tr258⟩, ⟨⟨_, Tryz.func257, tr257⟩, trivial, trivial⟩, trivial⟩⟩, ⟨⟨_, Tryz.func262, tr262⟩, ⟨⟨_, Tryz.func261, tr261⟩, ⟨⟨_, Tryz.func260, tr260⟩, trivial, trivial⟩, trivial⟩, ⟨⟨_, Tryz.func264, tr264⟩, ⟨⟨_, Tryz.func263, tr263⟩, trivial, trivial⟩, trivial⟩⟩⟩⟩, ⟨⟨_, Tryz.func284, tr284⟩, ⟨⟨_, Tryz.func271, tr271⟩, ⟨⟨_, Tryz.func268, tr268⟩, ⟨⟨_, Tryz.func267, tr267⟩, ⟨⟨_, Tryz.func266, tr266⟩, trivial, trivial⟩, trivial⟩, ⟨⟨_, Tryz.func270, tr270⟩, ⟨⟨_, Tryz.func269, tr269⟩, trivial, trivial⟩, trivial⟩⟩, ⟨⟨_, Tryz.func281, tr281⟩, ⟨⟨_, Tryz.func280, tr280⟩, ⟨⟨_, Tryz.func279, tr279⟩, trivial, trivial⟩, trivial⟩, ⟨⟨_, Tryz.func283, tr283⟩, ⟨⟨_, Tryz.func282, tr282⟩, trivial, trivial⟩, trivial⟩⟩⟩, ⟨⟨_, Tryz.func302, tr302⟩, ⟨⟨_, Tryz.func287, tr287⟩, ⟨⟨_, Tryz.func286, tr286⟩, ⟨⟨_, Tryz.func285, tr285⟩, trivial, trivial⟩, trivial⟩, ⟨⟨_, Tryz.func293, tr293⟩, ⟨⟨_, Tryz.func288, tr288⟩, trivial, trivial⟩, trivial⟩⟩, ⟨⟨_, Tryz.func315, tr315⟩, ⟨⟨_, Tryz.func304, tr304⟩, ⟨⟨_, Tryz.func303, tr303⟩, trivial, trivial⟩, trivial⟩, ⟨⟨_, Tryz.func320, tr320⟩, ⟨⟨_, Tryz.func317, tr317⟩, trivial, trivial⟩, trivial⟩⟩⟩⟩⟩, ⟨⟨_, Tryz.func357, tr357⟩, ⟨⟨_, Tryz.func344, tr344⟩, ⟨⟨_, Tryz.func335, tr335⟩, ⟨⟨_, Tryz.func332, tr332⟩, ⟨⟨_, Tryz.func331, tr331⟩, ⟨⟨_, Tryz.func324, tr324⟩, trivial, trivial⟩, trivial⟩, ⟨⟨_, Tryz.func334, tr334⟩, ⟨⟨_, Tryz.func333, tr333⟩, trivial, trivial⟩, trivial⟩⟩, ⟨⟨_, Tryz.func341, tr341⟩, ⟨⟨_, Tryz.func340, tr340⟩, ⟨⟨_, Tryz.func339, tr339⟩, trivial, trivial⟩, trivial⟩, ⟨⟨_, Tryz.func343, tr343⟩, ⟨⟨_, Tryz.func342, tr342⟩, trivial, trivial⟩, trivial⟩⟩⟩, ⟨⟨_, Tryz.func351, tr351⟩, ⟨⟨_, Tryz.func348, tr348⟩, ⟨⟨_, Tryz.func347, tr347⟩, ⟨⟨_, Tryz.func345, tr345⟩, trivial, trivial⟩, trivial⟩, ⟨⟨_, Tryz.func350, tr350⟩, ⟨⟨_, Tryz.func349, tr349⟩, trivial, trivial⟩, trivial⟩⟩, ⟨⟨_, Tryz.func354, tr354⟩, ⟨⟨_, Tryz.func353, tr353⟩, ⟨⟨_, Tryz.func352, tr352⟩, trivial, trivial⟩, trivial⟩, ⟨⟨_, Tryz.func356, tr356⟩, ⟨⟨_, Tryz.func355, tr355⟩, trivial, trivial⟩, trivial⟩⟩⟩⟩, ⟨⟨_, Tryz.func369, tr369⟩, ⟨⟨_, Tryz.func363, tr363⟩, ⟨⟨_, Tryz.func360, tr360⟩, ⟨⟨_, Tryz.func359, tr359⟩, ⟨⟨_, Tryz.func358, tr358⟩, trivial, trivial⟩, trivial⟩, ⟨⟨_, Tryz.func362, tr362⟩, ⟨⟨_, Tryz.func361, tr361⟩, trivial, trivial⟩, trivial⟩⟩, ⟨⟨_, Tryz.func366, tr366⟩, ⟨⟨_, Tryz.func365, tr365⟩, ⟨⟨_, Tryz.func364, tr364⟩, trivial, trivial⟩, trivial⟩, ⟨⟨_, Tryz.func368, tr368⟩, ⟨⟨_, Tryz.func367, tr367⟩, trivial, trivial⟩, trivial⟩⟩⟩, ⟨⟨_, Tryz.func382, tr382⟩, ⟨⟨_, Tryz.func376, tr376⟩, ⟨⟨_, Tryz.func375, tr375⟩, ⟨⟨_, Tryz.func371, tr371⟩, trivial, trivial⟩, trivial⟩, ⟨⟨_, Tryz.func380, tr380⟩, ⟨⟨_, Tryz.func378, tr378⟩, trivial, trivial⟩, trivial⟩⟩, ⟨⟨_, Tryz.func386, tr386⟩, ⟨⟨_, Tryz.func385, tr385⟩, ⟨⟨_, Tryz.func384, tr384⟩, trivial, trivial⟩, trivial⟩, ⟨⟨_, Tryz.func388, tr388⟩, ⟨⟨_, Tryz.func387, tr387⟩, trivial, trivial⟩, trivial⟩⟩⟩⟩⟩⟩, ⟨⟨_, Tryz.func469, tr469⟩, ⟨⟨_, Tryz.func430, tr430⟩, ⟨⟨_, Tryz.func403, tr403⟩, ⟨⟨_, Tryz.func397, tr397⟩, ⟨⟨_, Tryz.func393, tr393⟩, ⟨⟨_, Tryz.func391, tr391⟩, ⟨⟨_, Tryz.func390, tr390⟩, trivial, trivial⟩, ⟨⟨_, Tryz.func392, tr392⟩, trivial, trivial⟩⟩, ⟨⟨_, Tryz.func396, tr396⟩, ⟨⟨_, Tryz.func395, tr395⟩, trivial, trivial⟩, trivial⟩⟩, ⟨⟨_, Tryz.func400, tr400⟩, ⟨⟨_, Tryz.func399, tr399⟩, ⟨⟨_, Tryz.func398, tr398⟩, trivial, trivial⟩, trivial⟩, ⟨⟨_, Tryz.func402, tr402⟩, ⟨⟨_, Tryz.func401, tr401⟩, trivial, trivial⟩, trivial⟩⟩⟩, ⟨⟨_, Tryz.func424, tr424⟩, ⟨⟨_, Tryz.func408, tr408⟩, ⟨⟨_, Tryz.func407, tr407⟩, ⟨⟨_, Tryz.func406, tr406⟩, trivial, trivial⟩, trivial⟩, ⟨⟨_, Tryz.func423, tr423⟩, ⟨⟨_, Tryz.func418, tr418⟩, trivial, trivial⟩, trivial⟩⟩, ⟨⟨_, Tryz.func427, tr427⟩, ⟨⟨_, Tryz.func426, tr426⟩, ⟨⟨_, Tryz.func425, tr425⟩, trivial, trivial⟩, trivial⟩, ⟨⟨_, Tryz.func429, tr429⟩, ⟨⟨_, Tryz.func428, tr428⟩, trivial, trivial⟩, trivial⟩⟩⟩⟩, ⟨⟨_, Tryz.func442, tr442⟩, ⟨⟨_, Tryz.func436, tr436⟩, ⟨⟨_, Tryz.func433, tr433⟩, ⟨⟨_, Tryz.func432, tr432⟩, ⟨⟨_, Tryz.func431, tr431⟩, trivial, trivial⟩, trivial⟩, ⟨⟨_, Tryz.func435, tr435⟩, ⟨⟨_, Tryz.func434, tr434⟩, trivial, trivial⟩, trivial⟩⟩, ⟨⟨_, Tryz.func439, tr439⟩, ⟨⟨_, Tryz.func438, tr438⟩, ⟨⟨_, Tryz.func437, tr437⟩, trivial, trivial⟩, trivial⟩, ⟨⟨_, Tryz.func441, tr441⟩, ⟨⟨_, Tryz.func440, tr440⟩, trivial, trivial⟩, trivial⟩⟩⟩, ⟨⟨_, Tryz.func450, tr450⟩, ⟨⟨_, Tryz.func447, tr447⟩, ⟨⟨_, Tryz.func446, tr446⟩, ⟨⟨_, Tryz.func445, tr445⟩, trivial, trivial⟩, trivial⟩, ⟨⟨_, Tryz.func449, tr449⟩, ⟨⟨_, Tryz.func448, tr448⟩, trivial, trivial⟩, trivial⟩⟩, ⟨⟨_, Tryz.func459, tr459⟩, ⟨⟨_, Tryz.func452, tr452⟩, ⟨⟨_, Tryz.func451, tr451⟩, trivial, trivial⟩, trivial⟩, ⟨⟨_, Tryz.func468, tr468⟩, ⟨⟨_, Tryz.func466, tr466⟩, trivial, trivial⟩, trivial⟩⟩⟩⟩⟩, ⟨⟨_, Tryz.func502, tr502⟩, ⟨⟨_, Tryz.func482, tr482⟩, ⟨⟨_, Tryz.func475, tr475⟩, ⟨⟨_, Tryz.func472, tr472⟩, ⟨⟨_, Tryz.func471, tr471⟩, ⟨⟨_, Tryz.func470, tr470⟩, trivial, trivial⟩, trivial⟩, ⟨⟨_, Tryz.func474, tr474⟩, ⟨⟨_, Tryz.func473, tr473⟩, trivial, trivial⟩, trivial⟩⟩, ⟨⟨_, Tryz.func478, tr478⟩, ⟨⟨_, Tryz.func477, tr477⟩, ⟨⟨_, Tryz.func476, tr476⟩, trivial, trivial⟩, trivial⟩, ⟨⟨_, Tryz.func481, tr481⟩, ⟨⟨_, Tryz.func480, tr480⟩, trivial, trivial⟩, trivial⟩⟩⟩, ⟨⟨_, Tryz.func496, tr496⟩, ⟨⟨_, Tryz.func485, tr485⟩, ⟨⟨_, Tryz.func484, tr484⟩, ⟨⟨_, Tryz.func483, tr483⟩, trivial, trivial⟩, trivial⟩, ⟨⟨_, Tryz.func494, tr494⟩, ⟨⟨_, Tryz.func486, tr486⟩, trivial, trivial⟩, trivial⟩⟩, ⟨⟨_, Tryz.func499, tr499⟩, ⟨⟨_, Tryz.func498, tr498⟩, ⟨⟨_, Tryz.func497, tr497⟩, trivial, trivial⟩, trivial⟩, ⟨⟨_, Tryz.func501, tr501⟩, ⟨⟨_, Tryz.func500, tr500⟩, trivial, trivial⟩, trivial⟩⟩⟩⟩, ⟨⟨_, Tryz.func525, tr525⟩, ⟨⟨_, Tryz.func510, tr510⟩, ⟨⟨_, Tryz.func506, tr506⟩, ⟨⟨_, Tryz.func504, tr504⟩, ⟨⟨_, Tryz.func503, tr503⟩, trivial, trivial⟩, trivial⟩, ⟨⟨_, Tryz.func509, tr509⟩, ⟨⟨_, Tryz.func507, tr507⟩, trivial, trivial⟩, trivial⟩⟩, ⟨⟨_, Tryz.func514, tr514⟩, ⟨⟨_, Tryz.func513, tr513⟩, ⟨⟨_, Tryz.func511, tr511⟩, trivial, trivial⟩, trivial⟩, ⟨⟨_, Tryz.func516, tr516⟩, ⟨⟨_, Tryz.func515, tr515⟩, trivial, trivial⟩, trivial⟩⟩⟩, ⟨⟨_, Tryz.func535, tr535⟩, ⟨⟨_, Tryz.func531, tr531⟩, ⟨⟨_, Tryz.func530, tr530⟩, ⟨⟨_, Tryz.func529, tr529⟩, trivial, trivial⟩, trivial⟩, ⟨⟨_, Tryz.func533, tr533⟩, ⟨⟨_, Tryz.func532, tr532⟩, trivial, trivial⟩, trivial⟩⟩, ⟨⟨_, Tryz.func539, tr539⟩, ⟨⟨_, Tryz.func537, tr537⟩, ⟨⟨_, Tryz.func536, tr536⟩, trivial, trivial⟩, trivial⟩, ⟨⟨_, Tryz.func541, tr541⟩, ⟨⟨_, Tryz.func540, tr540⟩, trivial, trivial⟩, trivial⟩⟩⟩⟩⟩⟩⟩⟩

theorem bears_auto {P : Program} {f : FuncId} {B : Func} (h1 : (((P.funcs[f]?).getD default).name == "runtime.NumGoroutine") = false) (h2 : P.funcs[f]? = some { B with name := ((P.funcs[f]?).getD default).name }) : Go.Proofs.Bears P f B := ⟨_, h1, h2⟩
def renS : Ren := { f := fun n => match n with | 5 => 165 | 7 => 245 | 8 => 246 | 10 => 293 | 11 => 294 | 12 => 295 | 13 => 296 | 14 => 297 | 15 => 298 | 16 => 275 | 17 => 299 | 18 => 300 | 19 => 301 | 20 => 302 | 30 => 326 | 31 => 327 | 32 => 328 | 33 => 329 | 34 => 330 | 35 => 313 | 40 => 338 | n => n, t := fun n => match n with | 0 => 0 | 3 => 3 | 4 => 4 | 5 => 5 | 9 => 9 | 22 => 22 | 23 => 22 | 25 => 3 | 32 => 417 | 35 => 464 | 36 => 465 | 41 => 325 | 44 => 408 | 46 => 188 | 53 => 486 | 57 => 490 | 63 => 506 | 64 => 507 | n => n, g := fun n => n }
theorem laysS : SlLaysM.n5 Tryz.prog renS := by
  constructor
  all_goals first
    | kernel_rfl
    | (intro w; kernel_rfl)
    | exact bears_auto (by kernel_rfl) (by kernel_rfl)
def renK0 : Ren := { f := fun n => match n with | 6 => 95 | 7 => 252 | 8 => 164 | 9 => 165 | 10 => 306 | 11 => 244 | n => n, t := fun n => match n with | 0 => 0 | 3 => 95 | 4 => 4 | 5 => 5 | 9 => 9 | 23 => 80 | 24 => 22 | 26 => 3 | 27 => 206 | 28 => 207 | 33 => 33 | 37 => 417 | 39 => 464 | 40 => 465 | 45 => 325 | 48 => 408 | 50 => 188 | 51 => 486 | 55 => 490 | 57 => 506 | 58 => 507 | n => n, g := fun n => n }
theorem laysK0 : SlLaysZI.n7 Tryz.prog renK0 := by
  constructor
  all_goals first
    | kernel_rfl
    | (intro w; kernel_rfl)
    | exact bears_auto (by kernel_rfl) (by kernel_rfl)
theorem laysO : SlLaysZI.n6 Tryz.prog renK0 := by
  constructor
  all_goals first
    | kernel_rfl
    | (intro w; kernel_rfl)
    | exact bears_auto (by kernel_rfl) (by kernel_rfl)
theorem sorts (m : Nat) : Go.Proofs.AnyZI.SortsIn Tryz.prog renK0 Fence.wide m :=
  ⟨fun blk off cap ss W hH hblk hsz => callsIn_wide.2 (Go.Proofs.AnyM.slices_Sort_int laysS blk off cap ss W hH hblk hsz), fun p cap W => callsIn_wide.2 (Go.Proofs.AnyM.slices_Sort_int_none laysS p cap W)⟩
def renK1 : Ren := { f := fun n => match n with | 6 => 95 | 7 => 284 | 8 => 164 | 9 => 165 | 10 => 319 | 11 => 244 | n => n, t := fun n => match n with | 0 => 0 | 3 => 399 | 4 => 4 | 5 => 5 | 9 => 9 | 23 => 182 | 24 => 22 | 26 => 3 | 27 => 206 | 28 => 207 | 33 => 33 | 37 => 417 | 39 => 464 | 40 => 465 | 45 => 325 | 48 => 408 | 50 => 188 | 51 => 486 | 55 => 490 | 57 => 506 | 58 => 507 | n => n, g := fun n => n }
theorem laysK1 : SlLaysZI.n7 Tryz.prog renK1 := by
  constructor
  all_goals first
    | kernel_rfl
    | (intro w; kernel_rfl)
    | exact bears_auto (by kernel_rfl) (by kernel_rfl)
theorem laysO1 : SlLaysZI.n6 Tryz.prog renK1 := by
  constructor
  all_goals first
    | kernel_rfl
    | (intro w; kernel_rfl)
    | exact bears_auto (by kernel_rfl) (by kernel_rfl)
theorem sorts1 (m : Nat) : Go.Proofs.AnyZI.SortsIn Tryz.prog renK1 Fence.wide m :=
  ⟨fun blk off cap ss W hH hblk hsz => callsIn_wide.2 (Go.Proofs.AnyM.slices_Sort_int laysS blk off cap ss W hH hblk hsz), fun p cap W => callsIn_wide.2 (Go.Proofs.AnyM.slices_Sort_int_none laysS p cap W)⟩
def renK2 : Ren := { f := fun n => match n with | 6 => 95 | 7 => 376 | 8 => 164 | 9 => 165 | 10 => 422 | 11 => 244 | n => n, t := fun n => match n with | 0 => 0 | 3 => 548 | 4 => 4 | 5 => 5 | 9 => 9 | 23 => 536 | 24 => 22 | 26 => 3 | 27 => 206 | 28 => 207 | 33 => 33 | 37 => 417 | 39 => 464 | 40 => 465 | 45 => 325 | 48 => 408 | 50 => 188 | 51 => 486 | 55 => 490 | 57 => 506 | 58 => 507 | n => n, g := fun n => n }
theorem laysK2 : SlLaysZI.n7 Tryz.prog renK2 := by
  constructor
  all_goals first
    | kernel_rfl
    | (intro w; kernel_rfl)
    | exact bears_auto (by kernel_rfl) (by kernel_rfl)
theorem laysO2 : SlLaysZI.n6 Tryz.prog renK2 := by
  constructor
  all_goals first
    | kernel_rfl
    | (intro w; kernel_rfl)
    | exact bears_auto (by kernel_rfl) (by kernel_rfl)
theorem sorts2 (m : Nat) : Go.Proofs.AnyZI.SortsIn Tryz.prog renK2 Fence.wide m :=
  ⟨fun blk off cap ss W hH hblk hsz => callsIn_wide.2 (Go.Proofs.AnyM.slices_Sort_int laysS blk off cap ss W hH hblk hsz), fun p cap W => callsIn_wide.2 (Go.Proofs.AnyM.slices_Sort_int_none laysS p cap W)⟩
def renI : Ren := { f := fun n => match n with | 21 => 223 | 27 => 277 | 28 => 278 | 35 => 314 | 39 => 97 | n => n, t := fun n => match n with | 22 => 22 | n => n, g := fun n => n }
theorem laysI : Lays2.n21 Tryz.prog renI := by
  constructor
  all_goals first
    | kernel_rfl
    | (intro w; kernel_rfl)
theorem stirOk : IntrOk Tryz.prog 288 stirX :=
  stirX_ok (r := 324) (by kernel_rfl) (by kernel_rfl) Tryz.func288 (by kernel_rfl) Tryz.func324 (by kernel_rfl) (fun X w => callFunc_run Tryz.func288 (by kernel_rfl) (by kernel_rfl) X w)
def renX : Ren := { f := fun n => match n with | 217 => 307 | 266 => 336 | n => n, t := fun n => match n with | 3 => 3 | 5 => 5 | 9 => 9 | n => n, g := fun n => n }
theorem laysX : Lays.n217 Tryz.prog renX := by
  constructor
  all_goals first
    | kernel_rfl
    | (intro w; kernel_rfl)
noncomputable def env : Env := { fn := tab.find, intr := fun k => bif Nat.beq k 252 then some (fun all s => keysD all 306 s) else bif Nat.beq k 284 then some (fun all s => keysD all 319 s) else bif Nat.beq k 376 then some (fun all s => keysD all 422 s) else bif Nat.beq k 95 then some (fun a s => match (fun a s => match (fun all s => sortedD 306 all s) a s with | some r => some r | none => (fun all s => sortedD 319 all s) a s) a s with | some r => some r | none => (fun all s => sortedD 422 all s) a s) else bif Nat.beq k 223 then some (insD) else bif Nat.beq k 288 then some (stirX) else bif Nat.beq k 307 then some (indexD) else none, lf := 100000 }
theorem env_ok : EnvOk Tryz.prog env := by
  refine ⟨by kernel_rfl, fun k df h => BT.find_all tab_ok h, fun k F h => ?_⟩
  have h : (bif Nat.beq k 252 then some (fun all s => keysD all 306 s) else bif Nat.beq k 284 then some (fun all s => keysD all 319 s) else bif Nat.beq k 376 then some (fun all s => keysD all 422 s) else bif Nat.beq k 95 then some (fun a s => match (fun a s => match (fun all s => sortedD 306 all s) a s with | some r => some r | none => (fun all s => sortedD 319 all s) a s) a s with | some r => some r | none => (fun all s => sortedD 422 all s) a s) else bif Nat.beq k 223 then some (insD) else bif Nat.beq k 288 then some (stirX) else bif Nat.beq k 307 then some (indexD) else none) = some F := h
  cases hb252 : Nat.beq k 252 with
  | true =>
    rw [hb252] at h
    simp only [cond_true, Option.some.injEq] at h
    subst h
    rw [Nat.eq_of_beq_eq_true hb252]
    exact keys_ok (ρ := renK0) laysK0 (fun X w => callFunc_run Tryz.func252 (by kernel_rfl) (by kernel_rfl) X w)
  | false =>
    rw [hb252] at h
    simp only [cond_false] at h
    cases hb284 : Nat.beq k 284 with
    | true =>
      rw [hb284] at h
      simp only [cond_true, Option.some.injEq] at h
      subst h
      rw [Nat.eq_of_beq_eq_true hb284]
      exact keys_ok (ρ := renK1) laysK1 (fun X w => callFunc_run Tryz.func284 (by kernel_rfl) (by kernel_rfl) X w)
    | false =>
      rw [hb284] at h
      simp only [cond_false] at h
      cases hb376 : Nat.beq k 376 with
      | true =>
        rw [hb376] at h
        simp only [cond_true, Option.some.injEq] at h
        subst h
        rw [Nat.eq_of_beq_eq_true hb376]
        exact keys_ok (ρ := renK2) laysK2 (fun X w => callFunc_run Tryz.func376 (by kernel_rfl) (by kernel_rfl) X w)
      | false =>
        rw [hb376] at h
        simp only [cond_false] at h
        cases hb95 : Nat.beq k 95 with
        | true =>
          rw [hb95] at h
          simp only [cond_true, Option.some.injEq] at h
          subst h
          rw [Nat.eq_of_beq_eq_true hb95]
          exact IntrOk.or (IntrOk.or (sorted_ok (ρ := renK0) laysO { laysK0 with } sorts (fun X w => callFunc_run Tryz.func165 (by kernel_rfl) (by kernel_rfl) X w) (fun X w => callFunc_run Tryz.func95 (by kernel_rfl) (by kernel_rfl) X w)) (sorted_ok (ρ := renK1) laysO1 { laysK1 with } sorts1 (fun X w => callFunc_run Tryz.func165 (by kernel_rfl) (by kernel_rfl) X w) (fun X w => callFunc_run Tryz.func95 (by kernel_rfl) (by kernel_rfl) X w))) (sorted_ok (ρ := renK2) laysO2 { laysK2 with } sorts2 (fun X w => callFunc_run Tryz.func165 (by kernel_rfl) (by kernel_rfl) X w) (fun X w => callFunc_run Tryz.func95 (by kernel_rfl) (by kernel_rfl) X w))
        | false =>
          rw [hb95] at h
          simp only [cond_false] at h
          cases hb223 : Nat.beq k 223 with
          | true =>
            rw [hb223] at h
            simp only [cond_true, Option.some.injEq] at h
            subst h
            rw [Nat.eq_of_beq_eq_true hb223]
            exact ins_ok (ρ := renI) laysI (fun X w => callFunc_run Tryz.func223 (by kernel_rfl) (by kernel_rfl) X w)
          | false =>
            rw [hb223] at h
            simp only [cond_false] at h
            cases hb288 : Nat.beq k 288 with
            | true =>
              rw [hb288] at h
              simp only [cond_true, Option.some.injEq] at h
              subst h
              rw [Nat.eq_of_beq_eq_true hb288]
              exact stirOk
            | false =>
              rw [hb288] at h
              simp only [cond_false] at h
              cases hb307 : Nat.beq k 307 with
              | true =>
                rw [hb307] at h
                simp only [cond_true, Option.some.injEq] at h
                subst h
                rw [Nat.eq_of_beq_eq_true hb307]
                exact index_ok (ρ := renX) laysX (fun X w => callFunc_run Tryz.func307 (by kernel_rfl) (by kernel_rfl) X w)
              | false =>
                rw [hb307] at h
                simp only [cond_false] at h
                cases h

theorem runs (a0 : Int) (a1 : Int) (a2 : Int) (a3 : Int) (a6 : Int) : okOf (xcall env 200 (.func (.func 4) #[] #[]) [.agg #[.int .i64 a0, .int .i64 a1, .int .i64 a2, .int .i64 a3, .nilIface, .nilIface, .int .i64 a6, .nilIface]] s0) = true := by kernel_rfl
theorem walk (a0 : Int) (a1 : Int) (a2 : Int) (a3 : Int) (a4 : Value) (a5 : Value) (a6 : Int) (a7 : Value) (h4 : opq a4 = true) (h5 : opq a5 = true) (h7 : opq a7 = true) (w : World) : Calls Tryz.prog 4 #[.agg ⟨[.int .i64 a0, .int .i64 a1, .int .i64 a2, .int .i64 a3, a4, a5, .int .i64 a6, a7]⟩] w fun e w' => e = .returned (.bool true) ∧ Kept w w' :=
  top env_ok (runs a0 a1 a2 a3 a6) (fun _ => .cons (.agg (.cons (.int _ _) (.cons (.int _ _) (.cons (.int _ _) (.cons (.int _ _) (.cons (.any h4) (.cons (.any h5) (.cons (.int _ _) (.cons (.any h7) .nil))))))))) .nil) w
end Go.Proofs.YteehmgfoclhokaaGreat.clusterNobody
