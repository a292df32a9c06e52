/- ReplicaNobody returns true for every input, and leaves what it was given as it was. -/
import Derived.Test.YtfodfkpnbopdbaaGreatRows
import Derived.Test.YtfodfkpnbopdbaaGreatDxRt
import Derived.Test.YtfodfkpnbopdbaaGreatDxRow
import Derived.Test.YtfodfkpnbopdbaaGreatDxSorted
import Derived.Shelf.SortM.Plain
import Derived.Shelf.SortM.SortNone
import Derived.Shelf.Lays2
import Derived.Test.YtfodfkpnbopdbaaGreatDxIns
import Derived.Test.YtfodfkpnbopdbaaGreatDxStir
import Derived.Test.YtfodfkpnbopdbaaGreatDxIndex
namespace Go.Proofs.YtfodfkpnbopdbaaGreat.replicaNobody
open Go.ChangeShapes Go.WideShapes Go.ChangeAt Go.RowKit Go.Dx Go.Shelf
set_option linter.unusedVariables false
set_option linter.unusedSimpArgs false
set_option maxRecDepth 100000
set_option maxHeartbeats 4000000

/-! ### The evaluator's tables -/
inductive BT where
  | leaf
  | node (k : Nat) (d : DFunc) (l r : BT)
def BT.find : BT → Nat → Option DFunc
  | .leaf, _ => none
  | .node k d l r, x => bif Nat.beq x k then some d else bif Nat.blt x k then l.find x else r.find x
def BT.All (Q : Nat → DFunc → Prop) : BT → Prop
  | .leaf => True
  | .node k d l r => Q k d ∧ l.All Q ∧ r.All Q
theorem BT.find_all {Q : Nat → DFunc → Prop} : ∀ {t : BT} {x : Nat} {d : DFunc}, t.All Q → t.find x = some d → Q x d
  | .leaf, x, d, _, h => by cases h
  | .node k d0 l r, x, d, ⟨h1, h2, h3⟩, h => by
    unfold BT.find at h
    cases hb : Nat.beq x k with
    | true =>
      rw [hb] at h
      simp only [cond_true, Option.some.injEq] at h
      subst h
      rw [Nat.eq_of_beq_eq_true hb]; exact h1
    | false =>
      rw [hb] at h
      cases hl : Nat.blt x k with
      | true => rw [hl] at h; exact BT.find_all h2 h
      | false => rw [hl] at h; exact BT.find_all h3 h
def FnOk (k : Nat) (df : DFunc) : Prop := ∃ f, Tryz.prog.funcs[k]? = some f ∧ trFunc Tryz.prog f = some df
def tab : BT := (.node 182 d182 (.node 94 d94 (.node 47 d47 (.node 23 d23 (.node 13 d13 (.node 9 d9 (.node 6 d6 (.node 5 d5 .leaf .leaf) (.node 8 d8 .leaf .leaf)) (.node 11 d11 (.node 10 d10 .leaf .leaf) (.node 12 d12 .leaf .leaf))) (.node 17 d17 (.node 15 d15 (.node 14 d14 .leaf .leaf) (.node 16 d16 .leaf .leaf)) (.node 21 d21 (.node 18 d18 .leaf .leaf) (.node 22 d22 .leaf .leaf)))) (.node 31 d31 (.node 27 d27 (.node 25 d25 (.node 24 d24 .leaf .leaf) (.node 26 d26 .leaf .leaf)) (.node 29 d29 (.node 28 d28 .leaf .leaf) (.node 30 d30 .leaf .leaf))) (.node 35 d35 (.node 33 d33 (.node 32 d32 .leaf .leaf) (.node 34 d34 .leaf .leaf)) (.node 38 d38 (.node 37 d37 .leaf .leaf) .leaf)))) (.node 70 d70 (.node 61 d61 (.node 54 d54 (.node 49 d49 (.node 48 d48 .leaf .leaf) (.node 53 d53 .leaf .leaf)) (.node 59 d59 (.node 58 d58 .leaf .leaf) (.node 60 d60 .leaf .leaf))) (.node 65 d65 (.node 63 d63 (.node 62 d62 .leaf .leaf) (.node 64 d64 .leaf .leaf)) (.node 67 d67 (.node 66 d66 .leaf .leaf) (.node 68 d68 .leaf .leaf)))) (.node 78 d78 (.node 74 d74 (.node 72 d72 (.node 71 d71 .leaf .leaf) (.node 73 d73 .leaf .leaf)) (.node 76 d76 (.node 75 d75 .leaf .leaf) (.node 77 d77 .leaf .leaf))) (.node 85 d85 (.node 83 d83 (.node 79 d79 .leaf .leaf) (.node 84 d84 .leaf .leaf)) (.node 87 d87 (.node 86 d86 .leaf .leaf) .leaf))))) (.node 141 d141 (.node 115 d115 (.node 107 d107 (.node 100 d100 (.node 97 d97 (.node 96 d96 .leaf .leaf) (.node 99 d99 .leaf .leaf)) (.node 105 d105 (.node 104 d104 .leaf .leaf) (.node 106 d106 .leaf .leaf))) (.node 111 d111 (.node 109 d109 (.node 108 d108 .leaf .leaf) (.node 110 d110 .leaf .leaf)) (.node 113 d113 (.node 112 d112 .leaf .leaf) (.node 114 d114 .leaf .leaf)))) (.node 132 d132 (.node 122 d122 (.node 117 d117 (.node 116 d116 .leaf .leaf) (.node 121 d121 .leaf .leaf)) (.node 124 d124 (.node 123 d123 .leaf .leaf) (.node 131 d131 .leaf .leaf))) (.node 138 d138 (.node 136 d136 (.node 135 d135 .leaf .leaf) (.node 137 d137 .leaf .leaf)) (.node 140 d140 (.node 139 d139 .leaf .leaf) .leaf)))) (.node 167 d167 (.node 149 d149 (.node 145 d145 (.node 143 d143 (.node 142 d142 .leaf .leaf) (.node 144 d144 .leaf .leaf)) (.node 147 d147 (.node 146 d146 .leaf .leaf) (.node 148 d148 .leaf .leaf))) (.node 157 d157 (.node 154 d154 (.node 153 d153 .leaf .leaf) (.node 155 d155 .leaf .leaf)) (.node 159 d159 (.node 158 d158 .leaf .leaf) (.node 160 d160 .leaf .leaf)))) (.node 175 d175 (.node 171 d171 (.node 169 d169 (.node 168 d168 .leaf .leaf) (.node 170 d170 .leaf .leaf)) (.node 173 d173 (.node 172 d172 .leaf .leaf) (.node 174 d174 .leaf .leaf))) (.node 179 d179 (.node 177 d177 (.node 176 d176 .leaf .leaf) (.node 178 d178 .leaf .leaf)) (.node 181 d181 (.node 180 d180 .leaf .leaf) .leaf)))))) (.node 284 d284 (.node 244 d244 (.node 220 d220 (.node 197 d197 (.node 189 d189 (.node 184 d184 (.node 183 d183 .leaf .leaf) (.node 188 d188 .leaf .leaf)) (.node 193 d193 (.node 190 d190 .leaf .leaf) (.node 195 d195 .leaf .leaf))) (.node 213 d213 (.node 210 d210 (.node 206 d206 .leaf .leaf) (.node 212 d212 .leaf .leaf)) (.node 216 d216 (.node 215 d215 .leaf .leaf) (.node 218 d218 .leaf .leaf)))) (.node 231 d231 (.node 227 d227 (.node 224 d224 (.node 222 d222 .leaf .leaf) (.node 225 d225 .leaf .leaf)) (.node 229 d229 (.node 228 d228 .leaf .leaf) (.node 230 d230 .leaf .leaf))) (.node 239 d239 (.node 235 d235 (.node 232 d232 .leaf .leaf) (.node 237 d237 .leaf .leaf)) (.node 243 d243 (.node 242 d242 .leaf .leaf) .leaf)))) (.node 268 d268 (.node 259 d259 (.node 253 d253 (.node 246 d246 (.node 245 d245 .leaf .leaf) (.node 252 d252 .leaf .leaf)) (.node 255 d255 (.node 254 d254 .leaf .leaf) (.node 256 d256 .leaf .leaf))) (.node 263 d263 (.node 261 d261 (.node 260 d260 .leaf .leaf) (.node 262 d262 .leaf .leaf)) (.node 266 d266 (.node 265 d265 .leaf .leaf) (.node 267 d267 .leaf .leaf)))) (.node 277 d277 (.node 273 d273 (.node 271 d271 (.node 270 d270 .leaf .leaf) (.node 272 d272 .leaf .leaf)) (.node 275 d275 (.node 274 d274 .leaf .leaf) (.node 276 d276 .leaf .leaf))) (.node 281 d281 (.node 279 d279 (.node 278 d278 .leaf .leaf) (.node 280 d280 .leaf .leaf)) (.node 283 d283 (.node 282 d282 .leaf .leaf) .leaf))))) (.node 348 d348 (.node 314 d314 (.node 301 d301 (.node 296 d296 (.node 286 d286 (.node 285 d285 .leaf .leaf) (.node 295 d295 .leaf .leaf)) (.node 298 d298 (.node 297 d297 .leaf .leaf) (.node 299 d299 .leaf .leaf))) (.node 309 d309 (.node 305 d305 (.node 303 d303 .leaf .leaf) (.node 307 d307 .leaf .leaf)) (.node 312 d312 (.node 311 d311 .leaf .leaf) (.node 313 d313 .leaf .leaf)))) (.node 323 d323 (.node 318 d318 (.node 316 d316 (.node 315 d315 .leaf .leaf) (.node 317 d317 .leaf .leaf)) (.node 320 d320 (.node 319 d319 .leaf .leaf) (.node 322 d322 .leaf .leaf))) (.node 344 d344 (.node 328 d328 (.node 324 d324 .leaf .leaf) (.node 343 d343 .leaf .leaf)) (.node 346 d346 (.node 345 d345 .leaf .leaf) .leaf)))) (.node 387 d387 (.node 359 d359 (.node 354 d354 (.node 352 d352 (.node 351 d351 .leaf .leaf) (.node 353 d353 .leaf .leaf)) (.node 356 d356 (.node 355 d355 .leaf .leaf) (.node 357 d357 .leaf .leaf))) (.node 383 d383 (.node 361 d361 (.node 360 d360 .leaf .leaf) (.node 362 d362 .leaf .leaf)) (.node 385 d385 (.node 384 d384 .leaf .leaf) (.node 386 d386 .leaf .leaf)))) (.node 397 d397 (.node 392 d392 (.node 390 d390 (.node 389 d389 .leaf .leaf) (.node 391 d391 .leaf .leaf)) (.node 395 d395 (.node 394 d394 .leaf .leaf) (.node 396 d396 .leaf .leaf))) (.node 420 d420 (.node 416 d416 (.node 398 d398 .leaf .leaf) (.node 417 d417 .leaf .leaf)) (.node 423 d423 (.node 422 d422 .leaf .leaf) .leaf)))))))
theorem tab_ok : tab.All FnOk := ⟨⟨_, Tryz.func182, tr182⟩, ⟨⟨_, Tryz.func94, tr94⟩, ⟨⟨_, Tryz.func47, tr47⟩, ⟨⟨_, Tryz.func23, tr23⟩, ⟨⟨_, Tryz.func13, tr13⟩, ⟨⟨_, Tryz.func9, tr9⟩, ⟨⟨_, Tryz.func6, tr6⟩, ⟨⟨_, Tryz.func5, tr5⟩, trivial, trivial⟩, ⟨⟨_, Tryz.func8, tr8⟩, trivial, trivial⟩⟩, ⟨⟨_, Tryz.func11, tr11⟩, ⟨⟨_, Tryz.func10, tr10⟩, trivial, trivial⟩, ⟨⟨_, Tryz.func12, tr12⟩, trivial, trivial⟩⟩⟩, ⟨⟨_, Tryz.func17, tr17⟩, ⟨⟨_, Tryz.func15, tr15⟩, ⟨⟨_, Tryz.func14, tr14⟩, trivial, trivial⟩, ⟨⟨_, Tryz.func16, tr16⟩, trivial, trivial⟩⟩, ⟨⟨_, Tryz.func21, tr21⟩, ⟨⟨_, Tryz.func18, tr18⟩, trivial, trivial⟩, ⟨⟨_, Tryz.func22, tr22⟩, trivial, trivial⟩⟩⟩⟩, ⟨⟨_, Tryz.func31, tr31⟩, ⟨⟨_, Tryz.func27, tr27⟩, ⟨⟨_, Tryz.func25, tr25⟩, ⟨⟨_, Tryz.func24, tr24⟩, trivial, trivial⟩, ⟨⟨_, Tryz.func26, tr26⟩, trivial, trivial⟩⟩, ⟨⟨_, Tryz.func29, tr29⟩, ⟨⟨_, Tryz.func28, tr28⟩, trivial, trivial⟩, ⟨⟨_, Tryz.func30, tr30⟩, trivial, trivial⟩⟩⟩, ⟨⟨_, Tryz.func35, tr35⟩, ⟨⟨_, Tryz.func33, tr33⟩, ⟨⟨_, Tryz.func32, tr32⟩, trivial, trivial⟩, ⟨⟨_, Tryz.func34, tr34⟩, trivial, trivial⟩⟩, ⟨⟨_, Tryz.func38, tr38⟩, ⟨⟨_, Tryz.func37, tr37⟩, trivial, trivial⟩, trivial⟩⟩⟩⟩, ⟨⟨_, Tryz.func70, tr70⟩, ⟨⟨_, Tryz.func61, tr61⟩, ⟨⟨_, Tryz.func54, tr54⟩, ⟨⟨_, Tryz.func49, tr49⟩, ⟨⟨_, Tryz.func48, tr48⟩, trivial, trivial⟩, ⟨⟨_, Tryz.func53, tr53⟩, trivial, trivial⟩⟩, ⟨⟨_, Tryz.func59, tr59⟩, ⟨⟨_, Tryz.func58, tr58⟩, trivial, trivial⟩, ⟨⟨_, Tryz.func60, tr60⟩, trivial, trivial⟩⟩⟩, ⟨⟨_, Tryz.func65, tr65⟩, ⟨⟨_, Tryz.func63, tr63⟩, ⟨⟨_, Tryz.func62, tr62⟩, trivial, trivial⟩, ⟨⟨_, Tryz.func64, tr64⟩, trivial, trivial⟩⟩, ⟨⟨_, Tryz.func67, tr67⟩, ⟨⟨_, Tryz.func66, tr66⟩, trivial, trivial⟩, ⟨⟨_, Tryz.func68, tr68⟩, trivial, trivial⟩⟩⟩⟩, ⟨⟨_, Tryz.func78, tr78⟩, ⟨⟨_, Tryz.func74, tr74⟩, ⟨⟨_, Tryz.func72, tr72⟩, ⟨⟨_, Tryz.func71, tr71⟩, trivial, trivial⟩, ⟨⟨_, Tryz.func73, tr73⟩, trivial, trivial⟩⟩, ⟨⟨_, Tryz.func76, tr76⟩, ⟨⟨_, Tryz.func75, tr75⟩, trivial, trivial⟩, ⟨⟨_, Tryz.func77, tr77⟩, trivial, trivial⟩⟩⟩, ⟨⟨_, Tryz.func85, tr85⟩, ⟨⟨_, Tryz.func83, tr83⟩, ⟨⟨_, Tryz.func79, tr79⟩, trivial, trivial⟩, ⟨⟨_, Tryz.func84, tr84⟩, trivial, trivial⟩⟩, ⟨⟨_, Tryz.func87, tr87⟩, ⟨⟨_, Tryz.func86, tr86⟩, trivial, trivial⟩, trivial⟩⟩⟩⟩⟩, ⟨⟨_, Tryz.func141, tr141⟩, ⟨⟨_, Tryz.func115, tr115⟩, ⟨⟨_, Tryz.func107, tr107⟩, ⟨⟨_, Tryz.func100, tr100⟩, ⟨⟨_, Tryz.func97, tr97⟩, ⟨⟨_, Tryz.func96, tr96⟩, trivial, trivial⟩, ⟨⟨_, Tryz.func99, tr99⟩, trivial, trivial⟩⟩, ⟨⟨_, Tryz.func105, tr105⟩, ⟨⟨_, Tryz.func104, tr104⟩, trivial, trivial⟩, ⟨⟨_, Tryz.func106, tr106⟩, trivial, trivial⟩⟩⟩, ⟨⟨_, Tryz.func111, tr111⟩, ⟨⟨_, Tryz.func109, tr109⟩, ⟨⟨_, Tryz.func108, tr108⟩, trivial, trivial⟩, ⟨⟨_, Tryz.func110, tr110⟩, trivial, trivial⟩⟩, ⟨⟨_, Tryz.func113, tr113⟩, ⟨⟨_, Tryz.func112, tr112⟩, trivial, trivial⟩, ⟨⟨_, Tryz.func114, tr114⟩, trivial, trivial⟩⟩⟩⟩, ⟨⟨_, Tryz.func132, tr132⟩, ⟨⟨_, Tryz.func122, tr122⟩, ⟨⟨_, Tryz.func117, tr117⟩, ⟨⟨_, Tryz.func116, tr116⟩, trivial, trivial⟩, ⟨⟨_, Tryz.func121, tr121⟩, trivial, trivial⟩⟩, ⟨⟨_, Tryz.func124, tr124⟩, ⟨⟨_, Tryz.func123, tr123⟩, trivial, trivial⟩, ⟨⟨_, Tryz.func131, tr131⟩, trivial, trivial⟩⟩⟩, ⟨⟨_, Tryz.func138, tr138⟩, ⟨⟨_, Tryz.func136, tr136⟩, ⟨⟨_, Tryz.func135, tr135⟩, trivial, trivial⟩, ⟨⟨_, Tryz.func137, tr137⟩, trivial, trivial⟩⟩, ⟨⟨_, Tryz.func140, tr140⟩, ⟨⟨_, Tryz.func139, tr139⟩, trivial, trivial⟩, trivial⟩⟩⟩⟩, ⟨⟨_, Tryz.func167, tr167⟩, ⟨⟨_, Tryz.func149, tr149⟩, ⟨⟨_, Tryz.func145, tr145⟩, ⟨⟨_, Tryz.func143, tr143⟩, ⟨⟨_, Tryz.func142, tr142⟩, trivial, trivial⟩, ⟨⟨_, Tryz.func144, tr144⟩, trivial, trivial⟩⟩, ⟨⟨_, Tryz.func147, tr147⟩, ⟨⟨_, Tryz.func146, tr146⟩, trivial, trivial⟩, ⟨⟨_, Tryz.func148, tr148⟩, trivial, trivial⟩⟩⟩, ⟨⟨_, Tryz.func157, tr157⟩, ⟨⟨_, Tryz.func154, tr154⟩, ⟨⟨_, Tryz.func153, tr153⟩, trivial, trivial⟩, ⟨⟨_, Tryz.func155, tr155⟩, trivial, trivial⟩⟩, ⟨⟨_, Tryz.func159, tr159⟩, ⟨⟨_, Tryz.func158, tr158⟩, trivial, trivial⟩, ⟨⟨_, Tryz.func160, tr160⟩, trivial, trivial⟩⟩⟩⟩, ⟨⟨_, Tryz.func175, tr175⟩, ⟨⟨_, Tryz.func171, tr171⟩, ⟨⟨_, Tryz.func169, tr169⟩, ⟨⟨_, Tryz.func168, tr168⟩, trivial, trivial⟩, ⟨⟨_, Tryz.func170, tr170⟩, trivial, trivial⟩⟩, ⟨⟨_, Tryz.func173, tr173⟩, ⟨⟨_, Tryz.func172, tr172⟩, trivial, trivial⟩, ⟨⟨_, Tryz.func174, tr174⟩, trivial, trivial⟩⟩⟩, ⟨⟨_, Tryz.func179, tr179⟩, ⟨⟨_, Tryz.func177, tr177⟩, ⟨⟨_, Tryz.func176, tr176⟩, trivial, trivial⟩, ⟨⟨_, Tryz.func178, tr178⟩, trivial, trivial⟩⟩, ⟨⟨_, Tryz.func181, tr181⟩, ⟨⟨_, Tryz.func180, tr180⟩, trivial, trivial⟩, trivial⟩⟩⟩⟩⟩⟩, ⟨⟨_, Tryz.func284, tr284⟩, ⟨⟨_, Tryz.func244, tr244⟩, ⟨⟨_, Tryz.func220, tr220⟩, ⟨⟨_, Tryz.func197, tr197⟩, ⟨⟨_, Tryz.func189, tr189⟩, ⟨⟨_, Tryz.func184, tr184⟩, ⟨⟨_, Tryz.func183, tr183⟩, trivial, trivial⟩, ⟨⟨_, Tryz.func188, tr188⟩, trivial, trivial⟩⟩, ⟨⟨_, Tryz.func193, tr193⟩, ⟨⟨_, Tryz.func190, tr190⟩, trivial, trivial⟩, ⟨⟨_, Tryz.func195, tr195⟩, trivial, trivial⟩⟩⟩, ⟨⟨_, Tryz.func213, tr213⟩, ⟨⟨_, Tryz.func210, tr210⟩, ⟨⟨_, Tryz.func206, tr206⟩, trivial, trivial⟩, ⟨⟨_, Tryz.func212, tr212⟩, trivial, trivial⟩⟩, ⟨⟨_, Tryz.func216, tr216⟩, ⟨⟨_, Tryz.func215, tr215⟩, trivial, trivial⟩, ⟨⟨_, Tryz.func218, tr218⟩, trivial, trivial⟩⟩⟩⟩, ⟨⟨_, Tryz.func231, tr231⟩, ⟨⟨_, Tryz.func227, tr227⟩, ⟨⟨_, Tryz.func224, tr224⟩, ⟨⟨_, Tryz.func222, tr222⟩, trivial, trivial⟩, ⟨⟨_, Tryz.func225, tr225⟩, trivial, trivial⟩⟩, ⟨⟨_, Tryz.func229, tr229⟩, ⟨⟨_, Tryz.func228, tr228⟩, trivial, trivial⟩, ⟨⟨_, Tryz.func230, tr230⟩, trivial, trivial⟩⟩⟩, ⟨⟨_, Tryz.func239, tr239⟩, ⟨⟨_, Tryz.func235, tr235⟩, ⟨⟨_, Tryz.func232, tr232⟩, trivial, trivial⟩, ⟨⟨_, Tryz.func237, tr237⟩, trivial, trivial⟩⟩, ⟨⟨_, Tryz.func243, tr243⟩, ⟨⟨_, Tryz.func242, tr242⟩, trivial, trivial⟩, trivial⟩⟩⟩⟩, ⟨⟨_, Tryz.func268, tr268⟩, ⟨⟨_, Tryz.func259, tr259⟩, ⟨⟨_, Tryz.func253, tr253⟩, ⟨⟨_, Tryz.func246, tr246⟩, ⟨⟨_, Tryz.func245, tr245⟩, trivial, trivial⟩, ⟨⟨_, Tryz.func252, tr252⟩, trivial, trivial⟩⟩, ⟨⟨_, Tryz.func255, tr255⟩, ⟨⟨_, Tryz.func254, tr254⟩, trivial, trivial⟩, ⟨⟨_, Tryz.func256, tr256⟩, trivial, trivial⟩⟩⟩, ⟨⟨_, Tryz.func263, tr263⟩, ⟨⟨_, Tryz.func261, tr261⟩, ⟨⟨_, Tryz.func260, tr260⟩, trivial, trivial⟩, ⟨⟨_, Tryz.func262, tr262⟩, trivial, trivial⟩⟩, ⟨⟨_, Tryz.func266, tr266⟩, ⟨⟨_, Tryz.func265, tr265⟩, trivial, trivial⟩, ⟨⟨_, Tryz.func267, tr267⟩, trivial, trivial⟩⟩⟩⟩, ⟨⟨_, Tryz.func277, tr277⟩, ⟨⟨_, Tryz.func273, tr273⟩, ⟨⟨_, Tryz.func271, tr271⟩, ⟨⟨_, Tryz.func270, tr270⟩, trivial, trivial⟩, ⟨⟨_, Tryz.func272, tr272⟩, trivial, trivial⟩⟩, ⟨⟨_, Tryz.func275, tr275⟩, ⟨⟨_, Tryz.func274, tr274⟩, trivial, trivial⟩, ⟨⟨_, Tryz.func276, tr276⟩, trivial, trivial⟩⟩⟩, ⟨⟨_, Tryz.func281, tr281⟩, ⟨⟨_, Tryz.func279, tr279⟩, ⟨⟨_, Tryz.func278, tr278⟩, trivial, trivial⟩, ⟨⟨_, Tryz.func280, tr280⟩, trivial, trivial⟩⟩, ⟨⟨_, Tryz.func283, tr283⟩, ⟨⟨_, Tryz.func282, tr282⟩, trivial, trivial⟩, trivial⟩⟩⟩⟩⟩, ⟨⟨_, Tryz.func348, tr348⟩, ⟨⟨_, Tryz.func314, tr314⟩, ⟨⟨_, Tryz.func301, tr301⟩, ⟨⟨_, Tryz.func296, tr296⟩, ⟨⟨_, Tryz.func286, tr286⟩, ⟨⟨_, Tryz.func285, tr285⟩, trivial, trivial⟩, ⟨⟨_, Tryz.func295, tr295⟩, trivial, trivial⟩⟩, ⟨⟨_, Tryz.func298, tr298⟩, ⟨⟨_, Tryz.func297, tr297⟩, trivial, trivial⟩, ⟨⟨_, Tryz.func299, tr299⟩, trivial, trivial⟩⟩⟩, ⟨⟨_, Tryz.func309, tr309⟩, ⟨⟨_, Tryz.func305, tr305⟩, ⟨⟨_, Tryz.func303, tr303⟩, trivial, trivial⟩, ⟨⟨_, Tryz.func307, tr307⟩, trivial, trivial⟩⟩, ⟨⟨_, Tryz.func312, tr312⟩, ⟨⟨_, Tryz.func311, tr311⟩, trivial, trivial⟩, ⟨⟨_, Tryz.func313, tr313⟩, trivial, trivial⟩⟩⟩⟩, ⟨⟨_, Tryz.func323, tr323⟩, ⟨⟨_, Tryz.func318, tr318⟩, ⟨⟨_, Tryz.func316, tr316⟩, ⟨⟨_, Tryz.func315, tr315⟩, trivial, trivial⟩, ⟨⟨_, Tryz.func317, tr317⟩, trivial, trivial⟩⟩, ⟨⟨_, Tryz.func320, tr320⟩, ⟨⟨_, Tryz.func319, tr319⟩, trivial, trivial⟩, ⟨⟨_, Tryz.func322, tr322⟩, trivial, trivial⟩⟩⟩, ⟨⟨_, Tryz.func344, tr344⟩, ⟨⟨_, Tryz.func328, tr328⟩, ⟨⟨_, Tryz.func324, tr324⟩, trivial, trivial⟩, ⟨⟨_, Tryz.func343, tr343⟩, trivial, trivial⟩⟩, ⟨⟨_, Tryz.func346, tr346⟩, ⟨⟨_, Tryz.func345, tr345⟩, trivial, trivial⟩, trivial⟩⟩⟩⟩, ⟨⟨_, Tryz.func387, tr387⟩, ⟨⟨_, Tryz.func359, tr359⟩, ⟨⟨_, Tryz.func354, tr354⟩, ⟨⟨_, Tryz.func352, tr352⟩, ⟨⟨_, Tryz.func351, tr351⟩, trivial, trivial⟩, ⟨⟨_, Tryz.func353, tr353⟩, trivial, trivial⟩⟩, ⟨⟨_, Tryz.func356, tr356⟩, ⟨⟨_, Tryz.func355, tr355⟩, trivial, trivial⟩, ⟨⟨_, Tryz.func357, tr357⟩, trivial, trivial⟩⟩⟩, ⟨⟨_, Tryz.func383, tr383⟩, ⟨⟨_, Tryz.func361, tr361⟩, ⟨⟨_, Tryz.func360, tr360⟩, trivial, trivial⟩, ⟨⟨_, Tryz.func362, tr362⟩, trivial, trivial⟩⟩, ⟨⟨_, Tryz.func385, tr385⟩, ⟨⟨_, Tryz.func384, tr384⟩, trivial, trivial⟩, ⟨⟨_, Tryz.func386, tr386⟩, trivial, trivial⟩⟩⟩⟩, ⟨⟨_, Tryz.func397, tr397⟩, ⟨⟨_, Tryz.func392, tr392⟩, ⟨⟨_, Tryz.func390, tr390⟩, ⟨⟨_, Tryz.func389, tr389⟩, trivial, trivial⟩, ⟨⟨_, Tryz.func391, tr391⟩, trivial, trivial⟩⟩, ⟨⟨_, Tryz.func395, tr395⟩, ⟨⟨_, Tryz.func394, tr394⟩, trivial, trivial⟩, ⟨⟨_, Tryz.func396, tr396⟩, trivial, trivial⟩⟩⟩, ⟨⟨_, Tryz.func420, tr420⟩, ⟨⟨_, Tryz.func416, tr416⟩, ⟨⟨_, Tryz.func398, tr398⟩, trivial, trivial⟩, ⟨⟨_, Tryz.func417, tr417⟩, trivial, trivial⟩⟩, ⟨⟨_, Tryz.func423, tr423⟩, ⟨⟨_, Tryz.func422, tr422⟩, trivial, trivial⟩, trivial⟩⟩⟩⟩⟩⟩⟩

theorem bears_auto {P : Program} {f : FuncId} {B : Func} (h1 : (((P.funcs[f]?).getD default).name == "runtime.NumGoroutine") = false) (h2 : P.funcs[f]? = some { B with name := ((P.funcs[f]?).getD default).name }) : Go.Proofs.Bears P f B := ⟨_, h1, h2⟩
def renS : Ren := { f := fun n => match n with | 5 => 123 | 7 => 158 | 8 => 159 | 10 => 197 | 11 => 198 | 12 => 199 | 13 => 200 | 14 => 201 | 15 => 202 | 16 => 163 | 17 => 203 | 18 => 204 | 19 => 205 | 20 => 206 | 30 => 247 | 31 => 248 | 32 => 249 | 33 => 250 | 34 => 251 | 35 => 208 | 40 => 269 | n => n, t := fun n => match n with | 0 => 0 | 3 => 3 | 4 => 4 | 5 => 5 | 9 => 9 | 22 => 23 | 23 => 23 | 25 => 3 | 32 => 209 | 35 => 311 | 36 => 312 | 41 => 138 | 44 => 200 | 46 => 168 | 53 => 345 | 57 => 349 | 63 => 394 | 64 => 395 | n => n, g := fun n => n }
theorem laysS : SlLaysM.n5 Tryz.prog renS := by
  constructor
  all_goals first
    | kernel_rfl
    | (intro w; kernel_rfl)
    | exact bears_auto (by kernel_rfl) (by kernel_rfl)
def renK0 : Ren := { f := fun n => match n with | 6 => 84 | 7 => 160 | 8 => 122 | 9 => 123 | 10 => 207 | 11 => 157 | n => n, t := fun n => match n with | 0 => 0 | 3 => 33 | 4 => 4 | 5 => 5 | 9 => 9 | 23 => 64 | 24 => 23 | 26 => 3 | 27 => 124 | 28 => 125 | 33 => 91 | 37 => 209 | 39 => 311 | 40 => 312 | 45 => 138 | 48 => 200 | 50 => 168 | 51 => 345 | 55 => 349 | 57 => 394 | 58 => 395 | n => n, g := fun n => n }
theorem laysK0 : SlLaysZI.n7 Tryz.prog renK0 := by
  constructor
  all_goals first
    | kernel_rfl
    | (intro w; kernel_rfl)
    | exact bears_auto (by kernel_rfl) (by kernel_rfl)
theorem laysO : SlLaysZI.n6 Tryz.prog renK0 := by
  constructor
  all_goals first
    | kernel_rfl
    | (intro w; kernel_rfl)
    | exact bears_auto (by kernel_rfl) (by kernel_rfl)
theorem sorts (m : Nat) : Go.Proofs.AnyZI.SortsIn Tryz.prog renK0 Fence.wide m :=
  ⟨fun blk off cap ss W hH hblk hsz => callsIn_wide.2 (Go.Proofs.AnyM.slices_Sort_int laysS blk off cap ss W hH hblk hsz), fun p cap W => callsIn_wide.2 (Go.Proofs.AnyM.slices_Sort_int_none laysS p cap W)⟩
def renK1 : Ren := { f := fun n => match n with | 6 => 84 | 7 => 175 | 8 => 122 | 9 => 123 | 10 => 217 | 11 => 157 | n => n, t := fun n => match n with | 0 => 0 | 3 => 162 | 4 => 4 | 5 => 5 | 9 => 9 | 23 => 104 | 24 => 23 | 26 => 3 | 27 => 124 | 28 => 125 | 33 => 91 | 37 => 209 | 39 => 311 | 40 => 312 | 45 => 138 | 48 => 200 | 50 => 168 | 51 => 345 | 55 => 349 | 57 => 394 | 58 => 395 | n => n, g := fun n => n }
theorem laysK1 : SlLaysZI.n7 Tryz.prog renK1 := by
  constructor
  all_goals first
    | kernel_rfl
    | (intro w; kernel_rfl)
    | exact bears_auto (by kernel_rfl) (by kernel_rfl)
theorem laysO1 : SlLaysZI.n6 Tryz.prog renK1 := by
  constructor
  all_goals first
    | kernel_rfl
    | (intro w; kernel_rfl)
    | exact bears_auto (by kernel_rfl) (by kernel_rfl)
theorem sorts1 (m : Nat) : Go.Proofs.AnyZI.SortsIn Tryz.prog renK1 Fence.wide m :=
  ⟨fun blk off cap ss W hH hblk hsz => callsIn_wide.2 (Go.Proofs.AnyM.slices_Sort_int laysS blk off cap ss W hH hblk hsz), fun p cap W => callsIn_wide.2 (Go.Proofs.AnyM.slices_Sort_int_none laysS p cap W)⟩
def renK2 : Ren := { f := fun n => match n with | 6 => 84 | 7 => 299 | 8 => 122 | 9 => 123 | 10 => 350 | 11 => 157 | n => n, t := fun n => match n with | 0 => 0 | 3 => 393 | 4 => 4 | 5 => 5 | 9 => 9 | 23 => 381 | 24 => 23 | 26 => 3 | 27 => 124 | 28 => 125 | 33 => 91 | 37 => 209 | 39 => 311 | 40 => 312 | 45 => 138 | 48 => 200 | 50 => 168 | 51 => 345 | 55 => 349 | 57 => 394 | 58 => 395 | n => n, g := fun n => n }
theorem laysK2 : SlLaysZI.n7 Tryz.prog renK2 := by
  constructor
  all_goals first
    | kernel_rfl
    | (intro w; kernel_rfl)
    | exact bears_auto (by kernel_rfl) (by kernel_rfl)
theorem laysO2 : SlLaysZI.n6 Tryz.prog renK2 := by
  constructor
  all_goals first
    | kernel_rfl
    | (intro w; kernel_rfl)
    | exact bears_auto (by kernel_rfl) (by kernel_rfl)
theorem sorts2 (m : Nat) : Go.Proofs.AnyZI.SortsIn Tryz.prog renK2 Fence.wide m :=
  ⟨fun blk off cap ss W hH hblk hsz => callsIn_wide.2 (Go.Proofs.AnyM.slices_Sort_int laysS blk off cap ss W hH hblk hsz), fun p cap W => callsIn_wide.2 (Go.Proofs.AnyM.slices_Sort_int_none laysS p cap W)⟩
def renI : Ren := { f := fun n => match n with | 21 => 135 | 27 => 165 | 28 => 166 | 35 => 209 | 39 => 86 | n => n, t := fun n => match n with | 22 => 23 | n => n, g := fun n => n }
theorem laysI : Lays2.n21 Tryz.prog renI := by
  constructor
  all_goals first
    | kernel_rfl
    | (intro w; kernel_rfl)
theorem stirOk : IntrOk Tryz.prog 183 stirX :=
  stirX_ok (r := 232) (by kernel_rfl) (by kernel_rfl) Tryz.func183 (by kernel_rfl) Tryz.func232 (by kernel_rfl) (fun X w => callFunc_run Tryz.func183 (by kernel_rfl) (by kernel_rfl) X w)
def renX : Ren := { f := fun n => match n with | 217 => 184 | 266 => 233 | n => n, t := fun n => match n with | 3 => 3 | 5 => 5 | 9 => 9 | n => n, g := fun n => n }
theorem laysX : Lays.n217 Tryz.prog renX := by
  constructor
  all_goals first
    | kernel_rfl
    | (intro w; kernel_rfl)
noncomputable def env : Env := { fn := tab.find, intr := fun k => bif Nat.beq k 160 then some (fun all s => keysD all 207 s) else bif Nat.beq k 175 then some (fun all s => keysD all 217 s) else bif Nat.beq k 299 then some (fun all s => keysD all 350 s) else bif Nat.beq k 84 then some (fun a s => match (fun a s => match (fun all s => sortedD 207 all s) a s with | some r => some r | none => (fun all s => sortedD 217 all s) a s) a s with | some r => some r | none => (fun all s => sortedD 350 all s) a s) else bif Nat.beq k 135 then some (insD) else bif Nat.beq k 183 then some (stirX) else bif Nat.beq k 184 then some (indexD) else none, lf := 100000 }
theorem env_ok : EnvOk Tryz.prog env := by
  refine ⟨by kernel_rfl, fun k df h => BT.find_all tab_ok h, fun k F h => ?_⟩
  have h : (bif Nat.beq k 160 then some (fun all s => keysD all 207 s) else bif Nat.beq k 175 then some (fun all s => keysD all 217 s) else bif Nat.beq k 299 then some (fun all s => keysD all 350 s) else bif Nat.beq k 84 then some (fun a s => match (fun a s => match (fun all s => sortedD 207 all s) a s with | some r => some r | none => (fun all s => sortedD 217 all s) a s) a s with | some r => some r | none => (fun all s => sortedD 350 all s) a s) else bif Nat.beq k 135 then some (insD) else bif Nat.beq k 183 then some (stirX) else bif Nat.beq k 184 then some (indexD) else none) = some F := h
  cases hb160 : Nat.beq k 160 with
  | true =>
    rw [hb160] at h
    simp only [cond_true, Option.some.injEq] at h
    subst h
    rw [Nat.eq_of_beq_eq_true hb160]
    exact keys_ok (ρ := renK0) laysK0 (fun X w => callFunc_run Tryz.func160 (by kernel_rfl) (by kernel_rfl) X w)
  | false =>
    rw [hb160] at h
    simp only [cond_false] at h
    cases hb175 : Nat.beq k 175 with
    | true =>
      rw [hb175] at h
      simp only [cond_true, Option.some.injEq] at h
      subst h
      rw [Nat.eq_of_beq_eq_true hb175]
      exact keys_ok (ρ := renK1) laysK1 (fun X w => callFunc_run Tryz.func175 (by kernel_rfl) (by kernel_rfl) X w)
    | false =>
      rw [hb175] at h
      simp only [cond_false] at h
      cases hb299 : Nat.beq k 299 with
      | true =>
        rw [hb299] at h
        simp only [cond_true, Option.some.injEq] at h
        subst h
        rw [Nat.eq_of_beq_eq_true hb299]
        exact keys_ok (ρ := renK2) laysK2 (fun X w => callFunc_run Tryz.func299 (by kernel_rfl) (by kernel_rfl) X w)
      | false =>
        rw [hb299] at h
        simp only [cond_false] at h
        cases hb84 : Nat.beq k 84 with
        | true =>
          rw [hb84] at h
          simp only [cond_true, Option.some.injEq] at h
          subst h
          rw [Nat.eq_of_beq_eq_true hb84]
          exact IntrOk.or (IntrOk.or (sorted_ok (ρ := renK0) laysO { laysK0 with } sorts (fun X w => callFunc_run Tryz.func123 (by kernel_rfl) (by kernel_rfl) X w) (fun X w => callFunc_run Tryz.func84 (by kernel_rfl) (by kernel_rfl) X w)) (sorted_ok (ρ := renK1) laysO1 { laysK1 with } sorts1 (fun X w => callFunc_run Tryz.func123 (by kernel_rfl) (by kernel_rfl) X w) (fun X w => callFunc_run Tryz.func84 (by kernel_rfl) (by kernel_rfl) X w))) (sorted_ok (ρ := renK2) laysO2 { laysK2 with } sorts2 (fun X w => callFunc_run Tryz.func123 (by kernel_rfl) (by kernel_rfl) X w) (fun X w => callFunc_run Tryz.func84 (by kernel_rfl) (by kernel_rfl) X w))
        | false =>
          rw [hb84] at h
          simp only [cond_false] at h
          cases hb135 : Nat.beq k 135 with
          | true =>
            rw [hb135] at h
            simp only [cond_true, Option.some.injEq] at h
            subst h
            rw [Nat.eq_of_beq_eq_true hb135]
            exact ins_ok (ρ := renI) laysI (fun X w => callFunc_run Tryz.func135 (by kernel_rfl) (by kernel_rfl) X w)
          | false =>
            rw [hb135] at h
            simp only [cond_false] at h
            cases hb183 : Nat.beq k 183 with
            | true =>
              rw [hb183] at h
              simp only [cond_true, Option.some.injEq] at h
              subst h
              rw [Nat.eq_of_beq_eq_true hb183]
              exact stirOk
            | false =>
              rw [hb183] at h
              simp only [cond_false] at h
              cases hb184 : Nat.beq k 184 with
              | true =>
                rw [hb184] at h
                simp only [cond_true, Option.some.injEq] at h
                subst h
                rw [Nat.eq_of_beq_eq_true hb184]
                exact index_ok (ρ := renX) laysX (fun X w => callFunc_run Tryz.func184 (by kernel_rfl) (by kernel_rfl) X w)
              | false =>
                rw [hb184] at h
                simp only [cond_false] at h
                cases h

theorem runs (a0 : Int) (a1 : Int) (a2 : Int) (a3 : Int) (a4 : Int) (a5 : Int) (a6 : Int) (a7 : Bool) (a8 : Int) (a9 : Int) (a10 : Int) (a11 : Int) (a12 : Int) (a13 : Int) (a14 : Int) (a15 : Int) (a16 : Int) (a17 : Int) (a18 : Int) (a19 : Int) (a20 : Int) (a21 : Int) (a22 : Int) (a23 : Int) (a24 : Int) (a25 : Int) (a26 : Int) (a27 : Int) (a28 : Int) (a29 : Int) (a30 : Int) (a31 : Int) (a32 : Int) (a33 : Int) (a34 : Int) (a35 : Int) (a36 : Int) (a37 : Int) (a38 : Int) (a39 : Int) (a41 : Int) (a42 : Int) (a45 : Int) (a46 : Int) (a47 : Int) (a48 : Bool) (a49 : Int) (a50 : Int) (a51 : Int) (a52 : Int) (a56 : Int) : okOf (xcall env 200 (.func (.func 5) #[] #[]) [.int .i64 a0, .agg #[.int .i64 a1, .int .i64 a2, .int .i64 a3, .int .i64 a4, .int .i64 a5, .int .i64 a6, .bool a7, .int .u8 a8, .int .u8 a9, .int .u8 a10, .int .u8 a11, .int .u8 a12, .int .u8 a13, .int .u8 a14, .int .u8 a15, .int .u8 a16, .int .u8 a17, .int .u8 a18, .int .u8 a19, .int .u8 a20, .int .u8 a21, .int .u8 a22, .int .u8 a23, .int .u8 a24, .int .u8 a25, .int .u8 a26, .int .u8 a27, .int .u8 a28, .int .u8 a29, .int .u8 a30, .int .u8 a31, .int .u8 a32, .int .u8 a33, .int .u8 a34, .int .u8 a35, .int .u8 a36, .int .u8 a37, .int .u8 a38, .int .u8 a39, .nilIface, .int .i64 a41, .int .i64 a42, .nilIface, .nilIface, .int .i64 a45, .int .i64 a46, .int .i64 a47, .bool a48, .int .i64 a49, .int .i64 a50, .int .i64 a51, .int .i64 a52, .nilIface, .nilIface, .nilIface], .int .i64 a56] s0) = true := by kernel_rfl
theorem walk (a0 : Int) (a1 : Int) (a2 : Int) (a3 : Int) (a4 : Int) (a5 : Int) (a6 : Int) (a7 : Bool) (a8 : Int) (a9 : Int) (a10 : Int) (a11 : Int) (a12 : Int) (a13 : Int) (a14 : Int) (a15 : Int) (a16 : Int) (a17 : Int) (a18 : Int) (a19 : Int) (a20 : Int) (a21 : Int) (a22 : Int) (a23 : Int) (a24 : Int) (a25 : Int) (a26 : Int) (a27 : Int) (a28 : Int) (a29 : Int) (a30 : Int) (a31 : Int) (a32 : Int) (a33 : Int) (a34 : Int) (a35 : Int) (a36 : Int) (a37 : Int) (a38 : Int) (a39 : Int) (a40 : Value) (a41 : Int) (a42 : Int) (a43 : Value) (a44 : Value) (a45 : Int) (a46 : Int) (a47 : Int) (a48 : Bool) (a49 : Int) (a50 : Int) (a51 : Int) (a52 : Int) (a53 : Value) (a54 : Value) (a55 : Value) (a56 : Int) (h40 : opq a40 = true) (h43 : opq a43 = true) (h44 : opq a44 = true) (h53 : opq a53 = true) (h54 : opq a54 = true) (h55 : opq a55 = true) (w : World) : Calls Tryz.prog 5 #[.int .i64 a0, .agg ⟨[.int .i64 a1, .int .i64 a2, .int .i64 a3, .int .i64 a4, .int .i64 a5, .int .i64 a6, .bool a7, .int .u8 a8, .int .u8 a9, .int .u8 a10, .int .u8 a11, .int .u8 a12, .int .u8 a13, .int .u8 a14, .int .u8 a15, .int .u8 a16, .int .u8 a17, .int .u8 a18, .int .u8 a19, .int .u8 a20, .int .u8 a21, .int .u8 a22, .int .u8 a23, .int .u8 a24, .int .u8 a25, .int .u8 a26, .int .u8 a27, .int .u8 a28, .int .u8 a29, .int .u8 a30, .int .u8 a31, .int .u8 a32, .int .u8 a33, .int .u8 a34, .int .u8 a35, .int .u8 a36, .int .u8 a37, .int .u8 a38, .int .u8 a39, a40, .int .i64 a41, .int .i64 a42, a43, a44, .int .i64 a45, .int .i64 a46, .int .i64 a47, .bool a48, .int .i64 a49, .int .i64 a50, .int .i64 a51, .int .i64 a52, a53, a54, a55]⟩, .int .i64 a56] w fun e w' => e = .returned (.bool true) ∧ Kept w w' :=
  top env_ok (runs a0 a1 a2 a3 a4 a5 a6 a7 a8 a9 a10 a11 a12 a13 a14 a15 a16 a17 a18 a19 a20 a21 a22 a23 a24 a25 a26 a27 a28 a29 a30 a31 a32 a33 a34 a35 a36 a37 a38 a39 a41 a42 a45 a46 a47 a48 a49 a50 a51 a52 a56) (fun _ => .cons (.int _ _) (.cons (.agg (.cons (.int _ _) (.cons (.int _ _) (.cons (.int _ _) (.cons (.int _ _) (.cons (.int _ _) (.cons (.int _ _) (.cons (.bool _) (.cons (.int _ _) (.cons (.int _ _) (.cons (.int _ _) (.cons (.int _ _) (.cons (.int _ _) (.cons (.int _ _) (.cons (.int _ _) (.cons (.int _ _) (.cons (.int _ _) (.cons (.int _ _) (.cons (.int _ _) (.cons (.int _ _) (.cons (.int _ _) (.cons (.int _ _) (.cons (.int _ _) (.cons (.int _ _) (.cons (.int _ _) (.cons (.int _ _) (.cons (.int _ _) (.cons (.int _ _) (.cons (.int _ _) (.cons (.int _ _) (.cons (.int _ _) (.cons (.int _ _) (.cons (.int _ _) (.cons (.int _ _) (.cons (.int _ _) (.cons (.int _ _) (.cons (.int _ _) (.cons (.int _ _) (.cons (.int _ _) (.cons (.int _ _) (.cons (.any h40) (.cons (.int _ _) (.cons (.int _ _) (.cons (.any h43) (.cons (.any h44) (.cons (.int _ _) (.cons (.int _ _) (.cons (.int _ _) (.cons (.bool _) (.cons (.int _ _) (.cons (.int _ _) (.cons (.int _ _) (.cons (.int _ _) (.cons (.any h53) (.cons (.any h54) (.cons (.any h55) .nil)))))))))))))))))))))))))))))))))))))))))))))))))))))))) (.cons (.int _ _) .nil))) w
end Go.Proofs.YtfodfkpnbopdbaaGreat.replicaNobody
