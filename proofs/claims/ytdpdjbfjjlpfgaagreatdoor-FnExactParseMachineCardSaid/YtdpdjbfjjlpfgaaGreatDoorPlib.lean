/- The library's functions that the parsers call, as contracts. -/
import Derived.Shelf.Strings.SplitShaped
import Derived.Shelf.Strconv.AtoiErr
import Derived.Shelf.Strconv.Atoi
import Derived.Shelf.Strconv.Itoa3
import Derived.Shelf.Slices.Turned
import Derived.Shelf.Slices.Clone
import Derived.Shelf.Small.Wraps
import Derived.Shelf.Spec.SlicesGrow
import Derived.Lib.AtoiBound
import Derived.Lib.AppendIntMem
import Derived.Test.YtdpdjbfjjlpfgaaGreatDoorPmx
import Derived.Test.YtdpdjbfjjlpfgaaGreatDoorDrawY
import Derived.Test.YtdpdjbfjjlpfgaaGreatDoorEdges
namespace Go.Proofs.YtdpdjbfjjlpfgaaGreatDoor
open Go Go.RowKit

open Go.Shelf in
def itoaM_ren : Go.Shelf.Ren := ⟨fun | 171 => 51 | 243 => 65 | 246 => 75 | 283 => 88 | 284 => 89 | 285 => 90 | 286 => 91 | 129 => 98 | 317 => 97 | 318 => 99 | 319 => 100 | 320 => 101 | 337 => 104 | 338 => 105 | n => n, fun | 3 => 3 | 9 => 9 | 2 => 2 | 4 => 4 | 171 => 115 | 0 => 0 | 53 => 94 | 37 => 77 | 5 => 5 | 173 => 118 | 212 => 132 | 51 => 91 | 20 => 20 | 213 => 133 | 46 => 72 | 232 => 140 | 233 => 141 | n => n, fun | 17 => 5 | 18 => 6 | 19 => 7 | n => n⟩
open Go.Shelf in
theorem itoaM : Go.Proofs.LaysM.n171 Tryz.prog itoaM_ren := {
  mixed := by kernel_rfl
  f129 := Tryz.func98.trans (congrArg some (by kernel_rfl))
  f171 := Tryz.func51.trans (congrArg some (by kernel_rfl))
  f243 := Tryz.func65.trans (congrArg some (by kernel_rfl))
  f246 := Tryz.func75.trans (congrArg some (by kernel_rfl))
  f283 := Tryz.func88.trans (congrArg some (by kernel_rfl))
  f284 := Tryz.func89.trans (congrArg some (by kernel_rfl))
  f285 := Tryz.func90.trans (congrArg some (by kernel_rfl))
  f286 := Tryz.func91.trans (congrArg some (by kernel_rfl))
  f317 := Tryz.func97.trans (congrArg some (by kernel_rfl))
  f318 := Tryz.func99.trans (congrArg some (by kernel_rfl))
  f319 := Tryz.func100.trans (congrArg some (by kernel_rfl))
  f320 := Tryz.func101.trans (congrArg some (by kernel_rfl))
  f337 := Tryz.func104.trans (congrArg some (by kernel_rfl))
  f338 := Tryz.func105.trans (congrArg some (by kernel_rfl))
  t0 := Tryz.underlying0
  a0 := Tryz.isAgg0
  z0 := Tryz.sizeOf0
  v0 := Tryz.zeroValue0
  t2 := Tryz.underlying2
  a2 := Tryz.isAgg2
  z2 := Tryz.sizeOf2
  v2 := Tryz.zeroValue2
  t3 := Tryz.underlying3
  a3 := Tryz.isAgg3
  z3 := Tryz.sizeOf3
  v3 := Tryz.zeroValue3
  t4 := Tryz.underlying4
  a4 := Tryz.isAgg4
  z4 := Tryz.sizeOf4
  v4 := Tryz.zeroValue4
  t5 := Tryz.underlying5
  a5 := Tryz.isAgg5
  z5 := Tryz.sizeOf5
  v5 := Tryz.zeroValue5
  t9 := Tryz.underlying9
  a9 := Tryz.isAgg9
  z9 := Tryz.sizeOf9
  v9 := Tryz.zeroValue9
  t20 := Tryz.underlying20
  a20 := Tryz.isAgg20
  z20 := Tryz.sizeOf20
  v20 := Tryz.zeroValue20
  t37 := Tryz.underlying77
  a37 := Tryz.isAgg77
  z37 := Tryz.sizeOf77
  v37 := Tryz.zeroValue77
  t46 := Tryz.underlying72
  a46 := Tryz.isAgg72
  z46 := Tryz.sizeOf72
  v46 := Tryz.zeroValue72
  t51 := Tryz.underlying91
  a51 := Tryz.isAgg91
  z51 := Tryz.sizeOf91
  v51 := Tryz.zeroValue91
  t53 := Tryz.underlying94
  a53 := Tryz.isAgg94
  z53 := Tryz.sizeOf94
  v53 := Tryz.zeroValue94
  t171 := Tryz.underlying115
  a171 := Tryz.isAgg115
  z171 := Tryz.sizeOf115
  v171 := Tryz.zeroValue115
  t173 := Tryz.underlying118
  a173 := Tryz.isAgg118
  z173 := Tryz.sizeOf118
  v173 := Tryz.zeroValue118
  t212 := Tryz.underlying132
  a212 := Tryz.isAgg132
  z212 := Tryz.sizeOf132
  v212 := Tryz.zeroValue132
  t213 := Tryz.underlying133
  a213 := Tryz.isAgg133
  z213 := Tryz.sizeOf133
  t232 := Tryz.underlying140
  a232 := Tryz.isAgg140
  z232 := Tryz.sizeOf140
  v232 := Tryz.zeroValue140
  t233 := Tryz.underlying141
  a233 := Tryz.isAgg141
  z233 := Tryz.sizeOf141
  v233 := Tryz.zeroValue141
  g17 := by kernel_rfl
  g18 := by kernel_rfl
  g19 := by kernel_rfl
  i0 := by kernel_rfl
  i2 := by kernel_rfl
  i3 := by kernel_rfl
  i4 := by kernel_rfl
  i5 := by kernel_rfl
  i9 := by kernel_rfl
  i20 := by kernel_rfl
  i37 := by kernel_rfl
  i46 := by kernel_rfl
  i51 := by kernel_rfl
  i53 := by kernel_rfl
  i171 := by kernel_rfl
  i173 := by kernel_rfl
  i212 := by kernel_rfl
  i232 := by kernel_rfl
  i233 := by kernel_rfl
  m17 := by kernel_rfl
  m18 := by kernel_rfl
  m19 := by kernel_rfl }
open Go.Shelf in
def splitM_ren : Go.Shelf.Ren := ⟨fun | 146 => 32 | 221 => 44 | 268 => 56 | 138 => 57 | 143 => 58 | 195 => 68 | 197 => 69 | 218 => 70 | 219 => 71 | 260 => 78 | 217 => 79 | 225 => 80 | 224 => 81 | 267 => 82 | 266 => 92 | 314 => 93 | n => n, fun | 9 => 9 | 31 => 32 | 3 => 3 | 4 => 4 | 0 => 0 | 105 => 99 | 21 => 21 | 5 => 5 | 46 => 72 | 119 => 120 | 139 => 123 | 138 => 122 | 146 => 92 | 51 => 91 | n => n, fun | 1 => 0 | 3 => 1 | 4 => 2 | n => n⟩
open Go.Shelf in
theorem splitM : Go.Proofs.LaysM.n146 Tryz.prog splitM_ren := {
  mixed := by kernel_rfl
  f138 := Tryz.func57.trans (congrArg some (by kernel_rfl))
  f143 := Tryz.func58.trans (congrArg some (by kernel_rfl))
  f146 := Tryz.func32.trans (congrArg some (by kernel_rfl))
  f195 := Tryz.func68.trans (congrArg some (by kernel_rfl))
  f197 := Tryz.func69.trans (congrArg some (by kernel_rfl))
  f217 := Tryz.func79.trans (congrArg some (by kernel_rfl))
  f218 := Tryz.func70.trans (congrArg some (by kernel_rfl))
  f219 := Tryz.func71.trans (congrArg some (by kernel_rfl))
  f221 := Tryz.func44.trans (congrArg some (by kernel_rfl))
  f224 := Tryz.func81.trans (congrArg some (by kernel_rfl))
  f225 := Tryz.func80.trans (congrArg some (by kernel_rfl))
  f260 := Tryz.func78.trans (congrArg some (by kernel_rfl))
  f266 := Tryz.func92.trans (congrArg some (by kernel_rfl))
  f267 := Tryz.func82.trans (congrArg some (by kernel_rfl))
  f268 := Tryz.func56.trans (congrArg some (by kernel_rfl))
  f314 := Tryz.func93.trans (congrArg some (by kernel_rfl))
  t0 := Tryz.underlying0
  a0 := Tryz.isAgg0
  z0 := Tryz.sizeOf0
  v0 := Tryz.zeroValue0
  t3 := Tryz.underlying3
  a3 := Tryz.isAgg3
  z3 := Tryz.sizeOf3
  v3 := Tryz.zeroValue3
  t4 := Tryz.underlying4
  a4 := Tryz.isAgg4
  z4 := Tryz.sizeOf4
  v4 := Tryz.zeroValue4
  t5 := Tryz.underlying5
  a5 := Tryz.isAgg5
  z5 := Tryz.sizeOf5
  v5 := Tryz.zeroValue5
  t9 := Tryz.underlying9
  a9 := Tryz.isAgg9
  z9 := Tryz.sizeOf9
  v9 := Tryz.zeroValue9
  t21 := Tryz.underlying21
  a21 := Tryz.isAgg21
  z21 := Tryz.sizeOf21
  v21 := Tryz.zeroValue21
  t31 := Tryz.underlying32
  a31 := Tryz.isAgg32
  z31 := Tryz.sizeOf32
  v31 := Tryz.zeroValue32
  t46 := Tryz.underlying72
  a46 := Tryz.isAgg72
  z46 := Tryz.sizeOf72
  v46 := Tryz.zeroValue72
  t51 := Tryz.underlying91
  a51 := Tryz.isAgg91
  z51 := Tryz.sizeOf91
  v51 := Tryz.zeroValue91
  t105 := Tryz.underlying99
  a105 := Tryz.isAgg99
  z105 := Tryz.sizeOf99
  v105 := Tryz.zeroValue99
  t119 := Tryz.underlying120
  a119 := Tryz.isAgg120
  z119 := Tryz.sizeOf120
  t138 := Tryz.underlying122
  a138 := Tryz.isAgg122
  z138 := Tryz.sizeOf122
  v138 := Tryz.zeroValue122
  t139 := Tryz.underlying123
  a139 := Tryz.isAgg123
  z139 := Tryz.sizeOf123
  v139 := Tryz.zeroValue123
  t146 := Tryz.underlying92
  a146 := Tryz.isAgg92
  z146 := Tryz.sizeOf92
  v146 := Tryz.zeroValue92
  g1 := by kernel_rfl
  g3 := by kernel_rfl
  g4 := by kernel_rfl
  i0 := by kernel_rfl
  i3 := by kernel_rfl
  i4 := by kernel_rfl
  i5 := by kernel_rfl
  i9 := by kernel_rfl
  i21 := by kernel_rfl
  i31 := by kernel_rfl
  i46 := by kernel_rfl
  i51 := by kernel_rfl
  i105 := by kernel_rfl
  i138 := by kernel_rfl
  i139 := by kernel_rfl
  i146 := by kernel_rfl
  m1 := by kernel_rfl
  s1_3 := fun w h => Go.Proofs.cell_of_shapedOpen_int (zero := #[.int .i64 0]) (t := 3) h (of_decide_eq_true (by kernel_rfl)) (by kernel_rfl) rfl (by kernel_rfl) (by kernel_rfl) Tryz.underlying3
  m3 := by kernel_rfl
  m4 := by kernel_rfl }
open Go.Shelf in
def atoiL_ren : Go.Shelf.Ren := ⟨fun | 172 => 60 | 244 => 72 | 245 => 73 | 247 => 83 | 279 => 84 | 280 => 85 | 281 => 86 | 282 => 87 | 287 => 94 | 316 => 95 | 171 => 51 | 205 => 96 | 321 => 102 | 322 => 103 | 243 => 65 | 246 => 75 | 283 => 88 | 284 => 89 | 285 => 90 | 286 => 91 | 129 => 98 | 317 => 97 | 318 => 99 | 319 => 100 | 320 => 101 | 337 => 104 | 338 => 105 | n => n, fun | 9 => 9 | 3 => 3 | 75 => 82 | 76 => 83 | 4 => 4 | 5 => 5 | 167 => 109 | 37 => 77 | 0 => 0 | 85 => 110 | 2 => 2 | 168 => 112 | 53 => 94 | 175 => 125 | 46 => 72 | 210 => 129 | 127 => 98 | 145 => 138 | 143 => 136 | 21 => 21 | 171 => 115 | 173 => 118 | 212 => 132 | 51 => 91 | 20 => 20 | 213 => 133 | 232 => 140 | 233 => 141 | 80 => 85 | n => n, fun | 15 => 3 | 16 => 4 | 17 => 5 | 18 => 6 | 19 => 7 | n => n⟩
open Go.Shelf in
theorem atoiL : Go.Proofs.Lays.n172 Tryz.prog atoiL_ren := {
  mixed := by kernel_rfl
  f129 := Tryz.func98.trans (congrArg some (by kernel_rfl))
  f171 := Tryz.func51.trans (congrArg some (by kernel_rfl))
  f172 := Tryz.func60.trans (congrArg some (by kernel_rfl))
  f205 := Tryz.func96.trans (congrArg some (by kernel_rfl))
  f243 := Tryz.func65.trans (congrArg some (by kernel_rfl))
  f244 := Tryz.func72.trans (congrArg some (by kernel_rfl))
  f245 := Tryz.func73.trans (congrArg some (by kernel_rfl))
  f246 := Tryz.func75.trans (congrArg some (by kernel_rfl))
  f247 := Tryz.func83.trans (congrArg some (by kernel_rfl))
  f279 := Tryz.func84.trans (congrArg some (by kernel_rfl))
  f280 := Tryz.func85.trans (congrArg some (by kernel_rfl))
  f281 := Tryz.func86.trans (congrArg some (by kernel_rfl))
  f282 := Tryz.func87.trans (congrArg some (by kernel_rfl))
  f283 := Tryz.func88.trans (congrArg some (by kernel_rfl))
  f284 := Tryz.func89.trans (congrArg some (by kernel_rfl))
  f285 := Tryz.func90.trans (congrArg some (by kernel_rfl))
  f286 := Tryz.func91.trans (congrArg some (by kernel_rfl))
  f287 := Tryz.func94.trans (congrArg some (by kernel_rfl))
  f316 := Tryz.func95.trans (congrArg some (by kernel_rfl))
  f317 := Tryz.func97.trans (congrArg some (by kernel_rfl))
  f318 := Tryz.func99.trans (congrArg some (by kernel_rfl))
  f319 := Tryz.func100.trans (congrArg some (by kernel_rfl))
  f320 := Tryz.func101.trans (congrArg some (by kernel_rfl))
  f321 := Tryz.func102.trans (congrArg some (by kernel_rfl))
  f322 := Tryz.func103.trans (congrArg some (by kernel_rfl))
  f337 := Tryz.func104.trans (congrArg some (by kernel_rfl))
  f338 := Tryz.func105.trans (congrArg some (by kernel_rfl))
  t0 := Tryz.underlying0
  a0 := Tryz.isAgg0
  z0 := Tryz.sizeOf0
  v0 := Tryz.zeroValue0
  t2 := Tryz.underlying2
  a2 := Tryz.isAgg2
  z2 := Tryz.sizeOf2
  v2 := Tryz.zeroValue2
  t3 := Tryz.underlying3
  a3 := Tryz.isAgg3
  z3 := Tryz.sizeOf3
  v3 := Tryz.zeroValue3
  t4 := Tryz.underlying4
  a4 := Tryz.isAgg4
  z4 := Tryz.sizeOf4
  v4 := Tryz.zeroValue4
  t5 := Tryz.underlying5
  a5 := Tryz.isAgg5
  z5 := Tryz.sizeOf5
  v5 := Tryz.zeroValue5
  t9 := Tryz.underlying9
  a9 := Tryz.isAgg9
  z9 := Tryz.sizeOf9
  v9 := Tryz.zeroValue9
  t20 := Tryz.underlying20
  a20 := Tryz.isAgg20
  z20 := Tryz.sizeOf20
  v20 := Tryz.zeroValue20
  t21 := Tryz.underlying21
  a21 := Tryz.isAgg21
  z21 := Tryz.sizeOf21
  v21 := Tryz.zeroValue21
  t37 := Tryz.underlying77
  a37 := Tryz.isAgg77
  z37 := Tryz.sizeOf77
  v37 := Tryz.zeroValue77
  t46 := Tryz.underlying72
  a46 := Tryz.isAgg72
  z46 := Tryz.sizeOf72
  v46 := Tryz.zeroValue72
  t51 := Tryz.underlying91
  a51 := Tryz.isAgg91
  z51 := Tryz.sizeOf91
  v51 := Tryz.zeroValue91
  t53 := Tryz.underlying94
  a53 := Tryz.isAgg94
  z53 := Tryz.sizeOf94
  v53 := Tryz.zeroValue94
  t75 := Tryz.underlying82
  a75 := Tryz.isAgg82
  z75 := Tryz.sizeOf82
  v75 := Tryz.zeroValue82
  t76 := Tryz.underlying83
  a76 := Tryz.isAgg83
  z76 := Tryz.sizeOf83
  v76 := Tryz.zeroValue83
  t85 := Tryz.underlying110
  a85 := Tryz.isAgg110
  z85 := Tryz.sizeOf110
  v85 := Tryz.zeroValue110
  t127 := Tryz.underlying98
  a127 := Tryz.isAgg98
  z127 := Tryz.sizeOf98
  v127 := Tryz.zeroValue98
  t143 := Tryz.underlying136
  a143 := Tryz.isAgg136
  z143 := Tryz.sizeOf136
  v143 := Tryz.zeroValue136
  t145 := Tryz.underlying138
  a145 := Tryz.isAgg138
  z145 := Tryz.sizeOf138
  v145 := Tryz.zeroValue138
  t167 := Tryz.underlying109
  a167 := Tryz.isAgg109
  z167 := Tryz.sizeOf109
  v167 := Tryz.zeroValue109
  t168 := Tryz.underlying112
  a168 := Tryz.isAgg112
  z168 := Tryz.sizeOf112
  v168 := Tryz.zeroValue112
  t171 := Tryz.underlying115
  a171 := Tryz.isAgg115
  z171 := Tryz.sizeOf115
  v171 := Tryz.zeroValue115
  t173 := Tryz.underlying118
  a173 := Tryz.isAgg118
  z173 := Tryz.sizeOf118
  v173 := Tryz.zeroValue118
  t175 := Tryz.underlying125
  a175 := Tryz.isAgg125
  z175 := Tryz.sizeOf125
  v175 := Tryz.zeroValue125
  t210 := Tryz.underlying129
  a210 := Tryz.isAgg129
  z210 := Tryz.sizeOf129
  v210 := Tryz.zeroValue129
  t212 := Tryz.underlying132
  a212 := Tryz.isAgg132
  z212 := Tryz.sizeOf132
  v212 := Tryz.zeroValue132
  t213 := Tryz.underlying133
  a213 := Tryz.isAgg133
  z213 := Tryz.sizeOf133
  t232 := Tryz.underlying140
  a232 := Tryz.isAgg140
  z232 := Tryz.sizeOf140
  v232 := Tryz.zeroValue140
  t233 := Tryz.underlying141
  a233 := Tryz.isAgg141
  z233 := Tryz.sizeOf141
  v233 := Tryz.zeroValue141
  g15 := by kernel_rfl
  g16 := by kernel_rfl
  g17 := by kernel_rfl
  g18 := by kernel_rfl
  g19 := by kernel_rfl }
open Go.Shelf in
def atoiC_ren : Go.Shelf.Ren := ⟨fun | 172 => 60 | 244 => 72 | 245 => 73 | 247 => 83 | 279 => 84 | 280 => 85 | 281 => 86 | 282 => 87 | 287 => 94 | 316 => 95 | 171 => 51 | 205 => 96 | 321 => 102 | 322 => 103 | 243 => 65 | 246 => 75 | 283 => 88 | 284 => 89 | 285 => 90 | 286 => 91 | 129 => 98 | 317 => 97 | 318 => 99 | 319 => 100 | 320 => 101 | 337 => 104 | 338 => 105 | n => n, fun | 9 => 9 | 3 => 3 | 75 => 82 | 76 => 83 | 4 => 4 | 5 => 5 | 167 => 109 | 37 => 77 | 0 => 0 | 85 => 110 | 2 => 2 | 168 => 112 | 53 => 94 | 175 => 125 | 46 => 72 | 210 => 129 | 127 => 98 | 145 => 138 | 143 => 136 | 21 => 21 | 171 => 115 | 173 => 118 | 212 => 132 | 51 => 91 | 20 => 20 | 213 => 133 | 232 => 140 | 233 => 141 | 80 => 85 | n => n, fun | 15 => 3 | 16 => 4 | 17 => 5 | 18 => 6 | 19 => 7 | n => n⟩
open Go.Shelf in
theorem atoiC : Go.Proofs.LaysC.n172 Tryz.prog atoiC_ren := {
  mixed := by kernel_rfl
  f129 := Tryz.func98.trans (congrArg some (by kernel_rfl))
  f171 := Tryz.func51.trans (congrArg some (by kernel_rfl))
  f172 := Tryz.func60.trans (congrArg some (by kernel_rfl))
  f205 := Tryz.func96.trans (congrArg some (by kernel_rfl))
  f243 := Tryz.func65.trans (congrArg some (by kernel_rfl))
  f244 := Tryz.func72.trans (congrArg some (by kernel_rfl))
  f245 := Tryz.func73.trans (congrArg some (by kernel_rfl))
  f246 := Tryz.func75.trans (congrArg some (by kernel_rfl))
  f247 := Tryz.func83.trans (congrArg some (by kernel_rfl))
  f279 := Tryz.func84.trans (congrArg some (by kernel_rfl))
  f280 := Tryz.func85.trans (congrArg some (by kernel_rfl))
  f281 := Tryz.func86.trans (congrArg some (by kernel_rfl))
  f282 := Tryz.func87.trans (congrArg some (by kernel_rfl))
  f283 := Tryz.func88.trans (congrArg some (by kernel_rfl))
  f284 := Tryz.func89.trans (congrArg some (by kernel_rfl))
  f285 := Tryz.func90.trans (congrArg some (by kernel_rfl))
  f286 := Tryz.func91.trans (congrArg some (by kernel_rfl))
  f287 := Tryz.func94.trans (congrArg some (by kernel_rfl))
  f316 := Tryz.func95.trans (congrArg some (by kernel_rfl))
  f317 := Tryz.func97.trans (congrArg some (by kernel_rfl))
  f318 := Tryz.func99.trans (congrArg some (by kernel_rfl))
  f319 := Tryz.func100.trans (congrArg some (by kernel_rfl))
  f320 := Tryz.func101.trans (congrArg some (by kernel_rfl))
  f321 := Tryz.func102.trans (congrArg some (by kernel_rfl))
  f322 := Tryz.func103.trans (congrArg some (by kernel_rfl))
  f337 := Tryz.func104.trans (congrArg some (by kernel_rfl))
  f338 := Tryz.func105.trans (congrArg some (by kernel_rfl))
  t0 := Tryz.underlying0
  a0 := Tryz.isAgg0
  z0 := Tryz.sizeOf0
  v0 := Tryz.zeroValue0
  t2 := Tryz.underlying2
  a2 := Tryz.isAgg2
  z2 := Tryz.sizeOf2
  v2 := Tryz.zeroValue2
  t3 := Tryz.underlying3
  a3 := Tryz.isAgg3
  z3 := Tryz.sizeOf3
  v3 := Tryz.zeroValue3
  t4 := Tryz.underlying4
  a4 := Tryz.isAgg4
  z4 := Tryz.sizeOf4
  v4 := Tryz.zeroValue4
  t5 := Tryz.underlying5
  a5 := Tryz.isAgg5
  z5 := Tryz.sizeOf5
  v5 := Tryz.zeroValue5
  t9 := Tryz.underlying9
  a9 := Tryz.isAgg9
  z9 := Tryz.sizeOf9
  v9 := Tryz.zeroValue9
  t20 := Tryz.underlying20
  a20 := Tryz.isAgg20
  z20 := Tryz.sizeOf20
  v20 := Tryz.zeroValue20
  t21 := Tryz.underlying21
  a21 := Tryz.isAgg21
  z21 := Tryz.sizeOf21
  v21 := Tryz.zeroValue21
  t37 := Tryz.underlying77
  a37 := Tryz.isAgg77
  z37 := Tryz.sizeOf77
  v37 := Tryz.zeroValue77
  t46 := Tryz.underlying72
  a46 := Tryz.isAgg72
  z46 := Tryz.sizeOf72
  v46 := Tryz.zeroValue72
  t51 := Tryz.underlying91
  a51 := Tryz.isAgg91
  z51 := Tryz.sizeOf91
  v51 := Tryz.zeroValue91
  t53 := Tryz.underlying94
  a53 := Tryz.isAgg94
  z53 := Tryz.sizeOf94
  v53 := Tryz.zeroValue94
  t75 := Tryz.underlying82
  a75 := Tryz.isAgg82
  z75 := Tryz.sizeOf82
  v75 := Tryz.zeroValue82
  t76 := Tryz.underlying83
  a76 := Tryz.isAgg83
  z76 := Tryz.sizeOf83
  v76 := Tryz.zeroValue83
  t85 := Tryz.underlying110
  a85 := Tryz.isAgg110
  z85 := Tryz.sizeOf110
  v85 := Tryz.zeroValue110
  t127 := Tryz.underlying98
  a127 := Tryz.isAgg98
  z127 := Tryz.sizeOf98
  v127 := Tryz.zeroValue98
  t143 := Tryz.underlying136
  a143 := Tryz.isAgg136
  z143 := Tryz.sizeOf136
  v143 := Tryz.zeroValue136
  t145 := Tryz.underlying138
  a145 := Tryz.isAgg138
  z145 := Tryz.sizeOf138
  v145 := Tryz.zeroValue138
  t167 := Tryz.underlying109
  a167 := Tryz.isAgg109
  z167 := Tryz.sizeOf109
  v167 := Tryz.zeroValue109
  t168 := Tryz.underlying112
  a168 := Tryz.isAgg112
  z168 := Tryz.sizeOf112
  v168 := Tryz.zeroValue112
  t171 := Tryz.underlying115
  a171 := Tryz.isAgg115
  z171 := Tryz.sizeOf115
  v171 := Tryz.zeroValue115
  t173 := Tryz.underlying118
  a173 := Tryz.isAgg118
  z173 := Tryz.sizeOf118
  v173 := Tryz.zeroValue118
  t175 := Tryz.underlying125
  a175 := Tryz.isAgg125
  z175 := Tryz.sizeOf125
  v175 := Tryz.zeroValue125
  t210 := Tryz.underlying129
  a210 := Tryz.isAgg129
  z210 := Tryz.sizeOf129
  v210 := Tryz.zeroValue129
  t212 := Tryz.underlying132
  a212 := Tryz.isAgg132
  z212 := Tryz.sizeOf132
  v212 := Tryz.zeroValue132
  t213 := Tryz.underlying133
  a213 := Tryz.isAgg133
  z213 := Tryz.sizeOf133
  t232 := Tryz.underlying140
  a232 := Tryz.isAgg140
  z232 := Tryz.sizeOf140
  v232 := Tryz.zeroValue140
  t233 := Tryz.underlying141
  a233 := Tryz.isAgg141
  z233 := Tryz.sizeOf141
  v233 := Tryz.zeroValue141
  g15 := by kernel_rfl
  g16 := by kernel_rfl
  g17 := by kernel_rfl
  g18 := by kernel_rfl
  g19 := by kernel_rfl
  t80 := Tryz.underlying85
  a80 := Tryz.isAgg85
  z80 := Tryz.sizeOf85
  v80 := Tryz.zeroValue85
  i0 := by kernel_rfl
  i2 := by kernel_rfl
  i3 := by kernel_rfl
  i4 := by kernel_rfl
  i5 := by kernel_rfl
  i9 := by kernel_rfl
  i20 := by kernel_rfl
  i21 := by kernel_rfl
  i37 := by kernel_rfl
  i46 := by kernel_rfl
  i51 := by kernel_rfl
  i53 := by kernel_rfl
  i75 := by kernel_rfl
  i76 := by kernel_rfl
  i80 := by kernel_rfl
  i85 := by kernel_rfl
  i127 := by kernel_rfl
  i143 := by kernel_rfl
  i145 := by kernel_rfl
  i167 := by kernel_rfl
  i168 := by kernel_rfl
  i171 := by kernel_rfl
  i173 := by kernel_rfl
  i175 := by kernel_rfl
  i210 := by kernel_rfl
  i212 := by kernel_rfl
  i232 := by kernel_rfl
  i233 := by kernel_rfl
  m15 := by kernel_rfl
  m16 := by kernel_rfl
  m17 := by kernel_rfl
  m18 := by kernel_rfl
  m19 := by kernel_rfl
  c0 := by kernel_rfl
  c2 := by kernel_rfl
  c3 := by kernel_rfl
  c4 := by kernel_rfl
  c5 := by kernel_rfl
  c9 := by kernel_rfl
  c20 := by kernel_rfl
  c21 := by kernel_rfl
  c37 := by kernel_rfl
  c46 := by kernel_rfl
  c51 := by kernel_rfl
  c53 := by kernel_rfl
  c75 := by kernel_rfl
  c76 := by kernel_rfl
  c80 := by kernel_rfl
  c85 := by kernel_rfl
  c127 := by kernel_rfl
  c143 := by kernel_rfl
  c145 := by kernel_rfl
  c167 := by kernel_rfl
  c168 := by kernel_rfl
  c171 := by kernel_rfl
  c173 := by kernel_rfl
  c175 := by kernel_rfl
  c210 := by kernel_rfl
  c212 := by kernel_rfl
  c213 := by kernel_rfl
  c232 := by kernel_rfl
  c233 := by kernel_rfl }
open Go.Shelf in
def indexL_ren : Go.Shelf.Ren := ⟨fun | 109 => 45 | n => n, fun | 31 => 32 | 9 => 9 | 3 => 3 | 0 => 0 | 4 => 4 | n => n, fun | n => n⟩
open Go.Shelf in
theorem indexL : Go.Proofs.Lays.n109 Tryz.prog indexL_ren := {
  mixed := by kernel_rfl
  f109 := Tryz.func45.trans (congrArg some (by kernel_rfl))
  t0 := Tryz.underlying0
  a0 := Tryz.isAgg0
  z0 := Tryz.sizeOf0
  v0 := Tryz.zeroValue0
  t3 := Tryz.underlying3
  a3 := Tryz.isAgg3
  z3 := Tryz.sizeOf3
  v3 := Tryz.zeroValue3
  t4 := Tryz.underlying4
  a4 := Tryz.isAgg4
  z4 := Tryz.sizeOf4
  v4 := Tryz.zeroValue4
  t9 := Tryz.underlying9
  a9 := Tryz.isAgg9
  z9 := Tryz.sizeOf9
  v9 := Tryz.zeroValue9
  t31 := Tryz.underlying32
  a31 := Tryz.isAgg32
  z31 := Tryz.sizeOf32
  v31 := Tryz.zeroValue32 }
open Go.Shelf in
def cloneL_ren : Go.Shelf.Ren := ⟨fun | 15 => 34 | n => n, fun | 22 => 24 | 3 => 3 | 4 => 4 | n => n, fun | n => n⟩
open Go.Shelf in
theorem cloneL : Go.Proofs.Lays2.n15 Tryz.prog cloneL_ren := {
  mixed := by kernel_rfl
  f15 := Tryz.func34.trans (congrArg some (by kernel_rfl))
  t3 := Tryz.underlying3
  a3 := Tryz.isAgg3
  z3 := Tryz.sizeOf3
  v3 := Tryz.zeroValue3
  t4 := Tryz.underlying4
  a4 := Tryz.isAgg4
  z4 := Tryz.sizeOf4
  v4 := Tryz.zeroValue4
  t22 := Tryz.underlying24
  a22 := Tryz.isAgg24
  z22 := Tryz.sizeOf24
  v22 := Tryz.zeroValue24
  i3 := by kernel_rfl }
open Go.Shelf in
def growL_ren : Go.Shelf.Ren := ⟨fun | 4 => 59 | n => n, fun | 22 => 32 | 25 => 9 | 3 => 3 | 4 => 4 | 9 => 9 | 20 => 20 | 0 => 0 | n => n, fun | n => n⟩
open Go.Shelf in
theorem growL : Go.Proofs.Lays8.n4 Tryz.prog growL_ren := {
  mixed := by kernel_rfl
  f4 := ⟨Tryz.f59.name, by decide, Tryz.func59.trans (congrArg some (by kernel_rfl))⟩
  t0 := Tryz.underlying0
  a0 := Tryz.isAgg0
  z0 := Tryz.sizeOf0
  v0 := Tryz.zeroValue0
  t3 := Tryz.underlying3
  a3 := Tryz.isAgg3
  z3 := Tryz.sizeOf3
  v3 := Tryz.zeroValue3
  t4 := Tryz.underlying4
  a4 := Tryz.isAgg4
  z4 := Tryz.sizeOf4
  v4 := Tryz.zeroValue4
  t9 := Tryz.underlying9
  a9 := Tryz.isAgg9
  z9 := Tryz.sizeOf9
  v9 := Tryz.zeroValue9
  t20 := Tryz.underlying20
  a20 := Tryz.isAgg20
  z20 := Tryz.sizeOf20
  v20 := Tryz.zeroValue20
  t22 := Tryz.underlying32
  a22 := Tryz.isAgg32
  z22 := Tryz.sizeOf32
  v22 := Tryz.zeroValue32 }
open Go.Shelf in
def cutL_ren : Go.Shelf.Ren := ⟨fun | 104 => 31 | 211 => 43 | 207 => 55 | n => n, fun | 9 => 9 | 4 => 4 | 24 => 47 | 3 => 3 | n => n, fun | n => n⟩
open Go.Shelf in
theorem cutL : Go.Proofs.Lays.n104 Tryz.prog cutL_ren := {
  mixed := by kernel_rfl
  f104 := Tryz.func31.trans (congrArg some (by kernel_rfl))
  f207 := Tryz.func55.trans (congrArg some (by kernel_rfl))
  f211 := Tryz.func43.trans (congrArg some (by kernel_rfl))
  t3 := Tryz.underlying3
  a3 := Tryz.isAgg3
  z3 := Tryz.sizeOf3
  v3 := Tryz.zeroValue3
  t4 := Tryz.underlying4
  a4 := Tryz.isAgg4
  z4 := Tryz.sizeOf4
  v4 := Tryz.zeroValue4
  t9 := Tryz.underlying9
  a9 := Tryz.isAgg9
  z9 := Tryz.sizeOf9
  v9 := Tryz.zeroValue9
  t24 := Tryz.underlying47
  a24 := Tryz.isAgg47
  z24 := Tryz.sizeOf47
  v24 := Tryz.zeroValue47 }
/-- What the library's package variables hold, in blocks below B. -/
def LibG (w : World) : Prop := (∃ m, w.cell? ⟨splitM_ren.g 1, 0, none⟩ = some (.int .i64 m)) ∧ (∃ ev, w.cell? ⟨atoiC_ren.g 15, 0, none⟩ = some ev ∧ (ev = .nilIface ∨ ∃ te pe, ev = .iface te pe)) ∧ Lib.TabIs Tryz.prog w "internal/strconv.uint64pow10" .u64 Lib.pow10Tab
def LibB (B : Nat) (w : World) : Prop := B ≤ w.heap.size ∧ ∀ w', Keep (fun k => k < B) w w' → LibG w'
section
variable {B : Nat} {w w' : World}
theorem LibG.b (h : LibG w) : LibB w.heap.size w := ⟨Nat.le_refl _, fun w' k => by
  obtain ⟨⟨m, h1⟩, ⟨ev, h2, h3⟩, h4⟩ := h
  exact ⟨⟨m, Ext.cell k h1⟩, ⟨ev, Ext.cell k h2, h3⟩, Lib.tabBelow_of_tabIs h4 w' k.below⟩⟩
theorem LibB.g (h : LibB B w) : LibG w := h.2 w (Keep.refl _ _)
theorem LibB.keep {F : Nat → Prop} (h : LibB B w) (k : Keep F w w') (hF : ∀ b, b < B → F b) : LibB B w' := ⟨Nat.le_trans h.1 k.size, fun w2 k2 => h.2 w2 (Keep.trans (k.mono hF) k2)⟩
theorem LibB.ext (h : LibB B w) (k : Ext w w') : LibB B w' := h.keep k fun _ hb => Nat.lt_of_lt_of_le hb h.1
theorem LibB.sto {b : Nat} {T : TypeId} {ds : List Value} (h : LibB B w) (k : Sto w w' b T ds) (hb : B ≤ b) : LibB B w' := h.keep k.keep fun q hq => by show q ≠ b; omega
theorem LibB.app {a : Option Addr} {lo' sz' n' c' : Nat} {E : TypeId} {ds : List Value} (h : LibB B w) (k : Apd w w' a) (o : Own lo' w E sz' a n' c' ds) (hb : B ≤ lo') : LibB B w' :=
  h.keep k fun q hq => ⟨Nat.lt_of_lt_of_le hq h.1, fun p hp => by have := (o.block p hp).1; omega⟩
theorem LibB.lo {X : Nat} (h : LibB B w) (k : Lo X w w') (hb : B ≤ X) : LibB B w' := h.keep k.2 fun q hq => Nat.lt_of_lt_of_le hq hb
theorem LibB.rg {lo hi p q : Nat} (h : LibB B w) (k : Rg lo hi p q w w') (hb : B ≤ lo) : LibB B w' := h.keep k fun b hq => ⟨Nat.lt_of_lt_of_le hq h.1, by omega⟩
theorem LibB.mono {B' : Nat} (h : LibB B w) (hb : B ≤ B') (hs : B' ≤ w.heap.size) : LibB B' w := ⟨hs, fun w2 k2 => h.2 w2 (k2.mono fun _ hq => Nat.lt_of_lt_of_le hq hb)⟩
end
/-- Strings that can be read. -/
def WS (lo hi : Nat) (w : World) (a : Option Addr) (c : Nat) (ls : List (List UInt8)) : Prop := Arr lo hi w 1 a c (ls.map fun l => [vS l])
section
variable {lo hi c i : Nat} {w w' : World} {a : Option Addr} {ls : List (List UInt8)}
theorem WS.isSome (h : WS lo hi w a c ls) (hn : 0 < ls.length) : a = some ⟨blkOf a, offOf a, none⟩ := Arr.isSome h (by decide) (by simpa using hn)
theorem WS.cell (h : WS lo hi w a c ls) (hi' : i < ls.length) : w.cell? ⟨blkOf a, offOf a + i * 1, none⟩ = some (.string (bs ls[i])) :=
  Arr.cell h (i := i) (j := 0) (r := [vS ls[i]]) (by simp [hi']) rfl
theorem WS.cap (h : WS lo hi w a c ls) : ls.length ≤ c := by have := Arr.cap h; simpa using this
theorem ws_flat (ls : List (List UInt8)) : (ls.map fun l => [vS l]).flatten = ls.map vS := by
  induction ls with
  | nil => rfl
  | cons x r ih => simp [ih]
theorem WS.sat (h : WS lo hi w a c ls) : SAt lo hi w a (ls.map vS) := by have := Arr.sat h; rwa [ws_flat] at this
theorem WS.mk' (hc : ls.length ≤ c) (h : SAt lo hi w a (ls.map vS)) : WS lo hi w a c ls := ⟨by simpa using hc, fun r hr => by obtain ⟨q, _, rfl⟩ := List.mem_map.1 hr; rfl, by rw [ws_flat]; exact h⟩
theorem WS.ext (h : WS lo hi w a c ls) (k : Ext w w') : WS lo hi w' a c ls := Arr.ext h k
theorem WS.keep {F : Nat → Prop} (h : WS lo hi w a c ls) (k : Keep F w w') (hF : ∀ b, lo ≤ b → b < hi → F b) : WS lo hi w' a c ls := Arr.keep h k hF
theorem WS.sto {b : Nat} {T : TypeId} {ds : List Value} (h : WS lo hi w a c ls) (k : Sto w w' b T ds) (hb : b < lo ∨ hi ≤ b) : WS lo hi w' a c ls := Arr.sto h k hb
theorem WS.app {a' : Option Addr} {lo' sz' n' c' : Nat} {E : TypeId} {ds : List Value} (h : WS lo hi w a c ls) (k : Apd w w' a') (o : Own lo' w E sz' a' n' c' ds) (hb : hi ≤ lo') : WS lo hi w' a c ls := Arr.app h k o hb
theorem WS.kx {b : Nat} (h : WS lo hi w a c ls) (k : KX b w w') (hb : b < lo ∨ hi ≤ b) : WS lo hi w' a c ls := Arr.kx h k hb
theorem WS.mono {lo' hi' : Nat} (h : WS lo hi w a c ls) (h1 : lo' ≤ lo) (h2 : hi ≤ hi') : WS lo' hi' w a c ls := Arr.mono h h1 h2
theorem WS.rg {l r p q : Nat} (h : WS lo hi w a c ls) (k : Rg l r p q w w') (hb : hi ≤ l ∧ hi ≤ w.heap.size) : WS lo hi w' a c ls := h.keep k fun b _ hb' => ⟨by omega, by omega⟩
/-- s[k:]. -/
theorem WS.drop (h : WS lo hi w a c ls) (k : Nat) (hk : k ≤ ls.length) : WS lo hi w (if c = k then a else a.map (·.add (k * 1))) (c - k) (ls.drop k) := by
  have hc := h.cap
  refine WS.mk' (by rw [List.length_drop]; omega) ?_
  rw [List.map_drop, Nat.mul_one]
  exact h.sat.drop c k fun e => by rw [List.length_map]; omega
theorem SAt.pre {lo hi : Nat} {w : World} {a : Option Addr} {xs ys : List Value} (h : SAt lo hi w a (xs ++ ys)) : SAt lo hi w a xs := by
  rcases h with h | ⟨b, off, ha, h1, h2, hc⟩
  · exact .inl (List.append_eq_nil_iff.1 h).1
  · exact .inr ⟨b, off, ha, h1, h2, fun i hi => by rw [hc i (by rw [List.length_append]; omega), List.getElem_append_left hi]⟩
/-- s[:k]. -/
theorem WS.take (h : WS lo hi w a c ls) (k : Nat) : WS lo hi w a c (ls.take k) := by
  have hc := h.cap
  refine WS.mk' (by rw [List.length_take]; omega) ?_
  have h2 := h.sat
  rw [← List.take_append_drop k ls, List.map_append] at h2
  exact h2.pre
end
theorem WS.lo {l hi c : Nat} {w w' : World} {a : Option Addr} {ls : List (List UInt8)} {X : Nat} (h : WS l hi w a c ls) (k : Lo X w w') (hb : hi ≤ X) : WS l hi w' a c ls := h.keep k.2 fun b _ hb' => Nat.lt_of_lt_of_le hb' hb
theorem Own.ws {l c n : Nat} {w : World} {E : TypeId} {a : Option Addr} {ls : List (List UInt8)} (h : Own l w E 1 a n c (ls.map vS)) : WS l w.heap.size w a c ls := by
  have h1 := h.cap
  exact WS.mk' (by simp at h1; omega) h.sat
instance : Car WS := ⟨WS.keep, WS.ext, WS.app, WS.kx, WS.mono⟩
theorem bsl (l : List UInt8) : (bs l).data.toList = l := bs_list l
theorem split_len (l : List UInt8) (c : UInt8) : (Lib.splitB (bs [c]) 0 (Lib.countB (bs l) (bs [c])) (bs l)).map (·.data.toList) = spl c l := by
  rw [Lib.splitB_data, bsl, bsl, ← split_eq]
  show _ = Lib.splitK [c] 0 (Lib.count l [c]) l
  unfold Lib.countB
  rw [bsl, bsl]
theorem split_bs (l : List UInt8) (c : UInt8) : Lib.splitB (bs [c]) 0 (Lib.countB (bs l) (bs [c])) (bs l) = (spl c l).map bs := by
  rw [← split_len, List.map_map]
  conv => lhs; rw [← List.map_id (Lib.splitB (bs [c]) 0 (Lib.countB (bs l) (bs [c])) (bs l))]
  exact List.map_congr_left fun x _ => by simp [Function.comp_def, bs]
theorem Split_spec {B : Nat} (c : UInt8) (l : List UInt8) (w : World) (hG : LibB B w) (hs : l.length ≤ 1048576) : Fn Tryz.prog 32 #[.string (bs l), .string (bs [c])] w (fun o9 w' => ∃ a, o9 = .slice a (spl c l).length (spl c l).length ∧ WS w.heap.size w'.heap.size w' a (spl c l).length (spl c l) ∧ Ext w w') := by
  obtain ⟨⟨m, hm⟩, _, _⟩ := hG.g
  have hl : Lib.countB (bs l) (bs [c]) + 1 = (spl c l).length := by
    rw [← Lib.splitB_all (bs [c]) (by rw [bs_size]; exact Nat.le_refl 1) 0 _ (bs l) rfl, ← split_len, List.length_map]
  refine ⟨by kernel_rfl, (Any.strings_Split { splitM with } splitM.i9 (bs l) (bs [c]) m w (by rw [bs_size]; omega) hm (by rw [bs_size]; exact Nat.le_refl 1)).mono ?_⟩
  rintro e w' ⟨rfl, rfl⟩
  rw [hl, split_bs, List.map_map]
  have hN := New.mk' w (splitM_ren.t 9) ((spl c l).map vS)
  refine ⟨_, rfl, _, rfl, ?_, hN.ext⟩
  refine WS.mk' (Nat.le_refl _) ?_
  exact (SAt.of_blk (ds := []) (by rw [List.append_nil]; exact hN.blk)).mono (Nat.le_refl _) (Nat.le_of_eq hN.size.symm)
theorem Cut_spec (l : List UInt8) (w : World) (hs : l.length ≤ 1048576) : Fn Tryz.prog 31 #[.string (bs l), .string (bs [10])] w (fun o9 w' => o9 = .tuple #[.string (bs (Lib.trimSuffix l [10])), VB (Lib.hasSuffix l [10])] ∧ w = w') := by
  refine ⟨by kernel_rfl, (Any.strings_CutSuffix cutL (bs l) (bs [10]) w (by rw [bs_size]; omega)).mono ?_⟩
  rintro e w' ⟨rfl, rfl⟩
  rw [bsl, bsl]
  exact ⟨_, rfl, rfl, rfl⟩
/-- An error, or none. -/
def ErrIs (e : Value) (q : Bool) : Prop := if q then ∃ t p, e = .iface t p else e = .nilIface
theorem Atoi_spec {B : Nat} (l : List UInt8) (w : World) (hG : LibB B w) (hs : l.length ≤ 18) : Fn Tryz.prog 60 #[.string (bs l)] w (fun o9 w' => ∃ n e q, o9 = .tuple #[VI n, e] ∧ ErrIs e q ∧ (q = true → Lib.atoi l = none) ∧ (q = false → Lib.atoi l = some n) ∧ (-1000000000000000000 < n ∧ n < 1000000000000000000) ∧ Ext w w') := by
  obtain ⟨_, ⟨ev, hv, hev⟩, _⟩ := hG.g
  cases h : Lib.atoi l with
  | none =>
    refine ⟨by kernel_rfl, (Any.strconv_Atoi_err atoiC (bs l) (by rw [bs_size]; omega) (by rw [bsl]; exact h) ev w hv hev).mono ?_⟩
    rintro e w' ⟨N, rfl, h1, h2, h3⟩
    exact ⟨_, rfl, 0, _, true, rfl, ⟨_, _, rfl⟩, fun _ => rfl, (fun e => by cases e), by omega, ⟨h3.os, h3.tape, h3.output, h3.size, h3.block⟩⟩
  | some n =>
    refine ⟨by kernel_rfl, (Any.strconv_Atoi atoiL (bs l) n (by rw [bs_size]; omega) (by rw [bsl]; exact h) w).mono ?_⟩
    rintro e w' ⟨rfl, t, rfl⟩
    have h3 := Lib.bytesWorld_below w (atoiL_ren.t 5) t
    exact ⟨_, rfl, n, _, false, rfl, rfl, (fun e => by cases e), fun _ => rfl, Lib.atoi_bound h hs, ⟨h3.os, h3.tape, h3.output, h3.size, h3.block⟩⟩
theorem ItoaT_spec {B : Nat} (n : Int) (w : World) (hG : LibB B w) (h : -1000000000000000000 < n ∧ n < 1000000000000000000) : Fn Tryz.prog 51 #[VI n] w (fun o9 w' => o9 = .string (bs (Lib.itoa n)) ∧ Ext w w') := by
  obtain ⟨_, _, ht⟩ := hG.g
  refine ⟨by kernel_rfl, (Any.strconv_Itoa itoaM n (by omega) (by omega) w ht).mono ?_⟩
  rintro e w' ⟨rfl, k, os, rfl⟩
  refine ⟨_, rfl, rfl, ⟨rfl, rfl, rfl, ?_, fun i hi => ?_⟩⟩
  · show w.heap.size ≤ (w.heap ++ os).size
    rw [Array.size_append]; omega
  · show (w.heap ++ os)[i]? = w.heap[i]?
    exact Array.getElem?_append_left hi
theorem Grow_spec (n : Nat) (w : World) (hn : n ≤ 1048576) : Fn Tryz.prog 59 #[.slice none 0 0, VI (n : Int)] w (fun o9 w' => ∃ a c, o9 = .slice a 0 c ∧ Own w.heap.size w' 9 1 a 0 c [] ∧ Ext w w') := by
  by_cases h0 : n = 0
  · subst h0
    refine ⟨by kernel_rfl, (Any8.slices_Grow_room growL none 0 0 0 w (by omega) (by omega) (by omega) (by omega)).mono ?_⟩
    rintro e w' ⟨rfl, rfl⟩
    exact ⟨_, rfl, none, 0, rfl, Own.nil _ _ _ _, Ext.refl _⟩
  · obtain ⟨i0, hi0, hz0, hs0, hb0⟩ := elem_parts (el9 : elem? Tryz.prog 9 = _)
    refine ⟨by kernel_rfl, (Any8.slices_Grow_grow growL i0 _ hi0 hz0 (by rw [hs0]; decide) none 0 0 n [] w (by omega) (by omega) (by rw [hb0]; omega) (by omega) (by simp) (fun _ => rfl) (fun a h => by cases h)).mono ?_⟩
    rintro e w' ⟨rfl, rfl⟩
    have hk := grownCap_ge w (0 + n) 0 (growL_ren.t 25)
    have hm := grownCap_le_maxLen w (0 + n) 0 (growL_ren.t 25) (by unfold maxLen; omega)
    refine ⟨_, rfl, _, _, rfl, ⟨rfl, .inr ⟨_, _, _, rfl, Nat.le_refl _, heap_alloc_new _ _, Nat.zero_le _, hm, ?_, by simp⟩⟩, (Ext.drew w).trans (New.mk' _ _ (_ : List Value)).ext⟩
    have ec : (Value.string { data := #[] }).cells.size = 1 := rfl
    rw [Nat.zero_add] at hk
    simp only [Array.size_append, size_zeroCells, Nat.zero_add, Nat.sub_zero, ec, Nat.mul_one]
    simp
    omega
section
variable {P : Program} {L : Env} {ty T T' : TypeId} {w : World} {x y : Operand}
theorem ev_neq_err {e : Value} {q : Bool} (ht : P.underlying T = some (.interface (P.methodsAt T))) (hx : ev L x = some e) (he : ErrIs e q) : EvR P L (.binOp .neq T x (.const .nilIface) T') ty w (VB q) := by
  intro ρ hρ d p f g
  cases q with
  | false =>
    have : e = .nilIface := he
    subst this
    have hc : ρ (.const .nilIface) = .nilIface := hρ (.const .nilIface) _ rfl
    simp only [execOp, hρ x _ hx, hc, Sem.run_bind, eqGuard_nil_constR, Sem.run_pure, Result.andThen_ok, run_neq_nil_nil _ _ ht]
  | true =>
    obtain ⟨t, p, rfl⟩ : ∃ t p, e = .iface t p := he
    have hc : ρ (.const .nilIface) = .nilIface := hρ (.const .nilIface) _ rfl
    simp only [execOp, hρ x _ hx, hc, Sem.run_bind, eqGuard_at_iface, Sem.run_pure, Result.andThen_ok, run_neq_held_nil _ _ _ _ ht]
end
/-- The first of some words that is x, or -1. -/
def idxW (ws : List (List UInt8)) (x : List UInt8) : Int := Lib.idxOfS (ws.map bs) (bs x)
theorem Index_spec {lo hi : Nat} (a : Option Addr) (c : Nat) (ws : List (List UInt8)) (x : List UInt8) (w : World) (hW : WS lo hi w a c ws) (hn : ws.length ≤ 2097152) : Fn Tryz.prog 45 #[.slice a ws.length c, .string (bs x)] w (fun o9 w' => o9 = VI (idxW ws x) ∧ w = w') := by
  by_cases h0 : ws.length = 0
  · have e := List.eq_nil_of_length_eq_zero h0
    subst e
    refine ⟨by kernel_rfl, (Any.slices_Index_string_empty indexL a c (bs x) w).mono ?_⟩
    rintro e w' ⟨rfl, rfl⟩
    exact ⟨_, rfl, rfl, rfl⟩
  · have ha := hW.isSome (by omega)
    have hj := Any.slices_Index_string indexL (blkOf a) (offOf a) ws.length c (ws.map bs) (bs x) w (by simp) (by omega) (fun j hj => by
      have hj' : j < ws.length := by simpa using hj
      have := hW.cell hj'
      rw [Nat.mul_one] at this
      rw [this]
      simp [List.getD, hj'])
    rw [← ha, List.take_of_length_le (by simp)] at hj
    refine ⟨by kernel_rfl, hj.mono ?_⟩
    rintro e w' ⟨rfl, rfl⟩
    exact ⟨_, rfl, rfl, rfl⟩
theorem idxW_cases (ws : List (List UInt8)) (x : List UInt8) : (idxW ws x = -1 ∧ x ∉ ws) ∨ ∃ k : Nat, idxW ws x = k ∧ ∃ h : k < ws.length, ws[k] = x ∧ x ∉ ws.take k := by
  have gen : ∀ (ws : List (List UInt8)) (i : Nat), (Lib.idxFromS (ws.map bs) (bs x) i = -1 ∧ x ∉ ws) ∨ ∃ k : Nat, Lib.idxFromS (ws.map bs) (bs x) i = ((i + k : Nat) : Int) ∧ ∃ h : k < ws.length, ws[k] = x ∧ x ∉ ws.take k := by
    intro ws
    induction ws with
    | nil => intro i; exact .inl ⟨rfl, by simp⟩
    | cons z r ih =>
      intro i
      rw [List.map_cons, Lib.idxFromS]
      by_cases hz : z = x
      · subst hz
        exact .inr ⟨0, by simp, by simp, rfl, by simp⟩
      · rw [if_neg fun e => hz (bs_inj e)]
        rcases ih (i + 1) with ⟨h1, h2⟩ | ⟨k, h1, h2, h3, h4⟩
        · exact .inl ⟨h1, fun hm => (List.mem_cons.1 hm).elim (fun e => hz e.symm) h2⟩
        · refine .inr ⟨k + 1, by rw [h1]; congr 1; omega, by simpa using h2, by simpa using h3, fun hm => ?_⟩
          rw [List.take_succ_cons] at hm
          exact (List.mem_cons.1 hm).elim (fun e => hz e.symm) h4
  rcases gen ws 0 with h | ⟨k, h1, h2⟩
  · exact .inl h
  · exact .inr ⟨k, by rw [Nat.zero_add] at h1; exact h1, h2⟩

section
variable {P : Program} {L : Env} {ty T T' : TypeId} {w : World} {x y z : Operand} {l : List UInt8} {k m a b : Int}
theorem ev_indexS (ht : P.underlying T = some .string) (hx : ev L x = some (.string (bs l))) (hy : ev L y = some (VI k)) (h0 : 0 ≤ k) (h1 : k.toNat < l.length) : EvR P L (.index T x y) ty w (VU (l[k.toNat].toNat : Int)) := by
  intro ρ hρ d p f g
  have e : (bs l)[k.toNat]? = some l[k.toNat] := by
    rw [getElem?_pos (bs l) k.toNat (by rw [bs_size]; exact h1)]
    rfl
  simp [execOp, hρ x _ hx, hρ y _ hy, Instr.index, asIntOf, run_underlying ht, h0, e]
theorem ev_lss_b8 (hx : ev L x = some (VU a)) (hy : ev L y = some (VU b)) : EvR P L (.binOp .lss T x y T') ty w (VB (decide (a < b))) := by
  intro ρ hρ d p f g
  simp [execOp, hρ x _ hx, hρ y _ hy, eqGuard, binOp, Op.intCmp]
theorem ev_gtr_b8 (hx : ev L x = some (VU a)) (hy : ev L y = some (VU b)) : EvR P L (.binOp .gtr T x y T') ty w (VB (decide (a > b))) := by
  intro ρ hρ d p f g
  simp [execOp, hρ x _ hx, hρ y _ hy, eqGuard, binOp, Op.intCmp]
theorem ev_eql_b8 (hx : ev L x = some (VU a)) (hy : ev L y = some (VU b)) : EvR P L (.binOp .eql T x y T') ty w (VB (decide (a = b))) := by
  intro ρ hρ d p f g
  have e : (a == b) = decide (a = b) := by by_cases h : a = b <;> simp [h]
  simp [execOp, hρ x _ hx, hρ y _ hy, eqGuard, binOp, Op.intCmp, e]
theorem ev_sub_b8 (hx : ev L x = some (VU a)) (hy : ev L y = some (VU b)) (h : 0 ≤ a - b ∧ a - b < 256) : EvR P L (.binOp .sub T x y T') ty w (VU (a - b)) := by
  intro ρ hρ d p f g
  have e : IntKind.u8.wrap (a - b) = a - b := wrap_b (by omega)
  simp [execOp, hρ x _ hx, hρ y _ hy, eqGuard, binOp, Op.intArith, e]
theorem bs_cut (i j : Nat) : (bs l).extract i j = bs ((l.take j).drop i) := by
  apply ByteArray.ext
  apply Array.toList_inj.1
  simp [bs, ByteArray.data_extract]
  rw [List.drop_take]
theorem ev_sliceS_lohi (ht : P.underlying T = some .string) (hx : ev L x = some (.string (bs l))) (hy : ev L y = some (VI m)) (hz : ev L z = some (VI k)) (h0 : 0 ≤ m) (h1 : m ≤ k) (h2 : k ≤ l.length) : EvR P L (.slice T x (some y) (some z) none) ty w (.string (bs ((l.take k.toNat).drop m.toNat))) := by
  intro ρ hρ d p f g
  have hk : k ≤ ((bs l).size : Int) := by rw [bs_size]; exact h2
  have hm : m ≤ ((k.toNat : Nat) : Int) := by omega
  simp [execOp, hρ x _ hx, hρ y _ hy, hρ z _ hz, Instr.sliceAt, run_underlying ht, Instr.slice, Instr.sliceBounds, run_bound (P := P) _ (by omega) hk rfl, run_bound (P := P) _ h0 hm rfl, bs_cut]
theorem ev_sliceS_lo (ht : P.underlying T = some .string) (hx : ev L x = some (.string (bs l))) (hy : ev L y = some (VI m)) (h0 : 0 ≤ m) (h1 : m ≤ l.length) : EvR P L (.slice T x (some y) none none) ty w (.string (bs (l.drop m.toNat))) := by
  intro ρ hρ d p f g
  have hm : m ≤ ((bs l).size : Int) := by rw [bs_size]; exact h1
  simp [execOp, hρ x _ hx, hρ y _ hy, Instr.sliceAt, run_underlying ht, Instr.slice, Instr.sliceBounds, run_bound (P := P) _ h0 hm rfl, bs_cut]
  rw [List.take_of_length_le (by rw [bs_size]; exact Nat.le_refl _)]
end

end Go.Proofs.YtdpdjbfjjlpfgaaGreatDoor
