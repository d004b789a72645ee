/-
  DERIVED: THE SHELF's CONTRACTS AT THIS DUMP, IN PLAIN WORDS (tools/lay-plain.mjs out of 'YtnhjidbjibehpaaGreatDoorShelf0.lean', which tools/lay-shelf.mjs wrote): THE SAME DECLARATIONS UNDER THE SAME NAMES: 'import', 'namespace', 'open', 'def', 'theorem' AND NOTHING ELSE: no command of the shelf's: FOR A HAND-IN. Each laying: the table of numbers ('.._ren') and one theorem, a field a fact of the dump's own or the kernel's comparison; each contract: ONE APPLICATION.
-/
import Derived.Shelf.Strings.SlTrimAscii
import Derived.Shelf.Strings.Builder1
import Derived.Shelf.Strings.Builder2
import Derived.Shelf.Strings.OnBuilder
import Derived.Shelf.Strings.Trim
import Derived.Shelf.Small.Utf8
import Derived.Shelf.Small.Strs
import Derived.Shelf.Small.Wraps
import Derived.Shelf.Strings.BuilderF
import Derived.Shelf.Strings.BuilderK
import Derived.Shelf.Strconv.Atoi
import Derived.Shelf.Strconv.Itoa0
import Derived.Shelf.Strconv.Itoa1
import Derived.Shelf.LaysM
import Derived.Shelf.Strconv.Itoa2
import Derived.Shelf.Strconv.Itoa3
import Derived.Shelf.Strings.Search1
import Derived.Shelf.Strings.Search2
import Derived.Shelf.Strings.Cut
import Derived.Shelf.Strings.Shaped
import Derived.Shelf.Strings.Prefix
import Derived.Shelf.Strings.Runes
import Derived.Shelf.Strings.AsciiSet
import Derived.Shelf.Bits.Mul64
import Derived.Shelf.Strings.Repeat
import Derived.Shelf.Unicode.DecodeSlow
import Derived.Test.YtnhjidbjibehpaaGreatDoorProg
import Derived.Test.YtnhjidbjibehpaaGreatDoorZd
import Derived.Test.YtnhjidbjibehpaaGreatDoorZc
import Derived.Deep.RegionWith
namespace Go.Proofs
open Go.Shelf
def Tryz.lays169_ren : Go.Shelf.Ren := ⟨fun | 169 => 76 | n => n, fun | 70 => 89 | 9 => 9 | 0 => 0 | 72 => 91 | 37 => 35 | 127 => 117 | 3 => 3 | 5 => 5 | n => n, fun | n => n⟩
theorem Tryz.lays169 : Go.Proofs.Lays.n169 Tryz.prog Tryz.lays169_ren := {
  mixed := by kernel_rfl
  f169 := Tryz.func76.trans (congrArg some (by kernel_rfl))
  t0 := Tryz.underlying0
  a0 := Tryz.isAgg0
  z0 := Tryz.sizeOf0
  v0 := Tryz.zeroValue0
  t3 := Tryz.underlying3
  a3 := Tryz.isAgg3
  z3 := Tryz.sizeOf3
  v3 := Tryz.zeroValue3
  t9 := Tryz.underlying9
  a9 := Tryz.isAgg9
  z9 := Tryz.sizeOf9
  v9 := Tryz.zeroValue9
  t37 := Tryz.underlying35
  a37 := Tryz.isAgg35
  z37 := Tryz.sizeOf35
  v37 := Tryz.zeroValue35
  t70 := Tryz.underlying89
  a70 := Tryz.isAgg89
  z70 := Tryz.sizeOf89
  v70 := Tryz.zeroValue89
  t72 := Tryz.underlying91
  a72 := Tryz.isAgg91
  z72 := Tryz.sizeOf91
  v72 := Tryz.zeroValue91
  t127 := Tryz.underlying117
  a127 := Tryz.isAgg117
  z127 := Tryz.sizeOf117
  v127 := Tryz.zeroValue117 }
theorem Tryz.Builder_Extra_169 : Builder.Extra Tryz.prog Tryz.lays169_ren := {
  sizeBuilder := by kernel_rfl
  liesBuilder := by kernel_rfl
  t5 := Tryz.underlying5
  a5 := Tryz.isAgg5
  z5 := Tryz.sizeOf5
  v5 := Tryz.zeroValue5
  infoByte := by kernel_rfl
  cellsByte := by kernel_rfl
  sizeByte := by kernel_rfl
  neB5 := by decide }
def Tryz.lays156_ren : Go.Shelf.Ren := ⟨fun | 156 => 47 | 165 => 74 | 166 => 75 | 169 => 76 | 240 => 99 | 241 => 100 | 276 => 121 | 277 => 122 | n => n, fun | 31 => 36 | 9 => 9 | 3 => 3 | 4 => 4 | 0 => 0 | 20 => 20 | 72 => 91 | 76 => 95 | 70 => 89 | 37 => 35 | 75 => 94 | 127 => 117 | 164 => 132 | 5 => 5 | 80 => 97 | n => n, fun | n => n⟩
theorem Tryz.lays156 : Go.Proofs.Lays.n156 Tryz.prog Tryz.lays156_ren := {
  mixed := by kernel_rfl
  f156 := Tryz.func47.trans (congrArg some (by kernel_rfl))
  f165 := Tryz.func74.trans (congrArg some (by kernel_rfl))
  f166 := Tryz.func75.trans (congrArg some (by kernel_rfl))
  f169 := Tryz.func76.trans (congrArg some (by kernel_rfl))
  f240 := Tryz.func99.trans (congrArg some (by kernel_rfl))
  f241 := Tryz.func100.trans (congrArg some (by kernel_rfl))
  f276 := Tryz.func121.trans (congrArg some (by kernel_rfl))
  f277 := Tryz.func122.trans (congrArg some (by kernel_rfl))
  t0 := Tryz.underlying0
  a0 := Tryz.isAgg0
  z0 := Tryz.sizeOf0
  v0 := Tryz.zeroValue0
  t3 := Tryz.underlying3
  a3 := Tryz.isAgg3
  z3 := Tryz.sizeOf3
  v3 := Tryz.zeroValue3
  t4 := Tryz.underlying4
  a4 := Tryz.isAgg4
  z4 := Tryz.sizeOf4
  v4 := Tryz.zeroValue4
  t9 := Tryz.underlying9
  a9 := Tryz.isAgg9
  z9 := Tryz.sizeOf9
  v9 := Tryz.zeroValue9
  t20 := Tryz.underlying20
  a20 := Tryz.isAgg20
  z20 := Tryz.sizeOf20
  v20 := Tryz.zeroValue20
  t31 := Tryz.underlying36
  a31 := Tryz.isAgg36
  z31 := Tryz.sizeOf36
  v31 := Tryz.zeroValue36
  t37 := Tryz.underlying35
  a37 := Tryz.isAgg35
  z37 := Tryz.sizeOf35
  v37 := Tryz.zeroValue35
  t70 := Tryz.underlying89
  a70 := Tryz.isAgg89
  z70 := Tryz.sizeOf89
  v70 := Tryz.zeroValue89
  t72 := Tryz.underlying91
  a72 := Tryz.isAgg91
  z72 := Tryz.sizeOf91
  v72 := Tryz.zeroValue91
  t75 := Tryz.underlying94
  a75 := Tryz.isAgg94
  z75 := Tryz.sizeOf94
  v75 := Tryz.zeroValue94
  t76 := Tryz.underlying95
  a76 := Tryz.isAgg95
  z76 := Tryz.sizeOf95
  v76 := Tryz.zeroValue95
  t127 := Tryz.underlying117
  a127 := Tryz.isAgg117
  z127 := Tryz.sizeOf117
  v127 := Tryz.zeroValue117
  t164 := Tryz.underlying132
  a164 := Tryz.isAgg132
  z164 := Tryz.sizeOf132
  v164 := Tryz.zeroValue132 }
theorem Tryz.Builder_Extra_156 : Builder.Extra Tryz.prog Tryz.lays156_ren := {
  sizeBuilder := by kernel_rfl
  liesBuilder := by kernel_rfl
  t5 := Tryz.underlying5
  a5 := Tryz.isAgg5
  z5 := Tryz.sizeOf5
  v5 := Tryz.zeroValue5
  infoByte := by kernel_rfl
  cellsByte := by kernel_rfl
  sizeByte := by kernel_rfl
  neB5 := by decide }
open Go.RowKit in
theorem Tryz.strings_Join (bk o c : Nat) (xs : List ByteArray) (sep : ByteArray) (w : World) (hcells : ∀ (j : Nat) x, xs[j]? = some x → w.cell? ⟨bk, o + j, none⟩ = some (.string x)) (hbk : bk < w.heap.size) (hN : xs.length ≤ 140737488355328) (hcap : xs.length ≤ c) (hlen : (Lib.join (xs.map (·.data.toList)) sep.data.toList).length ≤ 140737488355328) :
    Calls Tryz.prog 47 #[.slice (some ⟨bk, o, none⟩) xs.length c, .string sep] w fun e w' => e = .returned (.string ⟨(Lib.join (xs.map (·.data.toList)) sep.data.toList).toArray⟩) ∧ Below w.heap.size w w' := Any.strings_Join Tryz.lays156 Tryz.Builder_Extra_156 bk o c xs sep w hcells hbk hN hcap hlen
def Tryz.lays160_ren : Go.Shelf.Ren := ⟨fun | 160 => 103 | 232 => 129 | 231 => 128 | 227 => 130 | 234 => 132 | 233 => 131 | 236 => 134 | 235 => 133 | 228 => 145 | 271 => 148 | 151 => 147 | 197 => 146 | 120 => 157 | 152 => 156 | 260 => 155 | 137 => 168 | 119 => 169 | 224 => 125 | 225 => 124 | 217 => 123 | 266 => 143 | n => n, fun | 9 => 9 | 4 => 4 | 3 => 3 | 5 => 5 | 117 => 139 | 116 => 138 | 0 => 0 | 124 => 142 | 21 => 21 | 105 => 152 | 46 => 127 | 119 => 172 | 139 => 175 | 138 => 174 | n => n, fun | 3 => 2 | 4 => 3 | n => n⟩
theorem Tryz.lays160 : Go.Proofs.Lays.n160 Tryz.prog Tryz.lays160_ren := {
  mixed := by kernel_rfl
  f119 := Tryz.func169.trans (congrArg some (by kernel_rfl))
  f120 := Tryz.func157.trans (congrArg some (by kernel_rfl))
  f137 := Tryz.func168.trans (congrArg some (by kernel_rfl))
  f151 := Tryz.func147.trans (congrArg some (by kernel_rfl))
  f152 := Tryz.func156.trans (congrArg some (by kernel_rfl))
  f160 := Tryz.func103.trans (congrArg some (by kernel_rfl))
  f197 := Tryz.func146.trans (congrArg some (by kernel_rfl))
  f217 := Tryz.func123.trans (congrArg some (by kernel_rfl))
  f224 := Tryz.func125.trans (congrArg some (by kernel_rfl))
  f225 := Tryz.func124.trans (congrArg some (by kernel_rfl))
  f227 := Tryz.func130.trans (congrArg some (by kernel_rfl))
  f228 := Tryz.func145.trans (congrArg some (by kernel_rfl))
  f231 := Tryz.func128.trans (congrArg some (by kernel_rfl))
  f232 := Tryz.func129.trans (congrArg some (by kernel_rfl))
  f233 := Tryz.func131.trans (congrArg some (by kernel_rfl))
  f234 := Tryz.func132.trans (congrArg some (by kernel_rfl))
  f235 := Tryz.func133.trans (congrArg some (by kernel_rfl))
  f236 := Tryz.func134.trans (congrArg some (by kernel_rfl))
  f260 := Tryz.func155.trans (congrArg some (by kernel_rfl))
  f266 := Tryz.func143.trans (congrArg some (by kernel_rfl))
  f271 := Tryz.func148.trans (congrArg some (by kernel_rfl))
  t0 := Tryz.underlying0
  a0 := Tryz.isAgg0
  z0 := Tryz.sizeOf0
  v0 := Tryz.zeroValue0
  t3 := Tryz.underlying3
  a3 := Tryz.isAgg3
  z3 := Tryz.sizeOf3
  v3 := Tryz.zeroValue3
  t4 := Tryz.underlying4
  a4 := Tryz.isAgg4
  z4 := Tryz.sizeOf4
  v4 := Tryz.zeroValue4
  t5 := Tryz.underlying5
  a5 := Tryz.isAgg5
  z5 := Tryz.sizeOf5
  v5 := Tryz.zeroValue5
  t9 := Tryz.underlying9
  a9 := Tryz.isAgg9
  z9 := Tryz.sizeOf9
  v9 := Tryz.zeroValue9
  t21 := Tryz.underlying21
  a21 := Tryz.isAgg21
  z21 := Tryz.sizeOf21
  v21 := Tryz.zeroValue21
  t46 := Tryz.underlying127
  a46 := Tryz.isAgg127
  z46 := Tryz.sizeOf127
  v46 := Tryz.zeroValue127
  t105 := Tryz.underlying152
  a105 := Tryz.isAgg152
  z105 := Tryz.sizeOf152
  v105 := Tryz.zeroValue152
  t116 := Tryz.underlying138
  a116 := Tryz.isAgg138
  z116 := Tryz.sizeOf138
  t117 := Tryz.underlying139
  a117 := Tryz.isAgg139
  z117 := Tryz.sizeOf139
  v117 := Tryz.zeroValue139
  t119 := Tryz.underlying172
  a119 := Tryz.isAgg172
  z119 := Tryz.sizeOf172
  t124 := Tryz.underlying142
  a124 := Tryz.isAgg142
  z124 := Tryz.sizeOf142
  v124 := Tryz.zeroValue142
  t138 := Tryz.underlying174
  a138 := Tryz.isAgg174
  z138 := Tryz.sizeOf174
  v138 := Tryz.zeroValue174
  t139 := Tryz.underlying175
  a139 := Tryz.isAgg175
  z139 := Tryz.sizeOf175
  v139 := Tryz.zeroValue175
  g3 := by kernel_rfl
  g4 := by kernel_rfl }
open Go.RowKit in
theorem Tryz.strings_Trim_set (s cutset : ByteArray) (w : World) (hs : s.size ≤ 9223372036854775807) (hcs : cutset.size < 4294967281) (hascii : ∀ (j : Nat) (b : UInt8), cutset.data.toList[j]? = some b → b.toNat < 128) :
    Calls Tryz.prog (Tryz.lays160_ren.f 160) #[.string s, .string cutset] w fun e w' => e = .returned (.string ⟨(Lib.trimS s.data.toList cutset.data.toList).toArray⟩) ∧ Below w.heap.size w w' := Any.strings_Trim_laid Tryz.lays160 (by kernel_rfl) s cutset w hs hcs hascii
open Go.RowKit in
theorem Tryz.Builder_String_any_k (B b : Nat) (l : List UInt8) (w : World) (h : Lib.IsBuilderF 91 5 B b (Lib.byteCells l) w) (hBw : B ≤ w.heap.size) :
    Calls Tryz.prog 76 #[.pointer (some ⟨b, 0, none⟩)] w fun e w' => e = .returned (.string ⟨l.toArray⟩) ∧ (Lib.IsBuilderF 91 5 B b (Lib.byteCells l) w' ∧ Below B w w' ∧ Lib.OthersKept 5 (some b) w w') := Any.Builder_String_any_k Tryz.lays169 Tryz.Builder_Extra_169 B b l w h hBw
def Tryz.lays172_ren : Go.Shelf.Ren := ⟨fun | 172 => 135 | 244 => 149 | 245 => 150 | 247 => 158 | 279 => 159 | 280 => 160 | 281 => 161 | 282 => 162 | 287 => 170 | 316 => 171 | 171 => 98 | 205 => 172 | 321 => 175 | 322 => 176 | 243 => 120 | 246 => 142 | 283 => 151 | 284 => 152 | 285 => 153 | 286 => 154 | 129 => 164 | 317 => 163 | 318 => 165 | 319 => 166 | 320 => 167 | 337 => 173 | 338 => 174 | n => n, fun | 9 => 9 | 3 => 3 | 75 => 94 | 76 => 95 | 4 => 4 | 5 => 5 | 167 => 162 | 37 => 35 | 0 => 0 | 85 => 163 | 2 => 2 | 168 => 165 | 53 => 146 | 175 => 177 | 46 => 127 | 210 => 180 | 127 => 117 | 145 => 186 | 143 => 184 | 21 => 21 | 171 => 156 | 173 => 159 | 212 => 169 | 51 => 143 | 20 => 20 | 213 => 170 | 232 => 187 | 233 => 188 | 80 => 97 | n => n, fun | 15 => 4 | 16 => 5 | 17 => 1 | 18 => 6 | 19 => 7 | n => n⟩
theorem Tryz.lays172 : Go.Proofs.Lays.n172 Tryz.prog Tryz.lays172_ren := {
  mixed := by kernel_rfl
  f129 := Tryz.func164.trans (congrArg some (by kernel_rfl))
  f171 := Tryz.func98.trans (congrArg some (by kernel_rfl))
  f172 := Tryz.func135.trans (congrArg some (by kernel_rfl))
  f205 := Tryz.func172.trans (congrArg some (by kernel_rfl))
  f243 := Tryz.func120.trans (congrArg some (by kernel_rfl))
  f244 := Tryz.func149.trans (congrArg some (by kernel_rfl))
  f245 := Tryz.func150.trans (congrArg some (by kernel_rfl))
  f246 := Tryz.func142.trans (congrArg some (by kernel_rfl))
  f247 := Tryz.func158.trans (congrArg some (by kernel_rfl))
  f279 := Tryz.func159.trans (congrArg some (by kernel_rfl))
  f280 := Tryz.func160.trans (congrArg some (by kernel_rfl))
  f281 := Tryz.func161.trans (congrArg some (by kernel_rfl))
  f282 := Tryz.func162.trans (congrArg some (by kernel_rfl))
  f283 := Tryz.func151.trans (congrArg some (by kernel_rfl))
  f284 := Tryz.func152.trans (congrArg some (by kernel_rfl))
  f285 := Tryz.func153.trans (congrArg some (by kernel_rfl))
  f286 := Tryz.func154.trans (congrArg some (by kernel_rfl))
  f287 := Tryz.func170.trans (congrArg some (by kernel_rfl))
  f316 := Tryz.func171.trans (congrArg some (by kernel_rfl))
  f317 := Tryz.func163.trans (congrArg some (by kernel_rfl))
  f318 := Tryz.func165.trans (congrArg some (by kernel_rfl))
  f319 := Tryz.func166.trans (congrArg some (by kernel_rfl))
  f320 := Tryz.func167.trans (congrArg some (by kernel_rfl))
  f321 := Tryz.func175.trans (congrArg some (by kernel_rfl))
  f322 := Tryz.func176.trans (congrArg some (by kernel_rfl))
  f337 := Tryz.func173.trans (congrArg some (by kernel_rfl))
  f338 := Tryz.func174.trans (congrArg some (by kernel_rfl))
  t0 := Tryz.underlying0
  a0 := Tryz.isAgg0
  z0 := Tryz.sizeOf0
  v0 := Tryz.zeroValue0
  t2 := Tryz.underlying2
  a2 := Tryz.isAgg2
  z2 := Tryz.sizeOf2
  v2 := Tryz.zeroValue2
  t3 := Tryz.underlying3
  a3 := Tryz.isAgg3
  z3 := Tryz.sizeOf3
  v3 := Tryz.zeroValue3
  t4 := Tryz.underlying4
  a4 := Tryz.isAgg4
  z4 := Tryz.sizeOf4
  v4 := Tryz.zeroValue4
  t5 := Tryz.underlying5
  a5 := Tryz.isAgg5
  z5 := Tryz.sizeOf5
  v5 := Tryz.zeroValue5
  t9 := Tryz.underlying9
  a9 := Tryz.isAgg9
  z9 := Tryz.sizeOf9
  v9 := Tryz.zeroValue9
  t20 := Tryz.underlying20
  a20 := Tryz.isAgg20
  z20 := Tryz.sizeOf20
  v20 := Tryz.zeroValue20
  t21 := Tryz.underlying21
  a21 := Tryz.isAgg21
  z21 := Tryz.sizeOf21
  v21 := Tryz.zeroValue21
  t37 := Tryz.underlying35
  a37 := Tryz.isAgg35
  z37 := Tryz.sizeOf35
  v37 := Tryz.zeroValue35
  t46 := Tryz.underlying127
  a46 := Tryz.isAgg127
  z46 := Tryz.sizeOf127
  v46 := Tryz.zeroValue127
  t51 := Tryz.underlying143
  a51 := Tryz.isAgg143
  z51 := Tryz.sizeOf143
  v51 := Tryz.zeroValue143
  t53 := Tryz.underlying146
  a53 := Tryz.isAgg146
  z53 := Tryz.sizeOf146
  v53 := Tryz.zeroValue146
  t75 := Tryz.underlying94
  a75 := Tryz.isAgg94
  z75 := Tryz.sizeOf94
  v75 := Tryz.zeroValue94
  t76 := Tryz.underlying95
  a76 := Tryz.isAgg95
  z76 := Tryz.sizeOf95
  v76 := Tryz.zeroValue95
  t85 := Tryz.underlying163
  a85 := Tryz.isAgg163
  z85 := Tryz.sizeOf163
  v85 := Tryz.zeroValue163
  t127 := Tryz.underlying117
  a127 := Tryz.isAgg117
  z127 := Tryz.sizeOf117
  v127 := Tryz.zeroValue117
  t143 := Tryz.underlying184
  a143 := Tryz.isAgg184
  z143 := Tryz.sizeOf184
  v143 := Tryz.zeroValue184
  t145 := Tryz.underlying186
  a145 := Tryz.isAgg186
  z145 := Tryz.sizeOf186
  v145 := Tryz.zeroValue186
  t167 := Tryz.underlying162
  a167 := Tryz.isAgg162
  z167 := Tryz.sizeOf162
  v167 := Tryz.zeroValue162
  t168 := Tryz.underlying165
  a168 := Tryz.isAgg165
  z168 := Tryz.sizeOf165
  v168 := Tryz.zeroValue165
  t171 := Tryz.underlying156
  a171 := Tryz.isAgg156
  z171 := Tryz.sizeOf156
  v171 := Tryz.zeroValue156
  t173 := Tryz.underlying159
  a173 := Tryz.isAgg159
  z173 := Tryz.sizeOf159
  v173 := Tryz.zeroValue159
  t175 := Tryz.underlying177
  a175 := Tryz.isAgg177
  z175 := Tryz.sizeOf177
  v175 := Tryz.zeroValue177
  t210 := Tryz.underlying180
  a210 := Tryz.isAgg180
  z210 := Tryz.sizeOf180
  v210 := Tryz.zeroValue180
  t212 := Tryz.underlying169
  a212 := Tryz.isAgg169
  z212 := Tryz.sizeOf169
  v212 := Tryz.zeroValue169
  t213 := Tryz.underlying170
  a213 := Tryz.isAgg170
  z213 := Tryz.sizeOf170
  t232 := Tryz.underlying187
  a232 := Tryz.isAgg187
  z232 := Tryz.sizeOf187
  v232 := Tryz.zeroValue187
  t233 := Tryz.underlying188
  a233 := Tryz.isAgg188
  z233 := Tryz.sizeOf188
  v233 := Tryz.zeroValue188
  g15 := by kernel_rfl
  g16 := by kernel_rfl
  g17 := by kernel_rfl
  g18 := by kernel_rfl
  g19 := by kernel_rfl }
open Go.RowKit in
theorem Tryz.strconv_Atoi (s : ByteArray) (n : Int) (hl : s.size ≤ 18) (h : Lib.atoi s.data.toList = some n) (w : World) :
    Calls Tryz.prog 135 #[.string s] w fun e w' => e = .returned (.tuple #[.int .i64 n, .nilIface]) ∧ ∃ t, w' = Lib.bytesWorld w 5 t := Any.strconv_Atoi Tryz.lays172 s n hl h w
def Tryz.laysM171_ren : Go.Shelf.Ren := ⟨fun | 171 => 98 | 243 => 120 | 246 => 142 | 283 => 151 | 284 => 152 | 285 => 153 | 286 => 154 | 129 => 164 | 317 => 163 | 318 => 165 | 319 => 166 | 320 => 167 | 337 => 173 | 338 => 174 | n => n, fun | 3 => 3 | 9 => 9 | 2 => 2 | 4 => 4 | 171 => 156 | 0 => 0 | 53 => 146 | 37 => 35 | 5 => 5 | 173 => 159 | 212 => 169 | 51 => 143 | 20 => 20 | 213 => 170 | 46 => 127 | 232 => 187 | 233 => 188 | n => n, fun | 17 => 1 | 18 => 6 | 19 => 7 | n => n⟩
theorem Tryz.laysM171 : Go.Proofs.LaysM.n171 Tryz.prog Tryz.laysM171_ren := {
  mixed := by kernel_rfl
  f129 := Tryz.func164.trans (congrArg some (by kernel_rfl))
  f171 := Tryz.func98.trans (congrArg some (by kernel_rfl))
  f243 := Tryz.func120.trans (congrArg some (by kernel_rfl))
  f246 := Tryz.func142.trans (congrArg some (by kernel_rfl))
  f283 := Tryz.func151.trans (congrArg some (by kernel_rfl))
  f284 := Tryz.func152.trans (congrArg some (by kernel_rfl))
  f285 := Tryz.func153.trans (congrArg some (by kernel_rfl))
  f286 := Tryz.func154.trans (congrArg some (by kernel_rfl))
  f317 := Tryz.func163.trans (congrArg some (by kernel_rfl))
  f318 := Tryz.func165.trans (congrArg some (by kernel_rfl))
  f319 := Tryz.func166.trans (congrArg some (by kernel_rfl))
  f320 := Tryz.func167.trans (congrArg some (by kernel_rfl))
  f337 := Tryz.func173.trans (congrArg some (by kernel_rfl))
  f338 := Tryz.func174.trans (congrArg some (by kernel_rfl))
  t0 := Tryz.underlying0
  a0 := Tryz.isAgg0
  z0 := Tryz.sizeOf0
  v0 := Tryz.zeroValue0
  t2 := Tryz.underlying2
  a2 := Tryz.isAgg2
  z2 := Tryz.sizeOf2
  v2 := Tryz.zeroValue2
  t3 := Tryz.underlying3
  a3 := Tryz.isAgg3
  z3 := Tryz.sizeOf3
  v3 := Tryz.zeroValue3
  t4 := Tryz.underlying4
  a4 := Tryz.isAgg4
  z4 := Tryz.sizeOf4
  v4 := Tryz.zeroValue4
  t5 := Tryz.underlying5
  a5 := Tryz.isAgg5
  z5 := Tryz.sizeOf5
  v5 := Tryz.zeroValue5
  t9 := Tryz.underlying9
  a9 := Tryz.isAgg9
  z9 := Tryz.sizeOf9
  v9 := Tryz.zeroValue9
  t20 := Tryz.underlying20
  a20 := Tryz.isAgg20
  z20 := Tryz.sizeOf20
  v20 := Tryz.zeroValue20
  t37 := Tryz.underlying35
  a37 := Tryz.isAgg35
  z37 := Tryz.sizeOf35
  v37 := Tryz.zeroValue35
  t46 := Tryz.underlying127
  a46 := Tryz.isAgg127
  z46 := Tryz.sizeOf127
  v46 := Tryz.zeroValue127
  t51 := Tryz.underlying143
  a51 := Tryz.isAgg143
  z51 := Tryz.sizeOf143
  v51 := Tryz.zeroValue143
  t53 := Tryz.underlying146
  a53 := Tryz.isAgg146
  z53 := Tryz.sizeOf146
  v53 := Tryz.zeroValue146
  t171 := Tryz.underlying156
  a171 := Tryz.isAgg156
  z171 := Tryz.sizeOf156
  v171 := Tryz.zeroValue156
  t173 := Tryz.underlying159
  a173 := Tryz.isAgg159
  z173 := Tryz.sizeOf159
  v173 := Tryz.zeroValue159
  t212 := Tryz.underlying169
  a212 := Tryz.isAgg169
  z212 := Tryz.sizeOf169
  v212 := Tryz.zeroValue169
  t213 := Tryz.underlying170
  a213 := Tryz.isAgg170
  z213 := Tryz.sizeOf170
  t232 := Tryz.underlying187
  a232 := Tryz.isAgg187
  z232 := Tryz.sizeOf187
  v232 := Tryz.zeroValue187
  t233 := Tryz.underlying188
  a233 := Tryz.isAgg188
  z233 := Tryz.sizeOf188
  v233 := Tryz.zeroValue188
  g17 := by kernel_rfl
  g18 := by kernel_rfl
  g19 := by kernel_rfl
  i0 := by kernel_rfl
  i2 := by kernel_rfl
  i3 := by kernel_rfl
  i4 := by kernel_rfl
  i5 := by kernel_rfl
  i9 := by kernel_rfl
  i20 := by kernel_rfl
  i37 := by kernel_rfl
  i46 := by kernel_rfl
  i51 := by kernel_rfl
  i53 := by kernel_rfl
  i171 := by kernel_rfl
  i173 := by kernel_rfl
  i212 := by kernel_rfl
  i232 := by kernel_rfl
  i233 := by kernel_rfl
  m17 := by kernel_rfl
  m18 := by kernel_rfl
  m19 := by kernel_rfl }
open Go.RowKit Go.Sort Go.Lib in
theorem Tryz.strconv_Itoa (n : Int) (h0 : -9223372036854775808 ≤ n) (h1 : n ≤ 9223372036854775807) (w : World) (htab : Lib.TabIs Tryz.prog w "internal/strconv.uint64pow10" .u64 Lib.pow10Tab) :
    Calls Tryz.prog 98 #[.int .i64 n] w fun e w' => e = .returned (.string ⟨(Lib.itoa n).toArray⟩) ∧ ∃ k os, w' = grow (w.drewN k) os := Any.strconv_Itoa Tryz.laysM171 n h0 h1 w htab
def Tryz.lays145_ren : Go.Shelf.Ren := ⟨fun | 145 => 48 | 220 => 77 | 219 => 101 | 217 => 123 | 225 => 124 | 224 => 125 | 267 => 126 | 266 => 143 | 314 => 144 | n => n, fun | 9 => 9 | 4 => 4 | 59 => 66 | 3 => 3 | 5 => 5 | 46 => 127 | 146 => 144 | 51 => 143 | n => n, fun | 1 => 0 | n => n⟩
theorem Tryz.lays145 : Go.Proofs.Lays.n145 Tryz.prog Tryz.lays145_ren := {
  mixed := by kernel_rfl
  f145 := Tryz.func48.trans (congrArg some (by kernel_rfl))
  f217 := Tryz.func123.trans (congrArg some (by kernel_rfl))
  f219 := Tryz.func101.trans (congrArg some (by kernel_rfl))
  f220 := Tryz.func77.trans (congrArg some (by kernel_rfl))
  f224 := Tryz.func125.trans (congrArg some (by kernel_rfl))
  f225 := Tryz.func124.trans (congrArg some (by kernel_rfl))
  f266 := Tryz.func143.trans (congrArg some (by kernel_rfl))
  f267 := Tryz.func126.trans (congrArg some (by kernel_rfl))
  f314 := Tryz.func144.trans (congrArg some (by kernel_rfl))
  t3 := Tryz.underlying3
  a3 := Tryz.isAgg3
  z3 := Tryz.sizeOf3
  v3 := Tryz.zeroValue3
  t4 := Tryz.underlying4
  a4 := Tryz.isAgg4
  z4 := Tryz.sizeOf4
  v4 := Tryz.zeroValue4
  t5 := Tryz.underlying5
  a5 := Tryz.isAgg5
  z5 := Tryz.sizeOf5
  v5 := Tryz.zeroValue5
  t9 := Tryz.underlying9
  a9 := Tryz.isAgg9
  z9 := Tryz.sizeOf9
  v9 := Tryz.zeroValue9
  t46 := Tryz.underlying127
  a46 := Tryz.isAgg127
  z46 := Tryz.sizeOf127
  v46 := Tryz.zeroValue127
  t51 := Tryz.underlying143
  a51 := Tryz.isAgg143
  z51 := Tryz.sizeOf143
  v51 := Tryz.zeroValue143
  t59 := Tryz.underlying66
  a59 := Tryz.isAgg66
  z59 := Tryz.sizeOf66
  v59 := Tryz.zeroValue66
  t146 := Tryz.underlying144
  a146 := Tryz.isAgg144
  z146 := Tryz.sizeOf144
  v146 := Tryz.zeroValue144
  g1 := by kernel_rfl }
open Go.RowKit Go.Lib in
theorem Tryz.strings_Cut (s sep : ByteArray) (m : Int) (w : World) (hs : s.size < 4294967281) (hm : w.cell? ⟨0, 0, none⟩ = some (.int .i64 m)) :
    Calls Tryz.prog 48 #[.string s, .string sep] w fun e w' => e = .returned (.tuple #[.string ⟨(Lib.cut s.data.toList sep.data.toList).1.toArray⟩, .string ⟨(Lib.cut s.data.toList sep.data.toList).2.1.toArray⟩, .bool (Lib.cut s.data.toList sep.data.toList).2.2]) ∧ ∃ n, w' = w.drewN n := Any.strings_Cut Tryz.lays145 s sep m w hs hm
def Tryz.lays105_ren : Go.Shelf.Ren := ⟨fun | 105 => 96 | 212 => 117 | 99 => 118 | 165 => 74 | 166 => 75 | 170 => 119 | 169 => 76 | 263 => 139 | 264 => 140 | 206 => 141 | 240 => 99 | 241 => 100 | 276 => 121 | 277 => 122 | n => n, fun | 9 => 9 | 3 => 3 | 4 => 4 | 20 => 20 | 0 => 0 | 46 => 127 | 109 => 128 | 5 => 5 | 72 => 91 | 76 => 95 | 51 => 143 | 146 => 144 | 53 => 146 | 148 => 147 | 70 => 89 | 37 => 35 | 75 => 94 | 127 => 117 | 164 => 132 | 80 => 97 | n => n, fun | n => n⟩
theorem Tryz.lays105 : Go.Proofs.Lays.n105 Tryz.prog Tryz.lays105_ren := {
  mixed := by kernel_rfl
  f99 := Tryz.func118.trans (congrArg some (by kernel_rfl))
  f105 := Tryz.func96.trans (congrArg some (by kernel_rfl))
  f165 := Tryz.func74.trans (congrArg some (by kernel_rfl))
  f166 := Tryz.func75.trans (congrArg some (by kernel_rfl))
  f169 := Tryz.func76.trans (congrArg some (by kernel_rfl))
  f170 := Tryz.func119.trans (congrArg some (by kernel_rfl))
  f206 := Tryz.func141.trans (congrArg some (by kernel_rfl))
  f212 := Tryz.func117.trans (congrArg some (by kernel_rfl))
  f240 := Tryz.func99.trans (congrArg some (by kernel_rfl))
  f241 := Tryz.func100.trans (congrArg some (by kernel_rfl))
  f263 := Tryz.func139.trans (congrArg some (by kernel_rfl))
  f264 := Tryz.func140.trans (congrArg some (by kernel_rfl))
  f276 := Tryz.func121.trans (congrArg some (by kernel_rfl))
  f277 := Tryz.func122.trans (congrArg some (by kernel_rfl))
  t0 := Tryz.underlying0
  a0 := Tryz.isAgg0
  z0 := Tryz.sizeOf0
  v0 := Tryz.zeroValue0
  t3 := Tryz.underlying3
  a3 := Tryz.isAgg3
  z3 := Tryz.sizeOf3
  v3 := Tryz.zeroValue3
  t4 := Tryz.underlying4
  a4 := Tryz.isAgg4
  z4 := Tryz.sizeOf4
  v4 := Tryz.zeroValue4
  t5 := Tryz.underlying5
  a5 := Tryz.isAgg5
  z5 := Tryz.sizeOf5
  v5 := Tryz.zeroValue5
  t9 := Tryz.underlying9
  a9 := Tryz.isAgg9
  z9 := Tryz.sizeOf9
  v9 := Tryz.zeroValue9
  t20 := Tryz.underlying20
  a20 := Tryz.isAgg20
  z20 := Tryz.sizeOf20
  v20 := Tryz.zeroValue20
  t37 := Tryz.underlying35
  a37 := Tryz.isAgg35
  z37 := Tryz.sizeOf35
  v37 := Tryz.zeroValue35
  t46 := Tryz.underlying127
  a46 := Tryz.isAgg127
  z46 := Tryz.sizeOf127
  v46 := Tryz.zeroValue127
  t51 := Tryz.underlying143
  a51 := Tryz.isAgg143
  z51 := Tryz.sizeOf143
  v51 := Tryz.zeroValue143
  t53 := Tryz.underlying146
  a53 := Tryz.isAgg146
  z53 := Tryz.sizeOf146
  v53 := Tryz.zeroValue146
  t70 := Tryz.underlying89
  a70 := Tryz.isAgg89
  z70 := Tryz.sizeOf89
  v70 := Tryz.zeroValue89
  t72 := Tryz.underlying91
  a72 := Tryz.isAgg91
  z72 := Tryz.sizeOf91
  v72 := Tryz.zeroValue91
  t75 := Tryz.underlying94
  a75 := Tryz.isAgg94
  z75 := Tryz.sizeOf94
  v75 := Tryz.zeroValue94
  t76 := Tryz.underlying95
  a76 := Tryz.isAgg95
  z76 := Tryz.sizeOf95
  v76 := Tryz.zeroValue95
  t109 := Tryz.underlying128
  a109 := Tryz.isAgg128
  z109 := Tryz.sizeOf128
  v109 := Tryz.zeroValue128
  t127 := Tryz.underlying117
  a127 := Tryz.isAgg117
  z127 := Tryz.sizeOf117
  v127 := Tryz.zeroValue117
  t146 := Tryz.underlying144
  a146 := Tryz.isAgg144
  z146 := Tryz.sizeOf144
  v146 := Tryz.zeroValue144
  t148 := Tryz.underlying147
  a148 := Tryz.isAgg147
  z148 := Tryz.sizeOf147
  v148 := Tryz.zeroValue147
  t164 := Tryz.underlying132
  a164 := Tryz.isAgg132
  z164 := Tryz.sizeOf132
  v164 := Tryz.zeroValue132 }
theorem Tryz.Builder_Extra_105 : Builder.Extra Tryz.prog Tryz.lays105_ren := {
  sizeBuilder := by kernel_rfl
  liesBuilder := by kernel_rfl
  t5 := Tryz.underlying5
  a5 := Tryz.isAgg5
  z5 := Tryz.sizeOf5
  v5 := Tryz.zeroValue5
  infoByte := by kernel_rfl
  cellsByte := by kernel_rfl
  sizeByte := by kernel_rfl
  neB5 := by decide }
open Go.RowKit Go.Lib in
theorem Tryz.strings_Repeat (s : ByteArray) (c : Nat) (w : World) (hc : c ≤ 9223372036854775807) (hlen : s.size * c ≤ 140737488355328) :
    Calls Tryz.prog 96 #[.string s, .int .i64 c] w fun e w' => e = .returned (.string ⟨(Lib.repeatL s.data.toList c).toArray⟩) ∧ Below w.heap.size w w' := Any.strings_Repeat Tryz.lays105 Tryz.Builder_Extra_105 s c w hc hlen
theorem Tryz.lays166 : Go.Proofs.Lays.n166 Tryz.prog Tryz.lays156_ren := {
  mixed := Tryz.lays156.mixed
  f166 := Tryz.lays156.f166
  f240 := Tryz.lays156.f240
  f276 := Tryz.lays156.f276
  t0 := Tryz.lays156.t0
  a0 := Tryz.lays156.a0
  z0 := Tryz.lays156.z0
  v0 := Tryz.lays156.v0
  t3 := Tryz.lays156.t3
  a3 := Tryz.lays156.a3
  z3 := Tryz.lays156.z3
  v3 := Tryz.lays156.v3
  t4 := Tryz.lays156.t4
  a4 := Tryz.lays156.a4
  z4 := Tryz.lays156.z4
  v4 := Tryz.lays156.v4
  t9 := Tryz.lays156.t9
  a9 := Tryz.lays156.a9
  z9 := Tryz.lays156.z9
  v9 := Tryz.lays156.v9
  t20 := Tryz.lays156.t20
  a20 := Tryz.lays156.a20
  z20 := Tryz.lays156.z20
  v20 := Tryz.lays156.v20
  t37 := Tryz.lays156.t37
  a37 := Tryz.lays156.a37
  z37 := Tryz.lays156.z37
  v37 := Tryz.lays156.v37
  t70 := Tryz.lays156.t70
  a70 := Tryz.lays156.a70
  z70 := Tryz.lays156.z70
  v70 := Tryz.lays156.v70
  t72 := Tryz.lays156.t72
  a72 := Tryz.lays156.a72
  z72 := Tryz.lays156.z72
  v72 := Tryz.lays156.v72
  t75 := Tryz.lays156.t75
  a75 := Tryz.lays156.a75
  z75 := Tryz.lays156.z75
  v75 := Tryz.lays156.v75
  t164 := Tryz.lays156.t164
  a164 := Tryz.lays156.a164
  z164 := Tryz.lays156.z164
  v164 := Tryz.lays156.v164 }
open Go.RowKit in
theorem Tryz.Builder_WriteString_k (B b : Nat) (bs : List Value) (s : ByteArray) (w : World) (h : Lib.IsBuilderF 91 5 B b bs w) (hlen : bs.length + s.size ≤ 140737488355328) (hBw : B ≤ w.heap.size) :
    Calls Tryz.prog 75 #[.pointer (some ⟨b, 0, none⟩), .string s] w fun e w' => e = .returned (.tuple #[.int .i64 s.size, .nilIface]) ∧ (Lib.BuilderAtF 91 5 B b (.pointer (some ⟨b, 0, none⟩)) (bs ++ Lib.strCells s) w' ∧ Below B w w' ∧ Lib.OthersKept 5 (some b) w w') := Any.Builder_WriteString_k Tryz.lays166 Tryz.Builder_Extra_156 B b bs s w h hlen hBw
end Go.Proofs

/- Layer 3, walked: isValid, Valid. -/
namespace Go.Proofs.YtnhjidbjibehpaaGreatDoor.L3
open Go.Shelf Go.RowKit Go.Proofs.YtnhjidbjibehpaaGreatDoorW.PrintWords Go.Proofs.YtnhjidbjibehpaaGreatDoorW.PrintLast Go.Proofs.YtnhjidbjibehpaaGreatDoorW.PrintMore Yd
set_option linter.unusedVariables false
set_option linter.unusedSimpArgs false

theorem ba_ext {a b : ByteArray} (h : a.data.toList = b.data.toList) : a = b := by
  obtain ⟨⟨l⟩⟩ := a
  obtain ⟨⟨m⟩⟩ := b
  simp only at h
  rw [h]
theorem ba_of {a : ByteArray} {l : List UInt8} (h : a.data.toList = l) : a = ⟨l.toArray⟩ := ba_ext (by rw [h])

theorem hasPrefix_dash (s : ByteArray) : Ref.stringslite_HasPrefix.f s ⟨#[45]⟩ = some (neg s.data.toList) := by
  unfold Ref.stringslite_HasPrefix.f
  have hz : ((⟨#[45]⟩ : ByteArray).size : Int) = 1 := rfl
  rw [hz]
  have hs := Lib.size_eq s
  cases hl : s.data.toList with
  | nil => rw [hl] at hs; rw [if_neg (by rw [hs]; simp)]; rfl
  | cons b t =>
    rw [hl] at hs
    rw [if_pos (by rw [hs]; simp; omega), if_pos (by omega), if_pos (by rw [hs]; simp; omega), Lib.extract_toList, Lib.toList_data, hl]
    simp [neg]
theorem trimPrefix_dash (s : ByteArray) : Ref.strings_TrimPrefix.f s ⟨#[45]⟩ = some ⟨(body s.data.toList).toArray⟩ := by
  unfold Ref.strings_TrimPrefix.f Ref.stringslite_TrimPrefix.f
  rw [hasPrefix_dash]
  simp only [Option.bind_some]
  have hz : ((⟨#[45]⟩ : ByteArray).size : Int) = 1 := rfl
  rw [hz]
  have hs := Lib.size_eq s
  cases hl : s.data.toList with
  | nil => rw [if_neg (by simp [neg])]; rw [Option.bind_some]; exact congrArg some (ba_of (by rw [hl]; rfl))
  | cons b t =>
    rw [hl] at hs
    by_cases hb : b = 45
    · subst hb
      rw [if_pos (by rfl), if_pos (by omega), if_pos (by rw [hs]; simp; omega), Option.bind_some]
      refine congrArg some (ba_of ?_)
      rw [Lib.extract_data, hl, hs]
      simp [body]
    · rw [if_neg (by simp [neg, hb]), Option.bind_some]
      exact congrArg some (ba_of (by rw [hl]; simp [body, hb]))
theorem trimPrefix_calls (s : ByteArray) (w : World) : Calls Tryz.prog 102 #[.string s, .string ⟨#[45]⟩] w fun e w' => e = .returned (.string ⟨(body s.data.toList).toArray⟩) ∧ Drawn0 w w' :=
  Ref.strings_TrimPrefix.calls s ⟨#[45]⟩ _ w (trimPrefix_dash s)

def digs : List UInt8 := [48, 49, 50, 51, 52, 53, 54, 55, 56, 57]
theorem digs_contains (b : UInt8) : digs.contains b = isDig b := by
  have h : ∀ i : Fin 256, digs.contains (UInt8.ofNat i.1) = isDig (UInt8.ofNat i.1) := by decide +kernel
  have := h ⟨b.toNat, b.toNat_lt⟩
  simpa using this
theorem dropWhile_nil_iff {α : Type} (p : α → Bool) : ∀ l : List α, l.dropWhile p = [] ↔ l.all p = true
  | [] => by simp
  | a :: t => by
    rw [List.dropWhile_cons, List.all_cons]
    cases h : p a
    · simp
    · simpa using dropWhile_nil_iff p t
theorem trimS_digs (l : List UInt8) : Lib.trimS l digs = [] ↔ l.all isDig = true := by
  have hc : (fun b => digs.contains b) = isDig := funext digs_contains
  unfold Lib.trimS Lib.trimLeftS Lib.trimRightS
  rw [hc, dropWhile_nil_iff]
  constructor
  · intro h
    rw [List.all_reverse] at h
    have h2 : (l.reverse.dropWhile isDig) = [] := by
      cases hd : l.reverse.dropWhile isDig with
      | nil => rfl
      | cons a t =>
        have := List.head_dropWhile_not isDig (l := l.reverse) (by rw [hd]; simp)
        rw [hd] at h
        simp only [hd, List.head_cons] at this
        simp [this] at h
    rw [dropWhile_nil_iff, List.all_reverse] at h2
    exact h2
  · intro h
    have h2 : l.reverse.dropWhile isDig = [] := by rw [dropWhile_nil_iff, List.all_reverse]; exact h
    rw [h2]; rfl
theorem trim_calls (s : ByteArray) (w : World) (hs : s.size ≤ 200) : Calls Tryz.prog 103 #[.string s, .string ⟨#[48, 49, 50, 51, 52, 53, 54, 55, 56, 57]⟩] w fun e w' => e = .returned (.string ⟨(Lib.trimS s.data.toList digs).toArray⟩) ∧ Below w.heap.size w w' :=
  Tryz.strings_Trim_set s ⟨#[48, 49, 50, 51, 52, 53, 54, 55, 56, 57]⟩ w (by omega) (by decide) (by
    intro j b hb
    have hm : b ∈ digs := List.mem_of_getElem? hb
    have h2 : isDig b = true := by rw [← digs_contains]; exact List.contains_iff_mem.2 hm
    have := isDig_iff.1 h2
    omega)

theorem isValid_no {l m : List UInt8} (h1 : ¬ body l = []) (h2 : ((body l).length : Int) ≤ 200) (h3 : (!m.isEmpty) = true) (hm : Lib.trimS (body l) digs = m) : ivalid l = false := by
  have : ¬ (body l).all isDig = true := by
    rw [← trimS_digs, hm]
    intro h
    rw [h] at h3
    cases h3
  simp [ivalid, this]
theorem isValid_yes {s : ByteArray} {m : List UInt8} (h1 : ¬ body s.data.toList = []) (hl : (body s.data.toList).length ≤ 200) (h3 : (!m.isEmpty) = false) (hm : Lib.trimS (body s.data.toList) digs = m) (h4 : ¬ s.toList = [48]) (h5 : 0 < (body s.data.toList).length) :
    ivalid s.data.toList = (s.toList == [48] || (((⟨(body s.data.toList).toArray⟩ : ByteArray)[0]'h5).toNat : Int) != 48) := by
  have hm0 : m = [] := by simpa using h3
  have ha : (body s.data.toList).all isDig = true := by rw [← trimS_digs, hm, hm0]
  rw [Lib.toList_data] at h4 ⊢
  obtain ⟨b, t, hb⟩ : ∃ b t, body s.data.toList = b :: t := by
    cases hb : body s.data.toList with
    | nil => exact absurd hb h1
    | cons b t => exact ⟨b, t, rfl⟩
  · have e0 : ((⟨(body s.data.toList).toArray⟩ : ByteArray)[0]'h5) = b := by
      show (body s.data.toList)[0]'h5 = b
      simp [hb]
    simp only [e0]
    rw [hb] at ha hl
    unfold ivalid
    rw [hb, ha]
    have hbb : (((b :: t).head? != some 48)) = ((b.toNat : Int) != 48) := by
      rw [Bool.eq_iff_iff]
      simp only [List.head?_cons, bne_iff_ne, ne_eq, Option.some.injEq]
      constructor
      · intro h h'
        apply h
        apply UInt8.toNat_inj.1
        have : (48 : UInt8).toNat = 48 := rfl
        omega
      · rintro h rfl
        exact h rfl
    rw [hbb]
    simp
    intro _
    simpa using hl

set_option maxRecDepth 100000 in
set_option maxHeartbeats 4000000 in
/-- isValid -/
theorem isValid_calls (s : ByteArray) (w : World) :
    Calls Tryz.prog 78 #[.string s] w fun e w' => e = .returned (.bool (ivalid s.data.toList)) ∧ Below w.heap.size w w' := by
  go_enter Tryz.func78, Tryz.ntmps78
  go_wp2_with fail
  refine (trimPrefix_calls s _).mono ?_
  rintro e w1 ⟨rfl, hd1⟩
  have HD := Aside0.mk hd1
  clear hd1
  go_wp2_with fail
  · go_ret
    rename_i h
    exact ⟨by simp [ivalid, h], HD.out.below⟩
  · have h1 := (by assumption : ¬ body s.data.toList = [])
    have h2 := (by assumption : ((body s.data.toList).length : Int) ≤ 200)
    have hl : (body s.data.toList).length ≤ 200 := by omega
    refine (trim_calls ⟨(body s.data.toList).toArray⟩ _ (by rw [Lib.size_eq]; exact hl)).mono ?_
    rintro e w2 ⟨rfl, hb2⟩
    have HB := Aside0.mk (HD.out.below.trans (hb2.mono HD.out.below.size))
    clear hb2 HD
    simp only []
    obtain ⟨m, hm⟩ : ∃ m, Lib.trimS (body s.data.toList) digs = m := ⟨_, rfl⟩
    rw [hm]
    have HM := Aside0.mk hm
    clear hm
    go_wp2_with fail
    · go_ret
      rename_i h3
      refine ⟨?_, HB.out⟩
      rw [isValid_no h1 h2 (h3.resolve_left (by rintro (h | h); exact h1 (by simpa using h); omega)) HM.out]; rfl
    · go_ret
      rename_i h3 h4
      refine ⟨?_, HB.out⟩
      rw [Lib.toList_data] at h4
      rw [h4]; rfl
    · go_ret
      rename_i h3 h4 h5
      refine ⟨?_, HB.out⟩
      rw [isValid_yes h1 hl h3.2 HM.out h4 h5]; rfl
    · rename_i h3 h4 h5
      exact absurd (List.length_pos_iff.2 h1) h5
  · go_ret
    rename_i h1 h2
    exact ⟨by have : ¬ (body s.data.toList).length ≤ 200 := by omega
              simp [ivalid, this], HD.out.below⟩

set_option maxRecDepth 100000 in
set_option maxHeartbeats 4000000 in
/-- Valid -/
theorem valid_calls (s : ByteArray) (w : World) :
    Calls Tryz.prog 49 #[.string s] w fun e w' => e = .returned (.bool (ivalid s.data.toList)) ∧ Below w.heap.size w w' := by
  go_enter Tryz.func49, Tryz.ntmps49
  go_wp2_with fail
  refine (isValid_calls s _).mono ?_
  rintro e w1 ⟨rfl, hb⟩
  have HB := Aside0.mk hb
  clear hb
  go_wp2_with fail
  go_ret
  exact ⟨rfl, HB.out⟩

end Go.Proofs.YtnhjidbjibehpaaGreatDoor.L3

/- Layer 3, walked: parse, both. -/
namespace Go.Proofs.YtnhjidbjibehpaaGreatDoor.L3
open Go.Shelf Go.RowKit Go.Proofs.YtnhjidbjibehpaaGreatDoorW.PrintWords Go.Proofs.YtnhjidbjibehpaaGreatDoorW.PrintLast Go.Proofs.YtnhjidbjibehpaaGreatDoorW.PrintMore Yd
set_option linter.unusedVariables false
set_option linter.unusedSimpArgs false

theorem ival_sign {s : List UInt8} {x : Int} (h : ival s = some x) : neg s = decide (x < 0) := by
  rw [(ival_iff.1 h).1, itoa_isneg]
theorem digitVal_dig {b : UInt8} (h : isDig b = true) : Lib.digitVal b = some (b.toNat - 48) := by
  rw [Lib.digitVal, if_pos (isDig_iff.1 h)]
theorem decFrom_dval : ∀ (l : List UInt8) (acc : Nat), l.all isDig = true → Lib.decFrom acc l = some (l.foldl (fun a b => a * 10 + (b.toNat - 48)) acc)
  | [], _, _ => rfl
  | b :: t, acc, h => by
    rw [List.all_cons, Bool.and_eq_true] at h
    rw [Lib.decFrom, digitVal_dig h.1]
    exact decFrom_dval t _ h.2
theorem atoi_dval {l : List UInt8} (h : l.all isDig = true) (hn : l ≠ []) : Lib.atoi l = some (dval l : Int) := by
  cases l with
  | nil => exact absurd rfl hn
  | cons b t =>
    have hb := isDig_iff.1 (by rw [List.all_cons, Bool.and_eq_true] at h; exact h.1)
    have h45 : (b == 45) = false := by
      rw [beq_eq_false_iff_ne]; rintro rfl; exact absurd hb.1 (by decide)
    have h43 : (b == 43) = false := by
      rw [beq_eq_false_iff_ne]; rintro rfl; exact absurd hb.1 (by decide)
    simp [Lib.atoi, h45, h43, Lib.decNat, decFrom_dval _ _ h, dval]
theorem atoi_calls (s : ByteArray) (w : World) (h : s.data.toList.all isDig = true) (hn : s.data.toList ≠ []) (hl : s.size ≤ 4) :
    Calls Tryz.prog 135 #[.string s] w fun e w' => e = .returned (.tuple #[.int .i64 (dval s.data.toList), .nilIface]) ∧ Below w.heap.size w w' :=
  (Tryz.strconv_Atoi s _ (by omega) (atoi_dval h hn) w).mono (by
    rintro e w' ⟨rfl, t, rfl⟩
    exact ⟨rfl, bytes_below (Below.refl _ _) (Nat.le_refl _) _ _⟩)

/-- a signed number -/
def Sg (w : World) (v : Value) (x : Int) : Prop := ∃ (b : Bool) (u : Value) (n : Nat), v = .agg #[.bool b, u] ∧ Nm w u n ∧ x = if b then -(n : Int) else (n : Int)
/-- a number as parse makes it -/
def Sp (w : World) (v : Value) (x : Int) : Prop := ∃ (u : Value) (n : Nat), v = .agg #[.bool (decide (x < 0)), u] ∧ Nm w u n ∧ x = if decide (x < 0) then -(n : Int) else (n : Int)
theorem Sp.sg {w : World} {v : Value} {x : Int} (h : Sp w v x) : Sg w v x := by
  obtain ⟨u, n, h1, h2, h3⟩ := h
  exact ⟨_, u, n, h1, h2, h3⟩
theorem Sp.below {w w1 : World} {v : Value} {x : Int} (h : Sp w v x) (hb : Below w.heap.size w w1) : Sp w1 v x := by
  obtain ⟨u, n, h1, h2, h3⟩ := h
  exact ⟨u, n, h1, h2.below hb, h3⟩
theorem Sg.below {w w1 : World} {v : Value} {x : Int} (h : Sg w v x) (hb : Below w.heap.size w w1) : Sg w1 v x := by
  obtain ⟨b, u, n, h1, h2, h3⟩ := h
  exact ⟨b, u, n, h1, h2.below hb, h3⟩

theorem alloc_here (w : World) (o : Obj) : (w.alloc o).heap[w.heap.size]? = some o := Array.getElem?_push_size
theorem alloc_old (w : World) (o : Obj) {k : Nat} (h : k < w.heap.size) : (w.alloc o).heap[k]? = w.heap[k]? := ((Below.refl w.heap.size w).alloc (Nat.le_refl _) o).block k h
theorem ival_D {s : ByteArray} {x : Int} (h : ival s.data.toList = some x) : (x = if neg s.data.toList then -(dval (body s.data.toList) : Int) else (dval (body s.data.toList) : Int)) ∧
    decide ((body s.data.toList).length < s.size) = neg s.data.toList ∧ (body s.data.toList).all isDig = true ∧ (body s.data.toList).length ≤ 200 := by
  unfold ival at h
  split at h
  · rename_i hv
    obtain ⟨p1, p2, p3, p4⟩ := ivalid_parts hv
    refine ⟨(Option.some.inj h).symm, ?_, p3, p2⟩
    rw [Lib.size_eq]
    cases s.data.toList with
    | nil => rfl
    | cons a t =>
      by_cases ha : a = 45
      · simp [body, neg, ha]
      · simp [body, neg, ha]
  · cases h

theorem chunk_all {D : List UInt8} {m f : Nat} (h : D.all isDig = true) : ((D.take m).drop f).all isDig = true := by
  rw [List.all_eq_true] at h ⊢
  intro b hb
  exact h b (List.mem_of_mem_take (List.mem_of_mem_drop hb))
theorem chunk_ne {D : List UInt8} {m f : Nat} (hm : m ≤ D.length) (h0 : 0 < m) (hf : m - 4 = f) : (D.take m).drop f ≠ [] := by
  rw [← List.length_pos_iff, List.length_drop, List.length_take]; omega
/-- the state of parse's loop: the result's box, the number's box, and its groups -/
structure PSt (R B : Nat) (b : Bool) (D : List UInt8) (m : Nat) (xs : List Int) (w W : World) : Prop where
  bl : Below R w W
  rb : W.heap[R]? = some (.cells #[.bool false, .slice none 0 0] 100)
  lt : R < B
  own : ∃ v, W.heap[B]? = some (.cells #[.bool b, v] 100) ∧ W.ownsRow (B + 1) 3 1 v xs.length (nums .i64 xs)
  dig : ∀ d ∈ xs, 0 ≤ d ∧ d < 10000
  val : (dval (D.take m) : Int) * (10000 : Int) ^ xs.length + bv 10000 xs = (dval D : Int)
  len : 0 < m → m + 4 * xs.length = D.length
  xl : xs.length ≤ D.length

theorem take_extract {D : List UInt8} {m f : Nat} (hm : m ≤ D.length) (hf : m - 4 = f) : (⟨(D.take m).toArray⟩ : ByteArray).extract 0 f = ⟨(D.take f).toArray⟩ := by
  refine ba_of ?_
  rw [Lib.extract_data]
  show ((D.take m).drop 0).take (f - 0) = _
  rw [List.drop_zero, Nat.sub_zero, List.take_take, Nat.min_eq_left (by omega)]
theorem PSt.step {R B m f dc : Nat} {b : Bool} {D : List UInt8} {xs : List Int} {v v0 : Value} {w W W2 W3 : World} (h : PSt R B b D m xs w W) (ha : D.all isDig = true) (hm : m ≤ D.length) (h0 : 0 < m) (hf : m - 4 = f) (hd : dval ((D.take m).drop f) = dc)
    (h2 : Below W.heap.size W W2) (h3 : Below (B + 1) W2 W3) (hB : W3.heap[B]? = some (.cells #[.bool b, v0] 100)) (ho' : W3.ownsRow (B + 1) 3 1 v (xs.length + 1) (nums .i64 (xs ++ [(dc : Int)]))) :
    PSt R B b D f (xs ++ [(dc : Int)]) w (W3.setCell ⟨B, 1, none⟩ v) := by
  have ho : W3.ownsRow (B + 1) 3 1 v (xs ++ [(dc : Int)]).length (nums .i64 (xs ++ [(dc : Int)])) := by rw [List.length_append, List.length_singleton]; exact ho'
  have hlt : B < W.heap.size := by obtain ⟨v, hB, _⟩ := h.own; exact blk_lt hB
  have hsz : (D.take m).length = m := by rw [List.length_take]; omega
  have hWB : Below (B + 1) W W3 := (h2.mono hlt).trans h3
  have hdl : dc < 10 ^ ((D.take m).drop f).length := by rw [← hd]; exact dval_lt _ (chunk_all ha)
  have hfl : ((D.take m).drop f).length = m - f := by rw [List.length_drop, hsz]
  rw [hfl] at hdl
  have hsplit : dval (D.take m) = dval (D.take f) * 10 ^ (m - f) + dc := by
    have h1 : D.take m = D.take f ++ (D.take m).drop f := by
      have := (List.take_append_drop f (D.take m)).symm
      rwa [List.take_take, Nat.min_eq_left (by omega)] at this
    conv => lhs; rw [h1]
    rw [dval_append, hd, hfl]
  have h4 : dc < 10000 := Nat.lt_of_lt_of_le hdl (Nat.pow_le_pow_right (by omega) (show m - f ≤ 4 by omega))
  refine ⟨?_, ?_, h.lt, ⟨v, ?_, ?_⟩, ?_, ?_, ?_, ?_⟩
  · exact (h.bl.trans (hWB.mono (by have := h.lt; omega))).setCell (p := ⟨B, 1, none⟩) (by show R ≤ B; exact Nat.le_of_lt h.lt) _
  · exact blk_far ((hWB.block R (by have := h.lt; omega)).trans h.rb) (p := ⟨B, 1, none⟩) (by show R ≠ B; have := h.lt; omega) _
  · exact blk_set hB 1 v
  · exact own_setCell ho (p := ⟨B, 1, none⟩) (by intro e; have := own_base ho _ e.symm; simp at this; omega) _
  · intro d hd'
    rw [List.mem_append] at hd'
    rcases hd' with hd' | hd'
    · exact h.dig d hd'
    · rw [List.mem_singleton] at hd'; omega
  · have hv := h.val
    rw [bv_snoc, List.length_append, List.length_singleton, Int.pow_succ]
    by_cases h5 : 4 ≤ m
    · rw [hsplit, show m - f = 4 by omega] at hv
      rw [← hv, show (10 : Nat) ^ 4 = 10000 from rfl, Int.natCast_add, Int.natCast_mul]
      generalize (10000 : Int) ^ xs.length = p
      generalize (dval (D.take f) : Int) = q
      rw [show ((10000 : Nat) : Int) = 10000 from rfl, Int.add_mul, Int.mul_assoc q, Int.mul_comm p 10000]
      omega
    · have hf0 : f = 0 := by omega
      subst hf0
      rw [hsplit] at hv
      rw [← hv]
      simp [dval]
      omega
  · intro h6
    have := h.len h0
    rw [List.length_append, List.length_singleton]
    omega
  · have := h.len h0
    rw [List.length_append, List.length_singleton]
    omega
theorem Nm.setPair {W : World} {B i : Nat} {ty : TypeId} {b0 : Bool} {A0 : Option Addr} {l0 c0 : Nat} {v : Value} {n : Nat} (h : Nm W v n) (hb : W.heap[B]? = some (.cells #[.bool b0, .slice A0 l0 c0] ty)) (u : Value) : Nm (W.setCell ⟨B, i, none⟩ u) v n := by
  obtain ⟨A, c, e, hc, h1, h2, h3⟩ := h
  refine ⟨A, c, e, hc, h1, h2, fun hn => ?_⟩
  obtain ⟨ad, e', hcell⟩ := h3 hn
  refine ⟨ad, e', fun j hj => ?_⟩
  rw [World.cell?_of_block (w := W)]
  · exact hcell j hj
  · apply Below.heap_setCell
    intro hB
    have hx := hcell j hj
    unfold World.cell? at hx
    rw [show (ad.add j).block = B from hB, hb] at hx
    simp only at hx
    split at hx
    · cases hx
    · generalize (ad.add j).off = o at hx
      match o with
      | 0 => simp at hx
      | 1 => simp at hx
      | o + 2 => simp at hx
theorem parse_end {R B : Nat} {b : Bool} {D : List UInt8} {xs : List Int} {x : Int} {w W W4 : World} {A3 A4 : Option Addr} {l3 c3 l4 c4 : Nat} (h : PSt R B b D 0 xs w W) (hw : R = w.heap.size) (hx : x = if b = true then -(dval D : Int) else (dval D : Int)) (hxl : xs.length ≤ 200) (hbx : b = decide (x < 0))
    (h4 : Below W.heap.size W W4) (hB : W4.heap[B]? = some (.cells #[.bool b, .slice A3 l3 c3] 100)) (hn : Ls W4 (.slice A4 l4 c4) (trimL xs)) :
    Sp (((W4.setCell ⟨B, 1, none⟩ (.slice A4 l4 c4)).setCell ⟨R, 0, none⟩ (.bool b)).setCell ⟨R, 1, none⟩ (.slice A4 l4 c4)) (.agg #[.bool b, .slice A4 l4 c4]) x ∧
    Below w.heap.size w (((W4.setCell ⟨B, 1, none⟩ (.slice A4 l4 c4)).setCell ⟨R, 0, none⟩ (.bool b)).setCell ⟨R, 1, none⟩ (.slice A4 l4 c4)) ∧
    (((W4.setCell ⟨B, 1, none⟩ (.slice A4 l4 c4)).setCell ⟨R, 0, none⟩ (.bool b)).setCell ⟨R, 1, none⟩ (.slice A4 l4 c4)).heap[R]? = some (.cells #[.bool b, .slice A4 l4 c4] 100) := by
  have hv := h.val
  simp [dval] at hv
  have hnm : Nm W4 (.slice A4 l4 c4) (dval D) := by
    rw [trimL_num h.dig hv] at hn; exact hn
  have hR : W4.heap[R]? = some (.cells #[.bool false, .slice none 0 0] 100) := (h4.block _ (blk_lt h.rb)).trans h.rb
  have hlt := h.lt
  subst hw
  refine ⟨⟨_, dval D, by rw [hbx], ?_, by rw [← hbx]; exact hx⟩, ?_, blk_set (blk_set (blk_far hR (p := ⟨B, 1, none⟩) (by show w.heap.size ≠ B; omega) (.slice A4 l4 c4)) 0 (.bool b)) 1 _⟩
  · have n1 := Nm.setPair (i := 1) hnm hB (.slice A4 l4 c4)
    have r1 := blk_far hR (p := ⟨B, 1, none⟩) (by show w.heap.size ≠ B; omega) (.slice A4 l4 c4)
    have n2 := Nm.setPair (i := 0) n1 r1 (.bool b)
    have r2 := blk_set r1 0 (.bool b)
    exact Nm.setPair (i := 1) n2 r2 _
  · have hsz := h.bl.size
    exact (((h.bl.trans (h4.mono h.bl.size)).setCell (p := ⟨B, 1, none⟩) (by show w.heap.size ≤ B; omega) _).setCell (p := ⟨w.heap.size, 0, none⟩) (Nat.le_refl _) _).setCell (p := ⟨w.heap.size, 1, none⟩) (Nat.le_refl _) _

set_option maxRecDepth 100000 in
set_option maxHeartbeats 4000000 in
/-- parse -/
theorem parse_calls (s : ByteArray) (x : Int) (w : World) (h : ival s.data.toList = some x) :
    Calls Tryz.prog 104 #[.string s] w fun e w' => ∃ v, e = .returned v ∧ Sp w' v x ∧ Below w.heap.size w w' := by
  have HSG := Aside0.mk (ival_sign h)
  go_enter Tryz.func104, Tryz.ntmps104
  go_wp2_with fail
  refine (trimPrefix_calls s _).mono ?_
  rintro e w1 ⟨rfl, hd1⟩
  have HD := Aside0.mk hd1
  clear hd1
  have h1 : Below w.heap.size w w1 := below_then ((Below.refl _ w).alloc (Nat.le_refl _) _) (by simp) HD.out.below
  have h2 : w1.heap[w.heap.size]? = some (.cells #[.bool false, .slice none 0 0] 100) := (HD.out.below.block w.heap.size (by simp)).trans (alloc_here _ _)
  have h3 : w.heap.size < w1.heap.size := Nat.lt_of_lt_of_le (by simp) HD.out.below.size
  go_wp2_with fail
  have hD := ival_D h
  obtain ⟨D, hD0⟩ : ∃ D, body s.data.toList = D := ⟨_, rfl⟩
  rw [hD0] at hD ⊢
  obtain ⟨b, hb⟩ : ∃ b, neg s.data.toList = b := ⟨_, rfl⟩
  rw [hb] at hD
  have HSB : Aside0 (b = decide (x < 0)) := ⟨hb ▸ HSG.out⟩
  obtain ⟨hx, hneg, hall, hlen⟩ := hD
  rw [hneg]
  have HX := Aside0.mk hx
  have HAL := Aside0.mk hall
  have HLN := Aside0.mk hlen
  clear hx hall hlen hneg hD0 hb
  go_loopg [3] D.length (fun kq v3 W => ∃ (m : Nat) (xs : List Int), v3 = .string ⟨(D.take m).toArray⟩ ∧ m ≤ D.length ∧ m ≤ kq ∧ Aside0 (PSt w.heap.size w1.heap.size b D m xs w W))
  case atStart =>
    exact ⟨D.length, [], by rw [List.take_length], Nat.le_refl _, Nat.le_refl _, ⟨⟨below_then h1 (Nat.le_of_lt h3) ((Below.refl _ w1).alloc (Nat.le_refl _) _), (alloc_old _ _ h3).trans h2, h3, ⟨_, alloc_here _ _, own_nil _ _ _ _⟩, (fun _ h => by cases h), by simp [bv], fun _ => by simp, by simp⟩⟩⟩
  case round =>
    obtain ⟨m, xs, rfl, hm, hk, HP⟩ := hrel
    have hml : (D.take m).length = m := by rw [List.length_take]; omega
    by_cases hm0 : 0 < m
    · obtain ⟨v, hB, hown⟩ := HP.out.own
      have hlt : w1.heap.size < wr.heap.size := blk_lt hB
      have HO := Aside0.mk hown
      have hc0 := blk_cell hB 0
      have hc1 := blk_cell hB 1
      have hf0 := blk_frozen hB 0
      have hf1 := blk_frozen hB 1
      have b1 : decide (0 < (m : Int)) = true := decide_eq_true (by omega)
      have b1' : decide (0 < m) = true := decide_eq_true (by omega)
      have hw : wrap64 ((m : Int) - 4) = (m : Int) - 4 := IntWalk.wrap64_in _ (by have := HLN.out; omega)
      have hmx : max (0 : Int) ((m : Int) - 4) = ((m - 4 : Nat) : Int) := by omega
      have hle : (0 : Int) ≤ ((m - 4 : Nat) : Int) ∧ ((m - 4 : Nat) : Int) ≤ (m : Int) := by omega
      obtain ⟨f, hf⟩ : ∃ f, m - 4 = f := ⟨_, rfl⟩
      rw [hf] at hmx hle
      have HF := Aside0.mk hf
      have HM := Aside0.mk hm
      have HM0 := Aside0.mk hm0
      have HK := Aside0.mk hk
      clear hf hm hm0 hk
      go_wp2_with fail
      have he : (((⟨(D.take m).toArray⟩ : ByteArray).extract f m)).data.toList = (D.take m).drop f := by
        rw [Lib.extract_data]
        rw [List.take_of_length_le]
        simp; omega
      refine (atoi_calls _ _ (by rw [he]; exact chunk_all HAL.out) (by rw [he]; exact chunk_ne HM.out HM0.out HF.out) (by rw [Lib.size_eq, he]; simp; have := HF.out; omega)).mono ?_
      rintro e w2 ⟨rfl, hb2⟩
      rw [he]
      obtain ⟨dc, hdc⟩ : ∃ dc, dval ((D.take m).drop f) = dc := ⟨_, rfl⟩
      rw [hdc]
      have HDC := Aside0.mk hdc
      have hB2 := (hb2.block _ hlt).trans hB
      have HB2 := Aside0.mk hB2
      have HS2 := Aside0.mk (Nat.lt_of_lt_of_le hlt hb2.size)
      have HO2 := Aside0.mk (pw_own_below HO.out hb2)
      have HW2 := Aside0.mk hb2
      have HXL : Aside0 (xs.length ≤ 200) := ⟨Nat.le_trans HP.out.xl HLN.out⟩
      have hc1 := blk_cell hB2 1
      have hf1 := blk_frozen hB2 1
      clear hdc hB2 hb2 hB hown hc0 hf0 HO hlt
      go_wp2_with (first | ((with_reducible refine gate_builtin (b := .append) (xs := #[.tmp 31, .tmp 33]) rfl ?_); at_builtin; refine print_append_num (w0 := w2) (w1.heap.size + 1) rfl (.tmp 31) (.tmp 33) 98 3 .i64 8 rfl Tryz.underlying98 info3 (by decide) v xs dc rfl rfl HO2.out (Below.refl _ _) HS2.out (by have := HXL.out; omega) ?_; intro v3 w3 ho hb hg hat; obtain ⟨A3, c3, rfl⟩ := own_slice ho; have HO3 := Aside0.mk ho; have HB3 := Aside0.mk ((hb.block _ (Nat.lt_succ_self _)).trans HB2.out); have HW3 := Aside0.mk hb; have hc1 := blk_cell HB3.out 1; have hf1 := blk_frozen HB3.out 1; clear ho hb hg hat))
      go_roundg f
      case measure => have := HF.out; have := HM0.out; have := HK.out; omega
      case rel =>
        refine ⟨f, xs ++ [(dc : Int)], ?_, by have := HF.out; have := HM.out; omega, Nat.le_refl _, ⟨PSt.step HP.out HAL.out HM.out HM0.out HF.out HDC.out HW2.out HW3.out HB3.out (by have h := HO3.out; rw [List.length_append, List.length_singleton] at h; exact h)⟩⟩
        rw [take_extract HM.out HF.out]
    · obtain rfl : m = 0 := by omega
      obtain ⟨v, hB, hown⟩ := HP.out.own
      obtain ⟨A3, c3, rfl⟩ := own_slice hown
      have hlt : w1.heap.size < wr.heap.size := blk_lt hB
      have HO := Aside0.mk hown
      have hc0 := blk_cell hB 0
      have hc1 := blk_cell hB 1
      have hf0 := blk_frozen hB 0
      have hf1 := blk_frozen hB 1
      have b1 : decide (0 < ((0 : Nat) : Int)) = false := rfl
      have HXL : Aside0 (xs.length ≤ 200) := ⟨Nat.le_trans HP.out.xl HLN.out⟩
      have HBB := Aside0.mk hB
      have HLT := Aside0.mk hlt
      clear hB hlt
      go_wp2_with fail
      refine (trimmed_calls _ xs _ (Ls.of_own HO.out) (by have := HXL.out; omega)).mono ?_
      rintro e w4 ⟨v4, rfl, hn4, hb4⟩
      obtain ⟨A4, c4, rfl, hn4'⟩ := id hn4
      have HN4 := Aside0.mk hn4
      have hB4 := (hb4.block _ HLT.out).trans HBB.out
      have hR4 := (hb4.block _ (blk_lt HP.out.rb)).trans HP.out.rb
      have HB4 := Aside0.mk hB4
      have HR4 := Aside0.mk hR4
      have HW4 := Aside0.mk hb4
      have hc0 := blk_cell hB4 0
      have hc1 := blk_cell hB4 1
      have hf0 := blk_frozen hB4 0
      have hf1 := blk_frozen hB4 1
      have hr0 := blk_cell hR4 0
      have hr1 := blk_cell hR4 1
      have hs0 := blk_frozen hR4 0
      have hs1 := blk_frozen hR4 1
      clear hn4 hn4' hB4 hR4 hb4
      go_wp2_with fail
      have HE := Aside0.mk (parse_end HP.out rfl HX.out HXL.out HSB.out HW4.out HB4.out HN4.out)
      generalize (trimL xs).length = l4 at *
      refine bodyPost_ret (results_single rfl (.cell w.heap.size 100 #[.bool b, .slice A4 l4 c4] (0, 0) _ rfl HE.out.2.2 Tryz.underlying100 rfl (by kernel_rfl) .nil)) rfl ?_
      exact ⟨_, rfl, HE.out.1, HE.out.2.1⟩

end Go.Proofs.YtnhjidbjibehpaaGreatDoor.L3
